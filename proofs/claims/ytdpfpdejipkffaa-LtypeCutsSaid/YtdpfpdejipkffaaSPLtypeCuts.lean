/- LtypeCuts: the plain law. -/
import Derived.Test.YtdpfpdejipkffaaSMayT
import Derived.Test.YtdpfpdejipkffaaSNodeR
namespace Go.Ab
open Go.Proofs
set_option linter.unusedVariables false
set_option linter.unusedSimpArgs false
theorem pure_LtypeCuts (f0 f1 f2 : FV) (h0 : WV Try.prog 40 reachBytes 59 f0) (h1 : WV Try.prog 40 reachBytes 25 f1) (h2 : WV Try.prog 40 reachBytes 9 f2) : Rt N_law25_LtypeCuts [.fz f0, .fz f1, .fz f2] = some ([.fz (.bool true)], []) := by
  obtain ⟨y0, y1, y2, rfl, _, _, hy2⟩ := int3_of (by kernel_rfl) (by kernel_rfl) h0
  obtain ⟨v, rfl, hv⟩ := ty_of (t := 25) (ts := 9) (by decide) (by kernel_rfl) (by kernel_rfl) (by kernel_rfl) (by kernel_rfl) (by kernel_rfl) (by kernel_rfl) h1
  obtain ⟨key, rfl, _⟩ := str_of (by kernel_rfl) (by kernel_rfl) h2
  obtain ⟨e, T9, L, hof, I, T⟩ := of_ok y0
  have O := I.ok
  obtain ⟨lo, hi⟩ := wf64 hy2
  have hl := lives25_ok
  obtain ⟨b, hb, hbt⟩ := may1c_ok T hv
  obtain ⟨p, hp, ep⟩ := lev_of y1 O.n1 O.n8
  have hpl : L.is (p : Int) = true := by rw [Lt.is_nat]; exact decide_eq_true hp
  have hz : L.n ≠ 0 := by have := O.n1; omega
  have r1 := raiseP_ok I v p
  have o1 := fun hm : MayT L v => of_ok' hm hv key
  have o2 := fun hm : MayT L v => of9_ok hm hv key
  have j1 := fun hm : MayT L v => join9I T O hm.ha hpl
  have bd := fun (hm : MayT L v) (hc : v.cnt ≤ 200) => hm.bd hc
  have i1 := fun (hm : MayT L v) (hd : v.Dp 3) (hc : v.cnt ≤ 200) => itemsP_ok I 2 200 (by omega) hm hd (bd hm hc)
  have i2 := fun (hm : MayT L v) (hd : v.Dp 3) (hc : v.cnt ≤ 200) => items9_ok T O 2 200 (by omega) hm hd (bd hm hc)
  have c1 := fun (hm : MayT L v) (hc : v.cnt ≤ 200) => cutP_ok I y2.toNat y2 rfl lo hi ((bd hm hc).ti (by omega)) hm
  have c2 := fun (hm : MayT L v) (hc : v.cnt ≤ 200) => cut9I_ok T O y2.toNat y2 rfl lo hi ((bd hm hc).ti (by omega)) hm
  have s0 := fun (hm : MayT L v) => tsame_ok (ofT_sm hv key)
  have s1 : ∀ (hm : MayT L v) (hd : v.Dp 3) (hc : v.cnt ≤ 200), (itemsT L 2 (.mk v.r [] [] v.r) v.us).Sm := fun hm hd hc => by
    have hbd := bd hm hc
    obtain ⟨a, ks, us, r⟩ := v
    cases hbd with
    | mk hk hu hh =>
    have := (itemsT_all O 2 200 (fun _ => True) us 0 (.mk r [] [] r) (of_plain_may hm.hr) (dp_plain 2 r) (bd_plain 0 r) fun u hu' => ⟨hm.hu u hu', hd u hu', hh u hu'⟩).2.2
    exact this.sm (by simp only [Nat.zero_add]; have := Nat.mul_le_mul hu (Nat.le_refl 200); omega)
  have s2 : (TY.mk (L.joinI v.a p) v.ks v.us v.r).Sm := by
    cases hv with
    | mk hk hu h => exact .mk hk hu h
  have s3 : ∀ (n : Nat) {w : TY}, w.Sm → (cutT L n w).Sm := by
    intro n
    induction n with
    | zero => intro w hw; rw [cut0]; exact .mk (by simp) (by simp) (fun u hu => by cases hu)
    | succ n ih =>
      intro w hw
      cases hw with
      | mk hk hu h =>
        rw [cutS]
        exact .mk hk (by rw [List.length_map]; exact hu) fun u hu' => by
          obtain ⟨q, hq, rfl⟩ := List.mem_map.1 hu'
          exact ih (h q hq)
  have t2 := tsame_ok s2
  have t3 := tsame_ok (s3 y2.toNat hv)
  obtain ⟨a, ks, us, r⟩ := v
  have hE := E_law25_LtypeCuts Rt 0 true y0 y1 y2 a (ks.map .str) (us.map TY.enc) r key
  rw [← TY.enc_mk] at hE
  refine rt_call A_law25_LtypeCuts rfl rfl 0 (hE.trans ?_)
  rw [hof]
  simp only [onR_some, onL_some, List.isEmpty_nil, allF_cons, allF_nil, Bool.and_true, Bool.true_and, when_true', List.getD_cons_zero, List.getD_cons_succ, isF_fz, toF_fz, isBool_bool, toBool_bool, isInt_int, toInt_int, isStr_str, toStr_str, isSl_sl, toSl_sl, List.length_cons, List.length_nil, List.all_cons, List.all_nil, lisFz_fz, ltoFz_fz, beq_self_eq_true, jump_true, ifB_true, ifB_false, isF_pv, isPv_pv, toV_pv, isNil_nilp, isNil_pt, isPt_pt, toAg_ag, cell_ag, isAg_ag, fits_ag, Int.toNat_natCast, Bool.not_true, Bool.not_false, fits_int, fits_bool, fits_str, fits_sl, hb]
  cases b with
  | false => simp only [onR_some, onL_some, List.isEmpty_nil, allF_cons, allF_nil, Bool.and_true, Bool.true_and, when_true', List.getD_cons_zero, List.getD_cons_succ, isF_fz, toF_fz, isBool_bool, toBool_bool, isInt_int, toInt_int, isStr_str, toStr_str, isSl_sl, toSl_sl, List.length_cons, List.length_nil, List.all_cons, List.all_nil, lisFz_fz, ltoFz_fz, beq_self_eq_true, jump_true, ifB_true, ifB_false, isF_pv, isPv_pv, toV_pv, isNil_nilp, isNil_pt, isPt_pt, toAg_ag, cell_ag, isAg_ag, fits_ag, Int.toNat_natCast, Bool.not_true, Bool.not_false, fits_int, fits_bool, fits_str, fits_sl, hl]
  | true =>
    obtain ⟨hi0, hc⟩ := hbt rfl
    have hm := isT_may _ _ hi0
    have hd := isT_dp 3 (v := .mk a ks us r) hi0 (Nat.le_refl _)
    have z0 : (!decide ((L.n : Int) = 0)) = true := by simp [hz]
    simp only [TY.a, TY.ks, TY.us, TY.r] at r1 j1 i1 i2 t2 s1
    have t1 := tsame_ok (s1 hm hd hc)
    have we : FV.ag [.int .i64 (L.joinI a p), .sl (ks.map .str), .sl (us.map TY.enc), .int .i64 r] = (TY.mk (L.joinI a p) ks us r).enc := (TY.enc_mk ..).symm
    have g0 := s0 hm
    simp only [onR_some, onL_some, List.isEmpty_nil, allF_cons, allF_nil, Bool.and_true, Bool.true_and, when_true', List.getD_cons_zero, List.getD_cons_succ, isF_fz, toF_fz, isBool_bool, toBool_bool, isInt_int, toInt_int, isStr_str, toStr_str, isSl_sl, toSl_sl, List.length_cons, List.length_nil, List.all_cons, List.all_nil, lisFz_fz, ltoFz_fz, beq_self_eq_true, jump_true, ifB_true, ifB_false, isF_pv, isPv_pv, toV_pv, isNil_nilp, isNil_pt, isPt_pt, toAg_ag, cell_ag, isAg_ag, fits_ag, Int.toNat_natCast, Bool.not_true, Bool.not_false, fits_int, fits_bool, fits_str, fits_sl, T.len, z0, ep, r1, TY.enc_fits, j1 hm, o1 hm, o2 hm, g0, i1 hm hd hc, i2 hm hd hc, t1, we, t2, c1 hm hc, c2 hm hc, t3, hl]
end Go.Ab
