/- LtypePlain: the plain law. -/
import Derived.Test.YtdpfpdejipkffaaSFitP
import Derived.Test.YtdpfpdejipkffaaSMayT
import Derived.Test.YtdpfpdejipkffaaSNodeR
namespace Go.Ab
open Go.Proofs
set_option linter.unusedVariables false
set_option linter.unusedSimpArgs false
theorem pure_LtypePlain (f0 f1 f2 : FV) (h0 : WV Try.prog 40 134217728 3 f0) (h1 : WV Try.prog 40 134217728 25 f1) (h2 : WV Try.prog 40 134217728 40 f2) : Rt N_law25_LtypePlain [.fz f0, .fz f1, .fz f2] = some ([.fz (.bool true)], []) := by
  obtain ⟨kk, rfl, _⟩ := int_of (k := .i64) (by kernel_rfl) (by kernel_rfl) h0
  obtain ⟨x, rfl, hx⟩ := ty_of (t := 25) (ts := 9) (by decide) (by kernel_rfl) (by kernel_rfl) (by kernel_rfl) (by kernel_rfl) (by kernel_rfl) (by kernel_rfl) h1
  obtain ⟨v, rfl, hv⟩ := nd_of (t := 40) (ts := 9) (Nat.le_refl _) (by kernel_rfl) (by kernel_rfl) (by kernel_rfl) (by kernel_rfl) (by kernel_rfl) (by kernel_rfl) h2
  obtain ⟨e, T9, L, hof, I, T⟩ := of_ok kk
  have O := I.ok
  have hl := lives25_ok
  obtain ⟨b, hb, hbt⟩ := may1c_ok T hx
  obtain ⟨b2, hb2, _⟩ := nlight_ok hv 200 (by omega) (by omega)
  have hIs := nis9_ok T O hv
  have em : (labB L v && (rightB L v && shapeB (strip v))) = mayB L v := rfl
  rw [em] at hIs
  have n8 := O.n8
  -- the labels
  have body : mayB L v = true → isT L x 0 = true → x.cnt ≤ 200 → ∀ (j i N : Nat), i + j = L.n → j < N →
      L_law25_LtypePlain_1_0 Rt 9 true N (.pt 195 true e 0) (.sl T9) (allT L x) i x.a (x.ks.map .str) (x.us.map TY.enc) x.r v.a v.d v.k v.cc v.ss v.tt (v.is.map ND.enc) (v.ks.map .str) = some (.exit 0, X_law25_LtypePlain_1_1 (.pt 195 true e 0) x.a (x.ks.map .str) (x.us.map TY.enc) x.r) := by
    intro hm hi0 hc j
    have hmx := isT_may _ _ hi0
    have hd := isT_dp 3 (v := x) hi0 (Nat.le_refl _)
    have bd := hmx.bd hc
    obtain ⟨e1, e2⟩ := may_d O hm
    have hall := allT_lt O x
    induction j with
    | zero =>
      intro i N hij hN
      obtain ⟨N, rfl⟩ : ∃ M, N = M + 1 := ⟨N - 1, by omega⟩
      rw [L_law25_LtypePlain_1_0_eq]
      simp only [isSl_sl, toSl_sl, when_true', T.len, decide_eq_false (show ¬ ((i : Int) < (L.n : Int)) by omega), ifB_false]
    | succ j jh =>
      intro i N hij hN
      obtain ⟨N, rfl⟩ : ∃ M, N = M + 1 := ⟨N - 1, by omega⟩
      have hi : i < L.n := by omega
      have g1 := fitsP_ok I hv (.mk i [] [] i) (of_plain_may (by rw [Lt.is_nat]; exact decide_eq_true hi)) (sm_plain i)
      rw [fitsN_plain O hi hv hm] at g1
      have g2 := leqP_ok I 3 hmx (of_plain_may (r := (i : Int)) (by rw [Lt.is_nat]; exact decide_eq_true hi)) hd (dp_plain 3 i) (bd.mono (by omega)) (bd_plain _ i)
      rw [leqT_plain O hi 3 hmx hd] at g2
      have g3 := lat_Leq I v.d i
      rw [e1, Lt.leqI_nat e2 hi] at g3
      have g4 := lat_Leq I (allT L x) i
      rw [Lt.leqI_nat hall hi] at g4
      have hw : IntKind.wrap .i64 ((i : Int) + 1) = ((i + 1 : Nat) : Int) := by rw [wrap64 (by omega) (by omega)]; simp
      have z : ∀ x : Bool, (x == x) = true := fun x => by simp
      have vv : FV.ag [.int .i64 v.a, .int .i64 v.d, .int .i64 v.k, .int .i64 v.cc, .int .i64 v.ss, .str v.tt, .sl (v.is.map ND.enc), .sl (v.ks.map .str)] = v.enc := by obtain ⟨a, d, k, c, s, t, is, ks⟩ := v; exact (ND.enc_mk ..).symm
      have xx : FV.ag [.int .i64 x.a, .sl (x.ks.map .str), .sl (x.us.map TY.enc), .int .i64 x.r] = x.enc := by obtain ⟨a, ks, us, r⟩ := x; exact (TY.enc_mk ..).symm
      rw [L_law25_LtypePlain_1_0_eq]
      rw [← e1] at g3
      simp only [isSl_sl, toSl_sl, T.len, decide_eq_true (show (i : Int) < (L.n : Int) by omega), plain_ok, vv, xx, g1, g2, g3, g4, z, hw, onR_some, onL_some, List.isEmpty_nil, allF_cons, allF_nil, Bool.and_true, Bool.true_and, when_true', List.getD_cons_zero, List.getD_cons_succ, isF_fz, toF_fz, isBool_bool, toBool_bool, isInt_int, toInt_int, isStr_str, toStr_str, isSl_sl, toSl_sl, List.length_cons, List.length_nil, List.all_cons, List.all_nil, lisFz_fz, ltoFz_fz, beq_self_eq_true, jump_true, ifB_true, ifB_false, isF_pv, isPv_pv, toV_pv, isNil_nilp, isNil_pt, isPt_pt, toAg_ag, cell_ag, isAg_ag, fits_ag, Int.toNat_natCast, Bool.not_true, Bool.not_false, fits_int, fits_bool, fits_str, fits_sl]
      exact jh (i + 1) N (by omega) (by omega)
  have keys : mayB L v = true → isT L x 0 = true → x.cnt ≤ 200 → K_law25_LtypePlain_1 Rt 9 true (.exit 0) (X_law25_LtypePlain_1_1 (.pt 195 true e 0) x.a (x.ks.map .str) (x.us.map TY.enc) x.r) = some ([.fz (.bool true)], []) := by
    intro hm hi0 hc
    have hmx := isT_may _ _ hi0
    have hd := isT_dp 3 (v := x) hi0 (Nat.le_refl _)
    have bd := hmx.bd hc
    have hit := itemsP_ok I 2 200 (by omega) hmx hd bd
    have xx : FV.ag [.int .i64 x.a, .sl (x.ks.map .str), .sl (x.us.map TY.enc), .int .i64 x.r] = x.enc := by obtain ⟨a, ks, us, r⟩ := x; exact (TY.enc_mk ..).symm
    have all := itemsT_all O 2 200 (fun _ => True) x.us 0 (.mk x.r [] [] x.r) (of_plain_may hmx.hr) (dp_plain 2 x.r) (bd_plain 0 x.r) fun u hu' => ⟨hmx.hu u hu', hd u hu', by cases bd with | mk _ _ h => exact h u hu'⟩
    have hus : x.us.length ≤ 200 := by cases bd with | mk _ hu _ => exact hu
    obtain ⟨m1, m2, m3⟩ := all
    have ord := leqA_items O 2 x.us (.mk x.r [] [] x.r) (of_plain_may hmx.hr) fun u hu => hmx.hu u hu
    generalize itemsT L 2 (.mk x.r [] [] x.r) x.us = z at hit m1 m2 m3 ord
    have leq : ∀ key, Rt N_ltype_Leq [.fz (.pt 195 true e 0), .fz (ofT x key).enc, .fz z.enc] = some ([.fz (.bool true)], []) := fun key => by
      have h := leqP_ok I 2 (ofT_may hmx key) m1 (ofT_dp hd key) m2 ((ofT_bd bd key).mono (by omega)) (m3.mono (by have := Nat.mul_le_mul hus (Nat.le_refl 200); omega))
      have : leqA L 2 (ofT x key) z := by
        obtain ⟨a, ks, us, r⟩ := x
        rcases ofL_cases ks us key r with h1 | h1
        · exact ord.2 _ h1
        · show leqA L 2 (ofL ks us key r) z
          rw [h1]; exact ord.1
      rw [(leqT_iff 2 _ _).2 this] at h
      exact h
    have o := fun key => of_ok' hmx hx key
    have w0 : ∀ i : Nat, i ≤ 8 → IntKind.wrap .i64 ((i : Int) + 1) = ((i + 1 : Nat) : Int) := fun i hi => by rw [wrap64 (by omega) (by omega)]; simp
    have step : ∀ (N i : Nat) (l : List ByteArray), l.length = 4 → i < 4 → L_law25_LtypePlain_2_0 Rt 9 true (N + 1) (.pt 195 true e 0) 4 i x.a (x.ks.map .str) (x.us.map TY.enc) x.r z.enc (l.map .str) = L_law25_LtypePlain_2_0 Rt 9 true N (.pt 195 true e 0) 4 (i + 1 : Nat) x.a (x.ks.map .str) (x.us.map TY.enc) x.r z.enc (l.map .str) := fun N i l hl hi => by
      have g := getD_str' l (i := i) (by omega)
      have nb : Nat.blt i 4 = true := Nat.ble_eq_true_of_le hi
      rw [L_law25_LtypePlain_2_0_eq]
      simp only [List.length_map, hl, decide_eq_true (show (i : Int) < 4 by omega), decide_eq_true (show (i : Int) < ((4 : Nat) : Int) by omega), decide_eq_true (show (0 : Int) ≤ (i : Int) by omega), Int.toNat_natCast, nb, g, xx, o, leq, w0 i (by omega), onR_some, onL_some, List.isEmpty_nil, allF_cons, allF_nil, Bool.and_true, Bool.true_and, when_true', List.getD_cons_zero, List.getD_cons_succ, isF_fz, toF_fz, isBool_bool, toBool_bool, isInt_int, toInt_int, isStr_str, toStr_str, isSl_sl, toSl_sl, List.length_cons, List.length_nil, List.all_cons, List.all_nil, lisFz_fz, ltoFz_fz, beq_self_eq_true, jump_true, ifB_true, ifB_false, isF_pv, isPv_pv, toV_pv, isNil_nilp, isNil_pt, isPt_pt, toAg_ag, cell_ag, isAg_ag, fits_ag, Int.toNat_natCast, Bool.not_true, Bool.not_false, fits_int, fits_bool, fits_str, fits_sl]
    rw [X_law25_LtypePlain_1_1_eq, xx, hit]
    have kl : [FV.str (⟨#[]⟩ : ByteArray), FV.str (⟨#[97]⟩ : ByteArray), FV.str (⟨#[98]⟩ : ByteArray), FV.str (⟨#[122, 122]⟩ : ByteArray)] = ([⟨#[]⟩, ⟨#[97]⟩, ⟨#[98]⟩, ⟨#[122, 122]⟩] : List ByteArray).map .str := rfl
    have s4 : ∀ l : List ByteArray, L_law25_LtypePlain_2_0 Rt 9 true 5 (.pt 195 true e 0) 4 ((3 + 1 : Nat) : Int) x.a (x.ks.map .str) (x.us.map TY.enc) x.r z.enc (l.map .str) = some (.exit 2, X_law25_LtypePlain_2_1) := fun l => by
      rw [L_law25_LtypePlain_2_0_eq, show decide (((3 + 1 : Nat) : Int) < 4) = false from rfl, ifB_false]
    have s0 := step 8 0 [⟨#[]⟩, ⟨#[97]⟩, ⟨#[98]⟩, ⟨#[122, 122]⟩] rfl (by omega)
    rw [step 7 1 _ rfl (by omega), step 6 2 _ rfl (by omega), step 5 3 _ rfl (by omega), s4] at s0
    have l4 : ((([⟨#[]⟩, ⟨#[97]⟩, ⟨#[98]⟩, ⟨#[122, 122]⟩] : List ByteArray).map FV.str).length : Int) = 4 := rfl
    simp only [Int.natCast_zero] at s0
    simp only [kl, l4, TY.enc_fits, onR_some, onL_some, List.isEmpty_nil, allF_cons, allF_nil, Bool.and_true, Bool.true_and, when_true', List.getD_cons_zero, List.getD_cons_succ, isF_fz, toF_fz, isBool_bool, toBool_bool, isInt_int, toInt_int, isStr_str, toStr_str, isSl_sl, toSl_sl, List.length_cons, List.length_nil, List.all_cons, List.all_nil, lisFz_fz, ltoFz_fz, beq_self_eq_true, jump_true, ifB_true, ifB_false, isF_pv, isPv_pv, toV_pv, isNil_nilp, isNil_pt, isPt_pt, toAg_ag, cell_ag, isAg_ag, fits_ag, Int.toNat_natCast, Bool.not_true, Bool.not_false, fits_int, fits_bool, fits_str, fits_sl]
    rw [s0, onL_some, X_law25_LtypePlain_2_1_eq, hl]
    simp only [onR_some, onL_some, List.isEmpty_nil, allF_cons, allF_nil, Bool.and_true, Bool.true_and, when_true', List.getD_cons_zero, List.getD_cons_succ, isF_fz, toF_fz, isBool_bool, toBool_bool, isInt_int, toInt_int, isStr_str, toStr_str, isSl_sl, toSl_sl, List.length_cons, List.length_nil, List.all_cons, List.all_nil, lisFz_fz, ltoFz_fz, beq_self_eq_true, jump_true, ifB_true, ifB_false, isF_pv, isPv_pv, toV_pv, isNil_nilp, isNil_pt, isPt_pt, toAg_ag, cell_ag, isAg_ag, fits_ag, Int.toNat_natCast, Bool.not_true, Bool.not_false, fits_int, fits_bool, fits_str, fits_sl]
  obtain ⟨xa, xk, xu, xr⟩ := x
  obtain ⟨a, d, k, c, s, t, is, ks⟩ := v
  have hE := E_law25_LtypePlain Rt 9 true kk xa (xk.map .str) (xu.map TY.enc) xr a d k c s t (is.map ND.enc) (ks.map .str)
  rw [← ND.enc_mk, ← TY.enc_mk] at hE
  refine rt_call A_law25_LtypePlain rfl rfl 9 (hE.trans ?_)
  rw [hof]
  simp only [onR_some, onL_some, List.isEmpty_nil, allF_cons, allF_nil, Bool.and_true, Bool.true_and, when_true', List.getD_cons_zero, List.getD_cons_succ, isF_fz, toF_fz, isBool_bool, toBool_bool, isInt_int, toInt_int, isStr_str, toStr_str, isSl_sl, toSl_sl, List.length_cons, List.length_nil, List.all_cons, List.all_nil, lisFz_fz, ltoFz_fz, beq_self_eq_true, jump_true, ifB_true, ifB_false, isF_pv, isPv_pv, toV_pv, isNil_nilp, isNil_pt, isPt_pt, toAg_ag, cell_ag, isAg_ag, fits_ag, Int.toNat_natCast, Bool.not_true, Bool.not_false, fits_int, fits_bool, fits_str, fits_sl, hb]
  cases b with
  | false => simp only [onR_some, onL_some, List.isEmpty_nil, allF_cons, allF_nil, Bool.and_true, Bool.true_and, when_true', List.getD_cons_zero, List.getD_cons_succ, isF_fz, toF_fz, isBool_bool, toBool_bool, isInt_int, toInt_int, isStr_str, toStr_str, isSl_sl, toSl_sl, List.length_cons, List.length_nil, List.all_cons, List.all_nil, lisFz_fz, ltoFz_fz, beq_self_eq_true, jump_true, ifB_true, ifB_false, isF_pv, isPv_pv, toV_pv, isNil_nilp, isNil_pt, isPt_pt, toAg_ag, cell_ag, isAg_ag, fits_ag, Int.toNat_natCast, Bool.not_true, Bool.not_false, fits_int, fits_bool, fits_str, fits_sl, hl]
  | true =>
  obtain ⟨hi0, hc⟩ := hbt rfl
  simp only [onR_some, onL_some, List.isEmpty_nil, allF_cons, allF_nil, Bool.and_true, Bool.true_and, when_true', List.getD_cons_zero, List.getD_cons_succ, isF_fz, toF_fz, isBool_bool, toBool_bool, isInt_int, toInt_int, isStr_str, toStr_str, isSl_sl, toSl_sl, List.length_cons, List.length_nil, List.all_cons, List.all_nil, lisFz_fz, ltoFz_fz, beq_self_eq_true, jump_true, ifB_true, ifB_false, isF_pv, isPv_pv, toV_pv, isNil_nilp, isNil_pt, isPt_pt, toAg_ag, cell_ag, isAg_ag, fits_ag, Int.toNat_natCast, Bool.not_true, Bool.not_false, fits_int, fits_bool, fits_str, fits_sl, hb2]
  cases b2 with
  | false => simp only [onR_some, onL_some, List.isEmpty_nil, allF_cons, allF_nil, Bool.and_true, Bool.true_and, when_true', List.getD_cons_zero, List.getD_cons_succ, isF_fz, toF_fz, isBool_bool, toBool_bool, isInt_int, toInt_int, isStr_str, toStr_str, isSl_sl, toSl_sl, List.length_cons, List.length_nil, List.all_cons, List.all_nil, lisFz_fz, ltoFz_fz, beq_self_eq_true, jump_true, ifB_true, ifB_false, isF_pv, isPv_pv, toV_pv, isNil_nilp, isNil_pt, isPt_pt, toAg_ag, cell_ag, isAg_ag, fits_ag, Int.toNat_natCast, Bool.not_true, Bool.not_false, fits_int, fits_bool, fits_str, fits_sl, hl]
  | true =>
  simp only [onR_some, onL_some, List.isEmpty_nil, allF_cons, allF_nil, Bool.and_true, Bool.true_and, when_true', List.getD_cons_zero, List.getD_cons_succ, isF_fz, toF_fz, isBool_bool, toBool_bool, isInt_int, toInt_int, isStr_str, toStr_str, isSl_sl, toSl_sl, List.length_cons, List.length_nil, List.all_cons, List.all_nil, lisFz_fz, ltoFz_fz, beq_self_eq_true, jump_true, ifB_true, ifB_false, isF_pv, isPv_pv, toV_pv, isNil_nilp, isNil_pt, isPt_pt, toAg_ag, cell_ag, isAg_ag, fits_ag, Int.toNat_natCast, Bool.not_true, Bool.not_false, fits_int, fits_bool, fits_str, fits_sl, hIs]
  cases hm : mayB L (ND.mk a d k c s t is ks) with
  | false => simp only [onR_some, onL_some, List.isEmpty_nil, allF_cons, allF_nil, Bool.and_true, Bool.true_and, when_true', List.getD_cons_zero, List.getD_cons_succ, isF_fz, toF_fz, isBool_bool, toBool_bool, isInt_int, toInt_int, isStr_str, toStr_str, isSl_sl, toSl_sl, List.length_cons, List.length_nil, List.all_cons, List.all_nil, lisFz_fz, ltoFz_fz, beq_self_eq_true, jump_true, ifB_true, ifB_false, isF_pv, isPv_pv, toV_pv, isNil_nilp, isNil_pt, isPt_pt, toAg_ag, cell_ag, isAg_ag, fits_ag, Int.toNat_natCast, Bool.not_true, Bool.not_false, fits_int, fits_bool, fits_str, fits_sl, hl]
  | true =>
    have hal := (belowP_ok I hx (isT_may _ _ hi0)).2
    have bo := body hm hi0 hc L.n 0 9 (by omega) (by omega)
    have ke := keys hm hi0 hc
    simp only [TY.a, TY.ks, TY.us, TY.r, ND.a, ND.d, ND.k, ND.cc, ND.ss, ND.tt, ND.is, ND.ks, Int.natCast_zero] at bo ke
    have pn : (FV.isPt (.pt 195 true e 0) || FV.isNil (.pt 195 true e 0)) = true := rfl
    have pn2 : FV.isNil (.pt 195 true e 0) = false := rfl
    rw [TY.enc_mk] at hal
    simp only [onR_some, onL_some, List.isEmpty_nil, allF_cons, allF_nil, Bool.and_true, Bool.true_and, when_true', List.getD_cons_zero, List.getD_cons_succ, isF_fz, toF_fz, isBool_bool, toBool_bool, isInt_int, toInt_int, isStr_str, toStr_str, isSl_sl, toSl_sl, List.length_cons, List.length_nil, List.all_cons, List.all_nil, lisFz_fz, ltoFz_fz, beq_self_eq_true, jump_true, ifB_true, ifB_false, isF_pv, isPv_pv, toV_pv, isNil_nilp, isNil_pt, isPt_pt, toAg_ag, cell_ag, isAg_ag, fits_ag, Int.toNat_natCast, Bool.not_true, Bool.not_false, fits_int, fits_bool, fits_str, fits_sl, pn, pn2]
    rw [J_law25_LtypePlain_3_0_eq, hal]
    simp only [onR_some, onL_some, List.isEmpty_nil, allF_cons, allF_nil, Bool.and_true, Bool.true_and, when_true', List.getD_cons_zero, List.getD_cons_succ, isF_fz, toF_fz, isBool_bool, toBool_bool, isInt_int, toInt_int, isStr_str, toStr_str, isSl_sl, toSl_sl, List.length_cons, List.length_nil, List.all_cons, List.all_nil, lisFz_fz, ltoFz_fz, beq_self_eq_true, jump_true, ifB_true, ifB_false, isF_pv, isPv_pv, toV_pv, isNil_nilp, isNil_pt, isPt_pt, toAg_ag, cell_ag, isAg_ag, fits_ag, Int.toNat_natCast, Bool.not_true, Bool.not_false, fits_int, fits_bool, fits_str, fits_sl]
    rw [bo, onL_some, ke]
    rfl
end Go.Ab
