/- LtypeFits: the plain law. -/
import Derived.Test.YtdpfpdejipkffaaSTy6
import Derived.Test.YtdpfpdejipkffaaSNodeR
namespace Go.Ab
open Go.Proofs
set_option linter.unusedVariables false
set_option linter.unusedSimpArgs false
theorem may1_ok {t9 : List FV} {L : Lt} (T : IsTab t9 L) {v : TY} (hv : v.Sm) : ∃ b : Bool, Rt N_law25_may [.fz (.sl t9), .fz (.sl [v.enc])] = some ([.fz (.bool b)], []) ∧ (b = true → isT L v 0 = true) := by
  obtain ⟨b1, h1, _⟩ := tlight_ok hv 200 (by omega) (by omega)
  have h2 := ty9_ok T hv 0
  have w0 : IntKind.wrap .i64 ((0 : Int) + 1) = 1 := by rw [wrap64 (by omega) (by omega)]; rfl
  have d0 : decide ((0 : Int) < (([v.enc].length : Nat) : Int)) = true := rfl
  have d1 : decide ((1 : Int) < (([v.enc].length : Nat) : Int)) = false := rfl
  have d2 : decide ((0 : Int) < 5) = true := rfl
  have d3 : decide ((0 : Int) ≤ 0) = true := rfl
  have d4 : decide ((([v.enc].length : Nat) : Int) ≤ 4) = true := rfl
  have g0 : [v.enc].getD (0 : Int).toNat .nilp = v.enc := rfl
  cases b1 with
  | false =>
    refine ⟨false, rt_call A_law25_may rfl rfl 3 ?_, fun h => by cases h⟩
    rw [E_law25_may, L_law25_may_1_0_eq]
    simp only [d0, d2, ifB_true, jump_true]
    rw [J_law25_may_1_0_eq]
    simp only [d0, d3, g0, TY.enc_fits, h1, onR_some, List.isEmpty_nil, allF_cons, allF_nil, Bool.and_true, when_true', List.getD_cons_zero, toF_fz, isBool_bool, toBool_bool, Bool.not_true, Bool.not_false, ifB_true, ifB_false, onL_some, X_law25_may_1_1_eq]
  | true =>
    cases hq : isT L v 0 with
    | false =>
      rw [hq] at h2
      refine ⟨false, rt_call A_law25_may rfl rfl 3 ?_, fun h => by cases h⟩
      rw [E_law25_may, L_law25_may_1_0_eq]
      simp only [d0, d2, ifB_true, jump_true]
      rw [J_law25_may_1_0_eq]
      simp only [d0, d3, g0, TY.enc_fits, h1, h2, onR_some, List.isEmpty_nil, allF_cons, allF_nil, Bool.and_true, when_true', List.getD_cons_zero, toF_fz, isBool_bool, toBool_bool, Bool.not_true, Bool.not_false, ifB_true, ifB_false, onL_some, X_law25_may_1_1_eq]
    | true =>
      rw [hq] at h2
      refine ⟨true, rt_call A_law25_may rfl rfl 3 ?_, fun _ => rfl⟩
      rw [E_law25_may, L_law25_may_1_0_eq]
      simp only [d0, d2, ifB_true, jump_true]
      rw [J_law25_may_1_0_eq]
      simp only [d0, d3, g0, TY.enc_fits, h1, h2, onR_some, List.isEmpty_nil, allF_cons, allF_nil, Bool.and_true, when_true', List.getD_cons_zero, toF_fz, isBool_bool, toBool_bool, Bool.not_true, ifB_false, w0]
      rw [L_law25_may_1_0_eq]
      simp only [d1, ifB_false, onL_some, X_law25_may_1_0_eq, d4]
theorem pure_LtypeFits (f0 f1 f2 : FV) (h0 : WV Try.prog 40 134217728 3 f0) (h1 : WV Try.prog 40 134217728 25 f1) (h2 : WV Try.prog 40 134217728 40 f2) : Rt N_law25_LtypeFits [.fz f0, .fz f1, .fz f2] = some ([.fz (.bool true)], []) := by
  obtain ⟨kk, rfl, _⟩ := int_of (k := .i64) (by kernel_rfl) (by kernel_rfl) h0
  obtain ⟨x, rfl, hx⟩ := ty_of (t := 25) (ts := 9) (by decide) (by kernel_rfl) (by kernel_rfl) (by kernel_rfl) (by kernel_rfl) (by kernel_rfl) (by kernel_rfl) h1
  obtain ⟨v, rfl, hv⟩ := nd_of (t := 40) (ts := 9) (Nat.le_refl _) (by kernel_rfl) (by kernel_rfl) (by kernel_rfl) (by kernel_rfl) (by kernel_rfl) (by kernel_rfl) h2
  obtain ⟨e, T9, L, hof, I, T⟩ := of_ok kk
  have O := I.ok
  have hl := lives25_ok
  obtain ⟨b, hb, hbt⟩ := may1_ok T hx
  obtain ⟨b2, hb2, _⟩ := nlight_ok hv 200 (by omega) (by omega)
  have hIs := nis9_ok T O hv
  have em : (labB L v && (rightB L v && shapeB (strip v))) = mayB L v := rfl
  rw [em] at hIs
  have w1 := fun hm => whole9_ok T O hv hm
  have c1 := fun hm => cut9_ok T O 3 (by omega) (whole_ti L hv) (whole_may O hv hm)
  have cw := fun hm => cut_whole O hv hm 3
  have n1 : mayB L v = true → Rt N_ltype_Node [.fz (.pt 195 true e 0), .fz v.enc] = some ([.fz (leastN L 3 v).enc], []) := fun hm => by
    have hle := least_ok I hv hm 3 (by omega)
    obtain ⟨a, d, k, c, s, t, is, ks⟩ := v
    have hE := E_ltype_Node Rt 0 true e a d k c s t (is.map ND.enc) (ks.map .str)
    rw [← ND.enc_mk] at hE
    refine rt_call A_ltype_Node rfl rfl 0 (hE.trans ?_)
    have e3 : ((3 : Nat) : Int) = 3 := rfl
    rw [e3] at hle
    simp only [hle, onR_some, onL_some, List.isEmpty_nil, allF_cons, allF_nil, Bool.and_true, Bool.true_and, when_true', List.getD_cons_zero, List.getD_cons_succ, isF_fz, toF_fz, isBool_bool, toBool_bool, isInt_int, toInt_int, isStr_str, toStr_str, isSl_sl, toSl_sl, List.length_cons, List.length_nil, List.all_cons, List.all_nil, lisFz_fz, ltoFz_fz, beq_self_eq_true, jump_true, ifB_true, ifB_false, isF_pv, isPv_pv, toV_pv, isNil_nilp, isNil_pt, isPt_pt, toAg_ag, cell_ag, isAg_ag, fits_ag, Int.toNat_natCast, Bool.not_true, Bool.not_false, fits_int, fits_bool, fits_str, fits_sl, TY.enc_fits]
  have p1 := fun hm => fitsP_ok I hv x (isT_may x 0 hm) hx
  have p2 := fun hv' hm => fits9_ok T O hv hv' x (isT_may x 0 hm) hx
  have s1 := tsame_ok (least_ti L hv 3).sm
  have p3 := fun hm => fitsP_ok I hv (leastN L 3 v) (least_may O hv hm 3) (least_ti L hv 3).sm
  have f3 := fun hm => fits_least O hv hm 3
  have i3 := tyIsP_ok I (least_ti L hv 3).sm
  have t3 := fun hm => least_is O 3 hv hm 0 (by omega)
  obtain ⟨xa, xk, xu, xr⟩ := x
  obtain ⟨a, d, k, c, s, t, is, ks⟩ := v
  have hE := E_law25_LtypeFits Rt 0 true kk xa (xk.map .str) (xu.map TY.enc) xr a d k c s t (is.map ND.enc) (ks.map .str)
  rw [← ND.enc_mk, ← TY.enc_mk] at hE
  refine rt_call A_law25_LtypeFits rfl rfl 0 (hE.trans ?_)
  rw [hof]
  simp only [onR_some, onL_some, List.isEmpty_nil, allF_cons, allF_nil, Bool.and_true, Bool.true_and, when_true', List.getD_cons_zero, List.getD_cons_succ, isF_fz, toF_fz, isBool_bool, toBool_bool, isInt_int, toInt_int, isStr_str, toStr_str, isSl_sl, toSl_sl, List.length_cons, List.length_nil, List.all_cons, List.all_nil, lisFz_fz, ltoFz_fz, beq_self_eq_true, jump_true, ifB_true, ifB_false, isF_pv, isPv_pv, toV_pv, isNil_nilp, isNil_pt, isPt_pt, toAg_ag, cell_ag, isAg_ag, fits_ag, Int.toNat_natCast, Bool.not_true, Bool.not_false, fits_int, fits_bool, fits_str, fits_sl, hb]
  cases b with
  | false => simp only [onR_some, onL_some, List.isEmpty_nil, allF_cons, allF_nil, Bool.and_true, Bool.true_and, when_true', List.getD_cons_zero, List.getD_cons_succ, isF_fz, toF_fz, isBool_bool, toBool_bool, isInt_int, toInt_int, isStr_str, toStr_str, isSl_sl, toSl_sl, List.length_cons, List.length_nil, List.all_cons, List.all_nil, lisFz_fz, ltoFz_fz, beq_self_eq_true, jump_true, ifB_true, ifB_false, isF_pv, isPv_pv, toV_pv, isNil_nilp, isNil_pt, isPt_pt, toAg_ag, cell_ag, isAg_ag, fits_ag, Int.toNat_natCast, Bool.not_true, Bool.not_false, fits_int, fits_bool, fits_str, fits_sl, hl]
  | true =>
  simp only [onR_some, onL_some, List.isEmpty_nil, allF_cons, allF_nil, Bool.and_true, Bool.true_and, when_true', List.getD_cons_zero, List.getD_cons_succ, isF_fz, toF_fz, isBool_bool, toBool_bool, isInt_int, toInt_int, isStr_str, toStr_str, isSl_sl, toSl_sl, List.length_cons, List.length_nil, List.all_cons, List.all_nil, lisFz_fz, ltoFz_fz, beq_self_eq_true, jump_true, ifB_true, ifB_false, isF_pv, isPv_pv, toV_pv, isNil_nilp, isNil_pt, isPt_pt, toAg_ag, cell_ag, isAg_ag, fits_ag, Int.toNat_natCast, Bool.not_true, Bool.not_false, fits_int, fits_bool, fits_str, fits_sl, hb2]
  cases b2 with
  | false => simp only [onR_some, onL_some, List.isEmpty_nil, allF_cons, allF_nil, Bool.and_true, Bool.true_and, when_true', List.getD_cons_zero, List.getD_cons_succ, isF_fz, toF_fz, isBool_bool, toBool_bool, isInt_int, toInt_int, isStr_str, toStr_str, isSl_sl, toSl_sl, List.length_cons, List.length_nil, List.all_cons, List.all_nil, lisFz_fz, ltoFz_fz, beq_self_eq_true, jump_true, ifB_true, ifB_false, isF_pv, isPv_pv, toV_pv, isNil_nilp, isNil_pt, isPt_pt, toAg_ag, cell_ag, isAg_ag, fits_ag, Int.toNat_natCast, Bool.not_true, Bool.not_false, fits_int, fits_bool, fits_str, fits_sl, hl]
  | true =>
  simp only [onR_some, onL_some, List.isEmpty_nil, allF_cons, allF_nil, Bool.and_true, Bool.true_and, when_true', List.getD_cons_zero, List.getD_cons_succ, isF_fz, toF_fz, isBool_bool, toBool_bool, isInt_int, toInt_int, isStr_str, toStr_str, isSl_sl, toSl_sl, List.length_cons, List.length_nil, List.all_cons, List.all_nil, lisFz_fz, ltoFz_fz, beq_self_eq_true, jump_true, ifB_true, ifB_false, isF_pv, isPv_pv, toV_pv, isNil_nilp, isNil_pt, isPt_pt, toAg_ag, cell_ag, isAg_ag, fits_ag, Int.toNat_natCast, Bool.not_true, Bool.not_false, fits_int, fits_bool, fits_str, fits_sl, hIs]
  cases hm : mayB L (ND.mk a d k c s t is ks) with
  | false => simp only [onR_some, onL_some, List.isEmpty_nil, allF_cons, allF_nil, Bool.and_true, Bool.true_and, when_true', List.getD_cons_zero, List.getD_cons_succ, isF_fz, toF_fz, isBool_bool, toBool_bool, isInt_int, toInt_int, isStr_str, toStr_str, isSl_sl, toSl_sl, List.length_cons, List.length_nil, List.all_cons, List.all_nil, lisFz_fz, ltoFz_fz, beq_self_eq_true, jump_true, ifB_true, ifB_false, isF_pv, isPv_pv, toV_pv, isNil_nilp, isNil_pt, isPt_pt, toAg_ag, cell_ag, isAg_ag, fits_ag, Int.toNat_natCast, Bool.not_true, Bool.not_false, fits_int, fits_bool, fits_str, fits_sl, hl]
  | true =>
    have hm' : labB L (ND.mk a d k c s t is ks) = true := by simp only [mayB, Bool.and_eq_true] at hm; exact hm.1
    have hxt := hbt rfl
    have z : ∀ x : Bool, (x == x) = true := fun x => by simp
    have c1' := c1 hm
    rw [cw hm'] at c1'
    have e3 : ((3 : Nat) : Int) = 3 := rfl
    rw [e3] at c1'
    have p3' := p3 hm
    rw [f3 hm] at p3'
    have t3' := t3 hm
    simp only [Int.natCast_zero] at t3'
    rw [t3'] at i3
    simp only [onR_some, onL_some, List.isEmpty_nil, allF_cons, allF_nil, Bool.and_true, Bool.true_and, when_true', List.getD_cons_zero, List.getD_cons_succ, isF_fz, toF_fz, isBool_bool, toBool_bool, isInt_int, toInt_int, isStr_str, toStr_str, isSl_sl, toSl_sl, List.length_cons, List.length_nil, List.all_cons, List.all_nil, lisFz_fz, ltoFz_fz, beq_self_eq_true, jump_true, ifB_true, ifB_false, isF_pv, isPv_pv, toV_pv, isNil_nilp, isNil_pt, isPt_pt, toAg_ag, cell_ag, isAg_ag, fits_ag, Int.toNat_natCast, Bool.not_true, Bool.not_false, fits_int, fits_bool, fits_str, fits_sl]
    rw [J_law25_LtypeFits_1_0_eq]
    simp only [← ND.enc_mk, ← TY.enc_mk, w1 hm, c1', n1 hm, p1 hxt, p2 hm hxt, s1, p3', i3, hl, TY.enc_fits, z, onR_some, onL_some, List.isEmpty_nil, allF_cons, allF_nil, Bool.and_true, Bool.true_and, when_true', List.getD_cons_zero, List.getD_cons_succ, isF_fz, toF_fz, isBool_bool, toBool_bool, isInt_int, toInt_int, isStr_str, toStr_str, isSl_sl, toSl_sl, List.length_cons, List.length_nil, List.all_cons, List.all_nil, lisFz_fz, ltoFz_fz, beq_self_eq_true, jump_true, ifB_true, ifB_false, isF_pv, isPv_pv, toV_pv, isNil_nilp, isNil_pt, isPt_pt, toAg_ag, cell_ag, isAg_ag, fits_ag, Int.toNat_natCast, Bool.not_true, Bool.not_false, fits_int, fits_bool, fits_str, fits_sl]
end Go.Ab
