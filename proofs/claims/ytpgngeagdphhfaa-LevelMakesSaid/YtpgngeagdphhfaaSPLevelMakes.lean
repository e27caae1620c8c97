/- LevelMakes: the plain law. -/
import Derived.Test.YtpgngeagdphhfaaSLev01
import Derived.Test.YtpgngeagdphhfaaSCheck
namespace Go.Ab
open Go.Proofs
set_option linter.unusedVariables false
set_option linter.unusedSimpArgs false

theorem light_ok (names : List ByteArray) (pairs : List (Int × Int)) (pp : List FV) : ∃ b, Rt N_law01_light [.fz (polE names pairs pp)] = some ([.fz (.bool b)], []) := by
  have h := E_law01_light Rt 0 true (strs names) (prs pairs) pp
  cases hd : decide (((strs names).length : Int) ≤ 20) with
  | true => exact ⟨_, rt_call A_law01_light rfl rfl 0 (h.trans (by rw [hd, ifB_true]))⟩
  | false => exact ⟨_, rt_call A_law01_light rfl rfl 0 (h.trans (by rw [hd, ifB_false]))⟩
theorem pure_LevelMakes (f0 f1 : FV) (h0 : WV Try.prog 40 140737488351232 26 f0) (h1 : WV Try.prog 40 140737488351232 9 f1) : Rt N_law01_LevelMakes [.fz f0, .fz f1] = some ([.fz (.bool true)], []) := by
  obtain ⟨names, pairs, pp, rfl, _⟩ := pol_of (tn := 9) (tp := 46) (tpp := 84) (by kernel_rfl) (by kernel_rfl) (by kernel_rfl) (by kernel_rfl) (by kernel_rfl) (by kernel_rfl) h0
  obtain ⟨s, rfl, _⟩ := str_of (by kernel_rfl) (by kernel_rfl) h1
  obtain ⟨g, hg, hn⟩ := New_two names pairs pp
  obtain ⟨b, hb⟩ := light_ok names pairs pp
  have hc := Check_ok pp hg
  have hl := lives01_ok
  have n1 := Name_ok s
  have n2 := rName_ok s
  refine rt_call A_law01_LevelMakes rfl rfl 0 ((E_law01_LevelMakes Rt 0 true _ _ _ _).trans ?_)
  unfold polE at hn hb hc
  rw [hb]
  cases b with
  | false => simp only [onR_some, onL_some, List.isEmpty_nil, allF_cons, allF_nil, Bool.and_true, Bool.true_and, when_true', List.getD_cons_zero, List.getD_cons_succ, isF_fz, toF_fz, isBool_bool, toBool_bool, isInt_int, toInt_int, isStr_str, toStr_str, isSl_sl, toSl_sl, List.length_cons, List.length_nil, List.all_cons, List.all_nil, lisFz_fz, ltoFz_fz, beq_self_eq_true, jump_true, ifB_true, ifB_false, isF_pv, isPv_pv, toV_pv, isNil_nilp, isNil_pt, isPt_pt, toAg_ag, cell_ag, isAg_ag, fits_ag, Int.toNat_natCast, Bool.not_true, Bool.not_false, fits_int, fits_bool, fits_str, fits_sl, hl]
  | true =>
    rcases hn with ⟨h0, N, hn⟩ | ⟨h0, hn⟩
    · rw [h0] at hc
      have e : (!false == ((0 : Int) == 0)) = true := rfl
      simp only [hn, hc, onR_some, onL_some, List.isEmpty_nil, allF_cons, allF_nil, Bool.and_true, Bool.true_and, when_true', List.getD_cons_zero, List.getD_cons_succ, isF_fz, toF_fz, isBool_bool, toBool_bool, isInt_int, toInt_int, isStr_str, toStr_str, isSl_sl, toSl_sl, List.length_cons, List.length_nil, List.all_cons, List.all_nil, lisFz_fz, ltoFz_fz, beq_self_eq_true, jump_true, ifB_true, ifB_false, isF_pv, isPv_pv, toV_pv, isNil_nilp, isNil_pt, isPt_pt, toAg_ag, cell_ag, isAg_ag, fits_ag, Int.toNat_natCast, Bool.not_true, Bool.not_false, fits_int, fits_bool, fits_str, fits_sl, n1, n2, hl, e, Bool.true_or]
    · have e0 : (newC names pairs g == 0) = false := by simpa using h0
      have e : ((!true) == false) = true := rfl
      simp only [hn, hc, onR_some, onL_some, List.isEmpty_nil, allF_cons, allF_nil, Bool.and_true, Bool.true_and, when_true', List.getD_cons_zero, List.getD_cons_succ, isF_fz, toF_fz, isBool_bool, toBool_bool, isInt_int, toInt_int, isStr_str, toStr_str, isSl_sl, toSl_sl, List.length_cons, List.length_nil, List.all_cons, List.all_nil, lisFz_fz, ltoFz_fz, beq_self_eq_true, jump_true, ifB_true, ifB_false, isF_pv, isPv_pv, toV_pv, isNil_nilp, isNil_pt, isPt_pt, toAg_ag, cell_ag, isAg_ag, fits_ag, Int.toNat_natCast, Bool.not_true, Bool.not_false, fits_int, fits_bool, fits_str, fits_sl, n1, n2, hl, e0, Bool.or_true]
end Go.Ab
