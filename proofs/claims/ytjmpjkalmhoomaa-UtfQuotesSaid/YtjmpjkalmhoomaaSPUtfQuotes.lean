/- UtfQuotes: the plain law. -/
import Derived.Test.YtjmpjkalmhoomaaSQuoT
import Derived.Test.YtjmpjkalmhoomaaSReadB
namespace Go.Ab
open Go.Proofs
set_option linter.unusedVariables false
set_option linter.unusedSimpArgs false
theorem pure_UtfQuotes (f0 : FV) (h0 : WV Try.prog 40 reachBytes 9 f0) : Rt N_law03_UtfQuotes [.fz f0] = some ([.fz (.bool true)], []) := by
  obtain ⟨s, rfl, hb⟩ := str_of (by kernel_rfl) (by kernel_rfl) h0
  have hl := lives3_ok
  refine rt_call A_law03_UtfQuotes rfl rfl 0 ?_
  rw [E_law03_UtfQuotes]
  by_cases g : s.size ≤ 2000
  · rw [decide_eq_false (by omega), ifB_false, quote_ok s (by omega)]
    have hsg := signs_ok s (by omega)
    cases hv : signsL s.data.toList with
    | none =>
      rw [hv] at hsg
      have hsg' := lift hsg
      simp only [onR_some, onL_some, List.isEmpty_nil, allF_cons, allF_nil, Bool.and_true, Bool.true_and, when_true', List.getD_cons_zero, List.getD_cons_succ, isF_fz, toF_fz, isBool_bool, toBool_bool, isInt_int, toInt_int, isStr_str, toStr_str, isSl_sl, toSl_sl, List.length_cons, List.length_nil, List.all_cons, List.all_nil, lisFz_fz, ltoFz_fz, beq_self_eq_true, jump_true, ifB_true, ifB_false, isF_pv, isPv_pv, toV_pv, isNil_nilp, isNil_pt, isPt_pt, toAg_ag, cell_ag, isAg_ag, fits_ag, Int.toNat_natCast, Bool.not_true, Bool.not_false, fits_int, fits_bool, fits_str, fits_sl, hsg', hl, bytes_beq]
      rfl
    | some cs =>
      rw [hv] at hsg
      have hsg' := lift hsg
      have hS := sgAt_start hv
      have hle := hS.len (Nat.zero_le _)
      have hq := lift (rquote_ok cs (by omega) hS.fine)
      simp only [onR_some, onL_some, List.isEmpty_nil, allF_cons, allF_nil, Bool.and_true, Bool.true_and, when_true', List.getD_cons_zero, List.getD_cons_succ, isF_fz, toF_fz, isBool_bool, toBool_bool, isInt_int, toInt_int, isStr_str, toStr_str, isSl_sl, toSl_sl, List.length_cons, List.length_nil, List.all_cons, List.all_nil, lisFz_fz, ltoFz_fz, beq_self_eq_true, jump_true, ifB_true, ifB_false, isF_pv, isPv_pv, toV_pv, isNil_nilp, isNil_pt, isPt_pt, toAg_ag, cell_ag, isAg_ag, fits_ag, Int.toNat_natCast, Bool.not_true, Bool.not_false, fits_int, fits_bool, fits_str, fits_sl, hsg', hl, hq, bytes_beq, decide_true]
  · rw [decide_eq_true (by omega), ifB_true, hl]
    rfl
end Go.Ab
