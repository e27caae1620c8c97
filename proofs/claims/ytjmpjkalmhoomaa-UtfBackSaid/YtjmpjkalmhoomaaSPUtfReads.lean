/- UtfReads: the plain law. -/
import Derived.Test.YtjmpjkalmhoomaaSQuoT
import Derived.Test.YtjmpjkalmhoomaaSReadB
import Derived.Test.YtjmpjkalmhoomaaSUnq3
namespace Go.Ab
open Go.Proofs
set_option linter.unusedVariables false
set_option linter.unusedSimpArgs false
theorem unq_ok (s : ByteArray) (hs : s.size ≤ 1099511627776) : Rt N_utf_Unquote [.fz (.str s)] = some ([.fz (.str (qB (unqL s.data.toList).1)), .fz (.int .i64 (unqL s.data.toList).2)], []) := by
  refine rt_prim (af := A_unquote) (p := unquoteP) rfl rfl ?_
  unfold unquoteP
  simp only
  rw [show Nat.ble s.size 1099511627776 = true from Nat.ble_eq_true_of_le hs, when_true']
  rfl
theorem pure_UtfReads (f0 : FV) (h0 : WV Try.prog 40 reachBytes 9 f0) : Rt N_law03_UtfReads [.fz f0] = some ([.fz (.bool true)], []) := by
  obtain ⟨s, rfl, hb⟩ := str_of (by kernel_rfl) (by kernel_rfl) h0
  have hl := lives3_ok
  refine rt_call A_law03_UtfReads rfl rfl 3000 ?_
  rw [E_law03_UtfReads]
  by_cases g : s.size ≤ 2000
  · rw [decide_eq_false (by omega), ifB_false, unq_ok s (by omega)]
    simp only [onR_some, onL_some, List.isEmpty_nil, allF_cons, allF_nil, Bool.and_true, Bool.true_and, when_true', List.getD_cons_zero, List.getD_cons_succ, isF_fz, toF_fz, isBool_bool, toBool_bool, isInt_int, toInt_int, isStr_str, toStr_str, isSl_sl, toSl_sl, List.length_cons, List.length_nil, List.all_cons, List.all_nil, lisFz_fz, ltoFz_fz, beq_self_eq_true, jump_true, ifB_true, ifB_false, isF_pv, isPv_pv, toV_pv, isNil_nilp, isNil_pt, isPt_pt, toAg_ag, cell_ag, isAg_ag, fits_ag, Int.toNat_natCast, Bool.not_true, Bool.not_false, fits_int, fits_bool, fits_str, fits_sl, lift (rUnq_ok s (by omega)), hl]
  · rw [decide_eq_true (by omega), ifB_true, hl]
    rfl
end Go.Ab
