/- What utf.Quote gives, in signs; the law's fixed answer. -/
import Derived.Test.YtjmpjkalmhoomaaT
import Derived.Test.YtjmpjkalmhoomaaSQuo0
namespace Go.Ab
set_option linter.unusedVariables false
set_option linter.unusedSimpArgs false
theorem qFrom_sg {s : ByteArray} {pos : Nat} {cs : List Int} (h : SgAt s pos cs) : ∀ n, s.size ≤ pos + n → qFrom s n pos = cs.flatMap quoteB := by
  induction h with
  | nil pos h => intro n hn; rw [qFrom_end s n pos (by omega)]; rfl
  | cons pos k c cs hd h hk hk2 h0 h1 h2 hb r ih =>
    intro n hn
    obtain ⟨n, rfl⟩ : ∃ m, n = m + 1 := ⟨n - 1, by omega⟩
    simp only [qFrom]
    rw [if_pos h, hd, ih n (by omega), Int.toNat_of_nonneg h0]
    rfl
theorem quote_ok (s : ByteArray) (hs : s.size ≤ 1099511627776) : Rt N_utf_Quote [.fz (.str s)] = some (match signsL s.data.toList with | some cs => [.fz (.str (qB (34 :: (cs.flatMap quoteB ++ [34])))), .fz (.int .i64 0)] | none => [.fz (.str (⟨#[]⟩ : ByteArray)), .fz (.int .i64 7)], []) := by
  refine rt_prim (af := A_quote) (p := quoteP) rfl rfl ?_
  unfold quoteP
  simp only
  rw [show Nat.ble s.size 1099511627776 = true from Nat.ble_eq_true_of_le hs, when_true']
  cases hv : signsL s.data.toList with
  | none => rfl
  | some cs =>
    have := qFrom_sg (sgAt_start hv) s.size (by omega)
    unfold qText
    rw [this]
    rfl
theorem lives3_ok : Rt N_law03_lives [] = some ([.fz (.bool true)], []) := by
  refine rt_call A_law03_lives rfl rfl 0 ?_
  have e : signsL (⟨#[97, 34, 1]⟩ : ByteArray).data.toList = some [97, 34, 1] := by decide +kernel
  rw [E_law03_lives, quote_ok _ (by decide), e]
  have e2 : qB (34 :: (([97, 34, 1] : List Int).flatMap quoteB ++ [34])) = (⟨#[34, 97, 92, 34, 92, 117, 48, 48, 48, 49, 34]⟩ : ByteArray) := by decide +kernel
  simp only [onR_some, onL_some, List.isEmpty_nil, allF_cons, allF_nil, Bool.and_true, Bool.true_and, when_true', List.getD_cons_zero, List.getD_cons_succ, isF_fz, toF_fz, isBool_bool, toBool_bool, isInt_int, toInt_int, isStr_str, toStr_str, isSl_sl, toSl_sl, List.length_cons, List.length_nil, List.all_cons, List.all_nil, lisFz_fz, ltoFz_fz, beq_self_eq_true, jump_true, ifB_true, ifB_false, isF_pv, isPv_pv, toV_pv, isNil_nilp, isNil_pt, isPt_pt, toAg_ag, cell_ag, isAg_ag, fits_ag, Int.toNat_natCast, Bool.not_true, Bool.not_false, fits_int, fits_bool, fits_str, fits_sl, e2, bytes_beq, decide_true]
end Go.Ab
