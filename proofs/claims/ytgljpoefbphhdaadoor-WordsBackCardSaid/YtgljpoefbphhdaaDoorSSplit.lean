/- A text split at any other one. -/
import Derived.Test.YtgljpoefbphhdaaDoorSWords1
import Derived.Test.YtgljpoefbphhdaaDoorSSgn
import Derived.Lib.IndexBytes
namespace Go.Ab
set_option linter.unusedVariables false
set_option linter.unusedSimpArgs false
set_option linter.unusedSectionVars false
open Go.Lib (index occAt)
theorem index_occ : ∀ (s sub : List UInt8) (i : Nat), index s sub = i → occAt s sub i = true ∧ (∀ j, j < i → occAt s sub j = false) ∧ i ≤ s.length
  | [], sub, i, h => by
    unfold index at h
    split at h
    · rename_i he
      obtain rfl : i = 0 := by omega
      refine ⟨?_, fun j hj => by omega, Nat.zero_le _⟩
      have : sub = [] := List.isEmpty_iff.1 he
      subst this; rfl
    · omega
  | b :: l, sub, i, h => by
    unfold index at h
    split at h
    · rename_i he
      obtain rfl : i = 0 := by omega
      exact ⟨he, fun j hj => by omega, Nat.zero_le _⟩
    · rename_i he
      split at h
      · omega
      · obtain ⟨k, rfl⟩ : ∃ k, i = k + 1 := ⟨i - 1, by have := Lib.index_ge l sub; rename_i hne; simp at hne; omega⟩
        obtain ⟨h1, h2, h3⟩ := index_occ l sub k (by omega)
        refine ⟨h1, fun j hj => ?_, by simp; omega⟩
        cases j with
        | zero => exact Bool.eq_false_iff.2 he
        | succ j => exact h2 j (by omega)
theorem index_no : ∀ (s sub : List UInt8), index s sub = -1 ∨ ∃ i : Nat, index s sub = i := by
  intro s sub
  have := Lib.index_ge s sub
  by_cases h : index s sub = -1
  · exact .inl h
  · exact .inr ⟨(index s sub).toNat, by omega⟩
theorem occ_iff {s sub : List UInt8} {i : Nat} : occAt s sub i = decide ((s.drop i).take sub.length = sub) := by
  unfold occAt
  rw [Bool.eq_iff_iff, List.isPrefixOf_iff_prefix, decide_eq_true_eq, List.prefix_iff_eq_take]
  exact eq_comm
theorem occ_len {s sub : List UInt8} {i : Nat} (h : occAt s sub i = true) (hne : sub ≠ []) : i + sub.length ≤ s.length := by
  rw [occ_iff, decide_eq_true_eq] at h
  have := congrArg List.length h
  rw [List.length_take, List.length_drop] at this
  have h2 := List.length_pos_iff.2 hne
  omega
/-- The parts. -/
def splitG (sub : List UInt8) : Nat → List UInt8 → List (List UInt8)
  | 0, l => [l]
  | n + 1, l => if index l sub = -1 then [l] else l.take (index l sub).toNat :: splitG sub n (l.drop ((index l sub).toNat + sub.length))
theorem splitG_fuel {sub : List UInt8} (hne : sub ≠ []) : ∀ (n m : Nat) (l : List UInt8), l.length < n → l.length < m → splitG sub n l = splitG sub m l := by
  intro n
  induction n with
  | zero => intro m l h; omega
  | succ n ih =>
    intro m l h1 h2
    obtain ⟨m, rfl⟩ : ∃ q, m = q + 1 := ⟨m - 1, by omega⟩
    simp only [splitG]
    rcases index_no l sub with h | ⟨i, h⟩
    · rw [if_pos h, if_pos h]
    · have h2' := List.length_pos_iff.2 hne
      obtain ⟨o1, _, o3⟩ := index_occ l sub i h
      have o4 := occ_len o1 hne
      rw [if_neg (by omega), if_neg (by omega), h, Int.toNat_natCast, ih m _ (by rw [List.length_drop]; omega) (by rw [List.length_drop]; omega)]
def splitA (sub l : List UInt8) : List (List UInt8) := splitG sub (l.length + 1) l
theorem splitA_none {sub l : List UInt8} (h : index l sub = -1) : splitA sub l = [l] := by
  unfold splitA; simp only [splitG]; rw [if_pos h]
theorem splitA_some {sub l : List UInt8} (hne : sub ≠ []) {i : Nat} (h : index l sub = i) : splitA sub l = l.take i :: splitA sub (l.drop (i + sub.length)) := by
  have h2' := List.length_pos_iff.2 hne
  obtain ⟨o1, _, o3⟩ := index_occ l sub i h
  have o4 := occ_len o1 hne
  unfold splitA
  conv => lhs; simp only [splitG]
  rw [if_neg (by omega), h, Int.toNat_natCast]
  rw [splitG_fuel hne l.length ((l.drop (i + sub.length)).length + 1) _ (by rw [List.length_drop]; omega) (by omega)]
theorem splitA_pos (sub l : List UInt8) : 1 ≤ (splitA sub l).length := by
  unfold splitA; simp only [splitG]; split <;> simp
def strs (ps : List (List UInt8)) : List FV := ps.map fun x => .str (BB x)
theorem strs_len (ps : List (List UInt8)) : (strs ps).length = ps.length := by simp [strs]
theorem strs_app (a b : List (List UInt8)) : strs (a ++ b) = strs a ++ strs b := by simp [strs]
theorem strs_getD {ps : List (List UInt8)} {i : Nat} (h : i < ps.length) : List.getD (strs ps) i FV.nilp = .str (BB ps[i]) := by
  simp [strs, List.getD, h]
theorem idxG_ok (s sub : List UInt8) (hs : s.length < 4294967281) : Rt N_internal_stringslite_Index [.fz (.str (BB s)), .fz (.str (BB sub))] = some ([.fz (.int .i64 (index s sub))], []) := by
  refine rt_prim (af := A_index) (p := indexQ) rfl rfl ?_
  have hb : Nat.blt (BB s).size 4294967281 = true := Nat.ble_eq_true_of_le hs
  match sub with
  | [] => unfold indexQ; simp only [BB, List.toList_toArray]; exact when_go hb rfl
  | [b] => rw [Lib.index_one]; rfl
  | b :: c :: r => unfold indexQ; simp only [BB, List.toList_toArray]; exact when_go hb rfl
/-- strings.Cut. -/
theorem cutG_ok (s sub : List UInt8) (hne : sub ≠ []) (hs : s.length < 4294967281) : Rt N_strings_Cut [.fz (.str (BB s)), .fz (.str (BB sub))] = some (if index s sub = -1 then [.fz (.str (BB s)), .fz (.str (BB [])), .fz (.bool false)] else [.fz (.str (BB (s.take (index s sub).toNat))), .fz (.str (BB (s.drop ((index s sub).toNat + sub.length)))), .fz (.bool true)], []) := by
  have h : Rt N_internal_stringslite_Cut [.fz (.str (BB s)), .fz (.str (BB sub))] = some (if index s sub = -1 then [.fz (.str (BB s)), .fz (.str (BB [])), .fz (.bool false)] else [.fz (.str (BB (s.take (index s sub).toNat))), .fz (.str (BB (s.drop ((index s sub).toNat + sub.length)))), .fz (.bool true)], []) := by
    refine rt_call A_internal_stringslite_Cut rfl rfl 0 ?_
    rw [E_internal_stringslite_Cut, idxG_ok s sub hs]
    simp only [onR_some, onL_some, List.isEmpty_nil, allF_cons, allF_nil, Bool.and_true, Bool.true_and, when_true', List.getD_cons_zero, List.getD_cons_succ, isF_fz, toF_fz, isBool_bool, toBool_bool, isInt_int, toInt_int, isStr_str, toStr_str, isSl_sl, toSl_sl, List.length_cons, List.length_nil, List.all_cons, List.all_nil, lisFz_fz, ltoFz_fz, beq_self_eq_true, jump_true, ifB_true, ifB_false, isF_pv, isPv_pv, toV_pv, isNil_nilp, isNil_pt, isPt_pt, toAg_ag, cell_ag, isAg_ag, fits_ag, Int.toNat_natCast, Bool.not_true, Bool.not_false, fits_int, fits_bool, fits_str, fits_sl]
    rcases index_no s sub with h | ⟨i, h⟩
    · rw [h]
      rfl
    · obtain ⟨o1, _, o3⟩ := index_occ s sub i h
      have o4 := occ_len o1 hne
      have hw : IntKind.wrap .i64 ((i : Int) + (sub.length : Int)) = ((i + sub.length : Nat) : Int) := by rw [wrap64 (by omega) (by omega)]; simp
      rw [h, BB_size, BB_size, hw]
      have hne : ¬ ((i : Int) = -1) := by omega
      rw [if_neg hne]
      simp only [decide_eq_true (show (i : Int) ≥ 0 by omega), ifB_true, decide_eq_true (show (0 : Int) ≤ (i : Int) by omega), decide_eq_true (show (i : Int) ≤ (s.length : Int) by omega), decide_eq_true (show (0 : Int) ≤ (s.length : Int) by omega), decide_eq_true (show (s.length : Int) ≤ (s.length : Int) by omega), decide_eq_true (show (0 : Int) ≤ ((i + sub.length : Nat) : Int) by omega), decide_eq_true (show ((i + sub.length : Nat) : Int) ≤ (s.length : Int) by omega), decide_eq_true (show (0 : Int) ≤ 0 by omega), Bool.and_true, when_true', Int.toNat_natCast, ext_BB, LB_BB, List.drop_zero, List.take_length]
      rfl
  refine rt_call A_strings_Cut rfl rfl 0 ?_
  rw [E_strings_Cut, h]
  split <;> simp only [onR_some, onL_some, List.isEmpty_nil, allF_cons, allF_nil, Bool.and_true, Bool.true_and, when_true', List.getD_cons_zero, List.getD_cons_succ, isF_fz, toF_fz, isBool_bool, toBool_bool, isInt_int, toInt_int, isStr_str, toStr_str, isSl_sl, toSl_sl, List.length_cons, List.length_nil, List.all_cons, List.all_nil, lisFz_fz, ltoFz_fz, beq_self_eq_true, jump_true, ifB_true, ifB_false, isF_pv, isPv_pv, toV_pv, isNil_nilp, isNil_pt, isPt_pt, toAg_ag, cell_ag, isAg_ag, fits_ag, Int.toNat_natCast, Bool.not_true, Bool.not_false, fits_int, fits_bool, fits_str, fits_sl]
theorem room16 {n : Nat} (h : n ≤ 1000000) : (decide (n * 16 ≤ roomy) && decide (n ≤ roomy)) = true := by
  have : roomy = 140737488355328 := rfl
  rw [Bool.and_eq_true, decide_eq_true_eq, decide_eq_true_eq]; omega
theorem splitG_loop (sub : List UInt8) (hne : sub ≠ []) (K : Nat) : ∀ (n : Nat) (s : List UInt8) (acc : List (List UInt8)), s.length < 4294967281 → 0 < acc.length → acc.length ≤ 4096 → 4097 ≤ acc.length + n →
    L_words_Split_1_1 Rt K true n (BB s) (BB sub) (strs acc) = some (if acc.length + (splitA sub s).length ≤ 4096 then (.ret, X_words_Split_1_0 true (strs (acc ++ splitA sub s))) else (.exit 0, X_words_Split_1_1)) := by
  intro n
  induction n with
  | zero => intro s acc h1 h2 h3 h4; omega
  | succ n ih =>
    intro s acc h1 h2 h3 h4
    rw [L_words_Split_1_1_eq, strs_len]
    have hpos := splitA_pos sub s
    by_cases g : acc.length < 4096
    · rw [decide_eq_true (by omega), ifB_true, cutG_ok s sub hne h1]
      have hg := room16 (n := acc.length + 1) (by omega)
      rcases index_no s sub with h | ⟨i, h⟩
      · rw [if_pos h, splitA_none h]
        simp only [onR_some, List.isEmpty_nil, allF_cons, allF_nil, Bool.and_true, when_true', List.getD_cons_zero, List.getD_cons_succ, isF_fz, toF_fz, isBool_bool, toBool_bool, isStr_str, toStr_str, List.length_singleton, hg, Bool.not_false, ifB_true]
        rw [if_pos (by omega), strs_app]
        rfl
      · have h5 := splitA_some hne h
        rw [if_neg (by omega), h]
        simp only [onR_some, List.isEmpty_nil, allF_cons, allF_nil, Bool.and_true, when_true', List.getD_cons_zero, List.getD_cons_succ, isF_fz, toF_fz, isBool_bool, toBool_bool, isStr_str, toStr_str, List.length_singleton, hg, Bool.not_true, ifB_false, Int.toNat_natCast]
        have := ih (s.drop (i + sub.length)) (acc ++ [s.take i]) (by rw [List.length_drop]; omega) (by simp) (by simp; omega) (by simp; omega)
        rw [strs_app] at this
        refine (show _ = L_words_Split_1_1 Rt K true n (BB (s.drop (i + sub.length))) (BB sub) (strs acc ++ strs [s.take i]) from rfl).trans (this.trans ?_)
        rw [h5]
        simp only [List.length_append, List.length_cons, List.length_nil, List.append_assoc, List.cons_append, List.nil_append]
        rw [show acc.length + (0 + 1) + (splitA sub (s.drop (i + sub.length))).length = acc.length + ((splitA sub (s.drop (i + sub.length))).length + 1) by omega]
    · rw [decide_eq_false (by omega), ifB_false, if_neg (by omega)]
theorem wsplitG_ok (s sub : List UInt8) (hne : sub ≠ []) (hs : s.length < 4294967281) : Rt N_words_Split [.fz (.str (BB s)), .fz (.str (BB sub))] = some (if (splitA sub s).length ≤ 4096 then [.fz (.sl (strs (splitA sub s))), .fz (.bool true)] else [.fz (.sl []), .fz (.bool false)], []) := by
  refine rt_call A_words_Split rfl rfl 5000 ?_
  rw [E_words_Split, BB_nil, BB_beq, decide_eq_false hne, ifB_false, L_words_Split_1_0_eq, cutG_ok s sub hne hs]
  have hg : (decide (((0 : Nat) + 1) * 16 ≤ roomy) && decide ((0 : Nat) + 1 ≤ roomy)) = true := by decide
  rcases index_no s sub with h | ⟨i, h⟩
  · rw [if_pos h, splitA_none h]
    simp only [onR_some, List.isEmpty_nil, allF_cons, allF_nil, Bool.and_true, when_true', List.getD_cons_zero, List.getD_cons_succ, isF_fz, toF_fz, isBool_bool, toBool_bool, isStr_str, toStr_str, List.length_singleton, hg, Bool.not_false, ifB_true, onL_some, X_words_Split_1_0_eq]
    rw [if_pos (by simp)]
    rfl
  · have h5 := splitA_some hne h
    rw [if_neg (by omega), h]
    simp only [onR_some, List.isEmpty_nil, allF_cons, allF_nil, Bool.and_true, when_true', List.getD_cons_zero, List.getD_cons_succ, isF_fz, toF_fz, isBool_bool, toBool_bool, isStr_str, toStr_str, List.length_singleton, hg, Bool.not_true, ifB_false, Int.toNat_natCast]
    have := splitG_loop sub hne 5000 4999 (s.drop (i + sub.length)) [s.take i] (by rw [List.length_drop]; omega) (by simp) (by simp) (by simp)
    have e0 : strs [s.take i] = [FV.str (BB (s.take i))] := rfl
    rw [e0] at this
    rw [this, h5]
    simp only [List.length_cons, List.length_nil, List.cons_append, List.nil_append]
    have e : 0 + 1 + (splitA sub (s.drop (i + sub.length))).length = (splitA sub (s.drop (i + sub.length))).length + 1 := by omega
    rw [e]
    split
    · rw [onL_some, X_words_Split_1_0_eq]
    · rw [onL_some, X_words_Split_1_1_eq]
end Go.Ab
