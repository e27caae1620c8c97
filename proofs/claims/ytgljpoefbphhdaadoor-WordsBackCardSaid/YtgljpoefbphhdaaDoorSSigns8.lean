/- A text's signs, one by one. -/
import Derived.Test.YtgljpoefbphhdaaDoorSSplit
namespace Go.Ab
set_option linter.unusedVariables false
set_option linter.unusedSimpArgs false
set_option linter.unusedSectionVars false
theorem signsN_fuel : ∀ (n m : Nat) (l : List UInt8) (cs : List Int), signsN n l = some cs → l.length ≤ m → signsN m l = some cs := by
  intro n
  induction n with
  | zero =>
    intro m l cs h hm
    cases l with
    | nil => cases m <;> exact h
    | cons b r => cases h
  | succ n ih =>
    intro m l cs h hm
    cases l with
    | nil => cases m <;> exact h
    | cons b r =>
      obtain ⟨m, rfl⟩ : ∃ q, m = q + 1 := ⟨m - 1, by simp at hm; omega⟩
      simp only [signsN] at h ⊢
      cases hs : sgn (b :: r) with
      | none => rw [hs] at h; cases h
      | some p =>
        obtain ⟨c, k⟩ := p
        rw [hs] at h
        simp only at h ⊢
        obtain ⟨ds, hds, rfl⟩ := Option.map_eq_some_iff.1 h
        obtain ⟨f0, f1, f2, f3, f4, f5⟩ := sgn_facts hs
        rw [ih m _ ds hds (by rw [List.length_drop]; omega)]
        rfl
theorem signs_cons {l : List UInt8} {c : Int} {cs : List Int} (h : signsL l = some (c :: cs)) : ∃ k, toB (putB c) = l.take k ∧ 1 ≤ k ∧ k ≤ l.length ∧ signsL (l.drop k) = some cs := by
  cases l with
  | nil => cases h
  | cons b r =>
    unfold signsL at h
    simp only [List.length_cons, signsN] at h
    cases hs : sgn (b :: r) with
    | none => rw [hs] at h; cases h
    | some p =>
      obtain ⟨d, k⟩ := p
      rw [hs] at h
      simp only at h
      obtain ⟨ds, hds, e⟩ := Option.map_eq_some_iff.1 h
      cases e
      obtain ⟨f0, f1, f2, f3, f4, f5⟩ := sgn_facts hs
      exact ⟨k, f3, f4, f5, signsN_fuel _ _ _ _ hds (Nat.le_refl _)⟩
theorem signs_len : ∀ {l : List UInt8} {cs : List Int}, signsL l = some cs → cs.length ≤ l.length
  | l, [], _ => by simp
  | l, c :: cs, h => by
    obtain ⟨k, _, h2, h3, h4⟩ := signs_cons h
    have := signs_len h4
    rw [List.length_drop] at this
    simp only [List.length_cons]; omega
def signStrs (cs : List Int) : List (List UInt8) := cs.map fun c => toB (putB c)
theorem first1_ok {l : List UInt8} {c : Int} {cs : List Int} (hs : l.length ≤ 1099511627776) (h : signsL l = some (c :: cs)) : Rt N_utf_First [.fz (.str (BB l)), .fz (.int .i64 1)] = some ([.fz (.str (BB (toB (putB c))))], []) := by
  have := first_ok (s := BB l) hs 1
  rw [this, show (BB l).data.toList = l from rfl, h]
  simp only [show Int.toNat 1 = 1 from rfl, List.take_succ_cons, List.take_zero, List.flatMap_cons, List.flatMap_nil, List.append_nil]
  rfl
theorem wsigns_loop (K : Nat) : ∀ (cs : List Int) (l : List UInt8) (acc : List (List UInt8)) (n : Nat), l.length ≤ 100000 → signsL l = some cs → cs.length < n → acc.length + cs.length ≤ 1000000 → 
    L_words_signs_1_1 Rt K true n (BB l) (cs.length : Int) (strs acc) = some (.exit 0, X_words_signs_1_1 (strs (acc ++ signStrs cs))) := by
  intro cs
  induction cs with
  | nil =>
    intro l acc n h1 h2 h3 h4
    obtain ⟨n, rfl⟩ : ∃ q, n = q + 1 := ⟨n - 1, by simp at h3; omega⟩
    rw [L_words_signs_1_1_eq, decide_eq_false (by simp), ifB_false]
    simp [signStrs]
  | cons c cs ih =>
    intro l acc n h1 h2 h3 h4
    simp only [List.length_cons] at h3 h4
    obtain ⟨n, rfl⟩ : ∃ q, n = q + 1 := ⟨n - 1, by omega⟩
    obtain ⟨k, k1, k2, k3, k4⟩ := signs_cons h2
    have hk : (toB (putB c)).length = k := by rw [k1, List.length_take]; omega
    have hl := signs_len h2
    simp only [List.length_cons] at hl
    have hw : IntKind.wrap .i64 (((cs.length + 1 : Nat) : Int) - 1) = (cs.length : Int) := by rw [wrap64 (by omega) (by omega)]; omega
    rw [L_words_signs_1_1_eq, List.length_cons, decide_eq_true (by omega), ifB_true, first1_ok (by omega) h2]
    simp only [onR_some, List.isEmpty_nil, allF_cons, allF_nil, Bool.and_true, when_true', List.getD_cons_zero, isF_fz, toF_fz, isStr_str, toStr_str, List.length_singleton, strs_len, hw]
    rw [BB_size, BB_size, hk]
    simp only [Bool.and_true, when_true', decide_eq_true (show (0 : Int) ≤ (l.length : Int) by omega), decide_eq_true (show (l.length : Int) ≤ (l.length : Int) by omega), decide_eq_true (show (0 : Int) ≤ (k : Int) by omega), decide_eq_true (show (k : Int) ≤ (l.length : Int) by omega), Int.toNat_natCast, ext_BB, LB_BB, List.take_length]
    rw [room16 (by omega), when_true']
    have := ih (l.drop k) (acc ++ [toB (putB c)]) n (by rw [List.length_drop]; omega) k4 (by omega) (by simp; omega)
    rw [strs_app] at this
    refine (show _ = L_words_signs_1_1 Rt K true n (BB (l.drop k)) (cs.length : Int) (strs acc ++ strs [toB (putB c)]) from rfl).trans (this.trans ?_)
    simp [signStrs]
/-- words.signs. -/
theorem wsigns_ok (l : List UInt8) (hs : l.length ≤ 100000) : Rt N_words_signs [.fz (.str (BB l))] = some (match signsL l with | some cs => if cs.length ≤ 4096 then [.fz (.sl (strs (signStrs cs))), .fz (.bool true)] else [.fz (.sl []), .fz (.bool false)] | none => [.fz (.sl []), .fz (.bool true)], []) := by
  refine rt_call A_words_signs rfl rfl (l.length + 2) ?_
  have hn := nsigns_ok (s := BB l) (by rw [BB_size]; omega)
  rw [show (BB l).data.toList = l from rfl] at hn
  rw [E_words_signs, hn]
  cases hv : signsL l with
  | none =>
    simp only [onR_some, onL_some, List.isEmpty_nil, allF_cons, allF_nil, Bool.and_true, Bool.true_and, when_true', List.getD_cons_zero, List.getD_cons_succ, isF_fz, toF_fz, isBool_bool, toBool_bool, isInt_int, toInt_int, isStr_str, toStr_str, isSl_sl, toSl_sl, List.length_cons, List.length_nil, List.all_cons, List.all_nil, lisFz_fz, ltoFz_fz, beq_self_eq_true, jump_true, ifB_true, ifB_false, isF_pv, isPv_pv, toV_pv, isNil_nilp, isNil_pt, isPt_pt, toAg_ag, cell_ag, isAg_ag, fits_ag, Int.toNat_natCast, Bool.not_true, Bool.not_false, fits_int, fits_bool, fits_str, fits_sl]
    rw [decide_eq_false (by simp), ifB_false, L_words_signs_1_0_eq, decide_eq_false (by simp), ifB_false, onL_some, X_words_signs_1_0_eq]
  | some cs =>
    have hl := signs_len hv
    simp only [onR_some, onL_some, List.isEmpty_nil, allF_cons, allF_nil, Bool.and_true, Bool.true_and, when_true', List.getD_cons_zero, List.getD_cons_succ, isF_fz, toF_fz, isBool_bool, toBool_bool, isInt_int, toInt_int, isStr_str, toStr_str, isSl_sl, toSl_sl, List.length_cons, List.length_nil, List.all_cons, List.all_nil, lisFz_fz, ltoFz_fz, beq_self_eq_true, jump_true, ifB_true, ifB_false, isF_pv, isPv_pv, toV_pv, isNil_nilp, isNil_pt, isPt_pt, toAg_ag, cell_ag, isAg_ag, fits_ag, Int.toNat_natCast, Bool.not_true, Bool.not_false, fits_int, fits_bool, fits_str, fits_sl]
    by_cases g : cs.length ≤ 4096
    · rw [decide_eq_false (by omega), ifB_false, if_pos g]
      cases cs with
      | nil =>
        rw [L_words_signs_1_0_eq, decide_eq_false (by simp), ifB_false, onL_some, X_words_signs_1_0_eq]
        rfl
      | cons c cs =>
        simp only [List.length_cons] at g hl
        obtain ⟨k, k1, k2, k3, k4⟩ := signs_cons hv
        have hk : (toB (putB c)).length = k := by rw [k1, List.length_take]; omega
        have hw : IntKind.wrap .i64 (((cs.length + 1 : Nat) : Int) - 1) = (cs.length : Int) := by rw [wrap64 (by omega) (by omega)]; omega
        have hg : (decide (((0 : Nat) + 1) * 16 ≤ roomy) && decide ((0 : Nat) + 1 ≤ roomy)) = true := by decide
        rw [L_words_signs_1_0_eq, List.length_cons, decide_eq_true (by omega), ifB_true, first1_ok (by omega) hv]
        simp only [onR_some, List.isEmpty_nil, allF_cons, allF_nil, Bool.and_true, when_true', List.getD_cons_zero, isF_fz, toF_fz, isStr_str, toStr_str, List.length_singleton, hg, hw]
        rw [BB_size, BB_size, hk]
        simp only [Bool.and_true, when_true', decide_eq_true (show (0 : Int) ≤ (l.length : Int) by omega), decide_eq_true (show (l.length : Int) ≤ (l.length : Int) by omega), decide_eq_true (show (0 : Int) ≤ (k : Int) by omega), decide_eq_true (show (k : Int) ≤ (l.length : Int) by omega), Int.toNat_natCast, ext_BB, LB_BB, List.take_length]
        have := wsigns_loop (l.length + 2) cs (l.drop k) [toB (putB c)] (l.length + 1) (by rw [List.length_drop]; omega) k4 (by omega) (by simp; omega)
        have e0 : strs [toB (putB c)] = [FV.str (BB (toB (putB c)))] := rfl
        rw [e0] at this
        rw [this, onL_some, X_words_signs_1_1_eq]
        rfl
    · rw [decide_eq_true (by omega), ifB_true, if_neg g]
theorem wsplit0_ok (l : List UInt8) (hs : l.length ≤ 100000) : Rt N_words_Split [.fz (.str (BB l)), .fz (.str (BB []))] = some (match signsL l with | some cs => if cs.length ≤ 4096 then [.fz (.sl (strs (signStrs cs))), .fz (.bool true)] else [.fz (.sl []), .fz (.bool false)] | none => [.fz (.sl []), .fz (.bool true)], []) := by
  refine rt_call A_words_Split rfl rfl 0 ?_
  rw [E_words_Split, BB_nil, BB_beq, decide_eq_true rfl, ifB_true, wsigns_ok l hs]
  cases signsL l with
  | none => simp only [onR_some, onL_some, List.isEmpty_nil, allF_cons, allF_nil, Bool.and_true, Bool.true_and, when_true', List.getD_cons_zero, List.getD_cons_succ, isF_fz, toF_fz, isBool_bool, toBool_bool, isInt_int, toInt_int, isStr_str, toStr_str, isSl_sl, toSl_sl, List.length_cons, List.length_nil, List.all_cons, List.all_nil, lisFz_fz, ltoFz_fz, beq_self_eq_true, jump_true, ifB_true, ifB_false, isF_pv, isPv_pv, toV_pv, isNil_nilp, isNil_pt, isPt_pt, toAg_ag, cell_ag, isAg_ag, fits_ag, Int.toNat_natCast, Bool.not_true, Bool.not_false, fits_int, fits_bool, fits_str, fits_sl]
  | some cs =>
    by_cases g : cs.length ≤ 4096
    · simp only [if_pos g, onR_some, onL_some, List.isEmpty_nil, allF_cons, allF_nil, Bool.and_true, Bool.true_and, when_true', List.getD_cons_zero, List.getD_cons_succ, isF_fz, toF_fz, isBool_bool, toBool_bool, isInt_int, toInt_int, isStr_str, toStr_str, isSl_sl, toSl_sl, List.length_cons, List.length_nil, List.all_cons, List.all_nil, lisFz_fz, ltoFz_fz, beq_self_eq_true, jump_true, ifB_true, ifB_false, isF_pv, isPv_pv, toV_pv, isNil_nilp, isNil_pt, isPt_pt, toAg_ag, cell_ag, isAg_ag, fits_ag, Int.toNat_natCast, Bool.not_true, Bool.not_false, fits_int, fits_bool, fits_str, fits_sl]
    · simp only [if_neg g, onR_some, onL_some, List.isEmpty_nil, allF_cons, allF_nil, Bool.and_true, Bool.true_and, when_true', List.getD_cons_zero, List.getD_cons_succ, isF_fz, toF_fz, isBool_bool, toBool_bool, isInt_int, toInt_int, isStr_str, toStr_str, isSl_sl, toSl_sl, List.length_cons, List.length_nil, List.all_cons, List.all_nil, lisFz_fz, ltoFz_fz, beq_self_eq_true, jump_true, ifB_true, ifB_false, isF_pv, isPv_pv, toV_pv, isNil_nilp, isNil_pt, isPt_pt, toAg_ag, cell_ag, isAg_ag, fits_ag, Int.toNat_natCast, Bool.not_true, Bool.not_false, fits_int, fits_bool, fits_str, fits_sl]
end Go.Ab
