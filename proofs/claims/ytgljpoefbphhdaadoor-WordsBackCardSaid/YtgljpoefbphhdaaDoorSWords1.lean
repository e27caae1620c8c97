/- A text split at one byte. -/
import Derived.Test.YtgljpoefbphhdaaDoorSWords0
namespace Go.Ab
set_option linter.unusedVariables false
set_option linter.unusedSimpArgs false
set_option linter.unusedSectionVars false
/-- The parts of a text between a byte's places. -/
def splitL (c : UInt8) : List UInt8 → List (List UInt8)
  | [] => [[]]
  | b :: r => if b = c then [] :: splitL c r else match splitL c r with
    | p :: ps => (b :: p) :: ps
    | [] => [[b]]
theorem splitL_ne (c : UInt8) : ∀ l, splitL c l ≠ []
  | [] => by simp [splitL]
  | b :: r => by
    unfold splitL
    split
    · simp
    · split <;> simp
theorem split_none {c : UInt8} : ∀ {l : List UInt8}, Lib.indexByte l c = -1 → splitL c l = [l]
  | [], _ => rfl
  | b :: r, h => by
    unfold Lib.indexByte at h
    by_cases g : b = c
    · rw [if_pos (by simp [g])] at h; simp at h
    · rw [if_neg (by simp [g])] at h
      by_cases g2 : Lib.indexByte r c = -1
      · unfold splitL
        rw [if_neg g, split_none g2]
      · rw [if_neg (by simp [g2])] at h
        have := Lib.indexByte_ge r c
        omega
theorem split_some {c : UInt8} : ∀ {l : List UInt8} {i : Nat}, Lib.indexByte l c = i → i < l.length ∧ splitL c l = l.take i :: splitL c (l.drop (i + 1))
  | [], i, h => by simp [Lib.indexByte] at h
  | b :: r, i, h => by
    unfold Lib.indexByte at h
    by_cases g : b = c
    · rw [if_pos (by simp [g])] at h
      obtain rfl : i = 0 := by omega
      refine ⟨by simp, ?_⟩
      conv => lhs; unfold splitL
      rw [if_pos g]
      rfl
    · rw [if_neg (by simp [g])] at h
      by_cases g2 : Lib.indexByte r c = -1
      · rw [if_pos (by simp [g2])] at h; omega
      · rw [if_neg (by simp [g2])] at h
        have h3 := Lib.indexByte_ge r c
        obtain ⟨j, rfl⟩ : ∃ j, i = j + 1 := ⟨i - 1, by omega⟩
        obtain ⟨h4, h5⟩ := split_some (c := c) (l := r) (i := j) (by omega)
        refine ⟨by simp; omega, ?_⟩
        conv => lhs; unfold splitL
        rw [if_neg g, h5]
        rfl
theorem index_lt {c : UInt8} {l : List UInt8} : Lib.indexByte l c = -1 ∨ ∃ i : Nat, Lib.indexByte l c = i ∧ i < l.length := by
  by_cases h : Lib.indexByte l c = -1
  · exact .inl h
  · have h2 := Lib.indexByte_ge l c
    have e : Lib.indexByte l c = ((Lib.indexByte l c).toNat : Nat) := by omega
    exact .inr ⟨_, e, (split_some e).1⟩

theorem lidx_ok (s : List UInt8) (c : UInt8) : Rt N_internal_stringslite_Index [.fz (.str (BB s)), .fz (.str (BB [c]))] = some ([.fz (.int .i64 (Lib.indexByte s c))], []) :=
  rt_prim (af := A_index) (p := indexQ) rfl rfl rfl
/-- strings.Cut at one byte. -/
theorem cut_ok (s : List UInt8) (c : UInt8) (hs : s.length ≤ 1099511627776) : Rt N_strings_Cut [.fz (.str (BB s)), .fz (.str (BB [c]))] = some (if Lib.indexByte s c = -1 then [.fz (.str (BB s)), .fz (.str (BB [])), .fz (.bool false)] else [.fz (.str (BB (s.take (Lib.indexByte s c).toNat))), .fz (.str (BB (s.drop ((Lib.indexByte s c).toNat + 1)))), .fz (.bool true)], []) := by
  have h : Rt N_internal_stringslite_Cut [.fz (.str (BB s)), .fz (.str (BB [c]))] = some (if Lib.indexByte s c = -1 then [.fz (.str (BB s)), .fz (.str (BB [])), .fz (.bool false)] else [.fz (.str (BB (s.take (Lib.indexByte s c).toNat))), .fz (.str (BB (s.drop ((Lib.indexByte s c).toNat + 1)))), .fz (.bool true)], []) := by
    refine rt_call A_internal_stringslite_Cut rfl rfl 0 ?_
    rw [E_internal_stringslite_Cut, lidx_ok]
    simp only [onR_some, onL_some, List.isEmpty_nil, allF_cons, allF_nil, Bool.and_true, Bool.true_and, when_true', List.getD_cons_zero, List.getD_cons_succ, isF_fz, toF_fz, isBool_bool, toBool_bool, isInt_int, toInt_int, isStr_str, toStr_str, isSl_sl, toSl_sl, List.length_cons, List.length_nil, List.all_cons, List.all_nil, lisFz_fz, ltoFz_fz, beq_self_eq_true, jump_true, ifB_true, ifB_false, isF_pv, isPv_pv, toV_pv, isNil_nilp, isNil_pt, isPt_pt, toAg_ag, cell_ag, isAg_ag, fits_ag, Int.toNat_natCast, Bool.not_true, Bool.not_false, fits_int, fits_bool, fits_str, fits_sl]
    rcases index_lt (c := c) (l := s) with h | ⟨i, h, hi⟩
    · rw [h]
      rfl
    · have e1 : (BB [c]).size = 1 := rfl
      have hw : IntKind.wrap .i64 ((i : Int) + ((1 : Nat) : Int)) = ((i + 1 : Nat) : Int) := by rw [wrap64 (by omega) (by omega)]; simp
      rw [h, e1, hw, BB_size]
      have hne : ¬ ((i : Int) = -1) := by omega
      rw [if_neg hne]
      simp only [decide_eq_true (show (i : Int) ≥ 0 by omega), ifB_true, decide_eq_true (show (0 : Int) ≤ (i : Int) by omega), decide_eq_true (show (i : Int) ≤ (s.length : Int) by omega), decide_eq_true (show (0 : Int) ≤ (s.length : Int) by omega), decide_eq_true (show (s.length : Int) ≤ (s.length : Int) by omega), decide_eq_true (show (0 : Int) ≤ ((i + 1 : Nat) : Int) by omega), decide_eq_true (show ((i + 1 : Nat) : Int) ≤ (s.length : Int) by omega), decide_eq_true (show (0 : Int) ≤ 0 by omega), Bool.and_true, when_true', Int.toNat_natCast, ext_BB, LB_BB, List.drop_zero, List.take_length]
      rfl
  refine rt_call A_strings_Cut rfl rfl 0 ?_
  rw [E_strings_Cut, h]
  split <;> simp only [onR_some, onL_some, List.isEmpty_nil, allF_cons, allF_nil, Bool.and_true, Bool.true_and, when_true', List.getD_cons_zero, List.getD_cons_succ, isF_fz, toF_fz, isBool_bool, toBool_bool, isInt_int, toInt_int, isStr_str, toStr_str, isSl_sl, toSl_sl, List.length_cons, List.length_nil, List.all_cons, List.all_nil, lisFz_fz, ltoFz_fz, beq_self_eq_true, jump_true, ifB_true, ifB_false, isF_pv, isPv_pv, toV_pv, isNil_nilp, isNil_pt, isPt_pt, toAg_ag, cell_ag, isAg_ag, fits_ag, Int.toNat_natCast, Bool.not_true, Bool.not_false, fits_int, fits_bool, fits_str, fits_sl]

theorem split_loop (c : UInt8) (K : Nat) : ∀ (n : Nat) (s : List UInt8) (acc : List (List UInt8)), s.length ≤ 1099511627776 → 0 < acc.length → acc.length ≤ 4096 → 4097 ≤ acc.length + n →
    L_words_Split_1_1 Rt K true n (BB s) (BB [c]) (acc.map fun x => .str (BB x)) = some (if acc.length + (splitL c s).length ≤ 4096 then (.ret, X_words_Split_1_0 true ((acc ++ splitL c s).map fun x => .str (BB x))) else (.exit 0, X_words_Split_1_1)) := by
  intro n
  induction n with
  | zero => intro s acc h1 h2 h3 h4; omega
  | succ n ih =>
    intro s acc h1 h2 h3 h4
    rw [L_words_Split_1_1_eq, List.length_map]
    have hne := List.length_pos_iff.2 (splitL_ne c s)
    by_cases g : acc.length < 4096
    · rw [decide_eq_true (by omega), ifB_true, cut_ok s c h1]
      have hg : (decide ((acc.length + 1) * 16 ≤ roomy) && decide (acc.length + 1 ≤ roomy)) = true := by
        have : roomy = 140737488355328 := rfl
        rw [Bool.and_eq_true, decide_eq_true_eq, decide_eq_true_eq]; omega
      rcases index_lt (c := c) (l := s) with h | ⟨i, h, hi⟩
      · rw [if_pos h, split_none h]
        simp only [onR_some, List.isEmpty_nil, allF_cons, allF_nil, Bool.and_true, when_true', List.getD_cons_zero, List.getD_cons_succ, isF_fz, toF_fz, isBool_bool, toBool_bool, isStr_str, toStr_str, List.length_singleton, hg, Bool.not_false, ifB_true]
        rw [if_pos (by omega)]
        simp only [List.map_append, List.map_cons, List.map_nil]
      · obtain ⟨_, h5⟩ := split_some h
        rw [if_neg (by omega), h]
        simp only [onR_some, List.isEmpty_nil, allF_cons, allF_nil, Bool.and_true, when_true', List.getD_cons_zero, List.getD_cons_succ, isF_fz, toF_fz, isBool_bool, toBool_bool, isStr_str, toStr_str, List.length_singleton, hg, Bool.not_true, ifB_false, Int.toNat_natCast]
        have := ih (s.drop (i + 1)) (acc ++ [s.take i]) (by rw [List.length_drop]; omega) (by simp) (by simp; omega) (by simp; omega)
        simp only [List.map_append, List.map_cons, List.map_nil] at this
        rw [this, h5]
        simp only [List.length_append, List.length_cons, List.length_nil, List.append_assoc, List.cons_append, List.nil_append, List.map_append, List.map_cons, List.map_nil]
        have : acc.length + (0 + 1) + (splitL c (s.drop (i + 1))).length = acc.length + ((splitL c (s.drop (i + 1))).length + 1) := by omega
        rw [this]
    · rw [decide_eq_false (by omega), ifB_false, if_neg (by omega)]
theorem wsplit_ok (s : List UInt8) (c : UInt8) (hs : s.length ≤ 1099511627776) : Rt N_words_Split [.fz (.str (BB s)), .fz (.str (BB [c]))] = some (if (splitL c s).length ≤ 4096 then [.fz (.sl ((splitL c s).map fun x => .str (BB x))), .fz (.bool true)] else [.fz (.sl []), .fz (.bool false)], []) := by
  refine rt_call A_words_Split rfl rfl 5000 ?_
  have hne := List.length_pos_iff.2 (splitL_ne c s)
  rw [E_words_Split, BB_nil, BB_beq, decide_eq_false (by simp), ifB_false, L_words_Split_1_0_eq, cut_ok s c hs]
  have hg : (decide (((0 : Nat) + 1) * 16 ≤ roomy) && decide ((0 : Nat) + 1 ≤ roomy)) = true := by decide
  rcases index_lt (c := c) (l := s) with h | ⟨i, h, hi⟩
  · rw [if_pos h, split_none h]
    simp only [onR_some, List.isEmpty_nil, allF_cons, allF_nil, Bool.and_true, when_true', List.getD_cons_zero, List.getD_cons_succ, isF_fz, toF_fz, isBool_bool, toBool_bool, isStr_str, toStr_str, List.length_singleton, hg, Bool.not_false, ifB_true, onL_some, X_words_Split_1_0_eq]
    rfl
  · obtain ⟨_, h5⟩ := split_some h
    rw [if_neg (by omega), h]
    simp only [onR_some, List.isEmpty_nil, allF_cons, allF_nil, Bool.and_true, when_true', List.getD_cons_zero, List.getD_cons_succ, isF_fz, toF_fz, isBool_bool, toBool_bool, isStr_str, toStr_str, List.length_singleton, hg, Bool.not_true, ifB_false, Int.toNat_natCast]
    have := split_loop c 5000 4999 (s.drop (i + 1)) [s.take i] (by rw [List.length_drop]; omega) (by simp) (by simp) (by simp)
    simp only [List.map_cons, List.map_nil] at this
    rw [this, h5]
    simp only [List.length_cons, List.length_nil, List.cons_append, List.nil_append, List.map_cons]
    have e : 0 + 1 + (splitL c (s.drop (i + 1))).length = (splitL c (s.drop (i + 1))).length + 1 := by omega
    rw [e]
    split
    · rw [onL_some, X_words_Split_1_0_eq]
    · rw [onL_some, X_words_Split_1_1_eq]
theorem lives8_ok : Rt N_law08_lives [] = some ([.fz (.bool true)], []) := by
  refine rt_call A_law08_lives rfl rfl 0 ?_
  have e1 : (⟨#[97, 44, 98, 44, 44]⟩ : ByteArray) = BB [97, 44, 98, 44, 44] := rfl
  have e2 : (⟨#[44]⟩ : ByteArray) = BB [44] := rfl
  have e3 : splitL 44 [97, 44, 98, 44, 44] = [[97], [98], [], []] := by decide
  rw [E_law08_lives, e1, e2, wsplit_ok _ _ (by decide), e3, if_pos (by decide)]
  have e5 : (⟨#[97]⟩ : ByteArray) = BB [97] := rfl
  have e6 : (⟨#[98]⟩ : ByteArray) = BB [98] := rfl
  simp only [onR_some, onL_some, List.isEmpty_nil, allF_cons, allF_nil, Bool.and_true, Bool.true_and, when_true', List.getD_cons_zero, List.getD_cons_succ, isF_fz, toF_fz, isBool_bool, toBool_bool, isInt_int, toInt_int, isStr_str, toStr_str, isSl_sl, toSl_sl, List.length_cons, List.length_nil, List.all_cons, List.all_nil, lisFz_fz, ltoFz_fz, beq_self_eq_true, jump_true, ifB_true, ifB_false, isF_pv, isPv_pv, toV_pv, isNil_nilp, isNil_pt, isPt_pt, toAg_ag, cell_ag, isAg_ag, fits_ag, Int.toNat_natCast, Bool.not_true, Bool.not_false, fits_int, fits_bool, fits_str, fits_sl, List.map_cons, List.map_nil, BB_nil, e5, e6, BB_beq, decide_true]
  rfl
end Go.Ab
