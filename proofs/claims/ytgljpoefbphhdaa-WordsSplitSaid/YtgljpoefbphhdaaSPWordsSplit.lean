/- WordsSplit: the plain law. -/
import Derived.Test.YtgljpoefbphhdaaSSigns8
import Derived.Test.YtgljpoefbphhdaaSReadB
namespace Go.Ab
open Go.Proofs
open Go.Lib (index occAt)
set_option linter.unusedVariables false
set_option linter.unusedSimpArgs false
set_option linter.unusedSectionVars false
section
variable (s sub : List UInt8) (hs : s.length ≤ 6000) (hsub : sub.length ≤ 100) (hne : sub ≠ [])
include hs hsub hne
/-- The last part. -/
theorem last_part (a : Nat) (ha : a ≤ s.length) (h : ∀ j, a ≤ j → j ≤ s.length → occAt s sub j = false) : splitA sub (s.drop a) = [s.drop a] := by
  refine splitA_none (Lib.index_none fun j hj => ?_)
  rw [List.length_drop] at hj
  rw [occ_drop]
  exact h _ (by omega) (by omega)
theorem next_part (a i : Nat) (ha : a ≤ i) (hi : i ≤ s.length) (h : ∀ j, a ≤ j → j < i → occAt s sub j = false) (ho : occAt s sub i = true) : splitA sub (s.drop a) = ((s.take i).drop a) :: splitA sub (s.drop (i + sub.length)) := by
  have hx : index (s.drop a) sub = ((i - a : Nat) : Int) := Lib.index_first (by rw [List.length_drop]; omega) (by rw [occ_drop, show a + (i - a) = i by omega]; exact ho) (fun j hj => by rw [occ_drop]; exact h _ (by omega) (by omega))
  rw [splitA_some hne hx, List.drop_drop, List.drop_take, show a + (i - a + sub.length) = i + sub.length by omega]
theorem want_loop1 (K : Nat) : ∀ (d a i n : Nat) (acc : List (List UInt8)), s.length + 1 ≤ i + d → d < n → a ≤ i → a ≤ s.length → acc.length ≤ a + 1 → (∀ j, a ≤ j → j < i → j ≤ s.length → occAt s sub j = false) →
    onL (L_law08_WordsSplit_2_1 Rt K true n (BB s) (BB sub) (a : Int) (i : Int) (strs acc)) (K_law08_WordsSplit_2 Rt K true) = J_law08_WordsSplit_5_1 Rt K true (BB s) (BB sub) (strs (acc ++ splitA sub (s.drop a))) := by
  intro d
  have hl0 := List.length_pos_iff.2 hne
  have fin : ∀ (a i n : Nat) (acc : List (List UInt8)), s.length + 1 ≤ i → 0 < n → a ≤ s.length → acc.length ≤ a + 1 → (∀ j, a ≤ j → j < i → j ≤ s.length → occAt s sub j = false) →
      onL (L_law08_WordsSplit_2_1 Rt K true n (BB s) (BB sub) (a : Int) (i : Int) (strs acc)) (K_law08_WordsSplit_2 Rt K true) = J_law08_WordsSplit_5_1 Rt K true (BB s) (BB sub) (strs (acc ++ splitA sub (s.drop a))) := by
    intro a i n acc h1 h2 h3 h4 h5
    obtain ⟨n, rfl⟩ : ∃ q, n = q + 1 := ⟨n - 1, by omega⟩
    rw [L_law08_WordsSplit_2_1_eq, BB_size, decide_eq_false (by omega), ifB_false, onL_some, X_law08_WordsSplit_2_1_eq, BB_size]
    simp only [decide_eq_true (show (0 : Int) ≤ (s.length : Int) by omega), decide_eq_true (show (s.length : Int) ≤ (s.length : Int) by omega), decide_eq_true (show (0 : Int) ≤ (a : Int) by omega), decide_eq_true (show (a : Int) ≤ (s.length : Int) by omega), Bool.and_true, when_true', List.length_singleton, strs_len, Int.toNat_natCast, ext_BB, LB_BB, List.take_length, jump_true]
    rw [room16 (by omega), when_true', last_part s sub hs hsub hne a h3 (fun j j1 j2 => h5 j j1 (by omega) j2), strs_app]
    rfl
  induction d with
  | zero => intro a i n acc h1 h2 h3 h4 h5 h6; exact fin a i n acc (by omega) (by omega) h4 h5 h6
  | succ d ih =>
    intro a i n acc h1 h2 h3 h4 h5 h6
    by_cases g : s.length + 1 ≤ i
    · exact fin a i n acc g (by omega) h4 h5 h6
    · obtain ⟨n, rfl⟩ : ∃ q, n = q + 1 := ⟨n - 1, by omega⟩
      have hw : IntKind.wrap .i64 ((i : Int) + (sub.length : Int)) = ((i + sub.length : Nat) : Int) := by rw [wrap64 (by omega) (by omega)]; simp
      have hw1 : IntKind.wrap .i64 ((i : Int) + 1) = ((i + 1 : Nat) : Int) := by rw [wrap64 (by omega) (by omega)]; simp
      rw [L_law08_WordsSplit_2_1_eq, BB_size, decide_eq_true (by omega), ifB_true, at_ok s sub i (by omega) (by omega) (by omega) hne]
      simp only [onR_some, List.isEmpty_nil, allF_cons, allF_nil, Bool.and_true, when_true', List.getD_cons_zero, isF_fz, toF_fz, isBool_bool, toBool_bool, BB_size, hw, hw1]
      cases ho : occAt s sub i with
      | true =>
        have o4 := occ_len ho hne
        simp only [ifB_true, decide_eq_true (show (0 : Int) ≤ (i : Int) by omega), decide_eq_true (show (i : Int) ≤ (s.length : Int) by omega), decide_eq_true (show (0 : Int) ≤ (a : Int) by omega), decide_eq_true (show (a : Int) ≤ (i : Int) by omega), Bool.and_true, when_true', List.length_singleton, strs_len, Int.toNat_natCast, ext_BB, LB_BB]
        rw [room16 (by omega), when_true']
        have := ih (i + sub.length) (i + sub.length) n (acc ++ [(s.take i).drop a]) (by omega) (by omega) (by omega) o4 (by simp; omega) (fun j j1 j2 => by omega)
        rw [strs_app] at this
        refine (show _ = onL (L_law08_WordsSplit_2_1 Rt K true n (BB s) (BB sub) ((i + sub.length : Nat) : Int) ((i + sub.length : Nat) : Int) (strs acc ++ strs [(s.take i).drop a])) (K_law08_WordsSplit_2 Rt K true) from rfl).trans (this.trans ?_)
        rw [next_part s sub hs hsub hne a i h3 (by omega) (fun j j1 j2 => h6 j j1 j2 (by omega)) ho, List.append_assoc]
        rfl
      | false =>
        rw [ifB_false]
        exact ih a (i + 1) n acc (by omega) (by omega) (by omega) h4 h5 (fun j j1 j2 j3 => by
          by_cases e : j = i
          · subst e; exact ho
          · exact h6 j j1 (by omega) j3)
theorem want_loop0 (K : Nat) : ∀ (d i n : Nat), s.length + 1 ≤ i + d → d + 1 < n → (∀ j, j < i → j ≤ s.length → occAt s sub j = false) →
    onL (L_law08_WordsSplit_2_0 Rt K true n (BB s) (BB sub) 0 (i : Int)) (K_law08_WordsSplit_2 Rt K true) = J_law08_WordsSplit_5_1 Rt K true (BB s) (BB sub) (strs (splitA sub s)) := by
  intro d
  have hl0 := List.length_pos_iff.2 hne
  have z0 : Int.toNat 0 = 0 := rfl
  have hg : (decide (((0 : Nat) + 1) * 16 ≤ roomy) && decide ((0 : Nat) + 1 ≤ roomy)) = true := by decide
  have fin : ∀ (i n : Nat), s.length + 1 ≤ i → 0 < n → (∀ j, j < i → j ≤ s.length → occAt s sub j = false) →
      onL (L_law08_WordsSplit_2_0 Rt K true n (BB s) (BB sub) 0 (i : Int)) (K_law08_WordsSplit_2 Rt K true) = J_law08_WordsSplit_5_1 Rt K true (BB s) (BB sub) (strs (splitA sub s)) := by
    intro i n h1 h2 h5
    obtain ⟨n, rfl⟩ : ∃ q, n = q + 1 := ⟨n - 1, by omega⟩
    have hl := last_part s sub hs hsub hne 0 (by omega) (fun j j1 j2 => h5 j (by omega) j2)
    rw [List.drop_zero] at hl
    rw [L_law08_WordsSplit_2_0_eq, BB_size, decide_eq_false (by omega), ifB_false, onL_some, X_law08_WordsSplit_2_0_eq, BB_size]
    simp only [decide_eq_true (show (0 : Int) ≤ (s.length : Int) by omega), decide_eq_true (show (s.length : Int) ≤ (s.length : Int) by omega), decide_eq_true (show (0 : Int) ≤ 0 by omega), Bool.and_true, when_true', List.length_singleton, z0, Int.toNat_natCast, ext_BB, LB_BB, List.take_length, List.drop_zero, jump_true, hg, hl]
    rfl
  induction d with
  | zero => intro i n h1 h2 h6; exact fin i n (by omega) (by omega) h6
  | succ d ih =>
    intro i n h1 h2 h6
    by_cases g : s.length + 1 ≤ i
    · exact fin i n g (by omega) h6
    · obtain ⟨n, rfl⟩ : ∃ q, n = q + 1 := ⟨n - 1, by omega⟩
      have hw : IntKind.wrap .i64 ((i : Int) + (sub.length : Int)) = ((i + sub.length : Nat) : Int) := by rw [wrap64 (by omega) (by omega)]; simp
      have hw1 : IntKind.wrap .i64 ((i : Int) + 1) = ((i + 1 : Nat) : Int) := by rw [wrap64 (by omega) (by omega)]; simp
      rw [L_law08_WordsSplit_2_0_eq, BB_size, decide_eq_true (by omega), ifB_true, at_ok s sub i (by omega) (by omega) (by omega) hne]
      simp only [onR_some, List.isEmpty_nil, allF_cons, allF_nil, Bool.and_true, when_true', List.getD_cons_zero, isF_fz, toF_fz, isBool_bool, toBool_bool, BB_size, hw, hw1]
      cases ho : occAt s sub i with
      | true =>
        have o4 := occ_len ho hne
        have hn := next_part s sub hs hsub hne 0 i (by omega) (by omega) (fun j j1 j2 => h6 j (by omega) (by omega)) ho
        rw [List.drop_zero, List.drop_zero] at hn
        simp only [ifB_true, decide_eq_true (show (0 : Int) ≤ (i : Int) by omega), decide_eq_true (show (i : Int) ≤ (s.length : Int) by omega), decide_eq_true (show (0 : Int) ≤ 0 by omega), Bool.and_true, when_true', List.length_singleton, z0, Int.toNat_natCast, ext_BB, LB_BB, hg, List.drop_zero]
        have := want_loop1 s sub hs hsub hne K (d + 1) (i + sub.length) (i + sub.length) n [s.take i] (by omega) (by omega) (by omega) o4 (by simp) (fun j j1 j2 => by omega)
        have e0 : strs [s.take i] = [FV.str (BB (s.take i))] := rfl
        rw [e0] at this
        rw [this, hn]
        rfl
      | false =>
        rw [ifB_false]
        exact ih (i + 1) n (by omega) (by omega) (fun j j2 j3 => by
          by_cases e : j = i
          · subst e; exact ho
          · exact h6 j (by omega) j3)
end
theorem same_loop (ps : List (List UInt8)) (hl : ps.length ≤ 100000) (K : Nat) : ∀ (d i n : Nat), i + d = ps.length → d < n → L_law08_WordsSplit_3_1 Rt K true n (.sl (strs ps)) (i : Int) (strs ps) = some (.exit 4, X_law08_WordsSplit_3_0) := by
  intro d
  induction d with
  | zero =>
    intro i n h1 h2
    obtain ⟨n, rfl⟩ : ∃ q, n = q + 1 := ⟨n - 1, by omega⟩
    rw [L_law08_WordsSplit_3_1_eq, isSl_sl, when_true', toSl_sl, strs_len, decide_eq_false (by omega), ifB_false]
  | succ d ih =>
    intro i n h1 h2
    obtain ⟨n, rfl⟩ : ∃ q, n = q + 1 := ⟨n - 1, by omega⟩
    have hi : i < ps.length := by omega
    have hw1 : IntKind.wrap .i64 ((i : Int) + 1) = ((i + 1 : Nat) : Int) := by rw [wrap64 (by omega) (by omega)]; simp
    rw [L_law08_WordsSplit_3_1_eq]
    simp only [isSl_sl, toSl_sl, strs_len, decide_eq_true (show (i : Int) < (ps.length : Int) by omega), decide_eq_true (show (0 : Int) ≤ (i : Int) by omega), Bool.and_true, when_true', ifB_true, Int.toNat_natCast, strs_getD hi, fits_str, isStr_str, toStr_str, BB_beq, decide_true, Bool.not_true, ifB_false, hw1]
    rw [show Nat.blt i ps.length = true from Nat.ble_eq_true_of_le hi, when_true']
    exact ih (i + 1) n (by omega) (by omega)
/-- What is compared behind the wanted parts. -/
theorem behindW_ok (K : Nat) (hK : 10000 ≤ K) (s sub : List UInt8) (ps : List (List UInt8)) (hps : ps.length ≤ 9000) (h : Rt N_words_Split [.fz (.str (BB s)), .fz (.str (BB sub))] = some (if ps.length ≤ 4096 then [.fz (.sl (strs ps)), .fz (.bool true)] else [.fz (.sl []), .fz (.bool false)], [])) : J_law08_WordsSplit_5_1 Rt K true (BB s) (BB sub) (strs ps) = some ([.fz (.bool true)], []) := by
  have hl8 := lives8_ok
  rw [J_law08_WordsSplit_5_1_eq, h, strs_len]
  by_cases g : ps.length ≤ 4096
  · have hsl := same_loop ps (by omega) K ps.length 0 K (by omega) (by omega)
    rw [Int.natCast_zero] at hsl
    have e2 : (((ps.length : Nat) : Int) != ((ps.length : Nat) : Int)) = false := by simp
    simp only [if_pos g, onR_some, onL_some, List.isEmpty_nil, allF_cons, allF_nil, Bool.and_true, Bool.true_and, when_true', List.getD_cons_zero, List.getD_cons_succ, isF_fz, toF_fz, isBool_bool, toBool_bool, isInt_int, toInt_int, isStr_str, toStr_str, isSl_sl, toSl_sl, List.length_cons, List.length_nil, List.all_cons, List.all_nil, lisFz_fz, ltoFz_fz, beq_self_eq_true, jump_true, ifB_true, ifB_false, isF_pv, isPv_pv, toV_pv, isNil_nilp, isNil_pt, isPt_pt, toAg_ag, cell_ag, isAg_ag, fits_ag, Int.toNat_natCast, Bool.not_true, Bool.not_false, fits_int, fits_bool, fits_str, fits_sl, strs_len, e2]
    rw [decide_eq_false (by omega), ifB_false, J_law08_WordsSplit_4_1_eq, hsl, onL_some, X_law08_WordsSplit_3_0_eq, hl8]
    rfl
  · simp only [if_neg g, onR_some, onL_some, List.isEmpty_nil, allF_cons, allF_nil, Bool.and_true, Bool.true_and, when_true', List.getD_cons_zero, List.getD_cons_succ, isF_fz, toF_fz, isBool_bool, toBool_bool, isInt_int, toInt_int, isStr_str, toStr_str, isSl_sl, toSl_sl, List.length_cons, List.length_nil, List.all_cons, List.all_nil, lisFz_fz, ltoFz_fz, beq_self_eq_true, jump_true, ifB_true, ifB_false, isF_pv, isPv_pv, toV_pv, isNil_nilp, isNil_pt, isPt_pt, toAg_ag, cell_ag, isAg_ag, fits_ag, Int.toNat_natCast, Bool.not_true, Bool.not_false, fits_int, fits_bool, fits_str, fits_sl]
    rw [decide_eq_true (by omega), ifB_true, hl8]
    rfl
theorem puts_loop (s sub : ByteArray) (cs : List Int) (hcs : cs.length ≤ 9000) (hf : ∀ c ∈ cs, 0 ≤ c ∧ c ≤ 1114111 ∧ ¬ (55296 ≤ c ∧ c < 57344)) (K : Nat) : ∀ (d i n : Nat), i + d = cs.length → d < n →
    L_law08_WordsSplit_1_1 Rt K true n s sub (.sl (cs.map (.int .i64))) true (i : Int) (strs (signStrs (cs.take i))) = some (.exit 0, X_law08_WordsSplit_1_1 s sub (strs (signStrs cs))) := by
  intro d
  induction d with
  | zero =>
    intro i n h1 h2
    obtain ⟨n, rfl⟩ : ∃ q, n = q + 1 := ⟨n - 1, by omega⟩
    rw [L_law08_WordsSplit_1_1_eq, ifB_true, isSl_sl, when_true', toSl_sl, List.length_map, decide_eq_false (by omega), ifB_false, List.take_of_length_le (by omega)]
  | succ d ih =>
    intro i n h1 h2
    obtain ⟨n, rfl⟩ : ∃ q, n = q + 1 := ⟨n - 1, by omega⟩
    have hi : i < cs.length := by omega
    obtain ⟨f0, f1, f2⟩ := hf _ (List.getElem_mem hi)
    have hw1 : IntKind.wrap .i64 ((i : Int) + 1) = ((i + 1 : Nat) : Int) := by rw [wrap64 (by omega) (by omega)]; simp
    have hl : (signStrs (cs.take i)).length = i := by simp [signStrs]; omega
    have e : strs (signStrs (cs.take (i + 1))) = strs (signStrs (cs.take i)) ++ [FV.str (qB (toB (putB cs[i])))] := by
      have e1 : signStrs (cs.take (i + 1)) = signStrs (cs.take i) ++ [toB (putB cs[i])] := by
        unfold signStrs
        rw [List.take_add_one, List.getElem?_eq_getElem hi, List.map_append]
        rfl
      rw [e1, strs_app]
      rfl
    rw [L_law08_WordsSplit_1_1_eq, ifB_true, isSl_sl, when_true', toSl_sl, List.length_map, decide_eq_true (by omega), ifB_true, jump_true, J_law08_WordsSplit_1_1_eq]
    simp only [isSl_sl, toSl_sl, decide_eq_true (show (i : Int) < (cs.length : Int) by omega), List.length_map, decide_eq_true (show (0 : Int) ≤ (i : Int) by omega), Bool.and_true, when_true', Int.toNat_natCast, getD_intQ cs hi, fits_int, isInt_int, toInt_int, beq_self_eq_true, put3_ok f0 f1, put_cells f0 f1, onR_some, List.isEmpty_nil, allF_cons, allF_nil, List.getD_cons_zero, isF_fz, toF_fz, cells_fits, cells_all, cells_back, hw1, List.length_singleton, strs_len, hl]
    rw [room16 (by omega), when_true', ← e]
    exact ih (i + 1) n (by omega) (by omega)
theorem pure_WordsSplit (f0 f1 : FV) (h0 : WV Try.prog 40 reachBytes 9 f0) (h1 : WV Try.prog 40 reachBytes 9 f1) : Rt N_law08_WordsSplit [.fz f0, .fz f1] = some ([.fz (.bool true)], []) := by
  obtain ⟨a, rfl, hb⟩ := str_of (by kernel_rfl) (by kernel_rfl) h0
  obtain ⟨b, rfl, hb2⟩ := str_of (by kernel_rfl) (by kernel_rfl) h1
  have hl8 := lives8_ok
  refine rt_call A_law08_WordsSplit rfl rfl 10000 ?_
  rw [← BB_LB a, ← BB_LB b]
  generalize LB a = s
  generalize LB b = sub
  rw [E_law08_WordsSplit, BB_size, BB_size]
  by_cases g : s.length ≤ 6000
  · rw [decide_eq_false (by omega), ifB_false]
    by_cases g2 : sub.length ≤ 100
    · rw [decide_eq_false (by omega), ifB_false, jump_true, J_law08_WordsSplit_7_0_eq, BB_nil, BB_beq]
      by_cases hne : sub = []
      · subst hne
        rw [decide_eq_true rfl, ifB_true]
        have hsg := signs_ok (BB s) (by rw [BB_size]; omega)
        rw [show (BB s).data.toList = s from rfl] at hsg
        have hw0 := wsplit0_ok s (by omega)
        have empty : Rt N_words_Split [.fz (.str (BB s)), .fz (.str (BB []))] = some ([.fz (.sl []), .fz (.bool true)], []) → J_law08_WordsSplit_5_0 Rt 10000 true (BB s) (BB []) = some ([.fz (.bool true)], []) := by
          intro h
          rw [J_law08_WordsSplit_5_0_eq, h]
          have e0 : (((0 : Nat) : Int) != 0) = false := rfl
          simp only [onR_some, onL_some, List.isEmpty_nil, allF_cons, allF_nil, Bool.and_true, Bool.true_and, when_true', List.getD_cons_zero, List.getD_cons_succ, isF_fz, toF_fz, isBool_bool, toBool_bool, isInt_int, toInt_int, isStr_str, toStr_str, isSl_sl, toSl_sl, List.length_cons, List.length_nil, List.all_cons, List.all_nil, lisFz_fz, ltoFz_fz, beq_self_eq_true, jump_true, ifB_true, ifB_false, isF_pv, isPv_pv, toV_pv, isNil_nilp, isNil_pt, isPt_pt, toAg_ag, cell_ag, isAg_ag, fits_ag, Int.toNat_natCast, Bool.not_true, Bool.not_false, fits_int, fits_bool, fits_str, fits_sl, e0]
          rw [J_law08_WordsSplit_4_0_eq, L_law08_WordsSplit_3_0_eq, isSl_sl, when_true', toSl_sl, List.length_nil, decide_eq_false (by simp), ifB_false, onL_some, X_law08_WordsSplit_3_0_eq, hl8]
          rfl
        cases hv : signsL s with
        | none =>
          rw [hv] at hsg hw0
          simp only [onR_some, onL_some, List.isEmpty_nil, allF_cons, allF_nil, Bool.and_true, Bool.true_and, when_true', List.getD_cons_zero, List.getD_cons_succ, isF_fz, toF_fz, isBool_bool, toBool_bool, isInt_int, toInt_int, isStr_str, toStr_str, isSl_sl, toSl_sl, List.length_cons, List.length_nil, List.all_cons, List.all_nil, lisFz_fz, ltoFz_fz, beq_self_eq_true, jump_true, ifB_true, ifB_false, isF_pv, isPv_pv, toV_pv, isNil_nilp, isNil_pt, isPt_pt, toAg_ag, cell_ag, isAg_ag, fits_ag, Int.toNat_natCast, Bool.not_true, Bool.not_false, fits_int, fits_bool, fits_str, fits_sl, hsg]
          rw [L_law08_WordsSplit_1_0_eq, ifB_false, onL_some, X_law08_WordsSplit_1_0_eq, jump_true]
          exact empty hw0
        | some cs =>
          rw [hv] at hsg hw0
          have hlen := signs_len hv
          have hS := sgAt_start (s := BB s) hv
          simp only [onR_some, onL_some, List.isEmpty_nil, allF_cons, allF_nil, Bool.and_true, Bool.true_and, when_true', List.getD_cons_zero, List.getD_cons_succ, isF_fz, toF_fz, isBool_bool, toBool_bool, isInt_int, toInt_int, isStr_str, toStr_str, isSl_sl, toSl_sl, List.length_cons, List.length_nil, List.all_cons, List.all_nil, lisFz_fz, ltoFz_fz, beq_self_eq_true, jump_true, ifB_true, ifB_false, isF_pv, isPv_pv, toV_pv, isNil_nilp, isNil_pt, isPt_pt, toAg_ag, cell_ag, isAg_ag, fits_ag, Int.toNat_natCast, Bool.not_true, Bool.not_false, fits_int, fits_bool, fits_str, fits_sl, hsg]
          cases cs with
          | nil =>
            rw [L_law08_WordsSplit_1_0_eq, ifB_true, List.map_nil, isSl_sl, when_true', toSl_sl, List.length_nil, decide_eq_false (by simp), ifB_false, onL_some, X_law08_WordsSplit_1_0_eq, jump_true]
            exact empty hw0
          | cons c cs =>
            obtain ⟨f0, f1, f2⟩ := hS.fine c (List.mem_cons_self ..)
            have hp := puts_loop (BB s) (BB []) (c :: cs) (by omega) hS.fine 10000 cs.length 1 9999 (by simp; omega) (by simp at hlen; omega)
            have e0 : strs (signStrs ((c :: cs).take 1)) = [FV.str (qB (toB (putB c)))] := rfl
            have hg : (decide (((0 : Nat) + 1) * 16 ≤ roomy) && decide ((0 : Nat) + 1 ≤ roomy)) = true := by decide
            have hw1 : IntKind.wrap .i64 ((0 : Int) + 1) = ((1 : Nat) : Int) := rfl
            have z0 : Int.toNat 0 = 0 := rfl
            rw [e0] at hp
            rw [L_law08_WordsSplit_1_0_eq, ifB_true, isSl_sl, when_true', toSl_sl, List.length_map, List.length_cons, decide_eq_true (by omega), ifB_true, jump_true, J_law08_WordsSplit_1_0_eq]
            simp only [isSl_sl, toSl_sl, decide_eq_true (show (0 : Int) < ((cs.length + 1 : Nat) : Int) by omega), List.length_map, List.length_cons, decide_eq_true (show (0 : Int) ≤ 0 by omega), Bool.and_true, when_true', z0, List.map_cons, List.getD_cons_zero, fits_int, isInt_int, toInt_int, beq_self_eq_true, put3_ok f0 f1, put_cells f0 f1, onR_some, List.isEmpty_nil, allF_cons, allF_nil, isF_fz, toF_fz, cells_fits, cells_all, cells_back, hw1, List.length_nil, hg]
            rw [List.map_cons] at hp
            rw [hp, onL_some, X_law08_WordsSplit_1_1_eq, jump_true]
            refine behindW_ok 10000 (by omega) s [] (signStrs (c :: cs)) (by simp [signStrs] at hlen ⊢; omega) ?_
            rw [hw0]
            simp only [signStrs, List.length_map]
      · rw [decide_eq_false hne, ifB_false]
        have hw := want_loop0 s sub g g2 hne 10000 6001 0 10000 (by omega) (by omega) (fun j j1 => by omega)
        rw [Int.natCast_zero] at hw
        rw [hw]
        have hlen : (splitA sub s).length ≤ 9000 := by
          have : ∀ n l, (splitG sub n l).length ≤ n + 1 := by
            intro n
            induction n with
            | zero => intro l; simp [splitG]
            | succ n ih => intro l; simp only [splitG]; split
                           · simp
                           · have := ih (l.drop ((index l sub).toNat + sub.length)); simp only [List.length_cons]; omega
          have := this (s.length + 1) s
          unfold splitA; omega
        exact behindW_ok 10000 (by omega) s sub _ hlen (wsplitG_ok s sub hne (by omega))
    · rw [decide_eq_true (by omega), ifB_true, hl8]
      rfl
  · rw [decide_eq_true (by omega), ifB_true, hl8]
    rfl
end Go.Ab
