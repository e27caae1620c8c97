/- WordsJoin: the plain law. -/
import Derived.Test.YtgljpoefbphhdaaSWords1
import Derived.Test.YtgljpoefbphhdaaSReadB
namespace Go.Ab
open Go.Proofs
set_option linter.unusedVariables false
set_option linter.unusedSimpArgs false
set_option linter.unusedSectionVars false
section
variable (l : List ByteArray) (b : ByteArray) (n : Int) (hl : l.length ≤ 100) (hb : b.size ≤ 5000)
include hl hb
/-- The law's first loop. -/
theorem want_loop (K : Nat) : ∀ (d i m : Nat), i + d = l.length → d < m → (∀ (j : Nat) (h : j < l.length), j < i → l[j].size ≤ 5000) → (jn (l.take i) b).length ≤ i * 10000 →
    L_law08_WordsJoin_1_0 Rt K true m (l.map .str) b n (BB (jn (l.take i) b)) (i : Int) = some (.exit 0, X_law08_WordsJoin_1_1 (l.map .str) b n (BB (jn l b))) ∧ (∀ x ∈ l, x.size ≤ 5000) ∨ ∃ v, L_law08_WordsJoin_1_0 Rt K true m (l.map .str) b n (BB (jn (l.take i) b)) (i : Int) = some (.ret, X_law08_WordsJoin_1_0 (l.map .str) b n true v) := by
  intro d
  induction d with
  | zero =>
    intro i m h1 h2 h3 h4
    obtain ⟨m, rfl⟩ : ∃ q, m = q + 1 := ⟨m - 1, by omega⟩
    refine .inl ⟨?_, ?_⟩
    · rw [L_law08_WordsJoin_1_0_eq, List.length_map, decide_eq_false (by omega), ifB_false, List.take_of_length_le (by omega)]
    · intro x hx
      obtain ⟨j, hj, rfl⟩ := List.mem_iff_getElem.1 hx
      exact h3 j hj (by omega)
  | succ d ih =>
    intro i m h1 h2 h3 h4
    obtain ⟨m, rfl⟩ : ∃ q, m = q + 1 := ⟨m - 1, by omega⟩
    have hi : i < l.length := by omega
    have hsuc := jn_succ b l i hi
    have hsz := congrArg List.length hsuc
    have hlb := LB_len b
    have hlx := LB_len l[i]
    have hw : IntKind.wrap .i64 ((i : Int) + 1) = ((i + 1 : Nat) : Int) := by rw [wrap64 (by omega) (by omega)]; simp
    rw [L_law08_WordsJoin_1_0_eq]
    simp only [decide_eq_true (show (i : Int) < (l.length : Int) by omega), ifB_true, List.length_map, decide_eq_true (show (0 : Int) ≤ (i : Int) by omega), Bool.and_true, when_true', Int.toNat_natCast, getD_strW l hi, fits_str, isStr_str, toStr_str]
    by_cases g : l[i].size ≤ 5000
    · rw [decide_eq_false (show ¬ ((l[i].size : Int) > 5000) by omega), ifB_false]
      have tail : ∀ y : List UInt8, y ++ LB l[i] = jn (l.take (i + 1)) b → J_law08_WordsJoin_1_0 Rt K true m (l.map .str) b n (BB y) (i : Int) = L_law08_WordsJoin_1_0 Rt K true m (l.map .str) b n (BB (jn (l.take (i + 1)) b)) ((i + 1 : Nat) : Int) := by
        intro y hy
        have hyl := congrArg List.length hy
        simp only [List.length_append] at hyl hsz
        have hys : y.length ≤ 1000000 + 5000 := by
          split at hsz <;> simp only [hlb, hlx, List.length_nil] at hsz hyl <;> omega
        rw [J_law08_WordsJoin_1_0_eq]
        simp only [decide_eq_true (show (i : Int) < (l.length : Int) by omega), List.length_map, decide_eq_true (show (0 : Int) ≤ (i : Int) by omega), Bool.and_true, when_true', Int.toNat_natCast, getD_strW l hi, fits_str, isStr_str, toStr_str, BB_size, BB_app, hy, hw]
        rw [decide_eq_true (by omega)]
        rfl
      have hnext := ih (i + 1) m (by omega) (by omega) (fun j hj hji => by
        by_cases e : j = i
        · subst e; exact g
        · exact h3 j hj (by omega)) (by
        rw [hsz]
        simp only [List.length_append]
        split <;> simp only [hlb, hlx, List.length_nil] <;> omega)
      by_cases h0 : 0 < i
      · rw [decide_eq_true (show (i : Int) > 0 by omega), ifB_true, BB_size, decide_eq_true (by omega), when_true', jump_true, BB_app, tail _ (by rw [hsuc, if_pos h0])]
        exact hnext
      · rw [decide_eq_false (show ¬ (i : Int) > 0 by omega), ifB_false, jump_true, tail _ (by rw [hsuc, if_neg h0, List.append_nil])]
        exact hnext
    · rw [decide_eq_true (show ((l[i].size : Int) > 5000) by omega), ifB_true, lives8_ok]
      exact .inr ⟨BB (jn (l.take i) b), by simp only [onR_some, onL_some, List.isEmpty_nil, allF_cons, allF_nil, Bool.and_true, Bool.true_and, when_true', List.getD_cons_zero, List.getD_cons_succ, isF_fz, toF_fz, isBool_bool, toBool_bool, isInt_int, toInt_int, isStr_str, toStr_str, isSl_sl, toSl_sl, List.length_cons, List.length_nil, List.all_cons, List.all_nil, lisFz_fz, ltoFz_fz, beq_self_eq_true, jump_true, ifB_true, ifB_false, isF_pv, isPv_pv, toV_pv, isNil_nilp, isNil_pt, isPt_pt, toAg_ag, cell_ag, isAg_ag, fits_ag, Int.toNat_natCast, Bool.not_true, Bool.not_false, fits_int, fits_bool, fits_str, fits_sl]⟩
/-- The law's second loop: until there is enough of it. -/
theorem again_loop (K : Nat) (c : ByteArray) (x : Bool) (hb0 : 0 < b.size) : ∀ (d i m : Nat), 4097 ≤ i + d → d < m → (i : Int) ≤ n ∨ i = 0 → (i = 0 ∨ (i - 1) * b.size ≤ 4096) →
    ∃ e : List UInt8, L_law08_WordsJoin_2_0 Rt K true m b n c x (BB (Lib.repeatL (LB b) i)) (i : Int) = some (.exit 2, X_law08_WordsJoin_2_0 c x (BB e)) ∧ (if n * b.size ≤ 4096 then e = Lib.repeatL (LB b) n.toNat else 4096 < e.length) := by
  have hlb := LB_len b
  intro d
  induction d with
  | zero =>
    intro i m h1 h2 h3 h4
    obtain ⟨m, rfl⟩ : ∃ q, m = q + 1 := ⟨m - 1, by omega⟩
    refine ⟨Lib.repeatL (LB b) i, ?_⟩
    have hre := Lib.repeatL_length (LB b) i
    have h6 : i * 1 ≤ i * b.size := Nat.mul_le_mul_left i hb0
    rw [hlb] at hre
    rw [L_law08_WordsJoin_2_0_eq, BB_size, hre, decide_eq_false (show ¬ (((i * b.size : Nat) : Int) ≤ 4096) by omega), ifB_false]
    have hin : (i : Int) ≤ n := by omega
    have hmul : (i : Int) * (b.size : Int) ≤ n * (b.size : Int) := Int.mul_le_mul_of_nonneg_right hin (by omega)
    have hmul2 : (i : Int) * (b.size : Int) = ((i * b.size : Nat) : Int) := by rw [Int.natCast_mul]
    refine ⟨?_, ?_⟩
    · by_cases q : (i : Int) < n
      · rw [decide_eq_true q]; rfl
      · rw [decide_eq_false q]; rfl
    · rw [if_neg (by omega)]; omega
  | succ d ih =>
    intro i m h1 h2 h3 h4
    obtain ⟨m, rfl⟩ : ∃ q, m = q + 1 := ⟨m - 1, by omega⟩
    have hre := Lib.repeatL_length (LB b) i
    rw [hlb] at hre
    have hmul2 : (i : Int) * (b.size : Int) = ((i * b.size : Nat) : Int) := by rw [Int.natCast_mul]
    by_cases q : (i : Int) < n
    · by_cases q2 : i * b.size ≤ 4096
      · have h6 : i * 1 ≤ i * b.size := Nat.mul_le_mul_left i hb0
        have hw : IntKind.wrap .i64 ((i : Int) + 1) = ((i + 1 : Nat) : Int) := by rw [wrap64 (by omega) (by omega)]; simp
        have happ : Lib.repeatL (LB b) i ++ LB b = Lib.repeatL (LB b) (i + 1) := by rw [Lib.repeatL_add, Lib.repeatL_one]
        obtain ⟨e, he, hc⟩ := ih (i + 1) m (by omega) (by omega) (by omega) (.inr (by simpa using q2))
        refine ⟨e, ?_, hc⟩
        rw [L_law08_WordsJoin_2_0_eq, BB_size, hre, decide_eq_true q, ifB_true, decide_eq_true (show (((i * b.size : Nat) : Int) ≤ 4096) by omega), ifB_true, decide_eq_true (show ((b.size : Int) > 0) by omega), ifB_true, jump_true, J_law08_WordsJoin_3_0_eq, BB_size, hre, decide_eq_true (by omega), when_true', BB_app, happ, hw]
        exact he
      · have hmul : (i : Int) * (b.size : Int) ≤ n * (b.size : Int) := Int.mul_le_mul_of_nonneg_right (by omega) (by omega)
        refine ⟨Lib.repeatL (LB b) i, ?_, ?_⟩
        · rw [L_law08_WordsJoin_2_0_eq, BB_size, hre, decide_eq_true q, ifB_true, decide_eq_false (by omega), ifB_false]
        · rw [if_neg (by omega)]; omega
    · refine ⟨Lib.repeatL (LB b) i, ?_, ?_⟩
      · rw [L_law08_WordsJoin_2_0_eq, decide_eq_false q, ifB_false]
      · by_cases hn : n ≤ 0
        · have hi0 : i = 0 := by omega
          subst hi0
          have : n * (b.size : Int) ≤ 0 := Int.mul_nonpos_of_nonpos_of_nonneg hn (by omega)
          rw [if_pos (by omega), show n.toNat = 0 by omega]
        · have e : n = i := by omega
          subst e
          rw [hmul2]
          split
          · simp
          · omega
end
theorem pure_WordsJoin (f0 f1 f2 : FV) (h0 : WV Try.prog 40 reachBytes 23 f0) (h1 : WV Try.prog 40 reachBytes 9 f1) (h2 : WV Try.prog 40 reachBytes 3 f2) : Rt N_law08_WordsJoin [.fz f0, .fz f1, .fz f2] = some ([.fz (.bool true)], []) := by
  obtain ⟨l, rfl, hs, _⟩ := strs_of (t := 23) (ts := 9) (by kernel_rfl) (by kernel_rfl) (by kernel_rfl) (by kernel_rfl) h0
  obtain ⟨b, rfl, hb⟩ := str_of (by kernel_rfl) (by kernel_rfl) h1
  obtain ⟨n, rfl, hn⟩ := int_of (k := .i64) (by kernel_rfl) (by kernel_rfl) h2
  have hl8 := lives8_ok
  refine rt_call A_law08_WordsJoin rfl rfl 6000 ?_
  rw [E_law08_WordsJoin, List.length_map]
  by_cases g0 : l.length ≤ 100
  · rw [decide_eq_false (by omega), ifB_false]
    by_cases g1 : b.size ≤ 5000
    · rw [decide_eq_false (by omega), ifB_false, jump_true, J_law08_WordsJoin_7_0_eq]
      have hw := want_loop l b n g0 g1 6000 l.length 0 6000 (by omega) (by omega) (fun j _ h => by omega) (by simp [jn_nil])
      have e0 : jn (l.take 0) b = [] := rfl
      rw [e0, Int.natCast_zero] at hw
      rw [BB_nil]
      rcases hw with ⟨hw, hx⟩ | ⟨v, hw⟩
      · rw [hw, onL_some, X_law08_WordsJoin_1_1_eq, wjoin_ok l b (by omega) (by omega) (fun x h => by have := hx x h; omega)]
        have hn2 : n ≤ 9223372036854775807 := (wf64 hn).2
        have tl : J_law08_WordsJoin_5_0 Rt 6000 true b n = some ([.fz (.bool true)], []) := by
          rw [J_law08_WordsJoin_5_0_eq, times_ok b n (by omega) hn2]
          simp only [onR_some, onL_some, List.isEmpty_nil, allF_cons, allF_nil, Bool.and_true, Bool.true_and, when_true', List.getD_cons_zero, List.getD_cons_succ, isF_fz, toF_fz, isBool_bool, toBool_bool, isInt_int, toInt_int, isStr_str, toStr_str, isSl_sl, toSl_sl, List.length_cons, List.length_nil, List.all_cons, List.all_nil, lisFz_fz, ltoFz_fz, beq_self_eq_true, jump_true, ifB_true, ifB_false, isF_pv, isPv_pv, toV_pv, isNil_nilp, isNil_pt, isPt_pt, toAg_ag, cell_ag, isAg_ag, fits_ag, Int.toNat_natCast, Bool.not_true, Bool.not_false, fits_int, fits_bool, fits_str, fits_sl]
          by_cases hb0 : 0 < b.size
          · obtain ⟨e, he, hc⟩ := again_loop l b n g0 g1 6000 (if n * b.size ≤ 4096 then BB (Lib.repeatL (LB b) n.toNat) else BB []) (decide (n * b.size ≤ 4096)) hb0 4097 0 6000 (by omega) (by omega) (.inr rfl) (.inl rfl)
            have e1 : Lib.repeatL (LB b) 0 = [] := rfl
            rw [e1, Int.natCast_zero] at he
            rw [BB_nil, he, onL_some, X_law08_WordsJoin_2_0_eq, BB_nil, BB_size]
            by_cases q : n * b.size ≤ 4096
            · simp only [if_pos q] at hc ⊢
              subst hc
              have hre := Lib.repeatL_length (LB b) n.toNat
              rw [LB_len] at hre
              have hle : (((Lib.repeatL (LB b) n.toNat).length : Nat) : Int) ≤ 4096 := by
                rw [hre]
                by_cases hn0 : 0 ≤ n
                · rw [Int.natCast_mul, Int.toNat_of_nonneg hn0]; exact q
                · rw [show n.toNat = 0 by omega]; simp
              rw [decide_eq_false (by omega), ifB_false, BB_beq, decide_eq_true rfl, ifB_true, decide_eq_true q, ifB_true, hl8]
              rfl
            · simp only [if_neg q] at hc ⊢
              rw [decide_eq_true (by omega), ifB_true, BB_beq, decide_eq_true rfl, ifB_true, decide_eq_false q, hl8]
              rfl
          · have hz : b.size = 0 := by omega
            have hbn := size_nil hz
            have q : n * (b.size : Int) ≤ 4096 := by rw [hz]; simp
            simp only [if_pos q, decide_eq_true q]
            have e2 : Lib.repeatL (LB b) n.toNat = [] := by rw [hbn, LB_BB, Lib.repeatL_nil]
            rw [e2, BB_nil, L_law08_WordsJoin_2_0_eq, hz]
            have e3 : (if True then (1 : Nat) else 0) = 1 := rfl
            have e4 : ∀ c : Bool, ifB c (ifB (decide (((BB []).size : Int) ≤ 4096)) (ifB (decide (((0 : Nat) : Int) > 0)) (jump true (J_law08_WordsJoin_3_0 Rt 6000 true 5999 b n (BB []) true (BB []) 0)) (some (AExit.exit 2, X_law08_WordsJoin_2_0 (BB []) true (BB [])))) (some (AExit.exit 2, X_law08_WordsJoin_2_0 (BB []) true (BB [])))) (some (AExit.exit 2, X_law08_WordsJoin_2_0 (BB []) true (BB []))) = some (AExit.exit 2, X_law08_WordsJoin_2_0 (BB []) true (BB [])) := by
              intro c; cases c <;> rfl
            rw [e4, onL_some, X_law08_WordsJoin_2_0_eq, BB_nil, BB_size, decide_eq_false (by simp), ifB_false, BB_beq, decide_eq_true rfl, ifB_true, ifB_true, hl8]
            rfl
        simp only [onR_some, onL_some, List.isEmpty_nil, allF_cons, allF_nil, Bool.and_true, Bool.true_and, when_true', List.getD_cons_zero, List.getD_cons_succ, isF_fz, toF_fz, isBool_bool, toBool_bool, isInt_int, toInt_int, isStr_str, toStr_str, isSl_sl, toSl_sl, List.length_cons, List.length_nil, List.all_cons, List.all_nil, lisFz_fz, ltoFz_fz, beq_self_eq_true, jump_true, ifB_true, ifB_false, isF_pv, isPv_pv, toV_pv, isNil_nilp, isNil_pt, isPt_pt, toAg_ag, cell_ag, isAg_ag, fits_ag, Int.toNat_natCast, Bool.not_true, Bool.not_false, fits_int, fits_bool, fits_str, fits_sl, BB_size, BB_nil, BB_beq, tl]
        by_cases q : (jn l b).length ≤ 4096
        · simp only [q, decide_true, if_true, beq_self_eq_true, Bool.not_true, ifB_false, show (((jn l b).length : Int) ≤ 4096) by omega, ifB_true, BB_beq]
        · simp only [q, decide_false, if_false, beq_self_eq_true, Bool.not_true, ifB_false, show ¬ (((jn l b).length : Int) ≤ 4096) by omega, Bool.not_false, ifB_true, BB_beq, decide_true]
      · rw [hw, onL_some, X_law08_WordsJoin_1_0_eq]
    · rw [decide_eq_true (by omega), ifB_true, hl8]
      rfl
  · rw [decide_eq_true (by omega), ifB_true, hl8]
    rfl
end Go.Ab
