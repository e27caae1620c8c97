/- The reference's digits, escapes and numbers. -/
import Derived.Test.YtjmpjkalmhoomaaSSgn
import Derived.Test.YtjmpjkalmhoomaaRd4
namespace Go.Ab
set_option linter.unusedVariables false
set_option linter.unusedSimpArgs false
theorem at_drop {s : ByteArray} {j : Nat} {x : UInt8} {r : List UInt8} (h : s.data.toList.drop j = x :: r) : Array.getD s.data j 0 = x ∧ j < s.size ∧ s.data.toList.drop (j + 1) = r := by
  have h1 : s.data.toList[j]? = some x := by have := List.getElem?_drop (xs := s.data.toList) (i := j) (j := 0); rw [h] at this; simpa using this.symm
  obtain ⟨h2, h3⟩ := List.getElem?_eq_some_iff.1 h1
  have hj : j < s.size := by rw [Array.length_toList] at h2; exact h2
  refine ⟨?_, hj, ?_⟩
  · have : s.data[j]? = some x := by rw [← Array.getElem?_toList]; exact h1
    simp [Array.getD_eq_getD_getElem?, this]
  · have e : (s.data.toList.drop j).drop 1 = s.data.toList.drop (j + 1) := by rw [List.drop_drop]
    rw [← e, h]; rfl
theorem drop_end {s : ByteArray} {j : Nat} (h : s.data.toList.drop j = []) : s.size ≤ j := by
  have := List.drop_eq_nil_iff.1 h
  rwa [Array.length_toList] at this
theorem hexV_eq (c : UInt8) : hexV c = if 48 ≤ c.toNat ∧ c.toNat ≤ 57 then (c.toNat : Int) - 48 else if 97 ≤ c.toNat ∧ c.toNat ≤ 102 then (c.toNat : Int) - 87 else if 65 ≤ c.toNat ∧ c.toNat ≤ 70 then (c.toNat : Int) - 55 else -1 := by
  have h : ∀ n : Fin 256, hexV (UInt8.ofNat n.val) = if 48 ≤ (UInt8.ofNat n.val).toNat ∧ (UInt8.ofNat n.val).toNat ≤ 57 then ((UInt8.ofNat n.val).toNat : Int) - 48 else if 97 ≤ (UInt8.ofNat n.val).toNat ∧ (UInt8.ofNat n.val).toNat ≤ 102 then ((UInt8.ofNat n.val).toNat : Int) - 87 else if 65 ≤ (UInt8.ofNat n.val).toNat ∧ (UInt8.ofNat n.val).toNat ≤ 70 then ((UInt8.ofNat n.val).toNat : Int) - 55 else -1 := by decide +kernel
  have := h ⟨c.toNat, c.toNat_lt⟩
  simpa using this
theorem hexV_range (c : UInt8) : -1 ≤ hexV c ∧ hexV c ≤ 15 := by
  rw [hexV_eq]
  repeat' split
  all_goals omega
theorem digit_ok (c : UInt8) : Rt0 N_ref03_digit [.fz (.int .u8 ((c.toNat : Nat) : Int))] = some ([.fz (.int .i64 (hexV c))], []) := by
  have hc := c.toNat_lt
  have w0 : IntKind.wrap .i64 ((c.toNat : Nat) : Int) = c.toNat := by rw [wrap64 (by omega) (by omega)]
  have w1 : IntKind.wrap .i64 (((c.toNat : Nat) : Int) - 48) = c.toNat - 48 := by rw [wrap64 (by omega) (by omega)]
  have w2 : IntKind.wrap .i64 (((c.toNat : Nat) : Int) - 87) = c.toNat - 87 := by rw [wrap64 (by omega) (by omega)]
  have w3 : IntKind.wrap .i64 (((c.toNat : Nat) : Int) - 55) = c.toNat - 55 := by rw [wrap64 (by omega) (by omega)]
  refine rt_call0 A_ref03_digit rfl rfl 0 ?_
  have j3 : ∀ b : Bool, J_ref03_digit_3_0 Rt0 0 true (c.toNat : Int) b = some ([.fz (.int .i64 (if b then (c.toNat : Int) - 55 else -1))], []) := by
    intro b; rw [J_ref03_digit_3_0_eq, w0, w3]; cases b <;> rfl
  have j5 : J_ref03_digit_5_0 Rt0 0 true (c.toNat : Int) = some ([.fz (.int .i64 (if 65 ≤ c.toNat ∧ c.toNat ≤ 70 then (c.toNat : Int) - 55 else -1))], []) := by
    rw [J_ref03_digit_5_0_eq]
    by_cases g : 65 ≤ c.toNat
    · rw [decide_eq_true (by omega), ifB_true, jump_true, j3]
      by_cases g2 : c.toNat ≤ 70
      · rw [decide_eq_true (by omega), if_pos rfl, if_pos ⟨g, g2⟩]
      · rw [decide_eq_false (by omega), if_neg (by simp), if_neg (by omega)]
    · rw [decide_eq_false (by omega), ifB_false, jump_true, j3, if_neg (by simp), if_neg (by omega)]
  have j2 : ∀ b : Bool, J_ref03_digit_2_0 Rt0 0 true (c.toNat : Int) b = some ([.fz (.int .i64 (if b then (c.toNat : Int) - 87 else if 65 ≤ c.toNat ∧ c.toNat ≤ 70 then (c.toNat : Int) - 55 else -1))], []) := by
    intro b; rw [J_ref03_digit_2_0_eq, w0, w2, j5]; cases b <;> rfl
  have j7 : J_ref03_digit_7_0 Rt0 0 true (c.toNat : Int) = some ([.fz (.int .i64 (if 97 ≤ c.toNat ∧ c.toNat ≤ 102 then (c.toNat : Int) - 87 else if 65 ≤ c.toNat ∧ c.toNat ≤ 70 then (c.toNat : Int) - 55 else -1))], []) := by
    rw [J_ref03_digit_7_0_eq]
    by_cases g : 97 ≤ c.toNat
    · rw [decide_eq_true (by omega), ifB_true, jump_true, j2]
      by_cases g2 : c.toNat ≤ 102
      · rw [decide_eq_true (by omega), if_pos rfl, if_pos ⟨g, g2⟩]
      · rw [decide_eq_false (by omega), if_neg (by simp), if_neg (show ¬ (97 ≤ c.toNat ∧ c.toNat ≤ 102) by omega)]
    · rw [decide_eq_false (by omega), ifB_false, jump_true, j2, if_neg (by simp), if_neg (show ¬ (97 ≤ c.toNat ∧ c.toNat ≤ 102) by omega)]
  have j1 : ∀ b : Bool, J_ref03_digit_1_0 Rt0 0 true (c.toNat : Int) b = some ([.fz (.int .i64 (if b then (c.toNat : Int) - 48 else if 97 ≤ c.toNat ∧ c.toNat ≤ 102 then (c.toNat : Int) - 87 else if 65 ≤ c.toNat ∧ c.toNat ≤ 70 then (c.toNat : Int) - 55 else -1))], []) := by
    intro b; rw [J_ref03_digit_1_0_eq, w0, w1, j7]; cases b <;> rfl
  rw [E_ref03_digit, hexV_eq]
  by_cases g : 48 ≤ c.toNat
  · rw [decide_eq_true (by omega), ifB_true, jump_true, j1]
    by_cases g2 : c.toNat ≤ 57
    · rw [decide_eq_true (by omega), if_pos rfl, if_pos ⟨g, g2⟩]
    · rw [decide_eq_false (by omega), if_neg (by simp), if_neg (show ¬ (48 ≤ c.toNat ∧ c.toNat ≤ 57) by omega)]
  · rw [decide_eq_false (by omega), ifB_false, jump_true, j1, if_neg (by simp), if_neg (show ¬ (48 ≤ c.toNat ∧ c.toNat ≤ 57) by omega)]
/-- What a short escape stands for. -/
def simV (c : UInt8) : Int := if Lib.indexByte escI c < 0 then -1 else ((escO.getD (Lib.indexByte escI c).toNat 0).toNat : Int)
theorem simV_eq (c : UInt8) : simV c = if (c.toNat : Int) = 34 ∨ (c.toNat : Int) = 92 ∨ (c.toNat : Int) = 47 then (c.toNat : Int) else if (c.toNat : Int) = 98 then 8 else if (c.toNat : Int) = 102 then 12 else if (c.toNat : Int) = 110 then 10 else if (c.toNat : Int) = 114 then 13 else if (c.toNat : Int) = 116 then 9 else -1 := by
  have h : ∀ n : Fin 256, simV (UInt8.ofNat n.val) = if ((UInt8.ofNat n.val).toNat : Int) = 34 ∨ ((UInt8.ofNat n.val).toNat : Int) = 92 ∨ ((UInt8.ofNat n.val).toNat : Int) = 47 then ((UInt8.ofNat n.val).toNat : Int) else if ((UInt8.ofNat n.val).toNat : Int) = 98 then 8 else if ((UInt8.ofNat n.val).toNat : Int) = 102 then 12 else if ((UInt8.ofNat n.val).toNat : Int) = 110 then 10 else if ((UInt8.ofNat n.val).toNat : Int) = 114 then 13 else if ((UInt8.ofNat n.val).toNat : Int) = 116 then 9 else -1 := by decide +kernel
  have := h ⟨c.toNat, c.toNat_lt⟩
  simpa using this
theorem simple_ok (c : UInt8) : Rt0 N_ref03_simple [.fz (.int .u8 ((c.toNat : Nat) : Int))] = some ([.fz (.int .i64 (simV c))], []) := by
  have hc := c.toNat_lt
  have w0 : IntKind.wrap .i64 ((c.toNat : Nat) : Int) = c.toNat := by rw [wrap64 (by omega) (by omega)]
  refine rt_call0 A_ref03_simple rfl rfl 0 ?_
  rw [E_ref03_simple, simV_eq]
  generalize ((c.toNat : Nat) : Int) = v at w0 ⊢
  have j1 : ∀ b : Bool, J_ref03_simple_1_0 Rt0 0 true v v b = some ([.fz (.int .i64 (if b then v else if v = 98 then 8 else if v = 102 then 12 else if v = 110 then 10 else if v = 114 then 13 else if v = 116 then 9 else -1))], []) := by
    intro b
    rw [J_ref03_simple_1_0_eq, w0]
    cases b with
    | true => rfl
    | false =>
      have e : ∀ n : Int, (v == n) = decide (v = n) := fun n => rfl
      simp only [e]
      rw [ifB_false, if_neg (by simp)]
      repeat' split
      all_goals simp_all <;> rfl
  rw [j1, j1]
  have e : ∀ n : Int, (v == n) = decide (v = n) := fun n => rfl
  by_cases g1 : v = 34
  · rw [e, decide_eq_true g1, ifB_true, jump_true, if_pos rfl, if_pos (.inl g1)]
  · rw [e, decide_eq_false g1, ifB_false]
    by_cases g2 : v = 92
    · rw [e, decide_eq_true g2, ifB_true, jump_true, if_pos rfl, if_pos (.inr (.inl g2))]
    · rw [e, decide_eq_false g2, ifB_false, jump_true]
      by_cases g3 : v = 47
      · rw [e, decide_eq_true g3, if_pos rfl, if_pos (.inr (.inr g3))]
      · rw [e, decide_eq_false g3, if_neg (show ¬ (false = true) by simp), if_neg (show ¬ (v = 34 ∨ v = 92 ∨ v = 47) by simp [g1, g2, g3])]
/-- The number of digits to come. -/
def foN : Nat → List UInt8 → Int → Int
  | 0, _, n => n
  | _ + 1, [], _ => -1
  | d + 1, c :: r, n => if hexV c < 0 then -1 else foN d r (16 * n + hexV c)
def fourI (l : List UInt8) : Int := match fourL l with | some n => n | none => -1
theorem foN_four (l : List UInt8) : foN 4 l 0 = fourI l := by
  unfold fourI fourL
  match l with
  | [] => simp [foN]
  | [a] => simp [foN]
  | [a, b] => simp [foN]
  | [a, b, c] => simp [foN]
  | a :: b :: c :: d :: r =>
    simp only [foN, List.length_cons, hexN, List.take_succ_cons, List.take_zero]
    rw [if_neg (show ¬ (r.length + 1 + 1 + 1 + 1 < 4) by omega)]
    by_cases ha : hexV a < 0
    · simp only [if_pos ha]
    · simp only [if_neg ha]
      by_cases hb : hexV b < 0
      · simp only [if_pos hb]
      · simp only [if_neg hb]
        by_cases hc : hexV c < 0
        · simp only [if_pos hc]
        · simp only [if_neg hc]
          by_cases hd : hexV d < 0
          · simp only [if_pos hd]
          · simp only [if_neg hd]
theorem four_bound : ∀ (l : List UInt8) (n m : Int), hexN l n = some m → 0 ≤ n → 0 ≤ m ∧ m < (n + 1) * 16 ^ l.length
  | [], n, m, h, h0 => by simp only [hexN] at h; cases h; simp; omega
  | c :: r, n, m, h, h0 => by
    simp only [hexN] at h
    split at h
    · cases h
    · have hr := hexV_range c
      obtain ⟨a, b⟩ := four_bound r _ m h (by omega)
      refine ⟨a, Int.lt_of_lt_of_le b ?_⟩
      rw [List.length_cons, Int.pow_succ, Int.mul_comm (16 ^ r.length) 16, ← Int.mul_assoc]
      exact Int.mul_le_mul_of_nonneg_right (by omega) (Int.pow_nonneg (by omega))
theorem fourL_range {l : List UInt8} {m : Int} (h : fourL l = some m) : 0 ≤ m ∧ m < 65536 ∧ 4 ≤ l.length := by
  unfold fourL at h
  split at h
  · cases h
  · rename_i hl
    obtain ⟨a, b⟩ := four_bound _ _ _ h (by omega)
    rw [List.length_take, show min 4 l.length = 4 by omega] at b
    exact ⟨a, by simpa using b, by omega⟩
theorem four_ok (s : ByteArray) (hs : s.size ≤ 1099511627776) (i : Nat) (hi : i ≤ 1099511627780) : Rt0 N_ref03_four [.fz (.str s), .fz (.int .i64 (i : Int))] = some ([.fz (.int .i64 (fourI (s.data.toList.drop i)))], []) := by
  have loop : ∀ (d K n k : Nat) (c : Int), d + k = 4 → d < n → 0 ≤ c → c < 16 ^ k →
      onL (L_ref03_four_1_0 Rt0 K true n s (i : Int) c (k : Int)) (K_ref03_four_1 Rt0 K true) = some ([.fz (.int .i64 (foN d (s.data.toList.drop (i + k)) c))], []) := by
    intro d
    induction d with
    | zero =>
      intro K n k c h1 h2 h3 h4
      obtain ⟨n, rfl⟩ : ∃ q, n = q + 1 := ⟨n - 1, by omega⟩
      rw [L_ref03_four_1_0_eq, decide_eq_false (by omega), ifB_false, onL_some, X_ref03_four_1_1_eq]
      rfl
    | succ d ih =>
      intro K n k c h1 h2 h3 h4
      obtain ⟨n, rfl⟩ : ∃ q, n = q + 1 := ⟨n - 1, by omega⟩
      have h5 : c < 4096 := by
        have hk : k = 0 ∨ k = 1 ∨ k = 2 ∨ k = 3 := by omega
        rcases hk with rfl | rfl | rfl | rfl <;> simp at h4 <;> omega
      have w0 : IntKind.wrap .i64 ((i : Int) + (k : Int)) = ((i + k : Nat) : Int) := by rw [wrap64 (by omega) (by omega)]; simp
      have w1 : IntKind.wrap .i64 ((k : Int) + 1) = ((k + 1 : Nat) : Int) := by rw [wrap64 (by omega) (by omega)]; simp
      have w2 : IntKind.wrap .i64 (16 * c) = 16 * c := by rw [wrap64 (by omega) (by omega)]
      rw [L_ref03_four_1_0_eq, decide_eq_true (show (k : Int) < 4 by omega), ifB_true, w0]
      cases hd : s.data.toList.drop (i + k) with
      | nil =>
        have := drop_end hd
        rw [decide_eq_true (by omega), ifB_true, onL_some, X_ref03_four_1_0_eq]
        rfl
      | cons x r =>
        obtain ⟨g1, g2, g3⟩ := at_drop hd
        have hr := hexV_range x
        rw [decide_eq_false (by omega), ifB_false, decide_eq_true (show (0 : Int) ≤ ((i + k : Nat) : Int) by omega), decide_eq_true (show ((i + k : Nat) : Int) < (s.size : Int) by omega), Bool.and_true, when_true', Int.toNat_natCast, g1, digit_ok]
        simp only [onR_some, onL_some, List.isEmpty_nil, allF_cons, allF_nil, Bool.and_true, Bool.true_and, when_true', List.getD_cons_zero, List.getD_cons_succ, isF_fz, toF_fz, isBool_bool, toBool_bool, isInt_int, toInt_int, isStr_str, toStr_str, isSl_sl, toSl_sl, List.length_cons, List.length_nil, List.all_cons, List.all_nil, lisFz_fz, ltoFz_fz, beq_self_eq_true, jump_true, ifB_true, ifB_false, isF_pv, isPv_pv, toV_pv, isNil_nilp, isNil_pt, isPt_pt, toAg_ag, cell_ag, isAg_ag, fits_ag, Int.toNat_natCast, Bool.not_true, Bool.not_false, fits_int, fits_bool, fits_str, fits_sl]
        by_cases g : hexV x < 0
        · rw [decide_eq_true g, ifB_true, onL_some, X_ref03_four_1_0_eq]
          simp only [foN]; rw [if_pos g]
        · have w3 : IntKind.wrap .i64 (16 * c + hexV x) = 16 * c + hexV x := by rw [wrap64 (by omega) (by omega)]
          rw [decide_eq_false g, ifB_false, J_ref03_four_1_0_eq, w0, decide_eq_true (show (0 : Int) ≤ ((i + k : Nat) : Int) by omega), decide_eq_true (show ((i + k : Nat) : Int) < (s.size : Int) by omega), Bool.and_true, when_true', Int.toNat_natCast, g1, digit_ok]
          simp only [onR_some, onL_some, List.isEmpty_nil, allF_cons, allF_nil, Bool.and_true, Bool.true_and, when_true', List.getD_cons_zero, List.getD_cons_succ, isF_fz, toF_fz, isBool_bool, toBool_bool, isInt_int, toInt_int, isStr_str, toStr_str, isSl_sl, toSl_sl, List.length_cons, List.length_nil, List.all_cons, List.all_nil, lisFz_fz, ltoFz_fz, beq_self_eq_true, jump_true, ifB_true, ifB_false, isF_pv, isPv_pv, toV_pv, isNil_nilp, isNil_pt, isPt_pt, toAg_ag, cell_ag, isAg_ag, fits_ag, Int.toNat_natCast, Bool.not_true, Bool.not_false, fits_int, fits_bool, fits_str, fits_sl]
          rw [w1, w2, w3, ih K n (k + 1) (16 * c + hexV x) (by omega) (by omega) (by omega) (by rw [Int.pow_succ]; omega)]
          simp only [foN]; rw [if_neg g, ← Nat.add_assoc, g3]
  refine rt_call0 A_ref03_four rfl rfl 5 ?_
  have h := loop 4 5 5 0 0 (by omega) (by omega) (by omega) (by simp)
  rw [E_ref03_four, ← foN_four]
  exact h
end Go.Ab
