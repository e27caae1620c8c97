/- Names, names of a policy, pairs laid in a table. -/
import Derived.Test.YtdpfpdejipkffaaSLev1
namespace Go.Ab
set_option linter.unusedVariables false
set_option linter.unusedSimpArgs false

def allI (p : Nat → Bool) : Nat → Nat → Bool
  | 0, _ => true
  | m + 1, i => p i && allI p m (i + 1)
theorem allI_iff {p : Nat → Bool} : ∀ {m i : Nat}, allI p m i = true ↔ ∀ j, i ≤ j → j < i + m → p j = true
  | 0, i => by simp [allI]; intro j h1 h2; omega
  | m + 1, i => by
    simp only [allI, Bool.and_eq_true, allI_iff (m := m)]
    constructor
    · rintro ⟨h1, h2⟩ j hj hm
      by_cases e : i = j
      · subst e; exact h1
      · exact h2 j (by omega) (by omega)
    · intro h
      exact ⟨h i (by omega) (by omega), fun j h1 h2 => h j (by omega) (by omega)⟩

def byt (s : ByteArray) (i : Nat) : Nat := (Array.getD s.data i 0).toNat
def okC (s : ByteArray) (i : Nat) : Bool := (decide (97 ≤ byt s i) && decide (byt s i ≤ 122)) || ((decide (48 ≤ byt s i) && decide (byt s i ≤ 57)) && !(i == 0))
def nmB (s : ByteArray) : Bool := decide (1 ≤ s.size) && (decide (s.size ≤ 16) && allI (okC s) s.size 0)

theorem name1 {K : Nat} (s : ByteArray) (hs : s.size ≤ 16) : ∀ (m i N : Nat), i + m = s.size → m < N →
    onL (L_level_Name_1_0 Rt K true N s s.size i) (K_level_Name_1 Rt K true) = some ([.fz (.bool (allI (okC s) m i))], [])
  | m, b, 0, _, h => by omega
  | 0, i, N + 1, h, _ => by
    rw [L_level_Name_1_0_eq]
    simp [show ¬ ((i : Int) < (s.size : Int)) by omega, onL_some, X_level_Name_1_0_eq, allI]
  | m + 1, i, N + 1, h, hN => by
    have ih := name1 (K := K) s hs m (i + 1) N (by omega) (by omega)
    rw [L_level_Name_1_0_eq]
    have hlt : decide ((i : Int) < (s.size : Int)) = true := by simp; omega
    have h00 : decide ((0 : Int) ≤ (i : Int)) = true := by simp
    have hb : ((Array.getD (ByteArray.data s) i 0).toNat) = byt s i := rfl
    have w := wrn (show i < 1152921504606846976 by omega)
    have g1 : decide (((byt s i : Nat) : Int) ≥ 97) = decide (97 ≤ byt s i) := by rw [decide_eq_decide]; omega
    have g2 : decide (((byt s i : Nat) : Int) ≤ 122) = decide (byt s i ≤ 122) := by rw [decide_eq_decide]; omega
    have g3 : decide (((byt s i : Nat) : Int) ≥ 48) = decide (48 ≤ byt s i) := by rw [decide_eq_decide]; omega
    have g4 : decide (((byt s i : Nat) : Int) ≤ 57) = decide (byt s i ≤ 57) := by rw [decide_eq_decide]; omega
    have g5 : ((i : Int) == 0) = (i == 0) := by rw [Bool.eq_iff_iff]; simp
    simp only [hlt, h00, ifB_true, when_true', Bool.and_true, Int.toNat_natCast, hb, J_level_Name_2_0_eq, J_level_Name_1_0_eq, jump_true, w, g1, g2, g3, g4, g5, allI, okC]
    cases h1 : decide (97 ≤ byt s i) <;> cases h2 : decide (byt s i ≤ 122) <;> cases h3 : decide (48 ≤ byt s i) <;> cases h4 : decide (byt s i ≤ 57) <;> cases h5 : (i == 0) <;>
      simp only [ifB_true, ifB_false, Bool.not_true, Bool.not_false, Bool.true_and, Bool.and_true, Bool.false_and, Bool.and_false, Bool.true_or, Bool.or_true, Bool.false_or, Bool.or_false, onL_some, X_level_Name_1_1_eq, ih]
theorem Name_ok (s : ByteArray) : Rt N_level_Name [.fz (.str s)] = some ([.fz (.bool (nmB s))], []) := by
  refine rt_call A_level_Name rfl rfl 20 ?_
  rw [E_level_Name]
  have e0 : (s.toList == (⟨#[]⟩ : ByteArray).toList) = decide (s.size = 0) := by
    rw [bytes_beq, decide_eq_decide]
    constructor
    · intro h; subst h; rfl
    · intro h; cases s with | mk d => cases d with | mk l => cases l with | nil => rfl | cons a l => simp [ByteArray.size] at h
  rw [e0]
  unfold nmB
  by_cases h : s.size = 0
  · simp [h]
  · by_cases h2 : s.size ≤ 16
    · have hg : decide ((s.size : Int) > 16) = false := by simp; omega
      have n1 := name1 (K := 20) s h2 s.size 0 20 (by omega) (by omega)
      simp only [Int.natCast_zero] at n1
      simp [h, hg, J_level_Name_5_0_eq, n1, h2, show 1 ≤ s.size by omega]
    · have hg : decide ((s.size : Int) > 16) = true := by simp; omega
      simp [h, hg, h2]

def strs (l : List ByteArray) : List FV := l.map .str
@[simp] theorem strs_len (l : List ByteArray) : (strs l).length = l.length := by simp [strs]
theorem strs_get {l : List ByteArray} {i : Nat} (h : i < l.length) : (strs l).getD i .nilp = .str (l.getD i ByteArray.empty) := by simp [strs, h]
@[simp] theorem strs_fits (l : List ByteArray) : (strs l).all (FV.fits 1 false) = true := all_fits_str l
def anyI (p : Nat → Bool) : Nat → Nat → Bool
  | 0, _ => false
  | m + 1, i => p i || anyI p m (i + 1)
def isN (l : List ByteArray) (i j : Nat) : Bool := decide (l.getD i ByteArray.empty = l.getD j ByteArray.empty)
def namedB (l : List ByteArray) : Bool := decide (1 ≤ l.length) && (decide (l.length ≤ 8) && allI (fun i => nmB (l.getD i ByteArray.empty) && !anyI (isN l i) i 0) l.length 0)

theorem named1 {K : Nat} (l : List ByteArray) (i : Nat) (hi : i < l.length) (h8 : l.length ≤ 8) (x0 x15 : List FV) (x16 x17 : Int) : ∀ (m j N : Nat), j + m = i → m < N →
    L_level_named_1_0 Rt K true N x0 (l.getD i ByteArray.empty) x15 x16 x17 ((strs l).take i) i j = some (match anyI (isN l i) m j with | true => (.ret, X_level_named_1_0 x0 false x15 x16 x17) | false => (.exit 2, X_level_named_1_1 x0 x15 x16 x17))
  | m, b, 0, _, h => by omega
  | 0, j, N + 1, h, _ => by
    rw [L_level_named_1_0_eq]
    simp [show ¬ ((j : Int) < (i : Int)) by omega, anyI]
  | m + 1, j, N + 1, h, hN => by
    have ih := named1 (K := K) l i hi h8 x0 x15 x16 x17 m (j + 1) N (by omega) (by omega)
    rw [L_level_named_1_0_eq]
    have hlt : decide ((j : Int) < (i : Int)) = true := by simp; omega
    have h00 : decide ((0 : Int) ≤ (j : Int)) = true := by simp
    have hlen : ((strs l).take i).length = i := by simp; omega
    have hg : ((strs l).take i).getD j .nilp = .str (l.getD j ByteArray.empty) := by
      rw [List.getD_eq_getElem?_getD, List.getElem?_take, if_pos (by omega), ← List.getD_eq_getElem?_getD, strs_get (by omega)]
    have w := wrn (show j < 1152921504606846976 by omega)
    simp only [hlen, hlt, h00, hg, ifB_true, when_true', Bool.and_true, Int.toNat_natCast, fits_str, isStr_str, toStr_str, w, ih, bytes_beq, anyI, isN]
    cases decide (l.getD i ByteArray.empty = l.getD j ByteArray.empty) <;> simp only [ifB_true, ifB_false, Bool.true_or, Bool.false_or]
theorem named2 {K : Nat} (l : List ByteArray) (h8 : l.length ≤ 8) (hK : 8 < K) : ∀ (m i N : Nat), i + m = l.length → m < N →
    onL (L_level_named_2_0 Rt K true N (strs l) (strs l) l.length i) (K_level_named_2 Rt K true) = some ([.fz (.bool (allI (fun i => nmB (l.getD i ByteArray.empty) && !anyI (isN l i) i 0) m i))], [])
  | m, b, 0, _, h => by omega
  | 0, i, N + 1, h, _ => by
    rw [L_level_named_2_0_eq]
    simp [show ¬ ((i : Int) < (l.length : Int)) by omega, onL_some, X_level_named_2_1_eq, allI]
  | m + 1, i, N + 1, h, hN => by
    have ih := named2 (K := K) l h8 hK m (i + 1) N (by omega) (by omega)
    rw [L_level_named_2_0_eq]
    have hlt : decide ((i : Int) < (l.length : Int)) = true := by simp; omega
    have hle : decide ((i : Int) ≤ (l.length : Int)) = true := by simp; omega
    have h00 : decide ((0 : Int) ≤ (i : Int)) = true := by simp
    have h01 : decide ((0 : Int) ≤ (0 : Int)) = true := by simp
    have hlen : ((strs l).take i).length = i := by simp; omega
    have n1 := named1 (K := K) l i (by omega) h8 (strs l) (strs l) l.length i i 0 K (by omega) (by omega)
    simp only [Int.natCast_zero] at n1
    have w := wrn (show i < 1152921504606846976 by omega)
    simp only [strs_len, hlt, hle, h00, Nat.le_refl, decide_true, strs_get (show i < l.length by omega), ifB_true, when_true', Bool.and_true, Int.toNat_natCast, fits_str, isStr_str, toStr_str, w, Name_ok, onR_some, List.isEmpty_nil, allF_cons, allF_nil, Bool.true_and, List.getD_cons_zero, toF_fz, isBool_bool, toBool_bool, strs_fits, List.drop_zero, hlen, n1, allI]
    cases nmB (l.getD i ByteArray.empty) with
    | false => simp only [Bool.not_false, ifB_true, onL_some, X_level_named_2_0_eq, Bool.false_and]
    | true =>
      simp only [Bool.not_true, ifB_false, Bool.true_and]
      cases anyI (isN l i) i 0 with
      | true => simp only [onL_some, X_level_named_1_0_eq, X_level_named_2_0_eq, Bool.not_true, Bool.false_and]
      | false => simp only [onL_some, X_level_named_1_1_eq, w, ih, Bool.not_false, Bool.true_and]
theorem named_ok (l : List ByteArray) : Rt N_level_named [.fz (.sl (strs l))] = some ([.fz (.bool (namedB l))], []) := by
  refine rt_call A_level_named rfl rfl 12 ?_
  rw [E_level_named, strs_len]
  unfold namedB
  by_cases h1 : 1 ≤ l.length
  · have g1 : decide ((l.length : Int) < 1) = false := by simp; omega
    by_cases h2 : l.length ≤ 8
    · have g2 : decide ((l.length : Int) > 8) = false := by simp; omega
      have n2 := named2 (K := 12) l h2 (by omega) l.length 0 12 (by omega) (by omega)
      simp only [Int.natCast_zero] at n2
      rw [g1, g2, ifB_false, ifB_false, jump_true, J_level_named_3_0_eq, strs_len, n2]
      simp [h1, h2]
    · have g2 : decide ((l.length : Int) > 8) = true := by simp; omega
      simp [g1, g2, h2]
  · have g1 : decide ((l.length : Int) < 1) = true := by simp; omega
    simp [g1, h1]

/-! Pairs. -/
def prs (l : List (Int × Int)) : List FV := l.map fun p => .ag [.int .i64 p.1, .int .i64 p.2]
@[simp] theorem prs_len (l : List (Int × Int)) : (prs l).length = l.length := by simp [prs]
theorem prs_get {l : List (Int × Int)} {i : Nat} (h : i < l.length) : (prs l).getD i .nilp = .ag [.int .i64 (l.getD i (0, 0)).1, .int .i64 (l.getD i (0, 0)).2] := by simp [prs, h]
def diag (n : Nat) : Tb := fun x y => decide (x = y) && decide (x < n)
theorem diag_succ (a : Nat) : bT (upd2 (diag a) a a true) = bT (diag (a + 1)) := bT_eq fun x y _ _ => by
  unfold upd2 diag
  by_cases e : x = a ∧ y = a
  · rw [if_pos e, e.1, e.2]; simp
  · rw [if_neg e, Bool.eq_iff_iff]; simp; omega
theorem laid1 {n K : Nat} (hn : n ≤ 8) (x1 : List FV) (y : FV) : ∀ (m a N : Nat), a + m = n → m < N →
    L_level_laid_1_0 Rt K true N n x1 n a y (bT (diag a)) = some (.exit 0, X_level_laid_1_0 n x1 y (bT (diag n)))
  | m, b, 0, _, h => by omega
  | 0, a, N + 1, h, _ => by
    rw [L_level_laid_1_0_eq]
    obtain rfl : a = n := by omega
    simp
  | m + 1, a, N + 1, h, hN => by
    have ha : a < 8 := by omega
    have ih := laid1 (K := K) hn x1 y m (a + 1) N (by omega) (by omega)
    rw [L_level_laid_1_0_eq]
    have hlt : decide ((a : Int) < (n : Int)) = true := by simp; omega
    simp only [hlt, ifB_true, lt8 ha, when_true', bT_ag, Int.toNat_natCast, Nat.zero_add, Nat.mul_one, bl64 ha ha, bT_set _ ha ha, diag_succ, Bool.and_true, wrn (show a < 1152921504606846976 by omega), ih]
def inP (n : Nat) (p : Int × Int) : Bool := !(decide (p.1 < 0)) && (!(decide (p.1 ≥ n)) && (!(decide (p.2 < 0)) && !(decide (p.2 ≥ n))))
theorem inP_iff {n : Nat} {p : Int × Int} : inP n p = true ↔ 0 ≤ p.1 ∧ p.1 < n ∧ 0 ≤ p.2 ∧ p.2 < n := by simp [inP]
def layP (f : Tb) (l : List (Int × Int)) : Tb := l.foldl (fun f p => upd2 f p.1.toNat p.2.toNat true) f
theorem layP_iff : ∀ {l : List (Int × Int)} {f : Tb} {x y : Nat}, layP f l x y = true ↔ f x y = true ∨ ∃ p ∈ l, p.1.toNat = x ∧ p.2.toNat = y
  | [], f, x, y => by simp [layP]
  | p :: l, f, x, y => by
    show layP (upd2 f p.1.toNat p.2.toNat true) l x y = true ↔ _
    rw [layP_iff (l := l)]
    unfold upd2
    by_cases e : x = p.1.toNat ∧ y = p.2.toNat
    · rw [if_pos e]
      constructor
      · rintro _; exact .inr ⟨p, List.mem_cons_self .., e.1.symm, e.2.symm⟩
      · rintro _; exact .inl rfl
    · rw [if_neg e]
      constructor
      · rintro (h | ⟨q, hq, h⟩)
        · exact .inl h
        · exact .inr ⟨q, List.mem_cons_of_mem _ hq, h⟩
      · rintro (h | ⟨q, hq, h⟩)
        · exact .inl h
        · rcases List.mem_cons.1 hq with rfl | hq
          · exact absurd ⟨h.1.symm, h.2.symm⟩ e
          · exact .inr ⟨q, hq, h⟩
theorem laid2 {n K : Nat} (hn : n ≤ 8) (l : List (Int × Int)) (h64 : l.length ≤ 64) (y : FV) : ∀ (m i N : Nat) (f : Tb), i + m = l.length → m < N →
    ∃ g, onL (L_level_laid_2_0 Rt K true N n (prs l) l.length i y (bT f)) (K_level_laid_2 Rt K true) = some ([.fz g, .fz (.bool ((l.drop i).all (inP n)))], []) ∧ FV.fits 64 true g = true ∧ ((l.drop i).all (inP n) = true → g = bT (layP f (l.drop i)))
  | m, b, 0, f, _, h => by omega
  | 0, i, N + 1, f, h, _ => by
    rw [L_level_laid_2_0_eq, List.drop_eq_nil_of_le (by omega)]
    exact ⟨bT f, by simp [show ¬ ((i : Int) < (l.length : Int)) by omega, onL_some, X_level_laid_2_1_eq], by simp, fun _ => rfl⟩
  | m + 1, i, N + 1, f, h, hN => by
    have hi : i < l.length := by omega
    have hd : l.drop i = l.getD i (0, 0) :: l.drop (i + 1) := by
      rw [List.drop_eq_getElem_cons hi]; simp [hi]
    rw [L_level_laid_2_0_eq, hd]
    have hlt : decide ((i : Int) < (l.length : Int)) = true := by simp; omega
    have h00 : decide ((0 : Int) ≤ (i : Int)) = true := by simp
    simp only [prs_len, hlt, h00, prs_get hi, ifB_true, when_true', Bool.and_true, Int.toNat_natCast, fits_ag, isAg_ag, cell_ag, List.length_cons, List.length_nil, List.getD_cons_zero, List.getD_cons_succ, isInt_int, toInt_int, beq_self_eq_true, bT_fits, List.all_cons]
    generalize hp : l.getD i (0, 0) = p
    by_cases q : inP n p = true
    · obtain ⟨q1, q2, q3, q4⟩ := inP_iff.1 q
      have d1 : decide (p.1 < 0) = false := by simp; omega
      have d2 : decide (p.1 ≥ n) = false := by simp; omega
      have d3 : decide (p.2 < 0) = false := by simp; omega
      have d4 : decide (p.2 ≥ n) = false := by simp; omega
      have a1 : p.1.toNat < 8 := by omega
      have a2 : p.2.toNat < 8 := by omega
      have b1 : (decide (0 ≤ p.1) && decide (p.1 < 8)) = true := by simp; omega
      have b2 : (decide (0 ≤ p.2) && decide (p.2 < 8)) = true := by simp; omega
      obtain ⟨g, h1, h2, h3⟩ := laid2 (K := K) hn l h64 y m (i + 1) N (upd2 f p.1.toNat p.2.toNat true) (by omega) (by omega)
      refine ⟨g, ?_, h2, ?_⟩
      · simp only [d1, d2, d3, d4, ifB_false, jump_true, J_level_laid_1_0_eq, isAg_ag, cell_ag, List.length_cons, List.length_nil, List.getD_cons_zero, List.getD_cons_succ, isInt_int, toInt_int, beq_self_eq_true, when_true', b1, b2, bT_ag, Bool.and_true, Nat.zero_add, Nat.mul_one, bl64 a1 a2, bT_set f a1 a2, wrn (show i < 1152921504606846976 by omega), h1, q, Bool.true_and]
      · rw [q, Bool.true_and]; exact h3
    · have q : inP n p = false := by simpa using q
      refine ⟨bT f, ?_, by simp, by rw [q]; simp⟩
      rw [q, Bool.false_and]
      by_cases d1 : p.1 < 0
      · simp [d1, onL_some, X_level_laid_2_0_eq]
      · by_cases d2 : p.1 ≥ n
        · simp [d1, d2, onL_some, X_level_laid_2_0_eq]
        · by_cases d3 : p.2 < 0
          · simp [d1, d2, d3, onL_some, X_level_laid_2_0_eq]
          · by_cases d4 : p.2 ≥ n
            · simp [d1, d2, d3, d4, onL_some, X_level_laid_2_0_eq]
            · simp [inP, d1, d2, d3, d4] at q
def laidB (n : Nat) (l : List (Int × Int)) : Bool := decide (l.length ≤ 64) && l.all (inP n)
theorem laid_ok {n : Nat} (hn : n ≤ 8) (l : List (Int × Int)) : ∃ g, Rt N_level_laid [.fz (.int .i64 n), .fz (.sl (prs l))] = some ([.fz g, .fz (.bool (laidB n l))], []) ∧ FV.fits 64 true g = true ∧ (laidB n l = true → g = bT (layP (diag n) l)) := by
  by_cases h : l.length ≤ 64
  · have hd : bT zT = bT (diag 0) := bT_eq fun a b _ _ => by simp [zT, diag]
    obtain ⟨g, h1, h2, h3⟩ := laid2 (K := 70) hn l h (bT zT) l.length 0 70 (diag n) (by omega) (by omega)
    simp only [Int.natCast_zero, List.drop_zero] at h1 h3
    have hb : laidB n l = l.all (inP n) := by simp [laidB, h]
    refine ⟨g, ?_, h2, by rw [hb]; exact h3⟩
    refine rt_call A_level_laid rfl rfl 70 ?_
    have hg : decide ((l.length : Int) > 64) = false := by simp; omega
    have h0 := laid1 (K := 70) hn (prs l) (bT zT) n 0 70 (by omega) (by omega)
    simp only [Int.natCast_zero] at h0
    rw [← hd] at h0
    rw [E_level_laid, prs_len, hg, ifB_false, z64, h0, onL_some, X_level_laid_1_0_eq, prs_len, h1, hb]
  · have hb : laidB n l = false := by simp [laidB, h]
    refine ⟨bT zT, ?_, by simp, by rw [hb]; simp⟩
    refine rt_call A_level_laid rfl rfl 70 ?_
    have hg : decide ((l.length : Int) > 64) = true := by simp; omega
    rw [E_level_laid, prs_len, hg, ifB_true, z64, hb]
end Go.Ab
