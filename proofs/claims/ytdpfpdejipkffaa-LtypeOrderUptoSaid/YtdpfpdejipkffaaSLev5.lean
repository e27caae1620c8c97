/- The reference's table of a policy is the closure of its pairs. -/
import Derived.Test.YtdpfpdejipkffaaSLev4
namespace Go.Ab
set_option linter.unusedVariables false
set_option linter.unusedSimpArgs false

abbrev Rw := Nat → Bool
def rowL (n : Nat) (p : Rw) : List FV := (List.range n).map fun i => .bool (p i)
@[simp] theorem rowL_len (n : Nat) (p : Rw) : (rowL n p).length = n := by simp [rowL]
theorem rowL_get {n i : Nat} (p : Rw) (h : i < n) : (rowL n p).getD i .nilp = .bool (p i) := by simp [rowL, h]
def setR (p : Rw) (j : Nat) : Rw := fun x => if x = j then true else p x
theorem rowL_set {n j : Nat} (p : Rw) : List.set (rowL n p) j (.bool true) = rowL n (setR p j) := by
  unfold rowL
  apply List.ext_getElem (by simp)
  intro i h1 h2
  rw [List.getElem_set]
  simp only [List.getElem_map, List.getElem_range, setR]
  by_cases e : j = i
  · rw [if_pos e, if_pos e.symm]
  · rw [if_neg e, if_neg (fun h => e h.symm)]
theorem rowL_zero (n : Nat) : List.replicate n (FV.bool false) = rowL n fun _ => false := by
  unfold rowL
  apply List.ext_getElem (by simp)
  intro i h1 h2
  simp
def rstep (p : Rw) (q : Int × Int) : Rw := if p q.1.toNat = true then setR p q.2.toNat else p
def rfold (p : Rw) (l : List (Int × Int)) : Rw := l.foldl rstep p
def riter (l : List (Int × Int)) : Nat → Rw → Rw
  | 0, p => p
  | m + 1, p => riter l m (rfold p l)
def rowOf (n : Nat) (l : List (Int × Int)) (a : Nat) : Rw := riter l n (setR (fun _ => false) a)

theorem tab1_0 {n K : Nat} (hn : n ≤ 8) (l : List (Int × Int)) (h64 : l.length ≤ 64) (hin : l.all (inP n) = true) (a r : Int) (nm pp : List FV) : ∀ (m i N : Nat) (p : Rw), i + m = l.length → m < N →
    L_ref01_Table_1_0 Rt K true N n a r i nm (prs l) pp (rowL n p) = some (.exit 4, X_ref01_Table_1_0 n a r nm (prs l) pp (rowL n (rfold p (l.drop i))))
  | m, b, 0, _, _, h => by omega
  | 0, i, N + 1, p, h, _ => by
    rw [L_ref01_Table_1_0_eq, List.drop_eq_nil_of_le (by omega)]
    simp [show ¬ ((i : Int) < (l.length : Int)) by omega, rfold]
  | m + 1, i, N + 1, p, h, hN => by
    have hi : i < l.length := by omega
    have hd : l.drop i = l.getD i (0, 0) :: l.drop (i + 1) := by
      rw [List.drop_eq_getElem_cons hi]; simp [hi]
    have hlt : decide ((i : Int) < (l.length : Int)) = true := by simp; omega
    have h00 : decide ((0 : Int) ≤ (i : Int)) = true := by simp
    have ih := fun p => tab1_0 (K := K) hn l h64 hin a r nm pp m (i + 1) N p (by omega) (by omega)
    have hq := List.all_eq_true.1 hin (l.getD i (0, 0)) (by simp [hi])
    rw [L_ref01_Table_1_0_eq, hd]
    simp only [prs_len, hlt, h00, prs_get hi, ifB_true, when_true', Bool.and_true, Int.toNat_natCast, fits_ag, isAg_ag, cell_ag, List.length_cons, List.length_nil, List.getD_cons_zero, List.getD_cons_succ, isInt_int, toInt_int, beq_self_eq_true, rowL_len]
    generalize l.getD i (0, 0) = q at hq
    obtain ⟨q1, q2, q3, q4⟩ := inP_iff.1 hq
    have b1 : (decide (0 ≤ q.1) && decide (q.1 < (n : Int))) = true := by simp; omega
    have b2 : (decide (0 ≤ q.2) && decide (q.2 < (n : Int))) = true := by simp; omega
    have c1 : Nat.blt q.1.toNat n = true := by rw [Nat.blt_eq]; omega
    have c2 : Nat.blt q.2.toNat n = true := by rw [Nat.blt_eq]; omega
    simp only [b1, b2, c1, c2, when_true', rowL_get p (show q.1.toNat < n by omega), isBool_bool, toBool_bool, rowL_set, wrn (show i < 1152921504606846976 by omega), ih]
    have hf : rfold p (q :: l.drop (i + 1)) = rfold (rstep p q) (l.drop (i + 1)) := rfl
    rw [hf]
    unfold rstep
    cases p q.1.toNat with
    | true => simp only [ifB_true, if_true]
    | false => simp only [ifB_false, Bool.false_eq_true, if_false]
theorem tab2_0 {n K : Nat} (hn : n ≤ 8) (l : List (Int × Int)) (h64 : l.length ≤ 64) (hin : l.all (inP n) = true) (hK : 65 < K) (a : Int) (nm pp : List FV) : ∀ (m i N : Nat) (p : Rw), i + m = n → m < N →
    L_ref01_Table_2_0 Rt K true N n a i nm (prs l) pp (rowL n p) = some (.exit 2, X_ref01_Table_2_0 n a nm (prs l) pp (rowL n (riter l m p)))
  | m, b, 0, _, _, h => by omega
  | 0, i, N + 1, p, h, _ => by
    rw [L_ref01_Table_2_0_eq]
    simp [show ¬ ((i : Int) < (n : Int)) by omega, riter]
  | m + 1, i, N + 1, p, h, hN => by
    have hlt : decide ((i : Int) < (n : Int)) = true := by simp; omega
    have ih := fun p => tab2_0 (K := K) hn l h64 hin hK a nm pp m (i + 1) N p (by omega) (by omega)
    have t1 := tab1_0 (K := K) hn l h64 hin a i nm pp l.length 0 K p (by omega) (by omega)
    simp only [Int.natCast_zero, List.drop_zero] at t1
    rw [L_ref01_Table_2_0_eq]
    simp only [hlt, ifB_true, t1, onL_some, X_ref01_Table_1_0_eq, wrn (show i < 1152921504606846976 by omega), ih, riter]

theorem tab1_1 {n K : Nat} (hn : n ≤ 8) (l : List (Int × Int)) (h64 : l.length ≤ 64) (hin : l.all (inP n) = true) (a r : Int) (nm pp : List FV) (rs : List FV) : ∀ (m i N : Nat) (p : Rw), i + m = l.length → m < N →
    L_ref01_Table_1_1 Rt K true N n a r i nm (prs l) pp rs (rowL n p) = some (.exit 4, X_ref01_Table_1_1 n a r nm (prs l) pp rs (rowL n (rfold p (l.drop i))))
  | m, b, 0, _, _, h => by omega
  | 0, i, N + 1, p, h, _ => by
    rw [L_ref01_Table_1_1_eq, List.drop_eq_nil_of_le (by omega)]
    simp [show ¬ ((i : Int) < (l.length : Int)) by omega, rfold]
  | m + 1, i, N + 1, p, h, hN => by
    have hi : i < l.length := by omega
    have hd : l.drop i = l.getD i (0, 0) :: l.drop (i + 1) := by
      rw [List.drop_eq_getElem_cons hi]; simp [hi]
    have hlt : decide ((i : Int) < (l.length : Int)) = true := by simp; omega
    have h00 : decide ((0 : Int) ≤ (i : Int)) = true := by simp
    have ih := fun p => tab1_1 (K := K) hn l h64 hin a r nm pp rs m (i + 1) N p (by omega) (by omega)
    have hq := List.all_eq_true.1 hin (l.getD i (0, 0)) (by simp [hi])
    rw [L_ref01_Table_1_1_eq, hd]
    simp only [prs_len, hlt, h00, prs_get hi, ifB_true, when_true', Bool.and_true, Int.toNat_natCast, fits_ag, isAg_ag, cell_ag, List.length_cons, List.length_nil, List.getD_cons_zero, List.getD_cons_succ, isInt_int, toInt_int, beq_self_eq_true, rowL_len]
    generalize l.getD i (0, 0) = q at hq
    obtain ⟨q1, q2, q3, q4⟩ := inP_iff.1 hq
    have b1 : (decide (0 ≤ q.1) && decide (q.1 < (n : Int))) = true := by simp; omega
    have b2 : (decide (0 ≤ q.2) && decide (q.2 < (n : Int))) = true := by simp; omega
    have c1 : Nat.blt q.1.toNat n = true := by rw [Nat.blt_eq]; omega
    have c2 : Nat.blt q.2.toNat n = true := by rw [Nat.blt_eq]; omega
    simp only [b1, b2, c1, c2, when_true', rowL_get p (show q.1.toNat < n by omega), isBool_bool, toBool_bool, rowL_set, wrn (show i < 1152921504606846976 by omega), ih]
    have hf : rfold p (q :: l.drop (i + 1)) = rfold (rstep p q) (l.drop (i + 1)) := rfl
    rw [hf]
    unfold rstep
    cases p q.1.toNat with
    | true => simp only [ifB_true, if_true]
    | false => simp only [ifB_false, Bool.false_eq_true, if_false]
theorem tab2_1 {n K : Nat} (hn : n ≤ 8) (l : List (Int × Int)) (h64 : l.length ≤ 64) (hin : l.all (inP n) = true) (hK : 65 < K) (a : Int) (nm pp : List FV) (rs : List FV) : ∀ (m i N : Nat) (p : Rw), i + m = n → m < N →
    L_ref01_Table_2_1 Rt K true N n a i nm (prs l) pp rs (rowL n p) = some (.exit 2, X_ref01_Table_2_1 n a nm (prs l) pp rs (rowL n (riter l m p)))
  | m, b, 0, _, _, h => by omega
  | 0, i, N + 1, p, h, _ => by
    rw [L_ref01_Table_2_1_eq]
    simp [show ¬ ((i : Int) < (n : Int)) by omega, riter]
  | m + 1, i, N + 1, p, h, hN => by
    have hlt : decide ((i : Int) < (n : Int)) = true := by simp; omega
    have ih := fun p => tab2_1 (K := K) hn l h64 hin hK a nm pp rs m (i + 1) N p (by omega) (by omega)
    have t1 := tab1_1 (K := K) hn l h64 hin a i nm pp rs l.length 0 K p (by omega) (by omega)
    simp only [Int.natCast_zero, List.drop_zero] at t1
    rw [L_ref01_Table_2_1_eq]
    simp only [hlt, ifB_true, t1, onL_some, X_ref01_Table_1_1_eq, wrn (show i < 1152921504606846976 by omega), ih, riter]

def tabL (n : Nat) (f : Nat → Rw) (m : Nat) : List FV := (List.range m).map fun a => .sl (rowL n (f a))
@[simp] theorem tabL_len (n : Nat) (f : Nat → Rw) (m : Nat) : (tabL n f m).length = m := by simp [tabL]
theorem tabL_succ (n : Nat) (f : Nat → Rw) (m : Nat) : tabL n f m ++ [.sl (rowL n (f m))] = tabL n f (m + 1) := by simp [tabL, List.range_succ]
theorem roomyT {n a : Nat} (hn : n ≤ 8) : (decide ((0 : Int) ≤ (n : Int)) && (decide ((n : Int) ≤ (n : Int)) && (decide (1 * (n : Int) ≤ roomy) && decide ((n : Int) ≤ roomy)))) = true := by
  have : roomy = 140737488355328 := rfl
  simp; omega
theorem tab3_1 {n K : Nat} (hn : n ≤ 8) (l : List (Int × Int)) (h64 : l.length ≤ 64) (hin : l.all (inP n) = true) (hK : 65 < K) (nm pp : List FV) : ∀ (m a N : Nat), a + m = n → m < N →
    onL (L_ref01_Table_3_1 Rt K true N n a nm (prs l) pp (tabL n (rowOf n l) a)) (K_ref01_Table_3 Rt K true) = some ([.fz (.sl (tabL n (rowOf n l) n))], [])
  | m, b, 0, _, h => by omega
  | 0, a, N + 1, h, _ => by
    obtain rfl : a = n := by omega
    rw [L_ref01_Table_3_1_eq]
    simp [onL_some, X_ref01_Table_3_1_eq]
  | m + 1, a, N + 1, h, hN => by
    have hlt : decide ((a : Int) < (n : Int)) = true := by simp; omega
    have h00 : decide ((0 : Int) ≤ (a : Int)) = true := by simp
    have hbl : Nat.blt a n = true := by rw [Nat.blt_eq]; omega
    have ih := tab3_1 (K := K) hn l h64 hin hK nm pp m (a + 1) N (by omega) (by omega)
    have t2 := tab2_1 (K := K) hn l h64 hin hK a nm pp (tabL n (rowOf n l) a) n 0 K (setR (fun _ => false) a) (by omega) (by omega)
    simp only [Int.natCast_zero] at t2
    have hro : (decide ((a + 1) * 24 ≤ roomy) && decide (a + 1 ≤ roomy)) = true := by
      have : roomy = 140737488355328 := rfl
      simp; omega
    rw [L_ref01_Table_3_1_eq]
    simp only [hlt, h00, ifB_true, roomyT (a := 0) hn, when_true', List.length_replicate, Int.toNat_natCast, hbl, Bool.and_true, rowL_zero, rowL_set, rowL_len, t2, onL_some, X_ref01_Table_2_1_eq, tabL_len, List.length_cons, List.length_nil, Nat.zero_add, hro, wrn (show a < 1152921504606846976 by omega)]
    have hs := tabL_succ n (rowOf n l) a
    unfold rowOf at hs
    unfold rowOf at ih ⊢
    rw [hs]
    exact ih
theorem Table_ok {names : List ByteArray} {pairs : List (Int × Int)} (pp : List FV) (hn : names.length ≤ 8) (hl : laidB names.length pairs = true) :
    Rt N_ref01_Table [.fz (polE names pairs pp)] = some ([.fz (.sl (tabL names.length (rowOf names.length pairs) names.length))], []) := by
  simp only [laidB, Bool.and_eq_true, decide_eq_true_eq] at hl
  refine rt_call A_ref01_Table rfl rfl 70 ?_
  unfold polE
  rw [E_ref01_Table, strs_len]
  generalize hnn : names.length = n at *
  cases n with
  | zero =>
    rw [L_ref01_Table_3_0_eq]
    simp [onL_some, X_ref01_Table_3_0_eq, tabL]
  | succ n =>
    have t2 := tab2_0 (K := 70) hn pairs hl.1 hl.2 (by omega) 0 (strs names) pp (n + 1) 0 70 (setR (fun _ => false) 0) (by omega) (by omega)
    have t3 := tab3_1 (K := 70) hn pairs hl.1 hl.2 (by omega) (strs names) pp n 1 69 (by omega) (by omega)
    simp only [Int.natCast_zero] at t2
    have hlt : decide ((0 : Int) < ((n + 1 : Nat) : Int)) = true := decide_eq_true (by omega)
    have hbl : Nat.blt 0 (n + 1) = true := by rw [Nat.blt_eq]; omega
    have hro : (decide (((0 : Nat) + (0 + 1)) * 24 ≤ roomy) && decide ((0 : Nat) + (0 + 1) ≤ roomy)) = true := by
      have : roomy = 140737488355328 := rfl
      simp; omega
    have z0 : ((0 : Int)).toNat = 0 := rfl
    have rm : (decide ((0 : Int) ≤ ((n + 1 : Nat) : Int)) && (decide (1 * ((n + 1 : Nat) : Int) ≤ roomy) && decide (((n + 1 : Nat) : Int) ≤ roomy))) = true := by
      have : roomy = 140737488355328 := rfl
      rw [Bool.and_eq_true, Bool.and_eq_true, decide_eq_true_eq, decide_eq_true_eq, decide_eq_true_eq]; omega
    have h01 : IntKind.wrap .i64 ((0 : Int) + 1) = ((1 : Nat) : Int) := by rw [wrap64 (by omega) (by omega)]; rfl
    have e1 : tabL (n + 1) (rowOf (n + 1) pairs) 1 = [.sl (rowL (n + 1) (rowOf (n + 1) pairs 0))] := rfl
    rw [e1] at t3
    rw [L_ref01_Table_3_0_eq]
    simp only [hlt, Int.le_refl, decide_true, ifB_true, rm, when_true', List.length_replicate, Int.toNat_natCast, z0, hbl, Bool.and_true, Bool.true_and, rowL_zero, rowL_set, rowL_len, t2, onL_some, X_ref01_Table_2_0_eq, h01, List.length_cons, List.length_nil, hro]
    exact t3

/-! The rows are the closure's. -/
def rcnt (n : Nat) (p : Rw) : Nat := ((List.range n).filter p).length
theorem rstep_le (p : Rw) (q : Int × Int) : ∀ x, p x = true → rstep p q x = true := fun x h => by
  unfold rstep setR
  split
  · show (if x = q.2.toNat then true else p x) = true
    split
    · rfl
    · exact h
  · exact h
theorem rfold_le : ∀ (l : List (Int × Int)) (p : Rw), ∀ x, p x = true → rfold p l x = true
  | [], p, x, h => h
  | q :: l, p, x, h => rfold_le l _ x (rstep_le p q x h)
theorem rfold_fix {n : Nat} : ∀ (l : List (Int × Int)) (p : Rw), l.all (inP n) = true → (∀ x, x < n → rfold p l x = p x) → ∀ q ∈ l, p q.1.toNat = true → p q.2.toNat = true
  | [], p, _, _, q, h => by cases h
  | s :: l, p, hin, hf, q, hq => by
    simp only [List.all_cons, Bool.and_eq_true] at hin
    have h1 : ∀ x, x < n → rstep p s x = p x := fun x hx => by
      cases hp : p x with
      | true => exact rstep_le p s x hp
      | false =>
        cases hs : rstep p s x with
        | false => rfl
        | true =>
          have := rfold_le l _ x hs
          have h2 := hf x hx
          rw [hp] at h2
          have h3 : rfold p (s :: l) x = rfold (rstep p s) l x := rfl
          rw [h3, this] at h2; cases h2
    rcases List.mem_cons.1 hq with rfl | hq
    · intro h
      obtain ⟨_, _, q3, q4⟩ := inP_iff.1 hin.1
      have := h1 q.2.toNat (by omega)
      unfold rstep at this
      rw [if_pos h] at this
      simpa [setR] using this.symm
    · have q0 := inP_iff.1 (List.all_eq_true.1 hin.2 q hq)
      have := rfold_fix l (rstep p s) hin.2 (fun x hx => (hf x hx).trans (h1 x hx).symm) q hq
      rwa [h1 _ (by omega), h1 _ (by omega)] at this
theorem riter_fix {n : Nat} (l : List (Int × Int)) (hin : l.all (inP n) = true) : ∀ (m : Nat) (p : Rw), n < m + rcnt n p → ∀ q ∈ l, riter l m p q.1.toNat = true → riter l m p q.2.toNat = true
  | 0, p, h => by
    have := List.length_filter_le p (List.range n)
    simp [rcnt] at h this; omega
  | m + 1, p, h => by
    show ∀ q ∈ l, riter l m (rfold p l) q.1.toNat = true → riter l m (rfold p l) q.2.toNat = true
    by_cases e : ∀ x, x < n → rfold p l x = p x
    · have fx := rfold_fix l p hin e
      have cl : ∀ (m : Nat) (p' : Rw), (∀ q ∈ l, p' q.1.toNat = true → p' q.2.toNat = true) → ∀ q ∈ l, riter l m p' q.1.toNat = true → riter l m p' q.2.toNat = true := by
        intro m
        induction m with
        | zero => exact fun p' h => h
        | succ m ih =>
          intro p' hp'
          refine ih (rfold p' l) ?_
          have same : ∀ (l' : List (Int × Int)), (∀ q ∈ l', p' q.1.toNat = true → p' q.2.toNat = true) → rfold p' l' = p' := by
            intro l'
            induction l' with
            | nil => intro _; rfl
            | cons s l' ih' =>
              intro hs
              have : rstep p' s = p' := by
                unfold rstep
                split
                · rename_i h1
                  funext x
                  unfold setR
                  split
                  · rename_i e; rw [e]; exact (hs s (List.mem_cons_self ..) h1).symm
                  · rfl
                · rfl
              show rfold (rstep p' s) l' = p'
              rw [this]
              exact ih' fun q hq => hs q (List.mem_cons_of_mem _ hq)
          rw [same l hp']; exact hp'
      refine cl m (rfold p l) ?_
      have : ∀ q ∈ l, rfold p l q.1.toNat = p q.1.toNat ∧ rfold p l q.2.toNat = p q.2.toNat := fun q hq => by
        have := inP_iff.1 (List.all_eq_true.1 hin q hq)
        exact ⟨e _ (by omega), e _ (by omega)⟩
      intro q hq
      rw [(this q hq).1, (this q hq).2]
      exact fx q hq
    · refine riter_fix l hin m (rfold p l) ?_
      have : rcnt n p < rcnt n (rfold p l) := by
        refine filt_lt _ (fun i _ => rfold_le l p i) ?_
        apply Classical.byContradiction
        intro hc
        apply e
        intro x hx
        cases hp : p x with
        | true => exact rfold_le l p x hp
        | false =>
          cases hq : rfold p l x with
          | false => rfl
          | true => exact absurd ⟨x, by simpa using hx, hp, hq⟩ hc
      omega
theorem riter_le (l : List (Int × Int)) : ∀ (m : Nat) (p : Rw), ∀ x, p x = true → riter l m p x = true
  | 0, p, x, h => h
  | m + 1, p, x, h => riter_le l m _ x (rfold_le l p x h)
theorem riter_sound {n a : Nat} {l : List (Int × Int)} {g : Tb} (hin : l.all (inP n) = true) (ha : a < n) (hc : Clo n (layP (diag n) l) g) : ∀ (m : Nat) (p : Rw), (∀ x, p x = true → x < n ∧ g a x = true) → ∀ x, riter l m p x = true → x < n ∧ g a x = true
  | 0, p, h => h
  | m + 1, p, h => by
    refine riter_sound hin ha hc m (rfold p l) ?_
    have step : ∀ (l' : List (Int × Int)), (∀ q ∈ l', q ∈ l) → ∀ p : Rw, (∀ x, p x = true → x < n ∧ g a x = true) → ∀ x, rfold p l' x = true → x < n ∧ g a x = true := by
      intro l'
      induction l' with
      | nil => exact fun _ p h => h
      | cons s l' ih =>
        intro hs p hp
        refine ih (fun q hq => hs q (List.mem_cons_of_mem _ hq)) (rstep p s) ?_
        intro x hx
        unfold rstep at hx
        split at hx
        · rename_i h1
          unfold setR at hx
          split at hx
          · rename_i e
            subst e
            have q0 := inP_iff.1 (List.all_eq_true.1 hin s (hs s (List.mem_cons_self ..)))
            refine ⟨by omega, hc.tr a s.1.toNat s.2.toNat ha (by omega) (by omega) (hp _ h1).2 (hc.le _ _ ?_)⟩
            exact layP_iff.2 (.inr ⟨s, hs s (List.mem_cons_self ..), rfl, rfl⟩)
          · exact hp x hx
        · exact hp x hx
    exact step l (fun _ h => h) p h
theorem rowOf_eq {n a : Nat} {l : List (Int × Int)} {g : Tb} (hin : l.all (inP n) = true) (ha : a < n) (hc : Clo n (layP (diag n) l) g) {b : Nat} (hb : b < n) : rowOf n l a b = g a b := by
  have hs : setR (fun _ => false) a a = true := by simp [setR]
  have fx := riter_fix (n := n) l hin n (setR (fun _ => false) a) (by
    have : 0 < rcnt n (setR (fun _ => false) a) := by
      refine List.length_pos_of_mem (a := a) ?_
      simp [ha, hs]
    omega)
  have self := riter_le l n (setR (fun _ => false) a) a hs
  rw [Bool.eq_iff_iff]
  constructor
  · intro h
    exact (riter_sound hin ha hc n (setR (fun _ => false) a) (fun x hx => by
      have : x = a := by simpa [setR] using hx
      subst this
      exact ⟨ha, hc.le _ _ (layP_iff.2 (.inl (by simp [diag, ha])))⟩) b h).2
  · intro h
    have := hc.least (fun x y => !rowOf n l a x || rowOf n l a y) (fun x y hxy => by
      rcases layP_iff.1 hxy with h1 | ⟨q, hq, rfl, rfl⟩
      · simp only [diag, Bool.and_eq_true, decide_eq_true_eq] at h1
        obtain ⟨rfl, _⟩ := h1
        simp
      · have := fx q hq
        simp only [Bool.or_eq_true, Bool.not_eq_true']
        cases h1 : rowOf n l a q.1.toNat with
        | false => exact .inl rfl
        | true => exact .inr (this h1)) (fun x y z _ _ _ h1 h2 => by
      simp only [Bool.or_eq_true, Bool.not_eq_true'] at h1 h2 ⊢
      rcases h1 with h1 | h1
      · exact .inl h1
      · rcases h2 with h2 | h2
        · rw [h1] at h2; cases h2
        · exact .inr h2) a b h
    simp only [Bool.or_eq_true, Bool.not_eq_true'] at this
    rcases this with h1 | h1
    · rw [show rowOf n l a a = true from self] at h1; cases h1
    · exact h1
theorem tab_is {n : Nat} {l : List (Int × Int)} {g : Tb} (hin : l.all (inP n) = true) (hc : Clo n (layP (diag n) l) g) : IsTab (tabL n (rowOf n l) n) (ltR n g) := by
  have hg : ∀ a, a < n → (tabL n (rowOf n l) n).getD a .nilp = .sl (rowL n (rowOf n l a)) := fun a ha => by simp [tabL, ha]
  refine ⟨by simp [ltR], fun a ha => ?_, fun a ha => ?_, fun a ha => ?_, fun a b ha hb => ?_⟩
  · rw [hg a ha]; rfl
  · rw [hg a ha]; rfl
  · rw [hg a ha, toSl_sl, rowL_len]; rfl
  · rw [hg a ha, toSl_sl, rowL_get _ (show b < n from hb), rowOf_eq hin ha hc hb]; rfl
end Go.Ab
