/- The row LedgerTexts, part 6 of 6: texts written for this work, merged by a program of the session. No condition. -/
import Derived.Deep.CondSized
import Derived.HandedShaped
import Derived.Test.YtfooakojccfflaaRows
import Derived.WalkKit
import Derived.ProofKit
import Derived.OpenShut
import Derived.ShutString
import Derived.ChangeOld
import Derived.Below
import Derived.SizedLaws
import Derived.Shelf.Vars
import Derived.JoinedCond
import Derived.Test.YtfooakojccfflaaMLedgerTexts5
set_option linter.unusedVariables false
set_option linter.unusedSimpArgs false
set_option linter.unusedSectionVars false
section
namespace Go.Ab
abbrev Rw := Nat → Bool
def rowL (n : Nat) (p : Rw) : List FV := (List.range n).map fun i => .bool (p i)
@[simp] theorem rowL_len (n : Nat) (p : Rw) : (rowL n p).length = n := by simp [rowL]
theorem rowL_get {n i : Nat} (p : Rw) (h : i < n) : (rowL n p).getD i .nilp = .bool (p i) := by simp [rowL, h]
def setR (p : Rw) (j : Nat) : Rw := fun x => if x = j then true else p x
theorem rowL_set {n j : Nat} (p : Rw) : List.set (rowL n p) j (.bool true) = rowL n (setR p j) := by
  unfold rowL
  apply List.ext_getElem (by simp)
  intro i h1 h2
  rw [List.getElem_set]
  simp only [List.getElem_map, List.getElem_range, setR]
  by_cases e : j = i
  · rw [if_pos e, if_pos e.symm]
  · rw [if_neg e, if_neg (fun h => e h.symm)]
theorem rowL_zero (n : Nat) : List.replicate n (FV.bool false) = rowL n fun _ => false := by
  unfold rowL
  apply List.ext_getElem (by simp)
  intro i h1 h2
  simp
def rstep (p : Rw) (q : Int × Int) : Rw := if p q.1.toNat = true then setR p q.2.toNat else p
def rfold (p : Rw) (l : List (Int × Int)) : Rw := l.foldl rstep p
def riter (l : List (Int × Int)) : Nat → Rw → Rw
  | 0, p => p
  | m + 1, p => riter l m (rfold p l)
def rowOf (n : Nat) (l : List (Int × Int)) (a : Nat) : Rw := riter l n (setR (fun _ => false) a)
theorem tab1_0 {n K : Nat} (hn : n ≤ 8) (l : List (Int × Int)) (h64 : l.length ≤ 64) (hin : l.all (inP n) = true) (a r : Int) (nm pp : List FV) : ∀ (m i N : Nat) (p : Rw), i + m = l.length → m < N →
    L_ref01_Table_1_0 Rt0 K true N n a r i nm (prs l) pp (rowL n p) = some (.exit 4, X_ref01_Table_1_0 n a r nm (prs l) pp (rowL n (rfold p (l.drop i))))
  | m, b, 0, _, _, h => by omega
  | 0, i, N + 1, p, h, _ => by
    rw [L_ref01_Table_1_0_eq, List.drop_eq_nil_of_le (by omega)]
    simp [show ¬ ((i : Int) < (l.length : Int)) by omega, rfold]
  | m + 1, i, N + 1, p, h, hN => by
    have hi : i < l.length := by omega
    have hd : l.drop i = l.getD i (0, 0) :: l.drop (i + 1) := by
      rw [List.drop_eq_getElem_cons hi]; simp [hi]
    have hlt : decide ((i : Int) < (l.length : Int)) = true := by simp; omega
    have h00 : decide ((0 : Int) ≤ (i : Int)) = true := by simp
    have ih := fun p => tab1_0 (K := K) hn l h64 hin a r nm pp m (i + 1) N p (by omega) (by omega)
    have hq := List.all_eq_true.1 hin (l.getD i (0, 0)) (by simp [hi])
    rw [L_ref01_Table_1_0_eq, hd]
    simp only [prs_len, hlt, h00, prs_get hi, ifB_true, when_true', Bool.and_true, Int.toNat_natCast, fits_ag, isAg_ag, cell_ag, List.length_cons, List.length_nil, List.getD_cons_zero, List.getD_cons_succ, isInt_int, toInt_int, beq_self_eq_true, rowL_len]
    generalize l.getD i (0, 0) = q at hq
    obtain ⟨q1, q2, q3, q4⟩ := inP_iff.1 hq
    have b1 : (decide (0 ≤ q.1) && decide (q.1 < (n : Int))) = true := by simp; omega
    have b2 : (decide (0 ≤ q.2) && decide (q.2 < (n : Int))) = true := by simp; omega
    have c1 : Nat.blt q.1.toNat n = true := by rw [Nat.blt_eq]; omega
    have c2 : Nat.blt q.2.toNat n = true := by rw [Nat.blt_eq]; omega
    simp only [b1, b2, c1, c2, when_true', rowL_get p (show q.1.toNat < n by omega), isBool_bool, toBool_bool, rowL_set, wrn (show i < 1152921504606846976 by omega), ih]
    have hf : rfold p (q :: l.drop (i + 1)) = rfold (rstep p q) (l.drop (i + 1)) := rfl
    rw [hf]
    unfold rstep
    cases p q.1.toNat with
    | true => simp only [ifB_true, if_true]
    | false => simp only [ifB_false, Bool.false_eq_true, if_false]
theorem tab2_0 {n K : Nat} (hn : n ≤ 8) (l : List (Int × Int)) (h64 : l.length ≤ 64) (hin : l.all (inP n) = true) (hK : 65 < K) (a : Int) (nm pp : List FV) : ∀ (m i N : Nat) (p : Rw), i + m = n → m < N →
    L_ref01_Table_2_0 Rt0 K true N n a i nm (prs l) pp (rowL n p) = some (.exit 2, X_ref01_Table_2_0 n a nm (prs l) pp (rowL n (riter l m p)))
  | m, b, 0, _, _, h => by omega
  | 0, i, N + 1, p, h, _ => by
    rw [L_ref01_Table_2_0_eq]
    simp [show ¬ ((i : Int) < (n : Int)) by omega, riter]
  | m + 1, i, N + 1, p, h, hN => by
    have hlt : decide ((i : Int) < (n : Int)) = true := by simp; omega
    have ih := fun p => tab2_0 (K := K) hn l h64 hin hK a nm pp m (i + 1) N p (by omega) (by omega)
    have t1 := tab1_0 (K := K) hn l h64 hin a i nm pp l.length 0 K p (by omega) (by omega)
    simp only [Int.natCast_zero, List.drop_zero] at t1
    rw [L_ref01_Table_2_0_eq]
    simp only [hlt, ifB_true, t1, onL_some, X_ref01_Table_1_0_eq, wrn (show i < 1152921504606846976 by omega), ih, riter]
theorem tab1_1 {n K : Nat} (hn : n ≤ 8) (l : List (Int × Int)) (h64 : l.length ≤ 64) (hin : l.all (inP n) = true) (a r : Int) (nm pp : List FV) (rs : List FV) : ∀ (m i N : Nat) (p : Rw), i + m = l.length → m < N →
    L_ref01_Table_1_1 Rt0 K true N n a r i nm (prs l) pp rs (rowL n p) = some (.exit 4, X_ref01_Table_1_1 n a r nm (prs l) pp rs (rowL n (rfold p (l.drop i))))
  | m, b, 0, _, _, h => by omega
  | 0, i, N + 1, p, h, _ => by
    rw [L_ref01_Table_1_1_eq, List.drop_eq_nil_of_le (by omega)]
    simp [show ¬ ((i : Int) < (l.length : Int)) by omega, rfold]
  | m + 1, i, N + 1, p, h, hN => by
    have hi : i < l.length := by omega
    have hd : l.drop i = l.getD i (0, 0) :: l.drop (i + 1) := by
      rw [List.drop_eq_getElem_cons hi]; simp [hi]
    have hlt : decide ((i : Int) < (l.length : Int)) = true := by simp; omega
    have h00 : decide ((0 : Int) ≤ (i : Int)) = true := by simp
    have ih := fun p => tab1_1 (K := K) hn l h64 hin a r nm pp rs m (i + 1) N p (by omega) (by omega)
    have hq := List.all_eq_true.1 hin (l.getD i (0, 0)) (by simp [hi])
    rw [L_ref01_Table_1_1_eq, hd]
    simp only [prs_len, hlt, h00, prs_get hi, ifB_true, when_true', Bool.and_true, Int.toNat_natCast, fits_ag, isAg_ag, cell_ag, List.length_cons, List.length_nil, List.getD_cons_zero, List.getD_cons_succ, isInt_int, toInt_int, beq_self_eq_true, rowL_len]
    generalize l.getD i (0, 0) = q at hq
    obtain ⟨q1, q2, q3, q4⟩ := inP_iff.1 hq
    have b1 : (decide (0 ≤ q.1) && decide (q.1 < (n : Int))) = true := by simp; omega
    have b2 : (decide (0 ≤ q.2) && decide (q.2 < (n : Int))) = true := by simp; omega
    have c1 : Nat.blt q.1.toNat n = true := by rw [Nat.blt_eq]; omega
    have c2 : Nat.blt q.2.toNat n = true := by rw [Nat.blt_eq]; omega
    simp only [b1, b2, c1, c2, when_true', rowL_get p (show q.1.toNat < n by omega), isBool_bool, toBool_bool, rowL_set, wrn (show i < 1152921504606846976 by omega), ih]
    have hf : rfold p (q :: l.drop (i + 1)) = rfold (rstep p q) (l.drop (i + 1)) := rfl
    rw [hf]
    unfold rstep
    cases p q.1.toNat with
    | true => simp only [ifB_true, if_true]
    | false => simp only [ifB_false, Bool.false_eq_true, if_false]
theorem tab2_1 {n K : Nat} (hn : n ≤ 8) (l : List (Int × Int)) (h64 : l.length ≤ 64) (hin : l.all (inP n) = true) (hK : 65 < K) (a : Int) (nm pp : List FV) (rs : List FV) : ∀ (m i N : Nat) (p : Rw), i + m = n → m < N →
    L_ref01_Table_2_1 Rt0 K true N n a i nm (prs l) pp rs (rowL n p) = some (.exit 2, X_ref01_Table_2_1 n a nm (prs l) pp rs (rowL n (riter l m p)))
  | m, b, 0, _, _, h => by omega
  | 0, i, N + 1, p, h, _ => by
    rw [L_ref01_Table_2_1_eq]
    simp [show ¬ ((i : Int) < (n : Int)) by omega, riter]
  | m + 1, i, N + 1, p, h, hN => by
    have hlt : decide ((i : Int) < (n : Int)) = true := by simp; omega
    have ih := fun p => tab2_1 (K := K) hn l h64 hin hK a nm pp rs m (i + 1) N p (by omega) (by omega)
    have t1 := tab1_1 (K := K) hn l h64 hin a i nm pp rs l.length 0 K p (by omega) (by omega)
    simp only [Int.natCast_zero, List.drop_zero] at t1
    rw [L_ref01_Table_2_1_eq]
    simp only [hlt, ifB_true, t1, onL_some, X_ref01_Table_1_1_eq, wrn (show i < 1152921504606846976 by omega), ih, riter]
def tabL (n : Nat) (f : Nat → Rw) (m : Nat) : List FV := (List.range m).map fun a => .sl (rowL n (f a))
@[simp] theorem tabL_len (n : Nat) (f : Nat → Rw) (m : Nat) : (tabL n f m).length = m := by simp [tabL]
theorem tabL_succ (n : Nat) (f : Nat → Rw) (m : Nat) : tabL n f m ++ [.sl (rowL n (f m))] = tabL n f (m + 1) := by simp [tabL, List.range_succ]
theorem roomyT {n a : Nat} (hn : n ≤ 8) : (decide ((0 : Int) ≤ (n : Int)) && (decide ((n : Int) ≤ (n : Int)) && (decide (1 * (n : Int) ≤ roomy) && decide ((n : Int) ≤ roomy)))) = true := by
  have : roomy = 140737488355328 := rfl
  simp; omega
theorem tab3_1 {n K : Nat} (hn : n ≤ 8) (l : List (Int × Int)) (h64 : l.length ≤ 64) (hin : l.all (inP n) = true) (hK : 65 < K) (nm pp : List FV) : ∀ (m a N : Nat), a + m = n → m < N →
    onL (L_ref01_Table_3_1 Rt0 K true N n a nm (prs l) pp (tabL n (rowOf n l) a)) (K_ref01_Table_3 Rt0 K true) = some ([.fz (.sl (tabL n (rowOf n l) n))], [])
  | m, b, 0, _, h => by omega
  | 0, a, N + 1, h, _ => by
    obtain rfl : a = n := by omega
    rw [L_ref01_Table_3_1_eq]
    simp [onL_some, X_ref01_Table_3_1_eq]
  | m + 1, a, N + 1, h, hN => by
    have hlt : decide ((a : Int) < (n : Int)) = true := by simp; omega
    have h00 : decide ((0 : Int) ≤ (a : Int)) = true := by simp
    have hbl : Nat.blt a n = true := by rw [Nat.blt_eq]; omega
    have ih := tab3_1 (K := K) hn l h64 hin hK nm pp m (a + 1) N (by omega) (by omega)
    have t2 := tab2_1 (K := K) hn l h64 hin hK a nm pp (tabL n (rowOf n l) a) n 0 K (setR (fun _ => false) a) (by omega) (by omega)
    simp only [Int.natCast_zero] at t2
    have hro : (decide ((a + 1) * 24 ≤ roomy) && decide (a + 1 ≤ roomy)) = true := by
      have : roomy = 140737488355328 := rfl
      simp; omega
    rw [L_ref01_Table_3_1_eq]
    simp only [hlt, h00, ifB_true, roomyT (a := 0) hn, when_true', List.length_replicate, Int.toNat_natCast, hbl, Bool.and_true, rowL_zero, rowL_set, rowL_len, t2, onL_some, X_ref01_Table_2_1_eq, tabL_len, List.length_cons, List.length_nil, Nat.zero_add, hro, wrn (show a < 1152921504606846976 by omega)]
    have hs := tabL_succ n (rowOf n l) a
    unfold rowOf at hs
    unfold rowOf at ih ⊢
    rw [hs]
    exact ih
theorem Table_ok {names : List ByteArray} {pairs : List (Int × Int)} (pp : List FV) (hn : names.length ≤ 8) (hl : laidB names.length pairs = true) :
    Rt0 N_ref01_Table [.fz (polE names pairs pp)] = some ([.fz (.sl (tabL names.length (rowOf names.length pairs) names.length))], []) := by
  simp only [laidB, Bool.and_eq_true, decide_eq_true_eq] at hl
  refine rt_call0 A_ref01_Table rfl rfl 70 ?_
  unfold polE
  rw [E_ref01_Table, strs_len]
  generalize hnn : names.length = n at *
  cases n with
  | zero =>
    rw [L_ref01_Table_3_0_eq]
    simp [onL_some, X_ref01_Table_3_0_eq, tabL]
  | succ n =>
    have t2 := tab2_0 (K := 70) hn pairs hl.1 hl.2 (by omega) 0 (strs names) pp (n + 1) 0 70 (setR (fun _ => false) 0) (by omega) (by omega)
    have t3 := tab3_1 (K := 70) hn pairs hl.1 hl.2 (by omega) (strs names) pp n 1 69 (by omega) (by omega)
    simp only [Int.natCast_zero] at t2
    have hlt : decide ((0 : Int) < ((n + 1 : Nat) : Int)) = true := decide_eq_true (by omega)
    have hbl : Nat.blt 0 (n + 1) = true := by rw [Nat.blt_eq]; omega
    have hro : (decide (((0 : Nat) + (0 + 1)) * 24 ≤ roomy) && decide ((0 : Nat) + (0 + 1) ≤ roomy)) = true := by
      have : roomy = 140737488355328 := rfl
      simp; omega
    have z0 : ((0 : Int)).toNat = 0 := rfl
    have rm : (decide ((0 : Int) ≤ ((n + 1 : Nat) : Int)) && (decide (1 * ((n + 1 : Nat) : Int) ≤ roomy) && decide (((n + 1 : Nat) : Int) ≤ roomy))) = true := by
      have : roomy = 140737488355328 := rfl
      rw [Bool.and_eq_true, Bool.and_eq_true, decide_eq_true_eq, decide_eq_true_eq, decide_eq_true_eq]; omega
    have h01 : IntKind.wrap .i64 ((0 : Int) + 1) = ((1 : Nat) : Int) := by rw [wrap64 (by omega) (by omega)]; rfl
    have e1 : tabL (n + 1) (rowOf (n + 1) pairs) 1 = [.sl (rowL (n + 1) (rowOf (n + 1) pairs 0))] := rfl
    rw [e1] at t3
    rw [L_ref01_Table_3_0_eq]
    simp only [hlt, Int.le_refl, decide_true, ifB_true, rm, when_true', List.length_replicate, Int.toNat_natCast, z0, hbl, Bool.and_true, Bool.true_and, rowL_zero, rowL_set, rowL_len, t2, onL_some, X_ref01_Table_2_0_eq, h01, List.length_cons, List.length_nil, hro]
    exact t3
def rcnt (n : Nat) (p : Rw) : Nat := ((List.range n).filter p).length
theorem rstep_le (p : Rw) (q : Int × Int) : ∀ x, p x = true → rstep p q x = true := fun x h => by
  unfold rstep setR
  split
  · show (if x = q.2.toNat then true else p x) = true
    split
    · rfl
    · exact h
  · exact h
theorem rfold_le : ∀ (l : List (Int × Int)) (p : Rw), ∀ x, p x = true → rfold p l x = true
  | [], p, x, h => h
  | q :: l, p, x, h => rfold_le l _ x (rstep_le p q x h)
theorem rfold_fix {n : Nat} : ∀ (l : List (Int × Int)) (p : Rw), l.all (inP n) = true → (∀ x, x < n → rfold p l x = p x) → ∀ q ∈ l, p q.1.toNat = true → p q.2.toNat = true
  | [], p, _, _, q, h => by cases h
  | s :: l, p, hin, hf, q, hq => by
    simp only [List.all_cons, Bool.and_eq_true] at hin
    have h1 : ∀ x, x < n → rstep p s x = p x := fun x hx => by
      cases hp : p x with
      | true => exact rstep_le p s x hp
      | false =>
        cases hs : rstep p s x with
        | false => rfl
        | true =>
          have := rfold_le l _ x hs
          have h2 := hf x hx
          rw [hp] at h2
          have h3 : rfold p (s :: l) x = rfold (rstep p s) l x := rfl
          rw [h3, this] at h2; cases h2
    rcases List.mem_cons.1 hq with rfl | hq
    · intro h
      obtain ⟨_, _, q3, q4⟩ := inP_iff.1 hin.1
      have := h1 q.2.toNat (by omega)
      unfold rstep at this
      rw [if_pos h] at this
      simpa [setR] using this.symm
    · have q0 := inP_iff.1 (List.all_eq_true.1 hin.2 q hq)
      have := rfold_fix l (rstep p s) hin.2 (fun x hx => (hf x hx).trans (h1 x hx).symm) q hq
      rwa [h1 _ (by omega), h1 _ (by omega)] at this
theorem riter_fix {n : Nat} (l : List (Int × Int)) (hin : l.all (inP n) = true) : ∀ (m : Nat) (p : Rw), n < m + rcnt n p → ∀ q ∈ l, riter l m p q.1.toNat = true → riter l m p q.2.toNat = true
  | 0, p, h => by
    have := List.length_filter_le p (List.range n)
    simp [rcnt] at h this; omega
  | m + 1, p, h => by
    show ∀ q ∈ l, riter l m (rfold p l) q.1.toNat = true → riter l m (rfold p l) q.2.toNat = true
    by_cases e : ∀ x, x < n → rfold p l x = p x
    · have fx := rfold_fix l p hin e
      have cl : ∀ (m : Nat) (p' : Rw), (∀ q ∈ l, p' q.1.toNat = true → p' q.2.toNat = true) → ∀ q ∈ l, riter l m p' q.1.toNat = true → riter l m p' q.2.toNat = true := by
        intro m
        induction m with
        | zero => exact fun p' h => h
        | succ m ih =>
          intro p' hp'
          refine ih (rfold p' l) ?_
          have same : ∀ (l' : List (Int × Int)), (∀ q ∈ l', p' q.1.toNat = true → p' q.2.toNat = true) → rfold p' l' = p' := by
            intro l'
            induction l' with
            | nil => intro _; rfl
            | cons s l' ih' =>
              intro hs
              have : rstep p' s = p' := by
                unfold rstep
                split
                · rename_i h1
                  funext x
                  unfold setR
                  split
                  · rename_i e; rw [e]; exact (hs s (List.mem_cons_self ..) h1).symm
                  · rfl
                · rfl
              show rfold (rstep p' s) l' = p'
              rw [this]
              exact ih' fun q hq => hs q (List.mem_cons_of_mem _ hq)
          rw [same l hp']; exact hp'
      refine cl m (rfold p l) ?_
      have : ∀ q ∈ l, rfold p l q.1.toNat = p q.1.toNat ∧ rfold p l q.2.toNat = p q.2.toNat := fun q hq => by
        have := inP_iff.1 (List.all_eq_true.1 hin q hq)
        exact ⟨e _ (by omega), e _ (by omega)⟩
      intro q hq
      rw [(this q hq).1, (this q hq).2]
      exact fx q hq
    · refine riter_fix l hin m (rfold p l) ?_
      have : rcnt n p < rcnt n (rfold p l) := by
        refine filt_lt _ (fun i _ => rfold_le l p i) ?_
        apply Classical.byContradiction
        intro hc
        apply e
        intro x hx
        cases hp : p x with
        | true => exact rfold_le l p x hp
        | false =>
          cases hq : rfold p l x with
          | false => rfl
          | true => exact absurd ⟨x, by simpa using hx, hp, hq⟩ hc
      omega
theorem riter_le (l : List (Int × Int)) : ∀ (m : Nat) (p : Rw), ∀ x, p x = true → riter l m p x = true
  | 0, p, x, h => h
  | m + 1, p, x, h => riter_le l m _ x (rfold_le l p x h)
theorem riter_sound {n a : Nat} {l : List (Int × Int)} {g : Tb} (hin : l.all (inP n) = true) (ha : a < n) (hc : Clo n (layP (diag n) l) g) : ∀ (m : Nat) (p : Rw), (∀ x, p x = true → x < n ∧ g a x = true) → ∀ x, riter l m p x = true → x < n ∧ g a x = true
  | 0, p, h => h
  | m + 1, p, h => by
    refine riter_sound hin ha hc m (rfold p l) ?_
    have step : ∀ (l' : List (Int × Int)), (∀ q ∈ l', q ∈ l) → ∀ p : Rw, (∀ x, p x = true → x < n ∧ g a x = true) → ∀ x, rfold p l' x = true → x < n ∧ g a x = true := by
      intro l'
      induction l' with
      | nil => exact fun _ p h => h
      | cons s l' ih =>
        intro hs p hp
        refine ih (fun q hq => hs q (List.mem_cons_of_mem _ hq)) (rstep p s) ?_
        intro x hx
        unfold rstep at hx
        split at hx
        · rename_i h1
          unfold setR at hx
          split at hx
          · rename_i e
            subst e
            have q0 := inP_iff.1 (List.all_eq_true.1 hin s (hs s (List.mem_cons_self ..)))
            refine ⟨by omega, hc.tr a s.1.toNat s.2.toNat ha (by omega) (by omega) (hp _ h1).2 (hc.le _ _ ?_)⟩
            exact layP_iff.2 (.inr ⟨s, hs s (List.mem_cons_self ..), rfl, rfl⟩)
          · exact hp x hx
        · exact hp x hx
    exact step l (fun _ h => h) p h
theorem rowOf_eq {n a : Nat} {l : List (Int × Int)} {g : Tb} (hin : l.all (inP n) = true) (ha : a < n) (hc : Clo n (layP (diag n) l) g) {b : Nat} (hb : b < n) : rowOf n l a b = g a b := by
  have hs : setR (fun _ => false) a a = true := by simp [setR]
  have fx := riter_fix (n := n) l hin n (setR (fun _ => false) a) (by
    have : 0 < rcnt n (setR (fun _ => false) a) := by
      refine List.length_pos_of_mem (a := a) ?_
      simp [ha, hs]
    omega)
  have self := riter_le l n (setR (fun _ => false) a) a hs
  rw [Bool.eq_iff_iff]
  constructor
  · intro h
    exact (riter_sound hin ha hc n (setR (fun _ => false) a) (fun x hx => by
      have : x = a := by simpa [setR] using hx
      subst this
      exact ⟨ha, hc.le _ _ (layP_iff.2 (.inl (by simp [diag, ha])))⟩) b h).2
  · intro h
    have := hc.least (fun x y => !rowOf n l a x || rowOf n l a y) (fun x y hxy => by
      rcases layP_iff.1 hxy with h1 | ⟨q, hq, rfl, rfl⟩
      · simp only [diag, Bool.and_eq_true, decide_eq_true_eq] at h1
        obtain ⟨rfl, _⟩ := h1
        simp
      · have := fx q hq
        simp only [Bool.or_eq_true, Bool.not_eq_true']
        cases h1 : rowOf n l a q.1.toNat with
        | false => exact .inl rfl
        | true => exact .inr (this h1)) (fun x y z _ _ _ h1 h2 => by
      simp only [Bool.or_eq_true, Bool.not_eq_true'] at h1 h2 ⊢
      rcases h1 with h1 | h1
      · exact .inl h1
      · rcases h2 with h2 | h2
        · rw [h1] at h2; cases h2
        · exact .inr h2) a b h
    simp only [Bool.or_eq_true, Bool.not_eq_true'] at this
    rcases this with h1 | h1
    · rw [show rowOf n l a a = true from self] at h1; cases h1
    · exact h1
theorem tab_is {n : Nat} {l : List (Int × Int)} {g : Tb} (hin : l.all (inP n) = true) (hc : Clo n (layP (diag n) l) g) : IsTab (tabL n (rowOf n l) n) (ltR n g) := by
  have hg : ∀ a, a < n → (tabL n (rowOf n l) n).getD a .nilp = .sl (rowL n (rowOf n l a)) := fun a ha => by simp [tabL, ha]
  refine ⟨by simp [ltR], fun a ha => ?_, fun a ha => ?_, fun a ha => ?_, fun a b ha hb => ?_⟩
  · rw [hg a ha]; rfl
  · rw [hg a ha]; rfl
  · rw [hg a ha, toSl_sl, rowL_len]; rfl
  · rw [hg a ha, toSl_sl, rowL_get _ (show b < n from hb), rowOf_eq hin ha hc hb]; rfl
end Go.Ab
end
section
namespace Go.Ab
theorem dlt {a n : Nat} (h : a < n) : (decide ((0 : Int) ≤ (a : Int)) && decide ((a : Int) < (n : Int))) = true := by simp; omega
def lubC (g : Tb) (n a b c : Nat) : Bool := (g a c && g b c) && allI (fun d => !g a d || (!g b d || g c d)) n 0
theorem lubC_iff {g : Tb} {n a b c : Nat} (hc : c < n) : lubC g n a b c = true ↔ IsLub g n a b c := by
  simp only [lubC, Bool.and_eq_true, allI_iff]
  constructor
  · rintro ⟨⟨h1, h2⟩, h3⟩
    refine ⟨hc, h1, h2, fun d hd x y => ?_⟩
    have := h3 d (by omega) (by omega)
    simpa [x, y] using this
  · rintro ⟨_, h1, h2, h3⟩
    refine ⟨⟨h1, h2⟩, fun d _ hd => ?_⟩
    cases q1 : g a d with
    | false => simp
    | true =>
      cases q2 : g b d with
      | false => simp
      | true => simp [h3 d (by omega) q1 q2]
def flt (p : Nat → Bool) : Nat → Nat → List Nat
  | 0, _ => []
  | m + 1, c => match p c with | true => c :: flt p m (c + 1) | false => flt p m (c + 1)
theorem flt_none {p : Nat → Bool} : ∀ {m c : Nat}, (∀ x, c ≤ x → x < c + m → p x = false) → flt p m c = []
  | 0, _, _ => rfl
  | m + 1, c, h => by
    simp only [flt, h c (by omega) (by omega)]
    exact flt_none fun x h1 h2 => h x (by omega) (by omega)
theorem flt_one {p : Nat → Bool} {j : Nat} (hj : p j = true) : ∀ {m c : Nat}, (∀ x, c ≤ x → x < c + m → p x = true → x = j) → c ≤ j → j < c + m → flt p m c = [j]
  | 0, c, _, h1, h2 => by omega
  | m + 1, c, h, h1, h2 => by
    simp only [flt]
    by_cases e : c = j
    · subst e
      rw [hj]
      simp only
      rw [flt_none fun x h3 h4 => by
        cases q : p x with
        | false => rfl
        | true => have := h x (by omega) (by omega) q; omega]
    · cases q : p c with
      | true => exact absurd (h c (by omega) (by omega) q) e
      | false => exact flt_one hj (fun x h3 h4 => h x (by omega) (by omega)) (by omega) (by omega)
def ints (l : List Nat) : List FV := l.map fun (n : Nat) => .int .i64 (n : Int)
theorem rj1_0 {t : List FV} {L : Lt} (T : IsTab t L) (h8 : L.n ≤ 8) {a b c K : Nat} (ha : a < L.n) (hb : b < L.n) (hc : c < L.n) : ∀ (m d N : Nat) (is : Bool), d + m = L.n → m < N →
    L_ref01_Join_1_0 Rt0 K true N t a b c is d = some (.exit 2, X_ref01_Join_1_0 t a b c (is && allI (fun d => !L.leq a d || (!L.leq b d || L.leq c d)) m d))
  | m, d, 0, _, _, h => by omega
  | 0, d, N + 1, is, h, _ => by
    rw [L_ref01_Join_1_0_eq, T.len]
    simp [show ¬ ((d : Int) < (L.n : Int)) by omega, allI]
  | m + 1, d, N + 1, is, h, hN => by
    have hd : d < L.n := by omega
    have ih := fun is => rj1_0 T h8 (K := K) ha hb hc m (d + 1) N is (by omega) (by omega)
    have hlt : decide ((d : Int) < (L.n : Int)) = true := by simp; omega
    rw [L_ref01_Join_1_0_eq, T.len]
    simp only [dlt ha, dlt hb, dlt hc, dlt hd, Int.toNat_natCast, T.fits a ha, T.fits b hb, T.fits c hc, T.sl a ha, T.sl b hb, T.sl c hc, T.rlen a ha, T.rlen b hb, T.rlen c hc, T.cell a d ha hd, T.cell b d hb hd, T.cell c d hc hd, fits_bool, isBool_bool, toBool_bool, when_true', wrn (show d < 1152921504606846976 by omega), ih, allI]
    rw [hlt, ifB_true]
    cases L.leq a d <;> cases L.leq b d <;> cases L.leq c d <;> simp only [ifB_true, ifB_false, Bool.not_true, Bool.not_false, Bool.true_or, Bool.false_or, Bool.true_and, Bool.and_true, Bool.false_and, Bool.and_false]
theorem rj1_1 {t : List FV} {L : Lt} (T : IsTab t L) (h8 : L.n ≤ 8) {a b c K : Nat} (ha : a < L.n) (hb : b < L.n) (hc : c < L.n) (acc : List FV) : ∀ (m d N : Nat) (is : Bool), d + m = L.n → m < N →
    L_ref01_Join_1_1 Rt0 K true N t a b c is d acc = some (.exit 2, X_ref01_Join_1_1 t a b c (is && allI (fun d => !L.leq a d || (!L.leq b d || L.leq c d)) m d) acc)
  | m, d, 0, _, _, h => by omega
  | 0, d, N + 1, is, h, _ => by
    rw [L_ref01_Join_1_1_eq, T.len]
    simp [show ¬ ((d : Int) < (L.n : Int)) by omega, allI]
  | m + 1, d, N + 1, is, h, hN => by
    have hd : d < L.n := by omega
    have ih := fun is => rj1_1 T h8 (K := K) ha hb hc acc m (d + 1) N is (by omega) (by omega)
    have hlt : decide ((d : Int) < (L.n : Int)) = true := by simp; omega
    rw [L_ref01_Join_1_1_eq, T.len]
    simp only [dlt ha, dlt hb, dlt hc, dlt hd, Int.toNat_natCast, T.fits a ha, T.fits b hb, T.fits c hc, T.sl a ha, T.sl b hb, T.sl c hc, T.rlen a ha, T.rlen b hb, T.rlen c hc, T.cell a d ha hd, T.cell b d hb hd, T.cell c d hc hd, fits_bool, isBool_bool, toBool_bool, when_true', wrn (show d < 1152921504606846976 by omega), ih, allI]
    rw [hlt, ifB_true]
    cases L.leq a d <;> cases L.leq b d <;> cases L.leq c d <;> simp only [ifB_true, ifB_false, Bool.not_true, Bool.not_false, Bool.true_or, Bool.false_or, Bool.true_and, Bool.and_true, Bool.false_and, Bool.and_false]
theorem rj2_1 {t : List FV} {L : Lt} (T : IsTab t L) (h8 : L.n ≤ 8) {a b K : Nat} (ha : a < L.n) (hb : b < L.n) (hK : 9 < K) : ∀ (m c N : Nat) (acc : List Nat), c + m = L.n → acc.length ≤ c → m < N →
    onL (L_ref01_Join_2_1 Rt0 K true N t a b c (ints acc)) (K_ref01_Join_2 Rt0 K true) = some ([.fz (.sl (ints (acc ++ flt (lubC L.leq L.n a b) m c)))], [])
  | m, d, 0, _, _, _, h => by omega
  | 0, c, N + 1, acc, h, _, _ => by
    rw [L_ref01_Join_2_1_eq, T.len]
    simp [show ¬ ((c : Int) < (L.n : Int)) by omega, flt, onL_some, X_ref01_Join_2_1_eq]
  | m + 1, c, N + 1, acc, h, hac, hN => by
    have hc : c < L.n := by omega
    have hlt : decide ((c : Int) < (L.n : Int)) = true := by simp; omega
    have ih := fun acc => rj2_1 T h8 (K := K) ha hb hK m (c + 1) N acc (by omega)
    have i1 := fun is => rj1_1 T h8 (K := K) ha hb hc (ints acc) L.n 0 K is (by omega) (by omega)
    simp only [Int.natCast_zero] at i1
    rw [L_ref01_Join_2_1_eq, T.len]
    simp only [dlt ha, dlt hb, dlt hc, Int.toNat_natCast, T.fits a ha, T.fits b hb, T.sl a ha, T.sl b hb, T.rlen a ha, T.rlen b hb, T.cell a c ha hc, T.cell b c hb hc, fits_bool, isBool_bool, toBool_bool, when_true', jump_true, J_ref01_Join_2_1_eq, i1, onL_some, X_ref01_Join_1_1_eq, wrn (show c < 1152921504606846976 by omega), flt]
    rw [hlt, ifB_true]
    have hro : (decide (((ints acc).length + [FV.int .i64 (c : Int)].length) * 8 ≤ roomy) && decide ((ints acc).length + [FV.int .i64 (c : Int)].length ≤ roomy)) = true := by
      have : roomy = 140737488355328 := rfl
      simp [ints]; omega
    have hap : ints acc ++ [FV.int .i64 (c : Int)] = ints (acc ++ [c]) := by simp [ints]
    simp only [hro, when_true', hap]
    have hl : lubC L.leq L.n a b c = ((L.leq a c && L.leq b c) && allI (fun d => !L.leq a d || (!L.leq b d || L.leq c d)) L.n 0) := rfl
    cases q1 : L.leq a c with
    | false =>
      have : lubC L.leq L.n a b c = false := by rw [hl, q1]; rfl
      simp only [this, ifB_false, Bool.false_and]
      exact ih acc (by omega) (by omega)
    | true =>
      have : lubC L.leq L.n a b c = (L.leq b c && allI (fun d => !L.leq a d || (!L.leq b d || L.leq c d)) L.n 0) := by rw [hl, q1]; rfl
      rw [this]
      simp only [ifB_true]
      cases (L.leq b c && allI (fun d => !L.leq a d || (!L.leq b d || L.leq c d)) L.n 0) with
      | false => simp only [ifB_false]; exact ih acc (by omega) (by omega)
      | true =>
        simp only [ifB_true]
        rw [ih (acc ++ [c]) (by simp; omega) (by omega), List.append_assoc]; rfl
theorem rj2_0 {t : List FV} {L : Lt} (T : IsTab t L) (h8 : L.n ≤ 8) {a b K : Nat} (ha : a < L.n) (hb : b < L.n) (hK : 9 < K) : ∀ (m c N : Nat), c + m = L.n → m < N →
    onL (L_ref01_Join_2_0 Rt0 K true N t a b c) (K_ref01_Join_2 Rt0 K true) = some ([.fz (.sl (ints (flt (lubC L.leq L.n a b) m c)))], [])
  | m, d, 0, _, h => by omega
  | 0, c, N + 1, h, _ => by
    rw [L_ref01_Join_2_0_eq, T.len]
    simp [show ¬ ((c : Int) < (L.n : Int)) by omega, flt, onL_some, X_ref01_Join_2_0_eq, ints]
  | m + 1, c, N + 1, h, hN => by
    have hc : c < L.n := by omega
    have hlt : decide ((c : Int) < (L.n : Int)) = true := by simp; omega
    have ih := rj2_0 T h8 (K := K) ha hb hK m (c + 1) N (by omega) (by omega)
    have i1 := fun is => rj1_0 T h8 (K := K) ha hb hc L.n 0 K is (by omega) (by omega)
    simp only [Int.natCast_zero] at i1
    rw [L_ref01_Join_2_0_eq, T.len]
    simp only [dlt ha, dlt hb, dlt hc, Int.toNat_natCast, T.fits a ha, T.fits b hb, T.sl a ha, T.sl b hb, T.rlen a ha, T.rlen b hb, T.cell a c ha hc, T.cell b c hb hc, fits_bool, isBool_bool, toBool_bool, when_true', jump_true, J_ref01_Join_2_0_eq, i1, onL_some, X_ref01_Join_1_0_eq, wrn (show c < 1152921504606846976 by omega), flt]
    rw [hlt, ifB_true]
    have hro : (decide (((0 : Nat) + [FV.int .i64 (c : Int)].length) * 8 ≤ roomy) && decide ((0 : Nat) + [FV.int .i64 (c : Int)].length ≤ roomy)) = true := by
      have : roomy = 140737488355328 := rfl
      rw [this]; rfl
    have hap : [FV.int .i64 (c : Int)] = ints [c] := by simp [ints]
    have i2 := rj2_1 T h8 (K := K) ha hb hK m (c + 1) N [c] (by omega) (by simp) (by omega)
    simp only [hro, when_true']
    rw [hap]
    have hl : lubC L.leq L.n a b c = ((L.leq a c && L.leq b c) && allI (fun d => !L.leq a d || (!L.leq b d || L.leq c d)) L.n 0) := rfl
    cases q1 : L.leq a c with
    | false =>
      have : lubC L.leq L.n a b c = false := by rw [hl, q1]; rfl
      simp only [this, ifB_false, Bool.false_and]
      exact ih
    | true =>
      have : lubC L.leq L.n a b c = (L.leq b c && allI (fun d => !L.leq a d || (!L.leq b d || L.leq c d)) L.n 0) := by rw [hl, q1]; rfl
      rw [this]
      simp only [ifB_true]
      cases (L.leq b c && allI (fun d => !L.leq a d || (!L.leq b d || L.leq c d)) L.n 0) with
      | false => simp only [ifB_false]; exact ih
      | true =>
        simp only [ifB_true]
        rw [i2]; rfl
theorem rJoin_ok {t : List FV} {L : Lt} (T : IsTab t L) (h8 : L.n ≤ 8) {a b : Nat} (ha : a < L.n) (hb : b < L.n) : Rt0 N_ref01_Join [.fz (.sl t), .fz (.int .i64 a), .fz (.int .i64 b)] = some ([.fz (.sl (ints (flt (lubC L.leq L.n a b) L.n 0)))], []) := by
  refine rt_call0 A_ref01_Join rfl rfl 12 ?_
  rw [E_ref01_Join]
  exact rj2_0 T h8 ha hb (by omega) L.n 0 12 (by omega) (by omega)
theorem flt_join {L : Lt} (O : L.Ok) {a b : Nat} (ha : a < L.n) (hb : b < L.n) : flt (lubC L.leq L.n a b) L.n 0 = [L.join a b] := by
  have hj := O.join a b ha hb
  refine flt_one ((lubC_iff hj).2 ⟨hj, O.joinl a b ha hb, O.joinr a b ha hb, fun d hd x y => O.joinm a b d ha hb hd x y⟩) (fun x _ hx q => ?_) (by omega) (by omega)
  obtain ⟨q1, q2, q3, q4⟩ := (lubC_iff (by omega)).1 q
  exact O.anti x _ q1 hj (q4 _ hj (O.joinl a b ha hb) (O.joinr a b ha hb)) (O.joinm a b x ha hb q1 q2 q3)
end Go.Ab
end
section
namespace Go.Ab
theorem join9_ok {t : List FV} {L : Lt} (T : IsTab t L) (O : L.Ok) {a b : Nat} (ha : a < L.n) (hb : b < L.n) : Rt0 N_ref09_Join [.fz (.sl t), .fz (.int .i64 a), .fz (.int .i64 b)] = some ([.fz (.int .i64 (L.join a b))], []) := by
  refine rt_call0 A_ref09_Join rfl rfl 0 ?_
  rw [E_ref09_Join, rJoin_ok T O.n8 ha hb, flt_join O ha hb]
  simp [onR_some, ints]
end Go.Ab
end
section
namespace Go.Ab
mutual
def labB (L : Lt) : ND → Bool
  | .mk a _ _ _ _ _ is _ => L.is a && labBs L is
def labBs (L : Lt) : List ND → Bool
  | [] => true
  | v :: r => labB L v && labBs L r
end
mutual
def deepN (L : Lt) : ND → Nat
  | .mk a _ _ _ _ _ is _ => deepNs L a.toNat is
def deepNs (L : Lt) : Nat → List ND → Nat
  | acc, [] => acc
  | acc, v :: r => deepNs L (L.join acc (deepN L v)) r
end
mutual
def rightB (L : Lt) : ND → Bool
  | .mk a d k c s t is ks => decide (d = (deepNs L a.toNat is : Int)) && rightBs L is
def rightBs (L : Lt) : List ND → Bool
  | [] => true
  | v :: r => rightB L v && rightBs L r
end
theorem labB_mk (L : Lt) (a d k c s : Int) (t : ByteArray) (is : List ND) (ks : List ByteArray) : labB L (.mk a d k c s t is ks) = (L.is a && labBs L is) := by simp [labB]
theorem labBs_iff {L : Lt} : ∀ {l : List ND}, labBs L l = true ↔ ∀ v ∈ l, labB L v = true
  | [] => by simp [labBs]
  | v :: r => by simp [labBs, labBs_iff (l := r)]
theorem rightBs_iff {L : Lt} : ∀ {l : List ND}, rightBs L l = true ↔ ∀ v ∈ l, rightB L v = true
  | [] => by simp [rightBs]
  | v :: r => by simp [rightBs, rightBs_iff (l := r)]
theorem deepN_mk (L : Lt) (a d k c s : Int) (t : ByteArray) (is : List ND) (ks : List ByteArray) : deepN L (.mk a d k c s t is ks) = deepNs L a.toNat is := by simp [deepN]
theorem rightB_mk (L : Lt) (a d k c s : Int) (t : ByteArray) (is : List ND) (ks : List ByteArray) : rightB L (.mk a d k c s t is ks) = (decide (d = (deepNs L a.toNat is : Int)) && rightBs L is) := by simp [rightB]
mutual
theorem deepN_lt {L : Lt} (O : L.Ok) : ∀ v : ND, labB L v = true → deepN L v < L.n
  | .mk a d k c s t is ks, h => by
    rw [labB_mk, Bool.and_eq_true] at h
    have := Lt.is_iff.1 h.1
    rw [deepN_mk]
    exact deepNs_lt O is a.toNat (by omega) h.2
theorem deepNs_lt {L : Lt} (O : L.Ok) : ∀ (l : List ND) (acc : Nat), acc < L.n → labBs L l = true → deepNs L acc l < L.n
  | [], acc, h, _ => h
  | v :: r, acc, h, hl => by
    simp only [labBs, Bool.and_eq_true] at hl
    exact deepNs_lt O r _ (O.join _ _ h (deepN_lt O v hl.1)) hl.2
end
theorem labels_ok {t9 : List FV} {L : Lt} (T : IsTab t9 L) {v : ND} (hv : v.Sm) : Rt0 N_ref09_Labels [.fz (.sl t9), .fz v.enc] = some ([.fz (.bool (labB L v))], []) := by
  induction hv with
  | @mk a d k c s t is ks hi hk ht hs h ih =>
    have loop : ∀ (j : Nat) (i : Nat), i + j = is.length → onL (L_ref09_Labels_1_0 Rt0 (is.length + 1) true (j + 1) t9 i a d k c s t (is.map ND.enc) (ks.map .str)) (K_ref09_Labels_1 Rt0 (is.length + 1) true) = some ([.fz (.bool (labBs L (is.drop i)))], []) := by
      intro j
      induction j with
      | zero =>
        intro i hij
        rw [L_ref09_Labels_1_0_eq, List.drop_eq_nil_of_le (by omega)]
        simp [show ¬ ((i : Int) < (is.length : Int)) by omega, onL_some, X_ref09_Labels_1_1_eq, labBs]
      | succ j jh =>
        intro i hij
        have hl : i < is.length := by omega
        have h1 := ih is[i] (List.getElem_mem hl)
        have h2 := jh (i + 1) (by omega)
        push_cast at h2
        have hw : IntKind.wrap .i64 ((i : Int) + 1) = (i : Int) + 1 := wrap64 (by omega) (by omega)
        rw [L_ref09_Labels_1_0_eq, drop_cons hl, labBs]
        cases hq : labB L is[i] with
        | true =>
          rw [hq] at h1
          simp [show (i : Int) < (is.length : Int) by omega, List.getElem?_eq_getElem hl, h1, onR_some, hw, h2]
        | false =>
          rw [hq] at h1
          simp [show (i : Int) < (is.length : Int) by omega, List.getElem?_eq_getElem hl, h1, onR_some, onL_some, X_ref09_Labels_1_0_eq]
    have l0 := loop is.length 0 (by omega)
    rw [show ((0 : Nat) : Int) = 0 from rfl, List.drop_zero] at l0
    refine rt_call0 A_ref09_Labels rfl rfl (is.length + 1) ?_
    rw [ND.enc_mk, E_ref09_Labels, T.len, labB_mk]
    unfold Lt.is
    by_cases h1 : a < 0
    · simp [h1]; omega
    · by_cases h2 : a ≥ L.n
      · simp [h1, h2]; omega
      · rw [decide_eq_false h1, decide_eq_false h2, ifB_false, ifB_false, jump_true, J_ref09_Labels_2_0_eq, l0, decide_eq_true (show 0 ≤ a by omega), decide_eq_true (show a < L.n by omega)]
        rfl
theorem deep9_ok {t9 : List FV} {L : Lt} (T : IsTab t9 L) (O : L.Ok) {v : ND} (hv : v.Sm) : labB L v = true → Rt0 N_ref09_Deep [.fz (.sl t9), .fz v.enc] = some ([.fz (.int .i64 (deepN L v))], []) := by
  induction hv with
  | @mk a d k c s t is ks hi hk ht hs h ih =>
    intro hlab
    rw [labB_mk, Bool.and_eq_true] at hlab
    have ha := Lt.is_iff.1 hlab.1
    have loop : ∀ (j : Nat) (i acc : Nat), acc < L.n → i + j = is.length → L_ref09_Deep_1_0 Rt0 (is.length + 1) true (j + 1) t9 acc i a d k c s t (is.map ND.enc) (ks.map .str) = some (.exit 0, X_ref09_Deep_1_0 (deepNs L acc (is.drop i) : Nat)) := by
      intro j
      induction j with
      | zero =>
        intro i acc hacc hij
        rw [L_ref09_Deep_1_0_eq, List.drop_eq_nil_of_le (by omega)]
        simp [show ¬ ((i : Int) < (is.length : Int)) by omega, deepNs]
      | succ j jh =>
        intro i acc hacc hij
        have hl : i < is.length := by omega
        have hli := labBs_iff.1 hlab.2 is[i] (List.getElem_mem hl)
        have h1 := ih is[i] (List.getElem_mem hl) hli
        have hd := deepN_lt O is[i] hli
        have hj := join9_ok T O hacc hd
        have h2 := jh (i + 1) (L.join acc (deepN L is[i])) (O.join _ _ hacc hd) (by omega)
        push_cast at h2
        have hw : IntKind.wrap .i64 ((i : Int) + 1) = (i : Int) + 1 := wrap64 (by omega) (by omega)
        rw [L_ref09_Deep_1_0_eq, drop_cons hl, deepNs]
        simp [show (i : Int) < (is.length : Int) by omega, List.getElem?_eq_getElem hl, h1, hj, onR_some, hw, h2]
    have l0 := loop is.length 0 a.toNat (by omega) (by omega)
    rw [show ((0 : Nat) : Int) = 0 from rfl, List.drop_zero, Int.toNat_of_nonneg ha.1] at l0
    refine rt_call0 A_ref09_Deep rfl rfl (is.length + 1) ?_
    rw [ND.enc_mk, E_ref09_Deep, l0, onL_some, X_ref09_Deep_1_0_eq, deepN_mk]
theorem right_ok {t9 : List FV} {L : Lt} (T : IsTab t9 L) (O : L.Ok) {v : ND} (hv : v.Sm) : labB L v = true → Rt0 N_ref09_right [.fz (.sl t9), .fz v.enc] = some ([.fz (.bool (rightB L v))], []) := by
  induction hv with
  | @mk a d k c s t is ks hi hk ht hs h ih =>
    intro hlab
    have hdeep := deep9_ok T O (ND.Sm.mk (a := a) (d := d) (k := k) (c := c) (s := s) hi hk ht hs h) hlab
    rw [labB_mk, Bool.and_eq_true] at hlab
    have loop : ∀ (j : Nat) (i : Nat), i + j = is.length → onL (L_ref09_right_1_0 Rt0 (is.length + 1) true (j + 1) t9 i a d k c s t (is.map ND.enc) (ks.map .str)) (K_ref09_right_1 Rt0 (is.length + 1) true) = some ([.fz (.bool (rightBs L (is.drop i)))], []) := by
      intro j
      induction j with
      | zero =>
        intro i hij
        rw [L_ref09_right_1_0_eq, List.drop_eq_nil_of_le (by omega)]
        simp [show ¬ ((i : Int) < (is.length : Int)) by omega, onL_some, X_ref09_right_1_1_eq, rightBs]
      | succ j jh =>
        intro i hij
        have hl : i < is.length := by omega
        have h1 := ih is[i] (List.getElem_mem hl) (labBs_iff.1 hlab.2 is[i] (List.getElem_mem hl))
        have h2 := jh (i + 1) (by omega)
        push_cast at h2
        have hw : IntKind.wrap .i64 ((i : Int) + 1) = (i : Int) + 1 := wrap64 (by omega) (by omega)
        rw [L_ref09_right_1_0_eq, drop_cons hl, rightBs]
        cases hq : rightB L is[i] with
        | true =>
          rw [hq] at h1
          simp [show (i : Int) < (is.length : Int) by omega, List.getElem?_eq_getElem hl, h1, onR_some, hw, h2]
        | false =>
          rw [hq] at h1
          simp [show (i : Int) < (is.length : Int) by omega, List.getElem?_eq_getElem hl, h1, onR_some, onL_some, X_ref09_right_1_0_eq]
    have l0 := loop is.length 0 (by omega)
    rw [show ((0 : Nat) : Int) = 0 from rfl, List.drop_zero] at l0
    rw [deepN_mk] at hdeep
    refine rt_call0 A_ref09_right rfl rfl (is.length + 1) ?_
    rw [ND.enc_mk] at hdeep ⊢
    rw [E_ref09_right, hdeep, rightB_mk]
    by_cases q : d = (deepNs L a.toNat is : Int)
    · have e : (d != (deepNs L a.toNat is : Int)) = false := by simp [q]
      simp only [onR_some, List.isEmpty_nil, allF_cons, allF_nil, Bool.and_true, when_true', List.getD_cons_zero, toF_fz, isInt_int, toInt_int, e, ifB_false, l0, decide_eq_true q, Bool.true_and]
    · have e : (d != (deepNs L a.toNat is : Int)) = true := by simpa using q
      simp only [onR_some, List.isEmpty_nil, allF_cons, allF_nil, Bool.and_true, when_true', List.getD_cons_zero, toF_fz, isInt_int, toInt_int, e, ifB_true, decide_eq_false q, Bool.false_and]
end Go.Ab
end
section
namespace Go.Ab
mutual
def strip : ND → JV
  | .mk _ _ k c s t is ks => .mk k c s t (strips is) ks
def strips : List ND → List JV
  | [] => []
  | v :: r => strip v :: strips r
end
theorem strips_eq : ∀ l : List ND, strips l = l.map strip
  | [] => by simp [strips]
  | v :: r => by simp [strips, strips_eq r]
theorem strip_mk (a d k c s : Int) (t : ByteArray) (is : List ND) (ks : List ByteArray) : strip (.mk a d k c s t is ks) = .mk k c s t (is.map strip) ks := by simp [strip, strips_eq]
theorem strip_ok {v : ND} (hv : v.Sm) : Rt0 N_ref09_Strip [.fz v.enc] = some ([.fz (strip v).enc], []) := by
  induction hv with
  | @mk a d k c s t is ks hi hk ht hs h ih =>
    have hroom : roomy = 140737488355328 := rfl
    have z2 : ∀ (z0 z1 z2 : Int) (z3 : ByteArray) (j i : Nat) (acc : List JV), i + j = is.length → acc.length = i → onL (L_ref09_Strip_1_2 Rt0 (is.length + 1) true (j + 1) i a d k c s t (is.map ND.enc) (ks.map .str) z0 z1 z2 z3 k c s t (acc.map JV.enc)) (K_ref09_Strip_1 Rt0 (is.length + 1) true) = some ([.fz (JV.mk k c s t (acc ++ (is.drop i).map strip) []).enc], []) := by
      intro z0 z1 z2 z3 j
      induction j with
      | zero =>
        intro i acc hij hac
        rw [L_ref09_Strip_1_2_eq, List.drop_eq_nil_of_le (by omega), JV.enc_mk]
        simp [show ¬ ((i : Int) < (is.length : Int)) by omega, onL_some, X_ref09_Strip_1_2_eq]
      | succ j jh =>
        intro i acc hij hac
        have hl : i < is.length := by omega
        have h1 := ih is[i] (List.getElem_mem hl)
        have h2 := jh (i + 1) (acc ++ [strip is[i]]) (by omega) (by simp; omega)
        push_cast at h2
        rw [List.map_append, List.map_singleton, List.append_assoc, List.singleton_append] at h2
        have hw : IntKind.wrap .i64 ((i : Int) + 1) = (i : Int) + 1 := wrap64 (by omega) (by omega)
        have hro : (decide (((acc.map JV.enc).length + [(strip is[i]).enc].length) * 88 ≤ roomy) && decide ((acc.map JV.enc).length + [(strip is[i]).enc].length ≤ roomy)) = true := by simp; omega
        rw [L_ref09_Strip_1_2_eq, drop_cons hl, List.map_cons]
        have hg : (is.map ND.enc).getD i .nilp = (is[i]).enc := by simp [hl]
        simp only [List.length_map, decide_eq_true (show (i : Int) < (is.length : Int) by omega), decide_eq_true (show (0 : Int) ≤ (i : Int) by omega), ifB_true, Bool.and_true, when_true', Int.toNat_natCast, hg, ND.enc_fits, h1, onR_some, List.isEmpty_nil, allF_cons, allF_nil, List.getD_cons_zero, toF_fz, JV.enc_fits, hw] at hro ⊢
        simp only [hro, when_true', h2]
    have z3 : ∀ (z0 z1 z2 : Int) (z3 : ByteArray) (j i : Nat) (acc : List JV), i + j = is.length → acc.length = i → onL (L_ref09_Strip_1_3 Rt0 (is.length + 1) true (j + 1) i a d k c s t (is.map ND.enc) (ks.map .str) z0 z1 z2 z3 k c s t (acc.map JV.enc) (ks.map .str)) (K_ref09_Strip_1 Rt0 (is.length + 1) true) = some ([.fz (JV.mk k c s t (acc ++ (is.drop i).map strip) ks).enc], []) := by
      intro z0 z1 z2 z3 j
      induction j with
      | zero =>
        intro i acc hij hac
        rw [L_ref09_Strip_1_3_eq, List.drop_eq_nil_of_le (by omega), JV.enc_mk]
        simp [show ¬ ((i : Int) < (is.length : Int)) by omega, onL_some, X_ref09_Strip_1_3_eq]
      | succ j jh =>
        intro i acc hij hac
        have hl : i < is.length := by omega
        have h1 := ih is[i] (List.getElem_mem hl)
        have h2 := jh (i + 1) (acc ++ [strip is[i]]) (by omega) (by simp; omega)
        push_cast at h2
        rw [List.map_append, List.map_singleton, List.append_assoc, List.singleton_append] at h2
        have hw : IntKind.wrap .i64 ((i : Int) + 1) = (i : Int) + 1 := wrap64 (by omega) (by omega)
        have hro : (decide (((acc.map JV.enc).length + [(strip is[i]).enc].length) * 88 ≤ roomy) && decide ((acc.map JV.enc).length + [(strip is[i]).enc].length ≤ roomy)) = true := by simp; omega
        rw [L_ref09_Strip_1_3_eq, drop_cons hl, List.map_cons]
        have hg : (is.map ND.enc).getD i .nilp = (is[i]).enc := by simp [hl]
        simp only [List.length_map, decide_eq_true (show (i : Int) < (is.length : Int) by omega), decide_eq_true (show (0 : Int) ≤ (i : Int) by omega), ifB_true, Bool.and_true, when_true', Int.toNat_natCast, hg, ND.enc_fits, h1, onR_some, List.isEmpty_nil, allF_cons, allF_nil, List.getD_cons_zero, toF_fz, JV.enc_fits, hw] at hro ⊢
        simp only [hro, when_true', h2]
    rw [strip_mk]
    refine rt_call0 A_ref09_Strip rfl rfl (is.length + 1) ?_
    rw [ND.enc_mk, E_ref09_Strip]
    have hr0 : (decide (((0 : Nat) + (ks.map FV.str).length) * 16 ≤ roomy) && decide ((0 : Nat) + (ks.map FV.str).length ≤ roomy)) = true := by simp; omega
    rw [all_fits_str, when_true', hr0, when_true']
    have hone : ∀ x : JV, (decide (((0 : Nat) + [x.enc].length) * 88 ≤ roomy) && decide ((0 : Nat) + [x.enc].length ≤ roomy)) = true := fun x => rfl
    have w0 : IntKind.wrap .i64 ((0 : Int) + 1) = ((1 : Nat) : Int) := by rw [wrap64 (by omega) (by omega)]; rfl
    have d0 : decide ((0 : Int) ≤ 0) = true := by decide
    have t0 : (0 : Int).toNat = 0 := rfl
    cases ks with
    | nil =>
      rw [show (List.map FV.str ([] : List ByteArray)).isEmpty = true from rfl, ifB_true, L_ref09_Strip_1_0_eq]
      cases is with
      | nil => simp [onL_some, X_ref09_Strip_1_0_eq, JV.enc_mk]
      | cons x xs =>
        have h1 := ih x (List.mem_cons_self ..)
        have h2 := z2 0 0 0 (⟨#[]⟩ : ByteArray) (xs.length - 0) 1 [strip x] (by simp; omega) rfl
        have hz := hone (strip x)
        simp only [List.map_cons, List.map_nil, List.length_cons, List.length_map, decide_eq_true (show (0 : Int) < ((xs.length + 1 : Nat) : Int) by omega), d0, t0, ifB_true, Bool.and_true, when_true', List.getD_cons_zero, ND.enc_fits, h1, onR_some, List.isEmpty_nil, allF_cons, allF_nil, toF_fz, JV.enc_fits, w0, Nat.sub_zero, List.drop_succ_cons, List.drop_zero, List.singleton_append] at h2 hz ⊢
        simp only [hz, when_true']
        exact h2
    | cons y ys =>
      rw [show (List.map FV.str (y :: ys)).isEmpty = false from rfl, ifB_false, L_ref09_Strip_1_1_eq]
      cases is with
      | nil => simp [onL_some, X_ref09_Strip_1_1_eq, JV.enc_mk]
      | cons x xs =>
        have h1 := ih x (List.mem_cons_self ..)
        have h2 := z3 0 0 0 (⟨#[]⟩ : ByteArray) (xs.length - 0) 1 [strip x] (by simp; omega) rfl
        have hz := hone (strip x)
        simp only [List.map_cons, List.map_nil, List.length_cons, List.length_map, decide_eq_true (show (0 : Int) < ((xs.length + 1 : Nat) : Int) by omega), d0, t0, ifB_true, Bool.and_true, when_true', List.getD_cons_zero, ND.enc_fits, h1, onR_some, List.isEmpty_nil, allF_cons, allF_nil, toF_fz, JV.enc_fits, w0, Nat.sub_zero, List.drop_succ_cons, List.drop_zero, List.singleton_append] at h2 hz ⊢
        simp only [hz, when_true']
        exact h2
def JV.z0 : JV := .mk 0 0 0 ⟨#[]⟩ [] []
theorem JV.z0_enc : JV.z0.enc = .ag [.int .i64 0, .int .i64 0, .int .i64 0, .str ⟨#[]⟩, .sl [], .sl []] := by simp [JV.z0, JV.enc_mk]
def preB (k : Int) (li lk : Nat) : Bool := !((k == 6) && ((lk : Int) != (li : Int))) && !((k != 5) && ((k != 6) && decide ((li : Int) > 0)))
mutual
def shapeB : JV → Bool
  | .mk k c s t is ks => preB k is.length ks.length && (isR (.mk k c s t (List.replicate ks.length JV.z0) ks) 0 && shapeBs is)
def shapeBs : List JV → Bool
  | [] => true
  | v :: r => shapeB v && shapeBs r
end
theorem shapeB_mk (k c s : Int) (t : ByteArray) (is : List JV) (ks : List ByteArray) : shapeB (.mk k c s t is ks) = (preB k is.length ks.length && (isR (.mk k c s t (List.replicate ks.length JV.z0) ks) 0 && shapeBs is)) := by simp [shapeB]
inductive JV.Tiny : JV → Prop where
  | mk {k c s : Int} {t : ByteArray} {is : List JV} {ks : List ByteArray} (hi : is.length ≤ 150994944) (hk : ks.length ≤ 150994944) (ht : t.size ≤ 150994944) (hs : ∀ s ∈ ks, s.size ≤ 150994944) (h : ∀ v ∈ is, JV.Tiny v) : (JV.mk k c s t is ks).Tiny
theorem strip_tiny {v : ND} (hv : v.Sm) : (strip v).Tiny := by
  induction hv with
  | @mk a d k c s t is ks hi hk ht hs h ih =>
    rw [strip_mk]
    exact .mk (by simpa using hi) hk ht hs (fun v hv => by obtain ⟨x, hx, rfl⟩ := List.mem_map.1 hv; exact ih x hx)
theorem shape_ok {v : JV} (hv : v.Tiny) : Rt0 N_ref09_shape [.fz v.enc] = some ([.fz (.bool (shapeB v))], []) := by
  induction hv with
  | @mk k c s t is ks hi hk ht hs h ih =>
    have hroom : roomy = 140737488355328 := rfl
    let K := is.length + ks.length + 2
    have loop2 : ∀ (j : Nat) (i f : Nat), i + j = is.length → j < f → onL (L_ref09_shape_2_0 Rt0 K true f i k c s t (is.map JV.enc) (ks.map .str)) (K_ref09_shape_2 Rt0 K true) = some ([.fz (.bool (shapeBs (is.drop i)))], []) := by
      intro j
      induction j with
      | zero =>
        intro i f hij hf
        obtain ⟨f, rfl⟩ : ∃ g, f = g + 1 := ⟨f - 1, by omega⟩
        rw [L_ref09_shape_2_0_eq, List.drop_eq_nil_of_le (by omega)]
        simp [show ¬ ((i : Int) < (is.length : Int)) by omega, onL_some, X_ref09_shape_2_1_eq, shapeBs]
      | succ j jh =>
        intro i f hij hf
        obtain ⟨f, rfl⟩ : ∃ g, f = g + 1 := ⟨f - 1, by omega⟩
        have hl : i < is.length := by omega
        have h1 := ih is[i] (List.getElem_mem hl)
        have h2 := jh (i + 1) f (by omega) (by omega)
        push_cast at h2
        have hw : IntKind.wrap .i64 ((i : Int) + 1) = (i : Int) + 1 := wrap64 (by omega) (by omega)
        rw [L_ref09_shape_2_0_eq, drop_cons hl, shapeBs]
        cases hq : shapeB is[i] with
        | true =>
          rw [hq] at h1
          simp [show (i : Int) < (is.length : Int) by omega, List.getElem?_eq_getElem hl, h1, onR_some, hw, h2]
        | false =>
          rw [hq] at h1
          simp [show (i : Int) < (is.length : Int) by omega, List.getElem?_eq_getElem hl, h1, onR_some, onL_some, X_ref09_shape_2_0_eq]
    have l2 := loop2 is.length 0 K (by omega) (by omega)
    rw [show ((0 : Nat) : Int) = 0 from rfl, List.drop_zero] at l2
    have wsm : (JV.mk k c s t (List.replicate ks.length JV.z0) ks).Sm ∧ (JV.mk k c s t (List.replicate ks.length JV.z0) ks).Short := by
      have zs : JV.z0.Sm := .mk (by simp) (by simp) (fun v h => by cases h)
      have zh : JV.z0.Short := .mk (by simp [ByteArray.size]) (fun v h => by cases h) (fun v h => by cases h)
      exact ⟨.mk (by simp; omega) (by omega) (fun v hv => by rw [List.eq_of_mem_replicate hv]; exact zs), .mk (by omega) (fun s h => by have := hs s h; omega) (fun v hv => by rw [List.eq_of_mem_replicate hv]; exact zh)⟩
    have hIs := is_ok wsm.1 wsm.2 0
    rw [JV.enc_mk, List.map_replicate] at hIs
    have fin : ∀ (l : List FV), l = List.replicate ks.length JV.z0.enc → (onR (Rt0 N_ref05_Is [.fz (.ag [.int .i64 k, .int .i64 c, .int .i64 s, .str t, .sl l, .sl (ks.map .str)]), .fz (.int .i64 0)]) fun r1 => when (List.isEmpty r1.2 && allF [.fz] r1.1) (when (FV.isBool (TV.toF (List.getD r1.1 0 TV.em))) (ifB (!(FV.toBool (TV.toF (List.getD r1.1 0 TV.em))))
        (some ([.fz (.bool false)], [])) (onL (L_ref09_shape_2_0 Rt0 K true K 0 k c s t (is.map JV.enc) (ks.map .str)) (K_ref09_shape_2 Rt0 K true))))) = some ([.fz (.bool (isR (.mk k c s t (List.replicate ks.length JV.z0) ks) 0 && shapeBs is))], []) := fun l hl => by
      rw [hl, hIs]
      cases isR (.mk k c s t (List.replicate ks.length JV.z0) ks) 0 with
      | false => simp only [onR_some, List.isEmpty_nil, allF_cons, allF_nil, Bool.and_true, when_true', List.getD_cons_zero, toF_fz, isBool_bool, toBool_bool, Bool.not_false, ifB_true, Bool.false_and]
      | true => simp only [onR_some, List.isEmpty_nil, allF_cons, allF_nil, Bool.and_true, when_true', List.getD_cons_zero, toF_fz, isBool_bool, toBool_bool, Bool.not_true, ifB_false, l2, Bool.true_and]
    have loop1 : ∀ (j : Nat) (i f : Nat), i + j = ks.length → j < f → onL (L_ref09_shape_1_1 Rt0 K true f i k c s t (is.map JV.enc) (ks.map .str) k c s t (ks.map .str) (List.replicate i JV.z0.enc)) (K_ref09_shape_1 Rt0 K true) = some ([.fz (.bool (isR (.mk k c s t (List.replicate ks.length JV.z0) ks) 0 && shapeBs is))], []) := by
      intro j
      induction j with
      | zero =>
        intro i f hij hf
        obtain ⟨f, rfl⟩ : ∃ g, f = g + 1 := ⟨f - 1, by omega⟩
        rw [L_ref09_shape_1_1_eq, List.length_map, decide_eq_false (show ¬ ((i : Int) < (ks.length : Int)) by omega), ifB_false, onL_some, X_ref09_shape_1_1_eq]
        exact fin _ (by rw [show i = ks.length by omega])
      | succ j jh =>
        intro i f hij hf
        obtain ⟨f, rfl⟩ : ∃ g, f = g + 1 := ⟨f - 1, by omega⟩
        have h2 := jh (i + 1) f (by omega) (by omega)
        push_cast at h2
        have hw : IntKind.wrap .i64 ((i : Int) + 1) = (i : Int) + 1 := wrap64 (by omega) (by omega)
        have hro : (decide (((List.replicate i JV.z0.enc).length + [JV.z0.enc].length) * 88 ≤ roomy) && decide ((List.replicate i JV.z0.enc).length + [JV.z0.enc].length ≤ roomy)) = true := by simp; omega
        have hap : List.replicate i JV.z0.enc ++ [JV.z0.enc] = List.replicate (i + 1) JV.z0.enc := by rw [List.replicate_succ']
        rw [L_ref09_shape_1_1_eq, List.length_map, decide_eq_true (show (i : Int) < (ks.length : Int) by omega), ifB_true, ← JV.z0_enc, hro, when_true', hw, hap]
        exact h2
    have l1 : onL (L_ref09_shape_1_0 Rt0 K true K 0 k c s t (is.map JV.enc) (ks.map .str) k c s t (ks.map .str)) (K_ref09_shape_1 Rt0 K true) = some ([.fz (.bool (isR (.mk k c s t (List.replicate ks.length JV.z0) ks) 0 && shapeBs is))], []) := by
      show onL (L_ref09_shape_1_0 Rt0 K true (is.length + ks.length + 1 + 1) 0 k c s t (is.map JV.enc) (ks.map .str) k c s t (ks.map .str)) (K_ref09_shape_1 Rt0 K true) = _
      rw [L_ref09_shape_1_0_eq, List.length_map]
      by_cases hk0 : ks.length = 0
      · rw [decide_eq_false (show ¬ ((0 : Int) < (ks.length : Int)) by omega), ifB_false, onL_some, X_ref09_shape_1_0_eq]
        exact fin [] (by rw [hk0]; rfl)
      · have h2 := loop1 (ks.length - 1) 1 (is.length + ks.length + 1) (by omega) (by omega)
        have w0 : IntKind.wrap .i64 ((0 : Int) + 1) = ((1 : Nat) : Int) := by rw [wrap64 (by omega) (by omega)]; rfl
        have hro : (decide (((0 : Nat) + [JV.z0.enc].length) * 88 ≤ roomy) && decide ((0 : Nat) + [JV.z0.enc].length ≤ roomy)) = true := rfl
        rw [decide_eq_true (show (0 : Int) < (ks.length : Int) by omega), ifB_true, ← JV.z0_enc, hro, when_true', w0]
        exact h2
    have j3 : J_ref09_shape_3_0 Rt0 K true k c s t (is.map JV.enc) (ks.map .str) k c s t (ks.map .str) = some ([.fz (.bool (isR (.mk k c s t (List.replicate ks.length JV.z0) ks) 0 && shapeBs is))], []) := by
      rw [J_ref09_shape_3_0_eq]; exact l1
    refine rt_call0 A_ref09_shape rfl rfl K ?_
    rw [JV.enc_mk, E_ref09_shape, shapeB_mk]
    simp only [jump_true, j3, List.length_map]
    unfold preB
    cases (k == 6) <;> cases ((ks.length : Int) != (is.length : Int)) <;> cases (k != 5) <;> cases (k != 6) <;> cases decide ((is.length : Int) > 0) <;> simp
theorem nis9_ok {t9 : List FV} {L : Lt} (T : IsTab t9 L) (O : L.Ok) {v : ND} (hv : v.Sm) : Rt0 N_ref09_Is [.fz (.sl t9), .fz v.enc] = some ([.fz (.bool (labB L v && (rightB L v && shapeB (strip v))))], []) := by
  have h1 := labels_ok T hv
  have h2 := right_ok T O hv
  have h3 := strip_ok hv
  have h4 := shape_ok (strip_tiny hv)
  obtain ⟨a, d, k, c, s, t, is, ks⟩ := v
  have hE := E_ref09_Is Rt0 0 true t9 a d k c s t (is.map ND.enc) (ks.map .str)
  rw [← ND.enc_mk] at hE
  refine rt_call0 A_ref09_Is rfl rfl 0 (hE.trans ?_)
  rw [h1]
  cases hl : labB L (ND.mk a d k c s t is ks) with
  | false => simp only [onR_some, List.isEmpty_nil, allF_cons, allF_nil, Bool.and_true, when_true', List.getD_cons_zero, toF_fz, isBool_bool, toBool_bool, ifB_false, Bool.false_and]
  | true =>
    rw [h2 hl]
    cases hr : rightB L (ND.mk a d k c s t is ks) with
    | false => simp only [onR_some, List.isEmpty_nil, allF_cons, allF_nil, Bool.and_true, when_true', List.getD_cons_zero, toF_fz, isBool_bool, toBool_bool, ifB_true, ifB_false, Bool.false_and, Bool.true_and]
    | true => simp only [onR_some, List.isEmpty_nil, allF_cons, allF_nil, Bool.and_true, when_true', List.getD_cons_zero, toF_fz, isBool_bool, toBool_bool, ifB_true, Bool.true_and, h3, h4]
end Go.Ab
end
section
namespace Go.Ab
section
variable {L : Lt} (O : L.Ok) {a b c : Nat} (ha : a < L.n) (hb : b < L.n) (hc : c < L.n)
include O ha hb
theorem Lt.Ok.join_eq {x : Nat} (hx : x < L.n) (h1 : L.leq a x = true) (h2 : L.leq b x = true) (h : ∀ d, d < L.n → L.leq a d = true → L.leq b d = true → L.leq x d = true) : L.join a b = x :=
  O.anti _ _ (O.join a b ha hb) hx (O.joinm a b x ha hb hx h1 h2) (h _ (O.join a b ha hb) (O.joinl a b ha hb) (O.joinr a b ha hb))
theorem Lt.Ok.leq_join : L.leq a b = decide (L.join a b = b) := by
  rw [Bool.eq_iff_iff, decide_eq_true_eq]
  constructor
  · intro h; exact O.join_eq ha hb hb h (O.refl b hb) fun d hd _ y => y
  · intro h; have := O.joinl a b ha hb; rwa [h] at this
include hc
theorem Lt.Ok.join_assoc : L.join a (L.join b c) = L.join (L.join a b) c := by
  have h1 := O.join b c hb hc
  have h2 := O.join a b ha hb
  have h3 := O.join (L.join a b) c h2 hc
  have l1 := O.joinl _ c h2 hc
  have ra := O.trans _ _ _ ha h2 h3 (O.joinl a b ha hb) l1
  have rb := O.trans _ _ _ hb h2 h3 (O.joinr a b ha hb) l1
  refine O.join_eq ha h1 h3 ra (O.joinm b c _ hb hc h3 rb (O.joinr _ c h2 hc)) fun d hd x y => ?_
  have yb := O.trans _ _ _ hb h1 hd (O.joinl b c hb hc) y
  have yc := O.trans _ _ _ hc h1 hd (O.joinr b c hb hc) y
  exact O.joinm _ c d h2 hc hd (O.joinm a b d ha hb hd x yb) yc
end
theorem Lt.joinI_nat {L : Lt} {a b : Nat} (ha : a < L.n) (hb : b < L.n) : L.joinI a b = L.join a b := by
  unfold Lt.joinI
  rw [if_pos ⟨Lt.is_iff.2 ⟨by omega, by omega⟩, Lt.is_iff.2 ⟨by omega, by omega⟩⟩]
  simp
theorem Lt.leqI_nat {L : Lt} {a b : Nat} (ha : a < L.n) (hb : b < L.n) : L.leqI a b = L.leq a b := by
  unfold Lt.leqI
  rw [Lt.is_iff.2 ⟨by omega, by omega⟩, Lt.is_iff.2 ⟨by omega, by omega⟩]
  simp
end Go.Ab
end
section
namespace Go.Ab
theorem deepNs_ge {L : Lt} (O : L.Ok) : ∀ (l : List ND) (acc : Nat), acc < L.n → labBs L l = true → L.leq acc (deepNs L acc l) = true
  | [], acc, h, _ => by simpa [deepNs] using O.refl acc h
  | v :: r, acc, h, hl => by
    simp only [labBs, Bool.and_eq_true] at hl
    have hd := deepN_lt O v hl.1
    have hj := O.join _ _ h hd
    rw [deepNs]
    exact O.trans _ _ _ h hj (deepNs_lt O r _ hj hl.2) (O.joinl _ _ h hd) (deepNs_ge O r _ hj hl.2)
theorem may_labels {L : Lt} (O : L.Ok) {a d k c s : Int} {t : ByteArray} {is : List ND} {ks : List ByteArray} (h1 : labB L (.mk a d k c s t is ks) = true) (h2 : rightB L (.mk a d k c s t is ks) = true) : ∃ x y : Nat, a = x ∧ d = y ∧ x < L.n ∧ y < L.n ∧ L.leq x y = true := by
  rw [labB_mk, Bool.and_eq_true] at h1
  rw [rightB_mk, Bool.and_eq_true, decide_eq_true_eq] at h2
  have ha := Lt.is_iff.1 h1.1
  exact ⟨a.toNat, _, by omega, h2.1, by omega, deepNs_lt O is _ (by omega) h1.2, deepNs_ge O is _ (by omega) h1.2⟩
def mayB (L : Lt) (v : ND) : Bool := labB L v && (rightB L v && shapeB (strip v))
theorem may_item {L : Lt} {a d k c s : Int} {t : ByteArray} {is : List ND} {ks : List ByteArray} (h : mayB L (.mk a d k c s t is ks) = true) {v : ND} (hv : v ∈ is) : mayB L v = true := by
  simp only [mayB, Bool.and_eq_true, labB_mk, rightB_mk, strip_mk, shapeB_mk, labBs_iff, rightBs_iff] at h ⊢
  obtain ⟨⟨h1, h2⟩, ⟨h3, h4⟩, h5, h6, h7⟩ := h
  refine ⟨h2 v hv, h4 v hv, ?_⟩
  have : ∀ l : List JV, shapeBs l = true → ∀ x ∈ l, shapeB x = true := by
    intro l
    induction l with
    | nil => intro _ x hx; cases hx
    | cons y l ih =>
      intro hl x hx
      simp only [shapeBs, Bool.and_eq_true] at hl
      rcases List.mem_cons.1 hx with rfl | hx
      · exact hl.1
      · exact ih hl.2 x hx
  exact this _ h7 _ (List.mem_map_of_mem hv)
end Go.Ab
end
section
namespace Go.Ab
def deepP (L : Lt) : Nat → List ND → Nat
  | acc, [] => acc
  | acc, v :: r => deepP L (L.joinI (L.joinI acc v.a) v.d) r
theorem deepP_eq {L : Lt} (O : L.Ok) : ∀ (is : List ND) (acc : Nat), acc < L.n → labBs L is = true → rightBs L is = true → deepP L acc is = deepNs L acc is
  | [], acc, _, _, _ => by simp [deepP, deepNs]
  | v :: r, acc, h, hl, hr => by
    simp only [labBs, rightBs, Bool.and_eq_true] at hl hr
    obtain ⟨a, d, k, c, s, t, is, ks⟩ := v
    obtain ⟨x, y, rfl, rfl, hx, hy, hxy⟩ := may_labels O hl.1 hr.1
    have hd : deepN L (ND.mk x y k c s t is ks) = y := by
      have := hr.1
      rw [rightB_mk, Bool.and_eq_true, decide_eq_true_eq] at this
      rw [deepN_mk]; omega
    rw [deepP, deepNs, hd]
    show deepP L (L.joinI (L.joinI acc (x : Int)) (y : Int)) r = _
    have h1 := O.join acc x h hx
    rw [Lt.joinI_nat h hx, Lt.joinI_nat h1 hy]
    have e : L.join (L.join acc x) y = L.join acc y := by
      rw [← O.join_assoc h hx hy]
      have : L.join x y = y := by
        have := O.leq_join hx hy
        rw [hxy] at this
        simpa using this.symm
      rw [this]
    rw [e]
    exact deepP_eq O r _ (O.join acc y h hy) hl.2 hr.2
end Go.Ab
end
section
namespace Go.Ab
def holeN (L : Lt) : ND := .mk L.top L.top 8 0 0 ⟨#[]⟩ [] []
mutual
def und (L : Lt) (a : Int) : Nat → ND → ND
  | up, .mk x d k c s t is ks => if L.leqI (L.joinI up x) a = true then .mk (L.joinI up x) (deepP L (L.joinI up x) (unds L a (L.joinI up x) is)) k c s t (unds L a (L.joinI up x) is) ks else holeN L
def unds (L : Lt) (a : Int) : Nat → List ND → List ND
  | _, [] => []
  | up, v :: r => und L a up v :: unds L a up r
end
theorem unds_eq (L : Lt) (a : Int) (up : Nat) : ∀ l : List ND, unds L a up l = l.map (und L a up)
  | [] => by simp [unds]
  | v :: r => by simp [unds, unds_eq L a up r]
theorem und_mk (L : Lt) (a : Int) (up : Nat) (x d k c s : Int) (t : ByteArray) (is : List ND) (ks : List ByteArray) : und L a up (.mk x d k c s t is ks) = if L.leqI (L.joinI up x) a = true then .mk (L.joinI up x) (deepP L (L.joinI up x) (is.map (und L a (L.joinI up x)))) k c s t (is.map (und L a (L.joinI up x))) ks else holeN L := by
  simp [und, unds_eq]
theorem hole_sm (L : Lt) : (holeN L).Sm := .mk (by simp) (by simp) (by simp [ByteArray.size]) (fun s h => by cases h) (fun v h => by cases h)
theorem und_sm {L : Lt} {a : Int} {v : ND} (hv : v.Sm) : ∀ up : Nat, (und L a up v).Sm := by
  induction hv with
  | @mk x d k c s t is ks hi hk ht hs h ih =>
    intro up
    rw [und_mk]
    split
    · exact .mk (by simpa using hi) hk ht hs (fun v hv => by obtain ⟨y, hy, rfl⟩ := List.mem_map.1 hv; exact ih y hy _)
    · exact hole_sm L
def ND.z0 : ND := .mk 0 0 0 0 0 ⟨#[]⟩ [] []
mutual
def cou (L : Lt) (a : Int) : Nat → ND → Nat
  | up, .mk x d k c s t is ks => if L.leqI (L.joinI up x) a = true then 1 + cous L a (L.joinI up x) is else 0
def cous (L : Lt) (a : Int) : Nat → List ND → Nat
  | _, [] => 0
  | up, v :: r => cou L a up v + cous L a up r
end
theorem cou_mk (L : Lt) (a : Int) (up : Nat) (x d k c s : Int) (t : ByteArray) (is : List ND) (ks : List ByteArray) : cou L a up (.mk x d k c s t is ks) = if L.leqI (L.joinI up x) a = true then 1 + cous L a (L.joinI up x) is else 0 := by simp [cou]
mutual
theorem cou_le (L : Lt) (a : Int) : ∀ (v : ND) (up : Nat), cou L a up v ≤ v.cnt
  | .mk x d k c s t is ks, up => by
    rw [cou_mk, ND.cnt_mk]
    have := cous_le L a is (L.joinI up x)
    split <;> omega
theorem cous_le (L : Lt) (a : Int) : ∀ (l : List ND) (up : Nat), cous L a up l ≤ ND.cnts l
  | [], up => by simp [cous, ND.cnts]
  | v :: r, up => by
    have h1 := cou_le L a v up
    have h2 := cous_le L a r up
    simp only [cous, ND.cnts]; omega
end
end Go.Ab
end
section
namespace Go.Ab
def raiseN (L : Lt) (x : Int) : ND → ND
  | .mk a d k c s t is ks => .mk (L.joinI a x) (L.joinI d x) k c s t is ks
mutual
def swp (L : Lt) (a : Int) (m : ND) : Nat → ND → ND
  | up, .mk x d k c s t is ks => if L.leqI (L.joinI up x) a = true then .mk x (deepP L x.toNat (swps L a m (L.joinI up x) is)) k c s t (swps L a m (L.joinI up x) is) ks else raiseN L x m
def swps (L : Lt) (a : Int) (m : ND) : Nat → List ND → List ND
  | _, [] => []
  | up, v :: r => swp L a m up v :: swps L a m up r
end
end Go.Ab
end
section
namespace Go.Ab
theorem hole_lab {L : Lt} (O : L.Ok) : labB L (holeN L) = true ∧ rightB L (holeN L) = true := by
  have := O.top
  refine ⟨?_, ?_⟩
  · simp [holeN, labB_mk, labBs, Lt.is_nat, this]
  · simp [holeN, rightB_mk, rightBs, deepNs]
theorem und_lab {L : Lt} (O : L.Ok) {a : Int} {v : ND} (hv : v.Sm) : ∀ up : Nat, labB L (und L a up v) = true ∧ rightB L (und L a up v) = true := by
  induction hv with
  | @mk x d k c s t is ks hi hk ht hs h ih =>
    intro up
    rw [und_mk]
    split
    · have hlt := O.joinI_lt up x
      have h1 : labBs L (is.map (und L a (L.joinI up x))) = true := labBs_iff.2 fun y hy => by
        obtain ⟨z, hz, rfl⟩ := List.mem_map.1 hy; exact (ih z hz _).1
      have h2 : rightBs L (is.map (und L a (L.joinI up x))) = true := rightBs_iff.2 fun y hy => by
        obtain ⟨z, hz, rfl⟩ := List.mem_map.1 hy; exact (ih z hz _).2
      rw [labB_mk, rightB_mk, h1, h2, Int.toNat_natCast, deepP_eq O _ _ hlt h1 h2]
      simp [Lt.is_nat, hlt]
    · exact hole_lab O
mutual
theorem cou_mono {L : Lt} (O : L.Ok) {a b : Nat} (ha : a < L.n) (hb : b < L.n) (hab : L.leq a b = true) : ∀ (v : ND) (up : Nat), cou L a up v ≤ cou L b up v
  | .mk x d k c s t is ks, up => by
    have hu := O.joinI_lt up x
    rw [cou_mk, cou_mk, Lt.leqI_nat hu ha, Lt.leqI_nat hu hb]
    by_cases h : L.leq (L.joinI up x) a = true
    · rw [if_pos h, if_pos (O.trans _ _ _ hu ha hb h hab)]
      have := cous_mono O ha hb hab is (L.joinI up x)
      omega
    · rw [if_neg h]; omega
theorem cous_mono {L : Lt} (O : L.Ok) {a b : Nat} (ha : a < L.n) (hb : b < L.n) (hab : L.leq a b = true) : ∀ (l : List ND) (up : Nat), cous L a up l ≤ cous L b up l
  | [], up => by simp [cous]
  | v :: r, up => by
    have h1 := cou_mono O ha hb hab v up
    have h2 := cous_mono O ha hb hab r up
    simp only [cous]; omega
end
mutual
theorem cou_top {L : Lt} (O : L.Ok) : ∀ (v : ND) (up : Nat), cou L L.top up v = v.cnt
  | .mk x d k c s t is ks, up => by
    have hu := O.joinI_lt up x
    rw [cou_mk, Lt.leqI_nat hu O.top, if_pos (O.letop _ hu), cous_top O is, ND.cnt_mk]
theorem cous_top {L : Lt} (O : L.Ok) : ∀ (l : List ND) (up : Nat), cous L L.top up l = ND.cnts l
  | [], up => by simp [cous, ND.cnts]
  | v :: r, up => by rw [cous, ND.cnts, cou_top O v, cous_top O r]
end
mutual
def seeN : ND → Nat
  | .mk _ _ k _ _ _ is _ => if k = 8 then 0 else 1 + seeNs is
def seeNs : List ND → Nat
  | [] => 0
  | v :: r => seeN v + seeNs r
end
theorem seeN_mk (a d k c s : Int) (t : ByteArray) (is : List ND) (ks : List ByteArray) : seeN (.mk a d k c s t is ks) = if k = 8 then 0 else 1 + seeNs is := by simp [seeN]
theorem shape_kind {k c s : Int} {t : ByteArray} {is : List JV} {ks : List ByteArray} (h : shapeB (.mk k c s t is ks) = true) : k ≠ 8 := by
  rw [shapeB_mk, Bool.and_eq_true, Bool.and_eq_true] at h
  have h1 := h.2.1
  simp only [isR, Bool.and_eq_true, Bool.not_eq_true', decide_eq_false_iff_not] at h1
  omega
mutual
theorem see_und (L : Lt) (a : Int) : ∀ (v : ND) (up : Nat), shapeB (strip v) = true → seeN (und L a up v) = cou L a up v
  | .mk x d k c s t is ks, up, h => by
    rw [strip_mk] at h
    have hk := shape_kind h
    rw [shapeB_mk, Bool.and_eq_true, Bool.and_eq_true, ← strips_eq] at h
    have ih := see_unds L a is (L.joinI up x) h.2.2
    rw [unds_eq] at ih
    rw [und_mk, cou_mk]
    split
    · rw [seeN_mk, if_neg hk, ih]
    · rw [holeN, seeN_mk, if_pos rfl]
theorem see_unds (L : Lt) (a : Int) : ∀ (l : List ND) (up : Nat), shapeBs (strips l) = true → seeNs (unds L a up l) = cous L a up l
  | [], up, _ => by simp [unds, cous, seeNs]
  | v :: r, up, h => by
    rw [strips, shapeBs, Bool.and_eq_true] at h
    rw [unds, seeNs, cous, see_und L a v up h.1, see_unds L a r up h.2]
end
mutual
theorem see_le : ∀ v : ND, seeN v ≤ v.cnt
  | .mk x d k c s t is ks => by
    rw [seeN_mk, ND.cnt_mk]
    have := sees_le is
    split <;> omega
theorem sees_le : ∀ l : List ND, seeNs l ≤ ND.cnts l
  | [] => by simp [seeNs, ND.cnts]
  | v :: r => by
    have h1 := see_le v
    have h2 := sees_le r
    simp only [seeNs, ND.cnts]; omega
end
mutual
theorem und_cnt (L : Lt) (a : Int) : ∀ (v : ND) (up : Nat), (und L a up v).cnt ≤ v.cnt
  | .mk x d k c s t is ks, up => by
    have ih := unds_cnt L a is (L.joinI up x)
    rw [unds_eq] at ih
    rw [und_mk, ND.cnt_mk]
    split
    · rw [ND.cnt_mk]; omega
    · rw [holeN, ND.cnt_mk]; simp [ND.cnts]
theorem unds_cnt (L : Lt) (a : Int) : ∀ (l : List ND) (up : Nat), ND.cnts (unds L a up l) ≤ ND.cnts l
  | [], up => by simp [unds, ND.cnts]
  | v :: r, up => by
    have h1 := und_cnt L a v up
    have h2 := unds_cnt L a r up
    simp only [unds, ND.cnts]; omega
end
end Go.Ab
end
section
namespace Go.Ab
def hole12 : List UInt8 := [123, 34, 35, 34, 58, 110, 117, 108, 108, 125]
def bodyT (k c s : Int) (t : ByteArray) (m : List UInt8) : List UInt8 :=
  if k = 7 then [123, 34, 35, 33, 34, 58] ++ qT t ++ [125]
  else if k = 0 then [110, 117, 108, 108]
  else if k = 1 then [102, 97, 108, 115, 101]
  else if k = 2 then [116, 114, 117, 101]
  else if k = 3 then numT c s
  else if k = 4 then qT t
  else if k = 6 then 123 :: (m ++ [125])
  else 91 :: (m ++ [93])
def cma : Bool → List UInt8 | true => [] | false => [44]
mutual
def shT (nm : List ByteArray) : Int → ND → List UInt8
  | up, .mk x d k c s t is ks =>
    if k = 8 then hole12
    else if x = up then bodyT k c s t (shTs nm x k true is ks)
    else [123, 34, 35, 34, 58] ++ qT (nm.getD x.toNat ⟨#[]⟩) ++ [44, 34, 61, 34, 58] ++ bodyT k c s t (shTs nm x k true is ks) ++ [125]
def shTs (nm : List ByteArray) : Int → Int → Bool → List ND → List ByteArray → List UInt8
  | _, _, _, [], _ => []
  | x, k, first, v :: r, ks => cma first ++ ((if k = 6 then qT (keyL (ks.headD ⟨#[]⟩)) ++ [58] else []) ++ (shT nm x v ++ shTs nm x k false r ks.tail))
end
theorem shT_mk (nm : List ByteArray) (up x d k c s : Int) (t : ByteArray) (is : List ND) (ks : List ByteArray) : shT nm up (.mk x d k c s t is ks) = if k = 8 then hole12 else if x = up then bodyT k c s t (shTs nm x k true is ks) else [123, 34, 35, 34, 58] ++ qT (nm.getD x.toNat ⟨#[]⟩) ++ [44, 34, 61, 34, 58] ++ bodyT k c s t (shTs nm x k true is ks) ++ [125] := by simp [shT]
theorem shTs_cons (nm : List ByteArray) (x k : Int) (first : Bool) (v : ND) (r : List ND) (ks : List ByteArray) : shTs nm x k first (v :: r) ks = cma first ++ ((if k = 6 then qT (keyL (ks.headD ⟨#[]⟩)) ++ [58] else []) ++ (shT nm x v ++ shTs nm x k false r ks.tail)) := by
  rw [shTs]
inductive TOk (nm : List ByteArray) : ND → Prop where
  | mk {x d k c s : Int} {t : ByteArray} {is : List ND} {ks : List ByteArray} (hx : k ≠ 8 → 0 ≤ x ∧ x < nm.length) (hk : k ≠ 8 → 0 ≤ k ∧ k ≤ 7) (h3 : k = 3 → num4B c s = true) (ht : k ≠ 8 → textB t = true)
      (hks : k = 6 → ks.length = is.length) (hkt : ∀ s ∈ ks, textB s = true) (hi : k ≠ 5 → k ≠ 6 → is = []) (h : ∀ v ∈ is, TOk nm v) : TOk nm (.mk x d k c s t is ks)
def NmOk (nm : List ByteArray) : Prop := ∀ s ∈ nm, s.size ≤ 150994944 ∧ textB s = true
theorem numT_len {c s : Int} (h : num4B c s = true) : 1 ≤ (numT c s).length ∧ (numT c s).length ≤ 100 := by
  obtain ⟨h1, h2, h3, h4⟩ := num4_facts h
  have hd := dg_len_pos (c.natAbs / 10 ^ s.toNat)
  have hl := dg_len_le 14 (c.natAbs / 10 ^ s.toNat) (Nat.lt_of_le_of_lt (Nat.div_le_self _ _) (by omega))
  have hp := pd_len s.toNat c.natAbs
  unfold numT nBody
  have e1 : (if c < 0 then [(45 : UInt8)] else []).length ≤ 1 := by split <;> simp
  have e2 : (if s.toNat = 0 then [] else (46 : UInt8) :: pd s.toNat c.natAbs).length ≤ 10 := by
    split
    · simp
    · simp only [List.length_cons]; omega
  simp only [List.length_append]
  omega
theorem bodyT_len {k c s : Int} {t : ByteArray} (m : List UInt8) (h3 : k = 3 → num4B c s = true) (ht : t.size ≤ 150994944) : (bodyT k c s t m).length ≤ 905969696 + m.length := by
  have hq := qT_len t
  unfold bodyT
  split
  · simp only [List.length_append, List.length_cons, List.length_nil]; omega
  split
  · simp only [List.length_cons, List.length_nil]; omega
  split
  · simp only [List.length_cons, List.length_nil]; omega
  split
  · simp only [List.length_cons, List.length_nil]; omega
  split
  · rename_i h
    have := numT_len (h3 h)
    omega
  split
  · omega
  split <;> (simp only [List.length_append, List.length_cons, List.length_nil]; omega)
theorem bodyT_pos {k c s : Int} {t : ByteArray} (m : List UInt8) (h3 : k = 3 → num4B c s = true) (ht : textB t = true) : 1 ≤ (bodyT k c s t m).length := by
  have hq := qT_pos ht
  unfold bodyT
  split
  · simp only [List.length_append, List.length_cons, List.length_nil]; omega
  split
  · simp
  split
  · simp
  split
  · simp
  split
  · rename_i h
    exact (numT_len (h3 h)).1
  split
  · omega
  split <;> simp
theorem nm_getD {nm : List ByteArray} (hn : NmOk nm) (i : Nat) : (nm.getD i ⟨#[]⟩).size ≤ 150994944 := by
  rw [List.getD_eq_getElem?_getD]
  cases h : nm[i]? with
  | none => simp [ByteArray.size]
  | some s => exact (hn s (List.mem_of_getElem? h)).1
theorem sh_len {nm : List ByteArray} (hn : NmOk nm) {v : ND} (hv : v.Sm) : TOk nm v → ∀ up : Int, (shT nm up v).length + 905969696 ≤ 4294967296 * v.cnt := by
  induction hv with
  | @mk x d k c s t is ks hi hk ht hs h ih =>
    intro hT up
    cases hT with
    | mk hx hkk h3 htt hks hkt hii hh =>
      have items : ∀ (l : List ND) (kk : List ByteArray) (first : Bool), (∀ v ∈ l, v ∈ is) → (∀ s ∈ kk, s.size ≤ 150994944) → (shTs nm x k first l kk).length ≤ 4294967296 * ND.cnts l := by
        intro l
        induction l with
        | nil => intro kk first _ _; simp [shTs]
        | cons v r ihr =>
          intro kk first hl hkk
          have h1 := ih v (hl v (List.mem_cons_self ..)) (hh v (hl v (List.mem_cons_self ..))) x
          have h2 := ihr kk.tail false (fun y hy => hl y (List.mem_cons_of_mem _ hy)) (fun s hs => hkk s (List.mem_of_mem_tail hs))
          have h3 : (kk.headD ⟨#[]⟩).size ≤ 150994944 := by
            cases kk with
            | nil => simp [ByteArray.size]
            | cons a b => exact hkk a (List.mem_cons_self ..)
          have h4 := qT_len (keyL (kk.headD ⟨#[]⟩))
          have h5 := keyL_size (kk.headD ⟨#[]⟩)
          have h6 : (if k = 6 then qT (keyL (kk.headD ⟨#[]⟩)) ++ [(58 : UInt8)] else []).length ≤ 905969686 := by
            split
            · simp only [List.length_append, List.length_cons, List.length_nil]; omega
            · simp
          have h7 : (cma first).length ≤ 1 := by cases first <;> simp [cma]
          rw [shTs_cons, ND.cnts]
          simp only [List.length_append]
          omega
      have hi' := items is ks true (fun _ h => h) hs
      have hb := bodyT_len (k := k) (c := c) (s := s) (t := t) (shTs nm x k true is ks) h3 ht
      have hq := qT_len (nm.getD x.toNat ⟨#[]⟩)
      have hg := nm_getD hn x.toNat
      rw [shT_mk, ND.cnt_mk]
      split
      · simp only [hole12, List.length_cons, List.length_nil]; omega
      split
      · omega
      · simp only [List.length_append, List.length_cons, List.length_nil]; omega
theorem sh_pos {nm : List ByteArray} {v : ND} (hT : TOk nm v) (up : Int) : 1 ≤ (shT nm up v).length := by
  cases hT with
  | @mk x d k c s t is ks hx hkk h3 htt hks hkt hii hh =>
    rw [shT_mk]
    split
    · simp [hole12]
    · rename_i h8
      have := bodyT_pos (k := k) (c := c) (s := s) (t := t) (shTs nm x k true is ks) h3 (htt h8)
      split
      · exact this
      · simp only [List.length_append, List.length_cons, List.length_nil]; omega
end Go.Ab
end
section
namespace Go.Ab
theorem rtext6 {k c s : Int} {t : ByteArray} (hk : 0 ≤ k ∧ k ≤ 4) (h3 : k = 3 → num4B c s = true) (hz : t.size ≤ 150994944) (ht : textB t = true) (m : List UInt8) :
    Rt0 N_ref06_Text [.fz (.ag [.int .i64 k, .int .i64 c, .int .i64 s, .str t, .sl [], .sl []])] = some ([.fz (.str (qB (bodyT k c s t m)))], []) := by
  refine rt_call0 A_ref06_Text rfl rfl 0 ?_
  rw [E_ref06_Text]
  obtain h | h | h | h | h : k = 0 ∨ k = 1 ∨ k = 2 ∨ k = 3 ∨ k = 4 := by omega
  · subst h; rfl
  · subst h; rfl
  · subst h; rfl
  · subst h
    have hb : bodyT 3 c s t m = numT c s := rfl
    rw [hb]
    have := rnum_ok (h3 rfl)
    rw [show ((3 : Int) == 0) = false from rfl, show ((3 : Int) == 1) = false from rfl, show ((3 : Int) == 2) = false from rfl, show ((3 : Int) == 3) = true from rfl, ifB_false, ifB_false, ifB_false, ifB_true, this]
    simp only [onR_some, onL_some, List.isEmpty_nil, allF_cons, allF_nil, Bool.and_true, Bool.true_and, when_true', List.getD_cons_zero, List.getD_cons_succ, isF_fz, toF_fz, isBool_bool, toBool_bool, isInt_int, toInt_int, isStr_str, toStr_str, isSl_sl, toSl_sl, List.length_cons, List.length_nil, List.all_cons, List.all_nil, lisFz_fz, ltoFz_fz, beq_self_eq_true, jump_true, ifB_true, ifB_false, isF_pv, isPv_pv, toV_pv, isNil_nilp, isNil_pt, isPt_pt, toAg_ag, cell_ag, isAg_ag, fits_ag, Int.toNat_natCast, Bool.not_true, Bool.not_false, fits_int, fits_bool, fits_str, fits_sl]
  · subst h
    have hb : bodyT 4 c s t m = qT t := rfl
    rw [hb]
    have := rq6_ok hz ht
    rw [show ((4 : Int) == 0) = false from rfl, show ((4 : Int) == 1) = false from rfl, show ((4 : Int) == 2) = false from rfl, show ((4 : Int) == 3) = false from rfl, show ((4 : Int) == 4) = true from rfl, ifB_false, ifB_false, ifB_false, ifB_false, ifB_true, this]
    simp only [onR_some, onL_some, List.isEmpty_nil, allF_cons, allF_nil, Bool.and_true, Bool.true_and, when_true', List.getD_cons_zero, List.getD_cons_succ, isF_fz, toF_fz, isBool_bool, toBool_bool, isInt_int, toInt_int, isStr_str, toStr_str, isSl_sl, toSl_sl, List.length_cons, List.length_nil, List.all_cons, List.all_nil, lisFz_fz, ltoFz_fz, beq_self_eq_true, jump_true, ifB_true, ifB_false, isF_pv, isPv_pv, toV_pv, isNil_nilp, isNil_pt, isPt_pt, toAg_ag, cell_ag, isAg_ag, fits_ag, Int.toNat_natCast, Bool.not_true, Bool.not_false, fits_int, fits_bool, fits_str, fits_sl]
theorem cnt_le_of_mem : ∀ {l : List ND} {v : ND}, v ∈ l → v.cnt ≤ ND.cnts l
  | u :: r, v, h => by
    rw [ND.cnts]
    rcases List.mem_cons.1 h with rfl | h
    · omega
    · have := cnt_le_of_mem h
      omega
theorem rq12k {s : ByteArray} (ht : textB s = true) (hs : s.size ≤ 150994944) : Rt0 N_ref12_quote [.fz (.str (keyL s))] = some ([.fz (.str (qB (qT (keyL s))))], []) := by
  have hz := keyL_size s
  have ht' := keyL_text ht
  have hsg := signs_ok (keyL s) (by omega)
  have h2 : ∃ cs : List Int, Rt0 N_ref03_Signs [.fz (.str (keyL s))] = some ([.fz (.sl (cs.map (.int .i64))), .fz (.bool true)], []) ∧ Rt0 N_ref03_Quote [.fz (.sl (cs.map (.int .i64)))] = some ([.fz (.str (qB (qT (keyL s))))], []) := by
    unfold textB at ht'
    unfold qT
    cases hv : signsL (keyL s).data.toList with
    | none => rw [hv] at ht'; cases ht'
    | some cs =>
      rw [hv] at hsg
      have hS := sgAt_start hv
      have hle := hS.len (Nat.zero_le _)
      exact ⟨cs, hsg, rquote_ok cs (by omega) hS.fine⟩
  obtain ⟨cs, h1, h2⟩ := h2
  refine rt_call0 A_ref12_quote rfl rfl 0 ?_
  rw [E_ref12_quote, h1]
  simp only [onR_some, onL_some, List.isEmpty_nil, allF_cons, allF_nil, Bool.and_true, Bool.true_and, when_true', List.getD_cons_zero, List.getD_cons_succ, isF_fz, toF_fz, isBool_bool, toBool_bool, isInt_int, toInt_int, isStr_str, toStr_str, isSl_sl, toSl_sl, List.length_cons, List.length_nil, List.all_cons, List.all_nil, lisFz_fz, ltoFz_fz, beq_self_eq_true, jump_true, ifB_true, ifB_false, isF_pv, isPv_pv, toV_pv, isNil_nilp, isNil_pt, isPt_pt, toAg_ag, cell_ag, isAg_ag, fits_ag, Int.toNat_natCast, Bool.not_true, Bool.not_false, fits_int, fits_bool, fits_str, fits_sl, h2]
theorem key_cases {β : Type} (k : ByteArray) (hk : k.size ≤ 150994944) (F : ByteArray → Option β) {r : Option β} (h : ∀ kk, kk = keyL k → F kk = r) :
    ifB (decide ((k.size : Int) > 0)) (when (decide (0 < (k.size : Int))) (ifB ((((Array.getD k.data 0 0).toNat : Nat) : Int) == 35) (when (decide ((⟨#[35]⟩ : ByteArray).size + k.size ≤ 2 ^ 62)) (F ((⟨#[35]⟩ : ByteArray) ++ k))) (F k))) (F k) = r := by
  have hd : decide ((⟨#[35]⟩ : ByteArray).size + k.size ≤ 2 ^ 62) = true := decide_eq_true (by show 1 + k.size ≤ _; omega)
  have e : (⟨#[35]⟩ : ByteArray) ++ k = qB (35 :: k.data.toList) := by
    have := qBapp [35] k.data.toList
    rw [qB_self] at this
    exact this
  rw [hd, when_true', e]
  obtain ⟨⟨l⟩⟩ := k
  have hsz : (({ data := ⟨l⟩ } : ByteArray).size) = l.length := rfl
  rw [hsz]
  cases l with
  | nil => exact h _ rfl
  | cons b r' =>
    have d1 : decide ((((b :: r').length : Nat) : Int) > 0) = true := decide_eq_true (by simp only [List.length_cons]; omega)
    have d2 : decide (0 < (((b :: r').length : Nat) : Int)) = true := decide_eq_true (by simp only [List.length_cons]; omega)
    have hg : Array.getD (ByteArray.data { data := ⟨b :: r'⟩ }) 0 0 = b := rfl
    rw [d1, ifB_true, when_true', hg]
    by_cases g : b = 35
    · subst g
      rw [show ((((35 : UInt8).toNat : Nat) : Int) == 35) = true from rfl, ifB_true]
      exact h _ rfl
    · have g2 : (((b.toNat : Nat) : Int) == 35) = false := by
        rw [beq_eq_false_iff_ne]
        intro e
        exact g (UInt8.toNat_inj.1 (by show b.toNat = 35; omega))
      rw [g2, ifB_false]
      refine h _ ?_
      unfold keyL mk35
      rw [if_neg]
      simpa using g
theorem bodyT_items {k c s : Int} {t : ByteArray} (h : k = 5 ∨ k = 6) (m : List UInt8) : bodyT k c s t m = (if k = 6 then 123 else 91) :: (m ++ [if k = 6 then 125 else 93]) := by
  rcases h with rfl | rfl <;> rfl
set_option maxRecDepth 20000 in
theorem rtext12 {nm : List ByteArray} (hn : NmOk nm) {v : ND} (hv : v.Sm) : TOk nm v → v.cnt ≤ 10000 → ∀ up : Int, Rt0 N_ref12_text [.fz (.sl (nm.map .str)), .fz v.enc, .fz (.int .i64 up)] = some ([.fz (.str (qB (shT nm up v)))], []) := by
  induction hv with
  | @mk x d k c s t is ks hi hk ht hs h ih =>
    intro hT hcnt up
    have hlen := sh_len hn (ND.Sm.mk hi hk ht hs h) hT up
    have hlx := sh_len hn (ND.Sm.mk hi hk ht hs h) hT x
    have hT' := hT
    cases hT with
    | mk hx hkk h3 htt hks hkt hii hh =>
    rw [shT_mk] at hlen
    rw [shT_mk] at hlx
    refine rt_call0 A_ref12_text rfl rfl 0 ?_
    rw [ND.enc_mk, E_ref12_text, shT_mk]
    by_cases h8 : k = 8
    · rw [show (k == 8) = true by simp [h8], ifB_true, if_pos h8]
      rfl
    have hx := hx h8
    have hkk := hkk h8
    have htt := htt h8
    rw [if_neg h8] at hlen
    rw [if_neg h8, if_pos rfl] at hlx
    have hcn : (ND.mk x d k c s t is ks).cnt ≤ 10000 := hcnt
    -- the body
    have body : Rt0 N_ref12_body [.fz (.sl (nm.map .str)), .fz (.ag [.int .i64 x, .int .i64 d, .int .i64 k, .int .i64 c, .int .i64 s, .str t, .sl (is.map ND.enc), .sl (ks.map .str)])] = some ([.fz (.str (qB (bodyT k c s t (shTs nm x k true is ks))))], []) := by
      refine rt_call0 A_ref12_body rfl rfl (is.length + 1) ?_
      rw [E_ref12_body]
      by_cases h7 : k = 7
      · have := rq12_ok ht htt
        have hq := qT_len t
        subst h7
        have hb : bodyT 7 c s t (shTs nm x 7 true is ks) = [123, 34, 35, 33, 34, 58] ++ qT t ++ [125] := rfl
        rw [show ((7 : Int) == 7) = true from rfl, ifB_true, this, hb]
        simp only [onR_some, onL_some, List.isEmpty_nil, allF_cons, allF_nil, Bool.and_true, Bool.true_and, when_true', List.getD_cons_zero, List.getD_cons_succ, isF_fz, toF_fz, isBool_bool, toBool_bool, isInt_int, toInt_int, isStr_str, toStr_str, isSl_sl, toSl_sl, List.length_cons, List.length_nil, List.all_cons, List.all_nil, lisFz_fz, ltoFz_fz, beq_self_eq_true, jump_true, ifB_true, ifB_false, isF_pv, isPv_pv, toV_pv, isNil_nilp, isNil_pt, isPt_pt, toAg_ag, cell_ag, isAg_ag, fits_ag, Int.toNat_natCast, Bool.not_true, Bool.not_false, fits_int, fits_bool, fits_str, fits_sl, show (⟨#[123, 34, 35, 33, 34, 58]⟩ : ByteArray) = qB [123, 34, 35, 33, 34, 58] from rfl, show (⟨#[125]⟩ : ByteArray) = qB [125] from rfl]
        rw [qLe (by simp only [List.length_cons, List.length_nil]; omega), when_true', qBapp, qLe (by simp only [List.length_append, List.length_cons, List.length_nil]; omega), when_true', qBapp]
      rw [show (k == 7) = false by simpa using h7, ifB_false]
      by_cases h56 : k = 5 ∨ k = 6
      · have items : ∀ (j i : Nat) (acc : List UInt8), i + j = is.length → acc.length + (shTs nm x k (decide (i = 0)) (is.drop i) (ks.drop i)).length ≤ 100000000000000 →
            L_ref12_body_1_0 Rt0 (is.length + 1) true (j + 1) (nm.map .str) (qB acc) i x d k c s t (is.map ND.enc) (ks.map .str) = some (.exit 0, X_ref12_body_1_0 (qB (acc ++ shTs nm x k (decide (i = 0)) (is.drop i) (ks.drop i))) x d k c s t (is.map ND.enc) (ks.map .str)) := by
          intro j
          induction j with
          | zero =>
            intro i acc hij hacc
            rw [L_ref12_body_1_0_eq, List.drop_eq_nil_of_le (by omega)]
            simp only [List.length_map, decide_eq_false (show ¬ ((i : Int) < (is.length : Int)) by omega), ifB_false, shTs, List.append_nil]
          | succ j jh =>
            intro i acc hij hacc
            have hl : i < is.length := by omega
            have hci : (is[i]).cnt ≤ 10000 := by
              have := cnt_le_of_mem (List.getElem_mem hl)
              rw [ND.cnt_mk] at hcn
              omega
            have hrec := ih is[i] (List.getElem_mem hl) (hh _ (List.getElem_mem hl)) hci x
            have hw : IntKind.wrap .i64 ((i : Int) + 1) = ((i + 1 : Nat) : Int) := by rw [wrap64 (by omega) (by omega)]; rfl
            have hg : (is.map ND.enc).getD i .nilp = (is[i]).enc := by simp [hl]
            rw [drop_cons hl, shTs_cons] at hacc ⊢
            have htl : ks.drop (i + 1) = (ks.drop i).tail := by rw [List.tail_drop]
            have hf1 : decide (i + 1 = 0) = false := decide_eq_false (by omega)
            simp only [List.length_append] at hacc
            -- the item itself
            have hJ3 : ∀ acc2 : List UInt8, acc2.length + (shT nm x is[i]).length + (shTs nm x k false (is.drop (i + 1)) (ks.drop i).tail).length ≤ 100000000000000 →
                J_ref12_body_3_0 Rt0 (is.length + 1) true (j + 1) (nm.map .str) (qB acc2) i x d k c s t (is.map ND.enc) (ks.map .str) = some (.exit 0, X_ref12_body_1_0 (qB (acc2 ++ (shT nm x is[i] ++ shTs nm x k false (is.drop (i + 1)) (ks.drop i).tail))) x d k c s t (is.map ND.enc) (ks.map .str)) := by
              intro acc2 h2
              have hj := jh (i + 1) (acc2 ++ shT nm x is[i]) (by omega) (by rw [hf1, List.length_append, htl]; exact h2)
              rw [hf1, htl, List.append_assoc] at hj
              rw [J_ref12_body_3_0_eq]
              simp only [List.length_map, decide_eq_true (show (i : Int) < (is.length : Int) by omega), decide_eq_true (show (0 : Int) ≤ (i : Int) by omega), Bool.and_true, when_true', Int.toNat_natCast, hg, ND.enc_fits, hrec, onR_some, List.isEmpty_nil, allF_cons, allF_nil, List.getD_cons_zero, isF_fz, toF_fz, isStr_str, toStr_str, hw]
              rw [qLe (by omega), when_true', qBapp]
              exact hj
            have hJ5 : ∀ acc1 : List UInt8, acc1.length + ((if k = 6 then qT (keyL ((ks.drop i).headD ⟨#[]⟩)) ++ [58] else []).length + ((shT nm x is[i]).length + (shTs nm x k false (is.drop (i + 1)) (ks.drop i).tail).length)) ≤ 100000000000000 →
                J_ref12_body_5_0 Rt0 (is.length + 1) true (j + 1) (nm.map .str) (qB acc1) i x d k c s t (is.map ND.enc) (ks.map .str) = some (.exit 0, X_ref12_body_1_0 (qB (acc1 ++ ((if k = 6 then qT (keyL ((ks.drop i).headD ⟨#[]⟩)) ++ [58] else []) ++ (shT nm x is[i] ++ shTs nm x k false (is.drop (i + 1)) (ks.drop i).tail)))) x d k c s t (is.map ND.enc) (ks.map .str)) := by
              intro acc1 h1
              rw [J_ref12_body_5_0_eq]
              by_cases h6 : k = 6
              · have hlk : i < ks.length := by have := hks h6; omega
                have hhd : (ks.drop i).headD ⟨#[]⟩ = ks[i] := by rw [drop_cons hlk]; rfl
                have hgk : (ks.map FV.str).getD i .nilp = .str ks[i] := by simp [hlk]
                have hsz := hs ks[i] (List.getElem_mem hlk)
                have hq := rq12_ok (s := keyL ks[i]) 
                have hkey : ∀ kk : ByteArray, kk = keyL ks[i] → J_ref12_body_2_0 Rt0 (is.length + 1) true (j + 1) (nm.map .str) (qB acc1) i kk x d k c s t (is.map ND.enc) (ks.map .str) = some (.exit 0, X_ref12_body_1_0 (qB (acc1 ++ (qT (keyL ks[i]) ++ [58] ++ (shT nm x is[i] ++ shTs nm x k false (is.drop (i + 1)) (ks.drop i).tail)))) x d k c s t (is.map ND.enc) (ks.map .str)) := by
                  intro kk e
                  subst e
                  rw [if_pos h6, hhd, List.length_append, List.length_cons, List.length_nil] at h1
                  have hqq := rq12k (hkt _ (List.getElem_mem hlk)) hsz
                  have h3' := hJ3 (acc1 ++ (qT (keyL ks[i]) ++ [58])) (by simp only [List.length_append, List.length_cons, List.length_nil]; omega)
                  rw [J_ref12_body_2_0_eq, hqq]
                  simp only [onR_some, onL_some, List.isEmpty_nil, allF_cons, allF_nil, Bool.and_true, Bool.true_and, when_true', List.getD_cons_zero, List.getD_cons_succ, isF_fz, toF_fz, isBool_bool, toBool_bool, isInt_int, toInt_int, isStr_str, toStr_str, isSl_sl, toSl_sl, List.length_cons, List.length_nil, List.all_cons, List.all_nil, lisFz_fz, ltoFz_fz, beq_self_eq_true, jump_true, ifB_true, ifB_false, isF_pv, isPv_pv, toV_pv, isNil_nilp, isNil_pt, isPt_pt, toAg_ag, cell_ag, isAg_ag, fits_ag, Int.toNat_natCast, Bool.not_true, Bool.not_false, fits_int, fits_bool, fits_str, fits_sl, show (⟨#[58]⟩ : ByteArray) = qB [58] from rfl]
                  rw [qLe (by omega), when_true', qBapp, qLe (by simp only [List.length_append, List.length_cons, List.length_nil]; omega), when_true', qBapp]
                  rw [← List.append_assoc acc1] at h3'
                  rw [h3']
                  simp only [List.append_assoc]
                rw [show (k == 6) = true by simp [h6], ifB_true, if_pos h6, hhd]
                simp only [List.length_map, decide_eq_true (show (i : Int) < (ks.length : Int) by omega), decide_eq_true (show (0 : Int) ≤ (i : Int) by omega), Bool.and_true, when_true', Int.toNat_natCast, hgk, fits_str, isStr_str, toStr_str, jump_true]
                exact key_cases ks[i] hsz (fun kk => J_ref12_body_2_0 Rt0 (is.length + 1) true (j + 1) (nm.map .str) (qB acc1) i kk x d k c s t (is.map ND.enc) (ks.map .str)) hkey
              · have h3' := hJ3 acc1 (by rw [if_neg h6] at h1; simp only [List.length_nil] at h1; omega)
                rw [show (k == 6) = false by simpa using h6, ifB_false, if_neg h6, List.nil_append, jump_true]
                exact h3'
            rw [L_ref12_body_1_0_eq]
            simp only [List.length_map, decide_eq_true (show (i : Int) < (is.length : Int) by omega), ifB_true, jump_true]
            by_cases h0 : i = 0
            · rw [decide_eq_false (show ¬ (i : Int) > 0 by omega), ifB_false]
              rw [decide_eq_true h0] at hacc ⊢
              simp only [cma, List.length_nil, Nat.zero_add, List.nil_append] at hacc ⊢
              exact hJ5 acc hacc
            · rw [decide_eq_true (show (i : Int) > 0 by omega), ifB_true]
              rw [decide_eq_false h0] at hacc ⊢
              simp only [cma, List.length_cons, List.length_nil] at hacc ⊢
              rw [show (⟨#[44]⟩ : ByteArray) = qB [44] from rfl, qLe (by simp only [List.length_cons, List.length_nil]; omega), when_true', qBapp, ← List.append_assoc acc]
              exact hJ5 (acc ++ [44]) (by simp only [List.length_append, List.length_cons, List.length_nil]; omega)
        have hm := bodyT_items (k := k) (c := c) (s := s) (t := t) h56 (shTs nm x k true is ks)
        have hbl : (shTs nm x k true is ks).length + 2 ≤ 100000000000000 := by
          rw [hm] at hlx
          simp only [List.length_cons, List.length_append, List.length_nil] at hlx
          omega
        have l0 := items is.length 0 [] (by omega) (by rw [decide_eq_true rfl]; simp only [List.drop_zero, List.length_nil]; omega)
        rw [decide_eq_true rfl, List.drop_zero, List.drop_zero, List.nil_append, Int.natCast_zero] at l0
        have hfin : J_ref12_body_1_0 Rt0 (is.length + 1) true (nm.map .str) false x d k c s t (is.map ND.enc) (ks.map .str) = some ([.fz (.str (qB (bodyT k c s t (shTs nm x k true is ks))))], []) := by
          rw [J_ref12_body_1_0_eq, ifB_false, jump_true, J_ref12_body_8_0_eq, show (⟨#[]⟩ : ByteArray) = qB [] from rfl, l0, onL_some, X_ref12_body_1_0_eq, hm]
          rcases h56 with h5 | h6
          · rw [show (k == 6) = false by simp [h5], ifB_false, show (⟨#[91]⟩ : ByteArray) = qB [91] from rfl, show (⟨#[93]⟩ : ByteArray) = qB [93] from rfl, qLe (by simp only [List.length_cons, List.length_nil]; omega), when_true', qBapp, qLe (by simp only [List.length_append, List.length_cons, List.length_nil]; omega), when_true', qBapp, if_neg (by omega), if_neg (by omega)]
            simp only [List.cons_append, List.nil_append]
          · rw [show (k == 6) = true by simp [h6], ifB_true, show (⟨#[123]⟩ : ByteArray) = qB [123] from rfl, show (⟨#[125]⟩ : ByteArray) = qB [125] from rfl, qLe (by simp only [List.length_cons, List.length_nil]; omega), when_true', qBapp, qLe (by simp only [List.length_append, List.length_cons, List.length_nil]; omega), when_true', qBapp, if_pos h6, if_pos h6]
            simp only [List.cons_append, List.nil_append]
        rcases h56 with h5 | h6
        · rw [show (k != 5) = false by simp [h5], ifB_false, jump_true]
          exact hfin
        · rw [show (k != 5) = true by rw [h6]; rfl, ifB_true, jump_true, show (k != 6) = false by simp [h6]]
          exact hfin
      · have h04 : 0 ≤ k ∧ k ≤ 4 := by omega
        have := rtext6 (c := c) (s := s) h04 h3 ht htt (shTs nm x k true is ks)
        rw [show (k != 5) = true by rw [bne_iff_ne]; omega, ifB_true, jump_true, show (k != 6) = true by rw [bne_iff_ne]; omega, J_ref12_body_1_0_eq, ifB_true, this]
        simp only [onR_some, onL_some, List.isEmpty_nil, allF_cons, allF_nil, Bool.and_true, Bool.true_and, when_true', List.getD_cons_zero, List.getD_cons_succ, isF_fz, toF_fz, isBool_bool, toBool_bool, isInt_int, toInt_int, isStr_str, toStr_str, isSl_sl, toSl_sl, List.length_cons, List.length_nil, List.all_cons, List.all_nil, lisFz_fz, ltoFz_fz, beq_self_eq_true, jump_true, ifB_true, ifB_false, isF_pv, isPv_pv, toV_pv, isNil_nilp, isNil_pt, isPt_pt, toAg_ag, cell_ag, isAg_ag, fits_ag, Int.toNat_natCast, Bool.not_true, Bool.not_false, fits_int, fits_bool, fits_str, fits_sl]
    rw [show (k == 8) = false by simpa using h8, ifB_false, if_neg h8]
    by_cases hup : x = up
    · rw [show (x == up) = true by simp [hup], ifB_true, if_pos hup, body]
      simp only [onR_some, onL_some, List.isEmpty_nil, allF_cons, allF_nil, Bool.and_true, Bool.true_and, when_true', List.getD_cons_zero, List.getD_cons_succ, isF_fz, toF_fz, isBool_bool, toBool_bool, isInt_int, toInt_int, isStr_str, toStr_str, isSl_sl, toSl_sl, List.length_cons, List.length_nil, List.all_cons, List.all_nil, lisFz_fz, ltoFz_fz, beq_self_eq_true, jump_true, ifB_true, ifB_false, isF_pv, isPv_pv, toV_pv, isNil_nilp, isNil_pt, isPt_pt, toAg_ag, cell_ag, isAg_ag, fits_ag, Int.toNat_natCast, Bool.not_true, Bool.not_false, fits_int, fits_bool, fits_str, fits_sl]
    · obtain ⟨hx0, hx1⟩ := hx
      obtain ⟨y, rfl⟩ : ∃ y : Nat, x = y := ⟨x.toNat, by omega⟩
      have hy : y < nm.length := by omega
      have hgn : (nm.map FV.str).getD y .nilp = .str (nm.getD y ⟨#[]⟩) := by simp [hy]
      have hmem : nm.getD y ⟨#[]⟩ ∈ nm := by
        rw [List.getD_eq_getElem?_getD, List.getElem?_eq_getElem hy]
        exact List.getElem_mem hy
      have hq := rq12_ok (hn _ hmem).1 (hn _ hmem).2
      rw [if_neg hup, Int.toNat_natCast] at hlen
      simp only [List.length_append, List.length_cons, List.length_nil] at hlen
      rw [show ((y : Int) == up) = false by simpa using hup, ifB_false, if_neg hup, Int.toNat_natCast]
      simp only [List.length_map, decide_eq_true (show (y : Int) < (nm.length : Int) by omega), decide_eq_true (show (0 : Int) ≤ (y : Int) by omega), Bool.and_true, when_true', Int.toNat_natCast, hgn, fits_str, isStr_str, toStr_str, hq, onR_some, List.isEmpty_nil, allF_cons, allF_nil, List.getD_cons_zero, isF_fz, toF_fz, body, show (⟨#[123, 34, 35, 34, 58]⟩ : ByteArray) = qB [123, 34, 35, 34, 58] from rfl, show (⟨#[44, 34, 61, 34, 58]⟩ : ByteArray) = qB [44, 34, 61, 34, 58] from rfl, show (⟨#[125]⟩ : ByteArray) = qB [125] from rfl]
      rw [qLe (by simp only [List.length_cons, List.length_nil]; omega), when_true', qBapp, qLe (by simp only [List.length_append, List.length_cons, List.length_nil]; omega), when_true', qBapp, qLe (by simp only [List.length_append, List.length_cons, List.length_nil]; omega), when_true', qBapp, qLe (by simp only [List.length_append, List.length_cons, List.length_nil]; omega), when_true', qBapp]
end Go.Ab
end
section
namespace Go.Ab
structure Pol where
  names : List ByteArray
  pairs : List (Int × Int)
  ups : List (List Nat)
def Pol.g (P : Pol) : Tb := fun a b => (P.ups.getD a []).elem b
def Pol.ok (P : Pol) : Bool :=
  let n := P.names.length
  let f := layP (diag n) P.pairs
  namedB P.names && (laidB n P.pairs && ((List.range n).all (fun a => P.g a a && (List.range n).all fun b => (List.range n).all fun c => !(P.g a b && P.g b c) || P.g a c) && (P.pairs.all (fun p => P.g p.1.toNat p.2.toNat) &&
    (P.ups.length == n && ((List.range n).all (fun a => (P.ups.getD a []).all fun b => Nat.blt b n && (List.range n).any fun c => (List.range n).any fun d => f a c && (f c d && f d b)) && newC P.names P.pairs P.g == 0)))))
theorem Pol.facts {P : Pol} (h : P.ok = true) : namedB P.names = true ∧ laidB P.names.length P.pairs = true ∧ Clo P.names.length (layP (diag P.names.length) P.pairs) P.g ∧ newC P.names P.pairs P.g = 0 := by
  simp only [Pol.ok, Bool.and_eq_true, List.all_eq_true, List.any_eq_true, List.mem_range, beq_iff_eq, Nat.blt_eq] at h
  obtain ⟨h1, h2, h3, h4, h5, h6, h7⟩ := h
  refine ⟨h1, h2, ⟨fun a b x => ?_, fun a b c ha hb hc x y => ?_, fun h hl ht a b x => ?_⟩, h7⟩
  · rcases layP_iff.1 x with x | ⟨p, hp, rfl, rfl⟩
    · simp only [diag, Bool.and_eq_true, decide_eq_true_eq] at x
      obtain ⟨rfl, ha⟩ := x
      exact (h3 a ha).1
    · exact h4 p hp
  · have := (h3 a ha).2 b hb c hc
    simpa [x, y] using this
  · have hmem : b ∈ P.ups.getD a [] := by simpa [Pol.g] using x
    have ha : a < P.names.length := by
      apply Classical.byContradiction
      intro q
      rw [List.getD_eq_getElem?_getD, List.getElem?_eq_none (by omega)] at hmem
      cases hmem
    obtain ⟨hb, c, hc, d, hd, x1, x2, x3⟩ := h6 a ha b hmem
    exact ht a d b ha hd hb (ht a c d ha hc hd (hl _ _ x1) (hl _ _ x2)) (hl _ _ x3)
def pol0 : Pol := ⟨[(⟨#[108, 111, 119]⟩ : ByteArray), (⟨#[104, 105, 103, 104]⟩ : ByteArray)], [(0, 1)], [[0, 1], [1]]⟩
theorem pol0_ok : pol0.ok = true := by decide +kernel
def pol1 : Pol := ⟨[(⟨#[108, 111, 119]⟩ : ByteArray), (⟨#[108, 101, 102, 116]⟩ : ByteArray), (⟨#[114, 105, 103, 104, 116]⟩ : ByteArray), (⟨#[104, 105, 103, 104]⟩ : ByteArray)], [(0, 1), (0, 2), (1, 3), (2, 3)], [[0, 1, 2, 3], [1, 3], [2, 3], [3]]⟩
theorem pol1_ok : pol1.ok = true := by decide +kernel
def pol2 : Pol := ⟨[(⟨#[97]⟩ : ByteArray), (⟨#[98]⟩ : ByteArray), (⟨#[99]⟩ : ByteArray)], [(0, 1), (1, 2)], [[0, 1, 2], [1, 2], [2]]⟩
theorem pol2_ok : pol2.ok = true := by decide +kernel
def pol3 : Pol := ⟨[(⟨#[111, 110, 101]⟩ : ByteArray)], [], [[0]]⟩
theorem pol3_ok : pol3.ok = true := by decide +kernel
def pol4 : Pol := ⟨[(⟨#[116, 111, 112]⟩ : ByteArray), (⟨#[120]⟩ : ByteArray), (⟨#[121]⟩ : ByteArray), (⟨#[122]⟩ : ByteArray), (⟨#[98, 111, 116]⟩ : ByteArray)], [(4, 1), (4, 2), (4, 3), (1, 0), (2, 0), (3, 0)], [[0], [1, 0], [2, 0], [3, 0], [0, 1, 2, 3, 4]]⟩
theorem pol4_ok : pol4.ok = true := by decide +kernel
def pol5 : Pol := ⟨[(⟨#[111]⟩ : ByteArray), (⟨#[112]⟩ : ByteArray), (⟨#[113]⟩ : ByteArray), (⟨#[114]⟩ : ByteArray), (⟨#[112, 113]⟩ : ByteArray), (⟨#[112, 114]⟩ : ByteArray), (⟨#[113, 114]⟩ : ByteArray), (⟨#[97, 108, 108]⟩ : ByteArray)], [(0, 1), (0, 2), (0, 3), (1, 4), (2, 4), (1, 5), (3, 5), (2, 6), (3, 6), (4, 7), (5, 7), (6, 7)], [[0, 1, 2, 3, 4, 5, 6, 7], [1, 4, 5, 7], [2, 4, 6, 7], [3, 5, 6, 7], [4, 7], [5, 7], [6, 7], [7]]⟩
theorem pol5_ok : pol5.ok = true := by decide +kernel
def Pol.e (P : Pol) : FV := polE P.names P.pairs []
theorem Pol.nice {P : Pol} (h : P.ok = true) : Nice P.names.length P.g := nice_of (Pol.facts h).2.2.1 (Pol.facts h).2.2.2
theorem Pol.new {P : Pol} (h : P.ok = true) : Rt0 N_level_New [.fz P.e] = some ([.fz (.pt 195 true (latR P.names P.g) 0), .fz (.int .i64 0)], []) := by
  obtain ⟨h1, h2, h3, h4⟩ := Pol.facts h
  obtain ⟨g, hg, hn⟩ := New_ok P.names P.pairs []
  have : g = P.g := by funext a b; exact (hg h1).uniq h3 a b
  subst this
  rw [h4] at hn
  exact hn
theorem Pol.table {P : Pol} (h : P.ok = true) : Rt0 N_ref01_Table [.fz P.e] = some ([.fz (.sl (tabL P.names.length (rowOf P.names.length P.pairs) P.names.length))], []) := Table_ok [] (Pol.nice h).n8 (Pol.facts h).2.1
theorem Pol.lat {P : Pol} (h : P.ok = true) : IsLat (latR P.names P.g) (ltR P.names.length P.g) := latR_is (Pol.nice h)
theorem Pol.tab {P : Pol} (h : P.ok = true) : IsTab (tabL P.names.length (rowOf P.names.length P.pairs) P.names.length) (ltR P.names.length P.g) := by
  obtain ⟨h1, h2, h3, h4⟩ := Pol.facts h
  simp only [laidB, Bool.and_eq_true] at h2
  exact tab_is h2.2 h3
end Go.Ab
end
section
namespace Go.Ab
open Go.Proofs
theorem lat_Text {names : List ByteArray} {g : Tb} (N : Nice names.length g) (a : Int) : Rt0 N_level_Lattice_Text [.fz (.pt 195 true (latR names g) 0), .fz (.int .i64 a)] = some ([.fz (.str (if 0 ≤ a ∧ a < names.length then names.getD a.toNat ByteArray.empty else ByteArray.empty))], []) := by
  have I := latR_is N
  refine rt_call0 A_level_Lattice_Text rfl rfl 0 ?_
  have hi := lat_Is I a
  rw [E_level_Lattice_Text, hi]
  have h0 : FV.cell (latR names g) 0 = .sl (strs names) := latE_0 ..
  by_cases h : 0 ≤ a ∧ a < names.length
  · have e : (ltR names.length g).is a = true := Lt.is_iff.2 h
    have hd : (decide (0 ≤ a) && decide (a < (names.length : Int))) = true := by simp; exact h
    rw [if_pos h]
    simp only [e, onR_some, onL_some, List.isEmpty_nil, allF_cons, allF_nil, Bool.and_true, Bool.true_and, when_true', List.getD_cons_zero, List.getD_cons_succ, isF_fz, toF_fz, isBool_bool, toBool_bool, isInt_int, toInt_int, isStr_str, toStr_str, isSl_sl, toSl_sl, List.length_cons, List.length_nil, List.all_cons, List.all_nil, lisFz_fz, ltoFz_fz, beq_self_eq_true, jump_true, ifB_true, ifB_false, isF_pv, isPv_pv, toV_pv, isNil_nilp, isNil_pt, isPt_pt, toAg_ag, cell_ag, isAg_ag, fits_ag, Int.toNat_natCast, Bool.not_true, Bool.not_false, fits_int, fits_bool, fits_str, fits_sl, I.ag, h0, strs_len, hd, strs_get (show a.toNat < names.length by omega)]
  · have e : (ltR names.length g).is a = false := by
      cases q : (ltR names.length g).is a with
      | false => rfl
      | true => exact absurd (Lt.is_iff.1 q) h
    rw [if_neg h]
    simp only [e, onR_some, onL_some, List.isEmpty_nil, allF_cons, allF_nil, Bool.and_true, Bool.true_and, when_true', List.getD_cons_zero, List.getD_cons_succ, isF_fz, toF_fz, isBool_bool, toBool_bool, isInt_int, toInt_int, isStr_str, toStr_str, isSl_sl, toSl_sl, List.length_cons, List.length_nil, List.all_cons, List.all_nil, lisFz_fz, ltoFz_fz, beq_self_eq_true, jump_true, ifB_true, ifB_false, isF_pv, isPv_pv, toV_pv, isNil_nilp, isNil_pt, isPt_pt, toAg_ag, cell_ag, isAg_ag, fits_ag, Int.toNat_natCast, Bool.not_true, Bool.not_false, fits_int, fits_bool, fits_str, fits_sl]
    rfl
end Go.Ab
end
section
namespace Go.Ab
structure Wr (most : Int) (t : List UInt8) (st st' : ShS) : Prop where
  full : st.2 = true → st'.2 = true
  fits : st.2 = false → ((st.1.length + t.length : Nat) : Int) ≤ most → st' = (st.1 ++ t, false)
  over : st.2 = false → most < ((st.1.length + t.length : Nat) : Int) → st'.2 = true
def Rdy (most : Int) (n : Nat) (st : ShS) : Prop := st.2 = false → (st.1 = [] ∨ (st.1.length : Int) ≤ most) ∧ st.1.length + n ≤ 100000000000000
theorem Wr.trans {most : Int} {t u : List UInt8} {a b c : ShS} (h : Wr most t a b) (k : Wr most u b c) : Wr most (t ++ u) a c where
  full ha := k.full (h.full ha)
  fits ha hl := by
    rw [List.length_append] at hl
    have h1 := h.fits ha (by omega)
    subst h1
    rw [k.fits rfl (by simp only [List.length_append]; omega), List.append_assoc]
  over ha hl := by
    rw [List.length_append] at hl
    by_cases hm : ((a.1.length + t.length : Nat) : Int) ≤ most
    · have h1 := h.fits ha hm
      subst h1
      exact k.over rfl (by simp only [List.length_append]; omega)
    · exact k.full (h.over ha (by omega))
theorem Rdy.after {most : Int} {t : List UInt8} {n : Nat} {a b : ShS} (h : Rdy most (t.length + n) a) (w : Wr most t a b) : Rdy most n b := by
  intro hb
  have ha : a.2 = false := by
    cases hf : a.2 with
    | true => rw [w.full hf] at hb; cases hb
    | false => rfl
  obtain ⟨h1, h2⟩ := h ha
  by_cases hm : ((a.1.length + t.length : Nat) : Int) ≤ most
  · have h3 := w.fits ha hm
    subst h3
    simp only [List.length_append]
    exact ⟨.inr (by omega), by omega⟩
  · rw [w.over ha (by omega)] at hb; cases hb
theorem put_wr {most : Int} (hm0 : -9223372036854775808 ≤ most) (hm1 : most ≤ 9223372036854775807) : ∀ (xs : List (List UInt8)) (n : Nat) (st : ShS), xs ≠ [] → (∀ x ∈ xs, x ≠ []) → Rdy most (xs.flatten.length + n) st → ∃ st', putT most (xs.map qB) st = some st' ∧ Wr most xs.flatten st st' := by
  intro xs
  induction xs with
  | nil => intro n st h; exact absurd rfl h
  | cons x r ih =>
    intro n st _ hx hR
    obtain ⟨out, f⟩ := st
    have hx0 : x ≠ [] := hx x (List.mem_cons_self ..)
    have hxl : 0 < x.length := List.length_pos_iff.2 hx0
    rw [List.flatten_cons] at hR
    cases f with
    | true =>
      refine ⟨(out, true), by simp [putT, putS], fun _ => rfl, fun h => Bool.noConfusion h, fun h => Bool.noConfusion h⟩
    | false =>
      obtain ⟨h1, h2⟩ := hR rfl
      simp only [List.length_append] at h1 h2
      have hg : ¬ (most - out.length < -9223372036854775808 ∨ 9223372036854775807 < most - out.length) := by
        rcases h1 with h1 | h1
        · subst h1; simp only [List.length_nil]; omega
        · omega
      by_cases hbig : (x.length : Int) > most - out.length
      · refine ⟨(out, true), ?_, fun h => Bool.noConfusion h, fun _ hl => ?_, fun _ _ => rfl⟩
        · simp only [putT, List.map_cons, putS]
          rw [if_neg (by simp), if_neg hg, if_pos (by rw [qBsz]; exact hbig)]
        · exfalso
          simp only [List.flatten_cons, List.length_append] at hl
          omega
      · have step : putT most ((x :: r).map qB) (out, false) = putT most (r.map qB) (out ++ x, false) := by
          simp only [putT, List.map_cons, putS]
          rw [if_neg (by simp), if_neg hg, if_neg (by rw [qBsz]; exact hbig), if_neg (by rw [qBsz]; omega)]
          rfl
        rw [step]
        have w1 : Wr most x (out, false) (out ++ x, false) := ⟨fun h => Bool.noConfusion h, fun _ _ => rfl, fun _ hl => by exfalso; simp only at hl; omega⟩
        by_cases hr : r = []
        · subst hr
          exact ⟨(out ++ x, false), by simp [putT, putS], by simpa using w1⟩
        · have hR2 : Rdy most (r.flatten.length + n) (out ++ x, false) := fun _ => ⟨.inr (by simp only [List.length_append]; omega), by simp only [List.length_append]; omega⟩
          obtain ⟨st', h3, h4⟩ := ih n (out ++ x, false) hr (fun y hy => hx y (List.mem_cons_of_mem _ hy)) hR2
          exact ⟨st', h3, by rw [List.flatten_cons]; exact w1.trans h4⟩
theorem qInt_of {f : Nat} {fs : List FV} {n : Int} (h : Rt1 f (fs.map .fz) = some ([.fz (.int .i64 n)], [])) : qInt f fs = some n := by unfold qInt q1; rw [h]
theorem qBool_of {f : Nat} {fs : List FV} {n : Bool} (h : Rt1 f (fs.map .fz) = some ([.fz (.bool n)], [])) : qBool f fs = some n := by unfold qBool q1; rw [h]
theorem qStr_of {f : Nat} {fs : List FV} {n : ByteArray} (h : Rt1 f (fs.map .fz) = some ([.fz (.str n)], [])) : qStr f fs = some n := by unfold qStr q1; rw [h]
section
variable {nm : List ByteArray} (hn : NmOk nm) {e : FV} {L : Lt} (I : IsLat e L) (hnl : L.n = nm.length) (hTx : ∀ j : Nat, j < L.n → Rt0 N_level_Lattice_Text [.fz (.pt 195 true e 0), .fz (.int .i64 j)] = some ([.fz (.str (nm.getD j ⟨#[]⟩))], [])) {most : Int} (hm0 : -9223372036854775808 ≤ most) (hm1 : most ≤ 9223372036854775807) (a : Int)
include hn I hnl hTx hm0 hm1
theorem tok_of {v : ND} (hv : v.Sm) : mayB L v = true → TOk nm v := by
  induction hv with
  | @mk x d k c s t is ks hi hk ht hs h ih =>
    intro hm
    have hit := fun y hy => may_item hm (v := y) hy
    have hm2 := hm
    simp only [mayB, labB_mk, strip_mk, shapeB_mk, Bool.and_eq_true, isR, preB] at hm2
    obtain ⟨⟨h1, _⟩, _, ⟨h2, h3⟩, ⟨h4, h5, h6, h7, h8, h9, h10, h11, h12⟩, _⟩ := hm2
    have hx := Lt.is_iff.1 h1
    simp only [List.length_map, Bool.not_eq_true', Bool.and_eq_false_imp, decide_eq_false_iff_not] at h2 h3 h4 h5 h9 h10
    have keys : ∀ (l : List ByteArray) (p : Option ByteArray), keysOk p l = true → ∀ s ∈ l, textB s = true := by
      intro l
      induction l with
      | nil => intro p _ s hs; cases hs
      | cons u r ihr =>
        intro p hp s hs
        simp only [keysOk, Bool.and_eq_true] at hp
        rcases List.mem_cons.1 hs with rfl | hs
        · exact hp.1
        · exact ihr _ hp.2.2 s hs
    refine .mk (fun _ => ⟨hx.1, by omega⟩) (fun _ => ⟨by omega, by omega⟩) (fun h3' => ?_) (fun _ => h8) (fun h6' => ?_) (keys ks none h11) (fun n5 n6 => ?_) (fun v hv => ih v hv (hit v hv))
    · subst h3'
      simpa using h9
    · have := h2 (by simp [h6'])
      simp only [bne_eq_false_iff_eq] at this
      omega
    · have := h3 (by simpa using n5) 
      have := this (by simpa using n6)
      apply List.eq_nil_of_length_eq_zero
      omega
theorem tok_und {v : ND} (hv : v.Sm) : TOk nm v → ∀ up : Nat, TOk nm (und L a up v) := by
  induction hv with
  | @mk x d k c s t is ks hi hk ht hs h ih =>
    intro hT up
    cases hT with
    | mk hx hkk h3 htt hks hkt hii hh =>
      rw [und_mk]
      split
      · have hlt := I.ok.joinI_lt up x
        refine .mk (fun _ => ⟨by omega, by omega⟩) hkk h3 htt (fun h6 => by rw [List.length_map]; exact hks h6) hkt (fun h5 h6 => by rw [hii h5 h6]; rfl) (fun v hv => ?_)
        obtain ⟨y, hy, rfl⟩ := List.mem_map.1 hv
        exact ih y hy (hh y hy) _
      · exact .mk (fun h => absurd rfl h) (fun h => absurd rfl h) (fun h => absurd h (by decide)) (fun h => absurd rfl h) (fun h => absurd h (by decide)) (fun s h => by cases h) (fun _ _ => rfl) (fun v h => by cases h)
end
end Go.Ab
end
section
namespace Go.Ab
def WrE (most : Int) (t : List UInt8) (a b : ShS) : Prop := (t = [] ∧ b = a) ∨ (t ≠ [] ∧ Wr most t a b)
theorem WrE.trans {most : Int} {t u : List UInt8} {a b c : ShS} (h : WrE most t a b) (k : WrE most u b c) : WrE most (t ++ u) a c := by
  rcases h with ⟨rfl, rfl⟩ | ⟨h0, h⟩
  · simpa using k
  · rcases k with ⟨rfl, rfl⟩ | ⟨k0, k⟩
    · rw [List.append_nil]; exact .inr ⟨h0, h⟩
    · exact .inr ⟨by simp [h0], h.trans k⟩
theorem WrE.nil (most : Int) (a : ShS) : WrE most [] a a := .inl ⟨rfl, rfl⟩
theorem WrE.wr {most : Int} {t : List UInt8} {a b : ShS} (h : WrE most t a b) (ht : t ≠ []) : Wr most t a b := by
  rcases h with ⟨h0, _⟩ | ⟨_, h⟩
  · exact absurd h0 ht
  · exact h
theorem Rdy.afterE {most : Int} {t : List UInt8} {n : Nat} {a b : ShS} (h : Rdy most (t.length + n) a) (w : WrE most t a b) : Rdy most n b := by
  rcases w with ⟨rfl, rfl⟩ | ⟨_, w⟩
  · simpa using h
  · exact h.after w
theorem putE {most : Int} (hm0 : -9223372036854775808 ≤ most) (hm1 : most ≤ 9223372036854775807) (xs : List (List UInt8)) (n : Nat) (st : ShS) (h0 : xs ≠ []) (hx : ∀ x ∈ xs, x ≠ []) (hR : Rdy most (xs.flatten.length + n) st) : ∃ st', putT most (xs.map qB) st = some st' ∧ WrE most xs.flatten st st' := by
  obtain ⟨st', h1, h2⟩ := put_wr hm0 hm1 xs n st h0 hx hR
  refine ⟨st', h1, .inr ⟨?_, h2⟩⟩
  cases xs with
  | nil => exact absurd rfl h0
  | cons x r =>
    have := hx x (List.mem_cons_self ..)
    simp [this]
theorem Rdy.eq {most : Int} {n m : Nat} {st : ShS} (h : Rdy most n st) (e : n = m) : Rdy most m st := e ▸ h
theorem ne_of_len {l : List UInt8} (h : 1 ≤ l.length) : l ≠ [] := by
  intro e; subst e; simp at h
section
variable {nm : List ByteArray} (hn : NmOk nm) {e : FV} {L : Lt} (I : IsLat e L) (hnl : L.n = nm.length) (hTx : ∀ j : Nat, j < L.n → Rt0 N_level_Lattice_Text [.fz (.pt 195 true e 0), .fz (.int .i64 j)] = some ([.fz (.str (nm.getD j ⟨#[]⟩))], [])) {most : Int} (hm0 : -9223372036854775808 ≤ most) (hm1 : most ≤ 9223372036854775807) (a : Int)
include hn I hnl hTx hm0 hm1
theorem items_show (N : Nat) (k : Int) (j : Nat) (ks : List ByteArray) (is : List ND) (hks : k = 6 → ks.length = is.length) (hkt : ∀ s ∈ ks, textB s = true) (hkz : ∀ s ∈ ks, s.size ≤ 150994944)
    (ih : ∀ v ∈ is, ∀ (st : ShS) (rest : Nat), Rdy most ((shT nm j (und L a j v)).length + rest) st → ∃ st', nodeS (.pt 195 true e 0) a most N v.enc j st = some st' ∧ WrE most (shT nm j (und L a j v)) st st') : ∀ (q i : Nat) (st : ShS) (rest : Nat), i + q = is.length →
    Rdy most ((shTs nm j k (decide (i = 0)) ((is.drop i).map (und L a j)) (ks.drop i)).length + rest) st →
    ∃ st', itemsF most (nodeS (.pt 195 true e 0) a most N) k (ks.map .str) j i ((is.drop i).map ND.enc) st = some st' ∧ (st.2 = true → st'.2 = true) ∧ (st.2 = false → WrE most (shTs nm j k (decide (i = 0)) ((is.drop i).map (und L a j)) (ks.drop i)) st st') := by
  intro q
  induction q with
  | zero =>
    intro i st rest hi hR
    rw [List.drop_eq_nil_of_le (by omega)]
    refine ⟨st, rfl, fun h => h, fun _ => ?_⟩
    simp only [List.map_nil, shTs]
    exact WrE.nil _ _
  | succ q jh =>
    intro i st rest hi hR
    have hl : i < is.length := by omega
    have hnode : isNode (is[i]).enc = true := by
      obtain ⟨b1, b2, b3, b4, b5, b6, b7, b8⟩ := is[i]
      rw [ND.enc_mk]; rfl
    rw [drop_cons hl, List.map_cons, List.map_cons, shTs_cons] at *
    simp only [itemsF]
    rw [if_neg (by rw [hnode]; simp)]
    obtain ⟨out, f⟩ := st
    cases f with
    | true => exact ⟨(out, true), by simp, fun h => h, fun h => Bool.noConfusion h⟩
    | false =>
      rw [if_neg (by simp)]
      have htl : ks.drop (i + 1) = (ks.drop i).tail := by rw [List.tail_drop]
      have hf1 : decide (i + 1 = 0) = false := decide_eq_false (by omega)
      -- the comma
      obtain ⟨s1, hc1, w1⟩ : ∃ s1, (if 0 < i then putT most [⟨#[44]⟩] (out, false) else some (out, false)) = some s1 ∧ WrE most (cma (decide (i = 0))) (out, false) s1 := by
        by_cases h0 : i = 0
        · rw [if_neg (by omega), decide_eq_true h0]
          exact ⟨_, rfl, WrE.nil _ _⟩
        · rw [if_pos (by omega)]
          rw [decide_eq_false h0] at hR ⊢
          obtain ⟨s1, h1, h2⟩ := putE hm0 hm1 [[44]] _ (out, false) (by simp) (by simp) (hR.eq (by simp only [cma, List.length_append, List.flatten_cons, List.flatten_nil, List.length_cons, List.length_nil]; rw [Nat.add_assoc]))
          exact ⟨s1, h1, by simpa [cma] using h2⟩
      have hR1 : Rdy most (((if k = 6 then qT (keyL ((ks.drop i).headD ⟨#[]⟩)) ++ [58] else []) ++ (shT nm j (und L a j is[i]) ++ shTs nm j k false ((is.drop (i + 1)).map (und L a j)) (ks.drop i).tail)).length + rest) s1 := by
        refine Rdy.afterE (hR.eq ?_) w1
        simp only [List.length_append]
        omega
      -- the key
      obtain ⟨s2, hc2, w2⟩ : ∃ s2, (if k = 6 ∧ i < (ks.map FV.str).length then (match (ks.map FV.str)[i]? with
          | some (.str k) => (qStr 103 [.str k]).bind fun e => (qStr 80 [.str e]).bind fun q => putT most [q, ⟨#[58]⟩] s1
          | _ => none) else some s1) = some s2 ∧ WrE most (if k = 6 then qT (keyL ((ks.drop i).headD ⟨#[]⟩)) ++ [58] else []) s1 s2 := by
        by_cases h6 : k = 6
        · have hlk : i < ks.length := by have := hks h6; omega
          have hhd : (ks.drop i).headD ⟨#[]⟩ = ks[i] := by rw [drop_cons hlk]; rfl
          have hsz := hkz ks[i] (List.getElem_mem hlk)
          have htx := hkt ks[i] (List.getElem_mem hlk)
          have hkz2 := keyL_size ks[i]
          have q1 := qStr_of (f := 103) (fs := [.str ks[i]]) (lift01 (key_ok ks[i] hsz))
          have q2 := qStr_of (f := 80) (fs := [.str (keyL ks[i])]) (quoted12_ok (s := keyL ks[i]) (by omega) (keyL_text htx))
          have hget : (ks.map FV.str)[i]? = some (.str ks[i]) := by rw [List.getElem?_map, List.getElem?_eq_getElem hlk]; rfl
          rw [if_pos ⟨h6, by rw [List.length_map]; exact hlk⟩, hget, if_pos h6, hhd]
          rw [if_pos h6, hhd] at hR1
          simp only [q1, q2, Option.bind_some]
          obtain ⟨s2, h1, h2⟩ := putE hm0 hm1 [qT (keyL ks[i]), [58]] _ s1 (by simp) (by
            intro x hx
            simp only [List.mem_cons, List.not_mem_nil, or_false] at hx
            rcases hx with rfl | rfl
            · exact ne_of_len (by have := qT_pos (keyL_text htx); omega)
            · simp) (hR1.eq (by simp only [List.length_append, List.flatten_cons, List.flatten_nil, List.length_cons, List.length_nil]; rw [Nat.add_assoc]))
          exact ⟨s2, h1, by simpa using h2⟩
        · rw [if_neg (fun h => h6 h.1), if_neg h6]
          exact ⟨_, rfl, WrE.nil _ _⟩
      have hR2 : Rdy most ((shT nm j (und L a j is[i])).length + ((shTs nm j k false ((is.drop (i + 1)).map (und L a j)) (ks.drop i).tail).length + rest)) s2 := by
        refine Rdy.afterE (hR1.eq ?_) w2
        simp only [List.length_append]
        omega
      obtain ⟨s3, hc3, w3⟩ := ih is[i] (List.getElem_mem hl) s2 _ hR2
      have hR3 := Rdy.afterE hR2 w3
      obtain ⟨s4, hc4, f4, w4⟩ := jh (i + 1) s3 rest (by omega) (by rw [hf1, htl]; exact hR3)
      rw [hf1, htl] at w4
      refine ⟨s4, ?_, fun h => Bool.noConfusion h, fun _ => ?_⟩
      · rw [hc1, Option.bind_some]
        refine (congrArg (Option.bind · _) hc2).trans ?_
        rw [Option.bind_some, hc3, Option.bind_some]
        exact hc4
      · refine w1.trans (w2.trans (w3.trans ?_))
        cases hs3 : s3.2 with
        | false => exact w4 hs3
        | true =>
          by_cases hnil : shTs nm j k false ((is.drop (i + 1)).map (und L a j)) (ks.drop i).tail = []
          · -- nothing is left
            have hd : is.drop (i + 1) = [] := by
              cases hd : is.drop (i + 1) with
              | nil => rfl
              | cons u r =>
                rw [hd, List.map_cons, shTs_cons] at hnil
                simp [cma] at hnil
            rw [hd, List.map_nil] at hc4
            have : s4 = s3 := by
              simp only [itemsF] at hc4
              exact (Option.some.inj hc4).symm
            rw [hnil, this]
            exact WrE.nil _ _
          · exact .inr ⟨hnil, ⟨fun _ => f4 hs3, fun h => absurd (hs3.symm.trans h) (by simp), fun h => absurd (hs3.symm.trans h) (by simp)⟩⟩
theorem node_show {v : ND} (hv : v.Sm) : mayB L v = true → ∀ (n : Nat), v.cnt ≤ n → ∀ (up : Nat) (st : ShS) (rest : Nat), Rdy most ((shT nm up (und L a up v)).length + rest) st → ∃ st', nodeS (.pt 195 true e 0) a most n v.enc up st = some st' ∧ WrE most (shT nm up (und L a up v)) st st' := by
  induction hv with
  | @mk x d k c s t is ks hi hk ht hs h ih =>
    intro hm n hcn up st rest hR
    have hT := tok_of hn I hnl hTx hm0 hm1 (ND.Sm.mk hi hk ht hs h) hm
    have hit := fun y hy => may_item hm (v := y) hy
    rw [ND.cnt_mk] at hcn
    obtain ⟨n, rfl⟩ : ∃ m, n = m + 1 := ⟨n - 1, by omega⟩
    have hk8 : k ≠ 8 := by
      intro e8
      subst e8
      simp only [mayB, strip_mk, shapeB_mk, Bool.and_eq_true, isR] at hm
      simp at hm
    cases hT with
    | mk hx hkk h3 htt hks hkt hii hh =>
    have hkk := hkk hk8
    have htt := htt hk8
    have q1 := qInt_of (fs := [.pt 195 true e 0, .int .i64 up, .int .i64 x]) (lift01 (lat_Join I up x))
    have q2 := qBool_of (fs := [.pt 195 true e 0, .int .i64 (L.joinI up x : Nat), .int .i64 a]) (lift01 (lat_Leq I (L.joinI up x : Nat) a))
    have hjl := I.ok.joinI_lt up x
    generalize hj : L.joinI up x = j at q1 q2 hjl
    rw [und_mk, hj] at hR ⊢
    simp only [nodeS, ND.enc_mk, nodeF, q1, q2, Option.bind_some]
    cases hle : L.leqI j a with
    | false =>
      rw [hle, if_neg (by simp)] at hR
      rw [if_pos rfl, if_neg (by simp)]
      have hh12 : shT nm up (holeN L) = hole12 := by unfold holeN; rw [shT_mk, if_pos rfl]
      rw [hh12] at hR ⊢
      obtain ⟨s1, h1, h2⟩ := putE hm0 hm1 [hole12] rest st (by simp) (by simp [hole12]) (by simpa using hR)
      exact ⟨s1, h1, by simpa using h2⟩
    | true =>
      rw [hle, if_pos rfl] at hR
      rw [if_neg (by simp), if_pos rfl]
      rw [shT_mk, if_neg hk8] at hR ⊢
      -- the body
      have body : ∀ (st : ShS) (rest : Nat), Rdy most ((bodyT k c s t (shTs nm j k true (is.map (und L a j)) ks)).length + rest) st → ∃ st', bodyF most (nodeS (.pt 195 true e 0) a most n) (.ag [.int .i64 x, .int .i64 d, .int .i64 k, .int .i64 c, .int .i64 s, .str t, .sl (is.map ND.enc), .sl (ks.map .str)]) j st = some st' ∧ WrE most (bodyT k c s t (shTs nm j k true (is.map (und L a j)) ks)) st st' := by
        intro st rest hR
        have one : ∀ (y : List UInt8), y ≠ [] → bodyT k c s t (shTs nm j k true (is.map (und L a j)) ks) = y → ∃ st', putT most [qB y] st = some st' ∧ WrE most y st st' := by
          intro y hy e
          rw [e] at hR
          obtain ⟨s1, h1, h2⟩ := putE hm0 hm1 [y] rest st (by simp) (by simpa using hy) (by simpa using hR)
          exact ⟨s1, h1, by simpa using h2⟩
        unfold bodyF
        simp only []
        rw [if_neg (by simp only [List.length_map]; omega)]
        by_cases h0 : k = 0
        · subst h0; exact one _ (by simp) rfl
        rw [if_neg h0]
        by_cases h1 : k = 1
        · subst h1; exact one _ (by simp) rfl
        rw [if_neg h1]
        by_cases h2 : k = 2
        · subst h2; exact one _ (by simp) rfl
        rw [if_neg h2]
        by_cases h3' : k = 3
        · have q := qStr_of (fs := [.ag [.int .i64 c, .int .i64 s]]) (pnum_ok (h3 h3'))
          rw [if_pos h3', q, Option.bind_some]
          subst h3'
          exact one _ (ne_of_len (numT_len (h3 rfl)).1) rfl
        rw [if_neg h3']
        have qq := qStr_of (fs := [.str t]) (quoted12_ok (s := t) (by omega) htt)
        have hqp := qT_pos htt
        by_cases h4 : k = 4
        · rw [if_pos h4, qq, Option.bind_some]
          subst h4
          exact one _ (ne_of_len (by omega)) rfl
        rw [if_neg h4]
        by_cases h7 : k = 7
        · rw [if_pos h7, qq, Option.bind_some]
          subst h7
          have e7 : bodyT 7 c s t (shTs nm j 7 true (is.map (und L a j)) ks) = [123, 34, 35, 33, 34, 58] ++ qT t ++ [125] := rfl
          rw [e7] at hR ⊢
          obtain ⟨s1, h1, h2⟩ := putE hm0 hm1 [[123, 34, 35, 33, 34, 58], qT t, [125]] rest st (by simp) (by
            intro y hy
            simp only [List.mem_cons, List.not_mem_nil, or_false] at hy
            rcases hy with rfl | rfl | rfl
            · simp
            · exact ne_of_len (by omega)
            · simp) (hR.eq (by simp only [List.length_append, List.flatten_cons, List.flatten_nil, List.length_cons, List.length_nil]; omega))
          exact ⟨s1, h1, by simpa using h2⟩
        rw [if_neg h7]
        have h56 : k = 5 ∨ k = 6 := by omega
        have hb := bodyT_items (k := k) (c := c) (s := s) (t := t) h56 (shTs nm j k true (is.map (und L a j)) ks)
        rw [hb] at hR ⊢
        simp only [List.length_cons, List.length_append, List.length_nil] at hR
        have its := items_show hn I hnl hTx hm0 hm1 a n k j ks is hks hkt hs (fun v hv st rest hR => ih v hv (hit v hv) n (by have := cnt_le_of_mem hv; omega) j st rest hR) is.length 0
        rw [decide_eq_true rfl, List.drop_zero, List.drop_zero] at its
        have all : ∀ (o c : UInt8), Rdy most ((shTs nm j k true (is.map (und L a j)) ks).length + (0 + 1) + 1 + rest) st → ∃ st', ((putT most [qB [o]] st).bind fun st => (itemsF most (nodeS (.pt 195 true e 0) a most n) k (ks.map .str) j 0 (is.map ND.enc) st).bind fun st => putT most [qB [c]] st) = some st' ∧ WrE most (o :: (shTs nm j k true (is.map (und L a j)) ks ++ [c])) st st' := by
          intro o c hR
          obtain ⟨s1, p1, w1⟩ := putE hm0 hm1 [[o]] _ st (by simp) (by simp) (hR.eq (m := ([[o]] : List (List UInt8)).flatten.length + ((shTs nm j k true (is.map (und L a j)) ks).length + (1 + rest))) (by simp only [List.flatten_cons, List.flatten_nil, List.length_append, List.length_cons, List.length_nil]; omega))
          have hR1 : Rdy most ((shTs nm j k true (is.map (und L a j)) ks).length + (1 + rest)) s1 := by
            refine Rdy.afterE (hR.eq ?_) w1
            simp only [List.flatten_cons, List.flatten_nil, List.length_append, List.length_cons, List.length_nil]
            omega
          obtain ⟨s2, p2, f2, w2⟩ := its s1 (1 + rest) (by omega) hR1
          have hR2 : Rdy most (1 + rest) s2 := by
            cases hs1 : s1.2 with
            | false => exact Rdy.afterE hR1 (w2 hs1)
            | true => exact fun h => by rw [f2 hs1] at h; cases h
          obtain ⟨s3, p3, w3⟩ := putE hm0 hm1 [[c]] rest s2 (by simp) (by simp) (hR2.eq (by simp))
          refine ⟨s3, ?_, ?_⟩
          · rw [show putT most [qB [o]] st = some s1 from p1, Option.bind_some, p2, Option.bind_some]
            exact p3
          · refine .inr ⟨by simp, ?_⟩
            have w1' : WrE most [o] st s1 := by simpa using w1
            have w3' : WrE most [c] s2 s3 := by simpa using w3
            cases hs1 : s1.2 with
            | false => exact (w1'.trans ((w2 hs1).trans w3')).wr (by simp)
            | true =>
              have f3 := (w3'.wr (by simp)).full (f2 hs1)
              have ww := w1'.wr (by simp)
              refine ⟨fun h => f3, fun h hl => ?_, fun _ _ => f3⟩
              have := ww.fits h (by simp only [List.length_cons, List.length_append, List.length_nil] at hl ⊢; omega)
              rw [this] at hs1
              cases hs1
        rcases h56 with h5 | h6
        · have h6' : k ≠ 6 := by omega
          rw [if_pos h5, if_neg h6', if_neg h6'] 
          obtain ⟨s3, p3, w3⟩ := all 91 93 hR
          exact ⟨s3, p3, w3⟩
        · have h5' : k ≠ 5 := by omega
          rw [if_neg h5', if_pos h6, if_pos h6, if_pos h6]
          obtain ⟨s3, p3, w3⟩ := all 123 125 hR
          exact ⟨s3, p3, w3⟩
      by_cases hup : j = up
      · rw [if_pos (by omega)] at hR ⊢
        rw [if_pos (by omega)]
        obtain ⟨s1, p1, w1⟩ := body st rest hR
        exact ⟨s1, p1, w1⟩
      · rw [if_neg (by omega)] at hR ⊢
        rw [if_neg (by omega)]
        have q3 := qStr_of (f := 34) (fs := [.pt 195 true e 0, .int .i64 j]) (lift01 (hTx j hjl))
        have hmem : nm.getD j ⟨#[]⟩ ∈ nm := by
          rw [List.getD_eq_getElem?_getD, List.getElem?_eq_getElem (by omega)]
          exact List.getElem_mem (by omega)
        have q4 := qStr_of (f := 80) (fs := [.str (nm.getD j ⟨#[]⟩)]) (quoted12_ok (by have := (hn _ hmem).1; omega) (hn _ hmem).2)
        have hqp := qT_pos (hn _ hmem).2
        rw [q3, Option.bind_some, q4, Option.bind_some]
        simp only [Int.toNat_natCast] at hR ⊢
        obtain ⟨s1, p1, w1⟩ := putE hm0 hm1 [[123, 34, 35, 34, 58], qT (nm.getD j ⟨#[]⟩), [44, 34, 61, 34, 58]] ((bodyT k c s t (shTs nm j k true (is.map (und L a j)) ks)).length + (1 + rest)) st (by simp) (by
          intro y hy
          simp only [List.mem_cons, List.not_mem_nil, or_false] at hy
          rcases hy with rfl | rfl | rfl
          · simp
          · exact ne_of_len (by omega)
          · simp) (hR.eq (by simp only [List.length_append, List.flatten_cons, List.flatten_nil, List.length_cons, List.length_nil]; omega))
        obtain ⟨s2, p2, w2⟩ := body s1 (1 + rest) (by
          refine Rdy.afterE (hR.eq ?_) w1
          simp only [List.length_append, List.flatten_cons, List.flatten_nil, List.length_cons, List.length_nil]
          omega)
        obtain ⟨s3, p3, w3⟩ := putE hm0 hm1 [[125]] rest s2 (by simp) (by simp) (by
          have := Rdy.afterE (t := bodyT k c s t (shTs nm j k true (is.map (und L a j)) ks)) (n := 1 + rest) (a := s1) (b := s2) (most := most) (by
            refine Rdy.afterE (hR.eq ?_) w1
            simp only [List.length_append, List.flatten_cons, List.flatten_nil, List.length_cons, List.length_nil]
            omega) w2
          exact this.eq (by simp))
        refine ⟨s3, ?_, ?_⟩
        · rw [show putT most [⟨#[123, 34, 35, 34, 58]⟩, qB (qT (nm.getD j ⟨#[]⟩)), ⟨#[44, 34, 61, 34, 58]⟩] st = some s1 from p1, Option.bind_some, p2, Option.bind_some]
          exact p3
        · have := w1.trans (w2.trans w3)
          simpa using this
end
end Go.Ab
end
section
namespace Go.Ab
def nmsB (l : List ByteArray) : Bool := (l.all fun s => decide (s.size ≤ 150994944) && textB s) && ((List.range l.length).all fun i => (List.range l.length).all fun j => (!decide (l.getD i ⟨#[]⟩ = l.getD j ⟨#[]⟩)) || i == j)
theorem Sort_nm (k : Int) : ∃ P : Pol, P.ok = true ∧ nmsB P.names = true ∧ Rt0 N_ref01_Sort [.fz (.int .i64 k)] = some ([.fz P.e], []) := by
  have hr : ∀ r, callL Rt0 0 true A_ref01_Sort [.fz (.int .i64 k)] = some r → Rt0 N_ref01_Sort [.fz (.int .i64 k)] = some r := fun r h => rt_call0 A_ref01_Sort rfl rfl 0 h
  rw [E_ref01_Sort] at hr
  generalize (Int.tmod (IntKind.wrap .i64 ((Int.tmod k 6) + 6)) 6) = v at hr
  by_cases h0 : v = 0
  · refine ⟨pol0, pol0_ok, by decide +kernel, hr _ ?_⟩
    rw [show (v == 0) = true by simp [h0]]; rfl
  by_cases h1 : v = 1
  · refine ⟨pol1, pol1_ok, by decide +kernel, hr _ ?_⟩
    rw [show (v == 0) = false by simp [h0], show (v == 1) = true by simp [h1]]; rfl
  by_cases h2 : v = 2
  · refine ⟨pol2, pol2_ok, by decide +kernel, hr _ ?_⟩
    rw [show (v == 0) = false by simp [h0], show (v == 1) = false by simp [h1], show (v == 2) = true by simp [h2]]; rfl
  by_cases h3 : v = 3
  · refine ⟨pol3, pol3_ok, by decide +kernel, hr _ ?_⟩
    rw [show (v == 0) = false by simp [h0], show (v == 1) = false by simp [h1], show (v == 2) = false by simp [h2], show (v == 3) = true by simp [h3]]; rfl
  by_cases h4 : v = 4
  · refine ⟨pol4, pol4_ok, by decide +kernel, hr _ ?_⟩
    rw [show (v == 0) = false by simp [h0], show (v == 1) = false by simp [h1], show (v == 2) = false by simp [h2], show (v == 3) = false by simp [h3], show (v == 4) = true by simp [h4]]; rfl
  · refine ⟨pol5, pol5_ok, by decide +kernel, hr _ ?_⟩
    rw [show (v == 0) = false by simp [h0], show (v == 1) = false by simp [h1], show (v == 2) = false by simp [h2], show (v == 3) = false by simp [h3], show (v == 4) = false by simp [h4]]; rfl
end Go.Ab
end
section
namespace Go.Ab
theorem Bottom1 {t : List FV} {L : Lt} (T : IsTab t L) (h8 : L.n ≤ 8) {c K : Nat} (hc : c < L.n) : ∀ (m d N : Nat) (is : Bool), d + m = L.n → m < N →
    L_ref09_Bottom_1_0 Rt0 K true N t c is d = some (.exit 2, X_ref09_Bottom_1_0 t c (is && allI (fun d => L.leq c d) m d))
  | m, d, 0, _, _, h => by omega
  | 0, d, N + 1, is, h, _ => by
    rw [L_ref09_Bottom_1_0_eq, T.len]
    simp [show ¬ ((d : Int) < (L.n : Int)) by omega, allI]
  | m + 1, d, N + 1, is, h, hN => by
    have hd : d < L.n := by omega
    have ih := fun is => Bottom1 T h8 (K := K) hc m (d + 1) N is (by omega) (by omega)
    have hlt : decide ((d : Int) < (L.n : Int)) = true := by simp; omega
    rw [L_ref09_Bottom_1_0_eq, T.len]
    simp only [dlt hc, dlt hd, Int.toNat_natCast, T.fits c hc, T.sl c hc, T.rlen c hc, T.cell c d hc hd, fits_bool, isBool_bool, toBool_bool, when_true', wrn (show d < 1152921504606846976 by omega), ih, allI]
    rw [hlt, ifB_true]
    cases is <;> simp
theorem Bottom2 {t : List FV} {L : Lt} (T : IsTab t L) (O : L.Ok) {K : Nat} (hK : 9 < K) : ∀ (m c N : Nat), c + m = L.n → c ≤ L.bot → m < N →
    onL (L_ref09_Bottom_2_0 Rt0 K true N t c) (K_ref09_Bottom_2 Rt0 K true) = some ([.fz (.int .i64 L.bot)], [])
  | m, d, 0, _, _, h => by omega
  | 0, c, N + 1, h, hb, _ => by have := O.bot; omega
  | m + 1, c, N + 1, h, hb, hN => by
    have h8 := O.n8
    have hc : c < L.n := by omega
    have hlt : decide ((c : Int) < (L.n : Int)) = true := by simp; omega
    have i1 := Bottom1 T O.n8 (K := K) hc L.n 0 K true (by omega) (by omega)
    simp only [Int.natCast_zero] at i1
    rw [L_ref09_Bottom_2_0_eq, T.len]
    simp only [hlt, ifB_true, i1, onL_some, X_ref09_Bottom_1_0_eq, Bool.true_and, wrn (show c < 1152921504606846976 by omega)]
    cases q : allI (fun d => L.leq c d) L.n 0 with
    | true =>
      have q := allI_iff.1 q
      have e : c = L.bot := O.anti _ _ hc O.bot (q _ (by omega) (by have := O.bot; omega)) (O.botle c hc)
      subst e
      simp only [ifB_true, onL_some, X_ref09_Bottom_2_1_eq]
    | false =>
      have e : c ≠ L.bot := fun e => by
        have : allI (fun d => L.leq c d) L.n 0 = true := allI_iff.2 fun d _ hd => by subst e; exact O.botle d (by omega)
        rw [this] at q; cases q
      simp only [ifB_false]
      exact Bottom2 T O hK m (c + 1) N (by omega) (by omega) (by omega)
theorem bottom9_ok {t : List FV} {L : Lt} (T : IsTab t L) (O : L.Ok) : Rt0 N_ref09_Bottom [.fz (.sl t)] = some ([.fz (.int .i64 L.bot)], []) := by
  refine rt_call0 A_ref09_Bottom rfl rfl 12 ?_
  rw [E_ref09_Bottom]
  have h8 := O.n8
  exact Bottom2 T O (by omega) L.n 0 12 (by omega) (by omega) (by omega)
end Go.Ab
end
section
namespace Go.Ab
theorem Top1 {t : List FV} {L : Lt} (T : IsTab t L) (h8 : L.n ≤ 8) {c K : Nat} (hc : c < L.n) : ∀ (m d N : Nat) (is : Bool), d + m = L.n → m < N →
    L_ref09_Top_1_0 Rt0 K true N t c is d = some (.exit 2, X_ref09_Top_1_0 t c (is && allI (fun d => L.leq d c) m d))
  | m, d, 0, _, _, h => by omega
  | 0, d, N + 1, is, h, _ => by
    rw [L_ref09_Top_1_0_eq, T.len]
    simp [show ¬ ((d : Int) < (L.n : Int)) by omega, allI]
  | m + 1, d, N + 1, is, h, hN => by
    have hd : d < L.n := by omega
    have ih := fun is => Top1 T h8 (K := K) hc m (d + 1) N is (by omega) (by omega)
    have hlt : decide ((d : Int) < (L.n : Int)) = true := by simp; omega
    rw [L_ref09_Top_1_0_eq, T.len]
    simp only [dlt hc, dlt hd, Int.toNat_natCast, T.fits d hd, T.sl d hd, T.rlen d hd, T.cell d c hd hc, fits_bool, isBool_bool, toBool_bool, when_true', wrn (show d < 1152921504606846976 by omega), ih, allI]
    rw [hlt, ifB_true]
    cases is <;> simp
theorem Top2 {t : List FV} {L : Lt} (T : IsTab t L) (O : L.Ok) {K : Nat} (hK : 9 < K) : ∀ (m c N : Nat), c + m = L.n → c ≤ L.top → m < N →
    onL (L_ref09_Top_2_0 Rt0 K true N t c) (K_ref09_Top_2 Rt0 K true) = some ([.fz (.int .i64 L.top)], [])
  | m, d, 0, _, _, h => by omega
  | 0, c, N + 1, h, hb, _ => by have := O.top; omega
  | m + 1, c, N + 1, h, hb, hN => by
    have h8 := O.n8
    have hc : c < L.n := by omega
    have hlt : decide ((c : Int) < (L.n : Int)) = true := by simp; omega
    have i1 := Top1 T O.n8 (K := K) hc L.n 0 K true (by omega) (by omega)
    simp only [Int.natCast_zero] at i1
    rw [L_ref09_Top_2_0_eq, T.len]
    simp only [hlt, ifB_true, i1, onL_some, X_ref09_Top_1_0_eq, Bool.true_and, wrn (show c < 1152921504606846976 by omega)]
    cases q : allI (fun d => L.leq d c) L.n 0 with
    | true =>
      have q := allI_iff.1 q
      have e : c = L.top := O.anti _ _ hc O.top (O.letop c hc) (q _ (by omega) (by have := O.top; omega))
      subst e
      simp only [ifB_true, onL_some, X_ref09_Top_2_1_eq]
    | false =>
      have e : c ≠ L.top := fun e => by
        have : allI (fun d => L.leq d c) L.n 0 = true := allI_iff.2 fun d _ hd => by subst e; exact O.letop d (by omega)
        rw [this] at q; cases q
      simp only [ifB_false]
      exact Top2 T O hK m (c + 1) N (by omega) (by omega) (by omega)
theorem top9_ok {t : List FV} {L : Lt} (T : IsTab t L) (O : L.Ok) : Rt0 N_ref09_Top [.fz (.sl t)] = some ([.fz (.int .i64 L.top)], []) := by
  refine rt_call0 A_ref09_Top rfl rfl 12 ?_
  rw [E_ref09_Top]
  have h8 := O.n8
  exact Top2 T O (by omega) L.n 0 12 (by omega) (by omega) (by omega)
end Go.Ab
end
section
namespace Go.Ab
section
variable {t9 : List FV} {L : Lt} (T : IsTab t9 L)
include T
theorem sees_ok (x a : Int) : Rt0 N_ref11_sees [.fz (.sl t9), .fz (.int .i64 x), .fz (.int .i64 a)] = some ([.fz (.bool (L.leqI x a))], []) := by
  refine rt_call0 A_ref11_sees rfl rfl 0 ?_
  rw [E_ref11_sees, T.len]
  unfold Lt.leqI Lt.is
  by_cases h1 : 0 ≤ a
  · by_cases h2 : a < L.n
    · by_cases h3 : 0 ≤ x
      · by_cases h4 : x < L.n
        · have g1 := T.fits x.toNat (by omega)
          have g2 := T.sl x.toNat (by omega)
          have g3 := T.rlen x.toNat (by omega)
          have g4 := T.cell x.toNat a.toNat (by omega) (by omega)
          simp only [ge_iff_le, decide_eq_true h1, decide_eq_true h2, decide_eq_true h3, decide_eq_true h4, ifB_true, Bool.and_true, when_true', g1, g2, g3, g4, fits_bool, isBool_bool, toBool_bool, Bool.true_and]
        · simp only [ge_iff_le, decide_eq_true h1, decide_eq_true h2, decide_eq_true h3, decide_eq_false h4, ifB_true, ifB_false, Bool.and_false, Bool.false_and]
      · simp only [ge_iff_le, decide_eq_true h1, decide_eq_true h2, decide_eq_false h3, ifB_true, ifB_false, Bool.false_and]
    · simp only [ge_iff_le, decide_eq_true h1, decide_eq_false h2, ifB_true, ifB_false, Bool.and_false, Bool.false_and]
  · simp only [ge_iff_le, decide_eq_false h1, ifB_false, Bool.false_and, Bool.and_false]
theorem rat_ok (O : L.Ok) (a : Int) {v : ND} (hv : v.Sm) : ∀ up : Nat, up < L.n → labB L v = true → Rt0 N_ref11_At [.fz (.sl t9), .fz v.enc, .fz (.int .i64 up), .fz (.int .i64 a)] = some ([.fz (und L a up v).enc], []) := by
  have hroom : roomy = 140737488355328 := rfl
  induction hv with
  | @mk x d k c s t is ks hi hk ht hs h ih =>
    intro up hup hlab
    rw [labB_mk, Bool.and_eq_true] at hlab
    have hx := Lt.is_iff.1 hlab.1
    obtain ⟨y, rfl⟩ : ∃ y : Nat, x = y := ⟨x.toNat, by omega⟩
    have hy : y < L.n := by omega
    have hu := O.join up y hup hy
    have hj := join9_ok T O hup hy
    have hq := sees_ok T (L.join up y) a
    have htop := top9_ok T O
    refine rt_call0 A_ref11_At rfl rfl (is.length + 1) ?_
    rw [ND.enc_mk, E_ref11_At, hj, und_mk, Lt.joinI_nat hup hy]
    have hull := und_lab (L := L) O (a := a) (ND.Sm.mk (a := y) (d := d) (k := k) (c := c) (s := s) hi hk ht hs h) up
    rw [und_mk, Lt.joinI_nat hup hy] at hull
    generalize hgu : L.join up y = u at hj hq hu hull
    simp only [onR_some, onL_some, List.isEmpty_nil, allF_cons, allF_nil, Bool.and_true, Bool.true_and, when_true', List.getD_cons_zero, List.getD_cons_succ, isF_fz, toF_fz, isBool_bool, toBool_bool, isInt_int, toInt_int, isStr_str, toStr_str, isSl_sl, toSl_sl, List.length_cons, List.length_nil, List.all_cons, List.all_nil, lisFz_fz, ltoFz_fz, beq_self_eq_true, jump_true, ifB_true, ifB_false, isF_pv, isPv_pv, toV_pv, isNil_nilp, isNil_pt, isPt_pt, toAg_ag, cell_ag, isAg_ag, fits_ag, Int.toNat_natCast, Bool.not_true, Bool.not_false, fits_int, fits_bool, fits_str, fits_sl, hq]
    cases hlq : L.leqI u a with
    | false => simp only [onR_some, onL_some, List.isEmpty_nil, allF_cons, allF_nil, Bool.and_true, Bool.true_and, when_true', List.getD_cons_zero, List.getD_cons_succ, isF_fz, toF_fz, isBool_bool, toBool_bool, isInt_int, toInt_int, isStr_str, toStr_str, isSl_sl, toSl_sl, List.length_cons, List.length_nil, List.all_cons, List.all_nil, lisFz_fz, ltoFz_fz, beq_self_eq_true, jump_true, ifB_true, ifB_false, isF_pv, isPv_pv, toV_pv, isNil_nilp, isNil_pt, isPt_pt, toAg_ag, cell_ag, isAg_ag, fits_ag, Int.toNat_natCast, Bool.not_true, Bool.not_false, fits_int, fits_bool, fits_str, fits_sl, htop, holeN, ND.enc_mk, List.map_nil, Bool.false_eq_true, if_false]
    | true =>
      rw [hlq, if_pos rfl] at hull
      rw [if_pos rfl]
      simp only [onR_some, onL_some, List.isEmpty_nil, allF_cons, allF_nil, Bool.and_true, Bool.true_and, when_true', List.getD_cons_zero, List.getD_cons_succ, isF_fz, toF_fz, isBool_bool, toBool_bool, isInt_int, toInt_int, isStr_str, toStr_str, isSl_sl, toSl_sl, List.length_cons, List.length_nil, List.all_cons, List.all_nil, lisFz_fz, ltoFz_fz, beq_self_eq_true, jump_true, ifB_true, ifB_false, isF_pv, isPv_pv, toV_pv, isNil_nilp, isNil_pt, isPt_pt, toAg_ag, cell_ag, isAg_ag, fits_ag, Int.toNat_natCast, Bool.not_true, Bool.not_false, fits_int, fits_bool, fits_str, fits_sl]
      have hsm : (ND.mk (u : Int) d k c s t (is.map (und L a u)) ks).Sm := .mk (by simpa using hi) hk ht hs (fun v hv => by obtain ⟨y, hy, rfl⟩ := List.mem_map.1 hv; exact und_sm (h y hy) _)
      have hlab' : labB L (ND.mk (u : Int) d k c s t (is.map (und L a u)) ks) = true := by
        have := hull.1
        rw [labB_mk] at this ⊢; exact this
      have hdeep := deep9_ok T O hsm hlab'
      have hdp : (deepN L (ND.mk (u : Int) d k c s t (is.map (und L a u)) ks) : Int) = deepP L u (is.map (und L a u)) := by
        have := hull.2
        rw [rightB_mk, Bool.and_eq_true, decide_eq_true_eq] at this
        rw [deepN_mk]; exact this.1.symm
      rw [hdp] at hdeep
      have z : ∀ (z0 z1 z2 z3 z4 : Int) (z5 : ByteArray) (j i : Nat) (acc : List ND), i + j = is.length → acc.length = i → onL (L_ref11_At_1_1 Rt0 (is.length + 1) true (j + 1) t9 a u i y d k c s t (is.map ND.enc) (ks.map .str) z0 z1 z2 z3 z4 z5 u d k c s t (ks.map .str) (acc.map ND.enc)) (K_ref11_At_1 Rt0 (is.length + 1) true) =
          onL (some (.exit 0, X_ref11_At_1_1 t9 z0 z1 z2 z3 z4 z5 u d k c s t (ks.map .str) ((acc ++ (is.drop i).map (und L a u)).map ND.enc))) (K_ref11_At_1 Rt0 (is.length + 1) true) := by
        intro z0 z1 z2 z3 z4 z5 j
        induction j with
        | zero =>
          intro i acc hij hac
          rw [L_ref11_At_1_1_eq, List.drop_eq_nil_of_le (by omega)]
          simp only [List.length_map, decide_eq_false (show ¬ ((i : Int) < (is.length : Int)) by omega), ifB_false, List.map_nil, List.append_nil]
        | succ j jh =>
          intro i acc hij hac
          have hl : i < is.length := by omega
          have h1 := ih is[i] (List.getElem_mem hl) u hu (labBs_iff.1 hlab.2 _ (List.getElem_mem hl))
          have h2 := jh (i + 1) (acc ++ [und L a u is[i]]) (by omega) (by simp; omega)
          push_cast at h2
          rw [List.map_append, List.map_singleton, List.append_assoc, List.singleton_append] at h2
          have hw : IntKind.wrap .i64 ((i : Int) + 1) = (i : Int) + 1 := wrap64 (by omega) (by omega)
          have hro : (decide (((acc.map ND.enc).length + [(und L a u is[i]).enc].length) * 104 ≤ roomy) && decide ((acc.map ND.enc).length + [(und L a u is[i]).enc].length ≤ roomy)) = true := by simp; omega
          rw [L_ref11_At_1_1_eq, drop_cons hl, List.map_cons]
          have hg : (is.map ND.enc).getD i .nilp = (is[i]).enc := by simp [hl]
          simp only [List.length_map, decide_eq_true (show (i : Int) < (is.length : Int) by omega), decide_eq_true (show (0 : Int) ≤ (i : Int) by omega), ifB_true, Bool.and_true, when_true', Int.toNat_natCast, hg, ND.enc_fits, h1, onR_some, List.isEmpty_nil, allF_cons, allF_nil, List.getD_cons_zero, toF_fz, hw] at hro ⊢
          simp only [hro, when_true', h2]
      have fin : ∀ z0 z1 z2 z3 z4 z5, onL (some (.exit 0, X_ref11_At_1_1 t9 z0 z1 z2 z3 z4 z5 u d k c s t (ks.map .str) ((is.map (und L a u)).map ND.enc))) (K_ref11_At_1 Rt0 (is.length + 1) true) = some ([.fz (ND.mk u (deepP L u (is.map (und L a u))) k c s t (is.map (und L a u)) ks).enc], []) := by
        intro z0 z1 z2 z3 z4 z5
        rw [onL_some, X_ref11_At_1_1_eq, ← ND.enc_mk, hdeep]
        simp only [onR_some, onL_some, List.isEmpty_nil, allF_cons, allF_nil, Bool.and_true, Bool.true_and, when_true', List.getD_cons_zero, List.getD_cons_succ, isF_fz, toF_fz, isBool_bool, toBool_bool, isInt_int, toInt_int, isStr_str, toStr_str, isSl_sl, toSl_sl, List.length_cons, List.length_nil, List.all_cons, List.all_nil, lisFz_fz, ltoFz_fz, beq_self_eq_true, jump_true, ifB_true, ifB_false, isF_pv, isPv_pv, toV_pv, isNil_nilp, isNil_pt, isPt_pt, toAg_ag, cell_ag, isAg_ag, fits_ag, Int.toNat_natCast, Bool.not_true, Bool.not_false, fits_int, fits_bool, fits_str, fits_sl, ND.enc_mk]
      rw [L_ref11_At_1_0_eq]
      cases is with
      | nil =>
        simp only [List.length_map, List.length_nil, List.map_nil, decide_eq_false (show ¬ ((0 : Int) < ((0 : Nat) : Int)) by omega), ifB_false, onL_some, X_ref11_At_1_0_eq]
        rw [List.map_nil, ND.enc_mk, List.map_nil] at hdeep
        rw [hdeep]
        simp only [onR_some, onL_some, List.isEmpty_nil, allF_cons, allF_nil, Bool.and_true, Bool.true_and, when_true', List.getD_cons_zero, List.getD_cons_succ, isF_fz, toF_fz, isBool_bool, toBool_bool, isInt_int, toInt_int, isStr_str, toStr_str, isSl_sl, toSl_sl, List.length_cons, List.length_nil, List.all_cons, List.all_nil, lisFz_fz, ltoFz_fz, beq_self_eq_true, jump_true, ifB_true, ifB_false, isF_pv, isPv_pv, toV_pv, isNil_nilp, isNil_pt, isPt_pt, toAg_ag, cell_ag, isAg_ag, fits_ag, Int.toNat_natCast, Bool.not_true, Bool.not_false, fits_int, fits_bool, fits_str, fits_sl, ND.enc_mk, List.map_nil]
      | cons v0 vs =>
        have h1 := ih v0 (List.mem_cons_self ..) u hu (labBs_iff.1 hlab.2 _ (List.mem_cons_self ..))
        have h2 := z 0 0 0 0 0 (⟨#[]⟩ : ByteArray) (vs.length - 0) 1 [und L a u v0] (by simp; omega) rfl
        have hz : ∀ x : ND, (decide (((0 : Nat) + [x.enc].length) * 104 ≤ roomy) && decide ((0 : Nat) + [x.enc].length ≤ roomy)) = true := fun x => rfl
        have hz := hz (und L a u v0)
        have w0 : IntKind.wrap .i64 ((0 : Int) + 1) = ((1 : Nat) : Int) := by rw [wrap64 (by omega) (by omega)]; rfl
        have d0 : decide ((0 : Int) ≤ 0) = true := by decide
        have t0 : (0 : Int).toNat = 0 := rfl
        have hfin := fin 0 0 0 0 0 (⟨#[]⟩ : ByteArray)
        simp only [List.map_cons, List.map_nil, List.length_cons, List.length_map, decide_eq_true (show (0 : Int) < ((vs.length + 1 : Nat) : Int) by omega), d0, t0, ifB_true, Bool.and_true, when_true', List.getD_cons_zero, ND.enc_fits, h1, onR_some, List.isEmpty_nil, allF_cons, allF_nil, toF_fz, w0, Nat.sub_zero, List.drop_succ_cons, List.drop_zero, List.singleton_append] at h2 hz hfin ⊢
        simp only [hz, when_true']
        exact h2.trans hfin
theorem erase_ok (O : L.Ok) (a : Int) {v : ND} (hv : v.Sm) (hl : labB L v = true) : Rt0 N_ref11_Erase [.fz (.sl t9), .fz v.enc, .fz (.int .i64 a)] = some ([.fz (und L a L.bot v).enc], []) := by
  have h := rat_ok T O a hv L.bot O.bot hl
  have hf := (und L a L.bot v).enc_fits
  have hb := bottom9_ok T O
  obtain ⟨x, d, k, c, s, t, is, ks⟩ := v
  have hE := E_ref11_Erase Rt0 0 true t9 x d k c s t (is.map ND.enc) (ks.map .str) a
  rw [← ND.enc_mk] at hE
  refine rt_call0 A_ref11_Erase rfl rfl 0 (hE.trans ?_)
  simp only [hb, onR_some, onL_some, List.isEmpty_nil, allF_cons, allF_nil, Bool.and_true, Bool.true_and, when_true', List.getD_cons_zero, List.getD_cons_succ, isF_fz, toF_fz, isBool_bool, toBool_bool, isInt_int, toInt_int, isStr_str, toStr_str, isSl_sl, toSl_sl, List.length_cons, List.length_nil, List.all_cons, List.all_nil, lisFz_fz, ltoFz_fz, beq_self_eq_true, jump_true, ifB_true, ifB_false, isF_pv, isPv_pv, toV_pv, isNil_nilp, isNil_pt, isPt_pt, toAg_ag, cell_ag, isAg_ag, fits_ag, Int.toNat_natCast, Bool.not_true, Bool.not_false, fits_int, fits_bool, fits_str, fits_sl, h, hf]
end
end Go.Ab
end
section
namespace Go.Ab
theorem choose_list {α β : Type} {f : α → β} {p : α → Prop} : ∀ {l : List β}, (∀ x ∈ l, ∃ a, x = f a ∧ p a) → ∃ m : List α, l = m.map f ∧ ∀ a ∈ m, p a
  | [], _ => ⟨[], rfl, fun _ h => by cases h⟩
  | x :: l, h => by
    obtain ⟨a, rfl, ha⟩ := h x (List.mem_cons_self ..)
    obtain ⟨m, rfl, hm⟩ := choose_list (l := l) fun y hy => h y (List.mem_cons_of_mem _ hy)
    exact ⟨a :: m, rfl, fun b hb => by rcases List.mem_cons.1 hb with rfl | hb; exact ha; exact hm b hb⟩
section
variable {P : Program} {D B : Nat}
theorem wc_int {k : IntKind} {f : FV} (h : WC P D B (.int k) f) : ∃ n, f = .int k n ∧ (Lit.int k n).wf = true := by
  cases h; exact ⟨_, rfl, by assumption⟩
theorem wc_str {f : FV} (h : WC P D B .str f) : ∃ s, f = .str s ∧ s.size ≤ B := by
  cases h; exact ⟨_, rfl, by assumption⟩
theorem wc_strs {ts : Nat} (hfs : flat P D ts = [.str]) (hss : szOf P ts = some (1, false)) {f : FV} (h : WC P D B (.sl ts) f) : ∃ l : List ByteArray, f = .sl (l.map .str) ∧ (∀ s ∈ l, s.size ≤ B) ∧ l.length * P.bytesOf ts ≤ B := by
  cases h with
  | sl _ es hl hb hf h =>
    obtain ⟨m, rfl, hm⟩ := choose_list (f := FV.str) (p := fun s => s.size ≤ B) (l := es) fun x hx => by
      obtain ⟨n, agg, hs, hfit⟩ := hf x hx
      rw [hss] at hs; cases hs
      have hc := (fits_one hfit).2.2
      exact wc_str (h x hx 0 x .str (by rw [hc]; rfl) (by rw [hfs]; rfl))
    exact ⟨m, rfl, hm, by simpa using hb⟩
theorem int_of {t : Nat} {k : IntKind} (hft : flat P D t = [.int k]) (hst : szOf P t = some (1, false)) {f : FV} (h : WV P D B t f) : ∃ a : Int, f = .int k a ∧ (Lit.int k a).wf = true := by
  obtain ⟨⟨n, agg, hs, hfit⟩, H⟩ := h
  rw [hst] at hs; cases hs
  have hc := (fits_one hfit).2.2
  exact wc_int (H 0 f (.int k) (by rw [hc]; rfl) (by rw [hft]; rfl))
end
end Go.Ab
end
section
namespace Go.Ab
theorem len8 {α : Type} {l : List α} (h : l.length = 8) : ∃ a b c d e f g i, l = [a, b, c, d, e, f, g, i] := by
  match l, h with
  | [a, b, c, d, e, f, g, i], _ => exact ⟨a, b, c, d, e, f, g, i, rfl⟩
section
variable {P : Program} {D B : Nat} {t ts : Nat} (hB : B ≤ 150994944) (hft : flat P D t = [.int .i64, .int .i64, .int .i64, .int .i64, .int .i64, .str, .sl t, .sl ts]) (hfs : flat P D ts = [.str]) (hst : szOf P t = some (8, true)) (hss : szOf P ts = some (1, false)) (hb : P.bytesOf t = 104) (hbs : P.bytesOf ts = 16)
include hB hft hfs hst hss hb hbs
theorem nd_eight {a b c d e s f g : FV} (h0 : WC P D B (.int .i64) a) (h1 : WC P D B (.int .i64) b) (h2 : WC P D B (.int .i64) c) (h3 : WC P D B (.int .i64) d) (h4 : WC P D B (.int .i64) e) (h5 : WC P D B .str s) (h6 : ∃ l : List ND, f = .sl (l.map ND.enc) ∧ (∀ v ∈ l, v.Sm) ∧ l.length * 104 ≤ B) (h7 : WC P D B (.sl ts) g) :
    ∃ v : ND, FV.ag [a, b, c, d, e, s, f, g] = v.enc ∧ v.Sm := by
  obtain ⟨a, rfl, _⟩ := wc_int h0
  obtain ⟨b, rfl, _⟩ := wc_int h1
  obtain ⟨c, rfl, _⟩ := wc_int h2
  obtain ⟨d, rfl, _⟩ := wc_int h3
  obtain ⟨e, rfl, _⟩ := wc_int h4
  obtain ⟨tt, rfl, wt⟩ := wc_str h5
  obtain ⟨l, rfl, hl, hb'⟩ := h6
  obtain ⟨m, rfl, hm, hbm⟩ := wc_strs hfs hss h7
  rw [hbs] at hbm
  exact ⟨.mk a b c d e tt l m, (ND.enc_mk ..).symm, .mk (by omega) (by omega) (by omega) (fun s h => by have := hm s h; omega) hl⟩
theorem nds_of {c : CT} {f : FV} (h : WC P D B c f) : c = .sl t → ∃ l : List ND, f = .sl (l.map ND.enc) ∧ (∀ v ∈ l, v.Sm) ∧ l.length * 104 ≤ B := by
  induction h with
  | int k n h => intro e; cases e
  | bool b => intro e; cases e
  | str s h => intro e; cases e
  | sl e es hl hb' hf h ih =>
    intro he
    cases he
    obtain ⟨m, rfl, hm⟩ := choose_list (f := ND.enc) (p := ND.Sm) (l := es) fun x hx => by
      obtain ⟨n, agg, hs, hfit⟩ := hf x hx
      rw [hst] at hs; cases hs
      obtain ⟨cs, rfl, hcs⟩ := fits_agg hfit
      obtain ⟨c0, c1, c2, c3, c4, c5, c6, c7, rfl⟩ := len8 hcs
      have H := fun j y c => h _ hx j y c
      have I := fun j y c => ih _ hx j y c
      simp only [FV.cells, hft] at H I
      exact nd_eight hB hft hfs hst hss hb hbs (H 0 c0 _ rfl rfl) (H 1 c1 _ rfl rfl) (H 2 c2 _ rfl rfl) (H 3 c3 _ rfl rfl) (H 4 c4 _ rfl rfl) (H 5 c5 _ rfl rfl) (I 6 c6 _ rfl rfl rfl) (H 7 c7 _ rfl rfl)
    exact ⟨m, rfl, hm, by rw [hb] at hb'; simpa using hb'⟩
end
end Go.Ab
end
section
namespace Go.Ab
structure LatN (e : FV) (t9 : List FV) (nm : List ByteArray) (L : Lt) : Prop where
  lat : IsLat e L
  tab : IsTab t9 L
  n : L.n = nm.length
  ok : NmOk nm
  inj : ∀ i j : Nat, i < nm.length → j < nm.length → nm.getD i ⟨#[]⟩ = nm.getD j ⟨#[]⟩ → i = j
  text : ∀ j : Nat, j < L.n → Rt0 N_level_Lattice_Text [.fz (.pt 195 true e 0), .fz (.int .i64 j)] = some ([.fz (.str (nm.getD j ⟨#[]⟩))], [])
theorem latN_of {P : Pol} (hP : P.ok = true) (hN : nmsB P.names = true) : LatN (latR P.names P.g) (tabL P.names.length (rowOf P.names.length P.pairs) P.names.length) P.names (ltR P.names.length P.g) := by
  unfold nmsB at hN
  rw [Bool.and_eq_true] at hN
  refine ⟨Pol.lat hP, Pol.tab hP, rfl, ?_, fun i j hi hj e => ?_, fun j hj => ?_⟩
  · intro s hs
    have := List.all_eq_true.1 hN.1 s hs
    simpa using this
  · have h1 := List.all_eq_true.1 hN.2 i (List.mem_range.2 hi)
    have h2 := List.all_eq_true.1 h1 j (List.mem_range.2 hj)
    rw [e] at h2
    simpa using h2
  · have h := lat_Text (Pol.nice hP) j
    have hj' : j < P.names.length := hj
    rw [if_pos ⟨by omega, by omega⟩, Int.toNat_natCast] at h
    exact h
def shown (nm : List ByteArray) (L : Lt) (a : Int) (v : ND) : List UInt8 := shT nm L.bot (und L a L.bot v)
section
variable {e : FV} {t9 : List FV} {nm : List ByteArray} {L : Lt} (N : LatN e t9 nm L)
include N
theorem shown_len {v : ND} (hv : v.Sm) (hm : mayB L v = true) (hc : v.cnt ≤ 10000) (a : Int) : (shown nm L a v).length ≤ 50000000000000 := by
  have hT := tok_of N.ok N.lat N.n N.text (most := 0) (by omega) (by omega) hv hm
  have hU := tok_und N.ok N.lat N.n N.text (most := 0) (by omega) (by omega) a hv hT L.bot
  have := sh_len N.ok (und_sm (L := L) (a := a) hv L.bot) hU L.bot
  have := und_cnt L a v L.bot
  unfold shown
  omega
theorem shown_pos {v : ND} (hv : v.Sm) (hm : mayB L v = true) (a : Int) : 1 ≤ (shown nm L a v).length := by
  have hT := tok_of N.ok N.lat N.n N.text (most := 0) (by omega) (by omega) hv hm
  exact sh_pos (tok_und N.ok N.lat N.n N.text (most := 0) (by omega) (by omega) a hv hT L.bot) L.bot
theorem show_ok {v : ND} (hv : v.Sm) (hm : mayB L v = true) (hc : v.cnt ≤ 10000) (a most : Int) (hm0 : -9223372036854775808 ≤ most) (hm1 : most ≤ 9223372036854775807) :
    Rt2 N_show_Text [.fz (.pt 195 true e 0), .fz v.enc, .fz (.int .i64 a), .fz (.int .i64 most)] = some (if ((shown nm L a v).length : Int) ≤ most then ([.fz (.str (qB (shown nm L a v))), .fz (.bool true)], []) else ([.fz (.str ⟨#[]⟩), .fz (.bool false)], [])) := by
  have hl := shown_len N hv hm hc a
  have hp := shown_pos N hv hm a
  obtain ⟨st', h1, h2⟩ := node_show N.ok N.lat N.n N.text hm0 hm1 a hv hm 100000 (by omega) L.bot ([], false) 0 (fun _ => ⟨.inl rfl, by simp only [List.length_nil]; unfold shown at hl; omega⟩)
  have hw := h2.wr (ne_of_len hp)
  have hb := qInt_of (f := 62) (fs := [.pt 195 true e 0]) (lift01 (lat_Bottom N.lat))
  have hnode : isNode v.enc = true := by
    obtain ⟨b1, b2, b3, b4, b5, b6, b7, b8⟩ := v
    rw [ND.enc_mk]; rfl
  refine rt_prim2 (af := A_show) (p := showP) rfl rfl ?_
  unfold showP
  simp only [showS]
  rw [if_neg (by rw [hnode]; simp [FV.isPt]), hb, Option.bind_some, h1, Option.bind_some]
  by_cases hf : ((shown nm L a v).length : Int) ≤ most
  · have := hw.fits rfl (by simp only [List.length_nil]; unfold shown at hf; omega)
    subst this
    rw [if_neg (by simp), if_pos hf, List.nil_append]
    rfl
  · have := hw.over rfl (by simp only [List.length_nil]; unfold shown at hf; omega)
    rw [if_pos this, if_neg hf]
theorem rshow_ok {v : ND} (hv : v.Sm) (hm : mayB L v = true) (hc : v.cnt ≤ 10000) (a : Int) : Rt0 N_ref12_Text [.fz (.sl t9), .fz (.sl (nm.map .str)), .fz v.enc, .fz (.int .i64 a)] = some ([.fz (.str (qB (shown nm L a v)))], []) := by
  have hT := tok_of N.ok N.lat N.n N.text (most := 0) (by omega) (by omega) hv hm
  have hU := tok_und N.ok N.lat N.n N.text (most := 0) (by omega) (by omega) a hv hT L.bot
  have hcu := und_cnt L a v L.bot
  have hlab : labB L v = true := by
    simp only [mayB, Bool.and_eq_true] at hm
    exact hm.1
  have h1 := erase_ok N.tab N.lat.ok a hv hlab
  have h2 := bottom9_ok N.tab N.lat.ok
  have h3 := rtext12 N.ok (und_sm (L := L) (a := a) hv L.bot) hU (by omega) L.bot
  obtain ⟨x, d, k, c, s, t, is, ks⟩ := v
  have hE := E_ref12_Text Rt0 0 true t9 (nm.map .str) x d k c s t (is.map ND.enc) (ks.map .str) a
  rw [← ND.enc_mk] at hE
  refine rt_call0 A_ref12_Text rfl rfl 0 (hE.trans ?_)
  simp only [h1, h2, h3, onR_some, onL_some, List.isEmpty_nil, allF_cons, allF_nil, Bool.and_true, Bool.true_and, when_true', List.getD_cons_zero, List.getD_cons_succ, isF_fz, toF_fz, isBool_bool, toBool_bool, isInt_int, toInt_int, isStr_str, toStr_str, isSl_sl, toSl_sl, List.length_cons, List.length_nil, List.all_cons, List.all_nil, lisFz_fz, ltoFz_fz, beq_self_eq_true, jump_true, ifB_true, ifB_false, isF_pv, isPv_pv, toV_pv, isNil_nilp, isNil_pt, isPt_pt, toAg_ag, cell_ag, isAg_ag, fits_ag, Int.toNat_natCast, Bool.not_true, Bool.not_false, fits_int, fits_bool, fits_str, fits_sl]
  rfl
end
end Go.Ab
end
section
namespace Go.Ab
theorem numMake_ok (c : Int) : Rt0 N_num_Make [.fz (.int .i64 c), .fz (.int .i64 0)] = some (match num4B c 0 with
    | true => ([.fz (.ag [.int .i64 c, .int .i64 0]), .fz (.int .i64 0)], [])
    | false => ([.fz (.ag [.int .i64 0, .int .i64 0]), .fz (.int .i64 8)], [])) := by
  have h := numIs_ok c 0
  refine rt_call0 A_num_Make rfl rfl 1 ?_
  rw [E_num_Make]
  simp only [show decide ((0 : Int) < 0) = false from rfl, show decide ((0 : Int) > 30) = false from rfl, show decide ((0 : Int) > 0) = false from rfl, ifB_false, jump_true, J_num_Make_3_0_eq, L_num_Make_1_0_eq, onL_some, X_num_Make_1_0_eq, h, onR_some, List.isEmpty_nil, allF_cons, allF_nil, Bool.and_true, when_true', List.getD_cons_zero, toF_fz, isBool_bool, toBool_bool]
  cases num4B c 0 with
  | true => simp only [Bool.not_true, ifB_false]
  | false => simp only [Bool.not_false, ifB_true]
theorem numInt_ok (c : Int) : Rt0 N_num_Int [.fz (.int .i64 c)] = some (match num4B c 0 with
    | true => ([.fz (.ag [.int .i64 c, .int .i64 0]), .fz (.int .i64 0)], [])
    | false => ([.fz (.ag [.int .i64 0, .int .i64 0]), .fz (.int .i64 8)], [])) := by
  have h := numMake_ok c
  refine rt_call0 A_num_Int rfl rfl 0 ?_
  rw [E_num_Int]
  have fa : ∀ a b : Int, FV.fits 2 true (.ag [.int .i64 a, .int .i64 b]) = true := fun _ _ => rfl
  cases hb : num4B c 0 with
  | true =>
    rw [hb] at h
    simp only [h, fa, onR_some, List.isEmpty_nil, allF_cons, allF_nil, Bool.and_true, when_true', List.getD_cons_zero, List.getD_cons_succ, toF_fz, isInt_int, toInt_int]
  | false =>
    rw [hb] at h
    simp only [h, fa, onR_some, List.isEmpty_nil, allF_cons, allF_nil, Bool.and_true, when_true', List.getD_cons_zero, List.getD_cons_succ, toF_fz, isInt_int, toInt_int]
end Go.Ab
end
section
namespace Go.Ab
structure EN where
  p : ByteArray
  at0 : Int
  fr : Int
  to0 : Int
  v : ND
def EN.enc (e : EN) : FV := match e.v with
  | .mk x d k c s t is ks => .ag [.str e.p, .int .i64 e.at0, .int .i64 e.fr, .int .i64 e.to0, .int .i64 x, .int .i64 d, .int .i64 k, .int .i64 c, .int .i64 s, .str t, .sl (is.map ND.enc), .sl (ks.map .str)]
theorem EN.enc_mk (p : ByteArray) (at0 fr to0 x d k c s : Int) (t : ByteArray) (is : List ND) (ks : List ByteArray) : (EN.mk p at0 fr to0 (.mk x d k c s t is ks)).enc = .ag [.str p, .int .i64 at0, .int .i64 fr, .int .i64 to0, .int .i64 x, .int .i64 d, .int .i64 k, .int .i64 c, .int .i64 s, .str t, .sl (is.map ND.enc), .sl (ks.map .str)] := rfl
theorem EN.enc_ent (e : EN) : isEnt e.enc = true := by
  obtain ⟨p, a, f, o, ⟨x, d, k, c, s, t, is, ks⟩⟩ := e
  rfl
theorem EN.enc_fits (e : EN) : FV.fits 12 true e.enc = true := by
  obtain ⟨p, a, f, o, ⟨x, d, k, c, s, t, is, ks⟩⟩ := e
  rfl
def nmI (nm : List ByteArray) (a : Int) : ByteArray := if 0 ≤ a ∧ a < nm.length then nm.getD a.toNat ByteArray.empty else ByteArray.empty
def entT (nm : List ByteArray) (L : Lt) (e : EN) : List UInt8 := [123, 34, 98, 121, 34, 58] ++ qT e.p ++ [44, 34, 97, 116, 34, 58] ++ numT e.at0 0 ++ [44, 34, 102, 114, 111, 109, 34, 58] ++ qT (nmI nm e.fr) ++ [44, 34, 116, 111, 34, 58] ++ qT (nmI nm e.to0) ++ [44, 34, 118, 97, 108, 117, 101, 34, 58] ++ shown nm L e.to0 e.v ++ [125]
structure EN.Ok (L : Lt) (e : EN) : Prop where
  sm : e.v.Sm
  may : mayB L e.v = true
  cnt : e.v.cnt ≤ 100
  p : textB e.p = true
  size : e.p.size ≤ 100
  at0 : 0 ≤ e.at0
  at1 : e.at0 ≤ 1000000
theorem nmI_text {nm : List ByteArray} (hn : NmOk nm) (a : Int) : (nmI nm a).size ≤ 150994944 ∧ textB (nmI nm a) = true := by
  unfold nmI
  split
  · rename_i h
    rw [List.getD_eq_getElem?_getD, List.getElem?_eq_getElem (by omega)]
    exact hn _ (List.getElem_mem _)
  · exact ⟨by decide, by decide +kernel⟩
theorem num_at {a : Int} (h0 : 0 ≤ a) (h1 : a ≤ 1000000) : num4B a 0 = true := by
  unfold num4B
  rw [decide_eq_false (show ¬ a ≥ 1000000000000000 by omega), decide_eq_false (show ¬ a ≤ -1000000000000000 by omega)]
  rfl
theorem rq28_ok {s : ByteArray} (hs : s.size ≤ 150994944) (ht : textB s = true) : Rt0 N_law28_quote [.fz (.str s)] = some ([.fz (.str (qB (qT s)))], []) := by
  obtain ⟨cs, h1, h2⟩ := rquo_ok hs ht
  refine rt_call0 A_law28_quote rfl rfl 0 ?_
  rw [E_law28_quote, h1]
  simp only [onR_some, onL_some, List.isEmpty_nil, allF_cons, allF_nil, Bool.and_true, Bool.true_and, when_true', List.getD_cons_zero, List.getD_cons_succ, isF_fz, toF_fz, isBool_bool, toBool_bool, isInt_int, toInt_int, isStr_str, toStr_str, isSl_sl, toSl_sl, List.length_cons, List.length_nil, List.all_cons, List.all_nil, lisFz_fz, ltoFz_fz, beq_self_eq_true, jump_true, ifB_true, ifB_false, isF_pv, isPv_pv, toV_pv, isNil_nilp, isNil_pt, isPt_pt, toAg_ag, cell_ag, isAg_ag, fits_ag, Int.toNat_natCast, Bool.not_true, Bool.not_false, fits_int, fits_bool, fits_str, fits_sl, h2]
theorem uquo_ok {s : ByteArray} (hs : s.size ≤ 1099511627776) (ht : textB s = true) : Rt1 N_utf_Quote [.fz (.str s)] = some ([.fz (.str (qB (qT s))), .fz (.int .i64 0)], []) := by
  refine rt_prim1 (af := A_quote) (p := quoteP) rfl rfl ?_
  unfold quoteP
  simp only
  rw [show Nat.ble s.size 1099511627776 = true from Nat.ble_eq_true_of_le hs, when_true']
  unfold textB at ht
  rw [ht, if_pos rfl]
  unfold qT
  cases hv : signsL s.data.toList with
  | none => rw [hv] at ht; cases ht
  | some cs =>
    have := qFrom_sg (sgAt_start hv) s.size (by omega)
    unfold qText
    rw [this]
theorem lquo_ok {s : ByteArray} (hs : s.size ≤ 150994944) (ht : textB s = true) : Rt2 N_ledger_quoted [.fz (.str s)] = some ([.fz (.str (qB (qT s)))], []) := by
  have hq := lift12 (uquo_ok (s := s) (by omega) ht)
  refine rt_call2 A_ledger_quoted rfl rfl 0 ?_
  rw [E_ledger_quoted, hq]
  simp only [onR_some, onL_some, List.isEmpty_nil, allF_cons, allF_nil, Bool.and_true, Bool.true_and, when_true', List.getD_cons_zero, List.getD_cons_succ, isF_fz, toF_fz, isBool_bool, toBool_bool, isInt_int, toInt_int, isStr_str, toStr_str, isSl_sl, toSl_sl, List.length_cons, List.length_nil, List.all_cons, List.all_nil, lisFz_fz, ltoFz_fz, beq_self_eq_true, jump_true, ifB_true, ifB_false, isF_pv, isPv_pv, toV_pv, isNil_nilp, isNil_pt, isPt_pt, toAg_ag, cell_ag, isAg_ag, fits_ag, Int.toNat_natCast, Bool.not_true, Bool.not_false, fits_int, fits_bool, fits_str, fits_sl]
theorem lnum_ok {a : Int} (h0 : 0 ≤ a) (h1 : a ≤ 1000000) : Rt2 N_ledger_number [.fz (.int .i64 a)] = some ([.fz (.str (qB (numT a 0)))], []) := by
  have hn := num_at h0 h1
  have hi := lift12 (lift01 (numInt_ok a))
  rw [hn] at hi
  have ht := lift12 (pnum_ok hn)
  refine rt_call2 A_ledger_number rfl rfl 0 ?_
  have fa : FV.fits 2 true (.ag [.int .i64 a, .int .i64 0]) = true := rfl
  rw [E_ledger_number, hi]
  simp only [onR_some, onL_some, List.isEmpty_nil, allF_cons, allF_nil, Bool.and_true, Bool.true_and, when_true', List.getD_cons_zero, List.getD_cons_succ, isF_fz, toF_fz, isBool_bool, toBool_bool, isInt_int, toInt_int, isStr_str, toStr_str, isSl_sl, toSl_sl, List.length_cons, List.length_nil, List.all_cons, List.all_nil, lisFz_fz, ltoFz_fz, beq_self_eq_true, jump_true, ifB_true, ifB_false, isF_pv, isPv_pv, toV_pv, isNil_nilp, isNil_pt, isPt_pt, toAg_ag, cell_ag, isAg_ag, fits_ag, Int.toNat_natCast, Bool.not_true, Bool.not_false, fits_int, fits_bool, fits_str, fits_sl, fa, ht, show ((0 : Int) != 0) = false from rfl]
section
variable {ep : FV} {t9 : List FV} {nm : List ByteArray} {L : Lt} (N : LatN ep t9 nm L) (hTx : ∀ j : Int, Rt0 N_level_Lattice_Text [.fz (.pt 195 true ep 0), .fz (.int .i64 j)] = some ([.fz (.str (nmI nm j))], []))
include N
theorem ent_len {e : EN} (O : e.Ok L) : (entT nm L e).length ≤ 60000000000000 ∧ (shown nm L e.to0 e.v).length + 30 ≤ (entT nm L e).length := by
  have h1 := shown_len N O.sm O.may (by have := O.cnt; omega) e.to0
  have h2 := qT_len e.p
  have h3 := numT_len (num_at O.at0 O.at1)
  have h4 := qT_len (nmI nm e.fr)
  have h5 := qT_len (nmI nm e.to0)
  have h6 := (nmI_text N.ok e.fr).1
  have h7 := (nmI_text N.ok e.to0).1
  have h8 := O.size
  unfold entT
  simp only [List.length_append, List.length_cons, List.length_nil]
  omega
theorem rent_ok {e : EN} (O : e.Ok L) : Rt0 N_law28_text [.fz (.sl t9), .fz (.sl (nm.map .str)), .fz e.enc] = some ([.fz (.str (qB (entT nm L e)))], []) := by
  have hl := (ent_len N O).1
  have h1 := rshow_ok N O.sm O.may (by have := O.cnt; omega) e.to0
  have h2 := rnum_ok (num_at O.at0 O.at1)
  have h3 := rq28_ok (by have := O.size; omega) O.p
  have h4 := rq28_ok (nmI_text N.ok e.fr).1 (nmI_text N.ok e.fr).2
  have h5 := rq28_ok (nmI_text N.ok e.to0).1 (nmI_text N.ok e.to0).2
  obtain ⟨p, at0, fr, to0, ⟨x, d, k, c, s, t, is, ks⟩⟩ := e
  simp only at h1 h2 h3 h4 h5
  have hE := E_law28_text Rt0 0 true t9 (nm.map .str) p at0 fr to0 x d k c s t (is.map ND.enc) (ks.map .str)
  rw [← EN.enc_mk] at hE
  refine rt_call0 A_law28_text rfl rfl 0 (hE.trans ?_)
  rw [ND.enc_mk] at h1
  have J3 : J_law28_text_3_0 Rt0 0 true t9 (nm.map .str) (nmI nm fr) (nmI nm to0) p at0 fr to0 x d k c s t (is.map ND.enc) (ks.map .str) = some ([.fz (.str (qB (entT nm L ⟨p, at0, fr, to0, .mk x d k c s t is ks⟩)))], []) := by
    unfold entT at hl ⊢
    simp only [List.length_append, List.length_cons, List.length_nil] at hl
    rw [J_law28_text_3_0_eq]
    simp only [h1, h2, h3, h4, h5, onR_some, List.isEmpty_nil, allF_cons, allF_nil, Bool.and_true, Bool.true_and, when_true', List.getD_cons_zero, isF_fz, toF_fz, isStr_str, toStr_str, show (⟨#[123, 34, 98, 121, 34, 58]⟩ : ByteArray) = qB [123, 34, 98, 121, 34, 58] from rfl, show (⟨#[44, 34, 97, 116, 34, 58]⟩ : ByteArray) = qB [44, 34, 97, 116, 34, 58] from rfl, show (⟨#[44, 34, 102, 114, 111, 109, 34, 58]⟩ : ByteArray) = qB [44, 34, 102, 114, 111, 109, 34, 58] from rfl, show (⟨#[44, 34, 116, 111, 34, 58]⟩ : ByteArray) = qB [44, 34, 116, 111, 34, 58] from rfl, show (⟨#[44, 34, 118, 97, 108, 117, 101, 34, 58]⟩ : ByteArray) = qB [44, 34, 118, 97, 108, 117, 101, 34, 58] from rfl, show (⟨#[125]⟩ : ByteArray) = qB [125] from rfl]
    repeat rw [qLe (by simp only [List.length_append, List.length_cons, List.length_nil]; omega), when_true', qBapp]
  have getn : ∀ j : Int, 0 ≤ j → j < nm.length → (nm.map FV.str).getD j.toNat .nilp = .str (nmI nm j) := fun j h0 h1 => by
    unfold nmI
    rw [if_pos ⟨h0, h1⟩]
    have : j.toNat < nm.length := by omega
    simp [this]
  have J5 : ∀ fr', fr' = nmI nm fr → J_law28_text_5_0 Rt0 0 true t9 (nm.map .str) fr' ⟨#[]⟩ p at0 fr to0 x d k c s t (is.map ND.enc) (ks.map .str) = some ([.fz (.str (qB (entT nm L ⟨p, at0, fr, to0, .mk x d k c s t is ks⟩)))], []) := by
    rintro _ rfl
    rw [J_law28_text_5_0_eq]
    by_cases g1 : 0 ≤ to0
    · by_cases g2 : to0 < nm.length
      · simp only [List.length_map, ge_iff_le, decide_eq_true g1, decide_eq_true g2, ifB_true, jump_true, J_law28_text_2_0_eq, Bool.and_true, when_true', getn to0 g1 g2, fits_str, isStr_str, toStr_str]
        exact J3
      · have e0 : nmI nm to0 = ⟨#[]⟩ := by unfold nmI; rw [if_neg (fun h => g2 h.2)]; rfl
        rw [e0] at J3
        simp only [List.length_map, ge_iff_le, decide_eq_true g1, decide_eq_false g2, ifB_true, ifB_false, jump_true, J_law28_text_2_0_eq]
        exact J3
    · have e0 : nmI nm to0 = ⟨#[]⟩ := by unfold nmI; rw [if_neg (fun h => g1 h.1)]; rfl
      rw [e0] at J3
      simp only [List.length_map, ge_iff_le, decide_eq_false g1, ifB_true, ifB_false, jump_true, J_law28_text_2_0_eq]
      exact J3
  by_cases g1 : 0 ≤ fr
  · by_cases g2 : fr < nm.length
    · simp only [List.length_map, ge_iff_le, decide_eq_true g1, decide_eq_true g2, ifB_true, jump_true, J_law28_text_1_0_eq, Bool.and_true, when_true', getn fr g1 g2, fits_str, isStr_str, toStr_str]
      exact J5 _ rfl
    · simp only [List.length_map, ge_iff_le, decide_eq_true g1, decide_eq_false g2, ifB_true, ifB_false, jump_true, J_law28_text_1_0_eq]
      exact J5 _ (by unfold nmI; rw [if_neg (fun h => g2 h.2)]; rfl)
  · simp only [List.length_map, ge_iff_le, decide_eq_false g1, ifB_true, ifB_false, jump_true, J_law28_text_1_0_eq]
    exact J5 _ (by unfold nmI; rw [if_neg (fun h => g1 h.1)]; rfl)
include hTx
theorem ltext_ok {e : EN} (O : e.Ok L) (hl : (entT nm L e).length ≤ 60000) : Rt2 N_ledger_Text [.fz (.pt 195 true ep 0), .fz e.enc] = some ([.fz (.str (qB (entT nm L e)))], []) := by
  have hl2 := (ent_len N O).2
  have h1 := show_ok N O.sm O.may (by have := O.cnt; omega) e.to0 65536 (by omega) (by omega)
  rw [if_pos (by omega)] at h1
  have h2 := lnum_ok O.at0 O.at1
  have h3 := lquo_ok (by have := O.size; omega) O.p
  have h4 := lquo_ok (nmI_text N.ok e.fr).1 (nmI_text N.ok e.fr).2
  have h5 := lquo_ok (nmI_text N.ok e.to0).1 (nmI_text N.ok e.to0).2
  have h6 := lift12 (lift01 (hTx e.fr))
  have h7 := lift12 (lift01 (hTx e.to0))
  obtain ⟨p, at0, fr, to0, ⟨x, d, k, c, s, t, is, ks⟩⟩ := e
  simp only at h1 h2 h3 h4 h5 h6 h7
  have hE := E_ledger_Text Rt2 0 true ep p at0 fr to0 x d k c s t (is.map ND.enc) (ks.map .str)
  rw [← EN.enc_mk] at hE
  refine rt_call2 A_ledger_Text rfl rfl 0 (hE.trans ?_)
  rw [ND.enc_mk] at h1
  unfold entT at hl ⊢
  simp only [List.length_append, List.length_cons, List.length_nil] at hl
  simp only [h1, onR_some, List.isEmpty_nil, allF_cons, allF_nil, Bool.and_true, Bool.true_and, when_true', List.getD_cons_zero, List.getD_cons_succ, isF_fz, toF_fz, isStr_str, toStr_str, isBool_bool, toBool_bool, Bool.not_true, ifB_false, jump_true, J_ledger_Text_1_0_eq, h2, h3, h4, h5, h6, h7, show (⟨#[123, 34, 98, 121, 34, 58]⟩ : ByteArray) = qB [123, 34, 98, 121, 34, 58] from rfl, show (⟨#[44, 34, 97, 116, 34, 58]⟩ : ByteArray) = qB [44, 34, 97, 116, 34, 58] from rfl, show (⟨#[44, 34, 102, 114, 111, 109, 34, 58]⟩ : ByteArray) = qB [44, 34, 102, 114, 111, 109, 34, 58] from rfl, show (⟨#[44, 34, 116, 111, 34, 58]⟩ : ByteArray) = qB [44, 34, 116, 111, 34, 58] from rfl, show (⟨#[44, 34, 118, 97, 108, 117, 101, 34, 58]⟩ : ByteArray) = qB [44, 34, 118, 97, 108, 117, 101, 34, 58] from rfl, show (⟨#[125]⟩ : ByteArray) = qB [125] from rfl]
  repeat rw [qLe (by simp only [List.length_append, List.length_cons, List.length_nil]; omega), when_true', qBapp]
end
end Go.Ab
end
section
namespace Go.Ab
theorem len12 {α : Type} {l : List α} (h : l.length = 12) : ∃ a b c d e f g i j k m n, l = [a, b, c, d, e, f, g, i, j, k, m, n] := by
  match l, h with
  | [a, b, c, d, e, f, g, i, j, k, m, n], _ => exact ⟨a, b, c, d, e, f, g, i, j, k, m, n, rfl⟩
section
variable {P : Program} {D B : Nat} {t ts te tl : Nat} (hB : B ≤ 150994944) (hft : flat P D t = [.int .i64, .int .i64, .int .i64, .int .i64, .int .i64, .str, .sl t, .sl ts]) (hfs : flat P D ts = [.str]) (hst : szOf P t = some (8, true)) (hss : szOf P ts = some (1, false)) (hb : P.bytesOf t = 104) (hbs : P.bytesOf ts = 16)
  (hfe : flat P D te = [.str, .int .i64, .int .i64, .int .i64, .int .i64, .int .i64, .int .i64, .int .i64, .int .i64, .str, .sl t, .sl ts]) (hse : szOf P te = some (12, true)) (hbe : P.bytesOf te = 144) (hfl : flat P D tl = [.sl te]) (hsl : szOf P tl = some (1, false))
include hB hft hfs hst hss hb hbs hfe hse hbe hfl hsl
theorem ens_of {f : FV} (h : WV P D B tl f) : ∃ l : List EN, f = .sl (l.map EN.enc) ∧ (∀ e ∈ l, e.v.Sm ∧ e.p.size ≤ 150994944) ∧ l.length ≤ 150994944 := by
  obtain ⟨⟨n, agg, hs, hfit⟩, H⟩ := h
  rw [hsl] at hs; cases hs
  have hc := (fits_one hfit).2.2
  have hw := H 0 f (.sl te) (by rw [hc]; rfl) (by rw [hfl]; rfl)
  cases hw with
  | sl _ es hl hb' hf h =>
    obtain ⟨m, rfl, hm⟩ := choose_list (f := EN.enc) (p := fun e : EN => e.v.Sm ∧ e.p.size ≤ 150994944) (l := es) fun x hx => by
      obtain ⟨n, agg, hs, hfit⟩ := hf x hx
      rw [hse] at hs; cases hs
      obtain ⟨cs, rfl, hcs⟩ := fits_agg hfit
      obtain ⟨c0, c1, c2, c3, c4, c5, c6, c7, c8, c9, c10, c11, rfl⟩ := len12 hcs
      have H := fun j y c => h _ hx j y c
      simp only [FV.cells, hfe] at H
      obtain ⟨p, rfl, hp⟩ := wc_str (H 0 c0 _ rfl rfl)
      obtain ⟨a, rfl, _⟩ := wc_int (H 1 c1 _ rfl rfl)
      obtain ⟨b, rfl, _⟩ := wc_int (H 2 c2 _ rfl rfl)
      obtain ⟨c, rfl, _⟩ := wc_int (H 3 c3 _ rfl rfl)
      obtain ⟨v, hv, hvs⟩ := nd_eight hB hft hfs hst hss hb hbs (H 4 c4 _ rfl rfl) (H 5 c5 _ rfl rfl) (H 6 c6 _ rfl rfl) (H 7 c7 _ rfl rfl) (H 8 c8 _ rfl rfl) (H 9 c9 _ rfl rfl) (nds_of hB hft hfs hst hss hb hbs (H 10 c10 _ rfl rfl) rfl) (H 11 c11 _ rfl rfl)
      refine ⟨⟨p, a, b, c, v⟩, ?_, hvs, by show p.size ≤ _; omega⟩
      obtain ⟨x, d, k, c', s, t', iz, ks⟩ := v
      rw [ND.enc_mk] at hv
      injection hv with hv
      simp only [List.cons.injEq, and_true] at hv
      obtain ⟨rfl, rfl, rfl, rfl, rfl, rfl, rfl, rfl⟩ := hv
      rfl
    refine ⟨m, rfl, hm, ?_⟩
    rw [hbe, List.length_map] at hb'
    omega
end
section
variable {ep : FV} {t9 : List FV} {nm : List ByteArray} {L : Lt} (N : LatN ep t9 nm L)
include N
theorem llight_ok {es : List EN} (hs : ∀ e ∈ es, e.v.Sm ∧ e.p.size ≤ 150994944) (hlen : es.length ≤ 150994944) : ∃ b : Bool, Rt0 N_law28_light [.fz (.sl t9), .fz (.sl (es.map EN.enc))] = some ([.fz (.bool b)], []) ∧ (b = true → es.length ≤ 20 ∧ ∀ e ∈ es, e.Ok L) := by
  have loop : ∀ (j i n : Nat), i + j = es.length → j < n → ∃ b : Bool, onL (L_law28_light_1_0 Rt0 (es.length + 1) true n t9 (es.map EN.enc) i) (K_law28_light_1 Rt0 (es.length + 1) true) = some ([.fz (.bool b)], []) ∧ (b = true → es.length ≤ 20 ∧ ∀ (m : Nat) (hm : m < es.length), i ≤ m → (es[m]).Ok L) := by
    intro j
    induction j with
    | zero =>
      intro i n hij hn
      obtain ⟨n, rfl⟩ : ∃ q, n = q + 1 := ⟨n - 1, by omega⟩
      refine ⟨decide ((es.length : Int) ≤ 20), ?_, fun h => ⟨by have := of_decide_eq_true h; omega, fun m hm him => by omega⟩⟩
      rw [L_law28_light_1_0_eq]
      simp only [List.length_map, decide_eq_false (show ¬ ((i : Int) < (es.length : Int)) by omega), ifB_false, onL_some, X_law28_light_1_0_eq]
    | succ j jh =>
      intro i n hij hn
      obtain ⟨n, rfl⟩ : ∃ q, n = q + 1 := ⟨n - 1, by omega⟩
      have hl : i < es.length := by omega
      by_cases h20 : i < 20
      case neg =>
        refine ⟨decide ((es.length : Int) ≤ 20), ?_, fun h => by have := of_decide_eq_true h; omega⟩
        rw [L_law28_light_1_0_eq]
        simp only [List.length_map, decide_eq_true (show ((i : Int) < (es.length : Int)) by omega), decide_eq_false (show ¬ ((i : Int) < 20) by omega), ifB_true, ifB_false, onL_some, X_law28_light_1_0_eq]
      case pos =>
        obtain ⟨b, hb, hbt⟩ := jh (i + 1) n (by omega) (by omega)
        obtain ⟨p, at0, fr, to0, x, d, k, c, s, t, iz, ks, he⟩ : ∃ p at0 fr to0 x d k c s t iz ks, es[i] = ⟨p, at0, fr, to0, .mk x d k c s t iz ks⟩ := by
          rcases es[i] with ⟨p, a, f, o, ⟨x, d, k, c, s, t, iz, ks⟩⟩
          exact ⟨_, _, _, _, _, _, _, _, _, _, _, _, rfl⟩
        have hsm := hs es[i] (List.getElem_mem hl)
        have q := EN.enc_mk p at0 fr to0 x d k c s t iz ks
        rw [he] at hsm
        obtain ⟨bl, h1, c1⟩ := nlight_ok hsm.1 100 (by omega) (by omega)
        have h2 := nis9_ok N.tab N.lat.ok hsm.1
        have e9 : (labB L (.mk x d k c s t iz ks) && (rightB L (.mk x d k c s t iz ks) && shapeB (strip (.mk x d k c s t iz ks)))) = mayB L (.mk x d k c s t iz ks) := rfl
        rw [e9] at h2
        have h3 : ∃ l, Rt0 N_ref03_Signs [.fz (.str p)] = some ([.fz (.sl l), .fz (.bool (textB p))], []) := by
          have := signs_ok p (by have := hsm.2; simp only at this; omega)
          unfold textB
          cases hv : signsL p.data.toList with
          | none => rw [hv] at this; exact ⟨_, this⟩
          | some cs => rw [hv] at this; exact ⟨_, this⟩
        obtain ⟨sl, h3⟩ := h3
        have hg : (es.map EN.enc).getD i .nilp = (EN.mk p at0 fr to0 (.mk x d k c s t iz ks)).enc := by simp [hl, he]
        have hw : IntKind.wrap .i64 ((i : Int) + 1) = ((i + 1 : Nat) : Int) := by rw [wrap64 (by omega) (by omega)]; rfl
        rw [ND.enc_mk] at h1 h2
        have ha : FV.isAg 12 (EN.mk p at0 fr to0 (.mk x d k c s t iz ks)).enc = true := rfl
        have k0 : FV.cell (EN.mk p at0 fr to0 (.mk x d k c s t iz ks)).enc 0 = .str p := rfl
        have k1 : FV.cell (EN.mk p at0 fr to0 (.mk x d k c s t iz ks)).enc 1 = .int .i64 at0 := rfl
        have k4 : FV.cell (EN.mk p at0 fr to0 (.mk x d k c s t iz ks)).enc 4 = .int .i64 x := rfl
        have k5 : FV.cell (EN.mk p at0 fr to0 (.mk x d k c s t iz ks)).enc 5 = .int .i64 d := rfl
        have k6 : FV.cell (EN.mk p at0 fr to0 (.mk x d k c s t iz ks)).enc 6 = .int .i64 k := rfl
        have k7 : FV.cell (EN.mk p at0 fr to0 (.mk x d k c s t iz ks)).enc 7 = .int .i64 c := rfl
        have k8 : FV.cell (EN.mk p at0 fr to0 (.mk x d k c s t iz ks)).enc 8 = .int .i64 s := rfl
        have k9 : FV.cell (EN.mk p at0 fr to0 (.mk x d k c s t iz ks)).enc 9 = .str t := rfl
        have k10 : FV.cell (EN.mk p at0 fr to0 (.mk x d k c s t iz ks)).enc 10 = .sl (iz.map ND.enc) := rfl
        have k11 : FV.cell (EN.mk p at0 fr to0 (.mk x d k c s t iz ks)).enc 11 = .sl (ks.map .str) := rfl
        have hL : L_law28_light_1_0 Rt0 (es.length + 1) true (n + 1) t9 (es.map EN.enc) i = ifB (!bl) (some (.ret, X_law28_light_1_1 (es.map EN.enc) false)) (ifB (!(mayB L (.mk x d k c s t iz ks))) (some (.ret, X_law28_light_1_1 (es.map EN.enc) false)) (ifB (!(textB p)) (some (.ret, X_law28_light_1_1 (es.map EN.enc) false)) (ifB (decide ((p.size : Int) > 100)) (some (.ret, X_law28_light_1_1 (es.map EN.enc) false)) (ifB (decide (at0 < 0)) (some (.ret, X_law28_light_1_1 (es.map EN.enc) false)) (ifB (decide (at0 > 1000000)) (some (.ret, X_law28_light_1_1 (es.map EN.enc) false)) (L_law28_light_1_0 Rt0 (es.length + 1) true n t9 (es.map EN.enc) ((i + 1 : Nat) : Int))))))) := by
          rw [L_law28_light_1_0_eq]
          simp only [List.length_map, decide_eq_true (show ((i : Int) < (es.length : Int)) by omega), decide_eq_true (show ((i : Int) < 20) by omega), decide_eq_true (show (0 : Int) ≤ (i : Int) by omega), ifB_true, jump_true, J_law28_light_3_0_eq, J_law28_light_1_0_eq, Bool.and_true, when_true', Int.toNat_natCast, hg, EN.enc_fits, ha, k0, k1, k4, k5, k6, k7, k8, k9, k10, k11, h1, h2, h3, onR_some, List.isEmpty_nil, allF_cons, allF_nil, List.getD_cons_zero, List.getD_cons_succ, isF_fz, toF_fz, isBool_bool, toBool_bool, isStr_str, toStr_str, isInt_int, toInt_int, hw]
        have no : ∃ b : Bool, onL (some (AExit.ret, X_law28_light_1_1 (es.map EN.enc) false)) (K_law28_light_1 Rt0 (es.length + 1) true) = some ([.fz (.bool b)], []) ∧ (b = true → es.length ≤ 20 ∧ ∀ (m : Nat) (hm : m < es.length), i ≤ m → (es[m]).Ok L) := ⟨false, by rw [onL_some, X_law28_light_1_1_eq], fun h => by cases h⟩
        rw [hL]
        cases hbl : bl with
        | false => simp only [Bool.not_false, ifB_true]; exact no
        | true =>
        cases hm : mayB L (.mk x d k c s t iz ks) with
        | false => simp only [Bool.not_false, Bool.not_true, ifB_true, ifB_false]; exact no
        | true =>
        cases ht : textB p with
        | false => simp only [Bool.not_false, Bool.not_true, ifB_true, ifB_false]; exact no
        | true =>
        simp only [Bool.not_true, ifB_false]
        by_cases g1 : (p.size : Int) > 100
        · rw [decide_eq_true g1, ifB_true]; exact no
        rw [decide_eq_false g1, ifB_false]
        by_cases g2 : at0 < 0
        · rw [decide_eq_true g2, ifB_true]; exact no
        rw [decide_eq_false g2, ifB_false]
        by_cases g3 : at0 > 1000000
        · rw [decide_eq_true g3, ifB_true]; exact no
        rw [decide_eq_false g3, ifB_false]
        refine ⟨b, hb, fun hbb => ⟨(hbt hbb).1, fun m hm' him => ?_⟩⟩
        by_cases hmi : m = i
        · subst hmi
          rw [he]
          exact ⟨hsm.1, hm, by have := c1 hbl; omega, ht, by show p.size ≤ 100; omega, by show 0 ≤ at0; omega, by show at0 ≤ 1000000; omega⟩
        · exact (hbt hbb).2 m hm' (by omega)
  obtain ⟨b, h1, h2⟩ := loop es.length 0 (es.length + 1) (by omega) (by omega)
  rw [Int.natCast_zero] at h1
  refine ⟨b, rt_call0 A_law28_light rfl rfl (es.length + 1) (by rw [E_law28_light]; exact h1), fun hb => ⟨(h2 hb).1, fun e he => ?_⟩⟩
  obtain ⟨m, hm, rfl⟩ := List.getElem_of_mem he
  exact (h2 hb).2 m hm (by omega)
def linT (nm : List ByteArray) (L : Lt) (es : List EN) : List UInt8 := es.flatMap fun e => entT nm L e ++ [10]
theorem linT_len (nm : List ByteArray) (L : Lt) : ∀ es : List EN, (∀ e ∈ es, (entT nm L e).length ≤ 60000) → (linT nm L es).length ≤ 60001 * es.length
  | [], _ => by simp [linT]
  | e :: r, h => by
    have h1 := h e (List.mem_cons_self ..)
    have h2 := linT_len nm L r fun x hx => h x (List.mem_cons_of_mem _ hx)
    unfold linT at h2 ⊢
    simp only [List.flatMap_cons, List.length_append, List.length_cons, List.length_nil]
    omega
theorem lin_ok (hTx : ∀ j : Int, Rt0 N_level_Lattice_Text [.fz (.pt 195 true ep 0), .fz (.int .i64 j)] = some ([.fz (.str (nmI nm j))], [])) : ∀ (es : List EN) (out : List UInt8), (∀ e ∈ es, e.Ok L ∧ (entT nm L e).length ≤ 60000) → out.length + 60001 * es.length ≤ 100000000 → linesF (.pt 195 true ep 0) (es.map EN.enc) out = some (out ++ linT nm L es)
  | [], out, _, _ => by simp [linesF, linT]
  | e :: r, out, h, hl => by
    obtain ⟨O, h1⟩ := h e (List.mem_cons_self ..)
    have ht := ltext_ok N hTx O h1
    have hq : q2Str 12 [.pt 195 true ep 0, e.enc] = some (qB (entT nm L e)) := by unfold q2Str; rw [show List.map TV.fz [FV.pt 195 true ep 0, e.enc] = [.fz (.pt 195 true ep 0), .fz e.enc] from rfl, ht]
    have ih := lin_ok hTx r (out ++ (entT nm L e ++ [10])) (fun x hx => h x (List.mem_cons_of_mem _ hx)) (by simp only [List.length_append, List.length_cons, List.length_nil] at hl ⊢; omega)
    simp only [List.length_cons] at hl
    rw [List.map_cons, linesF, e.enc_ent, if_neg (by simp), hq, Option.bind_some, if_neg (by rw [qBsz]; omega)]
    have : (qB (entT nm L e)).data.toList = entT nm L e := rfl
    rw [this, ih]
    unfold linT
    rw [List.flatMap_cons, List.append_assoc]
end
theorem lives28_ok : Rt N_law28_lives [] = some ([.fz (.bool true)], []) := by
  have h0 := lift (Pol.new pol0_ok)
  have hs : Rt N_ref01_Sort [.fz (.int .i64 0)] = some ([.fz pol0.e], []) := lift (rt_call0 A_ref01_Sort rfl rfl 0 (by rw [E_ref01_Sort]; rfl))
  have N := latN_of pol0_ok (by decide +kernel)
  let v : ND := .mk 0 0 3 1 0 ⟨#[]⟩ [] []
  let e : EN := ⟨⟨#[97, 110, 110]⟩, 0, 1, 0, v⟩
  have hv : v.Sm := .mk (by decide) (by decide) (by decide) (fun s h => by cases h) (fun y hy => by cases hy)
  have O : e.Ok (ltR pol0.names.length pol0.g) := ⟨hv, by decide +kernel, by decide +kernel, by decide +kernel, by decide, by decide, by decide⟩
  have t0 : entT pol0.names (ltR pol0.names.length pol0.g) e = [123, 34, 98, 121, 34, 58, 34, 97, 110, 110, 34, 44, 34, 97, 116, 34, 58, 48, 44, 34, 102, 114, 111, 109, 34, 58, 34, 104, 105, 103, 104, 34, 44, 34, 116, 111, 34, 58, 34, 108, 111, 119, 34, 44, 34, 118, 97, 108, 117, 101, 34, 58, 49, 125] := by decide +kernel
  have s0 := lift2 (ltext_ok N (lat_Text (Pol.nice pol0_ok)) O (by rw [t0]; decide))
  rw [t0] at s0
  have ev : FV.ag [.str ⟨#[97, 110, 110]⟩, .int .i64 0, .int .i64 1, .int .i64 0, .int .i64 0, .int .i64 0, .int .i64 3, .int .i64 1, .int .i64 0, .str ⟨#[]⟩, .sl [], .sl []] = e.enc := rfl
  refine rt_call A_law28_lives rfl rfl 0 ((E_law28_lives Rt 0 true).trans ?_)
  simp only [hs, h0, ev, s0, onR_some, onL_some, List.isEmpty_nil, allF_cons, allF_nil, Bool.and_true, Bool.true_and, when_true', List.getD_cons_zero, List.getD_cons_succ, isF_fz, toF_fz, isBool_bool, toBool_bool, isInt_int, toInt_int, isStr_str, toStr_str, isSl_sl, toSl_sl, List.length_cons, List.length_nil, List.all_cons, List.all_nil, lisFz_fz, ltoFz_fz, beq_self_eq_true, jump_true, ifB_true, ifB_false, isF_pv, isPv_pv, toV_pv, isNil_nilp, isNil_pt, isPt_pt, toAg_ag, cell_ag, isAg_ag, fits_ag, Int.toNat_natCast, Bool.not_true, Bool.not_false, fits_int, fits_bool, fits_str, fits_sl, bytes_beq]
  rw [show (⟨#[123, 34, 98, 121, 34, 58, 34, 97, 110, 110, 34, 44, 34, 97, 116, 34, 58, 48, 44, 34, 102, 114, 111, 109, 34, 58, 34, 104, 105, 103, 104, 34, 44, 34, 116, 111, 34, 58, 34, 108, 111, 119, 34, 44, 34, 118, 97, 108, 117, 101, 34, 58, 49, 125]⟩ : ByteArray) = qB [123, 34, 98, 121, 34, 58, 34, 97, 110, 110, 34, 44, 34, 97, 116, 34, 58, 48, 44, 34, 102, 114, 111, 109, 34, 58, 34, 104, 105, 103, 104, 34, 44, 34, 116, 111, 34, 58, 34, 108, 111, 119, 34, 44, 34, 118, 97, 108, 117, 101, 34, 58, 49, 125] from rfl, decide_eq_true rfl]
end Go.Ab
end
section
namespace Go.Ab
open Go.Proofs
theorem pure_LedgerTexts (f0 f1 : FV) (h0 : WV Try.prog 40 150994944 3 f0) (h1 : WV Try.prog 40 150994944 22 f1) : Rt N_law28_LedgerTexts [.fz f0, .fz f1] = some ([.fz (.bool true)], []) := by
  obtain ⟨kk, rfl, _⟩ := int_of (k := .i64) (by kernel_rfl) (by kernel_rfl) h0
  obtain ⟨es, rfl, hes, hlen⟩ := ens_of (t := 42) (ts := 9) (te := 44) (Nat.le_refl _) (by kernel_rfl) (by kernel_rfl) (by kernel_rfl) (by kernel_rfl) (by kernel_rfl) (by kernel_rfl) (by kernel_rfl) (by kernel_rfl) (by kernel_rfl) (by kernel_rfl) (by kernel_rfl) h1
  obtain ⟨P, hP, hN, hS⟩ := Sort_nm kk
  have N := latN_of hP hN
  have hTx := lat_Text (Pol.nice hP)
  have hnew := lift (Pol.new hP)
  have htab := lift (Pol.table hP)
  replace hS := lift hS
  have hl := lives28_ok
  obtain ⟨b, hb, hbt⟩ := llight_ok N hes hlen
  replace hb := lift hb
  have hfp : FV.fits 3 true P.e = true := rfl
  have hap : FV.isAg 3 P.e = true := rfl
  have hcp : FV.cell P.e 0 = .sl (P.names.map .str) := rfl
  have hE := E_law28_LedgerTexts Rt (es.length + 1) true kk (es.map EN.enc)
  refine rt_call A_law28_LedgerTexts rfl rfl (es.length + 1) (hE.trans ?_)
  generalize ltR P.names.length P.g = L at N hbt
  generalize latR P.names P.g = ep at N hTx hnew
  generalize tabL P.names.length (rowOf P.names.length P.pairs) P.names.length = t9 at N htab hb
  simp only [hS, hfp, hnew, htab, hb, onR_some, onL_some, List.isEmpty_nil, allF_cons, allF_nil, Bool.and_true, Bool.true_and, when_true', List.getD_cons_zero, List.getD_cons_succ, isF_fz, toF_fz, isBool_bool, toBool_bool, isInt_int, toInt_int, isStr_str, toStr_str, isSl_sl, toSl_sl, List.length_cons, List.length_nil, List.all_cons, List.all_nil, lisFz_fz, ltoFz_fz, beq_self_eq_true, jump_true, ifB_true, ifB_false, isF_pv, isPv_pv, toV_pv, isNil_nilp, isNil_pt, isPt_pt, toAg_ag, cell_ag, isAg_ag, fits_ag, Int.toNat_natCast, Bool.not_true, Bool.not_false, fits_int, fits_bool, fits_str, fits_sl]
  cases b with
  | false => simp only [onR_some, onL_some, List.isEmpty_nil, allF_cons, allF_nil, Bool.and_true, Bool.true_and, when_true', List.getD_cons_zero, List.getD_cons_succ, isF_fz, toF_fz, isBool_bool, toBool_bool, isInt_int, toInt_int, isStr_str, toStr_str, isSl_sl, toSl_sl, List.length_cons, List.length_nil, List.all_cons, List.all_nil, lisFz_fz, ltoFz_fz, beq_self_eq_true, jump_true, ifB_true, ifB_false, isF_pv, isPv_pv, toV_pv, isNil_nilp, isNil_pt, isPt_pt, toAg_ag, cell_ag, isAg_ag, fits_ag, Int.toNat_natCast, Bool.not_true, Bool.not_false, fits_int, fits_bool, fits_str, fits_sl, hl]
  | true =>
    simp only [onR_some, onL_some, List.isEmpty_nil, allF_cons, allF_nil, Bool.and_true, Bool.true_and, when_true', List.getD_cons_zero, List.getD_cons_succ, isF_fz, toF_fz, isBool_bool, toBool_bool, isInt_int, toInt_int, isStr_str, toStr_str, isSl_sl, toSl_sl, List.length_cons, List.length_nil, List.all_cons, List.all_nil, lisFz_fz, ltoFz_fz, beq_self_eq_true, jump_true, ifB_true, ifB_false, isF_pv, isPv_pv, toV_pv, isNil_nilp, isNil_pt, isPt_pt, toAg_ag, cell_ag, isAg_ag, fits_ag, Int.toNat_natCast, Bool.not_true, Bool.not_false, fits_int, fits_bool, fits_str, fits_sl]
    obtain ⟨h20, hok⟩ := hbt rfl
    have loop : ∀ (j i n : Nat) (acc : List UInt8), i + j = es.length → j < n → acc = linT P.names L (es.take i) → (∀ e ∈ es.take i, (entT P.names L e).length ≤ 60000) →
        onL (L_law28_LedgerTexts_1_0 Rt (es.length + 1) true n (es.map EN.enc) (.pt 195 true ep 0) (.sl t9) (qB acc) i P.e) (K_law28_LedgerTexts_1 Rt (es.length + 1) true) = some ([.fz (.bool true)], []) := by
      intro j
      induction j with
      | zero =>
        intro i n acc hij hn hacc hle
        obtain ⟨n, rfl⟩ : ∃ q, n = q + 1 := ⟨n - 1, by omega⟩
        rw [List.take_of_length_le (by omega)] at hacc hle
        have hln := lin_ok N hTx es [] (fun e he => ⟨hok e he, hle e he⟩) (by simp only [List.length_nil]; omega)
        rw [List.nil_append, ← hacc] at hln
        have hlines : Rt N_ledger_Lines [.fz (.pt 195 true ep 0), .fz (.sl (es.map EN.enc))] = some ([.fz (.str (qB acc))], []) := by
          refine rt_prim (af := A_lines) (p := linesP) rfl rfl ?_
          unfold linesP
          simp only
          unfold linesS
          rw [if_neg (by rw [List.length_map]; omega), hln]
          rfl
        rw [L_law28_LedgerTexts_1_0_eq]
        simp only [List.length_map, decide_eq_false (show ¬ ((i : Int) < (es.length : Int)) by omega), ifB_false, onL_some, X_law28_LedgerTexts_1_1_eq, hlines, onR_some, List.isEmpty_nil, allF_cons, allF_nil, Bool.and_true, when_true', List.getD_cons_zero, isF_fz, toF_fz, isStr_str, toStr_str, bytes_beq, decide_true, ifB_true, hl, isBool_bool, toBool_bool]
      | succ j jh =>
        intro i n acc hij hn hacc hle
        obtain ⟨n, rfl⟩ : ∃ q, n = q + 1 := ⟨n - 1, by omega⟩
        have hli : i < es.length := by omega
        have O := hok es[i] (List.getElem_mem hli)
        have r1 := lift (rent_ok N O)
        have hz : ∀ l : List UInt8, (((qB l).size : Nat) : Int) = (l.length : Int) := fun _ => rfl
        have hg : (es.map EN.enc).getD i .nilp = (es[i]).enc := by simp [hli]
        have hw : IntKind.wrap .i64 ((i : Int) + 1) = ((i + 1 : Nat) : Int) := by rw [wrap64 (by omega) (by omega)]; rfl
        have hal : acc.length ≤ 100000000 := by
          have := linT_len N P.names L (es.take i) hle
          rw [← hacc, List.length_take] at this
          omega
        rw [L_law28_LedgerTexts_1_0_eq]
        simp only [List.length_map, decide_eq_true (show ((i : Int) < (es.length : Int)) by omega), decide_eq_true (show (0 : Int) ≤ (i : Int) by omega), ifB_true, Bool.and_true, when_true', Int.toNat_natCast, hg, EN.enc_fits, hap, hcp, r1, onR_some, List.isEmpty_nil, allF_cons, allF_nil, List.getD_cons_zero, isF_fz, toF_fz, isStr_str, toStr_str, hz, hl, isBool_bool, toBool_bool]
        by_cases g1 : ((entT P.names L es[i]).length : Int) > 60000
        · simp only [decide_eq_true g1, ifB_true, onL_some, X_law28_LedgerTexts_1_0_eq]
        · have r2 := lift2 (ltext_ok N hTx O (by omega))
          have h2 := jh (i + 1) n (acc ++ (entT P.names L es[i] ++ [10])) (by omega) (by omega) (by
            rw [List.take_succ_eq_append_getElem hli, hacc]
            unfold linT
            simp only [List.flatMap_append, List.flatMap_cons, List.flatMap_nil, List.append_nil]) (by
            intro e he
            rw [List.take_succ_eq_append_getElem hli] at he
            rcases List.mem_append.1 he with he | he
            · exact hle e he
            · rw [List.mem_singleton.1 he]; omega)
          simp only [decide_eq_false g1, ifB_false, r2, onR_some, List.isEmpty_nil, allF_cons, allF_nil, Bool.and_true, when_true', List.getD_cons_zero, isF_fz, toF_fz, isStr_str, toStr_str, bytes_beq, decide_true, Bool.not_true, ifB_false, hw, show (⟨#[10]⟩ : ByteArray) = qB [10] from rfl]
          rw [qLe (by omega), when_true', qBapp, qLe (by simp only [List.length_append, List.length_cons, List.length_nil]; omega), when_true', qBapp, List.append_assoc]
          exact h2
    have l0 := loop es.length 0 (es.length + 1) [] (by omega) (by omega) rfl (fun e he => by cases he)
    rw [Int.natCast_zero] at l0
    exact l0
end Go.Ab
end
section
namespace Go.Ab
open Go
section
variable {H : Type} {enc : TypeId × Value → H}
theorem cond_shaped {a : Assume} {C : Checked} {os : Os} {f : FuncId} {fn : Func} {s : OpenSpec} {k : (H : Type) → List (DataW H) → Bool} (hk : s.cond = some k) {F : Stop.Interp} {conds : List PathCond} {apart fresh handsOn again : Bool}
    (own : ownKnob C.prog.godebug = none) (started : os.Started) (noInit : C.prog.inits.idxOf? f = none) (hfn : C.prog.funcs[f]? = some fn)
    (witness : ∃ (w : World) (tape : Tape) (i : Input), w.os = os ∧ (w.forCall tape i).Shaped C.prog ∧ i.vars = [] ∧ Input.okWide C.prog (w.forCall tape i) .any w.heap.size f i ∧
      s.pre6 enc C.prog fn conds apart (w.forCall tape i).memory i.args ∧ a.holds C.prog (lone (Frame.enter C.prog f i.args .normal) [] (w.forCall tape i)))
    (contract : ∀ (W : World) (base : Nat) (args : Array Value) (ds gs : List (DataW H)) (before : List MemPlace),
      (∀ (j : Nat) t v, fn.params[j]? = some t → args[j]? = some v → Value.okWide C.prog W .any base t v) →
      DataW.Whole enc C.prog fn.params.toList s.vars apart W args.toList ds gs before →
      conds.all (PathCond.test C.prog ⟨fn.params.toList, ds, s.bare.plain.varTypes C.prog, gs⟩) = true → k H (ds ++ gs) = true →
      (DataW.weightsEach C.prog (fn.params.toList ++ s.bare.plain.varTypes C.prog) (ds ++ gs)).all (· ≤ reachBytes) = true →
      W.ShapedOpen C.prog →
      a.holds C.prog (lone (Frame.enter C.prog f args .normal) [] W) →
      Calls C.prog f args W fun e W' => ∃ v, e = .returned v ∧ (s.at F).post enc C.prog fn apart fresh handsOn again W args v W') :
    ReturnsInHanded a C os f .any (s.pre6 enc C.prog fn conds apart) ((s.at F).post enc C.prog fn apart fresh handsOn again) := by
  refine returnsInHanded_of_calls own started noInit witness ?_
  intro w tape i _ hsh _ hok hpre hholds
  obtain ⟨_, _, _, fn', hfn', _, _, _, _, hval⟩ := hok
  have e : fn' = fn := Option.some.inj (hfn'.symm.trans hfn)
  subst e
  obtain ⟨ds, gs, before, hw, hc, hkk⟩ := (OpenSpec.pre_some hk conds apart _ _).1 hpre.1
  have hw' := DataW.Whole.of_heap (w' := w.forCall tape i) (by rfl) hw
  refine (contract (w.forCall tape i) w.heap.size i.args ds gs before hval hw' hc hkk (hpre.2.weights hw) hsh hholds).mono fun e W' ⟨v, he, hp⟩ => ?_
  subst he
  exact ChangeSpec.post_blind hp
end
end Go.Ab
end
section
namespace Go.Proofs.Ytfooakojccfflaa
open Go Rows
def smallT (P : Program) (M : Nat) (ts : List Nat) : Bool := ts.all fun t => match P.underlying t with
  | some (.slice e) => ts.elem e && Nat.ble (P.bytesOf e) M
  | some (.struct fs) => fs.toList.all fun f => ts.elem f.type
  | some (.array _ e) => ts.elem e
  | some (.pointer e) => ts.elem e
  | some (.map _ _) => false
  | _ => true
theorem bulk_pos {H : Type} (d : DataW H) : 1 ≤ uptoBulk d := by
  cases d with
  | lit l => cases l <;> simp [uptoBulk]
  | _ => simp [uptoBulk]
theorem bulk_length {H : Type} : ∀ l : List (DataW H), l.length ≤ uptoBulkAll l
  | [] => by simp [uptoBulkAll]
  | d :: r => by
    have := bulk_pos d
    have := bulk_length r
    simp only [uptoBulkAll, List.length_cons]; omega
section
variable {H : Type} {P : Program} {M : Nat} {ts : List Nat}
theorem small_of (hT : smallT P M ts = true) {t : Nat} (ht : ts.elem t = true) {ds : TypeDesc} (hu : P.underlying t = some ds) :
    (match ds with
      | .slice e => ts.elem e = true ∧ P.bytesOf e ≤ M
      | .struct fs => ∀ f ∈ fs.toList, ts.elem f.type = true
      | .array _ e => ts.elem e = true
      | .pointer e => ts.elem e = true
      | .map _ _ => False
      | _ => True) := by
  have h := List.all_eq_true.1 hT t (by simpa using ht)
  rw [hu] at h
  cases ds <;> simp only [] <;> simp only [Bool.and_eq_true, Bool.false_eq_true] at h <;> first | trivial | exact h | skip
  · exact ⟨h.1, Nat.le_of_ble_eq_true h.2⟩
  · intro f hf; exact List.all_eq_true.1 h f hf
theorem mul_up {a b n M : Nat} (h : n ≤ a * M) (hab : a ≤ b) : n ≤ b * M := Nat.le_trans h (Nat.mul_le_mul_right M hab)
mutual
theorem weights_small (hM : 1 ≤ M) (hT : smallT P M ts = true) : ∀ (d : DataW H) (t : TypeId), ts.elem t = true → ∀ n ∈ d.weights P t, n ≤ uptoBulk d * M
  | .lit l, t, ht, n, hn => by
    cases l with
    | string bytes =>
      simp only [DataW.weights, List.mem_singleton] at hn
      subst hn
      simp only [uptoBulk]
      exact Nat.le_trans (Nat.le_succ _) (Nat.le_mul_of_pos_right _ hM)
    | _ => simp [DataW.weights] at hn
  | .nil, t, ht, n, hn => by simp [DataW.weights] at hn
  | .ptr d, t, ht, n, hn => by
    simp only [DataW.weights] at hn
    split at hn
    · rename_i e hu
      exact mul_up (weights_small hM hT d e (small_of hT ht hu) n hn) (by simp [uptoBulk])
    · cases hn
  | .slice elems spare, t, ht, n, hn => by
    simp only [DataW.weights] at hn
    split at hn
    · rename_i e hu
      obtain ⟨h1, h2⟩ := small_of hT ht hu
      rcases List.mem_cons.1 hn with rfl | hn
      · have a := bulk_length elems
        have b := bulk_length spare
        refine Nat.le_trans (Nat.mul_le_mul_left _ h2) (Nat.mul_le_mul_right M ?_)
        simp only [uptoBulk]; omega
      · rcases List.mem_append.1 hn with hn | hn
        · exact mul_up (weightsAll_small hM hT elems e h1 n hn) (by simp only [uptoBulk]; omega)
        · exact mul_up (weightsAll_small hM hT spare e h1 n hn) (by simp only [uptoBulk]; omega)
    · cases hn
  | .agg parts, t, ht, n, hn => by
    simp only [DataW.weights] at hn
    split at hn
    · rename_i fs hu
      have h1 := small_of hT ht hu
      exact mul_up (weightsEach_small hM hT parts (fs.toList.map (·.type)) (fun u hu => by obtain ⟨f, hf, rfl⟩ := List.mem_map.1 hu; exact h1 f hf) n hn) (by simp only [uptoBulk]; omega)
    · rename_i k e hu
      exact mul_up (weightsAll_small hM hT parts e (small_of hT ht hu) n hn) (by simp only [uptoBulk]; omega)
    · cases hn
  | .iface _ _, t, ht, n, hn => by simp [DataW.weights] at hn
  | .map entries, t, ht, n, hn => by
    simp only [DataW.weights] at hn
    split at hn
    · rename_i k e hu
      exact (small_of hT ht hu).elim
    · cases hn
  | .held _, t, ht, n, hn => by simp [DataW.weights] at hn
theorem weightsAll_small (hM : 1 ≤ M) (hT : smallT P M ts = true) : ∀ (l : List (DataW H)) (e : TypeId), ts.elem e = true → ∀ n ∈ DataW.weightsAll P e l, n ≤ uptoBulkAll l * M
  | [], e, he, n, hn => by simp [DataW.weightsAll] at hn
  | d :: r, e, he, n, hn => by
    simp only [DataW.weightsAll] at hn
    rcases List.mem_append.1 hn with hn | hn
    · exact mul_up (weights_small hM hT d e he n hn) (by simp only [uptoBulkAll]; omega)
    · exact mul_up (weightsAll_small hM hT r e he n hn) (by simp only [uptoBulkAll]; omega)
theorem weightsEach_small (hM : 1 ≤ M) (hT : smallT P M ts = true) : ∀ (l : List (DataW H)) (us : List TypeId), (∀ u ∈ us, ts.elem u = true) → ∀ n ∈ DataW.weightsEach P us l, n ≤ uptoBulkAll l * M
  | [], us, he, n, hn => by cases us <;> simp [DataW.weightsEach] at hn
  | d :: r, [], he, n, hn => by simp [DataW.weightsEach] at hn
  | d :: r, u :: us, he, n, hn => by
    simp only [DataW.weightsEach] at hn
    rcases List.mem_append.1 hn with hn | hn
    · exact mul_up (weights_small hM hT d u (he u (List.mem_cons_self ..)) n hn) (by simp only [uptoBulkAll]; omega)
    · exact mul_up (weightsEach_small hM hT r us (fun v hv => he v (List.mem_cons_of_mem _ hv)) n hn) (by simp only [uptoBulkAll]; omega)
end
theorem weights_upto (hM : 1 ≤ M) (hT : smallT P M ts = true) {l : List (DataW H)} {us : List TypeId} (hu : us.all (ts.elem ·) = true) (hk : uptoSmall H l = true) : ∀ n ∈ DataW.weightsEach P us l, n ≤ 1048576 * M := fun n hn =>
  mul_up (weightsEach_small hM hT l us (fun u h => List.all_eq_true.1 hu u h) n hn) (of_decide_eq_true hk)
end
end Go.Proofs.Ytfooakojccfflaa
end
section
namespace Go.Proofs.Ytfooakojccfflaa.ledgerTexts
open Go.ChangeShapes Go.WideShapes Go.ChangeAt Go.RowKit Go.Ab
theorem own : ownKnob Try.prog.godebug = none := by kernel_rfl
theorem laidOut : laidOutB Try.prog = true := by kernel_rfl
theorem closedE : closedT Try.prog 40 [44, 42, 9] = true := by kernel_rfl
theorem globs (W : World) (h : W.ShapedOpen Try.prog) : GlobOK Try.prog W (fun b => b < W.heap.size) := fun g hg => by
  have e : Try.prog.globals.findIdx? (·.name == "internal/bytealg.MaxLen") = some 0 := by kernel_rfl
  rw [e] at hg; cases hg
  obtain ⟨m, hm⟩ := cell_of_shapedOpen_int (k := .i64) (zero := #[.int .i64 0]) (t := 3) h (of_decide_eq_true (by kernel_rfl)) (by kernel_rfl) rfl (by kernel_rfl) (by kernel_rfl) Try.underlying3
  refine ⟨?_, m, hm⟩
  rcases Nat.lt_or_ge 0 W.heap.size with hl | hl
  · exact hl
  · simp [World.cell?, Array.getElem?_eq_none hl] at hm
set_option maxRecDepth 100000 in
theorem lifted (os : Os) (started : os.Started) (H : Type) (enc : TypeId × Value → H) (F : Stop.Interp) :
    ReturnsInHanded {} Try.checked os 3 .any ((Rows.OpenSpec.upto Rows.ledgerTextsSpec).pre6 enc Try.prog Try.f3 Rows.ledgerTextsUptoRow.domain false) (((Rows.OpenSpec.upto Rows.ledgerTextsSpec).at F).post enc Try.prog Try.f3 false true false false) := by
  refine Go.Ab.cond_shaped (C := Try.checked) (s := (Rows.OpenSpec.upto Rows.ledgerTextsSpec)) (k := Rows.uptoSmall) rfl own started (by kernel_rfl) Try.func3
    (OpenSpec.witness (enc := enc) (C := Try.checked) (s := (Rows.OpenSpec.upto Rows.ledgerTextsSpec)) (k := Rows.uptoSmall) rfl false ⟨#[], #[.int .i64 0, .slice none 0 0], []⟩ 8 (by kernel_rfl) (by kernel_rfl) (by kernel_rfl)
      (x := ([.lit (.int .i64 0), .nil], [], [])) (by kernel_rfl) rfl (by kernel_rfl)) ?_
  intro W base args ds gs before hval0 hW hcnd hk0 hsz0 hsh _
  have hsz : ∀ n ∈ DataW.weightsEach Try.prog (Try.f3.params.toList ++ Rows.ledgerTextsSpec.plain.varTypes Try.prog) (ds ++ gs), n ≤ 150994944 := weights_upto (M := 144) (ts := [3, 22, 44, 9, 42, 39, 40, 23, 2]) (by omega) (by kernel_rfl) (by kernel_rfl) hk0
  have hval : ∀ (j : Nat) t v, Try.f3.params[j]? = some t → args[j]? = some v → Value.okWide Try.prog W .any base t v := hval0
  have hW' := hW
  obtain ⟨p, q, hA0, hV, rfl, hfz, hnd⟩ := hW
  have hA : DataW.TrodAll enc Try.prog W 0 (fun _ => true) true Try.f3.params.toList args.toList ds p := hA0
  rw [Try.params3] at hA hval hsz
  obtain ⟨v0, vs0, d0, ds0, p0, q0, hargs, rfl, rfl, h0, r0⟩ := trodAll_cons hA
  obtain ⟨v1, vs1, d1, ds1, p1, q1, rfl, rfl, rfl, h1, r1⟩ := trodAll_cons r0
  obtain ⟨rfl, rfl, rfl⟩ := trodAll_nil r1
  obtain rfl : args = #[v0, v1] := by cases args; simp_all
  obtain ⟨rfl, rfl⟩ := trodVars_none hV
  have k0 := h0
  have lt0 : ∀ x ∈ p0, x.block < W.heap.size := by obtain ⟨m, hm⟩ := k0; exact DataW.trod_lt m _ _ _ hm
  obtain ⟨f0, R0, V0⟩ := read_value closedE (t := 3) (by kernel_rfl) (hval 0 3 v0 rfl rfl) k0 (fun k hk => hsz k (DataW.weights_mem_each (j := 0) (t := 3) rfl rfl k hk))
  have k1 := h1
  have lt1 : ∀ x ∈ p1, x.block < W.heap.size := by obtain ⟨m, hm⟩ := k1; exact DataW.trod_lt m _ _ _ hm
  obtain ⟨f1, R1, V1⟩ := read_value closedE (t := 22) (by kernel_rfl) (hval 1 22 v1 rfl rfl) k1 (fun k hk => hsz k (DataW.weights_mem_each (j := 1) (t := 22) rfl rfl k hk))
  clear hA0 hval0 hsz0 hsz hk0
  have hp := pure_LedgerTexts f0 f1 V0 V1
  obtain ⟨k, hk⟩ := RR_tells.1 hp
  refine (law_calls tab_ok (fs := [f0, f1]) (args := #[v0, v1]) (W := W) hk (globs _ hsh) ⟨R0, R1, trivial⟩).mono fun e W' ⟨he, bel⟩ => ?_
  subst he
  exact ⟨_, rfl, _, _, _, [], _, [], hW', trodAll_mk1 (shut_bool Try.underlying4 _), (trodAll_cons_mk (Below.trod laidOut (by kernel_rfl) (of_decide_eq_true (by kernel_rfl)) k0 bel lt0) (trodAll_cons_mk (Below.trod laidOut (by kernel_rfl) (of_decide_eq_true (by kernel_rfl)) k1 bel lt1) trodAll_mk0)), rfl, bel.frame _, fun h => by cases h⟩
theorem proved : Rows.LedgerTextsUptoSaid :=
  OpenClaim.holds_of_cond 3 Try.f3 rfl rfl rfl rfl rfl rfl rfl ⟨rfl, rfl, rfl, rfl, rfl⟩ rfl rfl rfl rfl rfl (by kernel_rfl) Try.func3 (by kernel_rfl)
    (of_decide_eq_true (by kernel_rfl)) (by unfold Func.isWrapper; first | (rw [if_pos (by decide +kernel)]; kernel_rfl) | (rw [if_neg (by decide +kernel)]; exact ⟨rfl, rfl⟩))
    (fun os started H enc _ F => lifted os started H enc F)
#print axioms proved
end Go.Proofs.Ytfooakojccfflaa.ledgerTexts
namespace Go.Proofs.Ytfooakojccfflaa
theorem ledgerTexts_upto : Rows.LedgerTextsUptoSaid := ledgerTexts.proved
end Go.Proofs.Ytfooakojccfflaa
end
