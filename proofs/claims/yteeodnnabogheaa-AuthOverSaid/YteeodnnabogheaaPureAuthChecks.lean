import Derived.Test.YteeodnnabogheaaXSAuthChecks
import Derived.IntWalk
import Derived.Laws.Closers25b
namespace Go.Proofs.Yteeodnnabogheaa.Pure
open Go.RowKit Go.Proofs.Yteeodnnabogheaa.X Go.Proofs.YteeodnnabogheaaY Go.Proofs.YteeodnnabogheaaW.PrintWords Go.Proofs.YteeodnnabogheaaW.PrintLast Go.Proofs.YteeodnnabogheaaW.PrintMore

theorem wf_i64 {m : Int} (h : (Lit.int .i64 m).wf = true) : -9223372036854775808 ≤ m ∧ m ≤ 9223372036854775807 := by
  have h1 : decide (IntKind.i64.min ≤ m ∧ m ≤ IntKind.i64.max) = true := by simpa [Lit.wf] using h
  exact of_decide_eq_true h1
theorem ev_now {α : Type} {g : Nat → Option α} {r : α} (h : ∀ k, g (k + 1) = some r) : Ev g r := Ev.step (f := fun _ => some r) h (Ev.now r)

def anyFrom (f : Nat → Bool) : Nat → Nat → Bool
  | 0, _ => false
  | m + 1, i => f i || anyFrom f m (i + 1)

/-! ### names -/
def okN (s : ByteArray) (j : Nat) : Bool := (decide (bt s j ≥ 97) && decide (bt s j ≤ 122)) || (decide (bt s j ≥ 48) && decide (bt s j ≤ 57) && decide (j ≠ 0))
def okR (s : ByteArray) (j : Nat) : Bool := (decide (bt s j ≥ 97) && decide (bt s j ≤ 122)) || (decide (bt s j ≥ 48) && decide (bt s j ≤ 57))
theorem nameLoop (s : ByteArray) (hs : s.size ≤ 140737488351232) : ∀ m i : Nat, i + m = s.size → Ev (fun k => level_Name.l0 k s (s.size : Int) (i : Int)) (!anyFrom (fun j => !okN s j) m i) := by
  intro m
  induction m with
  | zero =>
    intro i hi
    refine ev_now (fun k => ?_)
    rw [level_Name.l0, if_neg (by omega)]; rfl
  | succ m ih =>
    intro i hi
    have h1 := ih (i + 1) (by omega)
    have e : ((i + 1 : Nat) : Int) = wrap64 ((i : Int) + 1) := by rw [IntWalk.wrap64_in _ (by omega)]; rfl
    rw [e] at h1
    have hz : ((i : Int) = 0) ↔ i = 0 := by omega
    simp only [anyFrom]
    by_cases c : okN s i = true
    · rw [c, Bool.not_true, Bool.false_or]
      refine Ev.step (fun k => ?_) h1
      rw [level_Name.l0, if_pos (by omega), if_pos (by omega), if_pos (by omega)]
      simp only [okN, Bool.or_eq_true, Bool.and_eq_true, decide_eq_true_eq] at c
      (repeat' split) <;> first | rfl | (exfalso; omega)
    · rw [Bool.eq_false_iff.2 c, Bool.not_false, Bool.true_or, Bool.not_true]
      refine ev_now (fun k => ?_)
      rw [level_Name.l0, if_pos (by omega), if_pos (by omega), if_pos (by omega)]
      simp only [okN, Bool.or_eq_true, Bool.and_eq_true, decide_eq_true_eq] at c
      (repeat' split) <;> first | rfl | (exfalso; omega)
theorem nameLoopR (s : ByteArray) (hs : s.size ≤ 140737488351232) : ∀ m i : Nat, i + m = s.size → Ev (fun k => keyholeref01_Name.l0 k s (i : Int)) (!anyFrom (fun j => !okR s j) m i) := by
  intro m
  induction m with
  | zero =>
    intro i hi
    refine ev_now (fun k => ?_)
    rw [keyholeref01_Name.l0, if_neg (by omega)]; rfl
  | succ m ih =>
    intro i hi
    have h1 := ih (i + 1) (by omega)
    have e : ((i + 1 : Nat) : Int) = wrap64 ((i : Int) + 1) := by rw [IntWalk.wrap64_in _ (by omega)]; rfl
    rw [e] at h1
    simp only [anyFrom]
    by_cases c : okR s i = true
    · rw [c, Bool.not_true, Bool.false_or]
      refine Ev.step (fun k => ?_) h1
      rw [keyholeref01_Name.l0, if_pos (by omega), if_pos (by omega)]
      simp only [okR, Bool.or_eq_true, Bool.and_eq_true, decide_eq_true_eq] at c
      (repeat' split) <;> first | rfl | (exfalso; omega)
    · rw [Bool.eq_false_iff.2 c, Bool.not_false, Bool.true_or, Bool.not_true]
      refine ev_now (fun k => ?_)
      rw [keyholeref01_Name.l0, if_pos (by omega), if_pos (by omega)]
      simp only [okR, Bool.or_eq_true, Bool.and_eq_true, decide_eq_true_eq] at c
      (repeat' split) <;> first | rfl | (exfalso; omega)
def nameOk (s : ByteArray) : Bool := decide (1 ≤ s.size) && decide (s.size ≤ 16) && !anyFrom (fun j => !okN s j) s.size 0
theorem anyFrom_same {f g : Nat → Bool} : ∀ m i, (∀ j, i ≤ j → f j = g j) → anyFrom f m i = anyFrom g m i := by
  intro m
  induction m with
  | zero => intro i h; rfl
  | succ m ih => intro i h; simp only [anyFrom]; rw [h i (Nat.le_refl _), ih (i + 1) (fun j hj => h j (by omega))]
theorem toList_nil (s : ByteArray) : s.toList = [] ↔ s = ByteArray.empty := Go.toList_nil_iff_emptyBytes s
theorem nameProg (s : ByteArray) (hs : s.size ≤ 140737488351232) : Ev (fun k => level_Name.f k s) (nameOk s) := by
  have h0 := nameLoop s hs s.size 0 (by omega)
  unfold level_Name.f nameOk
  by_cases c : s.toList = ([] : List UInt8)
  · have hz : s.size = 0 := by
      rw [(toList_nil s).1 c]; rfl
    simp only [if_pos c]
    rw [show (decide (1 ≤ s.size) && decide (s.size ≤ 16) && !anyFrom (fun j => !okN s j) s.size 0) = false by rw [decide_eq_false (by omega)]; rfl]
    exact ev_now (fun k => by rw [level_Name.j0, if_pos rfl])
  · have hz : s.size ≠ 0 := by
      intro h; apply c
      refine (toList_nil s).2 ?_
      have h2 : s.data = #[] := Array.eq_empty_of_size_eq_zero h
      cases s
      exact congrArg ByteArray.mk h2
    simp only [if_neg c]
    by_cases c2 : (s.size : Int) > 16
    · rw [show (decide (1 ≤ s.size) && decide (s.size ≤ 16) && !anyFrom (fun j => !okN s j) s.size 0) = false by rw [decide_eq_false (show ¬ s.size ≤ 16 by omega), Bool.and_false]; rfl]
      refine ev_now (fun k => ?_)
      rw [decide_eq_true c2, level_Name.j0, if_pos rfl]
    · rw [decide_eq_true (show 1 ≤ s.size by omega), decide_eq_true (show s.size ≤ 16 by omega), Bool.true_and, Bool.true_and]
      refine Ev.step (fun k => ?_) h0
      rw [decide_eq_false c2, level_Name.j0, if_neg (by simp)]
      rfl
theorem nameRef (s : ByteArray) (hs : s.size ≤ 140737488351232) : Ev (fun k => keyholeref01_Name.f k s) (nameOk s) := by
  have h0 := nameLoopR s hs s.size 0 (by omega)
  unfold keyholeref01_Name.f nameOk
  by_cases c1 : (s.size : Int) < 1
  · simp only [if_pos c1]
    rw [decide_eq_false (show ¬ 1 ≤ s.size by omega)]
    exact ev_now (fun k => by rw [keyholeref01_Name.j0, if_pos rfl]; rfl)
  · simp only [if_neg c1]
    by_cases c2 : (s.size : Int) > 16
    · simp only [if_pos c2]
      rw [decide_eq_false (show ¬ s.size ≤ 16 by omega), Bool.and_false]
      exact ev_now (fun k => by rw [keyholeref01_Name.j0, if_pos rfl]; rfl)
    · simp only [if_neg c2]
      rw [decide_eq_true (show 1 ≤ s.size by omega), decide_eq_true (show s.size ≤ 16 by omega), Bool.true_and, Bool.true_and]
      simp only [if_pos (show (0 : Int) < (s.size : Int) by omega)]
      obtain ⟨m, hm⟩ : ∃ m, s.size = m + 1 := ⟨s.size - 1, by omega⟩
      by_cases c3 : bt s 0 < 97 ∨ bt s 0 > 122
      · have hf : okN s 0 = false := by
          rw [Bool.eq_false_iff]
          intro h
          simp only [okN, Bool.or_eq_true, Bool.and_eq_true, decide_eq_true_eq] at h
          have : ((0 : Nat) : Int) = 0 := rfl
          rw [this] at h
          omega
        rw [hm, anyFrom, hf]
        by_cases c4 : bt s 0 < 97
        · simp only [if_pos c4]
          exact ev_now (fun k => by rw [keyholeref01_Name.j0, if_pos rfl]; rfl)
        · simp only [if_neg c4]
          rw [decide_eq_true (show bt s 0 > 122 by omega)]
          exact ev_now (fun k => by rw [keyholeref01_Name.j0, if_pos rfl]; rfl)
      · simp only [if_neg (show ¬ bt s 0 < 97 by omega)]
        rw [decide_eq_false (show ¬ bt s 0 > 122 by omega)]
        have he : anyFrom (fun j => !okN s j) s.size 0 = anyFrom (fun j => !okR s j) s.size 0 := by
          rw [hm, anyFrom, anyFrom]
          have e0 : okN s 0 = okR s 0 := by
            simp only [okN, okR]
            have : ((0 : Nat) : Int) = 0 := rfl
            rw [this, decide_eq_true (show bt s 0 ≥ 97 by omega), decide_eq_true (show bt s 0 ≤ 122 by omega)]
            rfl
          rw [e0, anyFrom_same (f := fun j => !okN s j) (g := fun j => !okR s j) m 1 (fun j hj => by simp only [okN, okR]; rw [decide_eq_true (show j ≠ 0 by omega), Bool.and_true])]
        rw [he]
        refine Ev.step (fun k => ?_) h0
        rw [keyholeref01_Name.j0, if_neg (by simp)]
        rfl

/-! ### who is found -/
def fi (l : List S36) (s : ByteArray) : Nat → Nat → Option Nat
  | 0, _ => none
  | m + 1, i => if (l.getD i z36).f0.toList = s.toList then some i else fi l s m (i + 1)
theorem findProg (l : List S36) (hl : l.length ≤ maxLen) (s : ByteArray) : ∀ m i : Nat, i + m = l.length → Ev (fun k => auth_Find.l0 k s l (l.length : Int) (i : Int)) (match fi l s m i with | some j => ((j : Int), true) | none => (0, false)) := by
  have hl2 : l.length ≤ 9223372036854775807 := hl
  intro m
  induction m with
  | zero => intro i hi; exact ev_now (fun k => by rw [auth_Find.l0, if_neg (by omega)]; rfl)
  | succ m ih =>
    intro i hi
    have h1 := ih (i + 1) (by omega)
    have e : ((i + 1 : Nat) : Int) = wrap64 ((i : Int) + 1) := by rw [IntWalk.wrap64_in _ (by omega)]; rfl
    rw [e] at h1
    have e2 : rd_T36 l (i : Int) = l.getD i z36 := rfl
    rw [fi]
    by_cases c : (l.getD i z36).f0.toList = s.toList
    · rw [if_pos c]
      exact ev_now (fun k => by rw [auth_Find.l0, if_pos (by omega), if_pos (by omega), if_pos (by omega), e2, if_pos c])
    · rw [if_neg c]
      refine Ev.step (fun k => ?_) h1
      rw [auth_Find.l0, if_pos (by omega), if_pos (by omega), if_pos (by omega), e2, if_neg c]
theorem findLaw (l : List S36) (hl : l.length ≤ maxLen) (s : ByteArray) : ∀ m i : Nat, i + m = l.length → Ev (fun k => keyholelaw02_find.l0 k l s (i : Int)) (match fi l s m i with | some j => (j : Int) | none => -1) := by
  have hl2 : l.length ≤ 9223372036854775807 := hl
  intro m
  induction m with
  | zero => intro i hi; exact ev_now (fun k => by rw [keyholelaw02_find.l0, if_neg (by omega)]; rfl)
  | succ m ih =>
    intro i hi
    have h1 := ih (i + 1) (by omega)
    have e : ((i + 1 : Nat) : Int) = wrap64 ((i : Int) + 1) := by rw [IntWalk.wrap64_in _ (by omega)]; rfl
    rw [e] at h1
    have e2 : rd_T36 l (i : Int) = l.getD i z36 := rfl
    rw [fi]
    by_cases c : (l.getD i z36).f0.toList = s.toList
    · rw [if_pos c]
      exact ev_now (fun k => by rw [keyholelaw02_find.l0, if_pos (by omega), if_pos (by omega), e2, if_pos c])
    · rw [if_neg c]
      refine Ev.step (fun k => ?_) h1
      rw [keyholelaw02_find.l0, if_pos (by omega), if_pos (by omega), e2, if_neg c]
/-- who is found first with the name of the one at i: i itself, or an earlier one -/
theorem fi_le (l : List S36) (s : ByteArray) : ∀ m i j : Nat, i ≤ j → j < i + m → (l.getD j z36).f0.toList = s.toList → ∃ q, fi l s m i = some q ∧ q ≤ j := by
  intro m
  induction m with
  | zero => intro i j h1 h2; omega
  | succ m ih =>
    intro i j h1 h2 h3
    rw [fi]
    by_cases c : (l.getD i z36).f0.toList = s.toList
    · exact ⟨i, by rw [if_pos c], h1⟩
    · rw [if_neg c]
      refine ih (i + 1) j ?_ (by omega) h3
      rcases Nat.lt_or_ge i j with h | h
      · exact h
      · exact absurd (by rwa [show i = j by omega]) c

/-! ### levels that rise -/
def bad (N : Nat) (o : List Int) (k : Nat) : Bool := decide (o.getD k 0 < 0) || decide (o.getD k 0 ≥ (N : Int)) || (decide (k > 0) && decide (o.getD k 0 ≤ o.getD (k - 1) 0))
def rb (N : Nat) (o : List Int) : Bool := anyFrom (bad N o) o.length 0
theorem risingProg (L : Lat) (o : List Int) (hl : o.length ≤ maxLen) : ∀ m k : Nat, k + m = o.length → Ev (fun q => auth_rising.l0 q [L] o o (o.length : Int) (k : Int)) (!anyFrom (bad L.names.length o) m k) := by
  have hl2 : o.length ≤ 9223372036854775807 := hl
  intro m
  induction m with
  | zero => intro i hi; exact ev_now (fun k => by rw [auth_rising.l0, if_neg (by omega)]; rfl)
  | succ m ih =>
    intro i hi
    have h1 := ih (i + 1) (by omega)
    have e : ((i + 1 : Nat) : Int) = wrap64 ((i : Int) + 1) := by rw [IntWalk.wrap64_in _ (by omega)]; rfl
    rw [e] at h1
    have e2 : rd o (i : Int) = o.getD i 0 := rfl
    simp only [anyFrom]
    by_cases c : bad L.names.length o i = true
    · rw [c, Bool.true_or, Bool.not_true]
      refine ev_now (fun k => ?_)
      simp only [bad, Bool.or_eq_true, Bool.and_eq_true, decide_eq_true_eq] at c
      rw [auth_rising.l0, if_pos (by omega), if_pos (by omega), if_pos (by omega), e2]
      simp only [level_Lattice_Is.f, Option.bind_some]
      by_cases c2 : L.is (o.getD i 0) = true
      · rw [if_pos c2]
        simp only [Lat.is, Bool.and_eq_true, decide_eq_true_eq] at c2
        have hi0 : i > 0 := by omega
        have e3 : wrap64 ((i : Int) - 1) = ((i - 1 : Nat) : Int) := by rw [IntWalk.wrap64_in _ (by omega)]; omega
        have e4 : rd o ((i - 1 : Nat) : Int) = o.getD (i - 1) 0 := rfl
        rw [if_pos (by omega), e3, if_pos (by omega), if_pos (by omega), e4, if_pos (by omega)]
      · rw [if_neg c2]
    · rw [Bool.eq_false_iff.2 c, Bool.false_or]
      refine Ev.step (fun k => ?_) h1
      simp only [bad, Bool.or_eq_true, Bool.and_eq_true, decide_eq_true_eq] at c
      rw [auth_rising.l0, if_pos (by omega), if_pos (by omega), if_pos (by omega), e2]
      simp only [level_Lattice_Is.f, Option.bind_some]
      rw [if_pos (by simp only [Lat.is, Bool.and_eq_true, decide_eq_true_eq]; omega)]
      by_cases hi0 : (i : Int) > 0
      · have e3 : wrap64 ((i : Int) - 1) = ((i - 1 : Nat) : Int) := by rw [IntWalk.wrap64_in _ (by omega)]; omega
        have e4 : rd o ((i - 1 : Nat) : Int) = o.getD (i - 1) 0 := rfl
        rw [if_pos hi0, e3, if_pos (by omega), if_pos (by omega), e4, if_neg (by omega)]
      · rw [if_neg hi0]

/-! ### Check -/
theorem ok36 {x : S36} (h : Ok36 x) : x.f0.size ≤ 140737488351232 ∧ x.f1.length ≤ maxLen := by
  cases h with
  | mk h0 h1 h2 h3 => exact ⟨h0, h1⟩
theorem getD_mem {α : Type} {l : List α} {i : Nat} {z : α} (h : i < l.length) : l.getD i z ∈ l := by
  simp [List.getD, List.getElem?_eq_getElem h]
def nb (l : List S36) (j : Nat) : Bool := !nameOk (l.getD j z36).f0 || decide (fi l (l.getD j z36).f0 l.length 0 ≠ some j)
def checkI (N : Nat) (l : List S36) : Int := if l.length > 8 then 10 else cond (anyFrom (nb l) l.length 0) 10 (cond (anyFrom (fun j => rb N (l.getD j z36).f1) l.length 0) 2 0)
theorem check1 (L : Lat) (l : List S36) (hl : l.length ≤ maxLen) (ho : ∀ y ∈ l, Ok36 y) : ∀ m i : Nat, i + m = l.length → Ev (fun k => auth_Check.l1 k [L] l (l.length : Int) (i : Int)) (cond (anyFrom (fun j => rb L.names.length (l.getD j z36).f1) m i) 2 0) := by
  have hl2 : l.length ≤ 9223372036854775807 := hl
  intro m
  induction m with
  | zero => intro i hi; exact ev_now (fun k => by rw [auth_Check.l1, if_neg (by omega)]; rfl)
  | succ m ih =>
    intro i hi
    have h1 := ih (i + 1) (by omega)
    have e : ((i + 1 : Nat) : Int) = wrap64 ((i : Int) + 1) := by rw [IntWalk.wrap64_in _ (by omega)]; rfl
    rw [e] at h1
    have e2 : rd_T36 l (i : Int) = l.getD i z36 := rfl
    have ho2 := ok36 (ho _ (getD_mem (z := z36) (show i < l.length by omega)))
    have h2 := risingProg L (l.getD i z36).f1 ho2.2 _ 0 (Nat.zero_add _)
    refine Ev.step (f := fun k => (auth_rising.f k [L] (l.getD i z36).f1).bind fun t => if t = true then auth_Check.l1 k [L] l (l.length : Int) (wrap64 ((i : Int) + 1)) else some 2) (fun k => by rw [auth_Check.l1, if_pos (by omega), if_pos (by omega), if_pos (by omega), e2]) ?_
    refine Ev.bind h2 ?_
    simp only [anyFrom]
    have hb2 : ∀ b, rb L.names.length (l.getD i z36).f1 = b → anyFrom (bad L.names.length (l.getD i z36).f1) (l.getD i z36).f1.length 0 = b := fun b h => h
    rcases Bool.eq_false_or_eq_true (rb L.names.length (l.getD i z36).f1) with hc | hc
    · rw [hc, hb2 _ hc]
      exact Ev.now _
    · rw [hc, hb2 _ hc, Bool.false_or]
      exact h1
theorem check0 (L : Lat) (l : List S36) (hl : l.length ≤ maxLen) (ho : ∀ y ∈ l, Ok36 y) : ∀ m i : Nat, i + m = l.length → Ev (fun k => auth_Check.l0 k [L] l l (l.length : Int) (i : Int)) (cond (anyFrom (nb l) m i) 10 (cond (anyFrom (fun j => rb L.names.length (l.getD j z36).f1) l.length 0) 2 0)) := by
  have hl2 : l.length ≤ 9223372036854775807 := hl
  intro m
  induction m with
  | zero =>
    intro i hi
    refine Ev.step (fun k => ?_) (check1 L l hl ho l.length 0 (by omega))
    rw [auth_Check.l0, if_neg (by omega)]; rfl
  | succ m ih =>
    intro i hi
    have h1 := ih (i + 1) (by omega)
    have e : ((i + 1 : Nat) : Int) = wrap64 ((i : Int) + 1) := by rw [IntWalk.wrap64_in _ (by omega)]; rfl
    rw [e] at h1
    have e2 : rd_T36 l (i : Int) = l.getD i z36 := rfl
    have ho2 := ok36 (ho _ (getD_mem (z := z36) (show i < l.length by omega)))
    refine Ev.step (f := fun k => (auth_Find.f k l (l.getD i z36).f0).bind fun b => (level_Name.f k (l.getD i z36).f0).bind fun t => if t = true then (if b.1 = (i : Int) then auth_Check.l0 k [L] l l (l.length : Int) (wrap64 ((i : Int) + 1)) else some 10) else some 10) (fun k => by rw [auth_Check.l0, if_pos (by omega), if_pos (by omega), if_pos (by omega), e2]) ?_
    refine Ev.bind (findProg l hl (l.getD i z36).f0 l.length 0 (by omega)) ?_
    refine Ev.bind (nameProg _ ho2.1) ?_
    simp only [anyFrom]
    obtain ⟨q, hq, hqi⟩ := fi_le l (l.getD i z36).f0 l.length 0 i (by omega) (by omega) rfl
    cases hn : nameOk (l.getD i z36).f0 with
    | false =>
      have : nb l i = true := by simp only [nb, hn]; rfl
      rw [this]
      exact Ev.now _
    | true =>
      rw [hq]
      by_cases c : q = i
      · have : nb l i = false := by simp only [nb, hn, hq]; simp [c]
        rw [this, Bool.false_or]
        refine Ev.congr (fun k => ?_) h1
        rw [if_pos rfl, if_pos (by show (q : Int) = (i : Int); omega)]
      · have : nb l i = true := by simp only [nb, hn, hq]; simp [c]
        rw [this]
        refine Ev.congr (f := fun _ => some 10) (fun k => ?_) (Ev.now _)
        rw [if_pos rfl, if_neg (by show ¬ (q : Int) = (i : Int); omega)]
theorem checkProg (L : Lat) (l : List S36) (hl : l.length ≤ maxLen) (ho : ∀ y ∈ l, Ok36 y) : Ev (fun k => auth_Check.f k [L] l) (checkI L.names.length l) := by
  unfold checkI
  by_cases c : l.length > 8
  · rw [if_pos c]
    exact Ev.congr (fun k => by rw [auth_Check.f, if_pos (by omega)]) (Ev.now _)
  · rw [if_neg c]
    refine Ev.congr (fun k => ?_) (check0 L l hl ho l.length 0 (by omega))
    rw [auth_Check.f, if_neg (by omega)]; rfl

/-! ### the lattices -/
def newOk (P : List ByteArray × List S52 × List S36) : Bool := match level_New.f 200 P.1 P.2.1 P.2.2 with
  | some ([L], e) => decide (e = 0) && decide (L.names.length = P.1.length)
  | _ => false
theorem newOk_some (P : List ByteArray × List S52 × List S36) (h : newOk P = true) : ∃ L : Lat, Ev (fun k => level_New.f k P.1 P.2.1 P.2.2) ([L], 0) ∧ L.names.length = P.1.length := by
  unfold newOk at h
  split at h
  · rename_i L e he
    simp only [Bool.and_eq_true, decide_eq_true_eq] at h
    obtain ⟨rfl, hn⟩ := h
    exact ⟨L, Ev.of (level_New.mono _ _ _) he, hn⟩
  · cases h
theorem sorts (a : Int) : ∃ (P : List ByteArray × List S52 × List S36) (L : Lat), keyholeref01_Sort.f a = some P ∧ Ev (fun k => level_New.f k P.1 P.2.1 P.2.2) ([L], 0) ∧ L.names.length = P.1.length := by
  have key : ∀ P : List ByteArray × List S52 × List S36, newOk P = true → ∃ (P' : List ByteArray × List S52 × List S36) (L : Lat), some P = some P' ∧ Ev (fun k => level_New.f k P'.1 P'.2.1 P'.2.2) ([L], 0) ∧ L.names.length = P'.1.length := by
    intro P h
    obtain ⟨L, h1, h2⟩ := newOk_some P h
    exact ⟨P, L, rfl, h1, h2⟩
  unfold keyholeref01_Sort.f
  split
  · exact key _ (by decide +kernel)
  split
  · exact key _ (by decide +kernel)
  split
  · exact key _ (by decide +kernel)
  split
  · exact key _ (by decide +kernel)
  split
  · exact key _ (by decide +kernel)
  · exact key _ (by decide +kernel)
theorem lives_true : Ev (fun k => keyholelaw02_lives.f k) true := Ev.of keyholelaw02_lives.mono (k := 60) (by decide +kernel)
theorem light_some (l : List S36) (hl : l.length ≤ maxLen) : ∃ b, Ev (fun k => keyholelaw02_light.f k l) b := by
  have hl2 : l.length ≤ 9223372036854775807 := hl
  have loop : ∀ m i : Nat, i + m = l.length → ∃ b, Ev (fun k => keyholelaw02_light.l0 k l (i : Int)) b := by
    intro m
    induction m with
    | zero =>
      intro i hi
      refine ⟨decide ((l.length : Int) ≤ 20), Ev.step (f := fun k => keyholelaw02_light.j1 k l (i : Int) false) (fun k => by rw [keyholelaw02_light.l0, if_neg (by omega)]) (ev_now (fun k => ?_))⟩
      rw [keyholelaw02_light.j1, if_neg (by simp)]
    | succ m ih =>
      intro i hi
      obtain ⟨b, h1⟩ := ih (i + 1) (by omega)
      have e : ((i + 1 : Nat) : Int) = wrap64 ((i : Int) + 1) := by rw [IntWalk.wrap64_in _ (by omega)]; rfl
      rw [e] at h1
      by_cases c : (i : Int) < 20
      · by_cases c2 : (((rd_T36 l i).f1).length : Int) > 50
        · refine ⟨false, Ev.step (f := fun k => keyholelaw02_light.j1 k l (i : Int) true) (fun k => by rw [keyholelaw02_light.l0, if_pos (by omega), decide_eq_true c]) (ev_now (fun k => ?_))⟩
          rw [keyholelaw02_light.j1, if_pos rfl, if_pos (by omega), if_pos (by omega), if_pos c2]
        · refine ⟨b, Ev.step (f := fun k => keyholelaw02_light.j1 k l (i : Int) true) (fun k => by rw [keyholelaw02_light.l0, if_pos (by omega), decide_eq_true c]) (Ev.step (fun k => ?_) h1)⟩
          rw [keyholelaw02_light.j1, if_pos rfl, if_pos (by omega), if_pos (by omega), if_neg c2]
      · refine ⟨decide ((l.length : Int) ≤ 20), Ev.step (f := fun k => keyholelaw02_light.j1 k l (i : Int) false) (fun k => by rw [keyholelaw02_light.l0, if_pos (by omega), decide_eq_false c]) (ev_now (fun k => ?_))⟩
        rw [keyholelaw02_light.j1, if_neg (by simp)]
  exact loop l.length 0 (by omega)

/-! ### the law -/
theorem want2 (L : Lat) (l : List S36) (hl : l.length ≤ maxLen) (ho : ∀ y ∈ l, Ok36 y) : ∀ (m i : Nat), i + m = l.length → ∀ w : Int, (cond ((decide (l.length > 8) && decide (m > 0)) || anyFrom (nb l) m i) 10 w) = checkI L.names.length l → Ev (fun k => keyholelaw02_AuthChecks.l2 k l [L] w (i : Int)) true := by
  have hl2 : l.length ≤ 9223372036854775807 := hl
  intro m
  induction m with
  | zero =>
    intro i hi w hw
    have hw2 : checkI L.names.length l = w := by simpa [anyFrom] using hw.symm
    refine Ev.step (f := fun k => (auth_Check.f k [L] l).bind fun t => if t = w then (keyholelaw02_lives.f k).bind fun u => some u else none) (fun k => by rw [keyholelaw02_AuthChecks.l2, if_neg (by omega)]) ?_
    refine Ev.bind (checkProg L l hl ho) ?_
    rw [hw2]
    refine Ev.congr (fun k => by rw [if_pos rfl]) (Ev.bind lives_true (Ev.now true))
  | succ m ih =>
    intro i hi w hw
    have e : ((i + 1 : Nat) : Int) = wrap64 ((i : Int) + 1) := by rw [IntWalk.wrap64_in _ (by omega)]; rfl
    have e2 : rd_T36 l (i : Int) = l.getD i z36 := rfl
    have ho2 := ok36 (ho _ (getD_mem (z := z36) (show i < l.length by omega)))
    by_cases c8 : l.length > 8
    · have hw2 : checkI L.names.length l = 10 := by unfold checkI; rw [if_pos c8]
      have h1 := ih (i + 1) (by omega) 10 (by rw [hw2]; cases ((decide (l.length > 8) && decide (m > 0)) || anyFrom (nb l) m (i + 1)) <;> rfl)
      rw [e] at h1
      exact Ev.step (fun k => by rw [keyholelaw02_AuthChecks.l2, if_pos (by omega), if_pos (by omega)]) h1
    · rw [decide_eq_false c8, Bool.false_and, Bool.false_or, anyFrom] at hw
      obtain ⟨q, hq, hqi⟩ := fi_le l (l.getD i z36).f0 l.length 0 i (by omega) (by omega) rfl
      refine Ev.step (f := fun k => (keyholeref01_Name.f k (l.getD i z36).f0).bind fun t => if t = true then ((keyholelaw02_find.f k l (l.getD i z36).f0).bind fun u => if u = (i : Int) then keyholelaw02_AuthChecks.l2 k l [L] w (wrap64 ((i : Int) + 1)) else keyholelaw02_AuthChecks.l2 k l [L] 10 (wrap64 ((i : Int) + 1))) else keyholelaw02_AuthChecks.l2 k l [L] 10 (wrap64 ((i : Int) + 1))) (fun k => by rw [keyholelaw02_AuthChecks.l2, if_pos (by omega), if_neg (by omega), if_pos (by omega), e2]) ?_
      refine Ev.bind (nameRef _ ho2.1) ?_
      have h10 : nb l i = true → Ev (fun k => keyholelaw02_AuthChecks.l2 k l [L] 10 (wrap64 ((i : Int) + 1))) true := by
        intro hnb
        rw [hnb, Bool.true_or] at hw
        have h1 := ih (i + 1) (by omega) 10 (by rw [← hw]; cases ((decide (l.length > 8) && decide (m > 0)) || anyFrom (nb l) m (i + 1)) <;> rfl)
        rwa [e] at h1
      cases hn : nameOk (l.getD i z36).f0 with
      | false => exact Ev.congr (fun k => by rw [if_neg (by simp)]) (h10 (by simp only [nb, hn]; rfl))
      | true =>
        refine Ev.congr (f := fun k => ((keyholelaw02_find.f k l (l.getD i z36).f0).bind fun u => if u = (i : Int) then keyholelaw02_AuthChecks.l2 k l [L] w (wrap64 ((i : Int) + 1)) else keyholelaw02_AuthChecks.l2 k l [L] 10 (wrap64 ((i : Int) + 1)))) (fun k => by rw [if_pos rfl]) ?_
        refine Ev.bind (findLaw l hl (l.getD i z36).f0 l.length 0 (by omega)) ?_
        rw [hq]
        by_cases c : q = i
        · have hnb : nb l i = false := by simp only [nb, hn, hq]; simp [c]
          rw [hnb, Bool.false_or] at hw
          have h1 := ih (i + 1) (by omega) w (by rw [decide_eq_false c8, Bool.false_and, Bool.false_or]; exact hw)
          rw [e] at h1
          exact Ev.congr (fun k => by rw [if_pos (by show (q : Int) = (i : Int); omega)]) h1
        · exact Ev.congr (fun k => by rw [if_neg (by show ¬ (q : Int) = (i : Int); omega)]) (h10 (by simp only [nb, hn, hq]; simp [c]))
theorem want1 (L : Lat) (l : List S36) (hl : l.length ≤ maxLen) (names : List ByteArray) (pb : List S52) (pp : List S36) (hN : L.names.length = names.length) (i : Nat) (hi : i < l.length) (hol : (l.getD i z36).f1.length ≤ maxLen) : ∀ (m j : Nat), j + m = (l.getD i z36).f1.length → ∀ w : Int,
    Ev (fun k => keyholelaw02_AuthChecks.l0 k l [L] (cond (anyFrom (bad L.names.length (l.getD i z36).f1) m j) 2 w) ((i + 1 : Nat) : Int) names pb pp) true → Ev (fun k => keyholelaw02_AuthChecks.l1 k l [L] w (i : Int) (j : Int) names pb pp) true := by
  have hl2 : l.length ≤ 9223372036854775807 := hl
  have hol2 : (l.getD i z36).f1.length ≤ 9223372036854775807 := hol
  have e2 : (rd_T36 l (i : Int)).f1 = (l.getD i z36).f1 := rfl
  generalize (l.getD i z36).f1 = o at *
  intro m
  induction m with
  | zero =>
    intro j hj w h
    have e : ((i + 1 : Nat) : Int) = wrap64 ((i : Int) + 1) := by rw [IntWalk.wrap64_in _ (by omega)]; rfl
    rw [e] at h
    refine Ev.step (fun k => ?_) h
    rw [keyholelaw02_AuthChecks.l1, if_pos (by omega), if_pos (by omega), e2, if_neg (by omega)]
    rfl
  | succ m ih =>
    intro j hj w h
    have e : ((j + 1 : Nat) : Int) = wrap64 ((j : Int) + 1) := by rw [IntWalk.wrap64_in _ (by omega)]; rfl
    have e5 : rd o (j : Int) = o.getD j 0 := rfl
    have hstep : ∀ w' : Int, (∀ k, keyholelaw02_AuthChecks.l1 (k + 1) l [L] w (i : Int) (j : Int) names pb pp = keyholelaw02_AuthChecks.l1 k l [L] w' (i : Int) (wrap64 ((j : Int) + 1)) names pb pp) → (cond (anyFrom (bad L.names.length o) (m + 1) j) 2 w) = (cond (anyFrom (bad L.names.length o) m (j + 1)) 2 w') → Ev (fun k => keyholelaw02_AuthChecks.l1 k l [L] w (i : Int) (j : Int) names pb pp) true := by
      intro w' h1 h2
      rw [h2] at h
      have h3 := ih (j + 1) (by omega) w' h
      rw [e] at h3
      exact Ev.step h1 h3
    by_cases c : bad L.names.length o j = true
    · refine hstep 2 (fun k => ?_) (by rw [anyFrom, c, Bool.true_or]; cases anyFrom (bad L.names.length o) m (j + 1) <;> rfl)
      simp only [bad, Bool.or_eq_true, Bool.and_eq_true, decide_eq_true_eq] at c
      rw [keyholelaw02_AuthChecks.l1, if_pos (by omega), if_pos (by omega), e2, if_pos (by omega), if_pos (by omega), e5]
      by_cases a1 : o.getD j 0 < 0
      · rw [if_pos a1]
      · rw [if_neg a1]
        by_cases a2 : o.getD j 0 ≥ (names.length : Int)
        · rw [if_pos a2]
        · have hj0 : j > 0 := by omega
          have e3 : wrap64 ((j : Int) - 1) = ((j - 1 : Nat) : Int) := by rw [IntWalk.wrap64_in _ (by omega)]; omega
          have e4 : rd o ((j - 1 : Nat) : Int) = o.getD (j - 1) 0 := rfl
          rw [if_neg a2, if_pos (by omega), e3, if_pos (by omega), if_pos (by omega), e4, if_pos (by omega)]
    · refine hstep w (fun k => ?_) (by rw [anyFrom, Bool.eq_false_iff.2 c, Bool.false_or])
      simp only [bad, Bool.or_eq_true, Bool.and_eq_true, decide_eq_true_eq] at c
      rw [keyholelaw02_AuthChecks.l1, if_pos (by omega), if_pos (by omega), e2, if_pos (by omega), if_pos (by omega), e5, if_neg (by omega), if_neg (by omega)]
      by_cases hj0 : (j : Int) > 0
      · have e3 : wrap64 ((j : Int) - 1) = ((j - 1 : Nat) : Int) := by rw [IntWalk.wrap64_in _ (by omega)]; omega
        have e4 : rd o ((j - 1 : Nat) : Int) = o.getD (j - 1) 0 := rfl
        rw [if_pos hj0, e3, if_pos (by omega), if_pos (by omega), e4, if_neg (by omega)]
      · rw [if_neg hj0]
theorem want0 (L : Lat) (l : List S36) (hl : l.length ≤ maxLen) (ho : ∀ y ∈ l, Ok36 y) (names : List ByteArray) (pb : List S52) (pp : List S36) (hN : L.names.length = names.length) : ∀ (m i : Nat), i + m = l.length → ∀ w : Int,
    Ev (fun k => keyholelaw02_AuthChecks.l2 k l [L] (cond (anyFrom (fun j => rb L.names.length (l.getD j z36).f1) m i) 2 w) ((0 : Nat) : Int)) true → Ev (fun k => keyholelaw02_AuthChecks.l0 k l [L] w (i : Int) names pb pp) true := by
  have hl2 : l.length ≤ 9223372036854775807 := hl
  intro m
  induction m with
  | zero =>
    intro i hi w h
    refine Ev.step (fun k => ?_) h
    rw [keyholelaw02_AuthChecks.l0, if_neg (by omega)]
    rfl
  | succ m ih =>
    intro i hi w h
    have ho2 := ok36 (ho _ (getD_mem (z := z36) (show i < l.length by omega)))
    have h1 : Ev (fun k => keyholelaw02_AuthChecks.l1 k l [L] w (i : Int) ((0 : Nat) : Int) names pb pp) true := by
      refine want1 L l hl names pb pp hN i (by omega) ho2.2 (l.getD i z36).f1.length 0 (by omega) w ?_
      refine ih (i + 1) (by omega) _ ?_
      rw [anyFrom] at h
      have e : (cond (rb L.names.length (l.getD i z36).f1 || anyFrom (fun j => rb L.names.length (l.getD j z36).f1) m (i + 1)) (2 : Int) w) = (cond (anyFrom (fun j => rb L.names.length (l.getD j z36).f1) m (i + 1)) 2 (cond (anyFrom (bad L.names.length (l.getD i z36).f1) (l.getD i z36).f1.length 0) 2 w)) := by
        rw [show anyFrom (bad L.names.length (l.getD i z36).f1) (l.getD i z36).f1.length 0 = rb L.names.length (l.getD i z36).f1 from rfl]
        cases rb L.names.length (l.getD i z36).f1 <;> cases anyFrom (fun j => rb L.names.length (l.getD j z36).f1) m (i + 1) <;> rfl
      rw [← e]
      exact h
    exact Ev.step (fun k => by rw [keyholelaw02_AuthChecks.l0, if_pos (by omega)]; rfl) h1

theorem AuthChecks : keyholelaw02_AuthChecks.Pure := by
  intro a l ha ⟨hl, _, ho⟩
  apply Ev.rounds
  obtain ⟨b, hb⟩ := light_some l hl
  obtain ⟨P, L, hP, hL, hn⟩ := sorts a
  unfold keyholelaw02_AuthChecks.f
  refine Ev.bind hb ?_
  cases b with
  | false => exact Ev.congr (fun k => by rw [if_neg (by simp)]) (Ev.bind lives_true (Ev.now true))
  | true =>
    refine Ev.congr (f := fun k => (level_New.f k P.1 P.2.1 P.2.2).bind fun bt => keyholelaw02_AuthChecks.l0 k l bt.1 0 0 P.1 P.2.1 P.2.2) (fun k => by rw [if_pos rfl, hP]; rfl) ?_
    refine Ev.bind hL ?_
    refine want0 L l hl ho P.1 P.2.1 P.2.2 hn l.length 0 (by omega) 0 ?_
    refine want2 L l hl ho l.length 0 (by omega) _ ?_
    unfold checkI
    by_cases c : l.length > 8
    · rw [if_pos c, decide_eq_true c, decide_eq_true (show l.length > 0 by omega)]
      rfl
    · rw [if_neg c, decide_eq_false c, Bool.false_and, Bool.false_or]
end Go.Proofs.Yteeodnnabogheaa.Pure
