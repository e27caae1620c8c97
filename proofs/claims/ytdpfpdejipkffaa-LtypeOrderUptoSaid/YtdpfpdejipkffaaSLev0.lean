/- Tables of eight rows of eight truths, as functions; the table that a policy's pairs are closed to. -/
import Derived.Test.YtdpfpdejipkffaaSLat0
namespace Go.Ab
set_option linter.unusedVariables false
set_option linter.unusedSimpArgs false

abbrev Tb := Nat → Nat → Bool
def bT (f : Tb) : FV := .ag ((List.range 64).map fun i => .bool (f (i / 8) (i % 8)))
def upd2 (f : Tb) (a b : Nat) (v : Bool) : Tb := fun x y => if x = a ∧ y = b then v else f x y
def zT : Tb := fun _ _ => false

theorem z64 : FV.ag [.bool false, .bool false, .bool false, .bool false, .bool false, .bool false, .bool false, .bool false, .bool false, .bool false, .bool false, .bool false, .bool false, .bool false, .bool false, .bool false, .bool false, .bool false, .bool false, .bool false, .bool false, .bool false, .bool false, .bool false, .bool false, .bool false, .bool false, .bool false, .bool false, .bool false, .bool false, .bool false, .bool false, .bool false, .bool false, .bool false, .bool false, .bool false, .bool false, .bool false, .bool false, .bool false, .bool false, .bool false, .bool false, .bool false, .bool false, .bool false, .bool false, .bool false, .bool false, .bool false, .bool false, .bool false, .bool false, .bool false, .bool false, .bool false, .bool false, .bool false, .bool false, .bool false, .bool false, .bool false] = bT zT := by kernel_rfl
@[simp] theorem bT_ag (f : Tb) : FV.isAg 64 (bT f) = true := by simp [bT]
@[simp] theorem bT_fits (f : Tb) : FV.fits 64 true (bT f) = true := by simp [bT]
theorem bT_cell (f : Tb) {a b : Nat} (ha : a < 8) (hb : b < 8) : FV.cell (bT f) (a * 8 + b) = .bool (f a b) := by
  have h : a * 8 + b < 64 := by omega
  simp [bT, h, show (a * 8 + b) / 8 = a by omega, show (a * 8 + b) % 8 = b by omega]
theorem bT_set (f : Tb) {a b : Nat} (ha : a < 8) (hb : b < 8) (v : Bool) : FV.ag (List.set (FV.toAg (bT f)) (a * 8 + b) (.bool v)) = bT (upd2 f a b v) := by
  unfold bT
  simp only [toAg_ag]
  congr 1
  apply List.ext_getElem (by simp)
  intro i h1 h2
  have hi : i < 64 := by simpa using h2
  rw [List.getElem_set]
  simp only [List.getElem_map, List.getElem_range, upd2]
  by_cases e : a * 8 + b = i
  · subst e
    rw [if_pos rfl, if_pos (by constructor <;> omega)]
  · rw [if_neg e, if_neg (by rintro ⟨h3, h4⟩; omega)]
def Ag8 (f g : Tb) : Prop := ∀ a b, a < 8 → b < 8 → f a b = g a b
theorem bT_eq {f g : Tb} (h : Ag8 f g) : bT f = bT g := by
  unfold bT
  congr 1
  apply List.map_congr_left
  intro i hi
  have : i < 64 := by simpa using hi
  rw [h _ _ (by omega) (by omega)]
theorem bl64 {a b : Nat} (ha : a < 8) (hb : b < 8) : Nat.blt (a * 8 + b) 64 = true := by rw [Nat.blt_eq]; omega

/-- One step: a pair that follows. -/
def stp (f : Tb) (t : Nat × Nat × Nat) : Tb := upd2 f t.1 t.2.2 (f t.1 t.2.2 || (f t.1 t.2.1 && f t.2.1 t.2.2))
def Le (f g : Tb) : Prop := ∀ a b, f a b = true → g a b = true
def Tr (n : Nat) (f : Tb) : Prop := ∀ a b c, a < n → b < n → c < n → f a b = true → f b c = true → f a c = true
theorem Le.refl (f : Tb) : Le f f := fun _ _ h => h
theorem Le.trans {f g h : Tb} (x : Le f g) (y : Le g h) : Le f h := fun a b z => y a b (x a b z)
theorem stp_le (f : Tb) (t : Nat × Nat × Nat) : Le f (stp f t) := fun a b h => by
  unfold stp upd2
  split
  · rename_i e; rw [← e.1, ← e.2, h]; rfl
  · exact h
theorem stp_least {n : Nat} {f h : Tb} {t : Nat × Nat × Nat} (ht : t.1 < n ∧ t.2.1 < n ∧ t.2.2 < n) (hh : Tr n h) (l : Le f h) : Le (stp f t) h := fun a b e => by
  unfold stp upd2 at e
  split at e
  · rename_i q
    rw [q.1, q.2]
    rcases Bool.or_eq_true_iff.1 e with e | e
    · exact l _ _ e
    · rw [Bool.and_eq_true] at e
      exact hh _ _ _ ht.1 ht.2.1 ht.2.2 (l _ _ e.1) (l _ _ e.2)
  · exact l _ _ e
theorem fold_le : ∀ (l : List (Nat × Nat × Nat)) (f : Tb), Le f (l.foldl stp f)
  | [], f => Le.refl f
  | t :: l, f => (stp_le f t).trans (fold_le l _)
theorem fold_least {n : Nat} {h : Tb} (hh : Tr n h) : ∀ (l : List (Nat × Nat × Nat)) (f : Tb), (∀ t ∈ l, t.1 < n ∧ t.2.1 < n ∧ t.2.2 < n) → Le f h → Le (l.foldl stp f) h
  | [], f, _, l => l
  | t :: r, f, hl, l => fold_least hh r _ (fun t h => hl t (List.mem_cons_of_mem _ h)) (stp_least (hl t (List.mem_cons_self ..)) hh l)
theorem sandwich {f g h : Tb} (a : Le f g) (b : Le g h) (c : Ag8 h f) : Ag8 g f := fun x y hx hy => by
  cases hf : f x y with
  | true => exact a _ _ hf
  | false =>
    cases hg : g x y with
    | false => rfl
    | true => have := b _ _ hg; rw [c _ _ hx hy, hf] at this; cases this
theorem fold_fix : ∀ (l : List (Nat × Nat × Nat)) (f : Tb), (∀ t ∈ l, t.1 < 8 ∧ t.2.1 < 8 ∧ t.2.2 < 8) → Ag8 (l.foldl stp f) f → ∀ t ∈ l, f t.1 t.2.1 = true → f t.2.1 t.2.2 = true → f t.1 t.2.2 = true
  | [], f, _, _, t, ht => by cases ht
  | s :: r, f, hl, hA, t, ht => by
    have h1 : Ag8 (stp f s) f := sandwich (stp_le f s) (fold_le r _) hA
    have hs := hl s (List.mem_cons_self ..)
    rcases List.mem_cons.1 ht with rfl | ht
    · intro x y
      have := h1 t.1 t.2.2 hs.1 hs.2.2
      simpa [stp, upd2, x, y] using this
    · have h2 : Ag8 (r.foldl stp (stp f s)) (stp f s) := fun a b ha hb => (hA a b ha hb).trans (h1 a b ha hb).symm
      have := fold_fix r _ (fun t h => hl t (List.mem_cons_of_mem _ h)) h2 t ht
      have q := hl t (List.mem_cons_of_mem _ ht)
      rwa [h1 _ _ q.1 q.2.1, h1 _ _ q.2.1 q.2.2, h1 _ _ q.1 q.2.2] at this

def tri (a b c m : Nat) : List (Nat × Nat × Nat) := (List.range' c m).map fun c => (a, b, c)
def tri2 (n a b m : Nat) : List (Nat × Nat × Nat) := (List.range' b m).flatMap fun b => tri a b 0 n
def tri3 (n a m : Nat) : List (Nat × Nat × Nat) := (List.range' a m).flatMap fun a => tri2 n a 0 n
theorem tri3_mem {n : Nat} {t : Nat × Nat × Nat} : t ∈ tri3 n 0 n ↔ t.1 < n ∧ t.2.1 < n ∧ t.2.2 < n := by
  obtain ⟨a, b, c⟩ := t
  simp only [tri3, tri2, tri, List.mem_flatMap, List.mem_map, List.mem_range'_1, Prod.mk.injEq]
  constructor
  · rintro ⟨x, hx, y, hy, z, hz, rfl, rfl, rfl⟩
    exact ⟨by omega, by omega, by omega⟩
  · rintro ⟨h1, h2, h3⟩
    exact ⟨a, by omega, b, by omega, c, by omega, rfl, rfl, rfl⟩
def pass (n : Nat) (f : Tb) : Tb := (tri3 n 0 n).foldl stp f

/-- The closure of a table under what follows. -/
structure Clo (n : Nat) (f g : Tb) : Prop where
  le : Le f g
  tr : Tr n g
  least : ∀ h, Le f h → Tr n h → Le g h
theorem Clo.uniq {n : Nat} {f g h : Tb} (x : Clo n f g) (y : Clo n f h) : ∀ a b, g a b = h a b := fun a b => by
  rw [Bool.eq_iff_iff]
  exact ⟨fun e => x.least h y.le y.tr a b e, fun e => y.least g x.le x.tr a b e⟩

def cnt (f : Tb) : Nat := ((List.range 64).filter fun i => f (i / 8) (i % 8)).length
theorem cnt_le (f : Tb) : cnt f ≤ 64 := by
  have := List.length_filter_le (fun i => f (i / 8) (i % 8)) (List.range 64)
  simpa [cnt] using this
theorem filt_lt {p q : Nat → Bool} : ∀ (l : List Nat), (∀ i ∈ l, p i = true → q i = true) → (∃ i ∈ l, p i = false ∧ q i = true) → (l.filter p).length < (l.filter q).length
  | [], _, ⟨_, h, _⟩ => by cases h
  | i :: l, h, hx => by
    have le : (l.filter p).length ≤ (l.filter q).length := by
      clear hx
      induction l with
      | nil => simp
      | cons j l ih =>
        have ih' := ih (fun k hk => h k (by rcases List.mem_cons.1 hk with rfl | hk; exact List.mem_cons_self ..; exact List.mem_cons_of_mem _ (List.mem_cons_of_mem _ hk)))
        have hj := h j (by simp)
        simp only [List.filter_cons]
        cases hp : p j with
        | true => rw [hj hp]; simpa using ih'
        | false => cases hq : q j <;> simp <;> omega
    simp only [List.filter_cons]
    cases hp : p i with
    | true =>
      rw [h i (by simp) hp]
      obtain ⟨k, hk, h1, h2⟩ := hx
      rcases List.mem_cons.1 hk with rfl | hk
      · rw [hp] at h1; cases h1
      · have := filt_lt l (fun j hj => h j (List.mem_cons_of_mem _ hj)) ⟨k, hk, h1, h2⟩
        simpa using this
    | false =>
      cases hq : q i with
      | true => simp; omega
      | false =>
        obtain ⟨k, hk, h1, h2⟩ := hx
        rcases List.mem_cons.1 hk with rfl | hk
        · rw [hq] at h2; cases h2
        · have := filt_lt l (fun j hj => h j (List.mem_cons_of_mem _ hj)) ⟨k, hk, h1, h2⟩
          simpa using this
theorem cnt_lt {f g : Tb} (l : Le f g) (h : ¬ Ag8 g f) : cnt f < cnt g := by
  refine filt_lt _ (fun i _ => l _ _) ?_
  simp only [Ag8] at h
  apply Classical.byContradiction
  intro hc
  apply h
  intro a b ha hb
  cases hf : f a b with
  | true => exact l _ _ hf
  | false =>
    cases hg : g a b with
    | false => rfl
    | true =>
      refine absurd ⟨a * 8 + b, ?_, ?_, ?_⟩ hc
      · simp; omega
      · rw [show (a * 8 + b) / 8 = a by omega, show (a * 8 + b) % 8 = b by omega]; exact hf
      · rw [show (a * 8 + b) / 8 = a by omega, show (a * 8 + b) % 8 = b by omega]; exact hg

theorem eks_bT (f g : Tb) : eksOk (List.replicate 64 .bool) (FV.toAg (bT f)) = true := by
  have : ∀ (l : List Bool), eksOk (List.replicate l.length .bool) (l.map .bool) = true := by
    intro l
    induction l with
    | nil => rfl
    | cons a l ih => simpa [List.replicate_succ, eksOk, ekOk] using ih
  have h := this ((List.range 64).map fun i => f (i / 8) (i % 8))
  simpa [bT, Function.comp_def] using h
theorem eksEq_bT (f g : Tb) : eksEq (List.replicate 64 .bool) (FV.toAg (bT f)) (FV.toAg (bT g)) = true ↔ Ag8 f g := by
  have : ∀ (l : List Nat), eksEq (List.replicate l.length .bool) (l.map fun i => .bool (f (i / 8) (i % 8))) (l.map fun i => .bool (g (i / 8) (i % 8))) = true ↔ ∀ i ∈ l, f (i / 8) (i % 8) = g (i / 8) (i % 8) := by
    intro l
    induction l with
    | nil => simp [eksEq]
    | cons a l ih => simp [List.replicate_succ, eksEq, ekEq, ih]
  have h := this (List.range 64)
  simp only [List.length_range] at h
  simp only [bT, toAg_ag]
  rw [h]
  constructor
  · intro h a b ha hb
    have := h (a * 8 + b) (by simp; omega)
    rwa [show (a * 8 + b) / 8 = a by omega, show (a * 8 + b) % 8 = b by omega] at this
  · intro h i hi
    have : i < 64 := by simpa using hi
    exact h _ _ (by omega) (by omega)
end Go.Ab
