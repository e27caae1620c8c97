import Derived.Test.YtjkdheebgmnpmaaXSJvalSizes
import Derived.IntWalk
namespace Go.Proofs.Ytjkdheebgmnpmaa.Pure
open Go.RowKit Go.Proofs.Ytjkdheebgmnpmaa.X Go.Proofs.YtjkdheebgmnpmaaW.PrintWords Go.Proofs.YtjkdheebgmnpmaaW.PrintLast Go.Proofs.YtjkdheebgmnpmaaW.PrintMore

mutual
/-- how many values a value is -/
def cnt : S27 → Nat
  | ⟨_, _, _, l, _⟩ => 1 + cnts l
def cnts : List S27 → Nat
  | [] => 0
  | x :: l => cnt x + cnts l
end
theorem cnt_eq (x : S27) : cnt x = 1 + cnts x.f3 := by cases x; simp [cnt]
theorem cnts_drop {l : List S27} {i : Nat} (hi : i < l.length) : cnts (l.drop i) = cnt (l.getD i z27) + cnts (l.drop (i + 1)) := by
  rw [List.drop_eq_getElem_cons hi, cnts]
  simp [List.getD, List.getElem?_eq_getElem hi]
theorem cnt_mem {l : List S27} {x : S27} (h : x ∈ l) : cnt x ≤ cnts l := by
  induction l with
  | nil => cases h
  | cons a l ih =>
    rw [cnts]
    rcases List.mem_cons.1 h with rfl | h
    · omega
    · have := ih h
      omega
theorem getD_mem {α : Type} {l : List α} {i : Nat} {z : α} (h : i < l.length) : l.getD i z ∈ l := by
  simp [List.getD, List.getElem?_eq_getElem h]
theorem ok27_items {x : S27} (h : Ok27 x) : x.f3.length ≤ maxLen ∧ ∀ y ∈ x.f3, Ok27 y := by
  cases h with
  | mk h0 h1 h2 h3 h4 h5 => exact ⟨h3, h5⟩

/-- counted on from a, up to m -/
def up (a m : Int) (c : Nat) : Int := if a ≥ m then a else min (a + c) m
theorem up_up (a m : Int) (c d : Nat) : up (up a m c) m d = up a m (c + d) := by
  unfold up; split <;> (try split) <;> omega
theorem up_zero (a m : Int) : up a m 0 = a := by unfold up; split <;> omega

theorem refSize : ∀ (n : Nat) (x : S27), cnt x ≤ n → Ok27 x → ∀ a m : Int, -9223372036854775808 ≤ a → m ≤ 9223372036854775807 →
    Ev (fun k => keyholeref05_Size.f k x.f0 x.f1.f0 x.f1.f1 x.f2 x.f3 x.f4 a m) (up a m (cnt x)) := by
  intro n
  induction n with
  | zero => intro x hx; rw [cnt_eq] at hx; omega
  | succ n ih =>
    intro x hx hok a m ha hm
    obtain ⟨hl, hmem⟩ := ok27_items hok
    have hl2 : x.f3.length ≤ 9223372036854775807 := hl
    have loop : ∀ (j i : Nat), i + j = x.f3.length → ∀ a : Int, -9223372036854775808 ≤ a →
        Ev (fun k => keyholeref05_Size.l0 k a m (i : Int) x.f0 x.f1.f0 x.f1.f1 x.f2 x.f3 x.f4) (up a m (cnts (x.f3.drop i))) := by
      intro j
      induction j with
      | zero =>
        intro i hi a ha
        refine Ev.step (f := fun _ => some a) (fun k => ?_) ?_
        · rw [keyholeref05_Size.l0, if_neg (by omega)]
        · have : x.f3.drop i = [] := List.drop_eq_nil_of_le (by omega)
          rw [this]
          simp only [cnts, up_zero]
          exact Ev.now _
      | succ j ihj =>
        intro i hi a ha
        have hlt : i < x.f3.length := by omega
        have hmemi : x.f3.getD i z27 ∈ x.f3 := getD_mem hlt
        have hc := cnt_mem hmemi
        rw [cnt_eq] at hx
        refine Ev.step (f := fun k => (keyholeref05_Size.f k (rd_T27 x.f3 i).f0 (rd_T27 x.f3 i).f1.f0 (rd_T27 x.f3 i).f1.f1 (rd_T27 x.f3 i).f2 (rd_T27 x.f3 i).f3 (rd_T27 x.f3 i).f4 a m).bind fun t => keyholeref05_Size.l0 k t m ((i + 1 : Nat) : Int) x.f0 x.f1.f0 x.f1.f1 x.f2 x.f3 x.f4) (fun k => ?_) ?_
        · rw [keyholeref05_Size.l0, if_pos (by omega), if_pos (by omega), IntWalk.wrap64_in _ (by omega)]
          rfl
        · have e : rd_T27 x.f3 (i : Int) = x.f3.getD i z27 := rfl
          rw [e]
          refine Ev.bind (ih _ (by omega) (hmem _ hmemi) a m ha hm) ?_
          rw [cnts_drop hlt, ← up_up]
          refine ihj (i + 1) (by omega) _ ?_
          unfold up; split <;> omega
    by_cases hc : a ≥ m
    · refine Ev.step (f := fun _ => some a) (fun k => ?_) ?_
      · rw [keyholeref05_Size.f, if_pos hc]
      · rw [show up a m (cnt x) = a by unfold up; rw [if_pos hc]]
        exact Ev.now _
    · refine Ev.step (f := fun k => keyholeref05_Size.l0 k (a + 1) m ((0 : Nat) : Int) x.f0 x.f1.f0 x.f1.f1 x.f2 x.f3 x.f4) (fun k => ?_) ?_
      · rw [keyholeref05_Size.f, if_neg hc, IntWalk.wrap64_in _ (by omega)]
        rfl
      · have e : up a m (cnt x) = up (a + 1) m (cnts x.f3) := by
          rw [cnt_eq]; unfold up; split <;> split <;> omega
        rw [e]
        exact loop x.f3.length 0 (by omega) (a + 1) (by omega)

theorem progSize : ∀ (n : Nat) (x : S27), cnt x ≤ n → Ok27 x → ∀ m : Int, -9223372036854775808 ≤ m → m ≤ 9223372036854775807 →
    Ev (fun k => jval_Size.f k x.f0 x.f1.f0 x.f1.f1 x.f2 x.f3 x.f4 m) (if m < 1 then 0 else min (cnt x : Int) m) := by
  intro n
  induction n with
  | zero => intro x hx; rw [cnt_eq] at hx; omega
  | succ n ih =>
    intro x hx hok m ha hm
    obtain ⟨hl, hmem⟩ := ok27_items hok
    have hl2 : x.f3.length ≤ 9223372036854775807 := hl
    by_cases hc : m < 1
    · rw [if_pos hc]
      refine Ev.step (f := fun _ => some 0) (fun k => ?_) (Ev.now _)
      rw [jval_Size.f, if_pos hc]
    · rw [if_neg hc]
      have loop : ∀ (j i : Nat), i + j = x.f3.length → ∀ a : Int, 1 ≤ a → a ≤ m →
          Ev (fun k => jval_Size.l0 k m a x.f3 (x.f3.length : Int) (i : Int)) (min (a + cnts (x.f3.drop i)) m) := by
        intro j
        induction j with
        | zero =>
          intro i hi a h1 h2
          refine Ev.step (f := fun _ => some a) (fun k => ?_) ?_
          · rw [jval_Size.l0, if_neg (by omega)]
          · have : x.f3.drop i = [] := List.drop_eq_nil_of_le (by omega)
            rw [this, show min (a + ((cnts [] : Nat) : Int)) m = a by simp [cnts]; omega]
            exact Ev.now _
        | succ j ihj =>
          intro i hi a h1 h2
          have hlt : i < x.f3.length := by omega
          have hmemi : x.f3.getD i z27 ∈ x.f3 := getD_mem hlt
          have hcm := cnt_mem hmemi
          rw [cnt_eq] at hx
          by_cases hae : a ≥ m
          · refine Ev.step (f := fun _ => some a) (fun k => ?_) ?_
            · rw [jval_Size.l0, if_pos (by omega), if_pos (by omega), if_pos (by omega), if_pos hae]
            · rw [show min (a + (cnts (x.f3.drop i) : Int)) m = a by omega]
              exact Ev.now _
          · have hce := cnt_eq (x.f3.getD i z27)
            have hv : (if m - a < 1 then (0 : Int) else min (cnt (x.f3.getD i z27) : Int) (m - a)) = min (cnt (x.f3.getD i z27) : Int) (m - a) := if_neg (by omega)
            refine Ev.step (f := fun k => (jval_Size.f k (rd_T27 x.f3 i).f0 (rd_T27 x.f3 i).f1.f0 (rd_T27 x.f3 i).f1.f1 (rd_T27 x.f3 i).f2 (rd_T27 x.f3 i).f3 (rd_T27 x.f3 i).f4 (m - a)).bind fun t => jval_Size.l0 k m (wrap64 (a + t)) x.f3 (x.f3.length : Int) ((i + 1 : Nat) : Int)) (fun k => ?_) ?_
            · rw [jval_Size.l0, if_pos (by omega), if_pos (by omega), if_pos (by omega), if_neg hae, IntWalk.wrap64_in (m - a) (by omega), IntWalk.wrap64_in ((i : Int) + 1) (by omega)]
              rfl
            · have e : rd_T27 x.f3 (i : Int) = x.f3.getD i z27 := rfl
              rw [e]
              have h3 := ih _ (by omega) (hmem _ hmemi) (m - a) (by omega) (by omega)
              rw [hv] at h3
              refine Ev.bind h3 ?_
              rw [IntWalk.wrap64_in _ (by omega), cnts_drop hlt]
              have h4 := ihj (i + 1) (by omega) (a + min (cnt (x.f3.getD i z27) : Int) (m - a)) (by omega) (by omega)
              rw [show min (a + min (cnt (x.f3.getD i z27) : Int) (m - a) + (cnts (x.f3.drop (i + 1)) : Int)) m = min (a + ((cnt (x.f3.getD i z27) + cnts (x.f3.drop (i + 1)) : Nat) : Int)) m by omega] at h4
              exact h4
      refine Ev.step (f := fun k => jval_Size.l0 k m 1 x.f3 (x.f3.length : Int) ((0 : Nat) : Int)) (fun k => ?_) ?_
      · rw [jval_Size.f, if_neg hc]
        rfl
      · have h5 := loop x.f3.length 0 (by omega) 1 (by omega) (by omega)
        rw [show min (1 + (cnts (x.f3.drop 0) : Int)) m = min (cnt x : Int) m by rw [cnt_eq, List.drop_zero]; omega] at h5
        exact h5

mutual
/-- is nothing deeper than so? -/
def flat : S27 → Int → Bool
  | ⟨_, _, _, l, _⟩, d => if d < 0 then false else flats l (d - 1)
def flats : List S27 → Int → Bool
  | [], _ => true
  | x :: l, d => flat x d && flats l d
end
theorem flat_eq (x : S27) (d : Int) : flat x d = if d < 0 then false else flats x.f3 (d - 1) := by cases x; simp [flat]
theorem flats_drop {l : List S27} {i : Nat} (hi : i < l.length) (d : Int) : flats (l.drop i) d = (flat (l.getD i z27) d && flats (l.drop (i + 1)) d) := by
  rw [List.drop_eq_getElem_cons hi, flats]
  simp [List.getD, List.getElem?_eq_getElem hi]

theorem refFlat : ∀ (n : Nat) (x : S27), cnt x ≤ n → Ok27 x → ∀ d : Int, -1 ≤ d → d ≤ 1000 →
    Ev (fun k => keyholeref05_Flat.f k x.f0 x.f1.f0 x.f1.f1 x.f2 x.f3 x.f4 d) (flat x d) := by
  intro n
  induction n with
  | zero => intro x hx; rw [cnt_eq] at hx; omega
  | succ n ih =>
    intro x hx hok d hd hd2
    obtain ⟨hl, hmem⟩ := ok27_items hok
    have hl2 : x.f3.length ≤ 9223372036854775807 := hl
    rw [flat_eq]
    by_cases hc : d < 0
    · rw [if_pos hc]
      refine Ev.step (f := fun _ => some false) (fun k => ?_) (Ev.now _)
      rw [keyholeref05_Flat.f, if_pos hc]
    · rw [if_neg hc]
      have loop : ∀ (j i : Nat), i + j = x.f3.length →
          Ev (fun k => keyholeref05_Flat.l0 k d (i : Int) x.f0 x.f1.f0 x.f1.f1 x.f2 x.f3 x.f4) (flats (x.f3.drop i) (d - 1)) := by
        intro j
        induction j with
        | zero =>
          intro i hi
          have : x.f3.drop i = [] := List.drop_eq_nil_of_le (by omega)
          rw [this, flats]
          refine Ev.step (f := fun _ => some true) (fun k => ?_) (Ev.now _)
          rw [keyholeref05_Flat.l0, if_neg (by omega)]
        | succ j ihj =>
          intro i hi
          have hlt : i < x.f3.length := by omega
          have hmemi : x.f3.getD i z27 ∈ x.f3 := getD_mem hlt
          have hcm := cnt_mem hmemi
          rw [cnt_eq] at hx
          refine Ev.step (f := fun k => (keyholeref05_Flat.f k (rd_T27 x.f3 i).f0 (rd_T27 x.f3 i).f1.f0 (rd_T27 x.f3 i).f1.f1 (rd_T27 x.f3 i).f2 (rd_T27 x.f3 i).f3 (rd_T27 x.f3 i).f4 (d - 1)).bind fun t => if t = true then keyholeref05_Flat.l0 k d ((i + 1 : Nat) : Int) x.f0 x.f1.f0 x.f1.f1 x.f2 x.f3 x.f4 else some false) (fun k => ?_) ?_
          · rw [keyholeref05_Flat.l0, if_pos (by omega), if_pos (by omega), IntWalk.wrap64_in (d - 1) (by omega), IntWalk.wrap64_in ((i : Int) + 1) (by omega)]
            rfl
          · have e : rd_T27 x.f3 (i : Int) = x.f3.getD i z27 := rfl
            rw [e]
            refine Ev.bind (ih _ (by omega) (hmem _ hmemi) (d - 1) (by omega) (by omega)) ?_
            rw [flats_drop hlt]
            cases flat (x.f3.getD i z27) (d - 1) with
            | true => simpa using ihj (i + 1) (by omega)
            | false => simpa using Ev.now false
      refine Ev.step (f := fun k => keyholeref05_Flat.l0 k d ((0 : Nat) : Int) x.f0 x.f1.f0 x.f1.f1 x.f2 x.f3 x.f4) (fun k => ?_) ?_
      · rw [keyholeref05_Flat.f, if_neg hc]
        rfl
      · exact loop x.f3.length 0 (by omega)

theorem refLight (x : S27) (hok : Ok27 x) (m : Int) (h0 : 0 ≤ m) (h1 : m ≤ 1000) :
    Ev (fun k => keyholeref05_Light.f k x.f0 x.f1.f0 x.f1.f1 x.f2 x.f3 x.f4 m) (decide ((cnt x : Int) ≤ m) && flat x 60) := by
  refine Ev.congr (f := fun k => (keyholeref05_Size.f k x.f0 x.f1.f0 x.f1.f1 x.f2 x.f3 x.f4 0 (m + 1)).bind fun t => if t ≤ m then (keyholeref05_Flat.f k x.f0 x.f1.f0 x.f1.f1 x.f2 x.f3 x.f4 60).bind fun u => some u else some false) (fun k => ?_) ?_
  · rw [keyholeref05_Light.f, IntWalk.wrap64_in _ (by omega)]
  · refine Ev.bind (refSize _ x (Nat.le_refl _) hok 0 (m + 1) (by omega) (by omega)) ?_
    by_cases hc : (cnt x : Int) ≤ m
    · rw [decide_eq_true hc, Bool.true_and]
      refine Ev.congr (f := fun k => (keyholeref05_Flat.f k x.f0 x.f1.f0 x.f1.f1 x.f2 x.f3 x.f4 60).bind fun u => some u) (fun k => ?_) ?_
      · rw [if_pos]
        unfold up; rw [if_neg (by omega)]; omega
      · exact Ev.bind (refFlat _ x (Nat.le_refl _) hok 60 (by omega) (by omega)) (Ev.now _)
    · rw [decide_eq_false hc, Bool.false_and]
      refine Ev.congr (f := fun _ => some false) (fun k => ?_) (Ev.now _)
      rw [if_neg]
      unfold up; rw [if_neg (by omega)]; omega

theorem wf_i64 {m : Int} (h : (Lit.int .i64 m).wf = true) : -9223372036854775808 ≤ m ∧ m ≤ 9223372036854775807 := by
  have h1 : decide (IntKind.i64.min ≤ m ∧ m ≤ IntKind.i64.max) = true := by simpa [Lit.wf] using h
  exact of_decide_eq_true h1
theorem lives_true : Ev (fun k => keyholelaw05_lives.f k) true := Ev.of keyholelaw05_lives.mono (k := 30) (by decide +kernel)

theorem JvalSizes : keyholelaw05_JvalSizes.Pure := by
  intro x m hx hm
  have hm2 := wf_i64 hm
  apply Ev.rounds
  unfold keyholelaw05_JvalSizes.f
  refine Ev.bind (refLight x hx 500 (by omega) (by omega)) ?_
  by_cases hc : (decide ((cnt x : Int) ≤ 500) && flat x 60) = true
  · rw [hc]
    simp only [if_true]
    have hc2 : (cnt x : Int) ≤ 500 := by
      have := (Bool.and_eq_true_iff.1 hc).1
      exact of_decide_eq_true this
    have he : mx 0 (mn m 1000) = max 0 (min m 1000) := by unfold mx mn; split <;> split <;> omega
    refine Ev.bind (refSize _ x (Nat.le_refl _) hx 0 (mx 0 (mn m 1000)) (by omega) (by omega)) ?_
    refine Ev.bind (progSize _ x (Nat.le_refl _) hx m hm2.1 hm2.2) ?_
    have hq : (if m < 1 then (0 : Int) else min (cnt x : Int) m) = up 0 (mx 0 (mn m 1000)) (cnt x) := by
      rw [he]; unfold up; split <;> split <;> omega
    refine Ev.congr (f := fun n => (keyholelaw05_lives.f n).bind fun t => some t) (fun n => if_pos hq) ?_
    exact Ev.bind lives_true (Ev.now _)
  · have hc' := Bool.eq_false_iff.2 hc
    rw [hc']
    simp only [Bool.false_eq_true, if_false]
    exact Ev.bind lives_true (Ev.now _)

end Go.Proofs.Ytjkdheebgmnpmaa.Pure
