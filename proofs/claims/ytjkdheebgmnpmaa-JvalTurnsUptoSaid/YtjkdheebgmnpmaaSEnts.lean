/- Objects as lists of entries: the order of texts; laying in, and looking up. -/
import Derived.Test.YtjkdheebgmnpmaaSJval2
namespace Go.Ab
set_option linter.unusedSectionVars false
set_option linter.unusedVariables false
set_option linter.unusedSimpArgs false

theorem less_eq : ∀ (x y : List UInt8), Op.bytesLess x y = decide (x < y)
  | [], [] => by simp [Op.bytesLess]
  | [], _ :: _ => by simp [Op.bytesLess]
  | _ :: _, [] => by simp [Op.bytesLess]
  | a :: x, b :: y => by
    simp only [Op.bytesLess, less_eq x y]
    by_cases h : a < b <;> by_cases h2 : a = b <;> simp [List.cons_lt_cons_iff, h, h2]

/-- A text stands before another one. -/
def Lt (a b : ByteArray) : Prop := a.toList < b.toList
theorem blt_iff {a b : ByteArray} : bltB a b = true ↔ Lt a b := by simp [bltB, less_eq, Lt]
theorem blt_false {a b : ByteArray} : bltB a b = false ↔ ¬ Lt a b := by rw [← blt_iff]; simp
theorem Lt.irrefl (a : ByteArray) : ¬ Lt a a := List.lt_irrefl _
theorem Lt.trans {a b c : ByteArray} (h : Lt a b) (h' : Lt b c) : Lt a c := List.lt_trans h h'
theorem Lt.tri (a b : ByteArray) : Lt a b ∨ a = b ∨ Lt b a := by
  by_cases h : Lt a b
  · exact .inl h
  · by_cases h2 : Lt b a
    · exact .inr (.inr h2)
    · exact .inr (.inl (bytes_ext (List.le_antisymm (List.not_lt.1 h2) (List.not_lt.1 h))))
theorem Lt.ne {a b : ByteArray} (h : Lt a b) : a ≠ b := fun e => Lt.irrefl b (e ▸ h)
theorem Lt.asymm {a b : ByteArray} (h : Lt a b) : ¬ Lt b a := fun h' => Lt.irrefl a (h.trans h')
theorem eq_beq {a b : ByteArray} : (a.toList == b.toList) = decide (a = b) := bytes_beq a b

abbrev Ents := List (ByteArray × JV)

open Classical in
noncomputable def ins : Ents → ByteArray → JV → Ents
  | [], k, v => [(k, v)]
  | (s, w) :: r, k, v => if Lt s k then (s, w) :: ins r k v else if s = k then (k, v) :: r else (k, v) :: (s, w) :: r
open Classical in
noncomputable def look : Ents → ByteArray → Option JV
  | [], _ => none
  | (s, w) :: r, k => if Lt s k then look r k else if s = k then some w else none

theorem look_ins_same : ∀ (l : Ents) (k : ByteArray) (v : JV), look (ins l k v) k = some v
  | [], k, v => by simp [ins, look, Lt.irrefl]
  | (s, w) :: r, k, v => by
    rw [ins]
    split
    · rename_i h; simp [look, h, look_ins_same r k v]
    · split
      · simp [look, Lt.irrefl]
      · simp [look, Lt.irrefl]

theorem look_ins_other {x k : ByteArray} (h : x ≠ k) : ∀ (l : Ents) (v : JV), look (ins l k v) x = look l x
  | [], v => by
    simp only [ins, look]
    split
    · rfl
    · rw [if_neg (Ne.symm h)]
  | (s, w) :: r, v => by
    rw [ins]
    split
    · simp only [look, look_ins_other h r v]
    · rename_i h1
      split
      · rename_i h2; subst h2
        simp only [look]
        split
        · rfl
        · rw [if_neg (Ne.symm h), if_neg (Ne.symm h)]
      · rename_i h2
        have hks : Lt k s := by rcases Lt.tri s k with a | a | a; exact absurd a h1; exact absurd a h2; exact a
        rw [look]
        split
        · rfl
        · rename_i h3
          rw [if_neg (Ne.symm h)]
          have hxk : Lt x k := by rcases Lt.tri k x with a | a | a; exact absurd a h3; exact absurd a.symm h; exact a
          have hxs := hxk.trans hks
          rw [look, if_neg hxs.asymm, if_neg hxs.ne.symm]

theorem ins_comm {a b : ByteArray} (h : a ≠ b) (v w : JV) : ∀ l : Ents, ins (ins l a v) b w = ins (ins l b w) a v
  | [] => by
    simp only [ins]
    rcases Lt.tri a b with x | x | x
    · rw [if_pos x, if_neg x.asymm, if_neg h.symm]
    · exact absurd x h
    · rw [if_neg x.asymm, if_neg h, if_pos x]
  | (s, u) :: r => by
    have e1 := ins_comm h v w r
    rcases Lt.tri s a with sa | sa | sa <;> rcases Lt.tri s b with sb | sb | sb
    · simp [ins, sa, sb, e1]
    · subst sb; simp [ins, sa, Lt.irrefl]
    · simp [ins, sa, sb.asymm, sb.ne.symm, (sb.trans sa)]
    · subst sa; simp [ins, sb, Lt.irrefl]
    · subst sa; exact absurd sb h
    · subst sa; simp [ins, Lt.irrefl, sb, sb.asymm, sb.ne.symm]
    · simp [ins, sb, sa.asymm, sa.ne.symm, (sa.trans sb)]
    · subst sb; simp [ins, Lt.irrefl, sa, sa.asymm, sa.ne.symm]
    · rcases Lt.tri a b with x | x | x
      · simp [ins, sa.asymm, sa.ne.symm, sb.asymm, sb.ne.symm, x, x.asymm, x.ne, x.ne.symm]
      · exact absurd x h
      · simp [ins, sa.asymm, sa.ne.symm, sb.asymm, sb.ne.symm, x, x.asymm, x.ne, x.ne.symm]

/-- Keys that rise. -/
def Rises : Ents → Prop
  | [] => True
  | [_] => True
  | a :: b :: r => Lt a.1 b.1 ∧ Rises (b :: r)

theorem rises_tail {a : ByteArray × JV} {r : Ents} (h : Rises (a :: r)) : Rises r := by
  cases r with
  | nil => trivial
  | cons b r => exact h.2
theorem rises_all : ∀ {r : Ents} {a : ByteArray × JV}, Rises (a :: r) → ∀ x ∈ r, Lt a.1 x.1
  | [], _, _, _, h => by cases h
  | b :: r, a, h, x, hx => by
    rcases List.mem_cons.1 hx with rfl | hx
    · exact h.1
    · exact h.1.trans (rises_all h.2 x hx)
theorem rises_cons {a : ByteArray × JV} {r : Ents} (h : ∀ x ∈ r, Lt a.1 x.1) (hr : Rises r) : Rises (a :: r) := by
  cases r with
  | nil => trivial
  | cons b r => exact ⟨h b (List.mem_cons_self ..), hr⟩

theorem ins_mem : ∀ {l : Ents} {k : ByteArray} {v : JV} {x : ByteArray × JV}, x ∈ ins l k v → x = (k, v) ∨ x ∈ l
  | [], k, v, x, h => by simp [ins] at h; exact .inl h
  | (s, w) :: r, k, v, x, h => by
    rw [ins] at h
    split at h
    · rcases List.mem_cons.1 h with rfl | h
      · exact .inr (List.mem_cons_self ..)
      · rcases ins_mem h with h | h
        · exact .inl h
        · exact .inr (List.mem_cons_of_mem _ h)
    · split at h
      · rcases List.mem_cons.1 h with rfl | h
        · exact .inl rfl
        · exact .inr (List.mem_cons_of_mem _ h)
      · rcases List.mem_cons.1 h with rfl | h
        · exact .inl rfl
        · exact .inr h

theorem rises_ins : ∀ {l : Ents} (k : ByteArray) (v : JV), Rises l → Rises (ins l k v)
  | [], k, v, _ => by simp [ins, Rises]
  | (s, w) :: r, k, v, h => by
    rw [ins]
    split
    · rename_i hs
      refine rises_cons (fun x hx => ?_) (rises_ins k v (rises_tail h))
      rcases ins_mem hx with rfl | hx
      · exact hs
      · exact rises_all h x hx
    · rename_i h1
      split
      · rename_i h2; subst h2
        exact rises_cons (fun x hx => show Lt s x.1 from rises_all (a := (s, w)) h x hx) (rises_tail h)
      · rename_i h2
        have hks : Lt k s := by rcases Lt.tri s k with a | a | a; exact absurd a h1; exact absurd a h2; exact a
        refine rises_cons (fun x hx => ?_) h
        rcases List.mem_cons.1 hx with rfl | hx
        · exact hks
        · exact hks.trans (rises_all h x hx)

theorem ins_length : ∀ (l : Ents) (k : ByteArray) (v : JV), (ins l k v).length = l.length + (match look l k with | some _ => 0 | none => 1)
  | [], k, v => by simp [ins, look]
  | (s, w) :: r, k, v => by
    rw [ins, look]
    split
    · rw [List.length_cons, ins_length r k v, List.length_cons]; omega
    · split
      · rename_i h; simp
      · rename_i h; simp

theorem look_mem : ∀ {l : Ents}, Rises l → ∀ x ∈ l, look l x.1 = some x.2
  | [], _, x, h => by cases h
  | a :: r, hr, x, hx => by
    obtain ⟨s, w⟩ := a
    rcases List.mem_cons.1 hx with rfl | hx2
    · simp [look, Lt.irrefl]
    · have := rises_all hr x hx2
      rw [look, if_pos this]
      exact look_mem (rises_tail hr) x hx2

theorem blt_dec (a b : ByteArray) : bltB a b = (open Classical in decide (Lt a b)) := by
  by_cases h : Lt a b
  · rw [blt_iff.2 h]; simp [h]
  · rw [blt_false.2 h]; simp [h]

theorem place_look : ∀ (l : Ents) (k : ByteArray), (placeN (l.map Prod.fst) k).2 = (look l k).isSome ∧ (∀ w, look l k = some w → (l.map Prod.snd).getD (placeN (l.map Prod.fst) k).1 JV.zero = w)
  | [], k => by simp [placeN, look]
  | (s, w) :: r, k => by
    have ih := place_look r k
    simp only [List.map_cons, placeN, look]
    by_cases h : Lt s k
    · rw [blt_iff.2 h, if_pos h]
      simpa using ih
    · rw [blt_false.2 h, if_neg h, eq_beq]
      by_cases h2 : s = k
      · simp [h2]
      · simp [h2]

theorem place_ins : ∀ (l : Ents) (k : ByteArray) (v : JV),
    (l.map Prod.snd).take (placeN (l.map Prod.fst) k).1 ++ [v] ++ (l.map Prod.snd).drop (match (placeN (l.map Prod.fst) k).2 with | true => (placeN (l.map Prod.fst) k).1 + 1 | false => (placeN (l.map Prod.fst) k).1) = (ins l k v).map Prod.snd ∧
    (l.map Prod.fst).take (placeN (l.map Prod.fst) k).1 ++ [k] ++ (l.map Prod.fst).drop (match (placeN (l.map Prod.fst) k).2 with | true => (placeN (l.map Prod.fst) k).1 + 1 | false => (placeN (l.map Prod.fst) k).1) = (ins l k v).map Prod.fst
  | [], k, v => by simp [placeN, ins]
  | (s, w) :: r, k, v => by
    have ih := place_ins r k v
    simp only [List.map_cons, placeN, ins]
    by_cases h : Lt s k
    · rw [blt_iff.2 h, if_pos h]
      cases hb : (placeN (r.map Prod.fst) k).2 <;> rw [hb] at ih <;> simpa using ih
    · rw [blt_false.2 h, if_neg h, eq_beq]
      by_cases h2 : s = k
      · simp [h2]
      · simp [h2]

/-- An object with these entries. -/
def objV (c s : Int) (t : ByteArray) (l : Ents) : JV := .mk 6 c s t (l.map Prod.snd) (l.map Prod.fst)

theorem put_obj (c s : Int) (t : ByteArray) (l : Ents) (k : ByteArray) (v : JV) : (objV c s t l).put k v = objV 0 0 ⟨#[]⟩ (ins l k v) := by
  have := place_ins l k v
  simp only [objV, JV.put, List.length_map]
  rw [show ((6 : Int) != 6) = false from rfl, show ((l.length : Int) != l.length) = false by simp]
  exact congr (congrArg (JV.mk 6 0 0 ⟨#[]⟩) this.1) this.2

theorem get_obj (c s : Int) (t : ByteArray) (l : Ents) (k : ByteArray) : (objV c s t l).get k = (match look l k with | some w => (w, true) | none => (.zero, false)) := by
  have := place_look l k
  simp only [objV, JV.get, List.length_map]
  rw [show ((6 : Int) != 6) = false from rfl, show ((l.length : Int) != l.length) = false by simp]
  simp only []
  rw [this.1]
  cases h : look l k with
  | none => rfl
  | some w => simp only [Option.isSome]; rw [this.2 w h]

/-- A value is no object that may be asked, or it has entries. -/
theorem obj_or (o : JV) : (∀ k v, o.put k v = o ∧ o.get k = (.zero, false)) ∨ ∃ c s t l, o = objV c s t l := by
  obtain ⟨k, c, s, t, is, ks⟩ := o
  by_cases h : k = 6 ∧ ks.length = is.length
  · right
    refine ⟨c, s, t, ks.zip is, ?_⟩
    rw [objV, List.map_fst_zip (by omega), List.map_snd_zip (by omega), h.1]
  · left
    intro key v
    simp only [JV.put, JV.get]
    cases b1 : k != 6 with
    | true => simp
    | false =>
      cases b2 : (ks.length : Int) != is.length with
      | true => simp
      | false => exfalso; apply h; simp at b1 b2; exact ⟨b1, by omega⟩
end Go.Ab
