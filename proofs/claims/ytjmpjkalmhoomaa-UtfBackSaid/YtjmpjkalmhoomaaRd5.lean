/- utf.Unquote, by hand. -/
import Derived.Test.YtjmpjkalmhoomaaRd4
import Derived.Test.YtjmpjkalmhoomaaPrimQ
namespace Go.Ab
open Go.Proofs Go.RowKit
/-- What utf.Unquote gives. -/
def unqL (t : List UInt8) : List UInt8 × Int :=
  if t.length < 2 ∨ t.getD 0 0 ≠ 34 ∨ t.getD (t.length - 1) 0 ≠ 34 then ([], 3)
  else match allN ((t.take (t.length - 1)).drop 1).length ((t.take (t.length - 1)).drop 1) [] false with
    | none => ([], 3)
    | some p => if p.2 = true ∨ (signsL p.1).isSome = false then ([], 7) else (p.1, 0)
theorem unqL_short {t : List UInt8} (h : t.length < 2) : unqL t = ([], 3) := by unfold unqL; rw [if_pos (.inl h)]
theorem unqL_eq (a z : UInt8) (m : List UInt8) : unqL (a :: (m ++ [z])) = if a ≠ 34 ∨ z ≠ 34 then ([], (3 : Int))
  else match allN m.length m [] false with
    | none => ([], 3)
    | some p => if p.2 = true ∨ (signsL p.1).isSome = false then ([], 7) else (p.1, (0 : Int)) := by
  have e1 : ((a :: (m ++ [z])).take ((a :: (m ++ [z])).length - 1)).drop 1 = m := by simp
  have e2 : (a :: (m ++ [z])).getD ((a :: (m ++ [z])).length - 1) 0 = z := by simp
  have e3 : (a :: (m ++ [z])).getD 0 0 = a := rfl
  have e4 : ¬ (a :: (m ++ [z])).length < 2 := by simp
  unfold unqL
  rw [e1, e2, e3]
  by_cases g : a ≠ 34 ∨ z ≠ 34
  · rw [if_pos (.inr g), if_pos g]
  · rw [if_neg (by rintro (h | h); exact e4 h; exact g h), if_neg g]
def unqAns (t : List UInt8) : Value := .tuple #[.string ⟨(unqL t).1.toArray⟩, .int .i64 (unqL t).2]
theorem fresh_rd (body : List UInt8) (w : World) : RD w.heap.size w.heap.size body [] false (w.alloc (.cells #[.string ⟨body.toArray⟩, .pointer none, .slice none 0 0, .bool false] 50)) :=
  ⟨#[.string ⟨body.toArray⟩, .pointer none, .slice none 0 0, .bool false], .inl ⟨Nat.le_refl _, heap_alloc_new w _, rfl, .slice none 0 0, rfl, ⟨rfl, .inl ⟨rfl, rfl⟩⟩, by simp [Value.ownBlock], fun _ => rfl⟩, rfl, rfl, rfl⟩
theorem ends_of : ∀ (t : List UInt8), ¬ t.length < 2 → ∃ a m z, t = a :: (m ++ [z])
  | [], h => absurd (by simp) h
  | [_], h => absurd (by simp) h
  | a :: b :: r, _ => ⟨a, (b :: r).dropLast, (b :: r).getLast (by simp), by rw [List.dropLast_concat_getLast]⟩
theorem byte_at (l : List UInt8) (i : Nat) (x : UInt8) (h : l[i]? = some x) (hi : i < ({ data := l.toArray } : ByteArray).size) : ({ data := l.toArray } : ByteArray)[i] = x := by
  obtain ⟨h1, h2⟩ := List.getElem?_eq_some_iff.1 h
  exact h2
theorem allN_len : ∀ (n : Nat) {rest out o : List UInt8} {lone l : Bool}, allN n rest out lone = some (o, l) → o.length ≤ out.length + rest.length
  | 0, rest, out, o, lone, l, h => by simp only [allN] at h; cases h; omega
  | n + 1, [], out, o, lone, l, h => by simp only [allN] at h; cases h; omega
  | n + 1, c :: r, out, o, lone, l, h => by
    simp only [allN] at h
    split at h
    · cases h
    · split at h
      · cases he : escL r out lone with
        | none => rw [he] at h; cases h
        | some p =>
          rw [he] at h
          obtain ⟨r', o', l'⟩ := p
          have := allN_len n (rest := r') (out := o') (lone := l') h
          have := escL_len he
          simp only [List.length_cons]; omega
      · have := allN_len n h
        simp only [List.length_append, List.length_cons, List.length_nil] at this ⊢; omega
set_option maxHeartbeats 4000000 in
set_option maxRecDepth 1000000 in
theorem unquote_walk (t : List UInt8) (w : World) (ht : t.length ≤ 1099511627776) (hG : GlobOK Try.prog w (fun b => b < w.heap.size)) :
    Calls Try.prog 16 #[.string ⟨t.toArray⟩] w fun e w' => e = .returned (unqAns t) ∧ Below w.heap.size w w' := by
  go_enter Try.func16, Try.ntmps16
  have hsz : (⟨t.toArray⟩ : ByteArray).size = t.length := rfl
  by_cases g0 : t.length < 2
  · have hA : unqAns t = .tuple #[.string ⟨#[]⟩, .int .i64 3] := by unfold unqAns; rw [unqL_short g0]
    go_wp2
    all_goals (
      go_ret2
      try rw [hA]
      exact ⟨rfl, Below.refl _ _⟩)
  · obtain ⟨a, m, z, rfl⟩ := ends_of t g0
    have hl : (a :: (m ++ [z])).length = m.length + 2 := by simp
    rw [hl] at hsz ht
    clear g0
    have a0 : ({ data := (a :: (m ++ [z])).toArray } : ByteArray)[0]'(by rw [hsz]; omega) = a := rfl
    have a1 : ({ data := (a :: (m ++ [z])).toArray } : ByteArray)[m.length + 1]'(by rw [hsz]; exact Nat.lt_succ_self _) = z := byte_at _ _ _ (by simp) _
    have hex : ({ data := (a :: (m ++ [z])).toArray } : ByteArray).extract 1 (m.length + 1) = ⟨m.toArray⟩ := by
      apply ByteArray.ext
      rw [ByteArray.data_extract]
      apply Array.toList_inj.1
      simp
    have hb0 : decide ((m.length : Int) + 2 < 2) = false := decide_eq_false (by omega)
    by_cases ga : a = 34
    case neg =>
      have hA : unqAns (a :: (m ++ [z])) = .tuple #[.string ⟨#[]⟩, .int .i64 3] := by unfold unqAns; rw [unqL_eq, if_pos (.inl ga)]
      have g1' : ¬ ((a.toNat : Nat) : Int) = 34 := fun e => ga (UInt8.toNat_inj.1 (by show a.toNat = 34; omega))
      clear ga
      go_wp2
      all_goals (
        go_ret2
        try rw [hA]
        exact ⟨rfl, Below.refl _ _⟩)
    subst ga
    by_cases gz : z = 34
    case neg =>
      have hA : unqAns (34 :: (m ++ [z])) = .tuple #[.string ⟨#[]⟩, .int .i64 3] := by unfold unqAns; rw [unqL_eq, if_pos (.inr gz)]
      have g1' : ¬ ((z.toNat : Nat) : Int) = 34 := fun e => gz (UInt8.toNat_inj.1 (by show z.toNat = 34; omega))
      have hb1 : (((z.toNat : Nat) : Int) != 34) = true := bne_iff_ne.2 g1'
      clear gz
      go_wp2
      all_goals (
        go_ret2
        try rw [hA]
        exact ⟨rfl, Below.refl _ _⟩)
    subst gz
    have g1 : ¬ ((34 : UInt8) ≠ 34 ∨ (34 : UInt8) ≠ 34) := by simp
    have hsl := fun wx : World => run_slice_string (P := Try.prog) wx 9 ⟨(34 :: (m ++ [34])).toArray⟩ .i64 .i64 (1 : Int) ((m.length : Int) + 2 - 1) Try.underlying9 (by omega) (by omega) (by rw [hsz]; omega)
    have e1 : (1 : Int).toNat = 1 := rfl
    have e2 : ((m.length : Int) + 2 - 1).toNat = m.length + 1 := by omega
    simp only [e1, e2, hex] at hsl
    · have hfr := fresh_rd m w
      have hbw := (Below.refl w.heap.size w).alloc (Nat.le_refl _) (.cells #[.string ⟨m.toArray⟩, .pointer none, .slice none 0 0, .bool false] 50)
      have hlt := alloc_lt w (.cells #[.string ⟨m.toArray⟩, .pointer none, .slice none 0 0, .bool false] 50)
      have hc := all_walk hfr (by show 0 + m.length ≤ _; omega)
      cases he : allN m.length m [] false with
      | none =>
        have hA : unqAns (34 :: (m ++ [34])) = .tuple #[.string ⟨#[]⟩, .int .i64 3] := by unfold unqAns; rw [unqL_eq, if_neg g1, he]
        rw [he] at hc
        clear e1 e2 g1 hfr hex hl a0
        have hc' := hc.mono fun e w' (h : AllPost _ _ none _ e w') => (show e = .returned (.bool false) ∧ Below w.heap.size _ w' from ⟨h.2.2, h.1⟩)
        go_wp2_with (first | (go_at_call 23; refine hc'.mono ?_; rintro e w2 ⟨rfl, b2⟩))
        all_goals (
          go_ret2
          try rw [hA]
          exact ⟨rfl, hbw.trans b2⟩)
      | some p =>
        obtain ⟨o, l⟩ := p
        have hun : unqL (34 :: (m ++ [34])) = if l = true ∨ (signsL o).isSome = false then ([], 7) else (o, 0) := by rw [unqL_eq, if_neg g1, he]
        have hol := allN_len _ he
        rw [he] at hc
        clear e1 e2 g1 hfr hex hl a0
        have hc' := hc.mono fun e w' (h : AllPost _ _ (some (o, l)) _ e w') => (show e = .returned (.bool true) ∧ RD w.heap.size w.heap.size [] o l w' ∧ Below w.heap.size _ w' ∧ _ from ⟨h.2.2.1, h.2.2.2, h.1, h.2.1⟩)
        clear hc
        have hstr : ∀ w2 : World, RD w.heap.size w.heap.size [] o l w2 → Calls Try.prog 21 #[.pointer (some ⟨w.heap.size, 1, none⟩)] w2 fun e w' => e = .returned (.string ⟨o.toArray⟩) ∧ Below w.heap.size w2 w' ∧ w'.heap[w.heap.size]? = w2.heap[w.heap.size]? := by
          rintro w2 ⟨cs, hI, _⟩
          exact (E_String Try.lays169 Try.Builder_Extra_169 (T := 50) hI).mono fun e w' h => ⟨h.1, h.2.1, h.2.2 (Nat.le_refl _)⟩
        cases l with
        | true =>
          have hA : unqAns (34 :: (m ++ [34])) = .tuple #[.string ⟨#[]⟩, .int .i64 7] := by unfold unqAns; rw [hun, if_pos (.inl rfl)]
          clear hun he hol
          go_wp2_with (go_at_call 23; refine hc'.mono ?_)
          rintro e w2 ⟨rfl, h2, b2, z2⟩
          have hs := hstr w2 h2
          clear hc' hstr
          go_wp2_with (go_at_call 21; refine hs.mono ?_)
          rintro e w3 ⟨rfl, b3, hk⟩
          have c3 : w3.cell? ⟨w.heap.size, 3, none⟩ = some (.bool true) := (cell_same hk).trans h2.cell3
          have f3 := (frozen_same (o := 3) hk).trans (h2.frozen 3)
          go_wp2
          all_goals (
            go_ret2
            try rw [hA]
            exact ⟨rfl, (hbw.trans b2).trans b3⟩)
        | false =>
          cases hv : (signsL o).isSome with
          | false =>
            have hA : unqAns (34 :: (m ++ [34])) = .tuple #[.string ⟨#[]⟩, .int .i64 7] := by unfold unqAns; rw [hun, if_pos (.inr hv)]
            clear hun he
            go_wp2_with (go_at_call 23; refine hc'.mono ?_)
            rintro e w2 ⟨rfl, h2, b2, z2⟩
            have hs := hstr w2 h2
            clear hc' hstr
            go_wp2_with (go_at_call 21; refine hs.mono ?_)
            rintro e w3 ⟨rfl, b3, hk⟩
            have c3 : w3.cell? ⟨w.heap.size, 3, none⟩ = some (.bool false) := (cell_same hk).trans h2.cell3
            have f3 := (frozen_same (o := 3) hk).trans (h2.frozen 3)
            have b03 := (hbw.trans b2).trans b3
            have hcv := call_valid ⟨o.toArray⟩ (by show o.length ≤ _; simp only [List.length_nil] at hol; omega) w3 (glob_below hG b03)
            have hv' : (signsL (⟨o.toArray⟩ : ByteArray).data.toList).isSome = false := hv
            rw [hv'] at hcv
            clear hv hv'
            go_wp2_with (first | (go_at_call 13; refine hcv.mono ?_; rintro e w4 ⟨rfl, b4⟩))
            all_goals (
              go_ret2
              try rw [hA]
              exact ⟨rfl, b03.trans (below_down b03.size b4)⟩)
          | true =>
            have hA : unqAns (34 :: (m ++ [34])) = .tuple #[.string ⟨o.toArray⟩, .int .i64 0] := by unfold unqAns; rw [hun, if_neg (by rw [hv]; simp)]
            clear hun he
            go_wp2_with (go_at_call 23; refine hc'.mono ?_)
            rintro e w2 ⟨rfl, h2, b2, z2⟩
            have hs := hstr w2 h2
            clear hc' hstr
            go_wp2_with (go_at_call 21; refine hs.mono ?_)
            rintro e w3 ⟨rfl, b3, hk⟩
            have c3 : w3.cell? ⟨w.heap.size, 3, none⟩ = some (.bool false) := (cell_same hk).trans h2.cell3
            have f3 := (frozen_same (o := 3) hk).trans (h2.frozen 3)
            have b03 := (hbw.trans b2).trans b3
            have hcv := call_valid ⟨o.toArray⟩ (by show o.length ≤ _; simp only [List.length_nil] at hol; omega) w3 (glob_below hG b03)
            have hv' : (signsL (⟨o.toArray⟩ : ByteArray).data.toList).isSome = true := hv
            rw [hv'] at hcv
            clear hv hv'
            go_wp2_with (first | (go_at_call 13; refine hcv.mono ?_; rintro e w4 ⟨rfl, b4⟩))
            all_goals (
              go_ret2
              try rw [hA]
              exact ⟨rfl, b03.trans (below_down b03.size b4)⟩)
/-- What utf.Unquote answers. -/
def unquoteP (ts : List TV) : Option Ans := match ts with
  | [.fz (.str s)] => when (Nat.ble s.size 1099511627776) (some ([.fz (.str ⟨(unqL s.data.toList).1.toArray⟩), .fz (.int .i64 (unqL s.data.toList).2)], []))
  | _ => none
theorem unquote_prim : ∀ ts r, unquoteP ts = some r → CallOK Try.prog 16 ts r := by
  intro ts r e
  unfold unquoteP at e
  split at e
  · rename_i s
    obtain ⟨hg, e⟩ := when_some e
    have hs := Nat.le_of_ble_eq_true hg
    cases e
    intro W S args Bs hlt hglob hT
    obtain ⟨x, rfl, rfl, R⟩ := repTs_one hT
    cases R
    refine (unquote_walk s.data.toList W (by rw [Array.length_toList]; exact hs) (hglob.mono hlt fun _ _ => rfl)).mono fun ex W' hp => ?_
    obtain ⟨rfl, b⟩ := hp
    exact ans_two (fun t ht => by rcases List.mem_singleton.1 ht with rfl; exact ⟨_, rfl⟩) rfl hlt b (.str _) (.int _ _)
  · cases e
def A_unquote : AFunc := ⟨1, [], .skip, some unquoteP⟩
end Go.Ab
