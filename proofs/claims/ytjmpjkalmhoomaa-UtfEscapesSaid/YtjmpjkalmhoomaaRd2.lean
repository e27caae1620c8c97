/- The reader's methods, by hand: pair. -/
import Derived.Test.YtjmpjkalmhoomaaRd
namespace Go.Ab
open Go.Proofs Go.RowKit
/-- A reader: what is left, what was read, whether a surrogate stood alone. -/
def RD (B b : Nat) (rest out : List UInt8) (lone : Bool) (w : World) : Prop :=
  ∃ cs, IsE 50 5 B b 1 cs (Lib.byteCells out) w ∧ cs.size = 4 ∧ cs[0]? = some (.string ⟨rest.toArray⟩) ∧ cs[3]? = some (.bool lone)
theorem RD.heap {B b : Nat} {rest out : List UInt8} {lone : Bool} {w : World} (h : RD B b rest out lone w) : B ≤ b ∧ b < w.heap.size := by
  obtain ⟨cs, h | h, _⟩ := h
  · exact ⟨h.1, (Array.getElem?_eq_some_iff.1 h.2.1).1⟩
  · exact ⟨h.1, (Array.getElem?_eq_some_iff.1 h.2.1).1⟩
theorem IsE.block {T e B b o : Nat} {cs : Array Value} {bs : List Value} {w : World} (h : IsE T e B b o cs bs w) : w.heap[b]? = some (.cells cs T (0, 0)) := h.elim (fun h => h.2.1) (fun h => h.2.1)
theorem RD.cell0 {B b : Nat} {rest out : List UInt8} {lone : Bool} {w : World} (h : RD B b rest out lone w) : w.cell? ⟨b, 0, none⟩ = some (.string ⟨rest.toArray⟩) := by
  obtain ⟨cs, h, _, h0, _⟩ := h
  rw [Lib.cell_of_heap h.block]; exact h0
theorem RD.cell3 {B b : Nat} {rest out : List UInt8} {lone : Bool} {w : World} (h : RD B b rest out lone w) : w.cell? ⟨b, 3, none⟩ = some (.bool lone) := by
  obtain ⟨cs, h, _, _, h3⟩ := h
  rw [Lib.cell_of_heap h.block]; exact h3
theorem RD.frozen {B b : Nat} {rest out : List UInt8} {lone : Bool} {w : World} (h : RD B b rest out lone w) (j : Nat) : w.frozen? ⟨b, j, none⟩ = false := by
  obtain ⟨cs, h, _⟩ := h
  exact Lib.frozen_of_heap h.block j
theorem BldE.store {T e B b o : Nat} {cs : Array Value} {p : Value} {bs : List Value} {w : World} (h : BldE T e B b o cs p bs w) (i : Nat) (x : Value) (h1 : i ≠ o) (h2 : i ≠ o + 1) : BldE T e B b o (cs.setIfInBounds i x) p bs (w.setCell ⟨b, i, none⟩ x) := by
  obtain ⟨hB, hb, h0, v, hv, hown, hne, hnil⟩ := h
  exact ⟨hB, set_heap hb, by rw [Array.getElem?_setIfInBounds_ne h1]; exact h0, v, by rw [Array.getElem?_setIfInBounds_ne h2]; exact hv, own_set hown hne, hne, hnil⟩
theorem RD.set0 {B b : Nat} {rest out : List UInt8} {lone : Bool} {w : World} (h : RD B b rest out lone w) (r : List UInt8) : RD B b r out lone (w.setCell ⟨b, 0, none⟩ (.string ⟨r.toArray⟩)) := by
  obtain ⟨cs, h, hs, h0, h3⟩ := h
  refine ⟨cs.setIfInBounds 0 (.string ⟨r.toArray⟩), h.imp (·.store 0 _ (by omega) (by omega)) (·.store 0 _ (by omega) (by omega)), by simpa using hs, by simp [hs], by rw [Array.getElem?_setIfInBounds_ne (by omega)]; exact h3⟩
theorem RD.set3 {B b : Nat} {rest out : List UInt8} {lone : Bool} {w : World} (h : RD B b rest out lone w) (x : Bool) : RD B b rest out x (w.setCell ⟨b, 3, none⟩ (.bool x)) := by
  obtain ⟨cs, h, hs, h0, h3⟩ := h
  refine ⟨cs.setIfInBounds 3 (.bool x), h.imp (·.store 3 _ (by omega) (by omega)) (·.store 3 _ (by omega) (by omega)), by simpa using hs, by rw [Array.getElem?_setIfInBounds_ne (by omega)]; exact h0, by simp [hs]⟩
theorem RD.below {B b : Nat} {rest out : List UInt8} {lone : Bool} {w : World} (h : RD B b rest out lone w) (j : Nat) (x : Value) : Below B w (w.setCell ⟨b, j, none⟩ x) := (Below.refl B w).setCell (p := ⟨b, j, none⟩) h.heap.1 _
theorem set_size (w : World) (a : Addr) (x : Value) : (w.setCell a x).heap.size = w.heap.size := by simp [World.setCell]
theorem lies50 : liesAt Try.prog Try.prog.depth 50 (4 / Try.prog.cellsOf 50) 1 41 1 = true := by kernel_rfl
theorem SameBut.rd {cs cs' : Array Value} {rest : List UInt8} {lone : Bool} (h : SameBut 1 cs cs') (hs : cs.size = 4) (h0 : cs[0]? = some (.string ⟨rest.toArray⟩)) (h3 : cs[3]? = some (.bool lone)) : cs'.size = 4 ∧ cs'[0]? = some (.string ⟨rest.toArray⟩) ∧ cs'[3]? = some (.bool lone) :=
  ⟨h.1.trans hs, (h.2 0 (by omega) (by omega)).trans h0, (h.2 3 (by omega) (by omega)).trans h3⟩
/-- What is written comes behind what was read. -/
theorem rd_string {B b : Nat} {rest out : List UInt8} {lone : Bool} {w : World} (h : RD B b rest out lone w) (s : ByteArray) (hs0 : s.size ≠ 0) (hlen : out.length + s.size ≤ 140737488355328) :
    Calls Try.prog 19 #[.pointer (some ⟨b, 1, none⟩), .string s] w fun e w' => e = .returned (.tuple #[.int .i64 s.size, .nilIface]) ∧ RD B b rest (out ++ s.data.toList) lone w' ∧ Below B w w' ∧ w.heap.size ≤ w'.heap.size := by
  have hh := h.heap
  obtain ⟨cs, hI, hs, h0, h3⟩ := h
  refine (E_WriteString Try.lays166 Try.Builder_Extra_166 (T := 50) s hs0 (by decide) (by rw [hs]; exact lies50) hI (by rw [Lib.byteCells_length]; exact hlen) (by omega)).mono ?_
  rintro e w' ⟨rfl, cs', hsb, hB, hb, hsz⟩
  obtain ⟨a1, a2, a3⟩ := hsb.rd hs h0 h3
  exact ⟨rfl, ⟨cs', .inr (by rw [Lib.byteCells_append]; exact hB), a1, a2, a3⟩, hb, hsz⟩
theorem rd_byte {B b : Nat} {rest out : List UInt8} {lone : Bool} {w : World} (h : RD B b rest out lone w) (c : UInt8) (hlen : out.length + 1 ≤ 140737488355328) :
    Calls Try.prog 29 #[.pointer (some ⟨b, 1, none⟩), .int .u8 c.toNat] w fun e w' => e = .returned .nilIface ∧ RD B b rest (out ++ [c]) lone w' ∧ Below B w w' ∧ w.heap.size ≤ w'.heap.size := by
  have hh := h.heap
  obtain ⟨cs, hI, hs, h0, h3⟩ := h
  refine (E_WriteByte Try.lays167 Try.Builder_Extra_167 (T := 50) c.toNat (by decide) (by rw [hs]; exact lies50) hI (by rw [Lib.byteCells_length]; exact hlen) (by omega)).mono ?_
  rintro e w' ⟨rfl, cs', hsb, hB, hb, hsz⟩
  obtain ⟨a1, a2, a3⟩ := hsb.rd hs h0 h3
  exact ⟨rfl, ⟨cs', .inr (by rw [Lib.byteCells_append]; exact hB), a1, a2, a3⟩, hb, hsz⟩
theorem rd_four {B b : Nat} {rest out : List UInt8} {lone : Bool} {w : World} (h : RD B b rest out lone w) :
    Calls Try.prog 34 #[.pointer (some ⟨b, 0, none⟩)] w fun e w' => e = .returned (fourAns rest) ∧ w' = fourW rest b w := four_walk b rest w h.cell0 (h.frozen 0)

theorem extract_to (l : List UInt8) (k : Nat) : (({ data := l.toArray } : ByteArray).extract k l.length) = ⟨(l.drop k).toArray⟩ := by
  apply ByteArray.ext
  rw [ByteArray.data_extract]
  apply Array.toList_inj.1
  simp
  exact List.take_of_length_le (by rw [List.length_drop]; omega)
theorem prefix2 {l : List UInt8} (h : Lib.hasPrefix l [92, 117] = true) : 2 ≤ l.length := by
  have := (List.isPrefixOf_iff_prefix.1 h).length_le
  simpa using this
def encL (c : Int) : List UInt8 := (Utf8.encode c).data.toList
theorem enc_pos (c : Int) : (Utf8.encode c).size ≠ 0 ∧ (Utf8.encode c).size ≤ 4 := by
  unfold Utf8.encode
  simp only
  repeat' split
  all_goals exact ⟨by simp [ByteArray.size], by simp [ByteArray.size]⟩
/-- A sign by its digits, or by those of two surrogates. -/
def pairL (rest out : List UInt8) (lone : Bool) : Option (List UInt8 × List UInt8 × Bool) :=
  match fourL rest with
  | none => none
  | some a => if a < 55296 ∨ 57343 < a then some (rest.drop 4, out ++ encL a, lone)
    else if 56319 < a ∨ Lib.hasPrefix (rest.drop 4) [92, 117] = false then some (rest.drop 4, out, true)
    else match fourL (rest.drop 6) with
      | none => none
      | some c => if c < 56320 ∨ 57343 < c then some (rest.drop 4, out, true)
        else some (rest.drop 10, out ++ encL (65536 + (a - 55296) * 1024 + (c - 56320)), lone)
/-- What such a method leaves. -/
def RdPost (B b : Nat) (r : Option (List UInt8 × List UInt8 × Bool)) (w : World) (e : Ending) (w' : World) : Prop :=
  Below B w w' ∧ w.heap.size ≤ w'.heap.size ∧ match r with
    | some (r, o, l) => e = .returned (.bool true) ∧ RD B b r o l w'
    | none => e = .returned (.bool false)
set_option maxHeartbeats 4000000 in
set_option maxRecDepth 1000000 in
theorem pair_walk {B b : Nat} {rest out : List UInt8} {lone : Bool} {w : World} (h : RD B b rest out lone w) (hlen : out.length ≤ 1099511627776) :
    Calls Try.prog 32 #[.pointer (some ⟨b, 0, none⟩)] w (RdPost B b (pairL rest out lone) w) := by
  go_enter Try.func32, Try.ntmps32
  cases h4 : fourL rest with
  | none =>
    have hp : pairL rest out lone = none := by unfold pairL; rw [h4]
    have hA : fourAns rest = .tuple #[.int .i32 0, .bool false] := by unfold fourAns; rw [h4]
    have hW : fourW rest b w = w := by unfold fourW; rw [h4]
    have hc := rd_four h
    rw [hA, hW] at hc
    go_wp2_with (go_at_call 34; refine hc.mono ?_; rintro e w1 ⟨rfl, rfl⟩)
    go_ret
    try rw [hp]
    exact ⟨Below.refl _ _, Nat.le_refl _, rfl⟩
  | some a =>
    have hA : fourAns rest = .tuple #[.int .i32 a, .bool true] := by unfold fourAns; rw [h4]
    have hW : fourW rest b w = w.setCell ⟨b, 0, none⟩ (.string ⟨(rest.drop 4).toArray⟩) := by unfold fourW; rw [h4]
    have hc := rd_four h
    rw [hA, hW] at hc
    have h1 := h.set0 (rest.drop 4)
    have hb1 := h.below 0 (.string ⟨(rest.drop 4).toArray⟩)
    have hz1 := set_size w ⟨b, 0, none⟩ (.string ⟨(rest.drop 4).toArray⟩)
    generalize w.setCell ⟨b, 0, none⟩ (.string ⟨(rest.drop 4).toArray⟩) = w1 at hc h1 hb1 hz1
    by_cases g1 : a < 55296 ∨ 57343 < a
    · have hp : pairL rest out lone = some (rest.drop 4, out ++ encL a, lone) := by unfold pairL; rw [h4]; simp only []; rw [if_pos g1]
      have hw := rd_string h1 (Utf8.encode a) (enc_pos a).1 (by have := (enc_pos a).2; omega)
      go_wp2_with (first | (go_at_call 34; refine hc.mono ?_; rintro e w2 ⟨rfl, rfl⟩) | (go_at_call 19; refine hw.mono ?_; rintro e w3 ⟨rfl, h3, b3, z3⟩))
      all_goals (
        go_ret
        try rw [hp]
        exact ⟨hb1.trans b3, by omega, rfl, h3⟩)
    · have ga : ¬ a < 55296 ∧ ¬ 57343 < a := by omega
      obtain ⟨ga1, ga2⟩ := ga
      have hpre := Try.strings_HasPrefix ⟨(rest.drop 4).toArray⟩ ⟨#[92, 117]⟩ w1
      have c3 := h1.cell3
      have f3 := h1.frozen 3
      have c0 := h1.cell0
      have f0 := h1.frozen 0
      have h1t := h1.set3 true
      have hbt := hb1.trans (h1.below 3 (.bool true))
      have hzt := set_size w1 ⟨b, 3, none⟩ (.bool true)
      by_cases g2 : 56319 < a
      · have hp : pairL rest out lone = some (rest.drop 4, out, true) := by unfold pairL; rw [h4]; simp only []; rw [if_neg g1, if_pos (.inl g2)]
        go_wp2_with (first | (go_at_call 34; refine hc.mono ?_; rintro e w2 ⟨rfl, rfl⟩))
        all_goals (
          go_ret
          try rw [hp]
          exact ⟨hbt, by omega, rfl, h1t⟩)
      · cases g3 : Lib.hasPrefix (rest.drop 4) [92, 117] with
        | false =>
          have hp : pairL rest out lone = some (rest.drop 4, out, true) := by unfold pairL; rw [h4]; simp only []; rw [if_neg g1, if_pos (.inr g3)]
          have hpre' : Calls Try.prog 35 #[.string ⟨(rest.drop 4).toArray⟩, .string ⟨#[92, 117]⟩] w1 fun e w' => e = .returned (.bool false) ∧ w' = w1 := by
            refine hpre.mono ?_
            rintro e w' ⟨rfl, rfl⟩
            exact ⟨by rw [← g3], rfl⟩
          go_wp2_with (first | (go_at_call 34; refine hc.mono ?_; rintro e w2 ⟨rfl, rfl⟩) | (go_at_call 35; refine hpre'.mono ?_; rintro e w3 ⟨rfl, rfl⟩))
          all_goals (
            go_ret
            try rw [hp]
            exact ⟨hbt, by omega, rfl, h1t⟩)
        | true =>
          have hpre' : Calls Try.prog 35 #[.string ⟨(rest.drop 4).toArray⟩, .string ⟨#[92, 117]⟩] w1 fun e w' => e = .returned (.bool true) ∧ w' = w1 := by
            refine hpre.mono ?_
            rintro e w' ⟨rfl, rfl⟩
            exact ⟨by rw [← g3], rfl⟩
          have hl2 : 2 ≤ (rest.drop 4).length := prefix2 g3
          have hx : (({ data := (rest.drop 4).toArray } : ByteArray).extract 2 (rest.length - 4)) = ⟨(rest.drop 6).toArray⟩ := by
            rw [← List.length_drop, extract_to, List.drop_drop]
          have h2 := h1.set0 (rest.drop 6)
          have hb2 := hb1.trans (h1.below 0 (.string ⟨(rest.drop 6).toArray⟩))
          have hz2 := set_size w1 ⟨b, 0, none⟩ (.string ⟨(rest.drop 6).toArray⟩)
          have hc2 := rd_four h2
          have hsz : ({ data := (rest.drop 4).toArray } : ByteArray).size = (rest.drop 4).length := rfl
          have hback := h2.set0 (rest.drop 4)
          have hlt : ¬ (((rest.drop 4).length : Nat) : Int) < 2 := by omega
          cases h5 : fourL (rest.drop 6) with
          | none =>
            have hp : pairL rest out lone = none := by unfold pairL; rw [h4]; simp only []; rw [if_neg g1, if_neg (by rw [g3]; simp; omega), h5]
            have hA2 : fourAns (rest.drop 6) = .tuple #[.int .i32 0, .bool false] := by unfold fourAns; rw [h5]
            have hW2 : ∀ w, fourW (rest.drop 6) b w = w := fun w => by unfold fourW; rw [h5]
            rw [hA2, hW2] at hc2
            go_wp2_with (first | (go_at_call 34; refine hc.mono ?_; rintro e w2 ⟨rfl, rfl⟩) | (go_at_call 35; refine hpre'.mono ?_; rintro e w3 ⟨rfl, rfl⟩) | (go_at_call 34; refine hc2.mono ?_; rintro e w4 ⟨rfl, rfl⟩))
            all_goals (
              go_ret
              try rw [hp]
              exact ⟨hb2, by omega, rfl⟩)
          | some c =>
            have hA2 : fourAns (rest.drop 6) = .tuple #[.int .i32 c, .bool true] := by unfold fourAns; rw [h5]
            have hW2 : ∀ w, fourW (rest.drop 6) b w = w.setCell ⟨b, 0, none⟩ (.string ⟨(rest.drop 10).toArray⟩) := fun w => by unfold fourW; rw [h5]; simp only [List.drop_drop]
            rw [hA2, hW2] at hc2
            have h6 := h2.set0 (rest.drop 10)
            have hb6 := hb2.trans (h2.below 0 (.string ⟨(rest.drop 10).toArray⟩))
            have hz6 := set_size (w1.setCell ⟨b, 0, none⟩ (.string ⟨(rest.drop 6).toArray⟩)) ⟨b, 0, none⟩ (.string ⟨(rest.drop 10).toArray⟩)
            have hr : (w1.setCell ⟨b, 0, none⟩ (.string ⟨(rest.drop 6).toArray⟩)).heap.size = w1.heap.size := set_size _ _ _
            generalize ((w1.setCell ⟨b, 0, none⟩ (.string ⟨(rest.drop 6).toArray⟩)).setCell ⟨b, 0, none⟩ (.string ⟨(rest.drop 10).toArray⟩)) = w6 at hc2 h6 hb6 hz6
            have c6 := h6.cell3
            have f6 := h6.frozen 3
            have d6 := h6.cell0
            have e6 := h6.frozen 0
            by_cases g5 : c < 56320 ∨ 57343 < c
            · have hp : pairL rest out lone = some (rest.drop 4, out, true) := by unfold pairL; rw [h4]; simp only []; rw [if_neg g1, if_neg (by rw [g3]; simp; omega), h5]; simp only []; rw [if_pos g5]
              have h7 := (h6.set3 true).set0 (rest.drop 4)
              have hb7 := (hb6.trans (h6.below 3 (.bool true))).trans ((h6.set3 true).below 0 (.string ⟨(rest.drop 4).toArray⟩))
              have hz7 := set_size (w6.setCell ⟨b, 3, none⟩ (.bool true)) ⟨b, 0, none⟩ (.string ⟨(rest.drop 4).toArray⟩)
              have hz8 := set_size w6 ⟨b, 3, none⟩ (.bool true)
              have d7 := (h6.set3 true).cell0
              have e7 := (h6.set3 true).frozen 0
              go_wp2_with (first | (go_at_call 34; refine hc.mono ?_; rintro e w2 ⟨rfl, rfl⟩) | (go_at_call 35; refine hpre'.mono ?_; rintro e w3 ⟨rfl, rfl⟩) | (go_at_call 34; refine hc2.mono ?_; rintro e w4 ⟨rfl, rfl⟩))
              all_goals (
                go_ret
                try rw [hp]
                exact ⟨hb7, by omega, rfl, h7⟩)
            · have hp : pairL rest out lone = some (rest.drop 10, out ++ encL (65536 + (a - 55296) * 1024 + (c - 56320)), lone) := by unfold pairL; rw [h4]; simp only []; rw [if_neg g1, if_neg (by rw [g3]; simp; omega), h5]; simp only []; rw [if_neg g5]
              have hw := rd_string h6 (Utf8.encode (65536 + (a - 55296) * 1024 + (c - 56320))) (enc_pos _).1 (by have := (enc_pos (65536 + (a - 55296) * 1024 + (c - 56320))).2; omega)
              go_wp2_with (first | (go_at_call 34; refine hc.mono ?_; rintro e w2 ⟨rfl, rfl⟩) | (go_at_call 35; refine hpre'.mono ?_; rintro e w3 ⟨rfl, rfl⟩) | (go_at_call 34; refine hc2.mono ?_; rintro e w4 ⟨rfl, rfl⟩) | (go_at_call 19; refine hw.mono ?_; rintro e w5 ⟨rfl, h8, b8, z8⟩))
              all_goals (
                go_ret
                try rw [hp]
                exact ⟨hb6.trans b8, by omega, rfl, h8⟩)
end Go.Ab
