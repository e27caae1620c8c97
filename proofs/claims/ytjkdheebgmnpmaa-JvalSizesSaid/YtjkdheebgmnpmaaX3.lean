-- Written for this claim by a program of the session, out of the translation's print. Lean checks it.
import Derived.Test.YtjkdheebgmnpmaaX0
import Derived.Test.YtjkdheebgmnpmaaX2
import Derived.Test.YtjkdheebgmnpmaaX3D
import Derived.Test.YtjkdheebgmnpmaaX3T
import Derived.Test.YtjkdheebgmnpmaaX3F
namespace Go.Proofs.Ytjkdheebgmnpmaa.X
open Go.RowKit Go.Proofs.YtjkdheebgmnpmaaY Go.Proofs.YtjkdheebgmnpmaaW.PrintWords Go.Proofs.YtjkdheebgmnpmaaW.PrintLast Go.Proofs.YtjkdheebgmnpmaaW.PrintMore
attribute [local go_sem] max2_int min2_int max_two min_two max_three min_three max_four min_four   -- for this text's walks alone
set_option linter.unusedVariables false
set_option linter.unusedSimpArgs false

theorem jval_Put.calls (k : Nat) (a0_0 : Int) (a0_1 : Int) (a0_2 : Int) (a0_3 : ByteArray) (P0_4_ : Nat → Prop) (A0_4 : Option Addr) (c0_4 : Nat) (l0_4 : List (S27)) (P0_5_ : Nat → Prop) (A0_5 : Option Addr) (c0_5 : Nat) (l0_5 : List ByteArray) (a1 : ByteArray) (a2_0 : Int) (a2_1 : Int) (a2_2 : Int) (a2_3 : ByteArray) (P2_4_ : Nat → Prop) (A2_4 : Option Addr) (c2_4 : Nat) (l2_4 : List (S27)) (P2_5_ : Nat → Prop) (A2_5 : Option Addr) (c2_5 : Nat) (l2_5 : List ByteArray) (r1 : Int) (r2 : Int) (r3 : Int) (r4 : ByteArray) (r5 : List (S27)) (r6 : List ByteArray) (w : World) (hs0_4 : Kd.V k27 27 w w.heap.size (fun k_ => P0_4_ k_) (.slice A0_4 l0_4.length c0_4) l0_4) (hs0_5 : Kd.V Kd.string 9 w w.heap.size (fun k_ => P0_5_ k_) (.slice A0_5 l0_5.length c0_5) l0_5) (hs2_4 : Kd.V k27 27 w w.heap.size (fun k_ => P2_4_ k_) (.slice A2_4 l2_4.length c2_4) l2_4) (hs2_5 : Kd.V Kd.string 9 w w.heap.size (fun k_ => P2_5_ k_) (.slice A2_5 l2_5.length c2_5) l2_5) (h : jval_Put.f k a0_0 a0_1 a0_2 a0_3 l0_4 l0_5 a1 a2_0 a2_1 a2_2 a2_3 l2_4 l2_5 = some (r1, r2, r3, r4, r5, r6)) :
    Calls Try.prog 11 #[.agg #[.int .i64 a0_0, .int .i64 a0_1, .int .i64 a0_2, .string a0_3, .slice A0_4 l0_4.length c0_4, .slice A0_5 l0_5.length c0_5], .string a1, .agg #[.int .i64 a2_0, .int .i64 a2_1, .int .i64 a2_2, .string a2_3, .slice A2_4 l2_4.length c2_4, .slice A2_5 l2_5.length c2_5]] w fun e w' => ∃ v4_ v5_ : Value, e = .returned (.agg #[.int .i64 r1, .int .i64 r2, .int .i64 r3, .string r4, v4_, v5_]) ∧ Kd.V k27 27 w' w.heap.size (fun k_ => ((P0_4_ k_ ∨ P0_5_ k_ ∨ P2_4_ k_ ∨ P2_5_ k_) ∨ w.heap.size ≤ k_)) v4_ r5 ∧ Kd.V Kd.string 9 w' w.heap.size (fun k_ => ((P0_4_ k_ ∨ P0_5_ k_ ∨ P2_4_ k_ ∨ P2_5_ k_) ∨ w.heap.size ≤ k_)) v5_ r6 ∧ Below w.heap.size w w' := by
  by_cases hx : ∃ k_ i_, jval_place.f k_ l0_5 a1 = some (i_, false)
  · obtain ⟨k1, i1, h1⟩ := hx
    refine jval_Put.callsF k a0_0 a0_1 a0_2 a0_3 P0_4_ A0_4 c0_4 l0_4 P0_5_ A0_5 c0_5 l0_5 a1 a2_0 a2_1 a2_2 a2_3 P2_4_ A2_4 c2_4 l2_4 P2_5_ A2_5 c2_5 l2_5 r1 r2 r3 r4 r5 r6 w hs0_4 hs0_5 hs2_4 hs2_5 h (fun k_ i_ h_ => ?_)
    have e1 := at_rounds (g := fun k => jval_place.f k l0_5 a1) (jval_place.mono l0_5 a1) (Nat.le_max_left k1 k_) h1
    have e2 := at_rounds (g := fun k => jval_place.f k l0_5 a1) (jval_place.mono l0_5 a1) (Nat.le_max_right k1 k_) h_
    rw [e1] at e2
    simp at e2
  · exact jval_Put.callsT k a0_0 a0_1 a0_2 a0_3 P0_4_ A0_4 c0_4 l0_4 P0_5_ A0_5 c0_5 l0_5 a1 a2_0 a2_1 a2_2 a2_3 P2_4_ A2_4 c2_4 l2_4 P2_5_ A2_5 c2_5 l2_5 r1 r2 r3 r4 r5 r6 w hs0_4 hs0_5 hs2_4 hs2_5 h (fun k_ i_ h_ => hx ⟨k_, i_, h_⟩)
end Go.Proofs.Ytjkdheebgmnpmaa.X
