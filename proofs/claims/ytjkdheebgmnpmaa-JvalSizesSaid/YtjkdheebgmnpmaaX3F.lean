-- Written for this claim by a program of the session, out of the translation's print. Lean checks it.
import Derived.Test.YtjkdheebgmnpmaaX0
import Derived.Test.YtjkdheebgmnpmaaX2
import Derived.Test.YtjkdheebgmnpmaaX3D
namespace Go.Proofs.Ytjkdheebgmnpmaa.X
open Go.RowKit Go.Proofs.YtjkdheebgmnpmaaY Go.Proofs.YtjkdheebgmnpmaaW.PrintWords Go.Proofs.YtjkdheebgmnpmaaW.PrintLast Go.Proofs.YtjkdheebgmnpmaaW.PrintMore
attribute [local go_sem] max2_int min2_int max_two min_two max_three min_three max_four min_four   -- for this text's walks alone
set_option linter.unusedVariables false
set_option linter.unusedSimpArgs false

set_option maxHeartbeats 8000000 in
set_option maxRecDepth 100000 in
theorem jval_Put.callsF (k : Nat) (a0_0 : Int) (a0_1 : Int) (a0_2 : Int) (a0_3 : ByteArray) (P4 : Nat → Prop) (A0_4 : Option Addr) (c0_4 : Nat) (l0_4 : List (S27)) (P5 : Nat → Prop) (A0_5 : Option Addr) (c0_5 : Nat) (l0_5 : List ByteArray) (a1 : ByteArray) (a2_0 : Int) (a2_1 : Int) (a2_2 : Int) (a2_3 : ByteArray) (Q4 : Nat → Prop) (A2_4 : Option Addr) (c2_4 : Nat) (l2_4 : List (S27)) (Q5 : Nat → Prop) (A2_5 : Option Addr) (c2_5 : Nat) (l2_5 : List ByteArray) (r1 : Int) (r2 : Int) (r3 : Int) (r4 : ByteArray) (r5 : List (S27)) (r6 : List ByteArray) (w : World) (hs0_4 : Kd.V k27 27 w w.heap.size (fun q => P4 q) (.slice A0_4 l0_4.length c0_4) l0_4) (hs0_5 : Kd.V Kd.string 9 w w.heap.size (fun q => P5 q) (.slice A0_5 l0_5.length c0_5) l0_5) (hs2_4 : Kd.V k27 27 w w.heap.size (fun q => Q4 q) (.slice A2_4 l2_4.length c2_4) l2_4) (hs2_5 : Kd.V Kd.string 9 w w.heap.size (fun q => Q5 q) (.slice A2_5 l2_5.length c2_5) l2_5) (h : jval_Put.f k a0_0 a0_1 a0_2 a0_3 l0_4 l0_5 a1 a2_0 a2_1 a2_2 a2_3 l2_4 l2_5 = some (r1, r2, r3, r4, r5, r6)) (hx_ : ∀ q i_, jval_place.f q l0_5 a1 ≠ some (i_, true)) :
    Calls Try.prog 11 #[.agg #[.int .i64 a0_0, .int .i64 a0_1, .int .i64 a0_2, .string a0_3, .slice A0_4 l0_4.length c0_4, .slice A0_5 l0_5.length c0_5], .string a1, .agg #[.int .i64 a2_0, .int .i64 a2_1, .int .i64 a2_2, .string a2_3, .slice A2_4 l2_4.length c2_4, .slice A2_5 l2_5.length c2_5]] w fun e w' => ∃ v4_ v5_ : Value, e = .returned (.agg #[.int .i64 r1, .int .i64 r2, .int .i64 r3, .string r4, v4_, v5_]) ∧ Kd.V k27 27 w' w.heap.size (fun q => ((P4 q ∨ P5 q ∨ Q4 q ∨ Q5 q) ∨ w.heap.size ≤ q)) v4_ r5 ∧ Kd.V Kd.string 9 w' w.heap.size (fun q => ((P4 q ∨ P5 q ∨ Q4 q ∨ Q5 q) ∨ w.heap.size ≤ q)) v5_ r6 ∧ Below w.heap.size w w' := by
  have hu27 := Try.underlying27
  have HO0_4 := Aside0.mk (show Kd.V k27 27 w w.heap.size (fun q => ((P4 q ∨ P5 q ∨ Q4 q ∨ Q5 q) ∨ w.heap.size ≤ q)) (.slice A0_4 l0_4.length c0_4) l0_4 from Kd.V_mono hs0_4 (fun q hk => .inl (.inl hk)))
  have HO0_5 := Aside0.mk (show Kd.V Kd.string 9 w w.heap.size (fun q => ((P4 q ∨ P5 q ∨ Q4 q ∨ Q5 q) ∨ w.heap.size ≤ q)) (.slice A0_5 l0_5.length c0_5) l0_5 from Kd.V_mono hs0_5 (fun q hk => .inl (.inr (.inl hk))))
  have HO2_4 := Aside0.mk (show Kd.V k27 27 w w.heap.size (fun q => ((P4 q ∨ P5 q ∨ Q4 q ∨ Q5 q) ∨ w.heap.size ≤ q)) (.slice A2_4 l2_4.length c2_4) l2_4 from Kd.V_mono hs2_4 (fun q hk => .inl (.inr (.inr (.inl hk)))))
  have HO2_5 := Aside0.mk (show Kd.V Kd.string 9 w w.heap.size (fun q => ((P4 q ∨ P5 q ∨ Q4 q ∨ Q5 q) ∨ w.heap.size ≤ q)) (.slice A2_5 l2_5.length c2_5) l2_5 from Kd.V_mono hs2_5 (fun q hk => .inl (.inr (.inr (.inr hk)))))
  have HB := Aside0.mk (Below.refl w.heap.size w)
  have H : (if a0_0 = 6 then (jval_Put.j0 k a1 ((l0_5.length : Int) != (l0_4.length : Int)) a0_0 a0_1 a0_2 a0_3 l0_4 l0_5 a2_0 a2_1 a2_2 a2_3 l2_4 l2_5) else (jval_Put.j0 k a1 true a0_0 a0_1 a0_2 a0_3 l0_4 l0_5 a2_0 a2_1 a2_2 a2_3 l2_4 l2_5)) = some (r1, r2, r3, r4, r5, r6) := h
  clear h
  have HC4 := Aside0.mk H
  clear H
  go_enter Try.func11, Try.ntmps11
  go_upto_region 1 with (first | ((with_reducible refine gate_dst (N := 3) rfl ?_); (try (refine gate_guard (by rfl) ?_; dsimp only)); refine box_event ?hg (N := 3) ?hd (cs := #[.int .i64 a0_0, .int .i64 a0_1, .int .i64 a0_2, .string a0_3, .slice A0_4 l0_4.length c0_4, .slice A0_5 l0_5.length c0_5]) (t := 27) ?hr ?_; (case hd => rfl); (case hg => rfl); (case hr => first | (go_simp; done) | (go_simp; rfl)); intro g1 hg w5 hbox hb; have n0_ := Aside0.mk (Kd.V_below (Kd.V_elderB (by (with_reducible repeat (first | apply Kd.V_alloc | apply Kd.V_drewN | apply Kd.V_drew)); exact HO0_4.out) g1 (Nat.le_of_eq hg.symm)) hb); have n1_ := Aside0.mk (Kd.V_below (Kd.V_elderB (by (with_reducible repeat (first | apply Kd.V_alloc | apply Kd.V_drewN | apply Kd.V_drew)); exact HO0_5.out) g1 (Nat.le_of_eq hg.symm)) hb); have n2_ := Aside0.mk (Kd.V_below (Kd.V_elderB (by (with_reducible repeat (first | apply Kd.V_alloc | apply Kd.V_drewN | apply Kd.V_drew)); exact HO2_4.out) g1 (Nat.le_of_eq hg.symm)) hb); have n3_ := Aside0.mk (Kd.V_below (Kd.V_elderB (by (with_reducible repeat (first | apply Kd.V_alloc | apply Kd.V_drewN | apply Kd.V_drew)); exact HO2_5.out) g1 (Nat.le_of_eq hg.symm)) hb); have n4_ := Aside0.mk (below_step (by repeat (first | (with_reducible first | exact HB.out | apply below_alloc | apply pw_below_drewN | apply below_drew1) | exact HB.out)) hb); have n5_ := Aside0.mk (hbox); have n6_ := Aside0.mk ((by rw [hg]; exact (below_size (by repeat (first | (with_reducible first | exact HB.out | apply below_alloc | apply pw_below_drewN | apply below_drew1) | exact HB.out))) : w.heap.size ≤ g1)); have n7_ := Aside0.mk ((by rw [hg]; exact (below_size (by repeat (first | (with_reducible first | exact HB.out | apply below_alloc | apply pw_below_drewN | apply below_drew1) | exact HB.out))) : w.heap.size ≤ g1)); clear HO0_4; clear HO0_5; clear HO2_4; clear HO2_5; clear HB; have HO0_4 := n0_; have HO0_5 := n1_; have HO2_4 := n2_; have HO2_5 := n3_; have HB := n4_; have BK111 := n5_; have GW111 := n6_; have GE111 := n7_; clear n0_ n1_ n2_ n3_ n4_ n5_ n6_ n7_; clear hb hbox hg) | ((with_reducible refine gate_dst (N := 5) rfl ?_); (try (refine gate_guard (by rfl) ?_; dsimp only)); refine box_event ?hg (N := 5) ?hd (cs := #[.int .i64 a2_0, .int .i64 a2_1, .int .i64 a2_2, .string a2_3, .slice A2_4 l2_4.length c2_4, .slice A2_5 l2_5.length c2_5]) (t := 27) ?hr ?_; (case hd => rfl); (case hg => rfl); (case hr => first | (go_simp; done) | (go_simp; rfl)); intro g2 hg w6 hbox hb; have n0_ := Aside0.mk (Kd.V_below (Kd.V_elderB (by (with_reducible repeat (first | apply Kd.V_alloc | apply Kd.V_drewN | apply Kd.V_drew)); exact HO0_4.out) g2 (Nat.le_of_eq hg.symm)) hb); have n1_ := Aside0.mk (Kd.V_below (Kd.V_elderB (by (with_reducible repeat (first | apply Kd.V_alloc | apply Kd.V_drewN | apply Kd.V_drew)); exact HO0_5.out) g2 (Nat.le_of_eq hg.symm)) hb); have n2_ := Aside0.mk (Kd.V_below (Kd.V_elderB (by (with_reducible repeat (first | apply Kd.V_alloc | apply Kd.V_drewN | apply Kd.V_drew)); exact HO2_4.out) g2 (Nat.le_of_eq hg.symm)) hb); have n3_ := Aside0.mk (Kd.V_below (Kd.V_elderB (by (with_reducible repeat (first | apply Kd.V_alloc | apply Kd.V_drewN | apply Kd.V_drew)); exact HO2_5.out) g2 (Nat.le_of_eq hg.symm)) hb); have n4_ := Aside0.mk (blk_below (g := g1) (o := .cells #[.int .i64 a0_0, .int .i64 a0_1, .int .i64 a0_2, .string a0_3, .slice A0_4 l0_4.length c0_4, .slice A0_5 l0_5.length c0_5] 27 (0, 0)) (by (with_reducible repeat (first | refine blk_drewN ?_ _ | refine blk_drew ?_ | refine blk_alloc ?_ _)); exact BK111.out) hb); have n5_ := Aside0.mk (below_step (by repeat (first | (with_reducible first | exact HB.out | apply below_alloc | apply pw_below_drewN | apply below_drew1 | refine below_set ?_ GE111.out) | exact HB.out)) hb); have n6_ := Aside0.mk (hbox); have n7_ := Aside0.mk ((by rw [hg]; exact (below_size (by repeat (first | (with_reducible first | exact HB.out | apply below_alloc | apply pw_below_drewN | apply below_drew1 | refine below_set ?_ GE111.out) | exact HB.out))) : w.heap.size ≤ g2)); have n8_ := Aside0.mk ((by rw [hg]; exact (below_size (by repeat (first | (with_reducible first | exact HB.out | apply below_alloc | apply pw_below_drewN | apply below_drew1 | refine below_set ?_ GE111.out) | exact HB.out))) : w.heap.size ≤ g2)); have n9_ := Aside0.mk ((by rw [hg]; exact Nat.ne_of_lt (blk_lt (g := g1) (o := .cells #[.int .i64 a0_0, .int .i64 a0_1, .int .i64 a0_2, .string a0_3, .slice A0_4 l0_4.length c0_4, .slice A0_5 l0_5.length c0_5] 27 (0, 0)) (by (with_reducible repeat (first | refine blk_drewN ?_ _ | refine blk_drew ?_ | refine blk_alloc ?_ _)); exact BK111.out)) : g1 ≠ g2)); have n10_ := Aside0.mk ((by rw [hg]; exact Nat.ne_of_gt (blk_lt (g := g1) (o := .cells #[.int .i64 a0_0, .int .i64 a0_1, .int .i64 a0_2, .string a0_3, .slice A0_4 l0_4.length c0_4, .slice A0_5 l0_5.length c0_5] 27 (0, 0)) (by (with_reducible repeat (first | refine blk_drewN ?_ _ | refine blk_drew ?_ | refine blk_alloc ?_ _)); exact BK111.out)) : g2 ≠ g1)); clear HO0_4; clear HO0_5; clear HO2_4; clear HO2_5; clear BK111; clear HB; have HO0_4 := n0_; have HO0_5 := n1_; have HO2_4 := n2_; have HO2_5 := n3_; have BK111 := n4_; have HB := n5_; have BK112 := n6_; have GW112 := n7_; have GE112 := n8_; have NB111_112 := n9_; have NB112_111 := n10_; clear n0_ n1_ n2_ n3_ n4_ n5_ n6_ n7_ n8_ n9_ n10_; clear hb hbox hg) | ((with_reducible refine gate_dst (N := 6) rfl ?_); (try (refine gate_guard (by rfl) ?_; dsimp only)); refine box_event ?hg (N := 6) ?hd (cs := #[.int .i64 0, .int .i64 0, .int .i64 0, .string (⟨#[]⟩ : ByteArray), .slice none 0 0, .slice none 0 0]) (t := 27) ?hr ?_; (case hd => rfl); (case hg => rfl); (case hr => first | (go_simp; done) | (go_simp; rfl)); intro g3 hg w7 hbox hb; have n0_ := Aside0.mk (Kd.V_below (Kd.V_elderB (by (with_reducible repeat (first | apply Kd.V_alloc | apply Kd.V_drewN | apply Kd.V_drew)); exact HO0_4.out) g3 (Nat.le_of_eq hg.symm)) hb); have n1_ := Aside0.mk (Kd.V_below (Kd.V_elderB (by (with_reducible repeat (first | apply Kd.V_alloc | apply Kd.V_drewN | apply Kd.V_drew)); exact HO0_5.out) g3 (Nat.le_of_eq hg.symm)) hb); have n2_ := Aside0.mk (Kd.V_below (Kd.V_elderB (by (with_reducible repeat (first | apply Kd.V_alloc | apply Kd.V_drewN | apply Kd.V_drew)); exact HO2_4.out) g3 (Nat.le_of_eq hg.symm)) hb); have n3_ := Aside0.mk (Kd.V_below (Kd.V_elderB (by (with_reducible repeat (first | apply Kd.V_alloc | apply Kd.V_drewN | apply Kd.V_drew)); exact HO2_5.out) g3 (Nat.le_of_eq hg.symm)) hb); have n4_ := Aside0.mk (blk_below (g := g1) (o := .cells #[.int .i64 a0_0, .int .i64 a0_1, .int .i64 a0_2, .string a0_3, .slice A0_4 l0_4.length c0_4, .slice A0_5 l0_5.length c0_5] 27 (0, 0)) (by (with_reducible repeat (first | refine blk_drewN ?_ _ | refine blk_drew ?_ | refine blk_alloc ?_ _)); exact BK111.out) hb); have n5_ := Aside0.mk (blk_below (g := g2) (o := .cells #[.int .i64 a2_0, .int .i64 a2_1, .int .i64 a2_2, .string a2_3, .slice A2_4 l2_4.length c2_4, .slice A2_5 l2_5.length c2_5] 27 (0, 0)) (by (with_reducible repeat (first | refine blk_drewN ?_ _ | refine blk_drew ?_ | refine blk_alloc ?_ _)); exact BK112.out) hb); have n6_ := Aside0.mk (below_step (by repeat (first | (with_reducible first | exact HB.out | apply below_alloc | apply pw_below_drewN | apply below_drew1 | refine below_set ?_ GE111.out | refine below_set ?_ GE112.out) | exact HB.out)) hb); have n7_ := Aside0.mk (hbox); have n8_ := Aside0.mk ((by rw [hg]; exact (below_size (by repeat (first | (with_reducible first | exact HB.out | apply below_alloc | apply pw_below_drewN | apply below_drew1 | refine below_set ?_ GE111.out | refine below_set ?_ GE112.out) | exact HB.out))) : w.heap.size ≤ g3)); have n9_ := Aside0.mk ((by rw [hg]; exact (below_size (by repeat (first | (with_reducible first | exact HB.out | apply below_alloc | apply pw_below_drewN | apply below_drew1 | refine below_set ?_ GE111.out | refine below_set ?_ GE112.out) | exact HB.out))) : w.heap.size ≤ g3)); have n10_ := Aside0.mk ((by rw [hg]; exact Nat.ne_of_lt (blk_lt (g := g1) (o := .cells #[.int .i64 a0_0, .int .i64 a0_1, .int .i64 a0_2, .string a0_3, .slice A0_4 l0_4.length c0_4, .slice A0_5 l0_5.length c0_5] 27 (0, 0)) (by (with_reducible repeat (first | refine blk_drewN ?_ _ | refine blk_drew ?_ | refine blk_alloc ?_ _)); exact BK111.out)) : g1 ≠ g3)); have n11_ := Aside0.mk ((by rw [hg]; exact Nat.ne_of_gt (blk_lt (g := g1) (o := .cells #[.int .i64 a0_0, .int .i64 a0_1, .int .i64 a0_2, .string a0_3, .slice A0_4 l0_4.length c0_4, .slice A0_5 l0_5.length c0_5] 27 (0, 0)) (by (with_reducible repeat (first | refine blk_drewN ?_ _ | refine blk_drew ?_ | refine blk_alloc ?_ _)); exact BK111.out)) : g3 ≠ g1)); have n12_ := Aside0.mk ((by rw [hg]; exact Nat.ne_of_lt (blk_lt (g := g2) (o := .cells #[.int .i64 a2_0, .int .i64 a2_1, .int .i64 a2_2, .string a2_3, .slice A2_4 l2_4.length c2_4, .slice A2_5 l2_5.length c2_5] 27 (0, 0)) (by (with_reducible repeat (first | refine blk_drewN ?_ _ | refine blk_drew ?_ | refine blk_alloc ?_ _)); exact BK112.out)) : g2 ≠ g3)); have n13_ := Aside0.mk ((by rw [hg]; exact Nat.ne_of_gt (blk_lt (g := g2) (o := .cells #[.int .i64 a2_0, .int .i64 a2_1, .int .i64 a2_2, .string a2_3, .slice A2_4 l2_4.length c2_4, .slice A2_5 l2_5.length c2_5] 27 (0, 0)) (by (with_reducible repeat (first | refine blk_drewN ?_ _ | refine blk_drew ?_ | refine blk_alloc ?_ _)); exact BK112.out)) : g3 ≠ g2)); clear HO0_4; clear HO0_5; clear HO2_4; clear HO2_5; clear BK111; clear BK112; clear HB; have HO0_4 := n0_; have HO0_5 := n1_; have HO2_4 := n2_; have HO2_5 := n3_; have BK111 := n4_; have BK112 := n5_; have HB := n6_; have BK113 := n7_; have GW113 := n8_; have GE113 := n9_; have NB111_113 := n10_; have NB113_111 := n11_; have NB112_113 := n12_; have NB113_112 := n13_; clear n0_ n1_ n2_ n3_ n4_ n5_ n6_ n7_ n8_ n9_ n10_ n11_ n12_ n13_; clear hb hbox hg))
  (try simp only [Act.put, List.setIfInBounds_toArray, List.set_cons_zero, List.set_cons_succ])
  go_cut [23] (fun v23 wc => ∃ (kq : Nat) (x23_3 : Bool), v23 = .bool x23_3 ∧ Aside0 (jval_Put.j0 kq a1 x23_3 a0_0 a0_1 a0_2 a0_3 l0_4 l0_5 a2_0 a2_1 a2_2 a2_3 l2_4 l2_5 = some (r1, r2, r3, r4, r5, r6)) ∧ Aside0 (kq ≤ k) ∧ Aside0 (Kd.V k27 27 wc w.heap.size (fun q => ((P4 q ∨ P5 q ∨ Q4 q ∨ Q5 q) ∨ w.heap.size ≤ q) ∧ q ≠ g1 ∧ q ≠ g2 ∧ q ≠ g3) (.slice A0_4 l0_4.length c0_4) l0_4) ∧ Aside0 (Kd.V Kd.string 9 wc w.heap.size (fun q => ((P4 q ∨ P5 q ∨ Q4 q ∨ Q5 q) ∨ w.heap.size ≤ q) ∧ q ≠ g1 ∧ q ≠ g2 ∧ q ≠ g3) (.slice A0_5 l0_5.length c0_5) l0_5) ∧ Aside0 (Kd.V k27 27 wc w.heap.size (fun q => ((P4 q ∨ P5 q ∨ Q4 q ∨ Q5 q) ∨ w.heap.size ≤ q) ∧ q ≠ g1 ∧ q ≠ g2 ∧ q ≠ g3) (.slice A2_4 l2_4.length c2_4) l2_4) ∧ Aside0 (Kd.V Kd.string 9 wc w.heap.size (fun q => ((P4 q ∨ P5 q ∨ Q4 q ∨ Q5 q) ∨ w.heap.size ≤ q) ∧ q ≠ g1 ∧ q ≠ g2 ∧ q ≠ g3) (.slice A2_5 l2_5.length c2_5) l2_5) ∧ Aside0 (wc.heap[g1]? = some (.cells #[.int .i64 a0_0, .int .i64 a0_1, .int .i64 a0_2, .string a0_3, (.slice A0_4 l0_4.length c0_4), (.slice A0_5 l0_5.length c0_5)] 27 (0, 0))) ∧ Aside0 (wc.heap[g2]? = some (.cells #[.int .i64 a2_0, .int .i64 a2_1, .int .i64 a2_2, .string a2_3, (.slice A2_4 l2_4.length c2_4), (.slice A2_5 l2_5.length c2_5)] 27 (0, 0))) ∧ Aside0 (wc.heap[g3]? = some (.cells #[.int .i64 0, .int .i64 0, .int .i64 0, .string (⟨#[]⟩ : ByteArray), (.slice none 0 0), (.slice none 0 0)] 27 (0, 0))) ∧ Aside0 (Below w.heap.size w wc))
  case first =>
    have H := HC4.out
    clear HC4
    by_cases c8 : a0_0 = 6
    · rw [if_pos c8] at H
      have c8b0 : (a0_0 == 6) = true := beq_iff_eq.mpr c8
      have c8b1 : (a0_0 != 6) = false := bne_eq_false_iff_eq.mpr c8
      clear c8
      (first | rw [c8b0] | (simp only [i64_w, i32_w]; rw [c8b0]) | skip)
      have H' := Aside0.mk H
      clear H
      have hnb9 := NB111_112.out
      have hnc9 := NB112_111.out
      have hnb10 := NB111_113.out
      have hnc10 := NB113_111.out
      have hcz11_0 : w7.cell? ⟨g1, 0, none⟩ = some (.int .i64 a0_0) := (blk_cell BK111.out 0).trans rfl
      have hcz11_1 : w7.cell? ⟨g1, 1, none⟩ = some (.int .i64 a0_1) := (blk_cell BK111.out 1).trans rfl
      have hcz11_2 : w7.cell? ⟨g1, 2, none⟩ = some (.int .i64 a0_2) := (blk_cell BK111.out 2).trans rfl
      have hcz11_3 : w7.cell? ⟨g1, 3, none⟩ = some (.string a0_3) := (blk_cell BK111.out 3).trans rfl
      have hcz11_4 : w7.cell? ⟨g1, 4, none⟩ = some (.slice A0_4 l0_4.length c0_4) := (blk_cell BK111.out 4).trans rfl
      have hcz11_5 : w7.cell? ⟨g1, 5, none⟩ = some (.slice A0_5 l0_5.length c0_5) := (blk_cell BK111.out 5).trans rfl
      have hfz11_0 := blk_frozen BK111.out 0
      have hfz11_1 := blk_frozen BK111.out 1
      have hfz11_2 := blk_frozen BK111.out 2
      have hfz11_3 := blk_frozen BK111.out 3
      have hfz11_4 := blk_frozen BK111.out 4
      have hfz11_5 := blk_frozen BK111.out 5
      go_wp2
      go_meet
      case rel => exact ⟨_, (((l0_5.length : Int) != (l0_4.length : Int))), (by first | rfl | (simp; done) | (simp [*]; done)), H', ⟨by first | omega | exact Nat.le_refl _⟩, ⟨by (with_reducible repeat (first | apply Kd.V_alloc | apply Kd.V_drewN | apply Kd.V_drew)); exact Kd.V_mono HO0_4.out (fun _ hk => ⟨hk.1.1.1, ⟨hk.1.1.2, ⟨hk.1.2, hk.2⟩⟩⟩)⟩, ⟨by (with_reducible repeat (first | apply Kd.V_alloc | apply Kd.V_drewN | apply Kd.V_drew)); exact Kd.V_mono HO0_5.out (fun _ hk => ⟨hk.1.1.1, ⟨hk.1.1.2, ⟨hk.1.2, hk.2⟩⟩⟩)⟩, ⟨by (with_reducible repeat (first | apply Kd.V_alloc | apply Kd.V_drewN | apply Kd.V_drew)); exact Kd.V_mono HO2_4.out (fun _ hk => ⟨hk.1.1.1, ⟨hk.1.1.2, ⟨hk.1.2, hk.2⟩⟩⟩)⟩, ⟨by (with_reducible repeat (first | apply Kd.V_alloc | apply Kd.V_drewN | apply Kd.V_drew)); exact Kd.V_mono HO2_5.out (fun _ hk => ⟨hk.1.1.1, ⟨hk.1.1.2, ⟨hk.1.2, hk.2⟩⟩⟩)⟩, ⟨by (with_reducible repeat (first | refine blk_drewN ?_ _ | refine blk_drew ?_ | refine blk_alloc ?_ _)); exact BK111.out⟩, ⟨by (with_reducible repeat (first | refine blk_drewN ?_ _ | refine blk_drew ?_ | refine blk_alloc ?_ _)); exact BK112.out⟩, ⟨by (with_reducible repeat (first | refine blk_drewN ?_ _ | refine blk_drew ?_ | refine blk_alloc ?_ _)); exact BK113.out⟩, ⟨by repeat (first | (with_reducible first | exact HB.out | apply below_alloc | apply pw_below_drewN | apply below_drew1 | refine below_set ?_ GE111.out | refine below_set ?_ GE112.out | refine below_set ?_ GE113.out) | exact HB.out)⟩⟩
    · rw [if_neg c8] at H
      have c8b0 : (a0_0 == 6) = false := beq_eq_false_iff_ne.mpr c8
      have c8b1 : (a0_0 != 6) = true := bne_iff_ne.mpr c8
      (first | rw [c8b0] | (simp only [i64_w, i32_w]; rw [c8b0]) | skip)
      have H' := Aside0.mk H
      clear H
      have hnb12 := NB111_112.out
      have hnc12 := NB112_111.out
      have hnb13 := NB111_113.out
      have hnc13 := NB113_111.out
      have hcz14_0 : w7.cell? ⟨g1, 0, none⟩ = some (.int .i64 a0_0) := (blk_cell BK111.out 0).trans rfl
      have hcz14_1 : w7.cell? ⟨g1, 1, none⟩ = some (.int .i64 a0_1) := (blk_cell BK111.out 1).trans rfl
      have hcz14_2 : w7.cell? ⟨g1, 2, none⟩ = some (.int .i64 a0_2) := (blk_cell BK111.out 2).trans rfl
      have hcz14_3 : w7.cell? ⟨g1, 3, none⟩ = some (.string a0_3) := (blk_cell BK111.out 3).trans rfl
      have hcz14_4 : w7.cell? ⟨g1, 4, none⟩ = some (.slice A0_4 l0_4.length c0_4) := (blk_cell BK111.out 4).trans rfl
      have hcz14_5 : w7.cell? ⟨g1, 5, none⟩ = some (.slice A0_5 l0_5.length c0_5) := (blk_cell BK111.out 5).trans rfl
      have hfz14_0 := blk_frozen BK111.out 0
      have hfz14_1 := blk_frozen BK111.out 1
      have hfz14_2 := blk_frozen BK111.out 2
      have hfz14_3 := blk_frozen BK111.out 3
      have hfz14_4 := blk_frozen BK111.out 4
      have hfz14_5 := blk_frozen BK111.out 5
      go_wp2
      go_meet
      case rel => exact ⟨_, (true), (by first | rfl | (simp; done) | (simp [*]; done)), H', ⟨by first | omega | exact Nat.le_refl _⟩, ⟨by (with_reducible repeat (first | apply Kd.V_alloc | apply Kd.V_drewN | apply Kd.V_drew)); exact Kd.V_mono HO0_4.out (fun _ hk => ⟨hk.1.1.1, ⟨hk.1.1.2, ⟨hk.1.2, hk.2⟩⟩⟩)⟩, ⟨by (with_reducible repeat (first | apply Kd.V_alloc | apply Kd.V_drewN | apply Kd.V_drew)); exact Kd.V_mono HO0_5.out (fun _ hk => ⟨hk.1.1.1, ⟨hk.1.1.2, ⟨hk.1.2, hk.2⟩⟩⟩)⟩, ⟨by (with_reducible repeat (first | apply Kd.V_alloc | apply Kd.V_drewN | apply Kd.V_drew)); exact Kd.V_mono HO2_4.out (fun _ hk => ⟨hk.1.1.1, ⟨hk.1.1.2, ⟨hk.1.2, hk.2⟩⟩⟩)⟩, ⟨by (with_reducible repeat (first | apply Kd.V_alloc | apply Kd.V_drewN | apply Kd.V_drew)); exact Kd.V_mono HO2_5.out (fun _ hk => ⟨hk.1.1.1, ⟨hk.1.1.2, ⟨hk.1.2, hk.2⟩⟩⟩)⟩, ⟨by (with_reducible repeat (first | refine blk_drewN ?_ _ | refine blk_drew ?_ | refine blk_alloc ?_ _)); exact BK111.out⟩, ⟨by (with_reducible repeat (first | refine blk_drewN ?_ _ | refine blk_drew ?_ | refine blk_alloc ?_ _)); exact BK112.out⟩, ⟨by (with_reducible repeat (first | refine blk_drewN ?_ _ | refine blk_drew ?_ | refine blk_alloc ?_ _)); exact BK113.out⟩, ⟨by repeat (first | (with_reducible first | exact HB.out | apply below_alloc | apply pw_below_drewN | apply below_drew1 | refine below_set ?_ GE111.out | refine below_set ?_ GE112.out | refine below_set ?_ GE113.out) | exact HB.out)⟩⟩
  case rest =>
    clear HC4
    try clear c1
    try clear c2
    try clear p2
    try clear c8
    try clear c8b0
    try clear c8b1
    try clear c9
    try clear c10
    try clear c11
    try clear c12
    try clear c13
    try clear hcz11_0
    try clear hcz11_1
    try clear hcz11_2
    try clear hcz11_3
    try clear hcz11_4
    try clear hcz11_5
    try clear hcz14_0
    try clear hcz14_1
    try clear hcz14_2
    try clear hcz14_3
    try clear hcz14_4
    try clear hcz14_5
    try clear hfz11_0
    try clear hfz11_1
    try clear hfz11_2
    try clear hfz11_3
    try clear hfz11_4
    try clear hfz11_5
    try clear hfz14_0
    try clear hfz14_1
    try clear hfz14_2
    try clear hfz14_3
    try clear hfz14_4
    try clear hfz14_5
    obtain ⟨kq, x23_3, rfl, HA, HJ3, U4, U5, U6, U7, BK111, BK112, BK113, HB⟩ := hcut
    cases kq with
    | zero => exact absurd HA.out (by simp [jval_Put.j0])
    | succ kj3 =>
      have H := HA.out
      clear HA
      simp only [jval_Put.j0] at H
      by_cases c15 : x23_3 = true
      · subst c15
        have H1 : (some (a0_0, a0_1, a0_2, a0_3, l0_4, l0_5)) = some (r1, r2, r3, r4, r5, r6) := by rw [if_pos rfl] at H; exact H
        clear H
        have H := H1
        clear H1
        simp only [Option.some.injEq, Prod.mk.injEq] at H
        obtain ⟨rfl, rfl, rfl, rfl, rfl, rfl⟩ := H
        have hnb16 := NB111_112.out
        have hnc16 := NB112_111.out
        have hnb17 := NB111_113.out
        have hnc17 := NB113_111.out
        have hcz18_0 : wc.cell? ⟨g1, 0, none⟩ = some (.int .i64 a0_0) := (blk_cell BK111.out 0).trans rfl
        have hcz18_1 : wc.cell? ⟨g1, 1, none⟩ = some (.int .i64 a0_1) := (blk_cell BK111.out 1).trans rfl
        have hcz18_2 : wc.cell? ⟨g1, 2, none⟩ = some (.int .i64 a0_2) := (blk_cell BK111.out 2).trans rfl
        have hcz18_3 : wc.cell? ⟨g1, 3, none⟩ = some (.string a0_3) := (blk_cell BK111.out 3).trans rfl
        have hcz18_4 : wc.cell? ⟨g1, 4, none⟩ = some (.slice A0_4 l0_4.length c0_4) := (blk_cell BK111.out 4).trans rfl
        have hcz18_5 : wc.cell? ⟨g1, 5, none⟩ = some (.slice A0_5 l0_5.length c0_5) := (blk_cell BK111.out 5).trans rfl
        have hfz18_0 := blk_frozen BK111.out 0
        have hfz18_1 := blk_frozen BK111.out 1
        have hfz18_2 := blk_frozen BK111.out 2
        have hfz18_3 := blk_frozen BK111.out 3
        have hfz18_4 := blk_frozen BK111.out 4
        have hfz18_5 := blk_frozen BK111.out 5
        have hnb19 := NB113_112.out
        have hnc19 := NB112_113.out
        have hcz20_0 : wc.cell? ⟨g3, 0, none⟩ = some (.int .i64 0) := (blk_cell BK113.out 0).trans rfl
        have hcz20_1 : wc.cell? ⟨g3, 1, none⟩ = some (.int .i64 0) := (blk_cell BK113.out 1).trans rfl
        have hcz20_2 : wc.cell? ⟨g3, 2, none⟩ = some (.int .i64 0) := (blk_cell BK113.out 2).trans rfl
        have hcz20_3 : wc.cell? ⟨g3, 3, none⟩ = some (.string (⟨#[]⟩ : ByteArray)) := (blk_cell BK113.out 3).trans rfl
        have hcz20_4 : wc.cell? ⟨g3, 4, none⟩ = some (.slice none 0 0) := (blk_cell BK113.out 4).trans rfl
        have hcz20_5 : wc.cell? ⟨g3, 5, none⟩ = some (.slice none 0 0) := (blk_cell BK113.out 5).trans rfl
        have hfz20_0 := blk_frozen BK113.out 0
        have hfz20_1 := blk_frozen BK113.out 1
        have hfz20_2 := blk_frozen BK113.out 2
        have hfz20_3 := blk_frozen BK113.out 3
        have hfz20_4 := blk_frozen BK113.out 4
        have hfz20_5 := blk_frozen BK113.out 5
        go_wp2
        refine bodyPost_ret (results_cell_row rfl _ _ g3 27 #[.int .i64 a0_0, .int .i64 a0_1, .int .i64 a0_2, .string a0_3, .slice A0_4 l0_4.length c0_4, .slice A0_5 l0_5.length c0_5] (0, 0) _ rfl (by (with_reducible repeat (first | refine blk_drewN ?_ _ | refine blk_drew ?_ | refine blk_alloc ?_ _)); refine blk_put (cs := #[.int .i64 a0_0, .int .i64 a0_1, .int .i64 a0_2, .string a0_3, .slice A0_4 l0_4.length c0_4, .slice none 0 0]) ?_ 5 _ rfl; (with_reducible repeat (first | refine blk_drewN ?_ _ | refine blk_drew ?_ | refine blk_alloc ?_ _)); refine blk_put (cs := #[.int .i64 a0_0, .int .i64 a0_1, .int .i64 a0_2, .string a0_3, .slice none 0 0, .slice none 0 0]) ?_ 4 _ rfl; (with_reducible repeat (first | refine blk_drewN ?_ _ | refine blk_drew ?_ | refine blk_alloc ?_ _)); refine blk_put (cs := #[.int .i64 a0_0, .int .i64 a0_1, .int .i64 a0_2, .string (⟨#[]⟩ : ByteArray), .slice none 0 0, .slice none 0 0]) ?_ 3 _ rfl; (with_reducible repeat (first | refine blk_drewN ?_ _ | refine blk_drew ?_ | refine blk_alloc ?_ _)); refine blk_put (cs := #[.int .i64 a0_0, .int .i64 a0_1, .int .i64 0, .string (⟨#[]⟩ : ByteArray), .slice none 0 0, .slice none 0 0]) ?_ 2 _ rfl; (with_reducible repeat (first | refine blk_drewN ?_ _ | refine blk_drew ?_ | refine blk_alloc ?_ _)); refine blk_put (cs := #[.int .i64 a0_0, .int .i64 0, .int .i64 0, .string (⟨#[]⟩ : ByteArray), .slice none 0 0, .slice none 0 0]) ?_ 1 _ rfl; (with_reducible repeat (first | refine blk_drewN ?_ _ | refine blk_drew ?_ | refine blk_alloc ?_ _)); refine blk_put (cs := #[.int .i64 0, .int .i64 0, .int .i64 0, .string (⟨#[]⟩ : ByteArray), .slice none 0 0, .slice none 0 0]) ?_ 0 _ rfl; (with_reducible repeat (first | refine blk_drewN ?_ _ | refine blk_drew ?_ | refine blk_alloc ?_ _)); exact BK113.out) Try.underlying27 rfl (by kernel_rfl)) rfl ?_
        exact ⟨_, _, by first | rfl | (simp [errW_none, errW_some] <;> rfl) | (simp [*, errW_none, errW_some] <;> rfl), by (with_reducible repeat (first | apply Kd.V_alloc | apply Kd.V_drewN | apply Kd.V_drew)); exact Kd.V_mono (Kd.V_far (p := ⟨g3, 5, none⟩) (Kd.V_far (p := ⟨g3, 4, none⟩) (Kd.V_far (p := ⟨g3, 3, none⟩) (Kd.V_far (p := ⟨g3, 2, none⟩) (Kd.V_far (p := ⟨g3, 1, none⟩) (Kd.V_far (p := ⟨g3, 0, none⟩) (Kd.V_mono U4.out (fun q hk => (⟨hk, hk.2.2.2⟩ : _ ∧ q ≠ g3))) (fun _ hk => hk.2) (.int .i64 a0_0)) (fun _ hk => hk.2) (.int .i64 a0_1)) (fun _ hk => hk.2) (.int .i64 a0_2)) (fun _ hk => hk.2) (.string a0_3)) (fun _ hk => hk.2) (.slice A0_4 l0_4.length c0_4)) (fun _ hk => hk.2) (.slice A0_5 l0_5.length c0_5)) (fun _ hk => hk.1.1), by (with_reducible repeat (first | apply Kd.V_alloc | apply Kd.V_drewN | apply Kd.V_drew)); exact Kd.V_mono (Kd.V_far (p := ⟨g3, 5, none⟩) (Kd.V_far (p := ⟨g3, 4, none⟩) (Kd.V_far (p := ⟨g3, 3, none⟩) (Kd.V_far (p := ⟨g3, 2, none⟩) (Kd.V_far (p := ⟨g3, 1, none⟩) (Kd.V_far (p := ⟨g3, 0, none⟩) (Kd.V_mono U5.out (fun q hk => (⟨hk, hk.2.2.2⟩ : _ ∧ q ≠ g3))) (fun _ hk => hk.2) (.int .i64 a0_0)) (fun _ hk => hk.2) (.int .i64 a0_1)) (fun _ hk => hk.2) (.int .i64 a0_2)) (fun _ hk => hk.2) (.string a0_3)) (fun _ hk => hk.2) (.slice A0_4 l0_4.length c0_4)) (fun _ hk => hk.2) (.slice A0_5 l0_5.length c0_5)) (fun _ hk => hk.1.1), by repeat (first | (with_reducible first | exact HB.out | apply below_alloc | apply pw_below_drewN | apply below_drew1 | refine below_set ?_ GE111.out | refine below_set ?_ GE112.out | refine below_set ?_ GE113.out) | exact HB.out)⟩
      · replace c15 := Bool.eq_false_iff.mpr c15
        subst c15
        have H1 : ((jval_place.f kj3 l0_5 a1).bind fun bt114 => (if bt114.2 = true then ((some (([] : List ByteArray) : List ByteArray)).bind fun y116 => (if 0 ≤ bt114.1 then (if bt114.1 ≤ (l0_5.length : Int) then ((some (l0_5.take (bt114.1 : Int).toNat : List ByteArray)).bind fun y119 => (if y116.length + y119.length < 8796093022208 then ((some (y116 ++ y119 : List ByteArray)).bind fun y124 => ((some (([a1] : List ByteArray) : List ByteArray)).bind fun y127 => (if y124.length + y127.length < 8796093022208 then ((some (y124 ++ y127 : List ByteArray)).bind fun y130 => (if 0 ≤ (wrap64 (bt114.1 + 1)) then (if (wrap64 (bt114.1 + 1)) ≤ (l0_5.length : Int) then ((some (l0_5.drop ((wrap64 (bt114.1 + 1)) : Int).toNat : List ByteArray)).bind fun y133 => (if y130.length + y133.length < 8796093022208 then ((some (([] : List (S27)) : List (S27))).bind fun y141 => (if bt114.1 ≤ (l0_4.length : Int) then ((some (l0_4.take (bt114.1 : Int).toNat : List (S27))).bind fun y144 => (if y141.length + y144.length < 1599289640401 then ((some (y141 ++ y144 : List (S27))).bind fun y149 => ((some (([(⟨a2_0, (⟨a2_1, a2_2⟩ : S23), a2_3, l2_4, l2_5⟩ : S27)] : List (S27)) : List (S27))).bind fun y152 => (if y149.length + y152.length < 1599289640401 then ((some (y149 ++ y152 : List (S27))).bind fun y155 => (if (wrap64 (bt114.1 + 1)) ≤ (l0_4.length : Int) then ((some (l0_4.drop ((wrap64 (bt114.1 + 1)) : Int).toNat : List (S27))).bind fun y158 => (if y155.length + y158.length < 1599289640401 then (some (6, 0, 0, (⟨#[]⟩ : ByteArray), (y155 ++ y158), (y130 ++ y133))) else (none))) else (none))) else (none)))) else (none))) else (none))) else (none))) else (none)) else (none))) else (none)))) else (none))) else (none)) else (none))) else ((some (([] : List ByteArray) : List ByteArray)).bind fun y166 => (if 0 ≤ bt114.1 then (if bt114.1 ≤ (l0_5.length : Int) then ((some (l0_5.take (bt114.1 : Int).toNat : List ByteArray)).bind fun y169 => (if y166.length + y169.length < 8796093022208 then ((some (y166 ++ y169 : List ByteArray)).bind fun y174 => ((some (([a1] : List ByteArray) : List ByteArray)).bind fun y177 => (if y174.length + y177.length < 8796093022208 then ((some (y174 ++ y177 : List ByteArray)).bind fun y180 => ((some (l0_5.drop (bt114.1 : Int).toNat : List ByteArray)).bind fun y183 => (if y180.length + y183.length < 8796093022208 then ((some (([] : List (S27)) : List (S27))).bind fun y191 => (if bt114.1 ≤ (l0_4.length : Int) then ((some (l0_4.take (bt114.1 : Int).toNat : List (S27))).bind fun y194 => (if y191.length + y194.length < 1599289640401 then ((some (y191 ++ y194 : List (S27))).bind fun y199 => ((some (([(⟨a2_0, (⟨a2_1, a2_2⟩ : S23), a2_3, l2_4, l2_5⟩ : S27)] : List (S27)) : List (S27))).bind fun y202 => (if y199.length + y202.length < 1599289640401 then ((some (y199 ++ y202 : List (S27))).bind fun y205 => ((some (l0_4.drop (bt114.1 : Int).toNat : List (S27))).bind fun y208 => (if y205.length + y208.length < 1599289640401 then (some (6, 0, 0, (⟨#[]⟩ : ByteArray), (y205 ++ y208), (y180 ++ y183))) else (none)))) else (none)))) else (none))) else (none))) else (none)))) else (none)))) else (none))) else (none)) else (none))))) = some (r1, r2, r3, r4, r5, r6) := by rw [if_neg (show ¬ (false = true) by decide)] at H; exact H
        clear H
        have H := H1
        clear H1
        replace H := Option.bind_eq_some_iff.mp H
        obtain ⟨⟨t114, t115⟩, A210, H⟩ := H
        replace H : (if t115 = true then ((some (([] : List ByteArray) : List ByteArray)).bind fun y116 => (if 0 ≤ t114 then (if t114 ≤ (l0_5.length : Int) then ((some (l0_5.take (t114 : Int).toNat : List ByteArray)).bind fun y119 => (if y116.length + y119.length < 8796093022208 then ((some (y116 ++ y119 : List ByteArray)).bind fun y124 => ((some (([a1] : List ByteArray) : List ByteArray)).bind fun y127 => (if y124.length + y127.length < 8796093022208 then ((some (y124 ++ y127 : List ByteArray)).bind fun y130 => (if 0 ≤ (wrap64 (t114 + 1)) then (if (wrap64 (t114 + 1)) ≤ (l0_5.length : Int) then ((some (l0_5.drop ((wrap64 (t114 + 1)) : Int).toNat : List ByteArray)).bind fun y133 => (if y130.length + y133.length < 8796093022208 then ((some (([] : List (S27)) : List (S27))).bind fun y141 => (if t114 ≤ (l0_4.length : Int) then ((some (l0_4.take (t114 : Int).toNat : List (S27))).bind fun y144 => (if y141.length + y144.length < 1599289640401 then ((some (y141 ++ y144 : List (S27))).bind fun y149 => ((some (([(⟨a2_0, (⟨a2_1, a2_2⟩ : S23), a2_3, l2_4, l2_5⟩ : S27)] : List (S27)) : List (S27))).bind fun y152 => (if y149.length + y152.length < 1599289640401 then ((some (y149 ++ y152 : List (S27))).bind fun y155 => (if (wrap64 (t114 + 1)) ≤ (l0_4.length : Int) then ((some (l0_4.drop ((wrap64 (t114 + 1)) : Int).toNat : List (S27))).bind fun y158 => (if y155.length + y158.length < 1599289640401 then (some (6, 0, 0, (⟨#[]⟩ : ByteArray), (y155 ++ y158), (y130 ++ y133))) else (none))) else (none))) else (none)))) else (none))) else (none))) else (none))) else (none)) else (none))) else (none)))) else (none))) else (none)) else (none))) else ((some (([] : List ByteArray) : List ByteArray)).bind fun y166 => (if 0 ≤ t114 then (if t114 ≤ (l0_5.length : Int) then ((some (l0_5.take (t114 : Int).toNat : List ByteArray)).bind fun y169 => (if y166.length + y169.length < 8796093022208 then ((some (y166 ++ y169 : List ByteArray)).bind fun y174 => ((some (([a1] : List ByteArray) : List ByteArray)).bind fun y177 => (if y174.length + y177.length < 8796093022208 then ((some (y174 ++ y177 : List ByteArray)).bind fun y180 => ((some (l0_5.drop (t114 : Int).toNat : List ByteArray)).bind fun y183 => (if y180.length + y183.length < 8796093022208 then ((some (([] : List (S27)) : List (S27))).bind fun y191 => (if t114 ≤ (l0_4.length : Int) then ((some (l0_4.take (t114 : Int).toNat : List (S27))).bind fun y194 => (if y191.length + y194.length < 1599289640401 then ((some (y191 ++ y194 : List (S27))).bind fun y199 => ((some (([(⟨a2_0, (⟨a2_1, a2_2⟩ : S23), a2_3, l2_4, l2_5⟩ : S27)] : List (S27)) : List (S27))).bind fun y202 => (if y199.length + y202.length < 1599289640401 then ((some (y199 ++ y202 : List (S27))).bind fun y205 => ((some (l0_4.drop (t114 : Int).toNat : List (S27))).bind fun y208 => (if y205.length + y208.length < 1599289640401 then (some (6, 0, 0, (⟨#[]⟩ : ByteArray), (y205 ++ y208), (y180 ++ y183))) else (none)))) else (none)))) else (none))) else (none))) else (none)))) else (none)))) else (none))) else (none)) else (none)))) = some (r1, r2, r3, r4, r5, r6) := H
        have A21 := Aside0.mk A210
        clear A210
        by_cases c22 : t115 = true
        · exact absurd A21.out (by rw [c22]; exact hx_ _ _)
        · replace c22 := Bool.eq_false_iff.mpr c22
          subst c22
          have H1 : ((some (([] : List ByteArray) : List ByteArray)).bind fun y166 => (if 0 ≤ t114 then (if t114 ≤ (l0_5.length : Int) then ((some (l0_5.take (t114 : Int).toNat : List ByteArray)).bind fun y169 => (if y166.length + y169.length < 8796093022208 then ((some (y166 ++ y169 : List ByteArray)).bind fun y174 => ((some (([a1] : List ByteArray) : List ByteArray)).bind fun y177 => (if y174.length + y177.length < 8796093022208 then ((some (y174 ++ y177 : List ByteArray)).bind fun y180 => ((some (l0_5.drop (t114 : Int).toNat : List ByteArray)).bind fun y183 => (if y180.length + y183.length < 8796093022208 then ((some (([] : List (S27)) : List (S27))).bind fun y191 => (if t114 ≤ (l0_4.length : Int) then ((some (l0_4.take (t114 : Int).toNat : List (S27))).bind fun y194 => (if y191.length + y194.length < 1599289640401 then ((some (y191 ++ y194 : List (S27))).bind fun y199 => ((some (([(⟨a2_0, (⟨a2_1, a2_2⟩ : S23), a2_3, l2_4, l2_5⟩ : S27)] : List (S27)) : List (S27))).bind fun y202 => (if y199.length + y202.length < 1599289640401 then ((some (y199 ++ y202 : List (S27))).bind fun y205 => ((some (l0_4.drop (t114 : Int).toNat : List (S27))).bind fun y208 => (if y205.length + y208.length < 1599289640401 then (some (6, 0, 0, (⟨#[]⟩ : ByteArray), (y205 ++ y208), (y180 ++ y183))) else (none)))) else (none)))) else (none))) else (none))) else (none)))) else (none)))) else (none))) else (none)) else (none))) = some (r1, r2, r3, r4, r5, r6) := by rw [if_neg (show ¬ (false = true) by decide)] at H; exact H
          clear H
          have H := H1
          clear H1
          obtain ⟨y166, hy166⟩ : ∃ y_ : List ByteArray, y_ = (([] : List ByteArray)) := ⟨_, rfl⟩
          replace H : (if 0 ≤ t114 then (if t114 ≤ (l0_5.length : Int) then ((some (l0_5.take (t114 : Int).toNat : List ByteArray)).bind fun y169 => (if y166.length + y169.length < 8796093022208 then ((some (y166 ++ y169 : List ByteArray)).bind fun y174 => ((some (([a1] : List ByteArray) : List ByteArray)).bind fun y177 => (if y174.length + y177.length < 8796093022208 then ((some (y174 ++ y177 : List ByteArray)).bind fun y180 => ((some (l0_5.drop (t114 : Int).toNat : List ByteArray)).bind fun y183 => (if y180.length + y183.length < 8796093022208 then ((some (([] : List (S27)) : List (S27))).bind fun y191 => (if t114 ≤ (l0_4.length : Int) then ((some (l0_4.take (t114 : Int).toNat : List (S27))).bind fun y194 => (if y191.length + y194.length < 1599289640401 then ((some (y191 ++ y194 : List (S27))).bind fun y199 => ((some (([(⟨a2_0, (⟨a2_1, a2_2⟩ : S23), a2_3, l2_4, l2_5⟩ : S27)] : List (S27)) : List (S27))).bind fun y202 => (if y199.length + y202.length < 1599289640401 then ((some (y199 ++ y202 : List (S27))).bind fun y205 => ((some (l0_4.drop (t114 : Int).toNat : List (S27))).bind fun y208 => (if y205.length + y208.length < 1599289640401 then (some (6, 0, 0, (⟨#[]⟩ : ByteArray), (y205 ++ y208), (y180 ++ y183))) else (none)))) else (none)))) else (none))) else (none))) else (none)))) else (none)))) else (none))) else (none)) else (none)) = some (r1, r2, r3, r4, r5, r6) := by first | (rw [hy166]; with_reducible exact H) | (have H2_ := (Option.bind_some _ _).symm.trans H; rw [hy166]; with_reducible exact H2_) | (have H2_ := (Option.bind_some _ _).symm.trans H; with_reducible exact H2_) | with_reducible exact H | (rw [hy166]; exact H) | exact H
          have Ny166 := Aside0.mk hy166
          clear hy166
          by_cases c69 : 0 ≤ t114
          case neg =>
            rw [if_neg c69] at H
            exact absurd H (by simp)
          rw [if_pos c69] at H
          have c69b0 := eq_true c69
          have c69b1 : decide (0 ≤ t114) = true := decide_eq_true c69
          clear c69
          by_cases c70 : t114 ≤ (l0_5.length : Int)
          case neg =>
            rw [if_neg c70] at H
            exact absurd H (by simp)
          rw [if_pos c70] at H
          have c70b0 := eq_true c70
          have c70b1 : decide (t114 ≤ (l0_5.length : Int)) = true := decide_eq_true c70
          clear c70
          obtain ⟨y169, hy169⟩ : ∃ y_ : List ByteArray, y_ = (l0_5.take (t114 : Int).toNat) := ⟨_, rfl⟩
          replace H : (if y166.length + y169.length < 8796093022208 then ((some (y166 ++ y169 : List ByteArray)).bind fun y174 => ((some (([a1] : List ByteArray) : List ByteArray)).bind fun y177 => (if y174.length + y177.length < 8796093022208 then ((some (y174 ++ y177 : List ByteArray)).bind fun y180 => ((some (l0_5.drop (t114 : Int).toNat : List ByteArray)).bind fun y183 => (if y180.length + y183.length < 8796093022208 then ((some (([] : List (S27)) : List (S27))).bind fun y191 => (if t114 ≤ (l0_4.length : Int) then ((some (l0_4.take (t114 : Int).toNat : List (S27))).bind fun y194 => (if y191.length + y194.length < 1599289640401 then ((some (y191 ++ y194 : List (S27))).bind fun y199 => ((some (([(⟨a2_0, (⟨a2_1, a2_2⟩ : S23), a2_3, l2_4, l2_5⟩ : S27)] : List (S27)) : List (S27))).bind fun y202 => (if y199.length + y202.length < 1599289640401 then ((some (y199 ++ y202 : List (S27))).bind fun y205 => ((some (l0_4.drop (t114 : Int).toNat : List (S27))).bind fun y208 => (if y205.length + y208.length < 1599289640401 then (some (6, 0, 0, (⟨#[]⟩ : ByteArray), (y205 ++ y208), (y180 ++ y183))) else (none)))) else (none)))) else (none))) else (none))) else (none)))) else (none)))) else (none)) = some (r1, r2, r3, r4, r5, r6) := by first | (rw [hy169]; with_reducible exact H) | (have H2_ := (Option.bind_some _ _).symm.trans H; rw [hy169]; with_reducible exact H2_) | (have H2_ := (Option.bind_some _ _).symm.trans H; with_reducible exact H2_) | with_reducible exact H | (rw [hy169]; exact H) | exact H
          have Ny169 := Aside0.mk hy169
          clear hy169
          by_cases c71 : y166.length + y169.length < 8796093022208
          case neg =>
            rw [if_neg c71] at H
            exact absurd H (by simp)
          rw [if_pos c71] at H
          have LMc71 := Aside0.mk c71
          clear c71
          obtain ⟨y174, hy174⟩ : ∃ y_ : List ByteArray, y_ = (y166 ++ y169) := ⟨_, rfl⟩
          replace H : ((some (([a1] : List ByteArray) : List ByteArray)).bind fun y177 => (if y174.length + y177.length < 8796093022208 then ((some (y174 ++ y177 : List ByteArray)).bind fun y180 => ((some (l0_5.drop (t114 : Int).toNat : List ByteArray)).bind fun y183 => (if y180.length + y183.length < 8796093022208 then ((some (([] : List (S27)) : List (S27))).bind fun y191 => (if t114 ≤ (l0_4.length : Int) then ((some (l0_4.take (t114 : Int).toNat : List (S27))).bind fun y194 => (if y191.length + y194.length < 1599289640401 then ((some (y191 ++ y194 : List (S27))).bind fun y199 => ((some (([(⟨a2_0, (⟨a2_1, a2_2⟩ : S23), a2_3, l2_4, l2_5⟩ : S27)] : List (S27)) : List (S27))).bind fun y202 => (if y199.length + y202.length < 1599289640401 then ((some (y199 ++ y202 : List (S27))).bind fun y205 => ((some (l0_4.drop (t114 : Int).toNat : List (S27))).bind fun y208 => (if y205.length + y208.length < 1599289640401 then (some (6, 0, 0, (⟨#[]⟩ : ByteArray), (y205 ++ y208), (y180 ++ y183))) else (none)))) else (none)))) else (none))) else (none))) else (none)))) else (none))) = some (r1, r2, r3, r4, r5, r6) := by first | (rw [hy174]; with_reducible exact H) | (have H2_ := (Option.bind_some _ _).symm.trans H; rw [hy174]; with_reducible exact H2_) | (have H2_ := (Option.bind_some _ _).symm.trans H; with_reducible exact H2_) | with_reducible exact H | (rw [hy174]; exact H) | exact H
          have Ny174 := Aside0.mk hy174
          clear hy174
          obtain ⟨y177, hy177⟩ : ∃ y_ : List ByteArray, y_ = (([a1] : List ByteArray)) := ⟨_, rfl⟩
          replace H : (if y174.length + y177.length < 8796093022208 then ((some (y174 ++ y177 : List ByteArray)).bind fun y180 => ((some (l0_5.drop (t114 : Int).toNat : List ByteArray)).bind fun y183 => (if y180.length + y183.length < 8796093022208 then ((some (([] : List (S27)) : List (S27))).bind fun y191 => (if t114 ≤ (l0_4.length : Int) then ((some (l0_4.take (t114 : Int).toNat : List (S27))).bind fun y194 => (if y191.length + y194.length < 1599289640401 then ((some (y191 ++ y194 : List (S27))).bind fun y199 => ((some (([(⟨a2_0, (⟨a2_1, a2_2⟩ : S23), a2_3, l2_4, l2_5⟩ : S27)] : List (S27)) : List (S27))).bind fun y202 => (if y199.length + y202.length < 1599289640401 then ((some (y199 ++ y202 : List (S27))).bind fun y205 => ((some (l0_4.drop (t114 : Int).toNat : List (S27))).bind fun y208 => (if y205.length + y208.length < 1599289640401 then (some (6, 0, 0, (⟨#[]⟩ : ByteArray), (y205 ++ y208), (y180 ++ y183))) else (none)))) else (none)))) else (none))) else (none))) else (none)))) else (none)) = some (r1, r2, r3, r4, r5, r6) := by first | (rw [hy177]; with_reducible exact H) | (have H2_ := (Option.bind_some _ _).symm.trans H; rw [hy177]; with_reducible exact H2_) | (have H2_ := (Option.bind_some _ _).symm.trans H; with_reducible exact H2_) | with_reducible exact H | (rw [hy177]; exact H) | exact H
          have Ny177 := Aside0.mk hy177
          clear hy177
          by_cases c72 : y174.length + y177.length < 8796093022208
          case neg =>
            rw [if_neg c72] at H
            exact absurd H (by simp)
          rw [if_pos c72] at H
          have LMc72 := Aside0.mk c72
          clear c72
          obtain ⟨y180, hy180⟩ : ∃ y_ : List ByteArray, y_ = (y174 ++ y177) := ⟨_, rfl⟩
          replace H : ((some (l0_5.drop (t114 : Int).toNat : List ByteArray)).bind fun y183 => (if y180.length + y183.length < 8796093022208 then ((some (([] : List (S27)) : List (S27))).bind fun y191 => (if t114 ≤ (l0_4.length : Int) then ((some (l0_4.take (t114 : Int).toNat : List (S27))).bind fun y194 => (if y191.length + y194.length < 1599289640401 then ((some (y191 ++ y194 : List (S27))).bind fun y199 => ((some (([(⟨a2_0, (⟨a2_1, a2_2⟩ : S23), a2_3, l2_4, l2_5⟩ : S27)] : List (S27)) : List (S27))).bind fun y202 => (if y199.length + y202.length < 1599289640401 then ((some (y199 ++ y202 : List (S27))).bind fun y205 => ((some (l0_4.drop (t114 : Int).toNat : List (S27))).bind fun y208 => (if y205.length + y208.length < 1599289640401 then (some (6, 0, 0, (⟨#[]⟩ : ByteArray), (y205 ++ y208), (y180 ++ y183))) else (none)))) else (none)))) else (none))) else (none))) else (none))) = some (r1, r2, r3, r4, r5, r6) := by first | (rw [hy180]; with_reducible exact H) | (have H2_ := (Option.bind_some _ _).symm.trans H; rw [hy180]; with_reducible exact H2_) | (have H2_ := (Option.bind_some _ _).symm.trans H; with_reducible exact H2_) | with_reducible exact H | (rw [hy180]; exact H) | exact H
          have Ny180 := Aside0.mk hy180
          clear hy180
          have c73b0 := eq_true (of_decide_eq_true (by first | (with_reducible assumption) | assumption) : 0 ≤ t114)
          have c74b0 := eq_true (of_decide_eq_true (by first | (with_reducible assumption) | assumption) : t114 ≤ (l0_5.length : Int))
          obtain ⟨y183, hy183⟩ : ∃ y_ : List ByteArray, y_ = (l0_5.drop (t114 : Int).toNat) := ⟨_, rfl⟩
          replace H : (if y180.length + y183.length < 8796093022208 then ((some (([] : List (S27)) : List (S27))).bind fun y191 => (if t114 ≤ (l0_4.length : Int) then ((some (l0_4.take (t114 : Int).toNat : List (S27))).bind fun y194 => (if y191.length + y194.length < 1599289640401 then ((some (y191 ++ y194 : List (S27))).bind fun y199 => ((some (([(⟨a2_0, (⟨a2_1, a2_2⟩ : S23), a2_3, l2_4, l2_5⟩ : S27)] : List (S27)) : List (S27))).bind fun y202 => (if y199.length + y202.length < 1599289640401 then ((some (y199 ++ y202 : List (S27))).bind fun y205 => ((some (l0_4.drop (t114 : Int).toNat : List (S27))).bind fun y208 => (if y205.length + y208.length < 1599289640401 then (some (6, 0, 0, (⟨#[]⟩ : ByteArray), (y205 ++ y208), (y180 ++ y183))) else (none)))) else (none)))) else (none))) else (none))) else (none)) = some (r1, r2, r3, r4, r5, r6) := by first | (rw [hy183]; with_reducible exact H) | (have H2_ := (Option.bind_some _ _).symm.trans H; rw [hy183]; with_reducible exact H2_) | (have H2_ := (Option.bind_some _ _).symm.trans H; with_reducible exact H2_) | with_reducible exact H | (rw [hy183]; exact H) | exact H
          have Ny183 := Aside0.mk hy183
          clear hy183
          by_cases c75 : y180.length + y183.length < 8796093022208
          case neg =>
            rw [if_neg c75] at H
            exact absurd H (by simp)
          rw [if_pos c75] at H
          have LMc75 := Aside0.mk c75
          clear c75
          obtain ⟨y188, hy188⟩ : ∃ y_ : List ByteArray, y_ = (y180 ++ y183) := ⟨_, rfl⟩
          replace H : ((some (([] : List (S27)) : List (S27))).bind fun y191 => (if t114 ≤ (l0_4.length : Int) then ((some (l0_4.take (t114 : Int).toNat : List (S27))).bind fun y194 => (if y191.length + y194.length < 1599289640401 then ((some (y191 ++ y194 : List (S27))).bind fun y199 => ((some (([(⟨a2_0, (⟨a2_1, a2_2⟩ : S23), a2_3, l2_4, l2_5⟩ : S27)] : List (S27)) : List (S27))).bind fun y202 => (if y199.length + y202.length < 1599289640401 then ((some (y199 ++ y202 : List (S27))).bind fun y205 => ((some (l0_4.drop (t114 : Int).toNat : List (S27))).bind fun y208 => (if y205.length + y208.length < 1599289640401 then (some (6, 0, 0, (⟨#[]⟩ : ByteArray), (y205 ++ y208), y188)) else (none)))) else (none)))) else (none))) else (none))) = some (r1, r2, r3, r4, r5, r6) := by first | (rw [hy188]; with_reducible exact H) | (have H2_ := (Option.bind_some _ _).symm.trans H; rw [hy188]; with_reducible exact H2_) | (have H2_ := (Option.bind_some _ _).symm.trans H; with_reducible exact H2_) | with_reducible exact H | (rw [hy188]; exact H) | exact H
          have Ny188 := Aside0.mk hy188
          clear hy188
          obtain ⟨y191, hy191⟩ : ∃ y_ : List (S27), y_ = (([] : List (S27))) := ⟨_, rfl⟩
          replace H : (if t114 ≤ (l0_4.length : Int) then ((some (l0_4.take (t114 : Int).toNat : List (S27))).bind fun y194 => (if y191.length + y194.length < 1599289640401 then ((some (y191 ++ y194 : List (S27))).bind fun y199 => ((some (([(⟨a2_0, (⟨a2_1, a2_2⟩ : S23), a2_3, l2_4, l2_5⟩ : S27)] : List (S27)) : List (S27))).bind fun y202 => (if y199.length + y202.length < 1599289640401 then ((some (y199 ++ y202 : List (S27))).bind fun y205 => ((some (l0_4.drop (t114 : Int).toNat : List (S27))).bind fun y208 => (if y205.length + y208.length < 1599289640401 then (some (6, 0, 0, (⟨#[]⟩ : ByteArray), (y205 ++ y208), y188)) else (none)))) else (none)))) else (none))) else (none)) = some (r1, r2, r3, r4, r5, r6) := by first | (rw [hy191]; with_reducible exact H) | (have H2_ := (Option.bind_some _ _).symm.trans H; rw [hy191]; with_reducible exact H2_) | (have H2_ := (Option.bind_some _ _).symm.trans H; with_reducible exact H2_) | with_reducible exact H | (rw [hy191]; exact H) | exact H
          have Ny191 := Aside0.mk hy191
          clear hy191
          have c76b0 := eq_true (of_decide_eq_true (by first | (with_reducible assumption) | assumption) : 0 ≤ t114)
          by_cases c77 : t114 ≤ (l0_4.length : Int)
          case neg =>
            rw [if_neg c77] at H
            exact absurd H (by simp)
          rw [if_pos c77] at H
          have c77b0 := eq_true c77
          have c77b1 : decide (t114 ≤ (l0_4.length : Int)) = true := decide_eq_true c77
          clear c77
          obtain ⟨y194, hy194⟩ : ∃ y_ : List (S27), y_ = (l0_4.take (t114 : Int).toNat) := ⟨_, rfl⟩
          replace H : (if y191.length + y194.length < 1599289640401 then ((some (y191 ++ y194 : List (S27))).bind fun y199 => ((some (([(⟨a2_0, (⟨a2_1, a2_2⟩ : S23), a2_3, l2_4, l2_5⟩ : S27)] : List (S27)) : List (S27))).bind fun y202 => (if y199.length + y202.length < 1599289640401 then ((some (y199 ++ y202 : List (S27))).bind fun y205 => ((some (l0_4.drop (t114 : Int).toNat : List (S27))).bind fun y208 => (if y205.length + y208.length < 1599289640401 then (some (6, 0, 0, (⟨#[]⟩ : ByteArray), (y205 ++ y208), y188)) else (none)))) else (none)))) else (none)) = some (r1, r2, r3, r4, r5, r6) := by first | (rw [hy194]; with_reducible exact H) | (have H2_ := (Option.bind_some _ _).symm.trans H; rw [hy194]; with_reducible exact H2_) | (have H2_ := (Option.bind_some _ _).symm.trans H; with_reducible exact H2_) | with_reducible exact H | (rw [hy194]; exact H) | exact H
          have Ny194 := Aside0.mk hy194
          clear hy194
          by_cases c78 : y191.length + y194.length < 1599289640401
          case neg =>
            rw [if_neg c78] at H
            exact absurd H (by simp)
          rw [if_pos c78] at H
          have LMc78 := Aside0.mk c78
          clear c78
          obtain ⟨y199, hy199⟩ : ∃ y_ : List (S27), y_ = (y191 ++ y194) := ⟨_, rfl⟩
          replace H : ((some (([(⟨a2_0, (⟨a2_1, a2_2⟩ : S23), a2_3, l2_4, l2_5⟩ : S27)] : List (S27)) : List (S27))).bind fun y202 => (if y199.length + y202.length < 1599289640401 then ((some (y199 ++ y202 : List (S27))).bind fun y205 => ((some (l0_4.drop (t114 : Int).toNat : List (S27))).bind fun y208 => (if y205.length + y208.length < 1599289640401 then (some (6, 0, 0, (⟨#[]⟩ : ByteArray), (y205 ++ y208), y188)) else (none)))) else (none))) = some (r1, r2, r3, r4, r5, r6) := by first | (rw [hy199]; with_reducible exact H) | (have H2_ := (Option.bind_some _ _).symm.trans H; rw [hy199]; with_reducible exact H2_) | (have H2_ := (Option.bind_some _ _).symm.trans H; with_reducible exact H2_) | with_reducible exact H | (rw [hy199]; exact H) | exact H
          have Ny199 := Aside0.mk hy199
          clear hy199
          obtain ⟨y202, hy202⟩ : ∃ y_ : List (S27), y_ = (([(⟨a2_0, (⟨a2_1, a2_2⟩ : S23), a2_3, l2_4, l2_5⟩ : S27)] : List (S27))) := ⟨_, rfl⟩
          replace H : (if y199.length + y202.length < 1599289640401 then ((some (y199 ++ y202 : List (S27))).bind fun y205 => ((some (l0_4.drop (t114 : Int).toNat : List (S27))).bind fun y208 => (if y205.length + y208.length < 1599289640401 then (some (6, 0, 0, (⟨#[]⟩ : ByteArray), (y205 ++ y208), y188)) else (none)))) else (none)) = some (r1, r2, r3, r4, r5, r6) := by first | (rw [hy202]; with_reducible exact H) | (have H2_ := (Option.bind_some _ _).symm.trans H; rw [hy202]; with_reducible exact H2_) | (have H2_ := (Option.bind_some _ _).symm.trans H; with_reducible exact H2_) | with_reducible exact H | (rw [hy202]; exact H) | exact H
          have Ny202 := Aside0.mk hy202
          clear hy202
          by_cases c79 : y199.length + y202.length < 1599289640401
          case neg =>
            rw [if_neg c79] at H
            exact absurd H (by simp)
          rw [if_pos c79] at H
          have LMc79 := Aside0.mk c79
          clear c79
          obtain ⟨y205, hy205⟩ : ∃ y_ : List (S27), y_ = (y199 ++ y202) := ⟨_, rfl⟩
          replace H : ((some (l0_4.drop (t114 : Int).toNat : List (S27))).bind fun y208 => (if y205.length + y208.length < 1599289640401 then (some (6, 0, 0, (⟨#[]⟩ : ByteArray), (y205 ++ y208), y188)) else (none))) = some (r1, r2, r3, r4, r5, r6) := by first | (rw [hy205]; with_reducible exact H) | (have H2_ := (Option.bind_some _ _).symm.trans H; rw [hy205]; with_reducible exact H2_) | (have H2_ := (Option.bind_some _ _).symm.trans H; with_reducible exact H2_) | with_reducible exact H | (rw [hy205]; exact H) | exact H
          have Ny205 := Aside0.mk hy205
          clear hy205
          have c80b0 := eq_true (of_decide_eq_true (by first | (with_reducible assumption) | assumption) : 0 ≤ t114)
          have c81b0 := eq_true (of_decide_eq_true (by first | (with_reducible assumption) | assumption) : t114 ≤ (l0_4.length : Int))
          obtain ⟨y208, hy208⟩ : ∃ y_ : List (S27), y_ = (l0_4.drop (t114 : Int).toNat) := ⟨_, rfl⟩
          replace H : (if y205.length + y208.length < 1599289640401 then (some (6, 0, 0, (⟨#[]⟩ : ByteArray), (y205 ++ y208), y188)) else (none)) = some (r1, r2, r3, r4, r5, r6) := by first | (rw [hy208]; with_reducible exact H) | (have H2_ := (Option.bind_some _ _).symm.trans H; rw [hy208]; with_reducible exact H2_) | (have H2_ := (Option.bind_some _ _).symm.trans H; with_reducible exact H2_) | with_reducible exact H | (rw [hy208]; exact H) | exact H
          have Ny208 := Aside0.mk hy208
          clear hy208
          by_cases c82 : y205.length + y208.length < 1599289640401
          case neg =>
            rw [if_neg c82] at H
            exact absurd H (by simp)
          rw [if_pos c82] at H
          have LMc82 := Aside0.mk c82
          clear c82
          obtain ⟨y213, hy213⟩ : ∃ y_ : List (S27), y_ = (y205 ++ y208) := ⟨_, rfl⟩
          replace H : (some (6, 0, 0, (⟨#[]⟩ : ByteArray), y213, y188)) = some (r1, r2, r3, r4, r5, r6) := by first | (rw [hy213]; with_reducible exact H) | (have H2_ := (Option.bind_some _ _).symm.trans H; rw [hy213]; with_reducible exact H2_) | (have H2_ := (Option.bind_some _ _).symm.trans H; with_reducible exact H2_) | with_reducible exact H | (rw [hy213]; exact H) | exact H
          have Ny213 := Aside0.mk hy213
          clear hy213
          simp only [Option.some.injEq, Prod.mk.injEq] at H
          obtain ⟨rfl, rfl, rfl, rfl, rfl, rfl⟩ := H
          have hnb83 := NB111_112.out
          have hnc83 := NB112_111.out
          have hnb84 := NB111_113.out
          have hnc84 := NB113_111.out
          have hcz85_0 : wc.cell? ⟨g1, 0, none⟩ = some (.int .i64 a0_0) := (blk_cell BK111.out 0).trans rfl
          have hcz85_1 : wc.cell? ⟨g1, 1, none⟩ = some (.int .i64 a0_1) := (blk_cell BK111.out 1).trans rfl
          have hcz85_2 : wc.cell? ⟨g1, 2, none⟩ = some (.int .i64 a0_2) := (blk_cell BK111.out 2).trans rfl
          have hcz85_3 : wc.cell? ⟨g1, 3, none⟩ = some (.string a0_3) := (blk_cell BK111.out 3).trans rfl
          have hcz85_4 : wc.cell? ⟨g1, 4, none⟩ = some (.slice A0_4 l0_4.length c0_4) := (blk_cell BK111.out 4).trans rfl
          have hcz85_5 : wc.cell? ⟨g1, 5, none⟩ = some (.slice A0_5 l0_5.length c0_5) := (blk_cell BK111.out 5).trans rfl
          have hfz85_0 := blk_frozen BK111.out 0
          have hfz85_1 := blk_frozen BK111.out 1
          have hfz85_2 := blk_frozen BK111.out 2
          have hfz85_3 := blk_frozen BK111.out 3
          have hfz85_4 := blk_frozen BK111.out 4
          have hfz85_5 := blk_frozen BK111.out 5
          try go_wp2_with (first | ((with_reducible refine gate_callee (f := 28) rfl ?_); refine goesL_ (some 29) rfl rfl Try.func28 (by kernel_rfl) rfl #[.slice A0_5 l0_5.length c0_5, .string a1] rfl (by (try simp only [List.map_toArray, List.map_cons, List.map_nil]); first | done | rfl | (simp only [List.length_drop, List.length_take]; rfl)) ?_; (with_reducible refine (jval_place.calls kj3 _ _ l0_5 a1 t114 false _ ?side1 ?side2 A21.out).mono ?_); (case side1 => repeat (first | exact (Kd.V_reads' U5.out).2.2 | (with_reducible refine Kd.C_alloc ?_ _) | (with_reducible refine Kd.C_drewN ?_ _) | (with_reducible refine Kd.C_drew ?_))); (case side2 => exact (Kd.V_reads' U5.out).2.1); rintro e w' ⟨rfl, ⟨nd, rfl⟩⟩; refine ⟨_, rfl, ?_⟩; (try (rw [drewN_self wc]; generalize hq_ : World.drewN wc _ = wc; have n0_ : Aside0 (Kd.V k27 27 wc w.heap.size (fun q => ((P4 q ∨ P5 q ∨ Q4 q ∨ Q5 q) ∨ w.heap.size ≤ q) ∧ q ≠ g1 ∧ q ≠ g2 ∧ q ≠ g3) (.slice A0_4 l0_4.length c0_4) l0_4) := ⟨by rw [← hq_]; exact (by (with_reducible repeat (first | apply Kd.V_alloc | apply Kd.V_drewN | apply Kd.V_drew)); exact U4.out)⟩; have n1_ : Aside0 (Kd.V Kd.string 9 wc w.heap.size (fun q => ((P4 q ∨ P5 q ∨ Q4 q ∨ Q5 q) ∨ w.heap.size ≤ q) ∧ q ≠ g1 ∧ q ≠ g2 ∧ q ≠ g3) (.slice A0_5 l0_5.length c0_5) l0_5) := ⟨by rw [← hq_]; exact (by (with_reducible repeat (first | apply Kd.V_alloc | apply Kd.V_drewN | apply Kd.V_drew)); exact U5.out)⟩; have n2_ : Aside0 (Kd.V k27 27 wc w.heap.size (fun q => ((P4 q ∨ P5 q ∨ Q4 q ∨ Q5 q) ∨ w.heap.size ≤ q) ∧ q ≠ g1 ∧ q ≠ g2 ∧ q ≠ g3) (.slice A2_4 l2_4.length c2_4) l2_4) := ⟨by rw [← hq_]; exact (by (with_reducible repeat (first | apply Kd.V_alloc | apply Kd.V_drewN | apply Kd.V_drew)); exact U6.out)⟩; have n3_ : Aside0 (Kd.V Kd.string 9 wc w.heap.size (fun q => ((P4 q ∨ P5 q ∨ Q4 q ∨ Q5 q) ∨ w.heap.size ≤ q) ∧ q ≠ g1 ∧ q ≠ g2 ∧ q ≠ g3) (.slice A2_5 l2_5.length c2_5) l2_5) := ⟨by rw [← hq_]; exact (by (with_reducible repeat (first | apply Kd.V_alloc | apply Kd.V_drewN | apply Kd.V_drew)); exact U7.out)⟩; have n4_ : Aside0 (wc.heap[g1]? = some (.cells #[.int .i64 a0_0, .int .i64 a0_1, .int .i64 a0_2, .string a0_3, .slice A0_4 l0_4.length c0_4, .slice A0_5 l0_5.length c0_5] 27 (0, 0))) := ⟨by rw [← hq_]; exact (by (with_reducible repeat (first | refine blk_drewN ?_ _ | refine blk_drew ?_ | refine blk_alloc ?_ _)); exact BK111.out)⟩; have n5_ : Aside0 (wc.heap[g2]? = some (.cells #[.int .i64 a2_0, .int .i64 a2_1, .int .i64 a2_2, .string a2_3, .slice A2_4 l2_4.length c2_4, .slice A2_5 l2_5.length c2_5] 27 (0, 0))) := ⟨by rw [← hq_]; exact (by (with_reducible repeat (first | refine blk_drewN ?_ _ | refine blk_drew ?_ | refine blk_alloc ?_ _)); exact BK112.out)⟩; have n6_ : Aside0 (wc.heap[g3]? = some (.cells #[.int .i64 0, .int .i64 0, .int .i64 0, .string (⟨#[]⟩ : ByteArray), .slice none 0 0, .slice none 0 0] 27 (0, 0))) := ⟨by rw [← hq_]; exact (by (with_reducible repeat (first | refine blk_drewN ?_ _ | refine blk_drew ?_ | refine blk_alloc ?_ _)); exact BK113.out)⟩; have n7_ : Aside0 (Below w.heap.size w wc) := ⟨by rw [← hq_]; exact (by repeat (first | (with_reducible first | exact HB.out | apply below_alloc | apply pw_below_drewN | apply below_drew1 | refine below_set ?_ GE111.out | refine below_set ?_ GE112.out | refine below_set ?_ GE113.out) | exact HB.out))⟩; clear U4 U5 U6 U7 BK111 BK112 BK113 HB hq_; have U4 := n0_; have U5 := n1_; have U6 := n2_; have U7 := n3_; have BK111 := n4_; have BK112 := n5_; have BK113 := n6_; have HB := n7_; clear n0_ n1_ n2_ n3_ n4_ n5_ n6_ n7_)); (try have hczu111_0 : wc.cell? ⟨g1, 0, none⟩ = some (.int .i64 a0_0) := (blk_cell BK111.out 0).trans rfl); (try have hczu111_1 : wc.cell? ⟨g1, 1, none⟩ = some (.int .i64 a0_1) := (blk_cell BK111.out 1).trans rfl); (try have hczu111_2 : wc.cell? ⟨g1, 2, none⟩ = some (.int .i64 a0_2) := (blk_cell BK111.out 2).trans rfl); (try have hczu111_3 : wc.cell? ⟨g1, 3, none⟩ = some (.string a0_3) := (blk_cell BK111.out 3).trans rfl); (try have hczu111_4 : wc.cell? ⟨g1, 4, none⟩ = some (.slice A0_4 l0_4.length c0_4) := (blk_cell BK111.out 4).trans rfl); (try have hczu111_5 : wc.cell? ⟨g1, 5, none⟩ = some (.slice A0_5 l0_5.length c0_5) := (blk_cell BK111.out 5).trans rfl); (try have hfzu111_0 := blk_frozen BK111.out 0); (try have hfzu111_1 := blk_frozen BK111.out 1); (try have hfzu111_2 := blk_frozen BK111.out 2); (try have hfzu111_3 := blk_frozen BK111.out 3); (try have hfzu111_4 := blk_frozen BK111.out 4); (try have hfzu111_5 := blk_frozen BK111.out 5)))
          have n0_ := Aside0.mk (Kd.V_drew U4.out)
          have n1_ := Aside0.mk (Kd.V_drew U5.out)
          have n2_ := Aside0.mk (Kd.V_drew U6.out)
          have n3_ := Aside0.mk (Kd.V_drew U7.out)
          have n4_ := Aside0.mk (blk_drew BK111.out)
          have n5_ := Aside0.mk (blk_drew BK112.out)
          have n6_ := Aside0.mk (blk_drew BK113.out)
          have n7_ := Aside0.mk (below_drew1 HB.out)
          clear U4
          clear U5
          clear U6
          clear U7
          clear BK111
          clear BK112
          clear BK113
          clear HB
          have U4 := n0_
          have U5 := n1_
          have U6 := n2_
          have U7 := n3_
          have BK111 := n4_
          have BK112 := n5_
          have BK113 := n6_
          have HB := n7_
          clear n0_ n1_ n2_ n3_ n4_ n5_ n6_ n7_
          have q87 : (t114 : Int) ≤ ((l0_5.length : Int) : Int) := of_decide_eq_true (by first | (with_reducible assumption) | assumption)
          obtain ⟨i087, hi087, _, hsz87, _⟩ := info_parts info9
          have hroom87 : l0_5.length ≤ c0_5 := (Kd.V_reads' U5.out).2.1
          have hC87 : Kd.F Kd.string _ _ A0_5 l0_5.length l0_5 := (Kd.V_at (base := w.heap.size) U5.out).2.2
          have hcut87 := cut_to (P := Try.prog) 25 9 .i64 Try.underlying25 hi087 A0_5 l0_5.length c0_5 t114 (of_decide_eq_true (by first | (with_reducible assumption) | assumption)) q87 hroom87
          have hr87 := Kd.F_take (m := (t114 : Int).toNat) hC87 (by omega)
          have hy87 : y169.length = (t114 : Int).toNat := (by rw [Ny169.out, List.length_take]; omega)
          rw [← Ny169.out] at hr87
          rw [← hy87] at hcut87
          have HO173 := Aside0.mk (show Kd.V Kd.string 9 _ w.heap.size _ (.slice A0_5 y169.length c0_5) y169 from Kd.V_mk (by omega) hr87)
          have HC173 := Aside0.mk (show y169.length ≤ c0_5 from by omega)
          clear hr87 hC87 hroom87 hi087 hsz87
          have KY87 := Aside0.mk hy87
          clear hy87
          replace q87 := eq_true q87
          have q88 : (t114 : Int) ≤ ((l0_5.length : Int) : Int) := of_decide_eq_true (by first | (with_reducible assumption) | assumption)
          obtain ⟨i088, hi088, _, hsz88, _⟩ := info_parts info9
          have hroom88 : l0_5.length ≤ c0_5 := (Kd.V_reads' U5.out).2.1
          have hC88 : Kd.F Kd.string _ _ A0_5 l0_5.length l0_5 := (Kd.V_at (base := w.heap.size) U5.out).2.2
          have q088 : (0 : Int) ≤ (t114 : Int) := of_decide_eq_true (by first | (with_reducible assumption) | assumption)
          have hcut88 := cut_from (P := Try.prog) 25 9 .i64 Try.underlying25 hi088 1 hsz88 A0_5 l0_5.length c0_5 t114 q088 q88
          have hr88 := Kd.F_cut (m := (t114 : Int).toNat) (c := c0_5) hC88 (by omega) hroom88
          obtain ⟨A88, hA88⟩ : ∃ A1, A1 = (if c0_5 = (t114 : Int).toNat then A0_5 else (A0_5 : Option Addr).map (·.add ((t114 : Int).toNat * 1))) := ⟨_, rfl⟩
          obtain ⟨c88, hc88⟩ : ∃ c1, c1 = c0_5 - (t114 : Int).toNat := ⟨_, rfl⟩
          have hy88 : y183.length = l0_5.length - (t114 : Int).toNat := (by rw [Ny183.out, List.length_drop] <;> omega)
          rw [show (l0_5).drop (t114 : Int).toNat = y183 from Ny183.out.symm] at hr88
          replace hr88 : Kd.F Kd.string _ _ A88 y183.length y183 := (by rw [hA88]; exact hr88)
          rw [← hy88, ← hA88, ← hc88] at hcut88
          have HO187 := Aside0.mk (show Kd.V Kd.string 9 _ w.heap.size _ (.slice A88 y183.length c88) y183 from Kd.V_mk (by rw [hy88, hc88]; exact Nat.sub_le_sub_right hroom88 _) hr88)
          have HC187 := Aside0.mk (show y183.length ≤ c88 from by rw [hy88, hc88]; exact Nat.sub_le_sub_right hroom88 _)
          clear hr88 hC88 hroom88 hi088 hsz88 hc88
          have KY88 := Aside0.mk hy88
          have KA88 := Aside0.mk hA88
          clear hy88 hA88
          replace q88 := eq_true q88
          refine start_ (n := 15) (S := fun w' => w'.cell? ⟨g1, 0, none⟩ = some (.int .i64 a0_0) ∧ w'.cell? ⟨g1, 1, none⟩ = some (.int .i64 a0_1) ∧ w'.cell? ⟨g1, 2, none⟩ = some (.int .i64 a0_2) ∧ w'.cell? ⟨g1, 3, none⟩ = some (.string a0_3) ∧ w'.cell? ⟨g1, 4, none⟩ = some (.slice A0_4 l0_4.length c0_4) ∧ w'.cell? ⟨g1, 5, none⟩ = some (.slice A0_5 l0_5.length c0_5)) (ds := []) #[false, false, false, false, false, false, false, false, false, false, false, false, false, false, false] (by kernel_rfl) rfl rfl ⟨(blk_cell BK111.out 0).trans rfl, (blk_cell BK111.out 1).trans rfl, (blk_cell BK111.out 2).trans rfl, (blk_cell BK111.out 3).trans rfl, (blk_cell BK111.out 4).trans rfl, (blk_cell BK111.out 5).trans rfl⟩ (fun hHeld => ?_); refine with_tabW jval_Put.tab7 jval_Put.bits7 (fun HT_ HW_ => ?_)
          generalize wc.drew = w86 at U4 U5 U6 U7 BK111 BK112 BK113 HB HO173 HO187 hHeld ⊢
          refine pure_ (i := 1) (N := some 37) (v := ?_) (a' := ?_) #[false, true, false, false, false, false, false, false, false, false, false, false, false, false, false] rfl rfl (any_of HT_.out (by kernel_rfl)) (fun _ _ _ h => h) (Or.inl ⟨by rfl, ?_⟩) ?_ ?_
          rotate_left
          · intro w'
            go_simp
            with_reducible rfl
          rotate_left
          · simp only [Act.put, List.setIfInBounds_toArray, List.set_cons_zero, List.set_cons_succ, i64_w, i32_w]
            rfl
          refine pure_ (i := 3) (N := some 39) (v := ?_) (a' := ?_) #[false, true, false, true, false, false, false, false, false, false, false, false, false, false, false] rfl rfl (any_of HT_.out (by kernel_rfl)) (fun _ _ _ h => h) (Or.inl ⟨by rfl, ?_⟩) ?_ ?_
          rotate_left
          · intro w'
            go_simp
            with_reducible rfl
          rotate_left
          · simp only [Act.put, List.setIfInBounds_toArray, List.set_cons_zero, List.set_cons_succ, i64_w, i32_w]
            rfl
          refine pure_ (i := 6) (N := some 42) (v := ?_) (a' := ?_) #[false, true, false, true, false, false, true, false, false, false, false, false, false, false, false] rfl rfl (any_of HT_.out (by kernel_rfl)) (fun _ _ _ h => h) (Or.inl ⟨by rfl, ?_⟩) ?_ ?_
          rotate_left
          · intro w'
            go_simp
            with_reducible rfl
          rotate_left
          · simp only [Act.put, List.setIfInBounds_toArray, List.set_cons_zero, List.set_cons_succ, i64_w, i32_w]
            rfl
          refine pure_ (i := 9) (N := some 45) (v := ?_) (a' := ?_) #[false, true, false, true, false, false, true, false, false, true, false, false, false, false, false] rfl rfl (any_of HT_.out (by kernel_rfl)) (fun _ _ _ h => h) (Or.inl ⟨by rfl, ?_⟩) ?_ ?_
          rotate_left
          · intro w'
            go_simp
            with_reducible rfl
          rotate_left
          · simp only [Act.put, List.setIfInBounds_toArray, List.set_cons_zero, List.set_cons_succ, i64_w, i32_w]
            rfl
          refine pure_ (i := 11) (N := some 47) (v := ?_) (a' := ?_) #[false, true, false, true, false, false, true, false, false, true, false, true, false, false, false] rfl rfl (any_of HT_.out (by kernel_rfl)) (fun _ _ _ h => h) (Or.inl ⟨by rfl, ?_⟩) ?_ ?_
          rotate_left
          · intro w'
            go_simp
            with_reducible rfl
          rotate_left
          · simp only [Act.put, List.setIfInBounds_toArray, List.set_cons_zero, List.set_cons_succ, i64_w, i32_w]
            rfl
          refine take_ (i := 2) (N := some 38) (v := ?_) (a' := ?_) #[false, true, true, true, false, false, true, false, false, true, false, true, false, false, false] rfl rfl (take_ofW HT_.out HW_.out (by kernel_rfl)) (fun _ _ _ h => h) (Or.inl ⟨by rfl, ?_⟩) hHeld ?_ ?_
          rotate_left
          · rintro w' ⟨s0, s1, s2, s3, s4, s5⟩
            go_simp
            with_reducible rfl
          rotate_left
          · simp only [Act.put, List.setIfInBounds_toArray, List.set_cons_zero, List.set_cons_succ, i64_w, i32_w]
            rfl
          refine pure_ (i := 4) (N := some 40) (v := ?_) (a' := ?_) #[false, true, true, true, true, false, true, false, false, true, false, true, false, false, false] rfl rfl (any_of HT_.out (by kernel_rfl)) (fun _ _ _ h => h) (Or.inl ⟨by rfl, ?_⟩) ?_ ?_
          rotate_left
          · intro w'
            go_simp
            with_reducible rfl
          rotate_left
          · simp only [Act.put, List.setIfInBounds_toArray, List.set_cons_zero, List.set_cons_succ, i64_w, i32_w]
            rfl
          refine take_ (i := 10) (N := some 46) (v := ?_) (a' := ?_) #[false, true, true, true, true, false, true, false, false, true, true, true, false, false, false] rfl rfl (take_ofW HT_.out HW_.out (by kernel_rfl)) (fun _ _ _ h => h) (Or.inl ⟨by rfl, ?_⟩) hHeld ?_ ?_
          rotate_left
          · rintro w' ⟨s0, s1, s2, s3, s4, s5⟩
            go_simp
            with_reducible rfl
          rotate_left
          · simp only [Act.put, List.setIfInBounds_toArray, List.set_cons_zero, List.set_cons_succ, i64_w, i32_w]
            rfl
          refine pure_ (i := 12) (N := some 48) (v := ?_) (a' := ?_) #[false, true, true, true, true, false, true, false, false, true, true, true, true, false, false] rfl rfl (any_of HT_.out (by kernel_rfl)) (fun _ _ _ h => h) (Or.inl ⟨by rfl, ?_⟩) ?_ ?_
          rotate_left
          · intro w'
            go_simp
            with_reducible rfl
          rotate_left
          · simp only [Act.put, List.setIfInBounds_toArray, List.set_cons_zero, List.set_cons_succ, i64_w, i32_w]
            rfl
          refine join_ (σ := Value × Value × Value) 3 #[true, true, true, true, true, true, true, true, false, true, true, true, true, false, false] (fun s_ => [(36, s_.1), (41, s_.2.1), (43, s_.2.2)]) (fun s_ w' => (w'.cell? ⟨g1, 0, none⟩ = some (.int .i64 a0_0) ∧ w'.cell? ⟨g1, 1, none⟩ = some (.int .i64 a0_1) ∧ w'.cell? ⟨g1, 2, none⟩ = some (.int .i64 a0_2) ∧ w'.cell? ⟨g1, 3, none⟩ = some (.string a0_3) ∧ w'.cell? ⟨g1, 4, none⟩ = some (.slice A0_4 l0_4.length c0_4) ∧ w'.cell? ⟨g1, 5, none⟩ = some (.slice A0_5 l0_5.length c0_5)) ∧ (Kd.V Kd.string 9 w' w.heap.size (fun q => ((P4 q ∨ P5 q ∨ Q4 q ∨ Q5 q) ∨ w.heap.size ≤ q) ∧ some q ≠ (s_.2.1 : Value).ownBlock ∧ some q ≠ (s_.2.2 : Value).ownBlock ∧ q ≠ g1 ∧ q ≠ g2 ∧ q ≠ g3) (.slice A0_5 y169.length c0_5) y169) ∧ (Kd.R Kd.string 9 w' w.heap.size (fun q => (w.heap.size ≤ q) ∧ some q ≠ (s_.2.2 : Value).ownBlock) s_.2.1 y174) ∧ (Kd.R Kd.string 9 w' w.heap.size (fun q => (w.heap.size ≤ q) ∧ some q ≠ (s_.2.1 : Value).ownBlock) s_.2.2 y177) ∧ (Kd.V Kd.string 9 w' w.heap.size (fun q => ((P4 q ∨ P5 q ∨ Q4 q ∨ Q5 q) ∨ w.heap.size ≤ q) ∧ some q ≠ (s_.2.1 : Value).ownBlock ∧ some q ≠ (s_.2.2 : Value).ownBlock ∧ q ≠ g1 ∧ q ≠ g2 ∧ q ≠ g3) (.slice A88 y183.length c88) y183) ∧ (Kd.V k27 27 w' w.heap.size (fun q => ((P4 q ∨ P5 q ∨ Q4 q ∨ Q5 q) ∨ w.heap.size ≤ q) ∧ some q ≠ (s_.2.1 : Value).ownBlock ∧ some q ≠ (s_.2.2 : Value).ownBlock ∧ q ≠ g1 ∧ q ≠ g2 ∧ q ≠ g3) (.slice A0_4 l0_4.length c0_4) l0_4) ∧ (Kd.V Kd.string 9 w' w.heap.size (fun q => ((P4 q ∨ P5 q ∨ Q4 q ∨ Q5 q) ∨ w.heap.size ≤ q) ∧ some q ≠ (s_.2.1 : Value).ownBlock ∧ some q ≠ (s_.2.2 : Value).ownBlock ∧ q ≠ g1 ∧ q ≠ g2 ∧ q ≠ g3) (.slice A0_5 l0_5.length c0_5) l0_5) ∧ (Kd.V k27 27 w' w.heap.size (fun q => ((P4 q ∨ P5 q ∨ Q4 q ∨ Q5 q) ∨ w.heap.size ≤ q) ∧ some q ≠ (s_.2.1 : Value).ownBlock ∧ some q ≠ (s_.2.2 : Value).ownBlock ∧ q ≠ g1 ∧ q ≠ g2 ∧ q ≠ g3) (.slice A2_4 l2_4.length c2_4) l2_4) ∧ (Kd.V Kd.string 9 w' w.heap.size (fun q => ((P4 q ∨ P5 q ∨ Q4 q ∨ Q5 q) ∨ w.heap.size ≤ q) ∧ some q ≠ (s_.2.1 : Value).ownBlock ∧ some q ≠ (s_.2.2 : Value).ownBlock ∧ q ≠ g1 ∧ q ≠ g2 ∧ q ≠ g3) (.slice A2_5 l2_5.length c2_5) l2_5) ∧ (w'.heap[g1]? = some (.cells #[.int .i64 a0_0, .int .i64 a0_1, .int .i64 a0_2, .string a0_3, .slice A0_4 l0_4.length c0_4, .slice A0_5 l0_5.length c0_5] 27 (0, 0))) ∧ (w'.heap[g2]? = some (.cells #[.int .i64 a2_0, .int .i64 a2_1, .int .i64 a2_2, .string a2_3, .slice A2_4 l2_4.length c2_4, .slice A2_5 l2_5.length c2_5] 27 (0, 0))) ∧ (w'.heap[g3]? = some (.cells #[.int .i64 0, .int .i64 0, .int .i64 0, .string (⟨#[]⟩ : ByteArray), .slice none 0 0, .slice none 0 0] 27 (0, 0))) ∧ (Below w.heap.size w w')) ?_ ?_
          rotate_left
          · intro hCont
            refine two_ (i := 0) (j := 7) (Ni := some 36) (Nj := some 43) #[true, true, true, true, true, false, true, false, false, true, true, true, true, false, false] #[false, true, true, true, true, false, true, true, false, true, true, true, true, false, false] rfl rfl rfl rfl (two_of HT_.out (by kernel_rfl)) (by decide) (by decide) (fun K hK => ?_) (fun K hK => ?_)
            · skip
              refine Kd.R_lit_step Kd.string _ 9 ?hg (N := 36) ?hd (xs := ([] : List ByteArray)) (inner := []) (ok := fun _ => True) (okp := fun _ => True) ?hr ?hp (fun _ hk => hk) trivial (Below.refl _ _) (Nat.le_refl _) (by simp) ?_; (case hd => rfl); (case hg => rfl); (case hr => first | (go_simp; done) | (go_simp; rfl)); (case hp => exact (Reps.none _ _))
              intro v167 w89 ho90 hb hg_ hnew_
              clear hg_ hnew_
              (first | rw [← Ny166.out] at ho90 | (simp only [Int.reduceToNat] at ho90; rw [← Ny166.out] at ho90))
              have n0_ := Aside0.mk (Kd.V_elder' (by (with_reducible repeat (first | apply Kd.V_alloc | apply Kd.V_drewN | apply Kd.V_drew)); exact U4.out) (Kd.R_base ho90) hb)
              have n1_ := Aside0.mk (Kd.V_elder' (by (with_reducible repeat (first | apply Kd.V_alloc | apply Kd.V_drewN | apply Kd.V_drew)); exact U5.out) (Kd.R_base ho90) hb)
              have n2_ := Aside0.mk (Kd.V_elder' (by (with_reducible repeat (first | apply Kd.V_alloc | apply Kd.V_drewN | apply Kd.V_drew)); exact U6.out) (Kd.R_base ho90) hb)
              have n3_ := Aside0.mk (Kd.V_elder' (by (with_reducible repeat (first | apply Kd.V_alloc | apply Kd.V_drewN | apply Kd.V_drew)); exact U7.out) (Kd.R_base ho90) hb)
              have n4_ := Aside0.mk (Kd.V_elder' (by (with_reducible repeat (first | apply Kd.V_alloc | apply Kd.V_drewN | apply Kd.V_drew)); exact HO173.out) (Kd.R_base ho90) hb)
              have n5_ := Aside0.mk (Kd.V_elder' (by (with_reducible repeat (first | apply Kd.V_alloc | apply Kd.V_drewN | apply Kd.V_drew)); exact HO187.out) (Kd.R_base ho90) hb)
              have n6_ := Aside0.mk (Kd.R_lower (Kd.R_newM (M := fun q => (w.heap.size ≤ q)) ho90 (below_size (by repeat (first | (with_reducible first | exact HB.out | apply below_alloc | apply pw_below_drewN | apply below_drew1 | refine below_set ?_ GE111.out | refine below_set ?_ GE112.out | refine below_set ?_ GE113.out) | exact HB.out))) (fun q h_ => h_)) (below_size (by repeat (first | (with_reducible first | exact HB.out | apply below_alloc | apply pw_below_drewN | apply below_drew1 | refine below_set ?_ GE111.out | refine below_set ?_ GE112.out | refine below_set ?_ GE113.out) | exact HB.out))))
              have n7_ := Aside0.mk (blk_below (g := g1) (o := .cells #[.int .i64 a0_0, .int .i64 a0_1, .int .i64 a0_2, .string a0_3, .slice A0_4 l0_4.length c0_4, .slice A0_5 l0_5.length c0_5] 27 (0, 0)) (by (with_reducible repeat (first | refine blk_drewN ?_ _ | refine blk_drew ?_ | refine blk_alloc ?_ _)); exact BK111.out) hb)
              have n8_ := Aside0.mk (blk_below (g := g2) (o := .cells #[.int .i64 a2_0, .int .i64 a2_1, .int .i64 a2_2, .string a2_3, .slice A2_4 l2_4.length c2_4, .slice A2_5 l2_5.length c2_5] 27 (0, 0)) (by (with_reducible repeat (first | refine blk_drewN ?_ _ | refine blk_drew ?_ | refine blk_alloc ?_ _)); exact BK112.out) hb)
              have n9_ := Aside0.mk (blk_below (g := g3) (o := .cells #[.int .i64 0, .int .i64 0, .int .i64 0, .string (⟨#[]⟩ : ByteArray), .slice none 0 0, .slice none 0 0] 27 (0, 0)) (by (with_reducible repeat (first | refine blk_drewN ?_ _ | refine blk_drew ?_ | refine blk_alloc ?_ _)); exact BK113.out) hb)
              have n10_ := Aside0.mk (below_step (by repeat (first | (with_reducible first | exact HB.out | apply below_alloc | apply pw_below_drewN | apply below_drew1 | refine below_set ?_ GE111.out | refine below_set ?_ GE112.out | refine below_set ?_ GE113.out) | exact HB.out)) hb)
              clear U4
              clear U5
              clear U6
              clear U7
              clear HO173
              clear HO187
              clear BK111
              clear BK112
              clear BK113
              clear HB
              have U4 := n0_
              have U5 := n1_
              have U6 := n2_
              have U7 := n3_
              have HO173 := n4_
              have HO187 := n5_
              have HO168 := n6_
              have BK111 := n7_
              have BK112 := n8_
              have BK113 := n9_
              have HB := n10_
              clear n0_ n1_ n2_ n3_ n4_ n5_ n6_ n7_ n8_ n9_ n10_
              clear hb ho90
              refine hK.out _ _ ⟨(blk_cell BK111.out 0).trans rfl, (blk_cell BK111.out 1).trans rfl, (blk_cell BK111.out 2).trans rfl, (blk_cell BK111.out 3).trans rfl, (blk_cell BK111.out 4).trans rfl, (blk_cell BK111.out 5).trans rfl⟩ (fun hHeld => ?_)
              clear hK K
              refine norm_ (a' := ?_) ?_ ?_
              rotate_left
              · show Act.put _ (some 36) _ = _
                simp only [Act.put, List.setIfInBounds_toArray, List.set_cons_zero, List.set_cons_succ, i64_w, i32_w]
                rfl
              refine two_ (i := 5) (j := 7) (Ni := some 41) (Nj := some 43) #[true, true, true, true, true, true, true, false, false, true, true, true, true, false, false] #[true, true, true, true, true, false, true, true, false, true, true, true, true, false, false] rfl rfl rfl rfl (two_of HT_.out (by kernel_rfl)) (by decide) (by decide) (fun K hK => ?_) (fun K hK => ?_)
              · skip
                refine Kd.R_append_rows_step Kd.string (w0 := w) w.heap.size (by rfl) (.tmp 36) (.tmp 40) 25 9 (.string ⟨#[]⟩) 16 rfl Try.underlying25 info9 rfl (by decide) (by omega) v167 y166 y169 _ _ _ (fun q => (w.heap.size ≤ q)) (fun _ => False) rfl rfl ?aO ?aR (fun _ _ h => h) (fun _ h => h.elim) ?aF ?aB ?aS ?aL ?_
                (case aR => repeat (first | exact (Kd.V_reads' HO173.out).2.2 | (with_reducible refine Kd.C_alloc ?_ _) | (with_reducible refine Kd.C_drewN ?_ _) | (with_reducible refine Kd.C_drew ?_)))
                (case aB => exact (by repeat (first | (with_reducible first | exact HB.out | apply below_alloc | apply pw_below_drewN | apply below_drew1 | refine below_set ?_ GE111.out | refine below_set ?_ GE112.out | refine below_set ?_ GE113.out) | exact HB.out)))
                (case aF => exact (fun q hk => (Nat.le_trans (below_size (by repeat (first | (with_reducible first | exact HB.out | apply below_alloc | apply pw_below_drewN | apply below_drew1 | refine below_set ?_ GE111.out | refine below_set ?_ GE112.out | refine below_set ?_ GE113.out) | exact HB.out))) hk)))
                (case aO => exact (by (with_reducible repeat (first | apply Kd.R_alloc | apply Kd.R_drewN | apply Kd.R_drew)); exact Kd.R_mono HO168.out (fun _ hk => hk.1)))
                (case aS => exact (below_size (by repeat (first | (with_reducible first | exact HB.out | apply below_alloc | apply pw_below_drewN | apply below_drew1 | refine below_set ?_ GE111.out | refine below_set ?_ GE112.out | refine below_set ?_ GE113.out) | exact HB.out))))
                (case aL => have := LMc71.out; omega)
                intro v175 w91 ho hb hg hat
                rw [← Ny174.out] at ho
                have n0_ := Aside0.mk (Kd.V_afterv (ok := (fun q => ((P4 q ∨ P5 q ∨ Q4 q ∨ Q5 q) ∨ w.heap.size ≤ q) ∧ q ≠ g1 ∧ q ≠ g2 ∧ q ≠ g3)) (by (with_reducible repeat (first | apply Kd.V_alloc | apply Kd.V_drewN | apply Kd.V_drew)); exact U4.out) hg hat)
                have n1_ := Aside0.mk (Kd.V_afterv (ok := (fun q => ((P4 q ∨ P5 q ∨ Q4 q ∨ Q5 q) ∨ w.heap.size ≤ q) ∧ q ≠ g1 ∧ q ≠ g2 ∧ q ≠ g3)) (by (with_reducible repeat (first | apply Kd.V_alloc | apply Kd.V_drewN | apply Kd.V_drew)); exact U5.out) hg hat)
                have n2_ := Aside0.mk (Kd.V_afterv (ok := (fun q => ((P4 q ∨ P5 q ∨ Q4 q ∨ Q5 q) ∨ w.heap.size ≤ q) ∧ q ≠ g1 ∧ q ≠ g2 ∧ q ≠ g3)) (by (with_reducible repeat (first | apply Kd.V_alloc | apply Kd.V_drewN | apply Kd.V_drew)); exact U6.out) hg hat)
                have n3_ := Aside0.mk (Kd.V_afterv (ok := (fun q => ((P4 q ∨ P5 q ∨ Q4 q ∨ Q5 q) ∨ w.heap.size ≤ q) ∧ q ≠ g1 ∧ q ≠ g2 ∧ q ≠ g3)) (by (with_reducible repeat (first | apply Kd.V_alloc | apply Kd.V_drewN | apply Kd.V_drew)); exact U7.out) hg hat)
                have n4_ := Aside0.mk (blk_grown (g := g1) (o := .cells #[.int .i64 a0_0, .int .i64 a0_1, .int .i64 a0_2, .string a0_3, .slice A0_4 l0_4.length c0_4, .slice A0_5 l0_5.length c0_5] 27 (0, 0)) (by (with_reducible repeat (first | refine blk_drewN ?_ _ | refine blk_drew ?_ | refine blk_alloc ?_ _)); exact BK111.out) hg (Kd.R_ne HO168.out BK111.out (by decide)))
                have n5_ := Aside0.mk (blk_grown (g := g2) (o := .cells #[.int .i64 a2_0, .int .i64 a2_1, .int .i64 a2_2, .string a2_3, .slice A2_4 l2_4.length c2_4, .slice A2_5 l2_5.length c2_5] 27 (0, 0)) (by (with_reducible repeat (first | refine blk_drewN ?_ _ | refine blk_drew ?_ | refine blk_alloc ?_ _)); exact BK112.out) hg (Kd.R_ne HO168.out BK112.out (by decide)))
                have n6_ := Aside0.mk (blk_grown (g := g3) (o := .cells #[.int .i64 0, .int .i64 0, .int .i64 0, .string (⟨#[]⟩ : ByteArray), .slice none 0 0, .slice none 0 0] 27 (0, 0)) (by (with_reducible repeat (first | refine blk_drewN ?_ _ | refine blk_drew ?_ | refine blk_alloc ?_ _)); exact BK113.out) hg (Kd.R_ne HO168.out BK113.out (by decide)))
                have n7_ := Aside0.mk (Kd.V_afterv (ok := (fun q => ((P4 q ∨ P5 q ∨ Q4 q ∨ Q5 q) ∨ w.heap.size ≤ q) ∧ q ≠ g1 ∧ q ≠ g2 ∧ q ≠ g3)) (by (with_reducible repeat (first | apply Kd.V_alloc | apply Kd.V_drewN | apply Kd.V_drew)); exact HO173.out) hg hat)
                have n8_ := Aside0.mk (Kd.V_afterv (ok := (fun q => ((P4 q ∨ P5 q ∨ Q4 q ∨ Q5 q) ∨ w.heap.size ≤ q) ∧ q ≠ g1 ∧ q ≠ g2 ∧ q ≠ g3)) (by (with_reducible repeat (first | apply Kd.V_alloc | apply Kd.V_drewN | apply Kd.V_drew)); exact HO187.out) hg hat)
                have n9_ := Aside0.mk (hb)
                have n10_ := Aside0.mk (ho)
                clear U4
                clear U5
                clear U6
                clear U7
                clear BK111
                clear BK112
                clear BK113
                clear HO173
                clear HO187
                clear HB
                clear HO168
                have U4 := n0_
                have U5 := n1_
                have U6 := n2_
                have U7 := n3_
                have BK111 := n4_
                have BK112 := n5_
                have BK113 := n6_
                have HO173 := n7_
                have HO187 := n8_
                have HB := n9_
                have HO176 := n10_
                clear n0_ n1_ n2_ n3_ n4_ n5_ n6_ n7_ n8_ n9_ n10_
                clear ho hb hg hat
                refine hK.out _ _ ⟨(blk_cell BK111.out 0).trans rfl, (blk_cell BK111.out 1).trans rfl, (blk_cell BK111.out 2).trans rfl, (blk_cell BK111.out 3).trans rfl, (blk_cell BK111.out 4).trans rfl, (blk_cell BK111.out 5).trans rfl⟩ (fun hHeld => ?_)
                clear hK K
                refine norm_ (a' := ?_) ?_ ?_
                rotate_left
                · show Act.put _ (some 41) _ = _
                  simp only [Act.put, List.setIfInBounds_toArray, List.set_cons_zero, List.set_cons_succ, i64_w, i32_w]
                  rfl
                refine one_ (i := 7) (N := some 43) #[true, true, true, true, true, true, true, true, false, true, true, true, true, false, false] rfl rfl (one_of HT_.out (by kernel_rfl)) (by decide) (fun K hK => ?_)
                refine Kd.R_lit_step Kd.string _ 9 ?hg (N := 43) ?hd (xs := ([a1] : List ByteArray)) (inner := [.string a1]) (ok := fun _ => True) (okp := fun _ => True) ?hr ?hp (fun _ hk => hk) trivial (Below.refl _ _) (Nat.le_refl _) (by simp) ?_; (case hd => rfl); (case hg => rfl); (case hr => first | (go_simp; done) | (go_simp; rfl)); (case hp => exact (Reps.one (show Kd.M Kd.string _ _ _ a1 [.string a1] from rfl) (Reps.none _ _)))
                intro v178 w92 ho93 hb hg_ hnew_
                clear hg_ hnew_
                (first | rw [← Ny177.out] at ho93 | (simp only [Int.reduceToNat] at ho93; rw [← Ny177.out] at ho93))
                have n0_ := Aside0.mk (Kd.V_elder' (by (with_reducible repeat (first | apply Kd.V_alloc | apply Kd.V_drewN | apply Kd.V_drew)); exact U4.out) (Kd.R_base ho93) hb)
                have n1_ := Aside0.mk (Kd.V_elder' (by (with_reducible repeat (first | apply Kd.V_alloc | apply Kd.V_drewN | apply Kd.V_drew)); exact U5.out) (Kd.R_base ho93) hb)
                have n2_ := Aside0.mk (Kd.V_elder' (by (with_reducible repeat (first | apply Kd.V_alloc | apply Kd.V_drewN | apply Kd.V_drew)); exact U6.out) (Kd.R_base ho93) hb)
                have n3_ := Aside0.mk (Kd.V_elder' (by (with_reducible repeat (first | apply Kd.V_alloc | apply Kd.V_drewN | apply Kd.V_drew)); exact U7.out) (Kd.R_base ho93) hb)
                have n4_ := Aside0.mk (Kd.V_elder' (by (with_reducible repeat (first | apply Kd.V_alloc | apply Kd.V_drewN | apply Kd.V_drew)); exact HO173.out) (Kd.R_base ho93) hb)
                have n5_ := Aside0.mk (Kd.V_elder' (by (with_reducible repeat (first | apply Kd.V_alloc | apply Kd.V_drewN | apply Kd.V_drew)); exact HO187.out) (Kd.R_base ho93) hb)
                have n6_ := Aside0.mk (Kd.R_elder' (by (with_reducible repeat (first | apply Kd.R_alloc | apply Kd.R_drewN | apply Kd.R_drew)); exact HO176.out) (Kd.R_base ho93) hb)
                have n7_ := Aside0.mk (Kd.R_lower (Kd.R_new' (Kd.R_newM (M := fun q => (w.heap.size ≤ q)) ho93 (below_size (by repeat (first | (with_reducible first | exact HB.out | apply below_alloc | apply pw_below_drewN | apply below_drew1 | refine below_set ?_ GE111.out | refine below_set ?_ GE112.out | refine below_set ?_ GE113.out) | exact HB.out))) (fun q h_ => h_)) (Kd.R_lt (by (with_reducible repeat (first | apply Kd.R_alloc | apply Kd.R_drewN | apply Kd.R_drew)); exact HO176.out))) (below_size (by repeat (first | (with_reducible first | exact HB.out | apply below_alloc | apply pw_below_drewN | apply below_drew1 | refine below_set ?_ GE111.out | refine below_set ?_ GE112.out | refine below_set ?_ GE113.out) | exact HB.out))))
                have n8_ := Aside0.mk (blk_below (g := g1) (o := .cells #[.int .i64 a0_0, .int .i64 a0_1, .int .i64 a0_2, .string a0_3, .slice A0_4 l0_4.length c0_4, .slice A0_5 l0_5.length c0_5] 27 (0, 0)) (by (with_reducible repeat (first | refine blk_drewN ?_ _ | refine blk_drew ?_ | refine blk_alloc ?_ _)); exact BK111.out) hb)
                have n9_ := Aside0.mk (blk_below (g := g2) (o := .cells #[.int .i64 a2_0, .int .i64 a2_1, .int .i64 a2_2, .string a2_3, .slice A2_4 l2_4.length c2_4, .slice A2_5 l2_5.length c2_5] 27 (0, 0)) (by (with_reducible repeat (first | refine blk_drewN ?_ _ | refine blk_drew ?_ | refine blk_alloc ?_ _)); exact BK112.out) hb)
                have n10_ := Aside0.mk (blk_below (g := g3) (o := .cells #[.int .i64 0, .int .i64 0, .int .i64 0, .string (⟨#[]⟩ : ByteArray), .slice none 0 0, .slice none 0 0] 27 (0, 0)) (by (with_reducible repeat (first | refine blk_drewN ?_ _ | refine blk_drew ?_ | refine blk_alloc ?_ _)); exact BK113.out) hb)
                have n11_ := Aside0.mk (below_step (by repeat (first | (with_reducible first | exact HB.out | apply below_alloc | apply pw_below_drewN | apply below_drew1 | refine below_set ?_ GE111.out | refine below_set ?_ GE112.out | refine below_set ?_ GE113.out) | exact HB.out)) hb)
                clear U4
                clear U5
                clear U6
                clear U7
                clear HO173
                clear HO187
                clear HO176
                clear BK111
                clear BK112
                clear BK113
                clear HB
                have U4 := n0_
                have U5 := n1_
                have U6 := n2_
                have U7 := n3_
                have HO173 := n4_
                have HO187 := n5_
                have HO176 := n6_
                have HO179 := n7_
                have BK111 := n8_
                have BK112 := n9_
                have BK113 := n10_
                have HB := n11_
                clear n0_ n1_ n2_ n3_ n4_ n5_ n6_ n7_ n8_ n9_ n10_ n11_
                clear hb ho93
                refine hK.out _ _ ⟨(blk_cell BK111.out 0).trans rfl, (blk_cell BK111.out 1).trans rfl, (blk_cell BK111.out 2).trans rfl, (blk_cell BK111.out 3).trans rfl, (blk_cell BK111.out 4).trans rfl, (blk_cell BK111.out 5).trans rfl⟩ (fun hHeld => ?_)
                clear hK K
                refine norm_ (a' := ?_) ?_ ?_
                rotate_left
                · show Act.put _ (some 43) _ = _
                  simp only [Act.put, List.setIfInBounds_toArray, List.set_cons_zero, List.set_cons_succ, i64_w, i32_w]
                  rfl
                exact norm_ (by simp only [putAll, Act.put, List.setIfInBounds_toArray, List.set_cons_zero, List.set_cons_succ]) (hCont (v167, v175, v178) _ ⟨hHeld, (by (with_reducible repeat (first | apply Kd.V_alloc | apply Kd.V_drewN | apply Kd.V_drew)); exact Kd.V_mono HO173.out (fun _ hk => ⟨hk.1.1.1, ⟨hk.1.2, ⟨hk.2, ⟨hk.1.1.2.1, ⟨hk.1.1.2.2.1, hk.1.1.2.2.2⟩⟩⟩⟩⟩)), (by (with_reducible repeat (first | apply Kd.R_alloc | apply Kd.R_drewN | apply Kd.R_drew)); exact HO176.out), (by (with_reducible repeat (first | apply Kd.R_alloc | apply Kd.R_drewN | apply Kd.R_drew)); exact Kd.R_mono HO179.out (fun _ hk => ⟨hk.1.1, hk.2⟩)), (by (with_reducible repeat (first | apply Kd.V_alloc | apply Kd.V_drewN | apply Kd.V_drew)); exact Kd.V_mono HO187.out (fun _ hk => ⟨hk.1.1.1, ⟨hk.1.2, ⟨hk.2, ⟨hk.1.1.2.1, ⟨hk.1.1.2.2.1, hk.1.1.2.2.2⟩⟩⟩⟩⟩)), (by (with_reducible repeat (first | apply Kd.V_alloc | apply Kd.V_drewN | apply Kd.V_drew)); exact Kd.V_mono U4.out (fun _ hk => ⟨hk.1.1.1, ⟨hk.1.2, ⟨hk.2, ⟨hk.1.1.2.1, ⟨hk.1.1.2.2.1, hk.1.1.2.2.2⟩⟩⟩⟩⟩)), (by (with_reducible repeat (first | apply Kd.V_alloc | apply Kd.V_drewN | apply Kd.V_drew)); exact Kd.V_mono U5.out (fun _ hk => ⟨hk.1.1.1, ⟨hk.1.2, ⟨hk.2, ⟨hk.1.1.2.1, ⟨hk.1.1.2.2.1, hk.1.1.2.2.2⟩⟩⟩⟩⟩)), (by (with_reducible repeat (first | apply Kd.V_alloc | apply Kd.V_drewN | apply Kd.V_drew)); exact Kd.V_mono U6.out (fun _ hk => ⟨hk.1.1.1, ⟨hk.1.2, ⟨hk.2, ⟨hk.1.1.2.1, ⟨hk.1.1.2.2.1, hk.1.1.2.2.2⟩⟩⟩⟩⟩)), (by (with_reducible repeat (first | apply Kd.V_alloc | apply Kd.V_drewN | apply Kd.V_drew)); exact Kd.V_mono U7.out (fun _ hk => ⟨hk.1.1.1, ⟨hk.1.2, ⟨hk.2, ⟨hk.1.1.2.1, ⟨hk.1.1.2.2.1, hk.1.1.2.2.2⟩⟩⟩⟩⟩)), (by (with_reducible repeat (first | refine blk_drewN ?_ _ | refine blk_drew ?_ | refine blk_alloc ?_ _)); exact BK111.out), (by (with_reducible repeat (first | refine blk_drewN ?_ _ | refine blk_drew ?_ | refine blk_alloc ?_ _)); exact BK112.out), (by (with_reducible repeat (first | refine blk_drewN ?_ _ | refine blk_drew ?_ | refine blk_alloc ?_ _)); exact BK113.out), (by repeat (first | (with_reducible first | exact HB.out | apply below_alloc | apply pw_below_drewN | apply below_drew1 | refine below_set ?_ GE111.out | refine below_set ?_ GE112.out | refine below_set ?_ GE113.out) | exact HB.out))⟩)
              · skip
                refine Kd.R_lit_step Kd.string _ 9 ?hg (N := 43) ?hd (xs := ([a1] : List ByteArray)) (inner := [.string a1]) (ok := fun _ => True) (okp := fun _ => True) ?hr ?hp (fun _ hk => hk) trivial (Below.refl _ _) (Nat.le_refl _) (by simp) ?_; (case hd => rfl); (case hg => rfl); (case hr => first | (go_simp; done) | (go_simp; rfl)); (case hp => exact (Reps.one (show Kd.M Kd.string _ _ _ a1 [.string a1] from rfl) (Reps.none _ _)))
                intro v178 w91 ho92 hb hg_ hnew_
                clear hg_ hnew_
                (first | rw [← Ny177.out] at ho92 | (simp only [Int.reduceToNat] at ho92; rw [← Ny177.out] at ho92))
                have n0_ := Aside0.mk (Kd.V_elder' (by (with_reducible repeat (first | apply Kd.V_alloc | apply Kd.V_drewN | apply Kd.V_drew)); exact U4.out) (Kd.R_base ho92) hb)
                have n1_ := Aside0.mk (Kd.V_elder' (by (with_reducible repeat (first | apply Kd.V_alloc | apply Kd.V_drewN | apply Kd.V_drew)); exact U5.out) (Kd.R_base ho92) hb)
                have n2_ := Aside0.mk (Kd.V_elder' (by (with_reducible repeat (first | apply Kd.V_alloc | apply Kd.V_drewN | apply Kd.V_drew)); exact U6.out) (Kd.R_base ho92) hb)
                have n3_ := Aside0.mk (Kd.V_elder' (by (with_reducible repeat (first | apply Kd.V_alloc | apply Kd.V_drewN | apply Kd.V_drew)); exact U7.out) (Kd.R_base ho92) hb)
                have n4_ := Aside0.mk (Kd.V_elder' (by (with_reducible repeat (first | apply Kd.V_alloc | apply Kd.V_drewN | apply Kd.V_drew)); exact HO173.out) (Kd.R_base ho92) hb)
                have n5_ := Aside0.mk (Kd.V_elder' (by (with_reducible repeat (first | apply Kd.V_alloc | apply Kd.V_drewN | apply Kd.V_drew)); exact HO187.out) (Kd.R_base ho92) hb)
                have n6_ := Aside0.mk (Kd.R_elder' (by (with_reducible repeat (first | apply Kd.R_alloc | apply Kd.R_drewN | apply Kd.R_drew)); exact HO168.out) (Kd.R_base ho92) hb)
                have n7_ := Aside0.mk (Kd.R_lower (Kd.R_new' (Kd.R_newM (M := fun q => (w.heap.size ≤ q)) ho92 (below_size (by repeat (first | (with_reducible first | exact HB.out | apply below_alloc | apply pw_below_drewN | apply below_drew1 | refine below_set ?_ GE111.out | refine below_set ?_ GE112.out | refine below_set ?_ GE113.out) | exact HB.out))) (fun q h_ => h_)) (Kd.R_lt (by (with_reducible repeat (first | apply Kd.R_alloc | apply Kd.R_drewN | apply Kd.R_drew)); exact HO168.out))) (below_size (by repeat (first | (with_reducible first | exact HB.out | apply below_alloc | apply pw_below_drewN | apply below_drew1 | refine below_set ?_ GE111.out | refine below_set ?_ GE112.out | refine below_set ?_ GE113.out) | exact HB.out))))
                have n8_ := Aside0.mk (blk_below (g := g1) (o := .cells #[.int .i64 a0_0, .int .i64 a0_1, .int .i64 a0_2, .string a0_3, .slice A0_4 l0_4.length c0_4, .slice A0_5 l0_5.length c0_5] 27 (0, 0)) (by (with_reducible repeat (first | refine blk_drewN ?_ _ | refine blk_drew ?_ | refine blk_alloc ?_ _)); exact BK111.out) hb)
                have n9_ := Aside0.mk (blk_below (g := g2) (o := .cells #[.int .i64 a2_0, .int .i64 a2_1, .int .i64 a2_2, .string a2_3, .slice A2_4 l2_4.length c2_4, .slice A2_5 l2_5.length c2_5] 27 (0, 0)) (by (with_reducible repeat (first | refine blk_drewN ?_ _ | refine blk_drew ?_ | refine blk_alloc ?_ _)); exact BK112.out) hb)
                have n10_ := Aside0.mk (blk_below (g := g3) (o := .cells #[.int .i64 0, .int .i64 0, .int .i64 0, .string (⟨#[]⟩ : ByteArray), .slice none 0 0, .slice none 0 0] 27 (0, 0)) (by (with_reducible repeat (first | refine blk_drewN ?_ _ | refine blk_drew ?_ | refine blk_alloc ?_ _)); exact BK113.out) hb)
                have n11_ := Aside0.mk (below_step (by repeat (first | (with_reducible first | exact HB.out | apply below_alloc | apply pw_below_drewN | apply below_drew1 | refine below_set ?_ GE111.out | refine below_set ?_ GE112.out | refine below_set ?_ GE113.out) | exact HB.out)) hb)
                clear U4
                clear U5
                clear U6
                clear U7
                clear HO173
                clear HO187
                clear HO168
                clear BK111
                clear BK112
                clear BK113
                clear HB
                have U4 := n0_
                have U5 := n1_
                have U6 := n2_
                have U7 := n3_
                have HO173 := n4_
                have HO187 := n5_
                have HO168 := n6_
                have HO179 := n7_
                have BK111 := n8_
                have BK112 := n9_
                have BK113 := n10_
                have HB := n11_
                clear n0_ n1_ n2_ n3_ n4_ n5_ n6_ n7_ n8_ n9_ n10_ n11_
                clear hb ho92
                refine hK.out _ _ ⟨(blk_cell BK111.out 0).trans rfl, (blk_cell BK111.out 1).trans rfl, (blk_cell BK111.out 2).trans rfl, (blk_cell BK111.out 3).trans rfl, (blk_cell BK111.out 4).trans rfl, (blk_cell BK111.out 5).trans rfl⟩ (fun hHeld => ?_)
                clear hK K
                refine norm_ (a' := ?_) ?_ ?_
                rotate_left
                · show Act.put _ (some 43) _ = _
                  simp only [Act.put, List.setIfInBounds_toArray, List.set_cons_zero, List.set_cons_succ, i64_w, i32_w]
                  rfl
                refine one_ (i := 5) (N := some 41) #[true, true, true, true, true, true, true, true, false, true, true, true, true, false, false] rfl rfl (one_of HT_.out (by kernel_rfl)) (by decide) (fun K hK => ?_)
                refine Kd.R_append_rows_step Kd.string (w0 := w) w.heap.size (by rfl) (.tmp 36) (.tmp 40) 25 9 (.string ⟨#[]⟩) 16 rfl Try.underlying25 info9 rfl (by decide) (by omega) v167 y166 y169 _ _ _ (fun q => (w.heap.size ≤ q) ∧ some q ≠ (v178 : Value).ownBlock) (fun _ => False) rfl rfl ?aO ?aR (fun _ _ h => h) (fun _ h => h.elim) ?aF ?aB ?aS ?aL ?_
                (case aR => repeat (first | exact (Kd.V_reads' HO173.out).2.2 | (with_reducible refine Kd.C_alloc ?_ _) | (with_reducible refine Kd.C_drewN ?_ _) | (with_reducible refine Kd.C_drew ?_)))
                (case aB => exact (by repeat (first | (with_reducible first | exact HB.out | apply below_alloc | apply pw_below_drewN | apply below_drew1 | refine below_set ?_ GE111.out | refine below_set ?_ GE112.out | refine below_set ?_ GE113.out) | exact HB.out)))
                (case aF => exact (fun q hk => ⟨(Nat.le_trans (below_size (by repeat (first | (with_reducible first | exact HB.out | apply below_alloc | apply pw_below_drewN | apply below_drew1 | refine below_set ?_ GE111.out | refine below_set ?_ GE112.out | refine below_set ?_ GE113.out) | exact HB.out))) hk), Kd.fresh' (Kd.R_lt (by (with_reducible repeat (first | apply Kd.R_alloc | apply Kd.R_drewN | apply Kd.R_drew)); exact HO179.out)) q hk⟩))
                (case aO => exact (by (with_reducible repeat (first | apply Kd.R_alloc | apply Kd.R_drewN | apply Kd.R_drew)); exact Kd.R_mono HO168.out (fun _ hk => ⟨hk.1.1, hk.2⟩)))
                (case aS => exact (below_size (by repeat (first | (with_reducible first | exact HB.out | apply below_alloc | apply pw_below_drewN | apply below_drew1 | refine below_set ?_ GE111.out | refine below_set ?_ GE112.out | refine below_set ?_ GE113.out) | exact HB.out))))
                (case aL => have := LMc71.out; omega)
                intro v175 w93 ho hb hg hat
                rw [← Ny174.out] at ho
                have n0_ := Aside0.mk (Kd.V_afterv (ok := (fun q => ((P4 q ∨ P5 q ∨ Q4 q ∨ Q5 q) ∨ w.heap.size ≤ q) ∧ some q ≠ (v178 : Value).ownBlock ∧ q ≠ g1 ∧ q ≠ g2 ∧ q ≠ g3)) (by (with_reducible repeat (first | apply Kd.V_alloc | apply Kd.V_drewN | apply Kd.V_drew)); exact Kd.V_mono U4.out (fun _ hk => ⟨⟨hk.1.1.1, ⟨hk.2, ⟨hk.1.1.2.1, ⟨hk.1.1.2.2.1, hk.1.1.2.2.2⟩⟩⟩⟩, hk.1.2⟩)) hg hat)
                have n1_ := Aside0.mk (Kd.V_afterv (ok := (fun q => ((P4 q ∨ P5 q ∨ Q4 q ∨ Q5 q) ∨ w.heap.size ≤ q) ∧ some q ≠ (v178 : Value).ownBlock ∧ q ≠ g1 ∧ q ≠ g2 ∧ q ≠ g3)) (by (with_reducible repeat (first | apply Kd.V_alloc | apply Kd.V_drewN | apply Kd.V_drew)); exact Kd.V_mono U5.out (fun _ hk => ⟨⟨hk.1.1.1, ⟨hk.2, ⟨hk.1.1.2.1, ⟨hk.1.1.2.2.1, hk.1.1.2.2.2⟩⟩⟩⟩, hk.1.2⟩)) hg hat)
                have n2_ := Aside0.mk (Kd.V_afterv (ok := (fun q => ((P4 q ∨ P5 q ∨ Q4 q ∨ Q5 q) ∨ w.heap.size ≤ q) ∧ some q ≠ (v178 : Value).ownBlock ∧ q ≠ g1 ∧ q ≠ g2 ∧ q ≠ g3)) (by (with_reducible repeat (first | apply Kd.V_alloc | apply Kd.V_drewN | apply Kd.V_drew)); exact Kd.V_mono U6.out (fun _ hk => ⟨⟨hk.1.1.1, ⟨hk.2, ⟨hk.1.1.2.1, ⟨hk.1.1.2.2.1, hk.1.1.2.2.2⟩⟩⟩⟩, hk.1.2⟩)) hg hat)
                have n3_ := Aside0.mk (Kd.V_afterv (ok := (fun q => ((P4 q ∨ P5 q ∨ Q4 q ∨ Q5 q) ∨ w.heap.size ≤ q) ∧ some q ≠ (v178 : Value).ownBlock ∧ q ≠ g1 ∧ q ≠ g2 ∧ q ≠ g3)) (by (with_reducible repeat (first | apply Kd.V_alloc | apply Kd.V_drewN | apply Kd.V_drew)); exact Kd.V_mono U7.out (fun _ hk => ⟨⟨hk.1.1.1, ⟨hk.2, ⟨hk.1.1.2.1, ⟨hk.1.1.2.2.1, hk.1.1.2.2.2⟩⟩⟩⟩, hk.1.2⟩)) hg hat)
                have n4_ := Aside0.mk (blk_grown (g := g1) (o := .cells #[.int .i64 a0_0, .int .i64 a0_1, .int .i64 a0_2, .string a0_3, .slice A0_4 l0_4.length c0_4, .slice A0_5 l0_5.length c0_5] 27 (0, 0)) (by (with_reducible repeat (first | refine blk_drewN ?_ _ | refine blk_drew ?_ | refine blk_alloc ?_ _)); exact BK111.out) hg (Kd.R_ne HO168.out BK111.out (by decide)))
                have n5_ := Aside0.mk (blk_grown (g := g2) (o := .cells #[.int .i64 a2_0, .int .i64 a2_1, .int .i64 a2_2, .string a2_3, .slice A2_4 l2_4.length c2_4, .slice A2_5 l2_5.length c2_5] 27 (0, 0)) (by (with_reducible repeat (first | refine blk_drewN ?_ _ | refine blk_drew ?_ | refine blk_alloc ?_ _)); exact BK112.out) hg (Kd.R_ne HO168.out BK112.out (by decide)))
                have n6_ := Aside0.mk (blk_grown (g := g3) (o := .cells #[.int .i64 0, .int .i64 0, .int .i64 0, .string (⟨#[]⟩ : ByteArray), .slice none 0 0, .slice none 0 0] 27 (0, 0)) (by (with_reducible repeat (first | refine blk_drewN ?_ _ | refine blk_drew ?_ | refine blk_alloc ?_ _)); exact BK113.out) hg (Kd.R_ne HO168.out BK113.out (by decide)))
                have n7_ := Aside0.mk (Kd.V_afterv (ok := (fun q => ((P4 q ∨ P5 q ∨ Q4 q ∨ Q5 q) ∨ w.heap.size ≤ q) ∧ some q ≠ (v178 : Value).ownBlock ∧ q ≠ g1 ∧ q ≠ g2 ∧ q ≠ g3)) (by (with_reducible repeat (first | apply Kd.V_alloc | apply Kd.V_drewN | apply Kd.V_drew)); exact Kd.V_mono HO173.out (fun _ hk => ⟨⟨hk.1.1.1, ⟨hk.2, ⟨hk.1.1.2.1, ⟨hk.1.1.2.2.1, hk.1.1.2.2.2⟩⟩⟩⟩, hk.1.2⟩)) hg hat)
                have n8_ := Aside0.mk (Kd.V_afterv (ok := (fun q => ((P4 q ∨ P5 q ∨ Q4 q ∨ Q5 q) ∨ w.heap.size ≤ q) ∧ some q ≠ (v178 : Value).ownBlock ∧ q ≠ g1 ∧ q ≠ g2 ∧ q ≠ g3)) (by (with_reducible repeat (first | apply Kd.V_alloc | apply Kd.V_drewN | apply Kd.V_drew)); exact Kd.V_mono HO187.out (fun _ hk => ⟨⟨hk.1.1.1, ⟨hk.2, ⟨hk.1.1.2.1, ⟨hk.1.1.2.2.1, hk.1.1.2.2.2⟩⟩⟩⟩, hk.1.2⟩)) hg hat)
                have n9_ := Aside0.mk (Kd.R_after (ok := (fun q => (w.heap.size ≤ q))) (by (with_reducible repeat (first | apply Kd.R_alloc | apply Kd.R_drewN | apply Kd.R_drew)); exact Kd.R_mono HO179.out (fun _ hk => ⟨hk.1.1, hk.2⟩)) hg hat)
                have n10_ := Aside0.mk (hb)
                have n11_ := Aside0.mk (ho)
                clear U4
                clear U5
                clear U6
                clear U7
                clear BK111
                clear BK112
                clear BK113
                clear HO173
                clear HO187
                clear HO179
                clear HB
                clear HO168
                have U4 := n0_
                have U5 := n1_
                have U6 := n2_
                have U7 := n3_
                have BK111 := n4_
                have BK112 := n5_
                have BK113 := n6_
                have HO173 := n7_
                have HO187 := n8_
                have HO179 := n9_
                have HB := n10_
                have HO176 := n11_
                clear n0_ n1_ n2_ n3_ n4_ n5_ n6_ n7_ n8_ n9_ n10_ n11_
                clear ho hb hg hat
                refine hK.out _ _ ⟨(blk_cell BK111.out 0).trans rfl, (blk_cell BK111.out 1).trans rfl, (blk_cell BK111.out 2).trans rfl, (blk_cell BK111.out 3).trans rfl, (blk_cell BK111.out 4).trans rfl, (blk_cell BK111.out 5).trans rfl⟩ (fun hHeld => ?_)
                clear hK K
                refine norm_ (a' := ?_) ?_ ?_
                rotate_left
                · show Act.put _ (some 41) _ = _
                  simp only [Act.put, List.setIfInBounds_toArray, List.set_cons_zero, List.set_cons_succ, i64_w, i32_w]
                  rfl
                exact norm_ (by simp only [putAll, Act.put, List.setIfInBounds_toArray, List.set_cons_zero, List.set_cons_succ]) (hCont (v167, v175, v178) _ ⟨hHeld, (by (with_reducible repeat (first | apply Kd.V_alloc | apply Kd.V_drewN | apply Kd.V_drew)); exact Kd.V_mono HO173.out (fun _ hk => ⟨hk.1.1, ⟨hk.2, ⟨hk.1.2.1, ⟨hk.1.2.2.1, ⟨hk.1.2.2.2.1, hk.1.2.2.2.2⟩⟩⟩⟩⟩)), (by (with_reducible repeat (first | apply Kd.R_alloc | apply Kd.R_drewN | apply Kd.R_drew)); exact HO176.out), (by (with_reducible repeat (first | apply Kd.R_alloc | apply Kd.R_drewN | apply Kd.R_drew)); exact HO179.out), (by (with_reducible repeat (first | apply Kd.V_alloc | apply Kd.V_drewN | apply Kd.V_drew)); exact Kd.V_mono HO187.out (fun _ hk => ⟨hk.1.1, ⟨hk.2, ⟨hk.1.2.1, ⟨hk.1.2.2.1, ⟨hk.1.2.2.2.1, hk.1.2.2.2.2⟩⟩⟩⟩⟩)), (by (with_reducible repeat (first | apply Kd.V_alloc | apply Kd.V_drewN | apply Kd.V_drew)); exact Kd.V_mono U4.out (fun _ hk => ⟨hk.1.1, ⟨hk.2, ⟨hk.1.2.1, ⟨hk.1.2.2.1, ⟨hk.1.2.2.2.1, hk.1.2.2.2.2⟩⟩⟩⟩⟩)), (by (with_reducible repeat (first | apply Kd.V_alloc | apply Kd.V_drewN | apply Kd.V_drew)); exact Kd.V_mono U5.out (fun _ hk => ⟨hk.1.1, ⟨hk.2, ⟨hk.1.2.1, ⟨hk.1.2.2.1, ⟨hk.1.2.2.2.1, hk.1.2.2.2.2⟩⟩⟩⟩⟩)), (by (with_reducible repeat (first | apply Kd.V_alloc | apply Kd.V_drewN | apply Kd.V_drew)); exact Kd.V_mono U6.out (fun _ hk => ⟨hk.1.1, ⟨hk.2, ⟨hk.1.2.1, ⟨hk.1.2.2.1, ⟨hk.1.2.2.2.1, hk.1.2.2.2.2⟩⟩⟩⟩⟩)), (by (with_reducible repeat (first | apply Kd.V_alloc | apply Kd.V_drewN | apply Kd.V_drew)); exact Kd.V_mono U7.out (fun _ hk => ⟨hk.1.1, ⟨hk.2, ⟨hk.1.2.1, ⟨hk.1.2.2.1, ⟨hk.1.2.2.2.1, hk.1.2.2.2.2⟩⟩⟩⟩⟩)), (by (with_reducible repeat (first | refine blk_drewN ?_ _ | refine blk_drew ?_ | refine blk_alloc ?_ _)); exact BK111.out), (by (with_reducible repeat (first | refine blk_drewN ?_ _ | refine blk_drew ?_ | refine blk_alloc ?_ _)); exact BK112.out), (by (with_reducible repeat (first | refine blk_drewN ?_ _ | refine blk_drew ?_ | refine blk_alloc ?_ _)); exact BK113.out), (by repeat (first | (with_reducible first | exact HB.out | apply below_alloc | apply pw_below_drewN | apply below_drew1 | refine below_set ?_ GE111.out | refine below_set ?_ GE112.out | refine below_set ?_ GE113.out) | exact HB.out))⟩)
            · skip
              refine Kd.R_lit_step Kd.string _ 9 ?hg (N := 43) ?hd (xs := ([a1] : List ByteArray)) (inner := [.string a1]) (ok := fun _ => True) (okp := fun _ => True) ?hr ?hp (fun _ hk => hk) trivial (Below.refl _ _) (Nat.le_refl _) (by simp) ?_; (case hd => rfl); (case hg => rfl); (case hr => first | (go_simp; done) | (go_simp; rfl)); (case hp => exact (Reps.one (show Kd.M Kd.string _ _ _ a1 [.string a1] from rfl) (Reps.none _ _)))
              intro v178 w89 ho90 hb hg_ hnew_
              clear hg_ hnew_
              (first | rw [← Ny177.out] at ho90 | (simp only [Int.reduceToNat] at ho90; rw [← Ny177.out] at ho90))
              have n0_ := Aside0.mk (Kd.V_elder' (by (with_reducible repeat (first | apply Kd.V_alloc | apply Kd.V_drewN | apply Kd.V_drew)); exact U4.out) (Kd.R_base ho90) hb)
              have n1_ := Aside0.mk (Kd.V_elder' (by (with_reducible repeat (first | apply Kd.V_alloc | apply Kd.V_drewN | apply Kd.V_drew)); exact U5.out) (Kd.R_base ho90) hb)
              have n2_ := Aside0.mk (Kd.V_elder' (by (with_reducible repeat (first | apply Kd.V_alloc | apply Kd.V_drewN | apply Kd.V_drew)); exact U6.out) (Kd.R_base ho90) hb)
              have n3_ := Aside0.mk (Kd.V_elder' (by (with_reducible repeat (first | apply Kd.V_alloc | apply Kd.V_drewN | apply Kd.V_drew)); exact U7.out) (Kd.R_base ho90) hb)
              have n4_ := Aside0.mk (Kd.V_elder' (by (with_reducible repeat (first | apply Kd.V_alloc | apply Kd.V_drewN | apply Kd.V_drew)); exact HO173.out) (Kd.R_base ho90) hb)
              have n5_ := Aside0.mk (Kd.V_elder' (by (with_reducible repeat (first | apply Kd.V_alloc | apply Kd.V_drewN | apply Kd.V_drew)); exact HO187.out) (Kd.R_base ho90) hb)
              have n6_ := Aside0.mk (Kd.R_lower (Kd.R_newM (M := fun q => (w.heap.size ≤ q)) ho90 (below_size (by repeat (first | (with_reducible first | exact HB.out | apply below_alloc | apply pw_below_drewN | apply below_drew1 | refine below_set ?_ GE111.out | refine below_set ?_ GE112.out | refine below_set ?_ GE113.out) | exact HB.out))) (fun q h_ => h_)) (below_size (by repeat (first | (with_reducible first | exact HB.out | apply below_alloc | apply pw_below_drewN | apply below_drew1 | refine below_set ?_ GE111.out | refine below_set ?_ GE112.out | refine below_set ?_ GE113.out) | exact HB.out))))
              have n7_ := Aside0.mk (blk_below (g := g1) (o := .cells #[.int .i64 a0_0, .int .i64 a0_1, .int .i64 a0_2, .string a0_3, .slice A0_4 l0_4.length c0_4, .slice A0_5 l0_5.length c0_5] 27 (0, 0)) (by (with_reducible repeat (first | refine blk_drewN ?_ _ | refine blk_drew ?_ | refine blk_alloc ?_ _)); exact BK111.out) hb)
              have n8_ := Aside0.mk (blk_below (g := g2) (o := .cells #[.int .i64 a2_0, .int .i64 a2_1, .int .i64 a2_2, .string a2_3, .slice A2_4 l2_4.length c2_4, .slice A2_5 l2_5.length c2_5] 27 (0, 0)) (by (with_reducible repeat (first | refine blk_drewN ?_ _ | refine blk_drew ?_ | refine blk_alloc ?_ _)); exact BK112.out) hb)
              have n9_ := Aside0.mk (blk_below (g := g3) (o := .cells #[.int .i64 0, .int .i64 0, .int .i64 0, .string (⟨#[]⟩ : ByteArray), .slice none 0 0, .slice none 0 0] 27 (0, 0)) (by (with_reducible repeat (first | refine blk_drewN ?_ _ | refine blk_drew ?_ | refine blk_alloc ?_ _)); exact BK113.out) hb)
              have n10_ := Aside0.mk (below_step (by repeat (first | (with_reducible first | exact HB.out | apply below_alloc | apply pw_below_drewN | apply below_drew1 | refine below_set ?_ GE111.out | refine below_set ?_ GE112.out | refine below_set ?_ GE113.out) | exact HB.out)) hb)
              clear U4
              clear U5
              clear U6
              clear U7
              clear HO173
              clear HO187
              clear BK111
              clear BK112
              clear BK113
              clear HB
              have U4 := n0_
              have U5 := n1_
              have U6 := n2_
              have U7 := n3_
              have HO173 := n4_
              have HO187 := n5_
              have HO179 := n6_
              have BK111 := n7_
              have BK112 := n8_
              have BK113 := n9_
              have HB := n10_
              clear n0_ n1_ n2_ n3_ n4_ n5_ n6_ n7_ n8_ n9_ n10_
              clear hb ho90
              refine hK.out _ _ ⟨(blk_cell BK111.out 0).trans rfl, (blk_cell BK111.out 1).trans rfl, (blk_cell BK111.out 2).trans rfl, (blk_cell BK111.out 3).trans rfl, (blk_cell BK111.out 4).trans rfl, (blk_cell BK111.out 5).trans rfl⟩ (fun hHeld => ?_)
              clear hK K
              refine norm_ (a' := ?_) ?_ ?_
              rotate_left
              · show Act.put _ (some 43) _ = _
                simp only [Act.put, List.setIfInBounds_toArray, List.set_cons_zero, List.set_cons_succ, i64_w, i32_w]
                rfl
              refine one_ (i := 0) (N := some 36) #[true, true, true, true, true, false, true, true, false, true, true, true, true, false, false] rfl rfl (one_of HT_.out (by kernel_rfl)) (by decide) (fun K hK => ?_)
              refine Kd.R_lit_step Kd.string _ 9 ?hg (N := 36) ?hd (xs := ([] : List ByteArray)) (inner := []) (ok := fun _ => True) (okp := fun _ => True) ?hr ?hp (fun _ hk => hk) trivial (Below.refl _ _) (Nat.le_refl _) (by simp) ?_; (case hd => rfl); (case hg => rfl); (case hr => first | (go_simp; done) | (go_simp; rfl)); (case hp => exact (Reps.none _ _))
              intro v167 w91 ho92 hb hg_ hnew_
              clear hg_ hnew_
              (first | rw [← Ny166.out] at ho92 | (simp only [Int.reduceToNat] at ho92; rw [← Ny166.out] at ho92))
              have n0_ := Aside0.mk (Kd.V_elder' (by (with_reducible repeat (first | apply Kd.V_alloc | apply Kd.V_drewN | apply Kd.V_drew)); exact U4.out) (Kd.R_base ho92) hb)
              have n1_ := Aside0.mk (Kd.V_elder' (by (with_reducible repeat (first | apply Kd.V_alloc | apply Kd.V_drewN | apply Kd.V_drew)); exact U5.out) (Kd.R_base ho92) hb)
              have n2_ := Aside0.mk (Kd.V_elder' (by (with_reducible repeat (first | apply Kd.V_alloc | apply Kd.V_drewN | apply Kd.V_drew)); exact U6.out) (Kd.R_base ho92) hb)
              have n3_ := Aside0.mk (Kd.V_elder' (by (with_reducible repeat (first | apply Kd.V_alloc | apply Kd.V_drewN | apply Kd.V_drew)); exact U7.out) (Kd.R_base ho92) hb)
              have n4_ := Aside0.mk (Kd.V_elder' (by (with_reducible repeat (first | apply Kd.V_alloc | apply Kd.V_drewN | apply Kd.V_drew)); exact HO173.out) (Kd.R_base ho92) hb)
              have n5_ := Aside0.mk (Kd.V_elder' (by (with_reducible repeat (first | apply Kd.V_alloc | apply Kd.V_drewN | apply Kd.V_drew)); exact HO187.out) (Kd.R_base ho92) hb)
              have n6_ := Aside0.mk (Kd.R_elder' (by (with_reducible repeat (first | apply Kd.R_alloc | apply Kd.R_drewN | apply Kd.R_drew)); exact HO179.out) (Kd.R_base ho92) hb)
              have n7_ := Aside0.mk (Kd.R_lower (Kd.R_new' (Kd.R_newM (M := fun q => (w.heap.size ≤ q)) ho92 (below_size (by repeat (first | (with_reducible first | exact HB.out | apply below_alloc | apply pw_below_drewN | apply below_drew1 | refine below_set ?_ GE111.out | refine below_set ?_ GE112.out | refine below_set ?_ GE113.out) | exact HB.out))) (fun q h_ => h_)) (Kd.R_lt (by (with_reducible repeat (first | apply Kd.R_alloc | apply Kd.R_drewN | apply Kd.R_drew)); exact HO179.out))) (below_size (by repeat (first | (with_reducible first | exact HB.out | apply below_alloc | apply pw_below_drewN | apply below_drew1 | refine below_set ?_ GE111.out | refine below_set ?_ GE112.out | refine below_set ?_ GE113.out) | exact HB.out))))
              have n8_ := Aside0.mk (blk_below (g := g1) (o := .cells #[.int .i64 a0_0, .int .i64 a0_1, .int .i64 a0_2, .string a0_3, .slice A0_4 l0_4.length c0_4, .slice A0_5 l0_5.length c0_5] 27 (0, 0)) (by (with_reducible repeat (first | refine blk_drewN ?_ _ | refine blk_drew ?_ | refine blk_alloc ?_ _)); exact BK111.out) hb)
              have n9_ := Aside0.mk (blk_below (g := g2) (o := .cells #[.int .i64 a2_0, .int .i64 a2_1, .int .i64 a2_2, .string a2_3, .slice A2_4 l2_4.length c2_4, .slice A2_5 l2_5.length c2_5] 27 (0, 0)) (by (with_reducible repeat (first | refine blk_drewN ?_ _ | refine blk_drew ?_ | refine blk_alloc ?_ _)); exact BK112.out) hb)
              have n10_ := Aside0.mk (blk_below (g := g3) (o := .cells #[.int .i64 0, .int .i64 0, .int .i64 0, .string (⟨#[]⟩ : ByteArray), .slice none 0 0, .slice none 0 0] 27 (0, 0)) (by (with_reducible repeat (first | refine blk_drewN ?_ _ | refine blk_drew ?_ | refine blk_alloc ?_ _)); exact BK113.out) hb)
              have n11_ := Aside0.mk (below_step (by repeat (first | (with_reducible first | exact HB.out | apply below_alloc | apply pw_below_drewN | apply below_drew1 | refine below_set ?_ GE111.out | refine below_set ?_ GE112.out | refine below_set ?_ GE113.out) | exact HB.out)) hb)
              clear U4
              clear U5
              clear U6
              clear U7
              clear HO173
              clear HO187
              clear HO179
              clear BK111
              clear BK112
              clear BK113
              clear HB
              have U4 := n0_
              have U5 := n1_
              have U6 := n2_
              have U7 := n3_
              have HO173 := n4_
              have HO187 := n5_
              have HO179 := n6_
              have HO168 := n7_
              have BK111 := n8_
              have BK112 := n9_
              have BK113 := n10_
              have HB := n11_
              clear n0_ n1_ n2_ n3_ n4_ n5_ n6_ n7_ n8_ n9_ n10_ n11_
              clear hb ho92
              refine hK.out _ _ ⟨(blk_cell BK111.out 0).trans rfl, (blk_cell BK111.out 1).trans rfl, (blk_cell BK111.out 2).trans rfl, (blk_cell BK111.out 3).trans rfl, (blk_cell BK111.out 4).trans rfl, (blk_cell BK111.out 5).trans rfl⟩ (fun hHeld => ?_)
              clear hK K
              refine norm_ (a' := ?_) ?_ ?_
              rotate_left
              · show Act.put _ (some 36) _ = _
                simp only [Act.put, List.setIfInBounds_toArray, List.set_cons_zero, List.set_cons_succ, i64_w, i32_w]
                rfl
              refine one_ (i := 5) (N := some 41) #[true, true, true, true, true, true, true, true, false, true, true, true, true, false, false] rfl rfl (one_of HT_.out (by kernel_rfl)) (by decide) (fun K hK => ?_)
              refine Kd.R_append_rows_step Kd.string (w0 := w) w.heap.size (by rfl) (.tmp 36) (.tmp 40) 25 9 (.string ⟨#[]⟩) 16 rfl Try.underlying25 info9 rfl (by decide) (by omega) v167 y166 y169 _ _ _ (fun q => (w.heap.size ≤ q) ∧ some q ≠ (v178 : Value).ownBlock) (fun _ => False) rfl rfl ?aO ?aR (fun _ _ h => h) (fun _ h => h.elim) ?aF ?aB ?aS ?aL ?_
              (case aR => repeat (first | exact (Kd.V_reads' HO173.out).2.2 | (with_reducible refine Kd.C_alloc ?_ _) | (with_reducible refine Kd.C_drewN ?_ _) | (with_reducible refine Kd.C_drew ?_)))
              (case aB => exact (by repeat (first | (with_reducible first | exact HB.out | apply below_alloc | apply pw_below_drewN | apply below_drew1 | refine below_set ?_ GE111.out | refine below_set ?_ GE112.out | refine below_set ?_ GE113.out) | exact HB.out)))
              (case aF => exact (fun q hk => ⟨(Nat.le_trans (below_size (by repeat (first | (with_reducible first | exact HB.out | apply below_alloc | apply pw_below_drewN | apply below_drew1 | refine below_set ?_ GE111.out | refine below_set ?_ GE112.out | refine below_set ?_ GE113.out) | exact HB.out))) hk), Kd.fresh' (Kd.R_lt (by (with_reducible repeat (first | apply Kd.R_alloc | apply Kd.R_drewN | apply Kd.R_drew)); exact HO179.out)) q hk⟩))
              (case aO => exact (by (with_reducible repeat (first | apply Kd.R_alloc | apply Kd.R_drewN | apply Kd.R_drew)); exact Kd.R_mono HO168.out (fun _ hk => ⟨hk.1.1, hk.2⟩)))
              (case aS => exact (below_size (by repeat (first | (with_reducible first | exact HB.out | apply below_alloc | apply pw_below_drewN | apply below_drew1 | refine below_set ?_ GE111.out | refine below_set ?_ GE112.out | refine below_set ?_ GE113.out) | exact HB.out))))
              (case aL => have := LMc71.out; omega)
              intro v175 w93 ho hb hg hat
              rw [← Ny174.out] at ho
              have n0_ := Aside0.mk (Kd.V_afterv (ok := (fun q => ((P4 q ∨ P5 q ∨ Q4 q ∨ Q5 q) ∨ w.heap.size ≤ q) ∧ some q ≠ (v178 : Value).ownBlock ∧ q ≠ g1 ∧ q ≠ g2 ∧ q ≠ g3)) (by (with_reducible repeat (first | apply Kd.V_alloc | apply Kd.V_drewN | apply Kd.V_drew)); exact Kd.V_mono U4.out (fun _ hk => ⟨⟨hk.1.1.1, ⟨hk.1.2, ⟨hk.1.1.2.1, ⟨hk.1.1.2.2.1, hk.1.1.2.2.2⟩⟩⟩⟩, hk.2⟩)) hg hat)
              have n1_ := Aside0.mk (Kd.V_afterv (ok := (fun q => ((P4 q ∨ P5 q ∨ Q4 q ∨ Q5 q) ∨ w.heap.size ≤ q) ∧ some q ≠ (v178 : Value).ownBlock ∧ q ≠ g1 ∧ q ≠ g2 ∧ q ≠ g3)) (by (with_reducible repeat (first | apply Kd.V_alloc | apply Kd.V_drewN | apply Kd.V_drew)); exact Kd.V_mono U5.out (fun _ hk => ⟨⟨hk.1.1.1, ⟨hk.1.2, ⟨hk.1.1.2.1, ⟨hk.1.1.2.2.1, hk.1.1.2.2.2⟩⟩⟩⟩, hk.2⟩)) hg hat)
              have n2_ := Aside0.mk (Kd.V_afterv (ok := (fun q => ((P4 q ∨ P5 q ∨ Q4 q ∨ Q5 q) ∨ w.heap.size ≤ q) ∧ some q ≠ (v178 : Value).ownBlock ∧ q ≠ g1 ∧ q ≠ g2 ∧ q ≠ g3)) (by (with_reducible repeat (first | apply Kd.V_alloc | apply Kd.V_drewN | apply Kd.V_drew)); exact Kd.V_mono U6.out (fun _ hk => ⟨⟨hk.1.1.1, ⟨hk.1.2, ⟨hk.1.1.2.1, ⟨hk.1.1.2.2.1, hk.1.1.2.2.2⟩⟩⟩⟩, hk.2⟩)) hg hat)
              have n3_ := Aside0.mk (Kd.V_afterv (ok := (fun q => ((P4 q ∨ P5 q ∨ Q4 q ∨ Q5 q) ∨ w.heap.size ≤ q) ∧ some q ≠ (v178 : Value).ownBlock ∧ q ≠ g1 ∧ q ≠ g2 ∧ q ≠ g3)) (by (with_reducible repeat (first | apply Kd.V_alloc | apply Kd.V_drewN | apply Kd.V_drew)); exact Kd.V_mono U7.out (fun _ hk => ⟨⟨hk.1.1.1, ⟨hk.1.2, ⟨hk.1.1.2.1, ⟨hk.1.1.2.2.1, hk.1.1.2.2.2⟩⟩⟩⟩, hk.2⟩)) hg hat)
              have n4_ := Aside0.mk (blk_grown (g := g1) (o := .cells #[.int .i64 a0_0, .int .i64 a0_1, .int .i64 a0_2, .string a0_3, .slice A0_4 l0_4.length c0_4, .slice A0_5 l0_5.length c0_5] 27 (0, 0)) (by (with_reducible repeat (first | refine blk_drewN ?_ _ | refine blk_drew ?_ | refine blk_alloc ?_ _)); exact BK111.out) hg (Kd.R_ne HO168.out BK111.out (by decide)))
              have n5_ := Aside0.mk (blk_grown (g := g2) (o := .cells #[.int .i64 a2_0, .int .i64 a2_1, .int .i64 a2_2, .string a2_3, .slice A2_4 l2_4.length c2_4, .slice A2_5 l2_5.length c2_5] 27 (0, 0)) (by (with_reducible repeat (first | refine blk_drewN ?_ _ | refine blk_drew ?_ | refine blk_alloc ?_ _)); exact BK112.out) hg (Kd.R_ne HO168.out BK112.out (by decide)))
              have n6_ := Aside0.mk (blk_grown (g := g3) (o := .cells #[.int .i64 0, .int .i64 0, .int .i64 0, .string (⟨#[]⟩ : ByteArray), .slice none 0 0, .slice none 0 0] 27 (0, 0)) (by (with_reducible repeat (first | refine blk_drewN ?_ _ | refine blk_drew ?_ | refine blk_alloc ?_ _)); exact BK113.out) hg (Kd.R_ne HO168.out BK113.out (by decide)))
              have n7_ := Aside0.mk (Kd.V_afterv (ok := (fun q => ((P4 q ∨ P5 q ∨ Q4 q ∨ Q5 q) ∨ w.heap.size ≤ q) ∧ some q ≠ (v178 : Value).ownBlock ∧ q ≠ g1 ∧ q ≠ g2 ∧ q ≠ g3)) (by (with_reducible repeat (first | apply Kd.V_alloc | apply Kd.V_drewN | apply Kd.V_drew)); exact Kd.V_mono HO173.out (fun _ hk => ⟨⟨hk.1.1.1, ⟨hk.1.2, ⟨hk.1.1.2.1, ⟨hk.1.1.2.2.1, hk.1.1.2.2.2⟩⟩⟩⟩, hk.2⟩)) hg hat)
              have n8_ := Aside0.mk (Kd.V_afterv (ok := (fun q => ((P4 q ∨ P5 q ∨ Q4 q ∨ Q5 q) ∨ w.heap.size ≤ q) ∧ some q ≠ (v178 : Value).ownBlock ∧ q ≠ g1 ∧ q ≠ g2 ∧ q ≠ g3)) (by (with_reducible repeat (first | apply Kd.V_alloc | apply Kd.V_drewN | apply Kd.V_drew)); exact Kd.V_mono HO187.out (fun _ hk => ⟨⟨hk.1.1.1, ⟨hk.1.2, ⟨hk.1.1.2.1, ⟨hk.1.1.2.2.1, hk.1.1.2.2.2⟩⟩⟩⟩, hk.2⟩)) hg hat)
              have n9_ := Aside0.mk (Kd.R_after (ok := (fun q => (w.heap.size ≤ q))) (by (with_reducible repeat (first | apply Kd.R_alloc | apply Kd.R_drewN | apply Kd.R_drew)); exact Kd.R_mono HO179.out (fun _ hk => ⟨hk.1.1, hk.2⟩)) hg hat)
              have n10_ := Aside0.mk (hb)
              have n11_ := Aside0.mk (ho)
              clear U4
              clear U5
              clear U6
              clear U7
              clear BK111
              clear BK112
              clear BK113
              clear HO173
              clear HO187
              clear HO179
              clear HB
              clear HO168
              have U4 := n0_
              have U5 := n1_
              have U6 := n2_
              have U7 := n3_
              have BK111 := n4_
              have BK112 := n5_
              have BK113 := n6_
              have HO173 := n7_
              have HO187 := n8_
              have HO179 := n9_
              have HB := n10_
              have HO176 := n11_
              clear n0_ n1_ n2_ n3_ n4_ n5_ n6_ n7_ n8_ n9_ n10_ n11_
              clear ho hb hg hat
              refine hK.out _ _ ⟨(blk_cell BK111.out 0).trans rfl, (blk_cell BK111.out 1).trans rfl, (blk_cell BK111.out 2).trans rfl, (blk_cell BK111.out 3).trans rfl, (blk_cell BK111.out 4).trans rfl, (blk_cell BK111.out 5).trans rfl⟩ (fun hHeld => ?_)
              clear hK K
              refine norm_ (a' := ?_) ?_ ?_
              rotate_left
              · show Act.put _ (some 41) _ = _
                simp only [Act.put, List.setIfInBounds_toArray, List.set_cons_zero, List.set_cons_succ, i64_w, i32_w]
                rfl
              exact norm_ (by simp only [putAll, Act.put, List.setIfInBounds_toArray, List.set_cons_zero, List.set_cons_succ]) (hCont (v167, v175, v178) _ ⟨hHeld, (by (with_reducible repeat (first | apply Kd.V_alloc | apply Kd.V_drewN | apply Kd.V_drew)); exact Kd.V_mono HO173.out (fun _ hk => ⟨hk.1.1, ⟨hk.2, ⟨hk.1.2.1, ⟨hk.1.2.2.1, ⟨hk.1.2.2.2.1, hk.1.2.2.2.2⟩⟩⟩⟩⟩)), (by (with_reducible repeat (first | apply Kd.R_alloc | apply Kd.R_drewN | apply Kd.R_drew)); exact HO176.out), (by (with_reducible repeat (first | apply Kd.R_alloc | apply Kd.R_drewN | apply Kd.R_drew)); exact HO179.out), (by (with_reducible repeat (first | apply Kd.V_alloc | apply Kd.V_drewN | apply Kd.V_drew)); exact Kd.V_mono HO187.out (fun _ hk => ⟨hk.1.1, ⟨hk.2, ⟨hk.1.2.1, ⟨hk.1.2.2.1, ⟨hk.1.2.2.2.1, hk.1.2.2.2.2⟩⟩⟩⟩⟩)), (by (with_reducible repeat (first | apply Kd.V_alloc | apply Kd.V_drewN | apply Kd.V_drew)); exact Kd.V_mono U4.out (fun _ hk => ⟨hk.1.1, ⟨hk.2, ⟨hk.1.2.1, ⟨hk.1.2.2.1, ⟨hk.1.2.2.2.1, hk.1.2.2.2.2⟩⟩⟩⟩⟩)), (by (with_reducible repeat (first | apply Kd.V_alloc | apply Kd.V_drewN | apply Kd.V_drew)); exact Kd.V_mono U5.out (fun _ hk => ⟨hk.1.1, ⟨hk.2, ⟨hk.1.2.1, ⟨hk.1.2.2.1, ⟨hk.1.2.2.2.1, hk.1.2.2.2.2⟩⟩⟩⟩⟩)), (by (with_reducible repeat (first | apply Kd.V_alloc | apply Kd.V_drewN | apply Kd.V_drew)); exact Kd.V_mono U6.out (fun _ hk => ⟨hk.1.1, ⟨hk.2, ⟨hk.1.2.1, ⟨hk.1.2.2.1, ⟨hk.1.2.2.2.1, hk.1.2.2.2.2⟩⟩⟩⟩⟩)), (by (with_reducible repeat (first | apply Kd.V_alloc | apply Kd.V_drewN | apply Kd.V_drew)); exact Kd.V_mono U7.out (fun _ hk => ⟨hk.1.1, ⟨hk.2, ⟨hk.1.2.1, ⟨hk.1.2.2.1, ⟨hk.1.2.2.2.1, hk.1.2.2.2.2⟩⟩⟩⟩⟩)), (by (with_reducible repeat (first | refine blk_drewN ?_ _ | refine blk_drew ?_ | refine blk_alloc ?_ _)); exact BK111.out), (by (with_reducible repeat (first | refine blk_drewN ?_ _ | refine blk_drew ?_ | refine blk_alloc ?_ _)); exact BK112.out), (by (with_reducible repeat (first | refine blk_drewN ?_ _ | refine blk_drew ?_ | refine blk_alloc ?_ _)); exact BK113.out), (by repeat (first | (with_reducible first | exact HB.out | apply below_alloc | apply pw_below_drewN | apply below_drew1 | refine below_set ?_ GE111.out | refine below_set ?_ GE112.out | refine below_set ?_ GE113.out) | exact HB.out))⟩)
          rintro ⟨v167, v175, v178⟩ w94 ⟨hS_, h0_, h1_, h2_, h3_, h4_, h5_, h6_, h7_, h8_, h9_, h10_, h11_⟩
          have n0_ : Aside0 (Kd.V Kd.string 9 w94 w.heap.size (fun q => ((P4 q ∨ P5 q ∨ Q4 q ∨ Q5 q) ∨ w.heap.size ≤ q) ∧ some q ≠ (v175 : Value).ownBlock ∧ some q ≠ (v178 : Value).ownBlock ∧ q ≠ g1 ∧ q ≠ g2 ∧ q ≠ g3) (.slice A0_5 y169.length c0_5) y169) := ⟨h0_⟩
          have n1_ : Aside0 (Kd.R Kd.string 9 w94 w.heap.size (fun q => (w.heap.size ≤ q) ∧ some q ≠ (v178 : Value).ownBlock) v175 y174) := ⟨h1_⟩
          have n2_ : Aside0 (Kd.R Kd.string 9 w94 w.heap.size (fun q => (w.heap.size ≤ q) ∧ some q ≠ (v175 : Value).ownBlock) v178 y177) := ⟨h2_⟩
          have n3_ : Aside0 (Kd.V Kd.string 9 w94 w.heap.size (fun q => ((P4 q ∨ P5 q ∨ Q4 q ∨ Q5 q) ∨ w.heap.size ≤ q) ∧ some q ≠ (v175 : Value).ownBlock ∧ some q ≠ (v178 : Value).ownBlock ∧ q ≠ g1 ∧ q ≠ g2 ∧ q ≠ g3) (.slice A88 y183.length c88) y183) := ⟨h3_⟩
          have n4_ : Aside0 (Kd.V k27 27 w94 w.heap.size (fun q => ((P4 q ∨ P5 q ∨ Q4 q ∨ Q5 q) ∨ w.heap.size ≤ q) ∧ some q ≠ (v175 : Value).ownBlock ∧ some q ≠ (v178 : Value).ownBlock ∧ q ≠ g1 ∧ q ≠ g2 ∧ q ≠ g3) (.slice A0_4 l0_4.length c0_4) l0_4) := ⟨h4_⟩
          have n5_ : Aside0 (Kd.V Kd.string 9 w94 w.heap.size (fun q => ((P4 q ∨ P5 q ∨ Q4 q ∨ Q5 q) ∨ w.heap.size ≤ q) ∧ some q ≠ (v175 : Value).ownBlock ∧ some q ≠ (v178 : Value).ownBlock ∧ q ≠ g1 ∧ q ≠ g2 ∧ q ≠ g3) (.slice A0_5 l0_5.length c0_5) l0_5) := ⟨h5_⟩
          have n6_ : Aside0 (Kd.V k27 27 w94 w.heap.size (fun q => ((P4 q ∨ P5 q ∨ Q4 q ∨ Q5 q) ∨ w.heap.size ≤ q) ∧ some q ≠ (v175 : Value).ownBlock ∧ some q ≠ (v178 : Value).ownBlock ∧ q ≠ g1 ∧ q ≠ g2 ∧ q ≠ g3) (.slice A2_4 l2_4.length c2_4) l2_4) := ⟨h6_⟩
          have n7_ : Aside0 (Kd.V Kd.string 9 w94 w.heap.size (fun q => ((P4 q ∨ P5 q ∨ Q4 q ∨ Q5 q) ∨ w.heap.size ≤ q) ∧ some q ≠ (v175 : Value).ownBlock ∧ some q ≠ (v178 : Value).ownBlock ∧ q ≠ g1 ∧ q ≠ g2 ∧ q ≠ g3) (.slice A2_5 l2_5.length c2_5) l2_5) := ⟨h7_⟩
          have n8_ : Aside0 (w94.heap[g1]? = some (.cells #[.int .i64 a0_0, .int .i64 a0_1, .int .i64 a0_2, .string a0_3, .slice A0_4 l0_4.length c0_4, .slice A0_5 l0_5.length c0_5] 27 (0, 0))) := ⟨h8_⟩
          have n9_ : Aside0 (w94.heap[g2]? = some (.cells #[.int .i64 a2_0, .int .i64 a2_1, .int .i64 a2_2, .string a2_3, .slice A2_4 l2_4.length c2_4, .slice A2_5 l2_5.length c2_5] 27 (0, 0))) := ⟨h9_⟩
          have n10_ : Aside0 (w94.heap[g3]? = some (.cells #[.int .i64 0, .int .i64 0, .int .i64 0, .string (⟨#[]⟩ : ByteArray), .slice none 0 0, .slice none 0 0] 27 (0, 0))) := ⟨h10_⟩
          have n11_ : Aside0 (Below w.heap.size w w94) := ⟨h11_⟩
          clear U4
          clear U5
          clear U6
          clear U7
          clear BK111
          clear BK112
          clear BK113
          clear HB
          clear h0_ h1_ h2_ h3_ h4_ h5_ h6_ h7_ h8_ h9_ h10_ h11_
          have HO173 := n0_
          have HO176 := n1_
          have HO179 := n2_
          have HO187 := n3_
          have U4 := n4_
          have U5 := n5_
          have U6 := n6_
          have U7 := n7_
          have BK111 := n8_
          have BK112 := n9_
          have BK113 := n10_
          have HB := n11_
          clear n0_ n1_ n2_ n3_ n4_ n5_ n6_ n7_ n8_ n9_ n10_ n11_
          have hHeld : w94.cell? ⟨g1, 0, none⟩ = some (.int .i64 a0_0) ∧ w94.cell? ⟨g1, 1, none⟩ = some (.int .i64 a0_1) ∧ w94.cell? ⟨g1, 2, none⟩ = some (.int .i64 a0_2) ∧ w94.cell? ⟨g1, 3, none⟩ = some (.string a0_3) ∧ w94.cell? ⟨g1, 4, none⟩ = some (.slice A0_4 l0_4.length c0_4) ∧ w94.cell? ⟨g1, 5, none⟩ = some (.slice A0_5 l0_5.length c0_5) := hS_
          obtain ⟨Ao96, co96, eo96⟩ := Kd.R_slice HO179.out
          (first | subst eo96 | (injection eo96 with f1_ f2_ f3_; have f4_ := f1_.symm; have f5_ := f3_.symm; clear f1_ f2_ f3_; subst f4_; subst f5_))
          refine norm_ (a' := ?_) ?_ ?_
          rotate_left
          · simp only [putAll, Act.put, List.setIfInBounds_toArray, List.set_cons_zero, List.set_cons_succ]
            rfl
          refine one_ (i := 8) (N := some 44) #[true, true, true, true, true, true, true, true, true, true, true, true, true, false, false] rfl rfl (one_of HT_.out (by kernel_rfl)) (by decide) (fun K hK => ?_)
          refine Kd.R_append_rows_step Kd.string (w0 := w) w.heap.size (by rfl) (.tmp 41) (.tmp 43) 25 9 (.string ⟨#[]⟩) 16 rfl Try.underlying25 info9 rfl (by decide) (by omega) v175 y174 y177 _ _ _ (fun q => (w.heap.size ≤ q) ∧ some q ≠ (.slice Ao96 y177.length co96 : Value).ownBlock) (fun _ => False) rfl rfl ?aO ?aR (fun _ _ h => h) (fun _ h => h.elim) ?aF ?aB ?aS ?aL ?_
          (case aR => repeat (first | exact (Kd.R_reads' HO179.out).2.2 | (with_reducible refine Kd.C_alloc ?_ _) | (with_reducible refine Kd.C_drewN ?_ _) | (with_reducible refine Kd.C_drew ?_)))
          (case aB => exact (by repeat (first | (with_reducible first | exact HB.out | apply below_alloc | apply pw_below_drewN | apply below_drew1 | refine below_set ?_ GE111.out | refine below_set ?_ GE112.out | refine below_set ?_ GE113.out) | exact HB.out)))
          (case aF => exact (fun q hk => ⟨(Nat.le_trans (below_size (by repeat (first | (with_reducible first | exact HB.out | apply below_alloc | apply pw_below_drewN | apply below_drew1 | refine below_set ?_ GE111.out | refine below_set ?_ GE112.out | refine below_set ?_ GE113.out) | exact HB.out))) hk), Kd.fresh' (Kd.R_lt (by (with_reducible repeat (first | apply Kd.R_alloc | apply Kd.R_drewN | apply Kd.R_drew)); exact HO179.out)) q hk⟩))
          (case aO => exact (by (with_reducible repeat (first | apply Kd.R_alloc | apply Kd.R_drewN | apply Kd.R_drew)); exact HO176.out))
          (case aS => exact (below_size (by repeat (first | (with_reducible first | exact HB.out | apply below_alloc | apply pw_below_drewN | apply below_drew1 | refine below_set ?_ GE111.out | refine below_set ?_ GE112.out | refine below_set ?_ GE113.out) | exact HB.out))))
          (case aL => have := LMc72.out; omega)
          intro v181 w95 ho hb hg hat
          rw [← Ny180.out] at ho
          have n0_ := Aside0.mk (Kd.V_afterv (ok := (fun q => ((P4 q ∨ P5 q ∨ Q4 q ∨ Q5 q) ∨ w.heap.size ≤ q) ∧ some q ≠ (.slice Ao96 y177.length co96 : Value).ownBlock ∧ q ≠ g1 ∧ q ≠ g2 ∧ q ≠ g3)) (by (with_reducible repeat (first | apply Kd.V_alloc | apply Kd.V_drewN | apply Kd.V_drew)); exact Kd.V_mono U4.out (fun _ hk => ⟨⟨hk.1, ⟨hk.2.2.1, ⟨hk.2.2.2.1, ⟨hk.2.2.2.2.1, hk.2.2.2.2.2⟩⟩⟩⟩, hk.2.1⟩)) hg hat)
          have n1_ := Aside0.mk (Kd.V_afterv (ok := (fun q => ((P4 q ∨ P5 q ∨ Q4 q ∨ Q5 q) ∨ w.heap.size ≤ q) ∧ some q ≠ (.slice Ao96 y177.length co96 : Value).ownBlock ∧ q ≠ g1 ∧ q ≠ g2 ∧ q ≠ g3)) (by (with_reducible repeat (first | apply Kd.V_alloc | apply Kd.V_drewN | apply Kd.V_drew)); exact Kd.V_mono U5.out (fun _ hk => ⟨⟨hk.1, ⟨hk.2.2.1, ⟨hk.2.2.2.1, ⟨hk.2.2.2.2.1, hk.2.2.2.2.2⟩⟩⟩⟩, hk.2.1⟩)) hg hat)
          have n2_ := Aside0.mk (Kd.V_afterv (ok := (fun q => ((P4 q ∨ P5 q ∨ Q4 q ∨ Q5 q) ∨ w.heap.size ≤ q) ∧ some q ≠ (.slice Ao96 y177.length co96 : Value).ownBlock ∧ q ≠ g1 ∧ q ≠ g2 ∧ q ≠ g3)) (by (with_reducible repeat (first | apply Kd.V_alloc | apply Kd.V_drewN | apply Kd.V_drew)); exact Kd.V_mono U6.out (fun _ hk => ⟨⟨hk.1, ⟨hk.2.2.1, ⟨hk.2.2.2.1, ⟨hk.2.2.2.2.1, hk.2.2.2.2.2⟩⟩⟩⟩, hk.2.1⟩)) hg hat)
          have n3_ := Aside0.mk (Kd.V_afterv (ok := (fun q => ((P4 q ∨ P5 q ∨ Q4 q ∨ Q5 q) ∨ w.heap.size ≤ q) ∧ some q ≠ (.slice Ao96 y177.length co96 : Value).ownBlock ∧ q ≠ g1 ∧ q ≠ g2 ∧ q ≠ g3)) (by (with_reducible repeat (first | apply Kd.V_alloc | apply Kd.V_drewN | apply Kd.V_drew)); exact Kd.V_mono U7.out (fun _ hk => ⟨⟨hk.1, ⟨hk.2.2.1, ⟨hk.2.2.2.1, ⟨hk.2.2.2.2.1, hk.2.2.2.2.2⟩⟩⟩⟩, hk.2.1⟩)) hg hat)
          have n4_ := Aside0.mk (blk_grown (g := g1) (o := .cells #[.int .i64 a0_0, .int .i64 a0_1, .int .i64 a0_2, .string a0_3, .slice A0_4 l0_4.length c0_4, .slice A0_5 l0_5.length c0_5] 27 (0, 0)) (by (with_reducible repeat (first | refine blk_drewN ?_ _ | refine blk_drew ?_ | refine blk_alloc ?_ _)); exact BK111.out) hg (Kd.R_ne HO176.out BK111.out (by decide)))
          have n5_ := Aside0.mk (blk_grown (g := g2) (o := .cells #[.int .i64 a2_0, .int .i64 a2_1, .int .i64 a2_2, .string a2_3, .slice A2_4 l2_4.length c2_4, .slice A2_5 l2_5.length c2_5] 27 (0, 0)) (by (with_reducible repeat (first | refine blk_drewN ?_ _ | refine blk_drew ?_ | refine blk_alloc ?_ _)); exact BK112.out) hg (Kd.R_ne HO176.out BK112.out (by decide)))
          have n6_ := Aside0.mk (blk_grown (g := g3) (o := .cells #[.int .i64 0, .int .i64 0, .int .i64 0, .string (⟨#[]⟩ : ByteArray), .slice none 0 0, .slice none 0 0] 27 (0, 0)) (by (with_reducible repeat (first | refine blk_drewN ?_ _ | refine blk_drew ?_ | refine blk_alloc ?_ _)); exact BK113.out) hg (Kd.R_ne HO176.out BK113.out (by decide)))
          have n7_ := Aside0.mk (Kd.V_afterv (ok := (fun q => ((P4 q ∨ P5 q ∨ Q4 q ∨ Q5 q) ∨ w.heap.size ≤ q) ∧ some q ≠ (.slice Ao96 y177.length co96 : Value).ownBlock ∧ q ≠ g1 ∧ q ≠ g2 ∧ q ≠ g3)) (by (with_reducible repeat (first | apply Kd.V_alloc | apply Kd.V_drewN | apply Kd.V_drew)); exact Kd.V_mono HO173.out (fun _ hk => ⟨⟨hk.1, ⟨hk.2.2.1, ⟨hk.2.2.2.1, ⟨hk.2.2.2.2.1, hk.2.2.2.2.2⟩⟩⟩⟩, hk.2.1⟩)) hg hat)
          have n8_ := Aside0.mk (Kd.V_afterv (ok := (fun q => ((P4 q ∨ P5 q ∨ Q4 q ∨ Q5 q) ∨ w.heap.size ≤ q) ∧ some q ≠ (.slice Ao96 y177.length co96 : Value).ownBlock ∧ q ≠ g1 ∧ q ≠ g2 ∧ q ≠ g3)) (by (with_reducible repeat (first | apply Kd.V_alloc | apply Kd.V_drewN | apply Kd.V_drew)); exact Kd.V_mono HO187.out (fun _ hk => ⟨⟨hk.1, ⟨hk.2.2.1, ⟨hk.2.2.2.1, ⟨hk.2.2.2.2.1, hk.2.2.2.2.2⟩⟩⟩⟩, hk.2.1⟩)) hg hat)
          have n9_ := Aside0.mk (Kd.R_after (ok := (fun q => (w.heap.size ≤ q))) (by (with_reducible repeat (first | apply Kd.R_alloc | apply Kd.R_drewN | apply Kd.R_drew)); exact HO179.out) hg hat)
          have n10_ := Aside0.mk (hb)
          have n11_ := Aside0.mk (ho)
          clear U4
          clear U5
          clear U6
          clear U7
          clear BK111
          clear BK112
          clear BK113
          clear HO173
          clear HO187
          clear HO179
          clear HB
          clear HO176
          have U4 := n0_
          have U5 := n1_
          have U6 := n2_
          have U7 := n3_
          have BK111 := n4_
          have BK112 := n5_
          have BK113 := n6_
          have HO173 := n7_
          have HO187 := n8_
          have HO179 := n9_
          have HB := n10_
          have HO182 := n11_
          clear n0_ n1_ n2_ n3_ n4_ n5_ n6_ n7_ n8_ n9_ n10_ n11_
          clear ho hb hg hat
          refine hK.out _ _ ⟨(blk_cell BK111.out 0).trans rfl, (blk_cell BK111.out 1).trans rfl, (blk_cell BK111.out 2).trans rfl, (blk_cell BK111.out 3).trans rfl, (blk_cell BK111.out 4).trans rfl, (blk_cell BK111.out 5).trans rfl⟩ (fun hHeld => ?_)
          clear hK K
          refine norm_ (a' := ?_) ?_ ?_
          rotate_left
          · show Act.put _ (some 44) _ = _
            simp only [Act.put, List.setIfInBounds_toArray, List.set_cons_zero, List.set_cons_succ, i64_w, i32_w]
            rfl
          refine one_ (i := 13) (N := some 49) #[true, true, true, true, true, true, true, true, true, true, true, true, true, true, false] rfl rfl (one_of HT_.out (by kernel_rfl)) (by decide) (fun K hK => ?_)
          refine Kd.R_append_rows_step Kd.string (w0 := w) w.heap.size (by rfl) (.tmp 44) (.tmp 48) 25 9 (.string ⟨#[]⟩) 16 rfl Try.underlying25 info9 rfl (by decide) (by omega) v181 y180 y183 _ _ _ (fun q => (w.heap.size ≤ q) ∧ some q ≠ (.slice Ao96 y177.length co96 : Value).ownBlock) (fun _ => False) rfl rfl ?aO ?aR (fun _ _ h => h) (fun _ h => h.elim) ?aF ?aB ?aS ?aL ?_
          (case aR => repeat (first | exact (Kd.V_reads' HO187.out).2.2 | (with_reducible refine Kd.C_alloc ?_ _) | (with_reducible refine Kd.C_drewN ?_ _) | (with_reducible refine Kd.C_drew ?_)))
          (case aB => exact (by repeat (first | (with_reducible first | exact HB.out | apply below_alloc | apply pw_below_drewN | apply below_drew1 | refine below_set ?_ GE111.out | refine below_set ?_ GE112.out | refine below_set ?_ GE113.out) | exact HB.out)))
          (case aF => exact (fun q hk => ⟨(Nat.le_trans (below_size (by repeat (first | (with_reducible first | exact HB.out | apply below_alloc | apply pw_below_drewN | apply below_drew1 | refine below_set ?_ GE111.out | refine below_set ?_ GE112.out | refine below_set ?_ GE113.out) | exact HB.out))) hk), Kd.fresh' (Kd.R_lt (by (with_reducible repeat (first | apply Kd.R_alloc | apply Kd.R_drewN | apply Kd.R_drew)); exact HO179.out)) q hk⟩))
          (case aO => exact (by (with_reducible repeat (first | apply Kd.R_alloc | apply Kd.R_drewN | apply Kd.R_drew)); exact HO182.out))
          (case aS => exact (below_size (by repeat (first | (with_reducible first | exact HB.out | apply below_alloc | apply pw_below_drewN | apply below_drew1 | refine below_set ?_ GE111.out | refine below_set ?_ GE112.out | refine below_set ?_ GE113.out) | exact HB.out))))
          (case aL => have := LMc75.out; omega)
          intro v189 w97 ho hb hg hat
          rw [← Ny188.out] at ho
          have n0_ := Aside0.mk (Kd.V_afterv (ok := (fun q => ((P4 q ∨ P5 q ∨ Q4 q ∨ Q5 q) ∨ w.heap.size ≤ q) ∧ some q ≠ (.slice Ao96 y177.length co96 : Value).ownBlock ∧ q ≠ g1 ∧ q ≠ g2 ∧ q ≠ g3)) (by (with_reducible repeat (first | apply Kd.V_alloc | apply Kd.V_drewN | apply Kd.V_drew)); exact U4.out) hg hat)
          have n1_ := Aside0.mk (Kd.V_afterv (ok := (fun q => ((P4 q ∨ P5 q ∨ Q4 q ∨ Q5 q) ∨ w.heap.size ≤ q) ∧ some q ≠ (.slice Ao96 y177.length co96 : Value).ownBlock ∧ q ≠ g1 ∧ q ≠ g2 ∧ q ≠ g3)) (by (with_reducible repeat (first | apply Kd.V_alloc | apply Kd.V_drewN | apply Kd.V_drew)); exact U5.out) hg hat)
          have n2_ := Aside0.mk (Kd.V_afterv (ok := (fun q => ((P4 q ∨ P5 q ∨ Q4 q ∨ Q5 q) ∨ w.heap.size ≤ q) ∧ some q ≠ (.slice Ao96 y177.length co96 : Value).ownBlock ∧ q ≠ g1 ∧ q ≠ g2 ∧ q ≠ g3)) (by (with_reducible repeat (first | apply Kd.V_alloc | apply Kd.V_drewN | apply Kd.V_drew)); exact U6.out) hg hat)
          have n3_ := Aside0.mk (Kd.V_afterv (ok := (fun q => ((P4 q ∨ P5 q ∨ Q4 q ∨ Q5 q) ∨ w.heap.size ≤ q) ∧ some q ≠ (.slice Ao96 y177.length co96 : Value).ownBlock ∧ q ≠ g1 ∧ q ≠ g2 ∧ q ≠ g3)) (by (with_reducible repeat (first | apply Kd.V_alloc | apply Kd.V_drewN | apply Kd.V_drew)); exact U7.out) hg hat)
          have n4_ := Aside0.mk (blk_grown (g := g1) (o := .cells #[.int .i64 a0_0, .int .i64 a0_1, .int .i64 a0_2, .string a0_3, .slice A0_4 l0_4.length c0_4, .slice A0_5 l0_5.length c0_5] 27 (0, 0)) (by (with_reducible repeat (first | refine blk_drewN ?_ _ | refine blk_drew ?_ | refine blk_alloc ?_ _)); exact BK111.out) hg (Kd.R_ne HO182.out BK111.out (by decide)))
          have n5_ := Aside0.mk (blk_grown (g := g2) (o := .cells #[.int .i64 a2_0, .int .i64 a2_1, .int .i64 a2_2, .string a2_3, .slice A2_4 l2_4.length c2_4, .slice A2_5 l2_5.length c2_5] 27 (0, 0)) (by (with_reducible repeat (first | refine blk_drewN ?_ _ | refine blk_drew ?_ | refine blk_alloc ?_ _)); exact BK112.out) hg (Kd.R_ne HO182.out BK112.out (by decide)))
          have n6_ := Aside0.mk (blk_grown (g := g3) (o := .cells #[.int .i64 0, .int .i64 0, .int .i64 0, .string (⟨#[]⟩ : ByteArray), .slice none 0 0, .slice none 0 0] 27 (0, 0)) (by (with_reducible repeat (first | refine blk_drewN ?_ _ | refine blk_drew ?_ | refine blk_alloc ?_ _)); exact BK113.out) hg (Kd.R_ne HO182.out BK113.out (by decide)))
          have n7_ := Aside0.mk (Kd.V_afterv (ok := (fun q => ((P4 q ∨ P5 q ∨ Q4 q ∨ Q5 q) ∨ w.heap.size ≤ q) ∧ some q ≠ (.slice Ao96 y177.length co96 : Value).ownBlock ∧ q ≠ g1 ∧ q ≠ g2 ∧ q ≠ g3)) (by (with_reducible repeat (first | apply Kd.V_alloc | apply Kd.V_drewN | apply Kd.V_drew)); exact HO173.out) hg hat)
          have n8_ := Aside0.mk (Kd.V_afterv (ok := (fun q => ((P4 q ∨ P5 q ∨ Q4 q ∨ Q5 q) ∨ w.heap.size ≤ q) ∧ some q ≠ (.slice Ao96 y177.length co96 : Value).ownBlock ∧ q ≠ g1 ∧ q ≠ g2 ∧ q ≠ g3)) (by (with_reducible repeat (first | apply Kd.V_alloc | apply Kd.V_drewN | apply Kd.V_drew)); exact HO187.out) hg hat)
          have n9_ := Aside0.mk (Kd.R_after (ok := (fun q => (w.heap.size ≤ q))) (by (with_reducible repeat (first | apply Kd.R_alloc | apply Kd.R_drewN | apply Kd.R_drew)); exact HO179.out) hg hat)
          have n10_ := Aside0.mk (hb)
          have n11_ := Aside0.mk (ho)
          clear U4
          clear U5
          clear U6
          clear U7
          clear BK111
          clear BK112
          clear BK113
          clear HO173
          clear HO187
          clear HO179
          clear HB
          clear HO182
          have U4 := n0_
          have U5 := n1_
          have U6 := n2_
          have U7 := n3_
          have BK111 := n4_
          have BK112 := n5_
          have BK113 := n6_
          have HO173 := n7_
          have HO187 := n8_
          have HO179 := n9_
          have HB := n10_
          have HO190 := n11_
          clear n0_ n1_ n2_ n3_ n4_ n5_ n6_ n7_ n8_ n9_ n10_ n11_
          clear ho hb hg hat
          refine hK.out _ _ ⟨(blk_cell BK111.out 0).trans rfl, (blk_cell BK111.out 1).trans rfl, (blk_cell BK111.out 2).trans rfl, (blk_cell BK111.out 3).trans rfl, (blk_cell BK111.out 4).trans rfl, (blk_cell BK111.out 5).trans rfl⟩ (fun hHeld => ?_)
          clear hK K
          refine norm_ (a' := ?_) ?_ ?_
          rotate_left
          · show Act.put _ (some 49) _ = _
            simp only [Act.put, List.setIfInBounds_toArray, List.set_cons_zero, List.set_cons_succ, i64_w, i32_w]
            rfl
          refine pure_ (i := 14) (N := some 10) (v := ?_) (a' := ?_) #[true, true, true, true, true, true, true, true, true, true, true, true, true, true, true] rfl rfl (any_of HT_.out (by kernel_rfl)) (fun _ _ _ h => h) (Or.inl ⟨by rfl, ?_⟩) ?_ ?_
          rotate_left
          · intro w'
            go_simp
            with_reducible rfl
          rotate_left
          · simp only [Act.put, List.setIfInBounds_toArray, List.set_cons_zero, List.set_cons_succ, i64_w, i32_w]
            rfl
          refine done_ (done_of HT_.out (by kernel_rfl)) ?_
          try go_wp2
          have n0_ := Aside0.mk (Kd.V_drew U4.out)
          have n1_ := Aside0.mk (Kd.V_drew U5.out)
          have n2_ := Aside0.mk (Kd.V_drew U6.out)
          have n3_ := Aside0.mk (Kd.V_drew U7.out)
          have n4_ := Aside0.mk (Kd.V_drew HO173.out)
          have n5_ := Aside0.mk (Kd.V_drew HO187.out)
          have n6_ := Aside0.mk (Kd.R_drew HO179.out)
          have n7_ := Aside0.mk (Kd.R_drew HO190.out)
          have n8_ := Aside0.mk (blk_drew BK111.out)
          have n9_ := Aside0.mk (blk_drew BK112.out)
          have n10_ := Aside0.mk (blk_drew BK113.out)
          have n11_ := Aside0.mk (below_drew1 HB.out)
          clear U4
          clear U5
          clear U6
          clear U7
          clear HO173
          clear HO187
          clear HO179
          clear HO190
          clear BK111
          clear BK112
          clear BK113
          clear HB
          have U4 := n0_
          have U5 := n1_
          have U6 := n2_
          have U7 := n3_
          have HO173 := n4_
          have HO187 := n5_
          have HO179 := n6_
          have HO190 := n7_
          have BK111 := n8_
          have BK112 := n9_
          have BK113 := n10_
          have HB := n11_
          clear n0_ n1_ n2_ n3_ n4_ n5_ n6_ n7_ n8_ n9_ n10_ n11_
          have q99 : (t114 : Int) ≤ ((l0_4.length : Int) : Int) := of_decide_eq_true (by first | (with_reducible assumption) | assumption)
          obtain ⟨i099, hi099, _, hsz99, _⟩ := info_parts info27
          have hroom99 : l0_4.length ≤ c0_4 := (Kd.V_reads' U4.out).2.1
          have hC99 : Kd.F k27 _ _ A0_4 l0_4.length l0_4 := (Kd.V_at (base := w.heap.size) U4.out).2.2
          have hcut99 := cut_to (P := Try.prog) 24 27 .i64 Try.underlying24 hi099 A0_4 l0_4.length c0_4 t114 (of_decide_eq_true (by first | (with_reducible assumption) | assumption)) q99 hroom99
          have hr99 := Kd.F_take (m := (t114 : Int).toNat) hC99 (by omega)
          have hy99 : y194.length = (t114 : Int).toNat := (by rw [Ny194.out, List.length_take]; omega)
          rw [← Ny194.out] at hr99
          rw [← hy99] at hcut99
          have HO198 := Aside0.mk (show Kd.V k27 27 _ w.heap.size _ (.slice A0_4 y194.length c0_4) y194 from Kd.V_mk (by omega) hr99)
          have HC198 := Aside0.mk (show y194.length ≤ c0_4 from by omega)
          clear hr99 hC99 hroom99 hi099 hsz99
          have KY99 := Aside0.mk hy99
          clear hy99
          replace q99 := eq_true q99
          have q100 : (t114 : Int) ≤ ((l0_4.length : Int) : Int) := of_decide_eq_true (by first | (with_reducible assumption) | assumption)
          obtain ⟨i0100, hi0100, _, hsz100, _⟩ := info_parts info27
          have hroom100 : l0_4.length ≤ c0_4 := (Kd.V_reads' U4.out).2.1
          have hC100 : Kd.F k27 _ _ A0_4 l0_4.length l0_4 := (Kd.V_at (base := w.heap.size) U4.out).2.2
          have q0100 : (0 : Int) ≤ (t114 : Int) := of_decide_eq_true (by first | (with_reducible assumption) | assumption)
          have hcut100 := cut_from (P := Try.prog) 24 27 .i64 Try.underlying24 hi0100 6 hsz100 A0_4 l0_4.length c0_4 t114 q0100 q100
          have hr100 := Kd.F_cut (m := (t114 : Int).toNat) (c := c0_4) hC100 (by omega) hroom100
          obtain ⟨A100, hA100⟩ : ∃ A1, A1 = (if c0_4 = (t114 : Int).toNat then A0_4 else (A0_4 : Option Addr).map (·.add ((t114 : Int).toNat * 6))) := ⟨_, rfl⟩
          obtain ⟨c100, hc100⟩ : ∃ c1, c1 = c0_4 - (t114 : Int).toNat := ⟨_, rfl⟩
          have hy100 : y208.length = l0_4.length - (t114 : Int).toNat := (by rw [Ny208.out, List.length_drop] <;> omega)
          rw [show (l0_4).drop (t114 : Int).toNat = y208 from Ny208.out.symm] at hr100
          replace hr100 : Kd.F k27 _ _ A100 y208.length y208 := (by rw [hA100]; exact hr100)
          rw [← hy100, ← hA100, ← hc100] at hcut100
          have HO212 := Aside0.mk (show Kd.V k27 27 _ w.heap.size _ (.slice A100 y208.length c100) y208 from Kd.V_mk (by rw [hy100, hc100]; exact Nat.sub_le_sub_right hroom100 _) hr100)
          have HC212 := Aside0.mk (show y208.length ≤ c100 from by rw [hy100, hc100]; exact Nat.sub_le_sub_right hroom100 _)
          clear hr100 hC100 hroom100 hi0100 hsz100 hc100
          have KY100 := Aside0.mk hy100
          have KA100 := Aside0.mk hA100
          clear hy100 hA100
          replace q100 := eq_true q100
          refine start_ (n := 15) (S := fun w' => w'.cell? ⟨g1, 0, none⟩ = some (.int .i64 a0_0) ∧ w'.cell? ⟨g1, 1, none⟩ = some (.int .i64 a0_1) ∧ w'.cell? ⟨g1, 2, none⟩ = some (.int .i64 a0_2) ∧ w'.cell? ⟨g1, 3, none⟩ = some (.string a0_3) ∧ w'.cell? ⟨g1, 4, none⟩ = some (.slice A0_4 l0_4.length c0_4) ∧ w'.cell? ⟨g1, 5, none⟩ = some (.slice A0_5 l0_5.length c0_5) ∧ w'.cell? ⟨g2, 0, none⟩ = some (.int .i64 a2_0) ∧ w'.cell? ⟨g2, 1, none⟩ = some (.int .i64 a2_1) ∧ w'.cell? ⟨g2, 2, none⟩ = some (.int .i64 a2_2) ∧ w'.cell? ⟨g2, 3, none⟩ = some (.string a2_3) ∧ w'.cell? ⟨g2, 4, none⟩ = some (.slice A2_4 l2_4.length c2_4) ∧ w'.cell? ⟨g2, 5, none⟩ = some (.slice A2_5 l2_5.length c2_5)) (ds := []) #[false, false, false, false, false, false, false, false, false, false, false, false, false, false, false] (by kernel_rfl) rfl rfl ⟨(blk_cell BK111.out 0).trans rfl, (blk_cell BK111.out 1).trans rfl, (blk_cell BK111.out 2).trans rfl, (blk_cell BK111.out 3).trans rfl, (blk_cell BK111.out 4).trans rfl, (blk_cell BK111.out 5).trans rfl, (blk_cell BK112.out 0).trans rfl, (blk_cell BK112.out 1).trans rfl, (blk_cell BK112.out 2).trans rfl, (blk_cell BK112.out 3).trans rfl, (blk_cell BK112.out 4).trans rfl, (blk_cell BK112.out 5).trans rfl⟩ (fun hHeld => ?_); refine with_tabW jval_Put.tab8 jval_Put.bits8 (fun HT_ HW_ => ?_)
          generalize w97.drew = w98 at U4 U5 U6 U7 HO173 HO187 HO179 HO190 BK111 BK112 BK113 HB HO198 HO212 hHeld ⊢
          refine pure_ (i := 1) (N := some 51) (v := ?_) (a' := ?_) #[false, true, false, false, false, false, false, false, false, false, false, false, false, false, false] rfl rfl (any_of HT_.out (by kernel_rfl)) (fun _ _ _ h => h) (Or.inl ⟨by rfl, ?_⟩) ?_ ?_
          rotate_left
          · intro w'
            go_simp
            with_reducible rfl
          rotate_left
          · simp only [Act.put, List.setIfInBounds_toArray, List.set_cons_zero, List.set_cons_succ, i64_w, i32_w]
            rfl
          refine pure_ (i := 3) (N := some 53) (v := ?_) (a' := ?_) #[false, true, false, true, false, false, false, false, false, false, false, false, false, false, false] rfl rfl (any_of HT_.out (by kernel_rfl)) (fun _ _ _ h => h) (Or.inl ⟨by rfl, ?_⟩) ?_ ?_
          rotate_left
          · intro w'
            go_simp
            with_reducible rfl
          rotate_left
          · simp only [Act.put, List.setIfInBounds_toArray, List.set_cons_zero, List.set_cons_succ, i64_w, i32_w]
            rfl
          refine pure_ (i := 9) (N := some 59) (v := ?_) (a' := ?_) #[false, true, false, true, false, false, false, false, false, true, false, false, false, false, false] rfl rfl (any_of HT_.out (by kernel_rfl)) (fun _ _ _ h => h) (Or.inl ⟨by rfl, ?_⟩) ?_ ?_
          rotate_left
          · intro w'
            go_simp
            with_reducible rfl
          rotate_left
          · simp only [Act.put, List.setIfInBounds_toArray, List.set_cons_zero, List.set_cons_succ, i64_w, i32_w]
            rfl
          refine pure_ (i := 11) (N := some 61) (v := ?_) (a' := ?_) #[false, true, false, true, false, false, false, false, false, true, false, true, false, false, false] rfl rfl (any_of HT_.out (by kernel_rfl)) (fun _ _ _ h => h) (Or.inl ⟨by rfl, ?_⟩) ?_ ?_
          rotate_left
          · intro w'
            go_simp
            with_reducible rfl
          rotate_left
          · simp only [Act.put, List.setIfInBounds_toArray, List.set_cons_zero, List.set_cons_succ, i64_w, i32_w]
            rfl
          refine take_ (i := 2) (N := some 52) (v := ?_) (a' := ?_) #[false, true, true, true, false, false, false, false, false, true, false, true, false, false, false] rfl rfl (take_ofW HT_.out HW_.out (by kernel_rfl)) (fun _ _ _ h => h) (Or.inl ⟨by rfl, ?_⟩) hHeld ?_ ?_
          rotate_left
          · rintro w' ⟨s0, s1, s2, s3, s4, s5, s6, s7, s8, s9, s10, s11⟩
            go_simp
            with_reducible rfl
          rotate_left
          · simp only [Act.put, List.setIfInBounds_toArray, List.set_cons_zero, List.set_cons_succ, i64_w, i32_w]
            rfl
          refine pure_ (i := 4) (N := some 54) (v := ?_) (a' := ?_) #[false, true, true, true, true, false, false, false, false, true, false, true, false, false, false] rfl rfl (any_of HT_.out (by kernel_rfl)) (fun _ _ _ h => h) (Or.inl ⟨by rfl, ?_⟩) ?_ ?_
          rotate_left
          · intro w'
            go_simp
            with_reducible rfl
          rotate_left
          · simp only [Act.put, List.setIfInBounds_toArray, List.set_cons_zero, List.set_cons_succ, i64_w, i32_w]
            rfl
          refine take_ (i := 6) (N := some 56) (v := ?_) (a' := ?_) #[false, true, true, true, true, false, true, false, false, true, false, true, false, false, false] rfl rfl (take_ofW HT_.out HW_.out (by kernel_rfl)) (fun _ _ _ h => h) (Or.inl ⟨by rfl, ?_⟩) hHeld ?_ ?_
          rotate_left
          · rintro w' ⟨s0, s1, s2, s3, s4, s5, s6, s7, s8, s9, s10, s11⟩
            go_simp
            with_reducible rfl
          rotate_left
          · simp only [Act.put, List.setIfInBounds_toArray, List.set_cons_zero, List.set_cons_succ, i64_w, i32_w]
            rfl
          refine take_ (i := 10) (N := some 60) (v := ?_) (a' := ?_) #[false, true, true, true, true, false, true, false, false, true, true, true, false, false, false] rfl rfl (take_ofW HT_.out HW_.out (by kernel_rfl)) (fun _ _ _ h => h) (Or.inl ⟨by rfl, ?_⟩) hHeld ?_ ?_
          rotate_left
          · rintro w' ⟨s0, s1, s2, s3, s4, s5, s6, s7, s8, s9, s10, s11⟩
            go_simp
            with_reducible rfl
          rotate_left
          · simp only [Act.put, List.setIfInBounds_toArray, List.set_cons_zero, List.set_cons_succ, i64_w, i32_w]
            rfl
          refine pure_ (i := 12) (N := some 62) (v := ?_) (a' := ?_) #[false, true, true, true, true, false, true, false, false, true, true, true, true, false, false] rfl rfl (any_of HT_.out (by kernel_rfl)) (fun _ _ _ h => h) (Or.inl ⟨by rfl, ?_⟩) ?_ ?_
          rotate_left
          · intro w'
            go_simp
            with_reducible rfl
          rotate_left
          · simp only [Act.put, List.setIfInBounds_toArray, List.set_cons_zero, List.set_cons_succ, i64_w, i32_w]
            rfl
          refine join_ (σ := Value × Value × Value) 3 #[true, true, true, true, true, true, true, true, false, true, true, true, true, false, false] (fun s_ => [(50, s_.1), (55, s_.2.1), (57, s_.2.2)]) (fun s_ w' => (w'.cell? ⟨g1, 0, none⟩ = some (.int .i64 a0_0) ∧ w'.cell? ⟨g1, 1, none⟩ = some (.int .i64 a0_1) ∧ w'.cell? ⟨g1, 2, none⟩ = some (.int .i64 a0_2) ∧ w'.cell? ⟨g1, 3, none⟩ = some (.string a0_3) ∧ w'.cell? ⟨g1, 4, none⟩ = some (.slice A0_4 l0_4.length c0_4) ∧ w'.cell? ⟨g1, 5, none⟩ = some (.slice A0_5 l0_5.length c0_5) ∧ w'.cell? ⟨g2, 0, none⟩ = some (.int .i64 a2_0) ∧ w'.cell? ⟨g2, 1, none⟩ = some (.int .i64 a2_1) ∧ w'.cell? ⟨g2, 2, none⟩ = some (.int .i64 a2_2) ∧ w'.cell? ⟨g2, 3, none⟩ = some (.string a2_3) ∧ w'.cell? ⟨g2, 4, none⟩ = some (.slice A2_4 l2_4.length c2_4) ∧ w'.cell? ⟨g2, 5, none⟩ = some (.slice A2_5 l2_5.length c2_5)) ∧ (Kd.V Kd.string 9 w' w.heap.size (fun q => ((P4 q ∨ P5 q ∨ Q4 q ∨ Q5 q) ∨ w.heap.size ≤ q) ∧ some q ≠ (.slice Ao96 y177.length co96 : Value).ownBlock ∧ some q ≠ (v189 : Value).ownBlock ∧ some q ≠ (s_.2.1 : Value).ownBlock ∧ some q ≠ (s_.2.2 : Value).ownBlock ∧ q ≠ g1 ∧ q ≠ g2 ∧ q ≠ g3) (.slice A0_5 y169.length c0_5) y169) ∧ (Kd.R Kd.string 9 w' w.heap.size (fun q => (w.heap.size ≤ q) ∧ some q ≠ (v189 : Value).ownBlock) (.slice Ao96 y177.length co96) y177) ∧ (Kd.V Kd.string 9 w' w.heap.size (fun q => ((P4 q ∨ P5 q ∨ Q4 q ∨ Q5 q) ∨ w.heap.size ≤ q) ∧ some q ≠ (.slice Ao96 y177.length co96 : Value).ownBlock ∧ some q ≠ (v189 : Value).ownBlock ∧ some q ≠ (s_.2.1 : Value).ownBlock ∧ some q ≠ (s_.2.2 : Value).ownBlock ∧ q ≠ g1 ∧ q ≠ g2 ∧ q ≠ g3) (.slice A88 y183.length c88) y183) ∧ (Kd.R Kd.string 9 w' w.heap.size (fun q => (w.heap.size ≤ q) ∧ some q ≠ (.slice Ao96 y177.length co96 : Value).ownBlock) v189 y188) ∧ (Kd.V k27 27 w' w.heap.size (fun q => ((P4 q ∨ P5 q ∨ Q4 q ∨ Q5 q) ∨ w.heap.size ≤ q) ∧ some q ≠ (.slice Ao96 y177.length co96 : Value).ownBlock ∧ some q ≠ (v189 : Value).ownBlock ∧ some q ≠ (s_.2.1 : Value).ownBlock ∧ some q ≠ (s_.2.2 : Value).ownBlock ∧ q ≠ g1 ∧ q ≠ g2 ∧ q ≠ g3) (.slice A0_4 y194.length c0_4) y194) ∧ (Kd.N k27 27 w' w.heap.size (fun q => ((P4 q ∨ P5 q ∨ Q4 q ∨ Q5 q) ∨ w.heap.size ≤ q) ∧ some q ≠ (.slice Ao96 y177.length co96 : Value).ownBlock ∧ some q ≠ (v189 : Value).ownBlock ∧ some q ≠ (s_.2.2 : Value).ownBlock ∧ q ≠ g1 ∧ q ≠ g2 ∧ q ≠ g3) s_.2.1 y199) ∧ (Kd.N k27 27 w' w.heap.size (fun q => ((P4 q ∨ P5 q ∨ Q4 q ∨ Q5 q) ∨ w.heap.size ≤ q) ∧ some q ≠ (.slice Ao96 y177.length co96 : Value).ownBlock ∧ some q ≠ (v189 : Value).ownBlock ∧ some q ≠ (s_.2.1 : Value).ownBlock ∧ q ≠ g1 ∧ q ≠ g2 ∧ q ≠ g3) s_.2.2 y202) ∧ (Kd.V k27 27 w' w.heap.size (fun q => ((P4 q ∨ P5 q ∨ Q4 q ∨ Q5 q) ∨ w.heap.size ≤ q) ∧ some q ≠ (.slice Ao96 y177.length co96 : Value).ownBlock ∧ some q ≠ (v189 : Value).ownBlock ∧ some q ≠ (s_.2.1 : Value).ownBlock ∧ some q ≠ (s_.2.2 : Value).ownBlock ∧ q ≠ g1 ∧ q ≠ g2 ∧ q ≠ g3) (.slice A100 y208.length c100) y208) ∧ (Kd.V k27 27 w' w.heap.size (fun q => ((P4 q ∨ P5 q ∨ Q4 q ∨ Q5 q) ∨ w.heap.size ≤ q) ∧ some q ≠ (.slice Ao96 y177.length co96 : Value).ownBlock ∧ some q ≠ (v189 : Value).ownBlock ∧ some q ≠ (s_.2.1 : Value).ownBlock ∧ some q ≠ (s_.2.2 : Value).ownBlock ∧ q ≠ g1 ∧ q ≠ g2 ∧ q ≠ g3) (.slice A0_4 l0_4.length c0_4) l0_4) ∧ (Kd.V Kd.string 9 w' w.heap.size (fun q => ((P4 q ∨ P5 q ∨ Q4 q ∨ Q5 q) ∨ w.heap.size ≤ q) ∧ some q ≠ (.slice Ao96 y177.length co96 : Value).ownBlock ∧ some q ≠ (v189 : Value).ownBlock ∧ some q ≠ (s_.2.1 : Value).ownBlock ∧ some q ≠ (s_.2.2 : Value).ownBlock ∧ q ≠ g1 ∧ q ≠ g2 ∧ q ≠ g3) (.slice A0_5 l0_5.length c0_5) l0_5) ∧ (Kd.V k27 27 w' w.heap.size (fun q => ((P4 q ∨ P5 q ∨ Q4 q ∨ Q5 q) ∨ w.heap.size ≤ q) ∧ some q ≠ (.slice Ao96 y177.length co96 : Value).ownBlock ∧ some q ≠ (v189 : Value).ownBlock ∧ some q ≠ (s_.2.1 : Value).ownBlock ∧ some q ≠ (s_.2.2 : Value).ownBlock ∧ q ≠ g1 ∧ q ≠ g2 ∧ q ≠ g3) (.slice A2_4 l2_4.length c2_4) l2_4) ∧ (Kd.V Kd.string 9 w' w.heap.size (fun q => ((P4 q ∨ P5 q ∨ Q4 q ∨ Q5 q) ∨ w.heap.size ≤ q) ∧ some q ≠ (.slice Ao96 y177.length co96 : Value).ownBlock ∧ some q ≠ (v189 : Value).ownBlock ∧ some q ≠ (s_.2.1 : Value).ownBlock ∧ some q ≠ (s_.2.2 : Value).ownBlock ∧ q ≠ g1 ∧ q ≠ g2 ∧ q ≠ g3) (.slice A2_5 l2_5.length c2_5) l2_5) ∧ (w'.heap[g1]? = some (.cells #[.int .i64 a0_0, .int .i64 a0_1, .int .i64 a0_2, .string a0_3, .slice A0_4 l0_4.length c0_4, .slice A0_5 l0_5.length c0_5] 27 (0, 0))) ∧ (w'.heap[g2]? = some (.cells #[.int .i64 a2_0, .int .i64 a2_1, .int .i64 a2_2, .string a2_3, .slice A2_4 l2_4.length c2_4, .slice A2_5 l2_5.length c2_5] 27 (0, 0))) ∧ (w'.heap[g3]? = some (.cells #[.int .i64 0, .int .i64 0, .int .i64 0, .string (⟨#[]⟩ : ByteArray), .slice none 0 0, .slice none 0 0] 27 (0, 0))) ∧ (Below w.heap.size w w')) ?_ ?_
          rotate_left
          · intro hCont
            refine two_ (i := 0) (j := 7) (Ni := some 50) (Nj := some 57) #[true, true, true, true, true, false, true, false, false, true, true, true, true, false, false] #[false, true, true, true, true, false, true, true, false, true, true, true, true, false, false] rfl rfl rfl rfl (two_of HT_.out (by kernel_rfl)) (by decide) (by decide) (fun K hK => ?_) (fun K hK => ?_)
            · skip
              refine Kd.N_lit_step k27 _ 27 ?hg (N' := 50) ?hd (xs := ([] : List (S27))) (inner := []) (ok := (fun q => ((P4 q ∨ P5 q ∨ Q4 q ∨ Q5 q) ∨ w.heap.size ≤ q) ∧ some q ≠ (.slice Ao96 y177.length co96 : Value).ownBlock ∧ some q ≠ (v189 : Value).ownBlock ∧ q ≠ g1 ∧ q ≠ g2 ∧ q ≠ g3)) (okp := (fun q => ((P4 q ∨ P5 q ∨ Q4 q ∨ Q5 q) ∨ w.heap.size ≤ q) ∧ some q ≠ (.slice Ao96 y177.length co96 : Value).ownBlock ∧ some q ≠ (v189 : Value).ownBlock ∧ q ≠ g1 ∧ q ≠ g2 ∧ q ≠ g3)) ?hr ?hp (fun _ hk => hk) ((show ∀ q, w98.heap.size ≤ q → (fun q => ((P4 q ∨ P5 q ∨ Q4 q ∨ Q5 q) ∨ w.heap.size ≤ q) ∧ some q ≠ (.slice Ao96 y177.length co96 : Value).ownBlock ∧ some q ≠ (v189 : Value).ownBlock ∧ q ≠ g1 ∧ q ≠ g2 ∧ q ≠ g3) q from fun q hk => ⟨(.inr (Nat.le_trans (below_size (by repeat (first | (with_reducible first | exact HB.out | apply below_alloc | apply pw_below_drewN | apply below_drew1 | refine below_set ?_ GE111.out | refine below_set ?_ GE112.out | refine below_set ?_ GE113.out) | exact HB.out))) hk)), Kd.fresh' (Kd.R_lt (by (with_reducible repeat (first | apply Kd.R_alloc | apply Kd.R_drewN | apply Kd.R_drew)); exact HO179.out)) q hk, Kd.fresh' (Kd.R_lt (by (with_reducible repeat (first | apply Kd.R_alloc | apply Kd.R_drewN | apply Kd.R_drew)); exact HO190.out)) q hk, Kd.freshB (g := g1) (o := .cells #[.int .i64 a0_0, .int .i64 a0_1, .int .i64 a0_2, .string a0_3, .slice A0_4 l0_4.length c0_4, .slice A0_5 l0_5.length c0_5] 27 (0, 0)) (by (with_reducible repeat (first | refine blk_drewN ?_ _ | refine blk_drew ?_ | refine blk_alloc ?_ _)); exact BK111.out) q hk, Kd.freshB (g := g2) (o := .cells #[.int .i64 a2_0, .int .i64 a2_1, .int .i64 a2_2, .string a2_3, .slice A2_4 l2_4.length c2_4, .slice A2_5 l2_5.length c2_5] 27 (0, 0)) (by (with_reducible repeat (first | refine blk_drewN ?_ _ | refine blk_drew ?_ | refine blk_alloc ?_ _)); exact BK112.out) q hk, Kd.freshB (g := g3) (o := .cells #[.int .i64 0, .int .i64 0, .int .i64 0, .string (⟨#[]⟩ : ByteArray), .slice none 0 0, .slice none 0 0] 27 (0, 0)) (by (with_reducible repeat (first | refine blk_drewN ?_ _ | refine blk_drew ?_ | refine blk_alloc ?_ _)); exact BK113.out) q hk⟩) _ (Nat.le_refl _)) (Below.refl _ _) (Nat.le_refl _) (by simp) ?_; (case hd => rfl); (case hg => rfl); (case hr => first | (go_simp; done) | (go_simp; rfl)); (case hp => exact (Reps.none _ _))
              intro v192 w101 ho102 hb hg_ hnew_
              clear hg_ hnew_
              (first | rw [← Ny191.out] at ho102 | (simp only [Int.reduceToNat] at ho102; rw [← Ny191.out] at ho102))
              have n0_ := Aside0.mk (Kd.V_elder' (by (with_reducible repeat (first | apply Kd.V_alloc | apply Kd.V_drewN | apply Kd.V_drew)); exact U4.out) (Kd.N_base ho102) hb)
              have n1_ := Aside0.mk (Kd.V_elder' (by (with_reducible repeat (first | apply Kd.V_alloc | apply Kd.V_drewN | apply Kd.V_drew)); exact U5.out) (Kd.N_base ho102) hb)
              have n2_ := Aside0.mk (Kd.V_elder' (by (with_reducible repeat (first | apply Kd.V_alloc | apply Kd.V_drewN | apply Kd.V_drew)); exact U6.out) (Kd.N_base ho102) hb)
              have n3_ := Aside0.mk (Kd.V_elder' (by (with_reducible repeat (first | apply Kd.V_alloc | apply Kd.V_drewN | apply Kd.V_drew)); exact U7.out) (Kd.N_base ho102) hb)
              have n4_ := Aside0.mk (Kd.V_elder' (by (with_reducible repeat (first | apply Kd.V_alloc | apply Kd.V_drewN | apply Kd.V_drew)); exact HO173.out) (Kd.N_base ho102) hb)
              have n5_ := Aside0.mk (Kd.V_elder' (by (with_reducible repeat (first | apply Kd.V_alloc | apply Kd.V_drewN | apply Kd.V_drew)); exact HO187.out) (Kd.N_base ho102) hb)
              have n6_ := Aside0.mk (Kd.R_below (by (with_reducible repeat (first | apply Kd.R_alloc | apply Kd.R_drewN | apply Kd.R_drew)); exact HO179.out) hb)
              have n7_ := Aside0.mk (Kd.R_below (by (with_reducible repeat (first | apply Kd.R_alloc | apply Kd.R_drewN | apply Kd.R_drew)); exact HO190.out) hb)
              have n8_ := Aside0.mk (Kd.V_elder' (by (with_reducible repeat (first | apply Kd.V_alloc | apply Kd.V_drewN | apply Kd.V_drew)); exact HO198.out) (Kd.N_base ho102) hb)
              have n9_ := Aside0.mk (Kd.V_elder' (by (with_reducible repeat (first | apply Kd.V_alloc | apply Kd.V_drewN | apply Kd.V_drew)); exact HO212.out) (Kd.N_base ho102) hb)
              have n10_ := Aside0.mk (Kd.N_lower ho102 (below_size (by repeat (first | (with_reducible first | exact HB.out | apply below_alloc | apply pw_below_drewN | apply below_drew1 | refine below_set ?_ GE111.out | refine below_set ?_ GE112.out | refine below_set ?_ GE113.out) | exact HB.out))))
              have n11_ := Aside0.mk (blk_below (g := g1) (o := .cells #[.int .i64 a0_0, .int .i64 a0_1, .int .i64 a0_2, .string a0_3, .slice A0_4 l0_4.length c0_4, .slice A0_5 l0_5.length c0_5] 27 (0, 0)) (by (with_reducible repeat (first | refine blk_drewN ?_ _ | refine blk_drew ?_ | refine blk_alloc ?_ _)); exact BK111.out) hb)
              have n12_ := Aside0.mk (blk_below (g := g2) (o := .cells #[.int .i64 a2_0, .int .i64 a2_1, .int .i64 a2_2, .string a2_3, .slice A2_4 l2_4.length c2_4, .slice A2_5 l2_5.length c2_5] 27 (0, 0)) (by (with_reducible repeat (first | refine blk_drewN ?_ _ | refine blk_drew ?_ | refine blk_alloc ?_ _)); exact BK112.out) hb)
              have n13_ := Aside0.mk (blk_below (g := g3) (o := .cells #[.int .i64 0, .int .i64 0, .int .i64 0, .string (⟨#[]⟩ : ByteArray), .slice none 0 0, .slice none 0 0] 27 (0, 0)) (by (with_reducible repeat (first | refine blk_drewN ?_ _ | refine blk_drew ?_ | refine blk_alloc ?_ _)); exact BK113.out) hb)
              have n14_ := Aside0.mk (below_step (by repeat (first | (with_reducible first | exact HB.out | apply below_alloc | apply pw_below_drewN | apply below_drew1 | refine below_set ?_ GE111.out | refine below_set ?_ GE112.out | refine below_set ?_ GE113.out) | exact HB.out)) hb)
              clear U4
              clear U5
              clear U6
              clear U7
              clear HO173
              clear HO187
              clear HO179
              clear HO190
              clear HO198
              clear HO212
              clear BK111
              clear BK112
              clear BK113
              clear HB
              have U4 := n0_
              have U5 := n1_
              have U6 := n2_
              have U7 := n3_
              have HO173 := n4_
              have HO187 := n5_
              have HO179 := n6_
              have HO190 := n7_
              have HO198 := n8_
              have HO212 := n9_
              have HO193 := n10_
              have BK111 := n11_
              have BK112 := n12_
              have BK113 := n13_
              have HB := n14_
              clear n0_ n1_ n2_ n3_ n4_ n5_ n6_ n7_ n8_ n9_ n10_ n11_ n12_ n13_ n14_
              clear hb ho102
              refine hK.out _ _ ⟨(blk_cell BK111.out 0).trans rfl, (blk_cell BK111.out 1).trans rfl, (blk_cell BK111.out 2).trans rfl, (blk_cell BK111.out 3).trans rfl, (blk_cell BK111.out 4).trans rfl, (blk_cell BK111.out 5).trans rfl, (blk_cell BK112.out 0).trans rfl, (blk_cell BK112.out 1).trans rfl, (blk_cell BK112.out 2).trans rfl, (blk_cell BK112.out 3).trans rfl, (blk_cell BK112.out 4).trans rfl, (blk_cell BK112.out 5).trans rfl⟩ (fun hHeld => ?_)
              clear hK K
              refine norm_ (a' := ?_) ?_ ?_
              rotate_left
              · show Act.put _ (some 50) _ = _
                simp only [Act.put, List.setIfInBounds_toArray, List.set_cons_zero, List.set_cons_succ, i64_w, i32_w]
                rfl
              refine two_ (i := 5) (j := 7) (Ni := some 55) (Nj := some 57) #[true, true, true, true, true, true, true, false, false, true, true, true, true, false, false] #[true, true, true, true, true, false, true, true, false, true, true, true, true, false, false] rfl rfl rfl rfl (two_of HT_.out (by kernel_rfl)) (by decide) (by decide) (fun K hK => ?_) (fun K hK => ?_)
              · skip
                refine Kd.N_append_rows_step k27 (w0 := w) w.heap.size (by rfl) (.tmp 50) (.tmp 54) 24 27 (.agg #[(.int .i64 0), (.int .i64 0), (.int .i64 0), (.string ⟨#[]⟩), (.slice none 0 0), (.slice none 0 0)]) 88 rfl Try.underlying24 info27 rfl (by decide) (by omega) v192 y191 y194 _ _ _ (fun q => ((P4 q ∨ P5 q ∨ Q4 q ∨ Q5 q) ∨ w.heap.size ≤ q) ∧ some q ≠ (.slice Ao96 y177.length co96 : Value).ownBlock ∧ some q ≠ (v189 : Value).ownBlock ∧ q ≠ g1 ∧ q ≠ g2 ∧ q ≠ g3) (fun q => ((fun q => ((P4 q ∨ P5 q ∨ Q4 q ∨ Q5 q) ∨ w.heap.size ≤ q) ∧ some q ≠ (.slice Ao96 y177.length co96 : Value).ownBlock ∧ some q ≠ (v189 : Value).ownBlock ∧ q ≠ g1 ∧ q ≠ g2 ∧ q ≠ g3)) q ∧ some q ≠ (v192 : Value).ownBlock) rfl rfl ?aO ?aR (fun _ hk => hk) ?aF ?aB ?aS ?aL ?_
                (case aR => exact (by skip; exact Kd.V_F (Kd.V_mono (ok' := (fun q => ((fun q => ((P4 q ∨ P5 q ∨ Q4 q ∨ Q5 q) ∨ w.heap.size ≤ q) ∧ some q ≠ (.slice Ao96 y177.length co96 : Value).ownBlock ∧ some q ≠ (v189 : Value).ownBlock ∧ q ≠ g1 ∧ q ≠ g2 ∧ q ≠ g3)) q ∧ some q ≠ (v192 : Value).ownBlock)) (HO198.out) (fun q hk => ⟨⟨hk.1.1.1, ⟨hk.1.1.2.1, ⟨hk.1.2, ⟨hk.1.1.2.2.1, ⟨hk.1.1.2.2.2.1, hk.1.1.2.2.2.2⟩⟩⟩⟩⟩, hk.2⟩))))
                (case aB => exact (by repeat (first | (with_reducible first | exact HB.out | apply below_alloc | apply pw_below_drewN | apply below_drew1 | refine below_set ?_ GE111.out | refine below_set ?_ GE112.out | refine below_set ?_ GE113.out) | exact HB.out)))
                (case aF => exact (fun q hk => ⟨(.inr (Nat.le_trans (below_size (by repeat (first | (with_reducible first | exact HB.out | apply below_alloc | apply pw_below_drewN | apply below_drew1 | refine below_set ?_ GE111.out | refine below_set ?_ GE112.out | refine below_set ?_ GE113.out) | exact HB.out))) hk)), Kd.fresh' (Kd.R_lt (by (with_reducible repeat (first | apply Kd.R_alloc | apply Kd.R_drewN | apply Kd.R_drew)); exact HO179.out)) q hk, Kd.fresh' (Kd.R_lt (by (with_reducible repeat (first | apply Kd.R_alloc | apply Kd.R_drewN | apply Kd.R_drew)); exact HO190.out)) q hk, Kd.freshB (g := g1) (o := .cells #[.int .i64 a0_0, .int .i64 a0_1, .int .i64 a0_2, .string a0_3, .slice A0_4 l0_4.length c0_4, .slice A0_5 l0_5.length c0_5] 27 (0, 0)) (by (with_reducible repeat (first | refine blk_drewN ?_ _ | refine blk_drew ?_ | refine blk_alloc ?_ _)); exact BK111.out) q hk, Kd.freshB (g := g2) (o := .cells #[.int .i64 a2_0, .int .i64 a2_1, .int .i64 a2_2, .string a2_3, .slice A2_4 l2_4.length c2_4, .slice A2_5 l2_5.length c2_5] 27 (0, 0)) (by (with_reducible repeat (first | refine blk_drewN ?_ _ | refine blk_drew ?_ | refine blk_alloc ?_ _)); exact BK112.out) q hk, Kd.freshB (g := g3) (o := .cells #[.int .i64 0, .int .i64 0, .int .i64 0, .string (⟨#[]⟩ : ByteArray), .slice none 0 0, .slice none 0 0] 27 (0, 0)) (by (with_reducible repeat (first | refine blk_drewN ?_ _ | refine blk_drew ?_ | refine blk_alloc ?_ _)); exact BK113.out) q hk⟩))
                (case aO => exact (by (with_reducible repeat (first | apply Kd.N_alloc | apply Kd.N_drewN | apply Kd.N_drew)); exact HO193.out))
                (case aS => exact (below_size (by repeat (first | (with_reducible first | exact HB.out | apply below_alloc | apply pw_below_drewN | apply below_drew1 | refine below_set ?_ GE111.out | refine below_set ?_ GE112.out | refine below_set ?_ GE113.out) | exact HB.out))))
                (case aL => have := LMc78.out; omega)
                intro v200 w103 ho hb hg hat
                rw [← Ny199.out] at ho
                have n0_ := Aside0.mk (Kd.V_afterv (ok := (fun q => ((P4 q ∨ P5 q ∨ Q4 q ∨ Q5 q) ∨ w.heap.size ≤ q) ∧ some q ≠ (.slice Ao96 y177.length co96 : Value).ownBlock ∧ some q ≠ (v189 : Value).ownBlock ∧ q ≠ g1 ∧ q ≠ g2 ∧ q ≠ g3)) (by (with_reducible repeat (first | apply Kd.V_alloc | apply Kd.V_drewN | apply Kd.V_drew)); exact Kd.V_mono U4.out (fun _ hk => ⟨⟨hk.1.1.1, ⟨hk.1.1.2.1, ⟨hk.1.2, ⟨hk.1.1.2.2.1, ⟨hk.1.1.2.2.2.1, hk.1.1.2.2.2.2⟩⟩⟩⟩⟩, hk.2⟩)) hg hat)
                have n1_ := Aside0.mk (Kd.V_afterv (ok := (fun q => ((P4 q ∨ P5 q ∨ Q4 q ∨ Q5 q) ∨ w.heap.size ≤ q) ∧ some q ≠ (.slice Ao96 y177.length co96 : Value).ownBlock ∧ some q ≠ (v189 : Value).ownBlock ∧ q ≠ g1 ∧ q ≠ g2 ∧ q ≠ g3)) (by (with_reducible repeat (first | apply Kd.V_alloc | apply Kd.V_drewN | apply Kd.V_drew)); exact Kd.V_mono U5.out (fun _ hk => ⟨⟨hk.1.1.1, ⟨hk.1.1.2.1, ⟨hk.1.2, ⟨hk.1.1.2.2.1, ⟨hk.1.1.2.2.2.1, hk.1.1.2.2.2.2⟩⟩⟩⟩⟩, hk.2⟩)) hg hat)
                have n2_ := Aside0.mk (Kd.V_afterv (ok := (fun q => ((P4 q ∨ P5 q ∨ Q4 q ∨ Q5 q) ∨ w.heap.size ≤ q) ∧ some q ≠ (.slice Ao96 y177.length co96 : Value).ownBlock ∧ some q ≠ (v189 : Value).ownBlock ∧ q ≠ g1 ∧ q ≠ g2 ∧ q ≠ g3)) (by (with_reducible repeat (first | apply Kd.V_alloc | apply Kd.V_drewN | apply Kd.V_drew)); exact Kd.V_mono U6.out (fun _ hk => ⟨⟨hk.1.1.1, ⟨hk.1.1.2.1, ⟨hk.1.2, ⟨hk.1.1.2.2.1, ⟨hk.1.1.2.2.2.1, hk.1.1.2.2.2.2⟩⟩⟩⟩⟩, hk.2⟩)) hg hat)
                have n3_ := Aside0.mk (Kd.V_afterv (ok := (fun q => ((P4 q ∨ P5 q ∨ Q4 q ∨ Q5 q) ∨ w.heap.size ≤ q) ∧ some q ≠ (.slice Ao96 y177.length co96 : Value).ownBlock ∧ some q ≠ (v189 : Value).ownBlock ∧ q ≠ g1 ∧ q ≠ g2 ∧ q ≠ g3)) (by (with_reducible repeat (first | apply Kd.V_alloc | apply Kd.V_drewN | apply Kd.V_drew)); exact Kd.V_mono U7.out (fun _ hk => ⟨⟨hk.1.1.1, ⟨hk.1.1.2.1, ⟨hk.1.2, ⟨hk.1.1.2.2.1, ⟨hk.1.1.2.2.2.1, hk.1.1.2.2.2.2⟩⟩⟩⟩⟩, hk.2⟩)) hg hat)
                have n4_ := Aside0.mk (blk_grown (g := g1) (o := .cells #[.int .i64 a0_0, .int .i64 a0_1, .int .i64 a0_2, .string a0_3, .slice A0_4 l0_4.length c0_4, .slice A0_5 l0_5.length c0_5] 27 (0, 0)) (by (with_reducible repeat (first | refine blk_drewN ?_ _ | refine blk_drew ?_ | refine blk_alloc ?_ _)); exact BK111.out) hg (Kd.N_away HO193.out (fun _ hk => hk.2.2.2.1)))
                have n5_ := Aside0.mk (blk_grown (g := g2) (o := .cells #[.int .i64 a2_0, .int .i64 a2_1, .int .i64 a2_2, .string a2_3, .slice A2_4 l2_4.length c2_4, .slice A2_5 l2_5.length c2_5] 27 (0, 0)) (by (with_reducible repeat (first | refine blk_drewN ?_ _ | refine blk_drew ?_ | refine blk_alloc ?_ _)); exact BK112.out) hg (Kd.N_away HO193.out (fun _ hk => hk.2.2.2.2.1)))
                have n6_ := Aside0.mk (blk_grown (g := g3) (o := .cells #[.int .i64 0, .int .i64 0, .int .i64 0, .string (⟨#[]⟩ : ByteArray), .slice none 0 0, .slice none 0 0] 27 (0, 0)) (by (with_reducible repeat (first | refine blk_drewN ?_ _ | refine blk_drew ?_ | refine blk_alloc ?_ _)); exact BK113.out) hg (Kd.N_away HO193.out (fun _ hk => hk.2.2.2.2.2)))
                have n7_ := Aside0.mk (Kd.V_afterv (ok := (fun q => ((P4 q ∨ P5 q ∨ Q4 q ∨ Q5 q) ∨ w.heap.size ≤ q) ∧ some q ≠ (.slice Ao96 y177.length co96 : Value).ownBlock ∧ some q ≠ (v189 : Value).ownBlock ∧ q ≠ g1 ∧ q ≠ g2 ∧ q ≠ g3)) (by (with_reducible repeat (first | apply Kd.V_alloc | apply Kd.V_drewN | apply Kd.V_drew)); exact Kd.V_mono HO173.out (fun _ hk => ⟨⟨hk.1.1.1, ⟨hk.1.1.2.1, ⟨hk.1.2, ⟨hk.1.1.2.2.1, ⟨hk.1.1.2.2.2.1, hk.1.1.2.2.2.2⟩⟩⟩⟩⟩, hk.2⟩)) hg hat)
                have n8_ := Aside0.mk (Kd.V_afterv (ok := (fun q => ((P4 q ∨ P5 q ∨ Q4 q ∨ Q5 q) ∨ w.heap.size ≤ q) ∧ some q ≠ (.slice Ao96 y177.length co96 : Value).ownBlock ∧ some q ≠ (v189 : Value).ownBlock ∧ q ≠ g1 ∧ q ≠ g2 ∧ q ≠ g3)) (by (with_reducible repeat (first | apply Kd.V_alloc | apply Kd.V_drewN | apply Kd.V_drew)); exact Kd.V_mono HO187.out (fun _ hk => ⟨⟨hk.1.1.1, ⟨hk.1.1.2.1, ⟨hk.1.2, ⟨hk.1.1.2.2.1, ⟨hk.1.1.2.2.2.1, hk.1.1.2.2.2.2⟩⟩⟩⟩⟩, hk.2⟩)) hg hat)
                have n9_ := Aside0.mk (Kd.R_over' (by (with_reducible repeat (first | apply Kd.R_alloc | apply Kd.R_drewN | apply Kd.R_drew)); exact HO179.out) (Kd.N_typed (by (with_reducible repeat (first | apply Kd.N_alloc | apply Kd.N_drewN | apply Kd.N_drew)); exact HO193.out)) (by decide) hg)
                have n10_ := Aside0.mk (Kd.R_over' (by (with_reducible repeat (first | apply Kd.R_alloc | apply Kd.R_drewN | apply Kd.R_drew)); exact HO190.out) (Kd.N_typed (by (with_reducible repeat (first | apply Kd.N_alloc | apply Kd.N_drewN | apply Kd.N_drew)); exact HO193.out)) (by decide) hg)
                have n11_ := Aside0.mk (Kd.V_afterv (ok := (fun q => ((P4 q ∨ P5 q ∨ Q4 q ∨ Q5 q) ∨ w.heap.size ≤ q) ∧ some q ≠ (.slice Ao96 y177.length co96 : Value).ownBlock ∧ some q ≠ (v189 : Value).ownBlock ∧ q ≠ g1 ∧ q ≠ g2 ∧ q ≠ g3)) (by (with_reducible repeat (first | apply Kd.V_alloc | apply Kd.V_drewN | apply Kd.V_drew)); exact Kd.V_mono HO198.out (fun _ hk => ⟨⟨hk.1.1.1, ⟨hk.1.1.2.1, ⟨hk.1.2, ⟨hk.1.1.2.2.1, ⟨hk.1.1.2.2.2.1, hk.1.1.2.2.2.2⟩⟩⟩⟩⟩, hk.2⟩)) hg hat)
                have n12_ := Aside0.mk (Kd.V_afterv (ok := (fun q => ((P4 q ∨ P5 q ∨ Q4 q ∨ Q5 q) ∨ w.heap.size ≤ q) ∧ some q ≠ (.slice Ao96 y177.length co96 : Value).ownBlock ∧ some q ≠ (v189 : Value).ownBlock ∧ q ≠ g1 ∧ q ≠ g2 ∧ q ≠ g3)) (by (with_reducible repeat (first | apply Kd.V_alloc | apply Kd.V_drewN | apply Kd.V_drew)); exact Kd.V_mono HO212.out (fun _ hk => ⟨⟨hk.1.1.1, ⟨hk.1.1.2.1, ⟨hk.1.2, ⟨hk.1.1.2.2.1, ⟨hk.1.1.2.2.2.1, hk.1.1.2.2.2.2⟩⟩⟩⟩⟩, hk.2⟩)) hg hat)
                have n13_ := Aside0.mk (hb)
                have n14_ := Aside0.mk (ho)
                clear U4
                clear U5
                clear U6
                clear U7
                clear BK111
                clear BK112
                clear BK113
                clear HO173
                clear HO187
                clear HO179
                clear HO190
                clear HO198
                clear HO212
                clear HB
                clear HO193
                have U4 := n0_
                have U5 := n1_
                have U6 := n2_
                have U7 := n3_
                have BK111 := n4_
                have BK112 := n5_
                have BK113 := n6_
                have HO173 := n7_
                have HO187 := n8_
                have HO179 := n9_
                have HO190 := n10_
                have HO198 := n11_
                have HO212 := n12_
                have HB := n13_
                have HO201 := n14_
                clear n0_ n1_ n2_ n3_ n4_ n5_ n6_ n7_ n8_ n9_ n10_ n11_ n12_ n13_ n14_
                clear ho hb hg hat
                refine hK.out _ _ ⟨(blk_cell BK111.out 0).trans rfl, (blk_cell BK111.out 1).trans rfl, (blk_cell BK111.out 2).trans rfl, (blk_cell BK111.out 3).trans rfl, (blk_cell BK111.out 4).trans rfl, (blk_cell BK111.out 5).trans rfl, (blk_cell BK112.out 0).trans rfl, (blk_cell BK112.out 1).trans rfl, (blk_cell BK112.out 2).trans rfl, (blk_cell BK112.out 3).trans rfl, (blk_cell BK112.out 4).trans rfl, (blk_cell BK112.out 5).trans rfl⟩ (fun hHeld => ?_)
                clear hK K
                refine norm_ (a' := ?_) ?_ ?_
                rotate_left
                · show Act.put _ (some 55) _ = _
                  simp only [Act.put, List.setIfInBounds_toArray, List.set_cons_zero, List.set_cons_succ, i64_w, i32_w]
                  rfl
                refine one_ (i := 7) (N := some 57) #[true, true, true, true, true, true, true, true, false, true, true, true, true, false, false] rfl rfl (one_of HT_.out (by kernel_rfl)) (by decide) (fun K hK => ?_)
                refine Kd.N_lit_step k27 _ 27 ?hg (N' := 57) ?hd (xs := ([(⟨a2_0, (⟨a2_1, a2_2⟩ : S23), a2_3, l2_4, l2_5⟩ : S27)] : List (S27))) (inner := [.int .i64 a2_0, .int .i64 a2_1, .int .i64 a2_2, .string a2_3, .slice A2_4 l2_4.length c2_4, .slice A2_5 l2_5.length c2_5]) (ok := (fun q => ((P4 q ∨ P5 q ∨ Q4 q ∨ Q5 q) ∨ w.heap.size ≤ q) ∧ some q ≠ (.slice Ao96 y177.length co96 : Value).ownBlock ∧ some q ≠ (v189 : Value).ownBlock ∧ some q ≠ (v200 : Value).ownBlock ∧ q ≠ g1 ∧ q ≠ g2 ∧ q ≠ g3)) (okp := (fun q => ((P4 q ∨ P5 q ∨ Q4 q ∨ Q5 q) ∨ w.heap.size ≤ q) ∧ some q ≠ (.slice Ao96 y177.length co96 : Value).ownBlock ∧ some q ≠ (v189 : Value).ownBlock ∧ some q ≠ (v200 : Value).ownBlock ∧ q ≠ g1 ∧ q ≠ g2 ∧ q ≠ g3)) ?hr ?hp (fun _ hk => hk) ((show ∀ q, w103.heap.size ≤ q → (fun q => ((P4 q ∨ P5 q ∨ Q4 q ∨ Q5 q) ∨ w.heap.size ≤ q) ∧ some q ≠ (.slice Ao96 y177.length co96 : Value).ownBlock ∧ some q ≠ (v189 : Value).ownBlock ∧ some q ≠ (v200 : Value).ownBlock ∧ q ≠ g1 ∧ q ≠ g2 ∧ q ≠ g3) q from fun q hk => ⟨(.inr (Nat.le_trans (below_size (by repeat (first | (with_reducible first | exact HB.out | apply below_alloc | apply pw_below_drewN | apply below_drew1 | refine below_set ?_ GE111.out | refine below_set ?_ GE112.out | refine below_set ?_ GE113.out) | exact HB.out))) hk)), Kd.fresh' (Kd.R_lt (by (with_reducible repeat (first | apply Kd.R_alloc | apply Kd.R_drewN | apply Kd.R_drew)); exact HO179.out)) q hk, Kd.fresh' (Kd.R_lt (by (with_reducible repeat (first | apply Kd.R_alloc | apply Kd.R_drewN | apply Kd.R_drew)); exact HO190.out)) q hk, Kd.fresh' (Kd.N_lt (by (with_reducible repeat (first | apply Kd.N_alloc | apply Kd.N_drewN | apply Kd.N_drew)); exact HO201.out)) q hk, Kd.freshB (g := g1) (o := .cells #[.int .i64 a0_0, .int .i64 a0_1, .int .i64 a0_2, .string a0_3, .slice A0_4 l0_4.length c0_4, .slice A0_5 l0_5.length c0_5] 27 (0, 0)) (by (with_reducible repeat (first | refine blk_drewN ?_ _ | refine blk_drew ?_ | refine blk_alloc ?_ _)); exact BK111.out) q hk, Kd.freshB (g := g2) (o := .cells #[.int .i64 a2_0, .int .i64 a2_1, .int .i64 a2_2, .string a2_3, .slice A2_4 l2_4.length c2_4, .slice A2_5 l2_5.length c2_5] 27 (0, 0)) (by (with_reducible repeat (first | refine blk_drewN ?_ _ | refine blk_drew ?_ | refine blk_alloc ?_ _)); exact BK112.out) q hk, Kd.freshB (g := g3) (o := .cells #[.int .i64 0, .int .i64 0, .int .i64 0, .string (⟨#[]⟩ : ByteArray), .slice none 0 0, .slice none 0 0] 27 (0, 0)) (by (with_reducible repeat (first | refine blk_drewN ?_ _ | refine blk_drew ?_ | refine blk_alloc ?_ _)); exact BK113.out) q hk⟩) _ (Nat.le_refl _)) (Below.refl _ _) (Nat.le_refl _) (by simp) ?_; (case hd => rfl); (case hg => rfl); (case hr => first | (go_simp; done) | (go_simp; rfl)); (case hp => exact (Reps.c6 (show Kd.FK k27 _ _ (⟨a2_0, (⟨a2_1, a2_2⟩ : S23), a2_3, l2_4, l2_5⟩ : S27) [.int .i64 a2_0, .int .i64 a2_1, .int .i64 a2_2, .string a2_3, .slice A2_4 l2_4.length c2_4, .slice A2_5 l2_5.length c2_5] from (k27_mkF _ _ (⟨a2_0, (⟨a2_1, a2_2⟩ : S23), a2_3, l2_4, l2_5⟩ : S27) (Kd.V_reads' (Kd.V_mono (ok' := (fun q => ((P4 q ∨ P5 q ∨ Q4 q ∨ Q5 q) ∨ w.heap.size ≤ q) ∧ some q ≠ (.slice Ao96 y177.length co96 : Value).ownBlock ∧ some q ≠ (v189 : Value).ownBlock ∧ some q ≠ (v200 : Value).ownBlock ∧ q ≠ g1 ∧ q ≠ g2 ∧ q ≠ g3)) (U6.out) (fun q hk => ⟨hk.1.1, ⟨hk.1.2.1, ⟨hk.1.2.2.1, ⟨hk.2, ⟨hk.1.2.2.2.1, ⟨hk.1.2.2.2.2.1, hk.1.2.2.2.2.2⟩⟩⟩⟩⟩⟩))).2.1 (Kd.V_F (Kd.V_mono (ok' := (fun q => ((P4 q ∨ P5 q ∨ Q4 q ∨ Q5 q) ∨ w.heap.size ≤ q) ∧ some q ≠ (.slice Ao96 y177.length co96 : Value).ownBlock ∧ some q ≠ (v189 : Value).ownBlock ∧ some q ≠ (v200 : Value).ownBlock ∧ q ≠ g1 ∧ q ≠ g2 ∧ q ≠ g3)) (U6.out) (fun q hk => ⟨hk.1.1, ⟨hk.1.2.1, ⟨hk.1.2.2.1, ⟨hk.2, ⟨hk.1.2.2.2.1, ⟨hk.1.2.2.2.2.1, hk.1.2.2.2.2.2⟩⟩⟩⟩⟩⟩))) (Kd.V_reads' (Kd.V_mono (ok' := (fun q => ((P4 q ∨ P5 q ∨ Q4 q ∨ Q5 q) ∨ w.heap.size ≤ q) ∧ some q ≠ (.slice Ao96 y177.length co96 : Value).ownBlock ∧ some q ≠ (v189 : Value).ownBlock ∧ some q ≠ (v200 : Value).ownBlock ∧ q ≠ g1 ∧ q ≠ g2 ∧ q ≠ g3)) (U7.out) (fun q hk => ⟨hk.1.1, ⟨hk.1.2.1, ⟨hk.1.2.2.1, ⟨hk.2, ⟨hk.1.2.2.2.1, ⟨hk.1.2.2.2.2.1, hk.1.2.2.2.2.2⟩⟩⟩⟩⟩⟩))).2.1 (Kd.V_F (Kd.V_mono (ok' := (fun q => ((P4 q ∨ P5 q ∨ Q4 q ∨ Q5 q) ∨ w.heap.size ≤ q) ∧ some q ≠ (.slice Ao96 y177.length co96 : Value).ownBlock ∧ some q ≠ (v189 : Value).ownBlock ∧ some q ≠ (v200 : Value).ownBlock ∧ q ≠ g1 ∧ q ≠ g2 ∧ q ≠ g3)) (U7.out) (fun q hk => ⟨hk.1.1, ⟨hk.1.2.1, ⟨hk.1.2.2.1, ⟨hk.2, ⟨hk.1.2.2.2.1, ⟨hk.1.2.2.2.2.1, hk.1.2.2.2.2.2⟩⟩⟩⟩⟩⟩))))) (Reps.none _ _)))
                intro v203 w104 ho105 hb hg_ hnew_
                clear hg_ hnew_
                (first | rw [← Ny202.out] at ho105 | (simp only [Int.reduceToNat] at ho105; rw [← Ny202.out] at ho105))
                have n0_ := Aside0.mk (Kd.V_elder' (by (with_reducible repeat (first | apply Kd.V_alloc | apply Kd.V_drewN | apply Kd.V_drew)); exact U4.out) (Kd.N_base ho105) hb)
                have n1_ := Aside0.mk (Kd.V_elder' (by (with_reducible repeat (first | apply Kd.V_alloc | apply Kd.V_drewN | apply Kd.V_drew)); exact U5.out) (Kd.N_base ho105) hb)
                have n2_ := Aside0.mk (Kd.V_elder' (by (with_reducible repeat (first | apply Kd.V_alloc | apply Kd.V_drewN | apply Kd.V_drew)); exact U6.out) (Kd.N_base ho105) hb)
                have n3_ := Aside0.mk (Kd.V_elder' (by (with_reducible repeat (first | apply Kd.V_alloc | apply Kd.V_drewN | apply Kd.V_drew)); exact U7.out) (Kd.N_base ho105) hb)
                have n4_ := Aside0.mk (Kd.V_elder' (by (with_reducible repeat (first | apply Kd.V_alloc | apply Kd.V_drewN | apply Kd.V_drew)); exact HO173.out) (Kd.N_base ho105) hb)
                have n5_ := Aside0.mk (Kd.V_elder' (by (with_reducible repeat (first | apply Kd.V_alloc | apply Kd.V_drewN | apply Kd.V_drew)); exact HO187.out) (Kd.N_base ho105) hb)
                have n6_ := Aside0.mk (Kd.R_below (by (with_reducible repeat (first | apply Kd.R_alloc | apply Kd.R_drewN | apply Kd.R_drew)); exact HO179.out) hb)
                have n7_ := Aside0.mk (Kd.R_below (by (with_reducible repeat (first | apply Kd.R_alloc | apply Kd.R_drewN | apply Kd.R_drew)); exact HO190.out) hb)
                have n8_ := Aside0.mk (Kd.V_elder' (by (with_reducible repeat (first | apply Kd.V_alloc | apply Kd.V_drewN | apply Kd.V_drew)); exact HO198.out) (Kd.N_base ho105) hb)
                have n9_ := Aside0.mk (Kd.V_elder' (by (with_reducible repeat (first | apply Kd.V_alloc | apply Kd.V_drewN | apply Kd.V_drew)); exact HO212.out) (Kd.N_base ho105) hb)
                have n10_ := Aside0.mk (Kd.N_elder' (by (with_reducible repeat (first | apply Kd.N_alloc | apply Kd.N_drewN | apply Kd.N_drew)); exact HO201.out) (Kd.N_base ho105) hb)
                have n11_ := Aside0.mk (Kd.N_lower ho105 (below_size (by repeat (first | (with_reducible first | exact HB.out | apply below_alloc | apply pw_below_drewN | apply below_drew1 | refine below_set ?_ GE111.out | refine below_set ?_ GE112.out | refine below_set ?_ GE113.out) | exact HB.out))))
                have n12_ := Aside0.mk (blk_below (g := g1) (o := .cells #[.int .i64 a0_0, .int .i64 a0_1, .int .i64 a0_2, .string a0_3, .slice A0_4 l0_4.length c0_4, .slice A0_5 l0_5.length c0_5] 27 (0, 0)) (by (with_reducible repeat (first | refine blk_drewN ?_ _ | refine blk_drew ?_ | refine blk_alloc ?_ _)); exact BK111.out) hb)
                have n13_ := Aside0.mk (blk_below (g := g2) (o := .cells #[.int .i64 a2_0, .int .i64 a2_1, .int .i64 a2_2, .string a2_3, .slice A2_4 l2_4.length c2_4, .slice A2_5 l2_5.length c2_5] 27 (0, 0)) (by (with_reducible repeat (first | refine blk_drewN ?_ _ | refine blk_drew ?_ | refine blk_alloc ?_ _)); exact BK112.out) hb)
                have n14_ := Aside0.mk (blk_below (g := g3) (o := .cells #[.int .i64 0, .int .i64 0, .int .i64 0, .string (⟨#[]⟩ : ByteArray), .slice none 0 0, .slice none 0 0] 27 (0, 0)) (by (with_reducible repeat (first | refine blk_drewN ?_ _ | refine blk_drew ?_ | refine blk_alloc ?_ _)); exact BK113.out) hb)
                have n15_ := Aside0.mk (below_step (by repeat (first | (with_reducible first | exact HB.out | apply below_alloc | apply pw_below_drewN | apply below_drew1 | refine below_set ?_ GE111.out | refine below_set ?_ GE112.out | refine below_set ?_ GE113.out) | exact HB.out)) hb)
                clear U4
                clear U5
                clear U6
                clear U7
                clear HO173
                clear HO187
                clear HO179
                clear HO190
                clear HO198
                clear HO212
                clear HO201
                clear BK111
                clear BK112
                clear BK113
                clear HB
                have U4 := n0_
                have U5 := n1_
                have U6 := n2_
                have U7 := n3_
                have HO173 := n4_
                have HO187 := n5_
                have HO179 := n6_
                have HO190 := n7_
                have HO198 := n8_
                have HO212 := n9_
                have HO201 := n10_
                have HO204 := n11_
                have BK111 := n12_
                have BK112 := n13_
                have BK113 := n14_
                have HB := n15_
                clear n0_ n1_ n2_ n3_ n4_ n5_ n6_ n7_ n8_ n9_ n10_ n11_ n12_ n13_ n14_ n15_
                clear hb ho105
                refine hK.out _ _ ⟨(blk_cell BK111.out 0).trans rfl, (blk_cell BK111.out 1).trans rfl, (blk_cell BK111.out 2).trans rfl, (blk_cell BK111.out 3).trans rfl, (blk_cell BK111.out 4).trans rfl, (blk_cell BK111.out 5).trans rfl, (blk_cell BK112.out 0).trans rfl, (blk_cell BK112.out 1).trans rfl, (blk_cell BK112.out 2).trans rfl, (blk_cell BK112.out 3).trans rfl, (blk_cell BK112.out 4).trans rfl, (blk_cell BK112.out 5).trans rfl⟩ (fun hHeld => ?_)
                clear hK K
                refine norm_ (a' := ?_) ?_ ?_
                rotate_left
                · show Act.put _ (some 57) _ = _
                  simp only [Act.put, List.setIfInBounds_toArray, List.set_cons_zero, List.set_cons_succ, i64_w, i32_w]
                  rfl
                exact norm_ (by simp only [putAll, Act.put, List.setIfInBounds_toArray, List.set_cons_zero, List.set_cons_succ]) (hCont (v192, v200, v203) _ ⟨hHeld, (by (with_reducible repeat (first | apply Kd.V_alloc | apply Kd.V_drewN | apply Kd.V_drew)); exact Kd.V_mono HO173.out (fun _ hk => ⟨hk.1.1.1, ⟨hk.1.1.2.1, ⟨hk.1.1.2.2.1, ⟨hk.1.2, ⟨hk.2, ⟨hk.1.1.2.2.2.1, ⟨hk.1.1.2.2.2.2.1, hk.1.1.2.2.2.2.2⟩⟩⟩⟩⟩⟩⟩)), (by (with_reducible repeat (first | apply Kd.R_alloc | apply Kd.R_drewN | apply Kd.R_drew)); exact HO179.out), (by (with_reducible repeat (first | apply Kd.V_alloc | apply Kd.V_drewN | apply Kd.V_drew)); exact Kd.V_mono HO187.out (fun _ hk => ⟨hk.1.1.1, ⟨hk.1.1.2.1, ⟨hk.1.1.2.2.1, ⟨hk.1.2, ⟨hk.2, ⟨hk.1.1.2.2.2.1, ⟨hk.1.1.2.2.2.2.1, hk.1.1.2.2.2.2.2⟩⟩⟩⟩⟩⟩⟩)), (by (with_reducible repeat (first | apply Kd.R_alloc | apply Kd.R_drewN | apply Kd.R_drew)); exact HO190.out), (by (with_reducible repeat (first | apply Kd.V_alloc | apply Kd.V_drewN | apply Kd.V_drew)); exact Kd.V_mono HO198.out (fun _ hk => ⟨hk.1.1.1, ⟨hk.1.1.2.1, ⟨hk.1.1.2.2.1, ⟨hk.1.2, ⟨hk.2, ⟨hk.1.1.2.2.2.1, ⟨hk.1.1.2.2.2.2.1, hk.1.1.2.2.2.2.2⟩⟩⟩⟩⟩⟩⟩)), (by (with_reducible repeat (first | apply Kd.N_alloc | apply Kd.N_drewN | apply Kd.N_drew)); exact Kd.N_mono HO201.out (fun _ hk => ⟨hk.1.1, ⟨hk.1.2.1, ⟨hk.1.2.2.1, ⟨hk.2, ⟨hk.1.2.2.2.1, ⟨hk.1.2.2.2.2.1, hk.1.2.2.2.2.2⟩⟩⟩⟩⟩⟩)), (by (with_reducible repeat (first | apply Kd.N_alloc | apply Kd.N_drewN | apply Kd.N_drew)); exact HO204.out), (by (with_reducible repeat (first | apply Kd.V_alloc | apply Kd.V_drewN | apply Kd.V_drew)); exact Kd.V_mono HO212.out (fun _ hk => ⟨hk.1.1.1, ⟨hk.1.1.2.1, ⟨hk.1.1.2.2.1, ⟨hk.1.2, ⟨hk.2, ⟨hk.1.1.2.2.2.1, ⟨hk.1.1.2.2.2.2.1, hk.1.1.2.2.2.2.2⟩⟩⟩⟩⟩⟩⟩)), (by (with_reducible repeat (first | apply Kd.V_alloc | apply Kd.V_drewN | apply Kd.V_drew)); exact Kd.V_mono U4.out (fun _ hk => ⟨hk.1.1.1, ⟨hk.1.1.2.1, ⟨hk.1.1.2.2.1, ⟨hk.1.2, ⟨hk.2, ⟨hk.1.1.2.2.2.1, ⟨hk.1.1.2.2.2.2.1, hk.1.1.2.2.2.2.2⟩⟩⟩⟩⟩⟩⟩)), (by (with_reducible repeat (first | apply Kd.V_alloc | apply Kd.V_drewN | apply Kd.V_drew)); exact Kd.V_mono U5.out (fun _ hk => ⟨hk.1.1.1, ⟨hk.1.1.2.1, ⟨hk.1.1.2.2.1, ⟨hk.1.2, ⟨hk.2, ⟨hk.1.1.2.2.2.1, ⟨hk.1.1.2.2.2.2.1, hk.1.1.2.2.2.2.2⟩⟩⟩⟩⟩⟩⟩)), (by (with_reducible repeat (first | apply Kd.V_alloc | apply Kd.V_drewN | apply Kd.V_drew)); exact Kd.V_mono U6.out (fun _ hk => ⟨hk.1.1.1, ⟨hk.1.1.2.1, ⟨hk.1.1.2.2.1, ⟨hk.1.2, ⟨hk.2, ⟨hk.1.1.2.2.2.1, ⟨hk.1.1.2.2.2.2.1, hk.1.1.2.2.2.2.2⟩⟩⟩⟩⟩⟩⟩)), (by (with_reducible repeat (first | apply Kd.V_alloc | apply Kd.V_drewN | apply Kd.V_drew)); exact Kd.V_mono U7.out (fun _ hk => ⟨hk.1.1.1, ⟨hk.1.1.2.1, ⟨hk.1.1.2.2.1, ⟨hk.1.2, ⟨hk.2, ⟨hk.1.1.2.2.2.1, ⟨hk.1.1.2.2.2.2.1, hk.1.1.2.2.2.2.2⟩⟩⟩⟩⟩⟩⟩)), (by (with_reducible repeat (first | refine blk_drewN ?_ _ | refine blk_drew ?_ | refine blk_alloc ?_ _)); exact BK111.out), (by (with_reducible repeat (first | refine blk_drewN ?_ _ | refine blk_drew ?_ | refine blk_alloc ?_ _)); exact BK112.out), (by (with_reducible repeat (first | refine blk_drewN ?_ _ | refine blk_drew ?_ | refine blk_alloc ?_ _)); exact BK113.out), (by repeat (first | (with_reducible first | exact HB.out | apply below_alloc | apply pw_below_drewN | apply below_drew1 | refine below_set ?_ GE111.out | refine below_set ?_ GE112.out | refine below_set ?_ GE113.out) | exact HB.out))⟩)
              · skip
                refine Kd.N_lit_step k27 _ 27 ?hg (N' := 57) ?hd (xs := ([(⟨a2_0, (⟨a2_1, a2_2⟩ : S23), a2_3, l2_4, l2_5⟩ : S27)] : List (S27))) (inner := [.int .i64 a2_0, .int .i64 a2_1, .int .i64 a2_2, .string a2_3, .slice A2_4 l2_4.length c2_4, .slice A2_5 l2_5.length c2_5]) (ok := (fun q => ((P4 q ∨ P5 q ∨ Q4 q ∨ Q5 q) ∨ w.heap.size ≤ q) ∧ some q ≠ (.slice Ao96 y177.length co96 : Value).ownBlock ∧ some q ≠ (v189 : Value).ownBlock ∧ some q ≠ (v192 : Value).ownBlock ∧ q ≠ g1 ∧ q ≠ g2 ∧ q ≠ g3)) (okp := (fun q => ((P4 q ∨ P5 q ∨ Q4 q ∨ Q5 q) ∨ w.heap.size ≤ q) ∧ some q ≠ (.slice Ao96 y177.length co96 : Value).ownBlock ∧ some q ≠ (v189 : Value).ownBlock ∧ some q ≠ (v192 : Value).ownBlock ∧ q ≠ g1 ∧ q ≠ g2 ∧ q ≠ g3)) ?hr ?hp (fun _ hk => hk) ((show ∀ q, w101.heap.size ≤ q → (fun q => ((P4 q ∨ P5 q ∨ Q4 q ∨ Q5 q) ∨ w.heap.size ≤ q) ∧ some q ≠ (.slice Ao96 y177.length co96 : Value).ownBlock ∧ some q ≠ (v189 : Value).ownBlock ∧ some q ≠ (v192 : Value).ownBlock ∧ q ≠ g1 ∧ q ≠ g2 ∧ q ≠ g3) q from fun q hk => ⟨(.inr (Nat.le_trans (below_size (by repeat (first | (with_reducible first | exact HB.out | apply below_alloc | apply pw_below_drewN | apply below_drew1 | refine below_set ?_ GE111.out | refine below_set ?_ GE112.out | refine below_set ?_ GE113.out) | exact HB.out))) hk)), Kd.fresh' (Kd.R_lt (by (with_reducible repeat (first | apply Kd.R_alloc | apply Kd.R_drewN | apply Kd.R_drew)); exact HO179.out)) q hk, Kd.fresh' (Kd.R_lt (by (with_reducible repeat (first | apply Kd.R_alloc | apply Kd.R_drewN | apply Kd.R_drew)); exact HO190.out)) q hk, Kd.fresh' (Kd.N_lt (by (with_reducible repeat (first | apply Kd.N_alloc | apply Kd.N_drewN | apply Kd.N_drew)); exact HO193.out)) q hk, Kd.freshB (g := g1) (o := .cells #[.int .i64 a0_0, .int .i64 a0_1, .int .i64 a0_2, .string a0_3, .slice A0_4 l0_4.length c0_4, .slice A0_5 l0_5.length c0_5] 27 (0, 0)) (by (with_reducible repeat (first | refine blk_drewN ?_ _ | refine blk_drew ?_ | refine blk_alloc ?_ _)); exact BK111.out) q hk, Kd.freshB (g := g2) (o := .cells #[.int .i64 a2_0, .int .i64 a2_1, .int .i64 a2_2, .string a2_3, .slice A2_4 l2_4.length c2_4, .slice A2_5 l2_5.length c2_5] 27 (0, 0)) (by (with_reducible repeat (first | refine blk_drewN ?_ _ | refine blk_drew ?_ | refine blk_alloc ?_ _)); exact BK112.out) q hk, Kd.freshB (g := g3) (o := .cells #[.int .i64 0, .int .i64 0, .int .i64 0, .string (⟨#[]⟩ : ByteArray), .slice none 0 0, .slice none 0 0] 27 (0, 0)) (by (with_reducible repeat (first | refine blk_drewN ?_ _ | refine blk_drew ?_ | refine blk_alloc ?_ _)); exact BK113.out) q hk⟩) _ (Nat.le_refl _)) (Below.refl _ _) (Nat.le_refl _) (by simp) ?_; (case hd => rfl); (case hg => rfl); (case hr => first | (go_simp; done) | (go_simp; rfl)); (case hp => exact (Reps.c6 (show Kd.FK k27 _ _ (⟨a2_0, (⟨a2_1, a2_2⟩ : S23), a2_3, l2_4, l2_5⟩ : S27) [.int .i64 a2_0, .int .i64 a2_1, .int .i64 a2_2, .string a2_3, .slice A2_4 l2_4.length c2_4, .slice A2_5 l2_5.length c2_5] from (k27_mkF _ _ (⟨a2_0, (⟨a2_1, a2_2⟩ : S23), a2_3, l2_4, l2_5⟩ : S27) (Kd.V_reads' (Kd.V_mono (ok' := (fun q => ((P4 q ∨ P5 q ∨ Q4 q ∨ Q5 q) ∨ w.heap.size ≤ q) ∧ some q ≠ (.slice Ao96 y177.length co96 : Value).ownBlock ∧ some q ≠ (v189 : Value).ownBlock ∧ some q ≠ (v192 : Value).ownBlock ∧ q ≠ g1 ∧ q ≠ g2 ∧ q ≠ g3)) (U6.out) (fun q hk => ⟨hk.1.1.1, ⟨hk.1.1.2.1, ⟨hk.1.2, ⟨hk.2, ⟨hk.1.1.2.2.1, ⟨hk.1.1.2.2.2.1, hk.1.1.2.2.2.2⟩⟩⟩⟩⟩⟩))).2.1 (Kd.V_F (Kd.V_mono (ok' := (fun q => ((P4 q ∨ P5 q ∨ Q4 q ∨ Q5 q) ∨ w.heap.size ≤ q) ∧ some q ≠ (.slice Ao96 y177.length co96 : Value).ownBlock ∧ some q ≠ (v189 : Value).ownBlock ∧ some q ≠ (v192 : Value).ownBlock ∧ q ≠ g1 ∧ q ≠ g2 ∧ q ≠ g3)) (U6.out) (fun q hk => ⟨hk.1.1.1, ⟨hk.1.1.2.1, ⟨hk.1.2, ⟨hk.2, ⟨hk.1.1.2.2.1, ⟨hk.1.1.2.2.2.1, hk.1.1.2.2.2.2⟩⟩⟩⟩⟩⟩))) (Kd.V_reads' (Kd.V_mono (ok' := (fun q => ((P4 q ∨ P5 q ∨ Q4 q ∨ Q5 q) ∨ w.heap.size ≤ q) ∧ some q ≠ (.slice Ao96 y177.length co96 : Value).ownBlock ∧ some q ≠ (v189 : Value).ownBlock ∧ some q ≠ (v192 : Value).ownBlock ∧ q ≠ g1 ∧ q ≠ g2 ∧ q ≠ g3)) (U7.out) (fun q hk => ⟨hk.1.1.1, ⟨hk.1.1.2.1, ⟨hk.1.2, ⟨hk.2, ⟨hk.1.1.2.2.1, ⟨hk.1.1.2.2.2.1, hk.1.1.2.2.2.2⟩⟩⟩⟩⟩⟩))).2.1 (Kd.V_F (Kd.V_mono (ok' := (fun q => ((P4 q ∨ P5 q ∨ Q4 q ∨ Q5 q) ∨ w.heap.size ≤ q) ∧ some q ≠ (.slice Ao96 y177.length co96 : Value).ownBlock ∧ some q ≠ (v189 : Value).ownBlock ∧ some q ≠ (v192 : Value).ownBlock ∧ q ≠ g1 ∧ q ≠ g2 ∧ q ≠ g3)) (U7.out) (fun q hk => ⟨hk.1.1.1, ⟨hk.1.1.2.1, ⟨hk.1.2, ⟨hk.2, ⟨hk.1.1.2.2.1, ⟨hk.1.1.2.2.2.1, hk.1.1.2.2.2.2⟩⟩⟩⟩⟩⟩))))) (Reps.none _ _)))
                intro v203 w103 ho104 hb hg_ hnew_
                clear hg_ hnew_
                (first | rw [← Ny202.out] at ho104 | (simp only [Int.reduceToNat] at ho104; rw [← Ny202.out] at ho104))
                have n0_ := Aside0.mk (Kd.V_elder' (by (with_reducible repeat (first | apply Kd.V_alloc | apply Kd.V_drewN | apply Kd.V_drew)); exact U4.out) (Kd.N_base ho104) hb)
                have n1_ := Aside0.mk (Kd.V_elder' (by (with_reducible repeat (first | apply Kd.V_alloc | apply Kd.V_drewN | apply Kd.V_drew)); exact U5.out) (Kd.N_base ho104) hb)
                have n2_ := Aside0.mk (Kd.V_elder' (by (with_reducible repeat (first | apply Kd.V_alloc | apply Kd.V_drewN | apply Kd.V_drew)); exact U6.out) (Kd.N_base ho104) hb)
                have n3_ := Aside0.mk (Kd.V_elder' (by (with_reducible repeat (first | apply Kd.V_alloc | apply Kd.V_drewN | apply Kd.V_drew)); exact U7.out) (Kd.N_base ho104) hb)
                have n4_ := Aside0.mk (Kd.V_elder' (by (with_reducible repeat (first | apply Kd.V_alloc | apply Kd.V_drewN | apply Kd.V_drew)); exact HO173.out) (Kd.N_base ho104) hb)
                have n5_ := Aside0.mk (Kd.V_elder' (by (with_reducible repeat (first | apply Kd.V_alloc | apply Kd.V_drewN | apply Kd.V_drew)); exact HO187.out) (Kd.N_base ho104) hb)
                have n6_ := Aside0.mk (Kd.R_below (by (with_reducible repeat (first | apply Kd.R_alloc | apply Kd.R_drewN | apply Kd.R_drew)); exact HO179.out) hb)
                have n7_ := Aside0.mk (Kd.R_below (by (with_reducible repeat (first | apply Kd.R_alloc | apply Kd.R_drewN | apply Kd.R_drew)); exact HO190.out) hb)
                have n8_ := Aside0.mk (Kd.V_elder' (by (with_reducible repeat (first | apply Kd.V_alloc | apply Kd.V_drewN | apply Kd.V_drew)); exact HO198.out) (Kd.N_base ho104) hb)
                have n9_ := Aside0.mk (Kd.V_elder' (by (with_reducible repeat (first | apply Kd.V_alloc | apply Kd.V_drewN | apply Kd.V_drew)); exact HO212.out) (Kd.N_base ho104) hb)
                have n10_ := Aside0.mk (Kd.N_elder' (by (with_reducible repeat (first | apply Kd.N_alloc | apply Kd.N_drewN | apply Kd.N_drew)); exact HO193.out) (Kd.N_base ho104) hb)
                have n11_ := Aside0.mk (Kd.N_lower ho104 (below_size (by repeat (first | (with_reducible first | exact HB.out | apply below_alloc | apply pw_below_drewN | apply below_drew1 | refine below_set ?_ GE111.out | refine below_set ?_ GE112.out | refine below_set ?_ GE113.out) | exact HB.out))))
                have n12_ := Aside0.mk (blk_below (g := g1) (o := .cells #[.int .i64 a0_0, .int .i64 a0_1, .int .i64 a0_2, .string a0_3, .slice A0_4 l0_4.length c0_4, .slice A0_5 l0_5.length c0_5] 27 (0, 0)) (by (with_reducible repeat (first | refine blk_drewN ?_ _ | refine blk_drew ?_ | refine blk_alloc ?_ _)); exact BK111.out) hb)
                have n13_ := Aside0.mk (blk_below (g := g2) (o := .cells #[.int .i64 a2_0, .int .i64 a2_1, .int .i64 a2_2, .string a2_3, .slice A2_4 l2_4.length c2_4, .slice A2_5 l2_5.length c2_5] 27 (0, 0)) (by (with_reducible repeat (first | refine blk_drewN ?_ _ | refine blk_drew ?_ | refine blk_alloc ?_ _)); exact BK112.out) hb)
                have n14_ := Aside0.mk (blk_below (g := g3) (o := .cells #[.int .i64 0, .int .i64 0, .int .i64 0, .string (⟨#[]⟩ : ByteArray), .slice none 0 0, .slice none 0 0] 27 (0, 0)) (by (with_reducible repeat (first | refine blk_drewN ?_ _ | refine blk_drew ?_ | refine blk_alloc ?_ _)); exact BK113.out) hb)
                have n15_ := Aside0.mk (below_step (by repeat (first | (with_reducible first | exact HB.out | apply below_alloc | apply pw_below_drewN | apply below_drew1 | refine below_set ?_ GE111.out | refine below_set ?_ GE112.out | refine below_set ?_ GE113.out) | exact HB.out)) hb)
                clear U4
                clear U5
                clear U6
                clear U7
                clear HO173
                clear HO187
                clear HO179
                clear HO190
                clear HO198
                clear HO212
                clear HO193
                clear BK111
                clear BK112
                clear BK113
                clear HB
                have U4 := n0_
                have U5 := n1_
                have U6 := n2_
                have U7 := n3_
                have HO173 := n4_
                have HO187 := n5_
                have HO179 := n6_
                have HO190 := n7_
                have HO198 := n8_
                have HO212 := n9_
                have HO193 := n10_
                have HO204 := n11_
                have BK111 := n12_
                have BK112 := n13_
                have BK113 := n14_
                have HB := n15_
                clear n0_ n1_ n2_ n3_ n4_ n5_ n6_ n7_ n8_ n9_ n10_ n11_ n12_ n13_ n14_ n15_
                clear hb ho104
                refine hK.out _ _ ⟨(blk_cell BK111.out 0).trans rfl, (blk_cell BK111.out 1).trans rfl, (blk_cell BK111.out 2).trans rfl, (blk_cell BK111.out 3).trans rfl, (blk_cell BK111.out 4).trans rfl, (blk_cell BK111.out 5).trans rfl, (blk_cell BK112.out 0).trans rfl, (blk_cell BK112.out 1).trans rfl, (blk_cell BK112.out 2).trans rfl, (blk_cell BK112.out 3).trans rfl, (blk_cell BK112.out 4).trans rfl, (blk_cell BK112.out 5).trans rfl⟩ (fun hHeld => ?_)
                clear hK K
                refine norm_ (a' := ?_) ?_ ?_
                rotate_left
                · show Act.put _ (some 57) _ = _
                  simp only [Act.put, List.setIfInBounds_toArray, List.set_cons_zero, List.set_cons_succ, i64_w, i32_w]
                  rfl
                refine one_ (i := 5) (N := some 55) #[true, true, true, true, true, true, true, true, false, true, true, true, true, false, false] rfl rfl (one_of HT_.out (by kernel_rfl)) (by decide) (fun K hK => ?_)
                refine Kd.N_append_rows_step k27 (w0 := w) w.heap.size (by rfl) (.tmp 50) (.tmp 54) 24 27 (.agg #[(.int .i64 0), (.int .i64 0), (.int .i64 0), (.string ⟨#[]⟩), (.slice none 0 0), (.slice none 0 0)]) 88 rfl Try.underlying24 info27 rfl (by decide) (by omega) v192 y191 y194 _ _ _ (fun q => ((P4 q ∨ P5 q ∨ Q4 q ∨ Q5 q) ∨ w.heap.size ≤ q) ∧ some q ≠ (.slice Ao96 y177.length co96 : Value).ownBlock ∧ some q ≠ (v189 : Value).ownBlock ∧ some q ≠ (v203 : Value).ownBlock ∧ q ≠ g1 ∧ q ≠ g2 ∧ q ≠ g3) (fun q => ((fun q => ((P4 q ∨ P5 q ∨ Q4 q ∨ Q5 q) ∨ w.heap.size ≤ q) ∧ some q ≠ (.slice Ao96 y177.length co96 : Value).ownBlock ∧ some q ≠ (v189 : Value).ownBlock ∧ some q ≠ (v203 : Value).ownBlock ∧ q ≠ g1 ∧ q ≠ g2 ∧ q ≠ g3)) q ∧ some q ≠ (v192 : Value).ownBlock) rfl rfl ?aO ?aR (fun _ hk => hk) ?aF ?aB ?aS ?aL ?_
                (case aR => exact (by skip; exact Kd.V_F (Kd.V_mono (ok' := (fun q => ((fun q => ((P4 q ∨ P5 q ∨ Q4 q ∨ Q5 q) ∨ w.heap.size ≤ q) ∧ some q ≠ (.slice Ao96 y177.length co96 : Value).ownBlock ∧ some q ≠ (v189 : Value).ownBlock ∧ some q ≠ (v203 : Value).ownBlock ∧ q ≠ g1 ∧ q ≠ g2 ∧ q ≠ g3)) q ∧ some q ≠ (v192 : Value).ownBlock)) (HO198.out) (fun q hk => ⟨⟨hk.1.1.1.1, ⟨hk.1.1.1.2.1, ⟨hk.1.1.2, ⟨hk.2, ⟨hk.1.1.1.2.2.1, ⟨hk.1.1.1.2.2.2.1, hk.1.1.1.2.2.2.2⟩⟩⟩⟩⟩⟩, hk.1.2⟩))))
                (case aB => exact (by repeat (first | (with_reducible first | exact HB.out | apply below_alloc | apply pw_below_drewN | apply below_drew1 | refine below_set ?_ GE111.out | refine below_set ?_ GE112.out | refine below_set ?_ GE113.out) | exact HB.out)))
                (case aF => exact (fun q hk => ⟨(.inr (Nat.le_trans (below_size (by repeat (first | (with_reducible first | exact HB.out | apply below_alloc | apply pw_below_drewN | apply below_drew1 | refine below_set ?_ GE111.out | refine below_set ?_ GE112.out | refine below_set ?_ GE113.out) | exact HB.out))) hk)), Kd.fresh' (Kd.R_lt (by (with_reducible repeat (first | apply Kd.R_alloc | apply Kd.R_drewN | apply Kd.R_drew)); exact HO179.out)) q hk, Kd.fresh' (Kd.R_lt (by (with_reducible repeat (first | apply Kd.R_alloc | apply Kd.R_drewN | apply Kd.R_drew)); exact HO190.out)) q hk, Kd.fresh' (Kd.N_lt (by (with_reducible repeat (first | apply Kd.N_alloc | apply Kd.N_drewN | apply Kd.N_drew)); exact HO204.out)) q hk, Kd.freshB (g := g1) (o := .cells #[.int .i64 a0_0, .int .i64 a0_1, .int .i64 a0_2, .string a0_3, .slice A0_4 l0_4.length c0_4, .slice A0_5 l0_5.length c0_5] 27 (0, 0)) (by (with_reducible repeat (first | refine blk_drewN ?_ _ | refine blk_drew ?_ | refine blk_alloc ?_ _)); exact BK111.out) q hk, Kd.freshB (g := g2) (o := .cells #[.int .i64 a2_0, .int .i64 a2_1, .int .i64 a2_2, .string a2_3, .slice A2_4 l2_4.length c2_4, .slice A2_5 l2_5.length c2_5] 27 (0, 0)) (by (with_reducible repeat (first | refine blk_drewN ?_ _ | refine blk_drew ?_ | refine blk_alloc ?_ _)); exact BK112.out) q hk, Kd.freshB (g := g3) (o := .cells #[.int .i64 0, .int .i64 0, .int .i64 0, .string (⟨#[]⟩ : ByteArray), .slice none 0 0, .slice none 0 0] 27 (0, 0)) (by (with_reducible repeat (first | refine blk_drewN ?_ _ | refine blk_drew ?_ | refine blk_alloc ?_ _)); exact BK113.out) q hk⟩))
                (case aO => exact (by (with_reducible repeat (first | apply Kd.N_alloc | apply Kd.N_drewN | apply Kd.N_drew)); exact Kd.N_mono HO193.out (fun _ hk => ⟨hk.1.1, ⟨hk.1.2.1, ⟨hk.1.2.2.1, ⟨hk.2, ⟨hk.1.2.2.2.1, ⟨hk.1.2.2.2.2.1, hk.1.2.2.2.2.2⟩⟩⟩⟩⟩⟩)))
                (case aS => exact (below_size (by repeat (first | (with_reducible first | exact HB.out | apply below_alloc | apply pw_below_drewN | apply below_drew1 | refine below_set ?_ GE111.out | refine below_set ?_ GE112.out | refine below_set ?_ GE113.out) | exact HB.out))))
                (case aL => have := LMc78.out; omega)
                intro v200 w105 ho hb hg hat
                rw [← Ny199.out] at ho
                have n0_ := Aside0.mk (Kd.V_afterv (ok := (fun q => ((P4 q ∨ P5 q ∨ Q4 q ∨ Q5 q) ∨ w.heap.size ≤ q) ∧ some q ≠ (.slice Ao96 y177.length co96 : Value).ownBlock ∧ some q ≠ (v189 : Value).ownBlock ∧ some q ≠ (v203 : Value).ownBlock ∧ q ≠ g1 ∧ q ≠ g2 ∧ q ≠ g3)) (by (with_reducible repeat (first | apply Kd.V_alloc | apply Kd.V_drewN | apply Kd.V_drew)); exact Kd.V_mono U4.out (fun _ hk => ⟨⟨hk.1.1.1.1, ⟨hk.1.1.1.2.1, ⟨hk.1.1.2, ⟨hk.2, ⟨hk.1.1.1.2.2.1, ⟨hk.1.1.1.2.2.2.1, hk.1.1.1.2.2.2.2⟩⟩⟩⟩⟩⟩, hk.1.2⟩)) hg hat)
                have n1_ := Aside0.mk (Kd.V_afterv (ok := (fun q => ((P4 q ∨ P5 q ∨ Q4 q ∨ Q5 q) ∨ w.heap.size ≤ q) ∧ some q ≠ (.slice Ao96 y177.length co96 : Value).ownBlock ∧ some q ≠ (v189 : Value).ownBlock ∧ some q ≠ (v203 : Value).ownBlock ∧ q ≠ g1 ∧ q ≠ g2 ∧ q ≠ g3)) (by (with_reducible repeat (first | apply Kd.V_alloc | apply Kd.V_drewN | apply Kd.V_drew)); exact Kd.V_mono U5.out (fun _ hk => ⟨⟨hk.1.1.1.1, ⟨hk.1.1.1.2.1, ⟨hk.1.1.2, ⟨hk.2, ⟨hk.1.1.1.2.2.1, ⟨hk.1.1.1.2.2.2.1, hk.1.1.1.2.2.2.2⟩⟩⟩⟩⟩⟩, hk.1.2⟩)) hg hat)
                have n2_ := Aside0.mk (Kd.V_afterv (ok := (fun q => ((P4 q ∨ P5 q ∨ Q4 q ∨ Q5 q) ∨ w.heap.size ≤ q) ∧ some q ≠ (.slice Ao96 y177.length co96 : Value).ownBlock ∧ some q ≠ (v189 : Value).ownBlock ∧ some q ≠ (v203 : Value).ownBlock ∧ q ≠ g1 ∧ q ≠ g2 ∧ q ≠ g3)) (by (with_reducible repeat (first | apply Kd.V_alloc | apply Kd.V_drewN | apply Kd.V_drew)); exact Kd.V_mono U6.out (fun _ hk => ⟨⟨hk.1.1.1.1, ⟨hk.1.1.1.2.1, ⟨hk.1.1.2, ⟨hk.2, ⟨hk.1.1.1.2.2.1, ⟨hk.1.1.1.2.2.2.1, hk.1.1.1.2.2.2.2⟩⟩⟩⟩⟩⟩, hk.1.2⟩)) hg hat)
                have n3_ := Aside0.mk (Kd.V_afterv (ok := (fun q => ((P4 q ∨ P5 q ∨ Q4 q ∨ Q5 q) ∨ w.heap.size ≤ q) ∧ some q ≠ (.slice Ao96 y177.length co96 : Value).ownBlock ∧ some q ≠ (v189 : Value).ownBlock ∧ some q ≠ (v203 : Value).ownBlock ∧ q ≠ g1 ∧ q ≠ g2 ∧ q ≠ g3)) (by (with_reducible repeat (first | apply Kd.V_alloc | apply Kd.V_drewN | apply Kd.V_drew)); exact Kd.V_mono U7.out (fun _ hk => ⟨⟨hk.1.1.1.1, ⟨hk.1.1.1.2.1, ⟨hk.1.1.2, ⟨hk.2, ⟨hk.1.1.1.2.2.1, ⟨hk.1.1.1.2.2.2.1, hk.1.1.1.2.2.2.2⟩⟩⟩⟩⟩⟩, hk.1.2⟩)) hg hat)
                have n4_ := Aside0.mk (blk_grown (g := g1) (o := .cells #[.int .i64 a0_0, .int .i64 a0_1, .int .i64 a0_2, .string a0_3, .slice A0_4 l0_4.length c0_4, .slice A0_5 l0_5.length c0_5] 27 (0, 0)) (by (with_reducible repeat (first | refine blk_drewN ?_ _ | refine blk_drew ?_ | refine blk_alloc ?_ _)); exact BK111.out) hg (Kd.N_away HO193.out (fun _ hk => hk.1.2.2.2.1)))
                have n5_ := Aside0.mk (blk_grown (g := g2) (o := .cells #[.int .i64 a2_0, .int .i64 a2_1, .int .i64 a2_2, .string a2_3, .slice A2_4 l2_4.length c2_4, .slice A2_5 l2_5.length c2_5] 27 (0, 0)) (by (with_reducible repeat (first | refine blk_drewN ?_ _ | refine blk_drew ?_ | refine blk_alloc ?_ _)); exact BK112.out) hg (Kd.N_away HO193.out (fun _ hk => hk.1.2.2.2.2.1)))
                have n6_ := Aside0.mk (blk_grown (g := g3) (o := .cells #[.int .i64 0, .int .i64 0, .int .i64 0, .string (⟨#[]⟩ : ByteArray), .slice none 0 0, .slice none 0 0] 27 (0, 0)) (by (with_reducible repeat (first | refine blk_drewN ?_ _ | refine blk_drew ?_ | refine blk_alloc ?_ _)); exact BK113.out) hg (Kd.N_away HO193.out (fun _ hk => hk.1.2.2.2.2.2)))
                have n7_ := Aside0.mk (Kd.V_afterv (ok := (fun q => ((P4 q ∨ P5 q ∨ Q4 q ∨ Q5 q) ∨ w.heap.size ≤ q) ∧ some q ≠ (.slice Ao96 y177.length co96 : Value).ownBlock ∧ some q ≠ (v189 : Value).ownBlock ∧ some q ≠ (v203 : Value).ownBlock ∧ q ≠ g1 ∧ q ≠ g2 ∧ q ≠ g3)) (by (with_reducible repeat (first | apply Kd.V_alloc | apply Kd.V_drewN | apply Kd.V_drew)); exact Kd.V_mono HO173.out (fun _ hk => ⟨⟨hk.1.1.1.1, ⟨hk.1.1.1.2.1, ⟨hk.1.1.2, ⟨hk.2, ⟨hk.1.1.1.2.2.1, ⟨hk.1.1.1.2.2.2.1, hk.1.1.1.2.2.2.2⟩⟩⟩⟩⟩⟩, hk.1.2⟩)) hg hat)
                have n8_ := Aside0.mk (Kd.V_afterv (ok := (fun q => ((P4 q ∨ P5 q ∨ Q4 q ∨ Q5 q) ∨ w.heap.size ≤ q) ∧ some q ≠ (.slice Ao96 y177.length co96 : Value).ownBlock ∧ some q ≠ (v189 : Value).ownBlock ∧ some q ≠ (v203 : Value).ownBlock ∧ q ≠ g1 ∧ q ≠ g2 ∧ q ≠ g3)) (by (with_reducible repeat (first | apply Kd.V_alloc | apply Kd.V_drewN | apply Kd.V_drew)); exact Kd.V_mono HO187.out (fun _ hk => ⟨⟨hk.1.1.1.1, ⟨hk.1.1.1.2.1, ⟨hk.1.1.2, ⟨hk.2, ⟨hk.1.1.1.2.2.1, ⟨hk.1.1.1.2.2.2.1, hk.1.1.1.2.2.2.2⟩⟩⟩⟩⟩⟩, hk.1.2⟩)) hg hat)
                have n9_ := Aside0.mk (Kd.R_over' (by (with_reducible repeat (first | apply Kd.R_alloc | apply Kd.R_drewN | apply Kd.R_drew)); exact HO179.out) (Kd.N_typed (by (with_reducible repeat (first | apply Kd.N_alloc | apply Kd.N_drewN | apply Kd.N_drew)); exact HO193.out)) (by decide) hg)
                have n10_ := Aside0.mk (Kd.R_over' (by (with_reducible repeat (first | apply Kd.R_alloc | apply Kd.R_drewN | apply Kd.R_drew)); exact HO190.out) (Kd.N_typed (by (with_reducible repeat (first | apply Kd.N_alloc | apply Kd.N_drewN | apply Kd.N_drew)); exact HO193.out)) (by decide) hg)
                have n11_ := Aside0.mk (Kd.V_afterv (ok := (fun q => ((P4 q ∨ P5 q ∨ Q4 q ∨ Q5 q) ∨ w.heap.size ≤ q) ∧ some q ≠ (.slice Ao96 y177.length co96 : Value).ownBlock ∧ some q ≠ (v189 : Value).ownBlock ∧ some q ≠ (v203 : Value).ownBlock ∧ q ≠ g1 ∧ q ≠ g2 ∧ q ≠ g3)) (by (with_reducible repeat (first | apply Kd.V_alloc | apply Kd.V_drewN | apply Kd.V_drew)); exact Kd.V_mono HO198.out (fun _ hk => ⟨⟨hk.1.1.1.1, ⟨hk.1.1.1.2.1, ⟨hk.1.1.2, ⟨hk.2, ⟨hk.1.1.1.2.2.1, ⟨hk.1.1.1.2.2.2.1, hk.1.1.1.2.2.2.2⟩⟩⟩⟩⟩⟩, hk.1.2⟩)) hg hat)
                have n12_ := Aside0.mk (Kd.V_afterv (ok := (fun q => ((P4 q ∨ P5 q ∨ Q4 q ∨ Q5 q) ∨ w.heap.size ≤ q) ∧ some q ≠ (.slice Ao96 y177.length co96 : Value).ownBlock ∧ some q ≠ (v189 : Value).ownBlock ∧ some q ≠ (v203 : Value).ownBlock ∧ q ≠ g1 ∧ q ≠ g2 ∧ q ≠ g3)) (by (with_reducible repeat (first | apply Kd.V_alloc | apply Kd.V_drewN | apply Kd.V_drew)); exact Kd.V_mono HO212.out (fun _ hk => ⟨⟨hk.1.1.1.1, ⟨hk.1.1.1.2.1, ⟨hk.1.1.2, ⟨hk.2, ⟨hk.1.1.1.2.2.1, ⟨hk.1.1.1.2.2.2.1, hk.1.1.1.2.2.2.2⟩⟩⟩⟩⟩⟩, hk.1.2⟩)) hg hat)
                have n13_ := Aside0.mk (Kd.N_afterv (ok := (fun q => ((P4 q ∨ P5 q ∨ Q4 q ∨ Q5 q) ∨ w.heap.size ≤ q) ∧ some q ≠ (.slice Ao96 y177.length co96 : Value).ownBlock ∧ some q ≠ (v189 : Value).ownBlock ∧ q ≠ g1 ∧ q ≠ g2 ∧ q ≠ g3)) (by (with_reducible repeat (first | apply Kd.N_alloc | apply Kd.N_drewN | apply Kd.N_drew)); exact Kd.N_mono HO204.out (fun _ hk => ⟨⟨hk.1, ⟨hk.2.1, ⟨hk.2.2.1, ⟨hk.2.2.2.2.1, ⟨hk.2.2.2.2.2.1, hk.2.2.2.2.2.2⟩⟩⟩⟩⟩, hk.2.2.2.1⟩)) hg hat)
                have n14_ := Aside0.mk (hb)
                have n15_ := Aside0.mk (ho)
                clear U4
                clear U5
                clear U6
                clear U7
                clear BK111
                clear BK112
                clear BK113
                clear HO173
                clear HO187
                clear HO179
                clear HO190
                clear HO198
                clear HO212
                clear HO204
                clear HB
                clear HO193
                have U4 := n0_
                have U5 := n1_
                have U6 := n2_
                have U7 := n3_
                have BK111 := n4_
                have BK112 := n5_
                have BK113 := n6_
                have HO173 := n7_
                have HO187 := n8_
                have HO179 := n9_
                have HO190 := n10_
                have HO198 := n11_
                have HO212 := n12_
                have HO204 := n13_
                have HB := n14_
                have HO201 := n15_
                clear n0_ n1_ n2_ n3_ n4_ n5_ n6_ n7_ n8_ n9_ n10_ n11_ n12_ n13_ n14_ n15_
                clear ho hb hg hat
                refine hK.out _ _ ⟨(blk_cell BK111.out 0).trans rfl, (blk_cell BK111.out 1).trans rfl, (blk_cell BK111.out 2).trans rfl, (blk_cell BK111.out 3).trans rfl, (blk_cell BK111.out 4).trans rfl, (blk_cell BK111.out 5).trans rfl, (blk_cell BK112.out 0).trans rfl, (blk_cell BK112.out 1).trans rfl, (blk_cell BK112.out 2).trans rfl, (blk_cell BK112.out 3).trans rfl, (blk_cell BK112.out 4).trans rfl, (blk_cell BK112.out 5).trans rfl⟩ (fun hHeld => ?_)
                clear hK K
                refine norm_ (a' := ?_) ?_ ?_
                rotate_left
                · show Act.put _ (some 55) _ = _
                  simp only [Act.put, List.setIfInBounds_toArray, List.set_cons_zero, List.set_cons_succ, i64_w, i32_w]
                  rfl
                exact norm_ (by simp only [putAll, Act.put, List.setIfInBounds_toArray, List.set_cons_zero, List.set_cons_succ]) (hCont (v192, v200, v203) _ ⟨hHeld, (by (with_reducible repeat (first | apply Kd.V_alloc | apply Kd.V_drewN | apply Kd.V_drew)); exact Kd.V_mono HO173.out (fun _ hk => ⟨hk.1.1, ⟨hk.1.2.1, ⟨hk.1.2.2.1, ⟨hk.2, ⟨hk.1.2.2.2.1, ⟨hk.1.2.2.2.2.1, ⟨hk.1.2.2.2.2.2.1, hk.1.2.2.2.2.2.2⟩⟩⟩⟩⟩⟩⟩)), (by (with_reducible repeat (first | apply Kd.R_alloc | apply Kd.R_drewN | apply Kd.R_drew)); exact HO179.out), (by (with_reducible repeat (first | apply Kd.V_alloc | apply Kd.V_drewN | apply Kd.V_drew)); exact Kd.V_mono HO187.out (fun _ hk => ⟨hk.1.1, ⟨hk.1.2.1, ⟨hk.1.2.2.1, ⟨hk.2, ⟨hk.1.2.2.2.1, ⟨hk.1.2.2.2.2.1, ⟨hk.1.2.2.2.2.2.1, hk.1.2.2.2.2.2.2⟩⟩⟩⟩⟩⟩⟩)), (by (with_reducible repeat (first | apply Kd.R_alloc | apply Kd.R_drewN | apply Kd.R_drew)); exact HO190.out), (by (with_reducible repeat (first | apply Kd.V_alloc | apply Kd.V_drewN | apply Kd.V_drew)); exact Kd.V_mono HO198.out (fun _ hk => ⟨hk.1.1, ⟨hk.1.2.1, ⟨hk.1.2.2.1, ⟨hk.2, ⟨hk.1.2.2.2.1, ⟨hk.1.2.2.2.2.1, ⟨hk.1.2.2.2.2.2.1, hk.1.2.2.2.2.2.2⟩⟩⟩⟩⟩⟩⟩)), (by (with_reducible repeat (first | apply Kd.N_alloc | apply Kd.N_drewN | apply Kd.N_drew)); exact HO201.out), (by (with_reducible repeat (first | apply Kd.N_alloc | apply Kd.N_drewN | apply Kd.N_drew)); exact Kd.N_mono HO204.out (fun _ hk => ⟨hk.1.1, ⟨hk.1.2.1, ⟨hk.1.2.2.1, ⟨hk.2, ⟨hk.1.2.2.2.1, ⟨hk.1.2.2.2.2.1, hk.1.2.2.2.2.2⟩⟩⟩⟩⟩⟩)), (by (with_reducible repeat (first | apply Kd.V_alloc | apply Kd.V_drewN | apply Kd.V_drew)); exact Kd.V_mono HO212.out (fun _ hk => ⟨hk.1.1, ⟨hk.1.2.1, ⟨hk.1.2.2.1, ⟨hk.2, ⟨hk.1.2.2.2.1, ⟨hk.1.2.2.2.2.1, ⟨hk.1.2.2.2.2.2.1, hk.1.2.2.2.2.2.2⟩⟩⟩⟩⟩⟩⟩)), (by (with_reducible repeat (first | apply Kd.V_alloc | apply Kd.V_drewN | apply Kd.V_drew)); exact Kd.V_mono U4.out (fun _ hk => ⟨hk.1.1, ⟨hk.1.2.1, ⟨hk.1.2.2.1, ⟨hk.2, ⟨hk.1.2.2.2.1, ⟨hk.1.2.2.2.2.1, ⟨hk.1.2.2.2.2.2.1, hk.1.2.2.2.2.2.2⟩⟩⟩⟩⟩⟩⟩)), (by (with_reducible repeat (first | apply Kd.V_alloc | apply Kd.V_drewN | apply Kd.V_drew)); exact Kd.V_mono U5.out (fun _ hk => ⟨hk.1.1, ⟨hk.1.2.1, ⟨hk.1.2.2.1, ⟨hk.2, ⟨hk.1.2.2.2.1, ⟨hk.1.2.2.2.2.1, ⟨hk.1.2.2.2.2.2.1, hk.1.2.2.2.2.2.2⟩⟩⟩⟩⟩⟩⟩)), (by (with_reducible repeat (first | apply Kd.V_alloc | apply Kd.V_drewN | apply Kd.V_drew)); exact Kd.V_mono U6.out (fun _ hk => ⟨hk.1.1, ⟨hk.1.2.1, ⟨hk.1.2.2.1, ⟨hk.2, ⟨hk.1.2.2.2.1, ⟨hk.1.2.2.2.2.1, ⟨hk.1.2.2.2.2.2.1, hk.1.2.2.2.2.2.2⟩⟩⟩⟩⟩⟩⟩)), (by (with_reducible repeat (first | apply Kd.V_alloc | apply Kd.V_drewN | apply Kd.V_drew)); exact Kd.V_mono U7.out (fun _ hk => ⟨hk.1.1, ⟨hk.1.2.1, ⟨hk.1.2.2.1, ⟨hk.2, ⟨hk.1.2.2.2.1, ⟨hk.1.2.2.2.2.1, ⟨hk.1.2.2.2.2.2.1, hk.1.2.2.2.2.2.2⟩⟩⟩⟩⟩⟩⟩)), (by (with_reducible repeat (first | refine blk_drewN ?_ _ | refine blk_drew ?_ | refine blk_alloc ?_ _)); exact BK111.out), (by (with_reducible repeat (first | refine blk_drewN ?_ _ | refine blk_drew ?_ | refine blk_alloc ?_ _)); exact BK112.out), (by (with_reducible repeat (first | refine blk_drewN ?_ _ | refine blk_drew ?_ | refine blk_alloc ?_ _)); exact BK113.out), (by repeat (first | (with_reducible first | exact HB.out | apply below_alloc | apply pw_below_drewN | apply below_drew1 | refine below_set ?_ GE111.out | refine below_set ?_ GE112.out | refine below_set ?_ GE113.out) | exact HB.out))⟩)
            · skip
              refine Kd.N_lit_step k27 _ 27 ?hg (N' := 57) ?hd (xs := ([(⟨a2_0, (⟨a2_1, a2_2⟩ : S23), a2_3, l2_4, l2_5⟩ : S27)] : List (S27))) (inner := [.int .i64 a2_0, .int .i64 a2_1, .int .i64 a2_2, .string a2_3, .slice A2_4 l2_4.length c2_4, .slice A2_5 l2_5.length c2_5]) (ok := (fun q => ((P4 q ∨ P5 q ∨ Q4 q ∨ Q5 q) ∨ w.heap.size ≤ q) ∧ some q ≠ (.slice Ao96 y177.length co96 : Value).ownBlock ∧ some q ≠ (v189 : Value).ownBlock ∧ q ≠ g1 ∧ q ≠ g2 ∧ q ≠ g3)) (okp := (fun q => ((P4 q ∨ P5 q ∨ Q4 q ∨ Q5 q) ∨ w.heap.size ≤ q) ∧ some q ≠ (.slice Ao96 y177.length co96 : Value).ownBlock ∧ some q ≠ (v189 : Value).ownBlock ∧ q ≠ g1 ∧ q ≠ g2 ∧ q ≠ g3)) ?hr ?hp (fun _ hk => hk) ((show ∀ q, w98.heap.size ≤ q → (fun q => ((P4 q ∨ P5 q ∨ Q4 q ∨ Q5 q) ∨ w.heap.size ≤ q) ∧ some q ≠ (.slice Ao96 y177.length co96 : Value).ownBlock ∧ some q ≠ (v189 : Value).ownBlock ∧ q ≠ g1 ∧ q ≠ g2 ∧ q ≠ g3) q from fun q hk => ⟨(.inr (Nat.le_trans (below_size (by repeat (first | (with_reducible first | exact HB.out | apply below_alloc | apply pw_below_drewN | apply below_drew1 | refine below_set ?_ GE111.out | refine below_set ?_ GE112.out | refine below_set ?_ GE113.out) | exact HB.out))) hk)), Kd.fresh' (Kd.R_lt (by (with_reducible repeat (first | apply Kd.R_alloc | apply Kd.R_drewN | apply Kd.R_drew)); exact HO179.out)) q hk, Kd.fresh' (Kd.R_lt (by (with_reducible repeat (first | apply Kd.R_alloc | apply Kd.R_drewN | apply Kd.R_drew)); exact HO190.out)) q hk, Kd.freshB (g := g1) (o := .cells #[.int .i64 a0_0, .int .i64 a0_1, .int .i64 a0_2, .string a0_3, .slice A0_4 l0_4.length c0_4, .slice A0_5 l0_5.length c0_5] 27 (0, 0)) (by (with_reducible repeat (first | refine blk_drewN ?_ _ | refine blk_drew ?_ | refine blk_alloc ?_ _)); exact BK111.out) q hk, Kd.freshB (g := g2) (o := .cells #[.int .i64 a2_0, .int .i64 a2_1, .int .i64 a2_2, .string a2_3, .slice A2_4 l2_4.length c2_4, .slice A2_5 l2_5.length c2_5] 27 (0, 0)) (by (with_reducible repeat (first | refine blk_drewN ?_ _ | refine blk_drew ?_ | refine blk_alloc ?_ _)); exact BK112.out) q hk, Kd.freshB (g := g3) (o := .cells #[.int .i64 0, .int .i64 0, .int .i64 0, .string (⟨#[]⟩ : ByteArray), .slice none 0 0, .slice none 0 0] 27 (0, 0)) (by (with_reducible repeat (first | refine blk_drewN ?_ _ | refine blk_drew ?_ | refine blk_alloc ?_ _)); exact BK113.out) q hk⟩) _ (Nat.le_refl _)) (Below.refl _ _) (Nat.le_refl _) (by simp) ?_; (case hd => rfl); (case hg => rfl); (case hr => first | (go_simp; done) | (go_simp; rfl)); (case hp => exact (Reps.c6 (show Kd.FK k27 _ _ (⟨a2_0, (⟨a2_1, a2_2⟩ : S23), a2_3, l2_4, l2_5⟩ : S27) [.int .i64 a2_0, .int .i64 a2_1, .int .i64 a2_2, .string a2_3, .slice A2_4 l2_4.length c2_4, .slice A2_5 l2_5.length c2_5] from (k27_mkF _ _ (⟨a2_0, (⟨a2_1, a2_2⟩ : S23), a2_3, l2_4, l2_5⟩ : S27) (Kd.V_reads' (Kd.V_mono (ok' := (fun q => ((P4 q ∨ P5 q ∨ Q4 q ∨ Q5 q) ∨ w.heap.size ≤ q) ∧ some q ≠ (.slice Ao96 y177.length co96 : Value).ownBlock ∧ some q ≠ (v189 : Value).ownBlock ∧ q ≠ g1 ∧ q ≠ g2 ∧ q ≠ g3)) (U6.out) (fun q hk => ⟨hk.1.1, ⟨hk.1.2.1, ⟨hk.2, ⟨hk.1.2.2.1, ⟨hk.1.2.2.2.1, hk.1.2.2.2.2⟩⟩⟩⟩⟩))).2.1 (Kd.V_F (Kd.V_mono (ok' := (fun q => ((P4 q ∨ P5 q ∨ Q4 q ∨ Q5 q) ∨ w.heap.size ≤ q) ∧ some q ≠ (.slice Ao96 y177.length co96 : Value).ownBlock ∧ some q ≠ (v189 : Value).ownBlock ∧ q ≠ g1 ∧ q ≠ g2 ∧ q ≠ g3)) (U6.out) (fun q hk => ⟨hk.1.1, ⟨hk.1.2.1, ⟨hk.2, ⟨hk.1.2.2.1, ⟨hk.1.2.2.2.1, hk.1.2.2.2.2⟩⟩⟩⟩⟩))) (Kd.V_reads' (Kd.V_mono (ok' := (fun q => ((P4 q ∨ P5 q ∨ Q4 q ∨ Q5 q) ∨ w.heap.size ≤ q) ∧ some q ≠ (.slice Ao96 y177.length co96 : Value).ownBlock ∧ some q ≠ (v189 : Value).ownBlock ∧ q ≠ g1 ∧ q ≠ g2 ∧ q ≠ g3)) (U7.out) (fun q hk => ⟨hk.1.1, ⟨hk.1.2.1, ⟨hk.2, ⟨hk.1.2.2.1, ⟨hk.1.2.2.2.1, hk.1.2.2.2.2⟩⟩⟩⟩⟩))).2.1 (Kd.V_F (Kd.V_mono (ok' := (fun q => ((P4 q ∨ P5 q ∨ Q4 q ∨ Q5 q) ∨ w.heap.size ≤ q) ∧ some q ≠ (.slice Ao96 y177.length co96 : Value).ownBlock ∧ some q ≠ (v189 : Value).ownBlock ∧ q ≠ g1 ∧ q ≠ g2 ∧ q ≠ g3)) (U7.out) (fun q hk => ⟨hk.1.1, ⟨hk.1.2.1, ⟨hk.2, ⟨hk.1.2.2.1, ⟨hk.1.2.2.2.1, hk.1.2.2.2.2⟩⟩⟩⟩⟩))))) (Reps.none _ _)))
              intro v203 w101 ho102 hb hg_ hnew_
              clear hg_ hnew_
              (first | rw [← Ny202.out] at ho102 | (simp only [Int.reduceToNat] at ho102; rw [← Ny202.out] at ho102))
              have n0_ := Aside0.mk (Kd.V_elder' (by (with_reducible repeat (first | apply Kd.V_alloc | apply Kd.V_drewN | apply Kd.V_drew)); exact U4.out) (Kd.N_base ho102) hb)
              have n1_ := Aside0.mk (Kd.V_elder' (by (with_reducible repeat (first | apply Kd.V_alloc | apply Kd.V_drewN | apply Kd.V_drew)); exact U5.out) (Kd.N_base ho102) hb)
              have n2_ := Aside0.mk (Kd.V_elder' (by (with_reducible repeat (first | apply Kd.V_alloc | apply Kd.V_drewN | apply Kd.V_drew)); exact U6.out) (Kd.N_base ho102) hb)
              have n3_ := Aside0.mk (Kd.V_elder' (by (with_reducible repeat (first | apply Kd.V_alloc | apply Kd.V_drewN | apply Kd.V_drew)); exact U7.out) (Kd.N_base ho102) hb)
              have n4_ := Aside0.mk (Kd.V_elder' (by (with_reducible repeat (first | apply Kd.V_alloc | apply Kd.V_drewN | apply Kd.V_drew)); exact HO173.out) (Kd.N_base ho102) hb)
              have n5_ := Aside0.mk (Kd.V_elder' (by (with_reducible repeat (first | apply Kd.V_alloc | apply Kd.V_drewN | apply Kd.V_drew)); exact HO187.out) (Kd.N_base ho102) hb)
              have n6_ := Aside0.mk (Kd.R_below (by (with_reducible repeat (first | apply Kd.R_alloc | apply Kd.R_drewN | apply Kd.R_drew)); exact HO179.out) hb)
              have n7_ := Aside0.mk (Kd.R_below (by (with_reducible repeat (first | apply Kd.R_alloc | apply Kd.R_drewN | apply Kd.R_drew)); exact HO190.out) hb)
              have n8_ := Aside0.mk (Kd.V_elder' (by (with_reducible repeat (first | apply Kd.V_alloc | apply Kd.V_drewN | apply Kd.V_drew)); exact HO198.out) (Kd.N_base ho102) hb)
              have n9_ := Aside0.mk (Kd.V_elder' (by (with_reducible repeat (first | apply Kd.V_alloc | apply Kd.V_drewN | apply Kd.V_drew)); exact HO212.out) (Kd.N_base ho102) hb)
              have n10_ := Aside0.mk (Kd.N_lower ho102 (below_size (by repeat (first | (with_reducible first | exact HB.out | apply below_alloc | apply pw_below_drewN | apply below_drew1 | refine below_set ?_ GE111.out | refine below_set ?_ GE112.out | refine below_set ?_ GE113.out) | exact HB.out))))
              have n11_ := Aside0.mk (blk_below (g := g1) (o := .cells #[.int .i64 a0_0, .int .i64 a0_1, .int .i64 a0_2, .string a0_3, .slice A0_4 l0_4.length c0_4, .slice A0_5 l0_5.length c0_5] 27 (0, 0)) (by (with_reducible repeat (first | refine blk_drewN ?_ _ | refine blk_drew ?_ | refine blk_alloc ?_ _)); exact BK111.out) hb)
              have n12_ := Aside0.mk (blk_below (g := g2) (o := .cells #[.int .i64 a2_0, .int .i64 a2_1, .int .i64 a2_2, .string a2_3, .slice A2_4 l2_4.length c2_4, .slice A2_5 l2_5.length c2_5] 27 (0, 0)) (by (with_reducible repeat (first | refine blk_drewN ?_ _ | refine blk_drew ?_ | refine blk_alloc ?_ _)); exact BK112.out) hb)
              have n13_ := Aside0.mk (blk_below (g := g3) (o := .cells #[.int .i64 0, .int .i64 0, .int .i64 0, .string (⟨#[]⟩ : ByteArray), .slice none 0 0, .slice none 0 0] 27 (0, 0)) (by (with_reducible repeat (first | refine blk_drewN ?_ _ | refine blk_drew ?_ | refine blk_alloc ?_ _)); exact BK113.out) hb)
              have n14_ := Aside0.mk (below_step (by repeat (first | (with_reducible first | exact HB.out | apply below_alloc | apply pw_below_drewN | apply below_drew1 | refine below_set ?_ GE111.out | refine below_set ?_ GE112.out | refine below_set ?_ GE113.out) | exact HB.out)) hb)
              clear U4
              clear U5
              clear U6
              clear U7
              clear HO173
              clear HO187
              clear HO179
              clear HO190
              clear HO198
              clear HO212
              clear BK111
              clear BK112
              clear BK113
              clear HB
              have U4 := n0_
              have U5 := n1_
              have U6 := n2_
              have U7 := n3_
              have HO173 := n4_
              have HO187 := n5_
              have HO179 := n6_
              have HO190 := n7_
              have HO198 := n8_
              have HO212 := n9_
              have HO204 := n10_
              have BK111 := n11_
              have BK112 := n12_
              have BK113 := n13_
              have HB := n14_
              clear n0_ n1_ n2_ n3_ n4_ n5_ n6_ n7_ n8_ n9_ n10_ n11_ n12_ n13_ n14_
              clear hb ho102
              refine hK.out _ _ ⟨(blk_cell BK111.out 0).trans rfl, (blk_cell BK111.out 1).trans rfl, (blk_cell BK111.out 2).trans rfl, (blk_cell BK111.out 3).trans rfl, (blk_cell BK111.out 4).trans rfl, (blk_cell BK111.out 5).trans rfl, (blk_cell BK112.out 0).trans rfl, (blk_cell BK112.out 1).trans rfl, (blk_cell BK112.out 2).trans rfl, (blk_cell BK112.out 3).trans rfl, (blk_cell BK112.out 4).trans rfl, (blk_cell BK112.out 5).trans rfl⟩ (fun hHeld => ?_)
              clear hK K
              refine norm_ (a' := ?_) ?_ ?_
              rotate_left
              · show Act.put _ (some 57) _ = _
                simp only [Act.put, List.setIfInBounds_toArray, List.set_cons_zero, List.set_cons_succ, i64_w, i32_w]
                rfl
              refine one_ (i := 0) (N := some 50) #[true, true, true, true, true, false, true, true, false, true, true, true, true, false, false] rfl rfl (one_of HT_.out (by kernel_rfl)) (by decide) (fun K hK => ?_)
              refine Kd.N_lit_step k27 _ 27 ?hg (N' := 50) ?hd (xs := ([] : List (S27))) (inner := []) (ok := (fun q => ((P4 q ∨ P5 q ∨ Q4 q ∨ Q5 q) ∨ w.heap.size ≤ q) ∧ some q ≠ (.slice Ao96 y177.length co96 : Value).ownBlock ∧ some q ≠ (v189 : Value).ownBlock ∧ some q ≠ (v203 : Value).ownBlock ∧ q ≠ g1 ∧ q ≠ g2 ∧ q ≠ g3)) (okp := (fun q => ((P4 q ∨ P5 q ∨ Q4 q ∨ Q5 q) ∨ w.heap.size ≤ q) ∧ some q ≠ (.slice Ao96 y177.length co96 : Value).ownBlock ∧ some q ≠ (v189 : Value).ownBlock ∧ some q ≠ (v203 : Value).ownBlock ∧ q ≠ g1 ∧ q ≠ g2 ∧ q ≠ g3)) ?hr ?hp (fun _ hk => hk) ((show ∀ q, w101.heap.size ≤ q → (fun q => ((P4 q ∨ P5 q ∨ Q4 q ∨ Q5 q) ∨ w.heap.size ≤ q) ∧ some q ≠ (.slice Ao96 y177.length co96 : Value).ownBlock ∧ some q ≠ (v189 : Value).ownBlock ∧ some q ≠ (v203 : Value).ownBlock ∧ q ≠ g1 ∧ q ≠ g2 ∧ q ≠ g3) q from fun q hk => ⟨(.inr (Nat.le_trans (below_size (by repeat (first | (with_reducible first | exact HB.out | apply below_alloc | apply pw_below_drewN | apply below_drew1 | refine below_set ?_ GE111.out | refine below_set ?_ GE112.out | refine below_set ?_ GE113.out) | exact HB.out))) hk)), Kd.fresh' (Kd.R_lt (by (with_reducible repeat (first | apply Kd.R_alloc | apply Kd.R_drewN | apply Kd.R_drew)); exact HO179.out)) q hk, Kd.fresh' (Kd.R_lt (by (with_reducible repeat (first | apply Kd.R_alloc | apply Kd.R_drewN | apply Kd.R_drew)); exact HO190.out)) q hk, Kd.fresh' (Kd.N_lt (by (with_reducible repeat (first | apply Kd.N_alloc | apply Kd.N_drewN | apply Kd.N_drew)); exact HO204.out)) q hk, Kd.freshB (g := g1) (o := .cells #[.int .i64 a0_0, .int .i64 a0_1, .int .i64 a0_2, .string a0_3, .slice A0_4 l0_4.length c0_4, .slice A0_5 l0_5.length c0_5] 27 (0, 0)) (by (with_reducible repeat (first | refine blk_drewN ?_ _ | refine blk_drew ?_ | refine blk_alloc ?_ _)); exact BK111.out) q hk, Kd.freshB (g := g2) (o := .cells #[.int .i64 a2_0, .int .i64 a2_1, .int .i64 a2_2, .string a2_3, .slice A2_4 l2_4.length c2_4, .slice A2_5 l2_5.length c2_5] 27 (0, 0)) (by (with_reducible repeat (first | refine blk_drewN ?_ _ | refine blk_drew ?_ | refine blk_alloc ?_ _)); exact BK112.out) q hk, Kd.freshB (g := g3) (o := .cells #[.int .i64 0, .int .i64 0, .int .i64 0, .string (⟨#[]⟩ : ByteArray), .slice none 0 0, .slice none 0 0] 27 (0, 0)) (by (with_reducible repeat (first | refine blk_drewN ?_ _ | refine blk_drew ?_ | refine blk_alloc ?_ _)); exact BK113.out) q hk⟩) _ (Nat.le_refl _)) (Below.refl _ _) (Nat.le_refl _) (by simp) ?_; (case hd => rfl); (case hg => rfl); (case hr => first | (go_simp; done) | (go_simp; rfl)); (case hp => exact (Reps.none _ _))
              intro v192 w103 ho104 hb hg_ hnew_
              clear hg_ hnew_
              (first | rw [← Ny191.out] at ho104 | (simp only [Int.reduceToNat] at ho104; rw [← Ny191.out] at ho104))
              have n0_ := Aside0.mk (Kd.V_elder' (by (with_reducible repeat (first | apply Kd.V_alloc | apply Kd.V_drewN | apply Kd.V_drew)); exact U4.out) (Kd.N_base ho104) hb)
              have n1_ := Aside0.mk (Kd.V_elder' (by (with_reducible repeat (first | apply Kd.V_alloc | apply Kd.V_drewN | apply Kd.V_drew)); exact U5.out) (Kd.N_base ho104) hb)
              have n2_ := Aside0.mk (Kd.V_elder' (by (with_reducible repeat (first | apply Kd.V_alloc | apply Kd.V_drewN | apply Kd.V_drew)); exact U6.out) (Kd.N_base ho104) hb)
              have n3_ := Aside0.mk (Kd.V_elder' (by (with_reducible repeat (first | apply Kd.V_alloc | apply Kd.V_drewN | apply Kd.V_drew)); exact U7.out) (Kd.N_base ho104) hb)
              have n4_ := Aside0.mk (Kd.V_elder' (by (with_reducible repeat (first | apply Kd.V_alloc | apply Kd.V_drewN | apply Kd.V_drew)); exact HO173.out) (Kd.N_base ho104) hb)
              have n5_ := Aside0.mk (Kd.V_elder' (by (with_reducible repeat (first | apply Kd.V_alloc | apply Kd.V_drewN | apply Kd.V_drew)); exact HO187.out) (Kd.N_base ho104) hb)
              have n6_ := Aside0.mk (Kd.R_below (by (with_reducible repeat (first | apply Kd.R_alloc | apply Kd.R_drewN | apply Kd.R_drew)); exact HO179.out) hb)
              have n7_ := Aside0.mk (Kd.R_below (by (with_reducible repeat (first | apply Kd.R_alloc | apply Kd.R_drewN | apply Kd.R_drew)); exact HO190.out) hb)
              have n8_ := Aside0.mk (Kd.V_elder' (by (with_reducible repeat (first | apply Kd.V_alloc | apply Kd.V_drewN | apply Kd.V_drew)); exact HO198.out) (Kd.N_base ho104) hb)
              have n9_ := Aside0.mk (Kd.V_elder' (by (with_reducible repeat (first | apply Kd.V_alloc | apply Kd.V_drewN | apply Kd.V_drew)); exact HO212.out) (Kd.N_base ho104) hb)
              have n10_ := Aside0.mk (Kd.N_elder' (by (with_reducible repeat (first | apply Kd.N_alloc | apply Kd.N_drewN | apply Kd.N_drew)); exact HO204.out) (Kd.N_base ho104) hb)
              have n11_ := Aside0.mk (Kd.N_lower ho104 (below_size (by repeat (first | (with_reducible first | exact HB.out | apply below_alloc | apply pw_below_drewN | apply below_drew1 | refine below_set ?_ GE111.out | refine below_set ?_ GE112.out | refine below_set ?_ GE113.out) | exact HB.out))))
              have n12_ := Aside0.mk (blk_below (g := g1) (o := .cells #[.int .i64 a0_0, .int .i64 a0_1, .int .i64 a0_2, .string a0_3, .slice A0_4 l0_4.length c0_4, .slice A0_5 l0_5.length c0_5] 27 (0, 0)) (by (with_reducible repeat (first | refine blk_drewN ?_ _ | refine blk_drew ?_ | refine blk_alloc ?_ _)); exact BK111.out) hb)
              have n13_ := Aside0.mk (blk_below (g := g2) (o := .cells #[.int .i64 a2_0, .int .i64 a2_1, .int .i64 a2_2, .string a2_3, .slice A2_4 l2_4.length c2_4, .slice A2_5 l2_5.length c2_5] 27 (0, 0)) (by (with_reducible repeat (first | refine blk_drewN ?_ _ | refine blk_drew ?_ | refine blk_alloc ?_ _)); exact BK112.out) hb)
              have n14_ := Aside0.mk (blk_below (g := g3) (o := .cells #[.int .i64 0, .int .i64 0, .int .i64 0, .string (⟨#[]⟩ : ByteArray), .slice none 0 0, .slice none 0 0] 27 (0, 0)) (by (with_reducible repeat (first | refine blk_drewN ?_ _ | refine blk_drew ?_ | refine blk_alloc ?_ _)); exact BK113.out) hb)
              have n15_ := Aside0.mk (below_step (by repeat (first | (with_reducible first | exact HB.out | apply below_alloc | apply pw_below_drewN | apply below_drew1 | refine below_set ?_ GE111.out | refine below_set ?_ GE112.out | refine below_set ?_ GE113.out) | exact HB.out)) hb)
              clear U4
              clear U5
              clear U6
              clear U7
              clear HO173
              clear HO187
              clear HO179
              clear HO190
              clear HO198
              clear HO212
              clear HO204
              clear BK111
              clear BK112
              clear BK113
              clear HB
              have U4 := n0_
              have U5 := n1_
              have U6 := n2_
              have U7 := n3_
              have HO173 := n4_
              have HO187 := n5_
              have HO179 := n6_
              have HO190 := n7_
              have HO198 := n8_
              have HO212 := n9_
              have HO204 := n10_
              have HO193 := n11_
              have BK111 := n12_
              have BK112 := n13_
              have BK113 := n14_
              have HB := n15_
              clear n0_ n1_ n2_ n3_ n4_ n5_ n6_ n7_ n8_ n9_ n10_ n11_ n12_ n13_ n14_ n15_
              clear hb ho104
              refine hK.out _ _ ⟨(blk_cell BK111.out 0).trans rfl, (blk_cell BK111.out 1).trans rfl, (blk_cell BK111.out 2).trans rfl, (blk_cell BK111.out 3).trans rfl, (blk_cell BK111.out 4).trans rfl, (blk_cell BK111.out 5).trans rfl, (blk_cell BK112.out 0).trans rfl, (blk_cell BK112.out 1).trans rfl, (blk_cell BK112.out 2).trans rfl, (blk_cell BK112.out 3).trans rfl, (blk_cell BK112.out 4).trans rfl, (blk_cell BK112.out 5).trans rfl⟩ (fun hHeld => ?_)
              clear hK K
              refine norm_ (a' := ?_) ?_ ?_
              rotate_left
              · show Act.put _ (some 50) _ = _
                simp only [Act.put, List.setIfInBounds_toArray, List.set_cons_zero, List.set_cons_succ, i64_w, i32_w]
                rfl
              refine one_ (i := 5) (N := some 55) #[true, true, true, true, true, true, true, true, false, true, true, true, true, false, false] rfl rfl (one_of HT_.out (by kernel_rfl)) (by decide) (fun K hK => ?_)
              refine Kd.N_append_rows_step k27 (w0 := w) w.heap.size (by rfl) (.tmp 50) (.tmp 54) 24 27 (.agg #[(.int .i64 0), (.int .i64 0), (.int .i64 0), (.string ⟨#[]⟩), (.slice none 0 0), (.slice none 0 0)]) 88 rfl Try.underlying24 info27 rfl (by decide) (by omega) v192 y191 y194 _ _ _ (fun q => ((P4 q ∨ P5 q ∨ Q4 q ∨ Q5 q) ∨ w.heap.size ≤ q) ∧ some q ≠ (.slice Ao96 y177.length co96 : Value).ownBlock ∧ some q ≠ (v189 : Value).ownBlock ∧ some q ≠ (v203 : Value).ownBlock ∧ q ≠ g1 ∧ q ≠ g2 ∧ q ≠ g3) (fun q => ((fun q => ((P4 q ∨ P5 q ∨ Q4 q ∨ Q5 q) ∨ w.heap.size ≤ q) ∧ some q ≠ (.slice Ao96 y177.length co96 : Value).ownBlock ∧ some q ≠ (v189 : Value).ownBlock ∧ some q ≠ (v203 : Value).ownBlock ∧ q ≠ g1 ∧ q ≠ g2 ∧ q ≠ g3)) q ∧ some q ≠ (v192 : Value).ownBlock) rfl rfl ?aO ?aR (fun _ hk => hk) ?aF ?aB ?aS ?aL ?_
              (case aR => exact (by skip; exact Kd.V_F (Kd.V_mono (ok' := (fun q => ((fun q => ((P4 q ∨ P5 q ∨ Q4 q ∨ Q5 q) ∨ w.heap.size ≤ q) ∧ some q ≠ (.slice Ao96 y177.length co96 : Value).ownBlock ∧ some q ≠ (v189 : Value).ownBlock ∧ some q ≠ (v203 : Value).ownBlock ∧ q ≠ g1 ∧ q ≠ g2 ∧ q ≠ g3)) q ∧ some q ≠ (v192 : Value).ownBlock)) (HO198.out) (fun q hk => ⟨⟨hk.1.1.1.1, ⟨hk.1.1.1.2.1, ⟨hk.1.1.2, ⟨hk.1.2, ⟨hk.1.1.1.2.2.1, ⟨hk.1.1.1.2.2.2.1, hk.1.1.1.2.2.2.2⟩⟩⟩⟩⟩⟩, hk.2⟩))))
              (case aB => exact (by repeat (first | (with_reducible first | exact HB.out | apply below_alloc | apply pw_below_drewN | apply below_drew1 | refine below_set ?_ GE111.out | refine below_set ?_ GE112.out | refine below_set ?_ GE113.out) | exact HB.out)))
              (case aF => exact (fun q hk => ⟨(.inr (Nat.le_trans (below_size (by repeat (first | (with_reducible first | exact HB.out | apply below_alloc | apply pw_below_drewN | apply below_drew1 | refine below_set ?_ GE111.out | refine below_set ?_ GE112.out | refine below_set ?_ GE113.out) | exact HB.out))) hk)), Kd.fresh' (Kd.R_lt (by (with_reducible repeat (first | apply Kd.R_alloc | apply Kd.R_drewN | apply Kd.R_drew)); exact HO179.out)) q hk, Kd.fresh' (Kd.R_lt (by (with_reducible repeat (first | apply Kd.R_alloc | apply Kd.R_drewN | apply Kd.R_drew)); exact HO190.out)) q hk, Kd.fresh' (Kd.N_lt (by (with_reducible repeat (first | apply Kd.N_alloc | apply Kd.N_drewN | apply Kd.N_drew)); exact HO204.out)) q hk, Kd.freshB (g := g1) (o := .cells #[.int .i64 a0_0, .int .i64 a0_1, .int .i64 a0_2, .string a0_3, .slice A0_4 l0_4.length c0_4, .slice A0_5 l0_5.length c0_5] 27 (0, 0)) (by (with_reducible repeat (first | refine blk_drewN ?_ _ | refine blk_drew ?_ | refine blk_alloc ?_ _)); exact BK111.out) q hk, Kd.freshB (g := g2) (o := .cells #[.int .i64 a2_0, .int .i64 a2_1, .int .i64 a2_2, .string a2_3, .slice A2_4 l2_4.length c2_4, .slice A2_5 l2_5.length c2_5] 27 (0, 0)) (by (with_reducible repeat (first | refine blk_drewN ?_ _ | refine blk_drew ?_ | refine blk_alloc ?_ _)); exact BK112.out) q hk, Kd.freshB (g := g3) (o := .cells #[.int .i64 0, .int .i64 0, .int .i64 0, .string (⟨#[]⟩ : ByteArray), .slice none 0 0, .slice none 0 0] 27 (0, 0)) (by (with_reducible repeat (first | refine blk_drewN ?_ _ | refine blk_drew ?_ | refine blk_alloc ?_ _)); exact BK113.out) q hk⟩))
              (case aO => exact (by (with_reducible repeat (first | apply Kd.N_alloc | apply Kd.N_drewN | apply Kd.N_drew)); exact HO193.out))
              (case aS => exact (below_size (by repeat (first | (with_reducible first | exact HB.out | apply below_alloc | apply pw_below_drewN | apply below_drew1 | refine below_set ?_ GE111.out | refine below_set ?_ GE112.out | refine below_set ?_ GE113.out) | exact HB.out))))
              (case aL => have := LMc78.out; omega)
              intro v200 w105 ho hb hg hat
              rw [← Ny199.out] at ho
              have n0_ := Aside0.mk (Kd.V_afterv (ok := (fun q => ((P4 q ∨ P5 q ∨ Q4 q ∨ Q5 q) ∨ w.heap.size ≤ q) ∧ some q ≠ (.slice Ao96 y177.length co96 : Value).ownBlock ∧ some q ≠ (v189 : Value).ownBlock ∧ some q ≠ (v203 : Value).ownBlock ∧ q ≠ g1 ∧ q ≠ g2 ∧ q ≠ g3)) (by (with_reducible repeat (first | apply Kd.V_alloc | apply Kd.V_drewN | apply Kd.V_drew)); exact Kd.V_mono U4.out (fun _ hk => ⟨⟨hk.1.1.1.1, ⟨hk.1.1.1.2.1, ⟨hk.1.1.2, ⟨hk.1.2, ⟨hk.1.1.1.2.2.1, ⟨hk.1.1.1.2.2.2.1, hk.1.1.1.2.2.2.2⟩⟩⟩⟩⟩⟩, hk.2⟩)) hg hat)
              have n1_ := Aside0.mk (Kd.V_afterv (ok := (fun q => ((P4 q ∨ P5 q ∨ Q4 q ∨ Q5 q) ∨ w.heap.size ≤ q) ∧ some q ≠ (.slice Ao96 y177.length co96 : Value).ownBlock ∧ some q ≠ (v189 : Value).ownBlock ∧ some q ≠ (v203 : Value).ownBlock ∧ q ≠ g1 ∧ q ≠ g2 ∧ q ≠ g3)) (by (with_reducible repeat (first | apply Kd.V_alloc | apply Kd.V_drewN | apply Kd.V_drew)); exact Kd.V_mono U5.out (fun _ hk => ⟨⟨hk.1.1.1.1, ⟨hk.1.1.1.2.1, ⟨hk.1.1.2, ⟨hk.1.2, ⟨hk.1.1.1.2.2.1, ⟨hk.1.1.1.2.2.2.1, hk.1.1.1.2.2.2.2⟩⟩⟩⟩⟩⟩, hk.2⟩)) hg hat)
              have n2_ := Aside0.mk (Kd.V_afterv (ok := (fun q => ((P4 q ∨ P5 q ∨ Q4 q ∨ Q5 q) ∨ w.heap.size ≤ q) ∧ some q ≠ (.slice Ao96 y177.length co96 : Value).ownBlock ∧ some q ≠ (v189 : Value).ownBlock ∧ some q ≠ (v203 : Value).ownBlock ∧ q ≠ g1 ∧ q ≠ g2 ∧ q ≠ g3)) (by (with_reducible repeat (first | apply Kd.V_alloc | apply Kd.V_drewN | apply Kd.V_drew)); exact Kd.V_mono U6.out (fun _ hk => ⟨⟨hk.1.1.1.1, ⟨hk.1.1.1.2.1, ⟨hk.1.1.2, ⟨hk.1.2, ⟨hk.1.1.1.2.2.1, ⟨hk.1.1.1.2.2.2.1, hk.1.1.1.2.2.2.2⟩⟩⟩⟩⟩⟩, hk.2⟩)) hg hat)
              have n3_ := Aside0.mk (Kd.V_afterv (ok := (fun q => ((P4 q ∨ P5 q ∨ Q4 q ∨ Q5 q) ∨ w.heap.size ≤ q) ∧ some q ≠ (.slice Ao96 y177.length co96 : Value).ownBlock ∧ some q ≠ (v189 : Value).ownBlock ∧ some q ≠ (v203 : Value).ownBlock ∧ q ≠ g1 ∧ q ≠ g2 ∧ q ≠ g3)) (by (with_reducible repeat (first | apply Kd.V_alloc | apply Kd.V_drewN | apply Kd.V_drew)); exact Kd.V_mono U7.out (fun _ hk => ⟨⟨hk.1.1.1.1, ⟨hk.1.1.1.2.1, ⟨hk.1.1.2, ⟨hk.1.2, ⟨hk.1.1.1.2.2.1, ⟨hk.1.1.1.2.2.2.1, hk.1.1.1.2.2.2.2⟩⟩⟩⟩⟩⟩, hk.2⟩)) hg hat)
              have n4_ := Aside0.mk (blk_grown (g := g1) (o := .cells #[.int .i64 a0_0, .int .i64 a0_1, .int .i64 a0_2, .string a0_3, .slice A0_4 l0_4.length c0_4, .slice A0_5 l0_5.length c0_5] 27 (0, 0)) (by (with_reducible repeat (first | refine blk_drewN ?_ _ | refine blk_drew ?_ | refine blk_alloc ?_ _)); exact BK111.out) hg (Kd.N_away HO193.out (fun _ hk => hk.2.2.2.2.1)))
              have n5_ := Aside0.mk (blk_grown (g := g2) (o := .cells #[.int .i64 a2_0, .int .i64 a2_1, .int .i64 a2_2, .string a2_3, .slice A2_4 l2_4.length c2_4, .slice A2_5 l2_5.length c2_5] 27 (0, 0)) (by (with_reducible repeat (first | refine blk_drewN ?_ _ | refine blk_drew ?_ | refine blk_alloc ?_ _)); exact BK112.out) hg (Kd.N_away HO193.out (fun _ hk => hk.2.2.2.2.2.1)))
              have n6_ := Aside0.mk (blk_grown (g := g3) (o := .cells #[.int .i64 0, .int .i64 0, .int .i64 0, .string (⟨#[]⟩ : ByteArray), .slice none 0 0, .slice none 0 0] 27 (0, 0)) (by (with_reducible repeat (first | refine blk_drewN ?_ _ | refine blk_drew ?_ | refine blk_alloc ?_ _)); exact BK113.out) hg (Kd.N_away HO193.out (fun _ hk => hk.2.2.2.2.2.2)))
              have n7_ := Aside0.mk (Kd.V_afterv (ok := (fun q => ((P4 q ∨ P5 q ∨ Q4 q ∨ Q5 q) ∨ w.heap.size ≤ q) ∧ some q ≠ (.slice Ao96 y177.length co96 : Value).ownBlock ∧ some q ≠ (v189 : Value).ownBlock ∧ some q ≠ (v203 : Value).ownBlock ∧ q ≠ g1 ∧ q ≠ g2 ∧ q ≠ g3)) (by (with_reducible repeat (first | apply Kd.V_alloc | apply Kd.V_drewN | apply Kd.V_drew)); exact Kd.V_mono HO173.out (fun _ hk => ⟨⟨hk.1.1.1.1, ⟨hk.1.1.1.2.1, ⟨hk.1.1.2, ⟨hk.1.2, ⟨hk.1.1.1.2.2.1, ⟨hk.1.1.1.2.2.2.1, hk.1.1.1.2.2.2.2⟩⟩⟩⟩⟩⟩, hk.2⟩)) hg hat)
              have n8_ := Aside0.mk (Kd.V_afterv (ok := (fun q => ((P4 q ∨ P5 q ∨ Q4 q ∨ Q5 q) ∨ w.heap.size ≤ q) ∧ some q ≠ (.slice Ao96 y177.length co96 : Value).ownBlock ∧ some q ≠ (v189 : Value).ownBlock ∧ some q ≠ (v203 : Value).ownBlock ∧ q ≠ g1 ∧ q ≠ g2 ∧ q ≠ g3)) (by (with_reducible repeat (first | apply Kd.V_alloc | apply Kd.V_drewN | apply Kd.V_drew)); exact Kd.V_mono HO187.out (fun _ hk => ⟨⟨hk.1.1.1.1, ⟨hk.1.1.1.2.1, ⟨hk.1.1.2, ⟨hk.1.2, ⟨hk.1.1.1.2.2.1, ⟨hk.1.1.1.2.2.2.1, hk.1.1.1.2.2.2.2⟩⟩⟩⟩⟩⟩, hk.2⟩)) hg hat)
              have n9_ := Aside0.mk (Kd.R_over' (by (with_reducible repeat (first | apply Kd.R_alloc | apply Kd.R_drewN | apply Kd.R_drew)); exact HO179.out) (Kd.N_typed (by (with_reducible repeat (first | apply Kd.N_alloc | apply Kd.N_drewN | apply Kd.N_drew)); exact HO193.out)) (by decide) hg)
              have n10_ := Aside0.mk (Kd.R_over' (by (with_reducible repeat (first | apply Kd.R_alloc | apply Kd.R_drewN | apply Kd.R_drew)); exact HO190.out) (Kd.N_typed (by (with_reducible repeat (first | apply Kd.N_alloc | apply Kd.N_drewN | apply Kd.N_drew)); exact HO193.out)) (by decide) hg)
              have n11_ := Aside0.mk (Kd.V_afterv (ok := (fun q => ((P4 q ∨ P5 q ∨ Q4 q ∨ Q5 q) ∨ w.heap.size ≤ q) ∧ some q ≠ (.slice Ao96 y177.length co96 : Value).ownBlock ∧ some q ≠ (v189 : Value).ownBlock ∧ some q ≠ (v203 : Value).ownBlock ∧ q ≠ g1 ∧ q ≠ g2 ∧ q ≠ g3)) (by (with_reducible repeat (first | apply Kd.V_alloc | apply Kd.V_drewN | apply Kd.V_drew)); exact Kd.V_mono HO198.out (fun _ hk => ⟨⟨hk.1.1.1.1, ⟨hk.1.1.1.2.1, ⟨hk.1.1.2, ⟨hk.1.2, ⟨hk.1.1.1.2.2.1, ⟨hk.1.1.1.2.2.2.1, hk.1.1.1.2.2.2.2⟩⟩⟩⟩⟩⟩, hk.2⟩)) hg hat)
              have n12_ := Aside0.mk (Kd.V_afterv (ok := (fun q => ((P4 q ∨ P5 q ∨ Q4 q ∨ Q5 q) ∨ w.heap.size ≤ q) ∧ some q ≠ (.slice Ao96 y177.length co96 : Value).ownBlock ∧ some q ≠ (v189 : Value).ownBlock ∧ some q ≠ (v203 : Value).ownBlock ∧ q ≠ g1 ∧ q ≠ g2 ∧ q ≠ g3)) (by (with_reducible repeat (first | apply Kd.V_alloc | apply Kd.V_drewN | apply Kd.V_drew)); exact Kd.V_mono HO212.out (fun _ hk => ⟨⟨hk.1.1.1.1, ⟨hk.1.1.1.2.1, ⟨hk.1.1.2, ⟨hk.1.2, ⟨hk.1.1.1.2.2.1, ⟨hk.1.1.1.2.2.2.1, hk.1.1.1.2.2.2.2⟩⟩⟩⟩⟩⟩, hk.2⟩)) hg hat)
              have n13_ := Aside0.mk (Kd.N_afterv (ok := (fun q => ((P4 q ∨ P5 q ∨ Q4 q ∨ Q5 q) ∨ w.heap.size ≤ q) ∧ some q ≠ (.slice Ao96 y177.length co96 : Value).ownBlock ∧ some q ≠ (v189 : Value).ownBlock ∧ q ≠ g1 ∧ q ≠ g2 ∧ q ≠ g3)) (by (with_reducible repeat (first | apply Kd.N_alloc | apply Kd.N_drewN | apply Kd.N_drew)); exact HO204.out) hg hat)
              have n14_ := Aside0.mk (hb)
              have n15_ := Aside0.mk (ho)
              clear U4
              clear U5
              clear U6
              clear U7
              clear BK111
              clear BK112
              clear BK113
              clear HO173
              clear HO187
              clear HO179
              clear HO190
              clear HO198
              clear HO212
              clear HO204
              clear HB
              clear HO193
              have U4 := n0_
              have U5 := n1_
              have U6 := n2_
              have U7 := n3_
              have BK111 := n4_
              have BK112 := n5_
              have BK113 := n6_
              have HO173 := n7_
              have HO187 := n8_
              have HO179 := n9_
              have HO190 := n10_
              have HO198 := n11_
              have HO212 := n12_
              have HO204 := n13_
              have HB := n14_
              have HO201 := n15_
              clear n0_ n1_ n2_ n3_ n4_ n5_ n6_ n7_ n8_ n9_ n10_ n11_ n12_ n13_ n14_ n15_
              clear ho hb hg hat
              refine hK.out _ _ ⟨(blk_cell BK111.out 0).trans rfl, (blk_cell BK111.out 1).trans rfl, (blk_cell BK111.out 2).trans rfl, (blk_cell BK111.out 3).trans rfl, (blk_cell BK111.out 4).trans rfl, (blk_cell BK111.out 5).trans rfl, (blk_cell BK112.out 0).trans rfl, (blk_cell BK112.out 1).trans rfl, (blk_cell BK112.out 2).trans rfl, (blk_cell BK112.out 3).trans rfl, (blk_cell BK112.out 4).trans rfl, (blk_cell BK112.out 5).trans rfl⟩ (fun hHeld => ?_)
              clear hK K
              refine norm_ (a' := ?_) ?_ ?_
              rotate_left
              · show Act.put _ (some 55) _ = _
                simp only [Act.put, List.setIfInBounds_toArray, List.set_cons_zero, List.set_cons_succ, i64_w, i32_w]
                rfl
              exact norm_ (by simp only [putAll, Act.put, List.setIfInBounds_toArray, List.set_cons_zero, List.set_cons_succ]) (hCont (v192, v200, v203) _ ⟨hHeld, (by (with_reducible repeat (first | apply Kd.V_alloc | apply Kd.V_drewN | apply Kd.V_drew)); exact Kd.V_mono HO173.out (fun _ hk => ⟨hk.1.1, ⟨hk.1.2.1, ⟨hk.1.2.2.1, ⟨hk.2, ⟨hk.1.2.2.2.1, ⟨hk.1.2.2.2.2.1, ⟨hk.1.2.2.2.2.2.1, hk.1.2.2.2.2.2.2⟩⟩⟩⟩⟩⟩⟩)), (by (with_reducible repeat (first | apply Kd.R_alloc | apply Kd.R_drewN | apply Kd.R_drew)); exact HO179.out), (by (with_reducible repeat (first | apply Kd.V_alloc | apply Kd.V_drewN | apply Kd.V_drew)); exact Kd.V_mono HO187.out (fun _ hk => ⟨hk.1.1, ⟨hk.1.2.1, ⟨hk.1.2.2.1, ⟨hk.2, ⟨hk.1.2.2.2.1, ⟨hk.1.2.2.2.2.1, ⟨hk.1.2.2.2.2.2.1, hk.1.2.2.2.2.2.2⟩⟩⟩⟩⟩⟩⟩)), (by (with_reducible repeat (first | apply Kd.R_alloc | apply Kd.R_drewN | apply Kd.R_drew)); exact HO190.out), (by (with_reducible repeat (first | apply Kd.V_alloc | apply Kd.V_drewN | apply Kd.V_drew)); exact Kd.V_mono HO198.out (fun _ hk => ⟨hk.1.1, ⟨hk.1.2.1, ⟨hk.1.2.2.1, ⟨hk.2, ⟨hk.1.2.2.2.1, ⟨hk.1.2.2.2.2.1, ⟨hk.1.2.2.2.2.2.1, hk.1.2.2.2.2.2.2⟩⟩⟩⟩⟩⟩⟩)), (by (with_reducible repeat (first | apply Kd.N_alloc | apply Kd.N_drewN | apply Kd.N_drew)); exact HO201.out), (by (with_reducible repeat (first | apply Kd.N_alloc | apply Kd.N_drewN | apply Kd.N_drew)); exact Kd.N_mono HO204.out (fun _ hk => ⟨hk.1.1, ⟨hk.1.2.1, ⟨hk.1.2.2.1, ⟨hk.2, ⟨hk.1.2.2.2.1, ⟨hk.1.2.2.2.2.1, hk.1.2.2.2.2.2⟩⟩⟩⟩⟩⟩)), (by (with_reducible repeat (first | apply Kd.V_alloc | apply Kd.V_drewN | apply Kd.V_drew)); exact Kd.V_mono HO212.out (fun _ hk => ⟨hk.1.1, ⟨hk.1.2.1, ⟨hk.1.2.2.1, ⟨hk.2, ⟨hk.1.2.2.2.1, ⟨hk.1.2.2.2.2.1, ⟨hk.1.2.2.2.2.2.1, hk.1.2.2.2.2.2.2⟩⟩⟩⟩⟩⟩⟩)), (by (with_reducible repeat (first | apply Kd.V_alloc | apply Kd.V_drewN | apply Kd.V_drew)); exact Kd.V_mono U4.out (fun _ hk => ⟨hk.1.1, ⟨hk.1.2.1, ⟨hk.1.2.2.1, ⟨hk.2, ⟨hk.1.2.2.2.1, ⟨hk.1.2.2.2.2.1, ⟨hk.1.2.2.2.2.2.1, hk.1.2.2.2.2.2.2⟩⟩⟩⟩⟩⟩⟩)), (by (with_reducible repeat (first | apply Kd.V_alloc | apply Kd.V_drewN | apply Kd.V_drew)); exact Kd.V_mono U5.out (fun _ hk => ⟨hk.1.1, ⟨hk.1.2.1, ⟨hk.1.2.2.1, ⟨hk.2, ⟨hk.1.2.2.2.1, ⟨hk.1.2.2.2.2.1, ⟨hk.1.2.2.2.2.2.1, hk.1.2.2.2.2.2.2⟩⟩⟩⟩⟩⟩⟩)), (by (with_reducible repeat (first | apply Kd.V_alloc | apply Kd.V_drewN | apply Kd.V_drew)); exact Kd.V_mono U6.out (fun _ hk => ⟨hk.1.1, ⟨hk.1.2.1, ⟨hk.1.2.2.1, ⟨hk.2, ⟨hk.1.2.2.2.1, ⟨hk.1.2.2.2.2.1, ⟨hk.1.2.2.2.2.2.1, hk.1.2.2.2.2.2.2⟩⟩⟩⟩⟩⟩⟩)), (by (with_reducible repeat (first | apply Kd.V_alloc | apply Kd.V_drewN | apply Kd.V_drew)); exact Kd.V_mono U7.out (fun _ hk => ⟨hk.1.1, ⟨hk.1.2.1, ⟨hk.1.2.2.1, ⟨hk.2, ⟨hk.1.2.2.2.1, ⟨hk.1.2.2.2.2.1, ⟨hk.1.2.2.2.2.2.1, hk.1.2.2.2.2.2.2⟩⟩⟩⟩⟩⟩⟩)), (by (with_reducible repeat (first | refine blk_drewN ?_ _ | refine blk_drew ?_ | refine blk_alloc ?_ _)); exact BK111.out), (by (with_reducible repeat (first | refine blk_drewN ?_ _ | refine blk_drew ?_ | refine blk_alloc ?_ _)); exact BK112.out), (by (with_reducible repeat (first | refine blk_drewN ?_ _ | refine blk_drew ?_ | refine blk_alloc ?_ _)); exact BK113.out), (by repeat (first | (with_reducible first | exact HB.out | apply below_alloc | apply pw_below_drewN | apply below_drew1 | refine below_set ?_ GE111.out | refine below_set ?_ GE112.out | refine below_set ?_ GE113.out) | exact HB.out))⟩)
          rintro ⟨v192, v200, v203⟩ w106 ⟨hS_, h0_, h1_, h2_, h3_, h4_, h5_, h6_, h7_, h8_, h9_, h10_, h11_, h12_, h13_, h14_, h15_⟩
          have n0_ : Aside0 (Kd.V Kd.string 9 w106 w.heap.size (fun q => ((P4 q ∨ P5 q ∨ Q4 q ∨ Q5 q) ∨ w.heap.size ≤ q) ∧ some q ≠ (.slice Ao96 y177.length co96 : Value).ownBlock ∧ some q ≠ (v189 : Value).ownBlock ∧ some q ≠ (v200 : Value).ownBlock ∧ some q ≠ (v203 : Value).ownBlock ∧ q ≠ g1 ∧ q ≠ g2 ∧ q ≠ g3) (.slice A0_5 y169.length c0_5) y169) := ⟨h0_⟩
          have n1_ : Aside0 (Kd.R Kd.string 9 w106 w.heap.size (fun q => (w.heap.size ≤ q) ∧ some q ≠ (v189 : Value).ownBlock) (.slice Ao96 y177.length co96) y177) := ⟨h1_⟩
          have n2_ : Aside0 (Kd.V Kd.string 9 w106 w.heap.size (fun q => ((P4 q ∨ P5 q ∨ Q4 q ∨ Q5 q) ∨ w.heap.size ≤ q) ∧ some q ≠ (.slice Ao96 y177.length co96 : Value).ownBlock ∧ some q ≠ (v189 : Value).ownBlock ∧ some q ≠ (v200 : Value).ownBlock ∧ some q ≠ (v203 : Value).ownBlock ∧ q ≠ g1 ∧ q ≠ g2 ∧ q ≠ g3) (.slice A88 y183.length c88) y183) := ⟨h2_⟩
          have n3_ : Aside0 (Kd.R Kd.string 9 w106 w.heap.size (fun q => (w.heap.size ≤ q) ∧ some q ≠ (.slice Ao96 y177.length co96 : Value).ownBlock) v189 y188) := ⟨h3_⟩
          have n4_ : Aside0 (Kd.V k27 27 w106 w.heap.size (fun q => ((P4 q ∨ P5 q ∨ Q4 q ∨ Q5 q) ∨ w.heap.size ≤ q) ∧ some q ≠ (.slice Ao96 y177.length co96 : Value).ownBlock ∧ some q ≠ (v189 : Value).ownBlock ∧ some q ≠ (v200 : Value).ownBlock ∧ some q ≠ (v203 : Value).ownBlock ∧ q ≠ g1 ∧ q ≠ g2 ∧ q ≠ g3) (.slice A0_4 y194.length c0_4) y194) := ⟨h4_⟩
          have n5_ : Aside0 (Kd.N k27 27 w106 w.heap.size (fun q => ((P4 q ∨ P5 q ∨ Q4 q ∨ Q5 q) ∨ w.heap.size ≤ q) ∧ some q ≠ (.slice Ao96 y177.length co96 : Value).ownBlock ∧ some q ≠ (v189 : Value).ownBlock ∧ some q ≠ (v203 : Value).ownBlock ∧ q ≠ g1 ∧ q ≠ g2 ∧ q ≠ g3) v200 y199) := ⟨h5_⟩
          have n6_ : Aside0 (Kd.N k27 27 w106 w.heap.size (fun q => ((P4 q ∨ P5 q ∨ Q4 q ∨ Q5 q) ∨ w.heap.size ≤ q) ∧ some q ≠ (.slice Ao96 y177.length co96 : Value).ownBlock ∧ some q ≠ (v189 : Value).ownBlock ∧ some q ≠ (v200 : Value).ownBlock ∧ q ≠ g1 ∧ q ≠ g2 ∧ q ≠ g3) v203 y202) := ⟨h6_⟩
          have n7_ : Aside0 (Kd.V k27 27 w106 w.heap.size (fun q => ((P4 q ∨ P5 q ∨ Q4 q ∨ Q5 q) ∨ w.heap.size ≤ q) ∧ some q ≠ (.slice Ao96 y177.length co96 : Value).ownBlock ∧ some q ≠ (v189 : Value).ownBlock ∧ some q ≠ (v200 : Value).ownBlock ∧ some q ≠ (v203 : Value).ownBlock ∧ q ≠ g1 ∧ q ≠ g2 ∧ q ≠ g3) (.slice A100 y208.length c100) y208) := ⟨h7_⟩
          have n8_ : Aside0 (Kd.V k27 27 w106 w.heap.size (fun q => ((P4 q ∨ P5 q ∨ Q4 q ∨ Q5 q) ∨ w.heap.size ≤ q) ∧ some q ≠ (.slice Ao96 y177.length co96 : Value).ownBlock ∧ some q ≠ (v189 : Value).ownBlock ∧ some q ≠ (v200 : Value).ownBlock ∧ some q ≠ (v203 : Value).ownBlock ∧ q ≠ g1 ∧ q ≠ g2 ∧ q ≠ g3) (.slice A0_4 l0_4.length c0_4) l0_4) := ⟨h8_⟩
          have n9_ : Aside0 (Kd.V Kd.string 9 w106 w.heap.size (fun q => ((P4 q ∨ P5 q ∨ Q4 q ∨ Q5 q) ∨ w.heap.size ≤ q) ∧ some q ≠ (.slice Ao96 y177.length co96 : Value).ownBlock ∧ some q ≠ (v189 : Value).ownBlock ∧ some q ≠ (v200 : Value).ownBlock ∧ some q ≠ (v203 : Value).ownBlock ∧ q ≠ g1 ∧ q ≠ g2 ∧ q ≠ g3) (.slice A0_5 l0_5.length c0_5) l0_5) := ⟨h9_⟩
          have n10_ : Aside0 (Kd.V k27 27 w106 w.heap.size (fun q => ((P4 q ∨ P5 q ∨ Q4 q ∨ Q5 q) ∨ w.heap.size ≤ q) ∧ some q ≠ (.slice Ao96 y177.length co96 : Value).ownBlock ∧ some q ≠ (v189 : Value).ownBlock ∧ some q ≠ (v200 : Value).ownBlock ∧ some q ≠ (v203 : Value).ownBlock ∧ q ≠ g1 ∧ q ≠ g2 ∧ q ≠ g3) (.slice A2_4 l2_4.length c2_4) l2_4) := ⟨h10_⟩
          have n11_ : Aside0 (Kd.V Kd.string 9 w106 w.heap.size (fun q => ((P4 q ∨ P5 q ∨ Q4 q ∨ Q5 q) ∨ w.heap.size ≤ q) ∧ some q ≠ (.slice Ao96 y177.length co96 : Value).ownBlock ∧ some q ≠ (v189 : Value).ownBlock ∧ some q ≠ (v200 : Value).ownBlock ∧ some q ≠ (v203 : Value).ownBlock ∧ q ≠ g1 ∧ q ≠ g2 ∧ q ≠ g3) (.slice A2_5 l2_5.length c2_5) l2_5) := ⟨h11_⟩
          have n12_ : Aside0 (w106.heap[g1]? = some (.cells #[.int .i64 a0_0, .int .i64 a0_1, .int .i64 a0_2, .string a0_3, .slice A0_4 l0_4.length c0_4, .slice A0_5 l0_5.length c0_5] 27 (0, 0))) := ⟨h12_⟩
          have n13_ : Aside0 (w106.heap[g2]? = some (.cells #[.int .i64 a2_0, .int .i64 a2_1, .int .i64 a2_2, .string a2_3, .slice A2_4 l2_4.length c2_4, .slice A2_5 l2_5.length c2_5] 27 (0, 0))) := ⟨h13_⟩
          have n14_ : Aside0 (w106.heap[g3]? = some (.cells #[.int .i64 0, .int .i64 0, .int .i64 0, .string (⟨#[]⟩ : ByteArray), .slice none 0 0, .slice none 0 0] 27 (0, 0))) := ⟨h14_⟩
          have n15_ : Aside0 (Below w.heap.size w w106) := ⟨h15_⟩
          clear U4
          clear U5
          clear U6
          clear U7
          clear HO173
          clear HO187
          clear HO179
          clear HO190
          clear BK111
          clear BK112
          clear BK113
          clear HB
          clear h0_ h1_ h2_ h3_ h4_ h5_ h6_ h7_ h8_ h9_ h10_ h11_ h12_ h13_ h14_ h15_
          have HO173 := n0_
          have HO179 := n1_
          have HO187 := n2_
          have HO190 := n3_
          have HO198 := n4_
          have HO201 := n5_
          have HO204 := n6_
          have HO212 := n7_
          have U4 := n8_
          have U5 := n9_
          have U6 := n10_
          have U7 := n11_
          have BK111 := n12_
          have BK112 := n13_
          have BK113 := n14_
          have HB := n15_
          clear n0_ n1_ n2_ n3_ n4_ n5_ n6_ n7_ n8_ n9_ n10_ n11_ n12_ n13_ n14_ n15_
          have hHeld : w106.cell? ⟨g1, 0, none⟩ = some (.int .i64 a0_0) ∧ w106.cell? ⟨g1, 1, none⟩ = some (.int .i64 a0_1) ∧ w106.cell? ⟨g1, 2, none⟩ = some (.int .i64 a0_2) ∧ w106.cell? ⟨g1, 3, none⟩ = some (.string a0_3) ∧ w106.cell? ⟨g1, 4, none⟩ = some (.slice A0_4 l0_4.length c0_4) ∧ w106.cell? ⟨g1, 5, none⟩ = some (.slice A0_5 l0_5.length c0_5) ∧ w106.cell? ⟨g2, 0, none⟩ = some (.int .i64 a2_0) ∧ w106.cell? ⟨g2, 1, none⟩ = some (.int .i64 a2_1) ∧ w106.cell? ⟨g2, 2, none⟩ = some (.int .i64 a2_2) ∧ w106.cell? ⟨g2, 3, none⟩ = some (.string a2_3) ∧ w106.cell? ⟨g2, 4, none⟩ = some (.slice A2_4 l2_4.length c2_4) ∧ w106.cell? ⟨g2, 5, none⟩ = some (.slice A2_5 l2_5.length c2_5) := hS_
          obtain ⟨Ao108, co108, eo108⟩ := Kd.N_slice HO204.out
          (first | subst eo108 | (injection eo108 with f1_ f2_ f3_; have f4_ := f1_.symm; have f5_ := f3_.symm; clear f1_ f2_ f3_; subst f4_; subst f5_))
          refine norm_ (a' := ?_) ?_ ?_
          rotate_left
          · simp only [putAll, Act.put, List.setIfInBounds_toArray, List.set_cons_zero, List.set_cons_succ]
            rfl
          refine one_ (i := 8) (N := some 58) #[true, true, true, true, true, true, true, true, true, true, true, true, true, false, false] rfl rfl (one_of HT_.out (by kernel_rfl)) (by decide) (fun K hK => ?_)
          refine Kd.N_append_rows_step k27 (w0 := w) w.heap.size (by rfl) (.tmp 55) (.tmp 57) 24 27 (.agg #[(.int .i64 0), (.int .i64 0), (.int .i64 0), (.string ⟨#[]⟩), (.slice none 0 0), (.slice none 0 0)]) 88 rfl Try.underlying24 info27 rfl (by decide) (by omega) v200 y199 y202 _ _ _ (fun q => ((P4 q ∨ P5 q ∨ Q4 q ∨ Q5 q) ∨ w.heap.size ≤ q) ∧ some q ≠ (.slice Ao96 y177.length co96 : Value).ownBlock ∧ some q ≠ (v189 : Value).ownBlock ∧ q ≠ g1 ∧ q ≠ g2 ∧ q ≠ g3) (fun q => ((fun q => ((P4 q ∨ P5 q ∨ Q4 q ∨ Q5 q) ∨ w.heap.size ≤ q) ∧ some q ≠ (.slice Ao96 y177.length co96 : Value).ownBlock ∧ some q ≠ (v189 : Value).ownBlock ∧ q ≠ g1 ∧ q ≠ g2 ∧ q ≠ g3)) q ∧ some q ≠ (v200 : Value).ownBlock) rfl rfl ?aO ?aR (fun _ hk => hk) ?aF ?aB ?aS ?aL ?_
          (case aR => exact (by skip; exact Kd.N_F (Kd.N_mono (ok' := (fun q => ((fun q => ((P4 q ∨ P5 q ∨ Q4 q ∨ Q5 q) ∨ w.heap.size ≤ q) ∧ some q ≠ (.slice Ao96 y177.length co96 : Value).ownBlock ∧ some q ≠ (v189 : Value).ownBlock ∧ q ≠ g1 ∧ q ≠ g2 ∧ q ≠ g3)) q ∧ some q ≠ (v200 : Value).ownBlock)) (HO204.out) (fun q hk => ⟨⟨hk.1, ⟨hk.2.1, ⟨hk.2.2.1, ⟨hk.2.2.2.2.1, ⟨hk.2.2.2.2.2.1, hk.2.2.2.2.2.2⟩⟩⟩⟩⟩, hk.2.2.2.1⟩))))
          (case aB => exact (by repeat (first | (with_reducible first | exact HB.out | apply below_alloc | apply pw_below_drewN | apply below_drew1 | refine below_set ?_ GE111.out | refine below_set ?_ GE112.out | refine below_set ?_ GE113.out) | exact HB.out)))
          (case aF => exact (fun q hk => ⟨(.inr (Nat.le_trans (below_size (by repeat (first | (with_reducible first | exact HB.out | apply below_alloc | apply pw_below_drewN | apply below_drew1 | refine below_set ?_ GE111.out | refine below_set ?_ GE112.out | refine below_set ?_ GE113.out) | exact HB.out))) hk)), Kd.fresh' (Kd.R_lt (by (with_reducible repeat (first | apply Kd.R_alloc | apply Kd.R_drewN | apply Kd.R_drew)); exact HO179.out)) q hk, Kd.fresh' (Kd.R_lt (by (with_reducible repeat (first | apply Kd.R_alloc | apply Kd.R_drewN | apply Kd.R_drew)); exact HO190.out)) q hk, Kd.freshB (g := g1) (o := .cells #[.int .i64 a0_0, .int .i64 a0_1, .int .i64 a0_2, .string a0_3, .slice A0_4 l0_4.length c0_4, .slice A0_5 l0_5.length c0_5] 27 (0, 0)) (by (with_reducible repeat (first | refine blk_drewN ?_ _ | refine blk_drew ?_ | refine blk_alloc ?_ _)); exact BK111.out) q hk, Kd.freshB (g := g2) (o := .cells #[.int .i64 a2_0, .int .i64 a2_1, .int .i64 a2_2, .string a2_3, .slice A2_4 l2_4.length c2_4, .slice A2_5 l2_5.length c2_5] 27 (0, 0)) (by (with_reducible repeat (first | refine blk_drewN ?_ _ | refine blk_drew ?_ | refine blk_alloc ?_ _)); exact BK112.out) q hk, Kd.freshB (g := g3) (o := .cells #[.int .i64 0, .int .i64 0, .int .i64 0, .string (⟨#[]⟩ : ByteArray), .slice none 0 0, .slice none 0 0] 27 (0, 0)) (by (with_reducible repeat (first | refine blk_drewN ?_ _ | refine blk_drew ?_ | refine blk_alloc ?_ _)); exact BK113.out) q hk⟩))
          (case aO => exact (by (with_reducible repeat (first | apply Kd.N_alloc | apply Kd.N_drewN | apply Kd.N_drew)); exact Kd.N_mono HO201.out (fun _ hk => ⟨hk.1, ⟨hk.2.1, ⟨hk.2.2.1, ⟨hk.2.2.2.2.1, ⟨hk.2.2.2.2.2.1, hk.2.2.2.2.2.2⟩⟩⟩⟩⟩)))
          (case aS => exact (below_size (by repeat (first | (with_reducible first | exact HB.out | apply below_alloc | apply pw_below_drewN | apply below_drew1 | refine below_set ?_ GE111.out | refine below_set ?_ GE112.out | refine below_set ?_ GE113.out) | exact HB.out))))
          (case aL => have := LMc79.out; omega)
          intro v206 w107 ho hb hg hat
          rw [← Ny205.out] at ho
          have n0_ := Aside0.mk (Kd.V_afterv (ok := (fun q => ((P4 q ∨ P5 q ∨ Q4 q ∨ Q5 q) ∨ w.heap.size ≤ q) ∧ some q ≠ (.slice Ao96 y177.length co96 : Value).ownBlock ∧ some q ≠ (v189 : Value).ownBlock ∧ some q ≠ (.slice Ao108 y202.length co108 : Value).ownBlock ∧ q ≠ g1 ∧ q ≠ g2 ∧ q ≠ g3)) (by (with_reducible repeat (first | apply Kd.V_alloc | apply Kd.V_drewN | apply Kd.V_drew)); exact Kd.V_mono U4.out (fun _ hk => ⟨⟨hk.1, ⟨hk.2.1, ⟨hk.2.2.1, ⟨hk.2.2.2.2.1, ⟨hk.2.2.2.2.2.1, ⟨hk.2.2.2.2.2.2.1, hk.2.2.2.2.2.2.2⟩⟩⟩⟩⟩⟩, hk.2.2.2.1⟩)) hg hat)
          have n1_ := Aside0.mk (Kd.V_afterv (ok := (fun q => ((P4 q ∨ P5 q ∨ Q4 q ∨ Q5 q) ∨ w.heap.size ≤ q) ∧ some q ≠ (.slice Ao96 y177.length co96 : Value).ownBlock ∧ some q ≠ (v189 : Value).ownBlock ∧ some q ≠ (.slice Ao108 y202.length co108 : Value).ownBlock ∧ q ≠ g1 ∧ q ≠ g2 ∧ q ≠ g3)) (by (with_reducible repeat (first | apply Kd.V_alloc | apply Kd.V_drewN | apply Kd.V_drew)); exact Kd.V_mono U5.out (fun _ hk => ⟨⟨hk.1, ⟨hk.2.1, ⟨hk.2.2.1, ⟨hk.2.2.2.2.1, ⟨hk.2.2.2.2.2.1, ⟨hk.2.2.2.2.2.2.1, hk.2.2.2.2.2.2.2⟩⟩⟩⟩⟩⟩, hk.2.2.2.1⟩)) hg hat)
          have n2_ := Aside0.mk (Kd.V_afterv (ok := (fun q => ((P4 q ∨ P5 q ∨ Q4 q ∨ Q5 q) ∨ w.heap.size ≤ q) ∧ some q ≠ (.slice Ao96 y177.length co96 : Value).ownBlock ∧ some q ≠ (v189 : Value).ownBlock ∧ some q ≠ (.slice Ao108 y202.length co108 : Value).ownBlock ∧ q ≠ g1 ∧ q ≠ g2 ∧ q ≠ g3)) (by (with_reducible repeat (first | apply Kd.V_alloc | apply Kd.V_drewN | apply Kd.V_drew)); exact Kd.V_mono U6.out (fun _ hk => ⟨⟨hk.1, ⟨hk.2.1, ⟨hk.2.2.1, ⟨hk.2.2.2.2.1, ⟨hk.2.2.2.2.2.1, ⟨hk.2.2.2.2.2.2.1, hk.2.2.2.2.2.2.2⟩⟩⟩⟩⟩⟩, hk.2.2.2.1⟩)) hg hat)
          have n3_ := Aside0.mk (Kd.V_afterv (ok := (fun q => ((P4 q ∨ P5 q ∨ Q4 q ∨ Q5 q) ∨ w.heap.size ≤ q) ∧ some q ≠ (.slice Ao96 y177.length co96 : Value).ownBlock ∧ some q ≠ (v189 : Value).ownBlock ∧ some q ≠ (.slice Ao108 y202.length co108 : Value).ownBlock ∧ q ≠ g1 ∧ q ≠ g2 ∧ q ≠ g3)) (by (with_reducible repeat (first | apply Kd.V_alloc | apply Kd.V_drewN | apply Kd.V_drew)); exact Kd.V_mono U7.out (fun _ hk => ⟨⟨hk.1, ⟨hk.2.1, ⟨hk.2.2.1, ⟨hk.2.2.2.2.1, ⟨hk.2.2.2.2.2.1, ⟨hk.2.2.2.2.2.2.1, hk.2.2.2.2.2.2.2⟩⟩⟩⟩⟩⟩, hk.2.2.2.1⟩)) hg hat)
          have n4_ := Aside0.mk (blk_grown (g := g1) (o := .cells #[.int .i64 a0_0, .int .i64 a0_1, .int .i64 a0_2, .string a0_3, .slice A0_4 l0_4.length c0_4, .slice A0_5 l0_5.length c0_5] 27 (0, 0)) (by (with_reducible repeat (first | refine blk_drewN ?_ _ | refine blk_drew ?_ | refine blk_alloc ?_ _)); exact BK111.out) hg (Kd.N_away HO201.out (fun _ hk => hk.2.2.2.2.1)))
          have n5_ := Aside0.mk (blk_grown (g := g2) (o := .cells #[.int .i64 a2_0, .int .i64 a2_1, .int .i64 a2_2, .string a2_3, .slice A2_4 l2_4.length c2_4, .slice A2_5 l2_5.length c2_5] 27 (0, 0)) (by (with_reducible repeat (first | refine blk_drewN ?_ _ | refine blk_drew ?_ | refine blk_alloc ?_ _)); exact BK112.out) hg (Kd.N_away HO201.out (fun _ hk => hk.2.2.2.2.2.1)))
          have n6_ := Aside0.mk (blk_grown (g := g3) (o := .cells #[.int .i64 0, .int .i64 0, .int .i64 0, .string (⟨#[]⟩ : ByteArray), .slice none 0 0, .slice none 0 0] 27 (0, 0)) (by (with_reducible repeat (first | refine blk_drewN ?_ _ | refine blk_drew ?_ | refine blk_alloc ?_ _)); exact BK113.out) hg (Kd.N_away HO201.out (fun _ hk => hk.2.2.2.2.2.2)))
          have n7_ := Aside0.mk (Kd.V_afterv (ok := (fun q => ((P4 q ∨ P5 q ∨ Q4 q ∨ Q5 q) ∨ w.heap.size ≤ q) ∧ some q ≠ (.slice Ao96 y177.length co96 : Value).ownBlock ∧ some q ≠ (v189 : Value).ownBlock ∧ some q ≠ (.slice Ao108 y202.length co108 : Value).ownBlock ∧ q ≠ g1 ∧ q ≠ g2 ∧ q ≠ g3)) (by (with_reducible repeat (first | apply Kd.V_alloc | apply Kd.V_drewN | apply Kd.V_drew)); exact Kd.V_mono HO173.out (fun _ hk => ⟨⟨hk.1, ⟨hk.2.1, ⟨hk.2.2.1, ⟨hk.2.2.2.2.1, ⟨hk.2.2.2.2.2.1, ⟨hk.2.2.2.2.2.2.1, hk.2.2.2.2.2.2.2⟩⟩⟩⟩⟩⟩, hk.2.2.2.1⟩)) hg hat)
          have n8_ := Aside0.mk (Kd.V_afterv (ok := (fun q => ((P4 q ∨ P5 q ∨ Q4 q ∨ Q5 q) ∨ w.heap.size ≤ q) ∧ some q ≠ (.slice Ao96 y177.length co96 : Value).ownBlock ∧ some q ≠ (v189 : Value).ownBlock ∧ some q ≠ (.slice Ao108 y202.length co108 : Value).ownBlock ∧ q ≠ g1 ∧ q ≠ g2 ∧ q ≠ g3)) (by (with_reducible repeat (first | apply Kd.V_alloc | apply Kd.V_drewN | apply Kd.V_drew)); exact Kd.V_mono HO187.out (fun _ hk => ⟨⟨hk.1, ⟨hk.2.1, ⟨hk.2.2.1, ⟨hk.2.2.2.2.1, ⟨hk.2.2.2.2.2.1, ⟨hk.2.2.2.2.2.2.1, hk.2.2.2.2.2.2.2⟩⟩⟩⟩⟩⟩, hk.2.2.2.1⟩)) hg hat)
          have n9_ := Aside0.mk (Kd.R_over' (by (with_reducible repeat (first | apply Kd.R_alloc | apply Kd.R_drewN | apply Kd.R_drew)); exact HO179.out) (Kd.N_typed (by (with_reducible repeat (first | apply Kd.N_alloc | apply Kd.N_drewN | apply Kd.N_drew)); exact HO201.out)) (by decide) hg)
          have n10_ := Aside0.mk (Kd.R_over' (by (with_reducible repeat (first | apply Kd.R_alloc | apply Kd.R_drewN | apply Kd.R_drew)); exact HO190.out) (Kd.N_typed (by (with_reducible repeat (first | apply Kd.N_alloc | apply Kd.N_drewN | apply Kd.N_drew)); exact HO201.out)) (by decide) hg)
          have n11_ := Aside0.mk (Kd.V_afterv (ok := (fun q => ((P4 q ∨ P5 q ∨ Q4 q ∨ Q5 q) ∨ w.heap.size ≤ q) ∧ some q ≠ (.slice Ao96 y177.length co96 : Value).ownBlock ∧ some q ≠ (v189 : Value).ownBlock ∧ some q ≠ (.slice Ao108 y202.length co108 : Value).ownBlock ∧ q ≠ g1 ∧ q ≠ g2 ∧ q ≠ g3)) (by (with_reducible repeat (first | apply Kd.V_alloc | apply Kd.V_drewN | apply Kd.V_drew)); exact Kd.V_mono HO198.out (fun _ hk => ⟨⟨hk.1, ⟨hk.2.1, ⟨hk.2.2.1, ⟨hk.2.2.2.2.1, ⟨hk.2.2.2.2.2.1, ⟨hk.2.2.2.2.2.2.1, hk.2.2.2.2.2.2.2⟩⟩⟩⟩⟩⟩, hk.2.2.2.1⟩)) hg hat)
          have n12_ := Aside0.mk (Kd.V_afterv (ok := (fun q => ((P4 q ∨ P5 q ∨ Q4 q ∨ Q5 q) ∨ w.heap.size ≤ q) ∧ some q ≠ (.slice Ao96 y177.length co96 : Value).ownBlock ∧ some q ≠ (v189 : Value).ownBlock ∧ some q ≠ (.slice Ao108 y202.length co108 : Value).ownBlock ∧ q ≠ g1 ∧ q ≠ g2 ∧ q ≠ g3)) (by (with_reducible repeat (first | apply Kd.V_alloc | apply Kd.V_drewN | apply Kd.V_drew)); exact Kd.V_mono HO212.out (fun _ hk => ⟨⟨hk.1, ⟨hk.2.1, ⟨hk.2.2.1, ⟨hk.2.2.2.2.1, ⟨hk.2.2.2.2.2.1, ⟨hk.2.2.2.2.2.2.1, hk.2.2.2.2.2.2.2⟩⟩⟩⟩⟩⟩, hk.2.2.2.1⟩)) hg hat)
          have n13_ := Aside0.mk (Kd.N_afterv (ok := (fun q => ((P4 q ∨ P5 q ∨ Q4 q ∨ Q5 q) ∨ w.heap.size ≤ q) ∧ some q ≠ (.slice Ao96 y177.length co96 : Value).ownBlock ∧ some q ≠ (v189 : Value).ownBlock ∧ q ≠ g1 ∧ q ≠ g2 ∧ q ≠ g3)) (by (with_reducible repeat (first | apply Kd.N_alloc | apply Kd.N_drewN | apply Kd.N_drew)); exact Kd.N_mono HO204.out (fun _ hk => ⟨⟨hk.1, ⟨hk.2.1, ⟨hk.2.2.1, ⟨hk.2.2.2.2.1, ⟨hk.2.2.2.2.2.1, hk.2.2.2.2.2.2⟩⟩⟩⟩⟩, hk.2.2.2.1⟩)) hg hat)
          have n14_ := Aside0.mk (hb)
          have n15_ := Aside0.mk (ho)
          clear U4
          clear U5
          clear U6
          clear U7
          clear BK111
          clear BK112
          clear BK113
          clear HO173
          clear HO187
          clear HO179
          clear HO190
          clear HO198
          clear HO212
          clear HO204
          clear HB
          clear HO201
          have U4 := n0_
          have U5 := n1_
          have U6 := n2_
          have U7 := n3_
          have BK111 := n4_
          have BK112 := n5_
          have BK113 := n6_
          have HO173 := n7_
          have HO187 := n8_
          have HO179 := n9_
          have HO190 := n10_
          have HO198 := n11_
          have HO212 := n12_
          have HO204 := n13_
          have HB := n14_
          have HO207 := n15_
          clear n0_ n1_ n2_ n3_ n4_ n5_ n6_ n7_ n8_ n9_ n10_ n11_ n12_ n13_ n14_ n15_
          clear ho hb hg hat
          refine hK.out _ _ ⟨(blk_cell BK111.out 0).trans rfl, (blk_cell BK111.out 1).trans rfl, (blk_cell BK111.out 2).trans rfl, (blk_cell BK111.out 3).trans rfl, (blk_cell BK111.out 4).trans rfl, (blk_cell BK111.out 5).trans rfl, (blk_cell BK112.out 0).trans rfl, (blk_cell BK112.out 1).trans rfl, (blk_cell BK112.out 2).trans rfl, (blk_cell BK112.out 3).trans rfl, (blk_cell BK112.out 4).trans rfl, (blk_cell BK112.out 5).trans rfl⟩ (fun hHeld => ?_)
          clear hK K
          refine norm_ (a' := ?_) ?_ ?_
          rotate_left
          · show Act.put _ (some 58) _ = _
            simp only [Act.put, List.setIfInBounds_toArray, List.set_cons_zero, List.set_cons_succ, i64_w, i32_w]
            rfl
          refine one_ (i := 13) (N := some 63) #[true, true, true, true, true, true, true, true, true, true, true, true, true, true, false] rfl rfl (one_of HT_.out (by kernel_rfl)) (by decide) (fun K hK => ?_)
          refine Kd.N_append_rows_step k27 (w0 := w) w.heap.size (by rfl) (.tmp 58) (.tmp 62) 24 27 (.agg #[(.int .i64 0), (.int .i64 0), (.int .i64 0), (.string ⟨#[]⟩), (.slice none 0 0), (.slice none 0 0)]) 88 rfl Try.underlying24 info27 rfl (by decide) (by omega) v206 y205 y208 _ _ _ (fun q => ((P4 q ∨ P5 q ∨ Q4 q ∨ Q5 q) ∨ w.heap.size ≤ q) ∧ some q ≠ (.slice Ao96 y177.length co96 : Value).ownBlock ∧ some q ≠ (v189 : Value).ownBlock ∧ q ≠ g1 ∧ q ≠ g2 ∧ q ≠ g3) (fun q => ((fun q => ((P4 q ∨ P5 q ∨ Q4 q ∨ Q5 q) ∨ w.heap.size ≤ q) ∧ some q ≠ (.slice Ao96 y177.length co96 : Value).ownBlock ∧ some q ≠ (v189 : Value).ownBlock ∧ q ≠ g1 ∧ q ≠ g2 ∧ q ≠ g3)) q ∧ some q ≠ (v206 : Value).ownBlock) rfl rfl ?aO ?aR (fun _ hk => hk) ?aF ?aB ?aS ?aL ?_
          (case aR => exact (by skip; exact Kd.V_F (Kd.V_mono (ok' := (fun q => ((fun q => ((P4 q ∨ P5 q ∨ Q4 q ∨ Q5 q) ∨ w.heap.size ≤ q) ∧ some q ≠ (.slice Ao96 y177.length co96 : Value).ownBlock ∧ some q ≠ (v189 : Value).ownBlock ∧ q ≠ g1 ∧ q ≠ g2 ∧ q ≠ g3)) q ∧ some q ≠ (v206 : Value).ownBlock)) (HO212.out) (fun q hk => ⟨⟨hk.1.1, ⟨hk.1.2.1, ⟨hk.1.2.2.1, ⟨hk.1.2.2.2.2.1, ⟨hk.1.2.2.2.2.2.1, hk.1.2.2.2.2.2.2⟩⟩⟩⟩⟩, hk.2⟩))))
          (case aB => exact (by repeat (first | (with_reducible first | exact HB.out | apply below_alloc | apply pw_below_drewN | apply below_drew1 | refine below_set ?_ GE111.out | refine below_set ?_ GE112.out | refine below_set ?_ GE113.out) | exact HB.out)))
          (case aF => exact (fun q hk => ⟨(.inr (Nat.le_trans (below_size (by repeat (first | (with_reducible first | exact HB.out | apply below_alloc | apply pw_below_drewN | apply below_drew1 | refine below_set ?_ GE111.out | refine below_set ?_ GE112.out | refine below_set ?_ GE113.out) | exact HB.out))) hk)), Kd.fresh' (Kd.R_lt (by (with_reducible repeat (first | apply Kd.R_alloc | apply Kd.R_drewN | apply Kd.R_drew)); exact HO179.out)) q hk, Kd.fresh' (Kd.R_lt (by (with_reducible repeat (first | apply Kd.R_alloc | apply Kd.R_drewN | apply Kd.R_drew)); exact HO190.out)) q hk, Kd.freshB (g := g1) (o := .cells #[.int .i64 a0_0, .int .i64 a0_1, .int .i64 a0_2, .string a0_3, .slice A0_4 l0_4.length c0_4, .slice A0_5 l0_5.length c0_5] 27 (0, 0)) (by (with_reducible repeat (first | refine blk_drewN ?_ _ | refine blk_drew ?_ | refine blk_alloc ?_ _)); exact BK111.out) q hk, Kd.freshB (g := g2) (o := .cells #[.int .i64 a2_0, .int .i64 a2_1, .int .i64 a2_2, .string a2_3, .slice A2_4 l2_4.length c2_4, .slice A2_5 l2_5.length c2_5] 27 (0, 0)) (by (with_reducible repeat (first | refine blk_drewN ?_ _ | refine blk_drew ?_ | refine blk_alloc ?_ _)); exact BK112.out) q hk, Kd.freshB (g := g3) (o := .cells #[.int .i64 0, .int .i64 0, .int .i64 0, .string (⟨#[]⟩ : ByteArray), .slice none 0 0, .slice none 0 0] 27 (0, 0)) (by (with_reducible repeat (first | refine blk_drewN ?_ _ | refine blk_drew ?_ | refine blk_alloc ?_ _)); exact BK113.out) q hk⟩))
          (case aO => exact (by (with_reducible repeat (first | apply Kd.N_alloc | apply Kd.N_drewN | apply Kd.N_drew)); exact HO207.out))
          (case aS => exact (below_size (by repeat (first | (with_reducible first | exact HB.out | apply below_alloc | apply pw_below_drewN | apply below_drew1 | refine below_set ?_ GE111.out | refine below_set ?_ GE112.out | refine below_set ?_ GE113.out) | exact HB.out))))
          (case aL => have := LMc82.out; omega)
          intro v214 w109 ho hb hg hat
          rw [← Ny213.out] at ho
          have n0_ := Aside0.mk (Kd.V_afterv (ok := (fun q => ((P4 q ∨ P5 q ∨ Q4 q ∨ Q5 q) ∨ w.heap.size ≤ q) ∧ some q ≠ (.slice Ao96 y177.length co96 : Value).ownBlock ∧ some q ≠ (v189 : Value).ownBlock ∧ some q ≠ (.slice Ao108 y202.length co108 : Value).ownBlock ∧ q ≠ g1 ∧ q ≠ g2 ∧ q ≠ g3)) (by (with_reducible repeat (first | apply Kd.V_alloc | apply Kd.V_drewN | apply Kd.V_drew)); exact U4.out) hg hat)
          have n1_ := Aside0.mk (Kd.V_afterv (ok := (fun q => ((P4 q ∨ P5 q ∨ Q4 q ∨ Q5 q) ∨ w.heap.size ≤ q) ∧ some q ≠ (.slice Ao96 y177.length co96 : Value).ownBlock ∧ some q ≠ (v189 : Value).ownBlock ∧ some q ≠ (.slice Ao108 y202.length co108 : Value).ownBlock ∧ q ≠ g1 ∧ q ≠ g2 ∧ q ≠ g3)) (by (with_reducible repeat (first | apply Kd.V_alloc | apply Kd.V_drewN | apply Kd.V_drew)); exact U5.out) hg hat)
          have n2_ := Aside0.mk (Kd.V_afterv (ok := (fun q => ((P4 q ∨ P5 q ∨ Q4 q ∨ Q5 q) ∨ w.heap.size ≤ q) ∧ some q ≠ (.slice Ao96 y177.length co96 : Value).ownBlock ∧ some q ≠ (v189 : Value).ownBlock ∧ some q ≠ (.slice Ao108 y202.length co108 : Value).ownBlock ∧ q ≠ g1 ∧ q ≠ g2 ∧ q ≠ g3)) (by (with_reducible repeat (first | apply Kd.V_alloc | apply Kd.V_drewN | apply Kd.V_drew)); exact U6.out) hg hat)
          have n3_ := Aside0.mk (Kd.V_afterv (ok := (fun q => ((P4 q ∨ P5 q ∨ Q4 q ∨ Q5 q) ∨ w.heap.size ≤ q) ∧ some q ≠ (.slice Ao96 y177.length co96 : Value).ownBlock ∧ some q ≠ (v189 : Value).ownBlock ∧ some q ≠ (.slice Ao108 y202.length co108 : Value).ownBlock ∧ q ≠ g1 ∧ q ≠ g2 ∧ q ≠ g3)) (by (with_reducible repeat (first | apply Kd.V_alloc | apply Kd.V_drewN | apply Kd.V_drew)); exact U7.out) hg hat)
          have n4_ := Aside0.mk (blk_grown (g := g1) (o := .cells #[.int .i64 a0_0, .int .i64 a0_1, .int .i64 a0_2, .string a0_3, .slice A0_4 l0_4.length c0_4, .slice A0_5 l0_5.length c0_5] 27 (0, 0)) (by (with_reducible repeat (first | refine blk_drewN ?_ _ | refine blk_drew ?_ | refine blk_alloc ?_ _)); exact BK111.out) hg (Kd.N_away HO207.out (fun _ hk => hk.2.2.2.1)))
          have n5_ := Aside0.mk (blk_grown (g := g2) (o := .cells #[.int .i64 a2_0, .int .i64 a2_1, .int .i64 a2_2, .string a2_3, .slice A2_4 l2_4.length c2_4, .slice A2_5 l2_5.length c2_5] 27 (0, 0)) (by (with_reducible repeat (first | refine blk_drewN ?_ _ | refine blk_drew ?_ | refine blk_alloc ?_ _)); exact BK112.out) hg (Kd.N_away HO207.out (fun _ hk => hk.2.2.2.2.1)))
          have n6_ := Aside0.mk (blk_grown (g := g3) (o := .cells #[.int .i64 0, .int .i64 0, .int .i64 0, .string (⟨#[]⟩ : ByteArray), .slice none 0 0, .slice none 0 0] 27 (0, 0)) (by (with_reducible repeat (first | refine blk_drewN ?_ _ | refine blk_drew ?_ | refine blk_alloc ?_ _)); exact BK113.out) hg (Kd.N_away HO207.out (fun _ hk => hk.2.2.2.2.2)))
          have n7_ := Aside0.mk (Kd.V_afterv (ok := (fun q => ((P4 q ∨ P5 q ∨ Q4 q ∨ Q5 q) ∨ w.heap.size ≤ q) ∧ some q ≠ (.slice Ao96 y177.length co96 : Value).ownBlock ∧ some q ≠ (v189 : Value).ownBlock ∧ some q ≠ (.slice Ao108 y202.length co108 : Value).ownBlock ∧ q ≠ g1 ∧ q ≠ g2 ∧ q ≠ g3)) (by (with_reducible repeat (first | apply Kd.V_alloc | apply Kd.V_drewN | apply Kd.V_drew)); exact HO173.out) hg hat)
          have n8_ := Aside0.mk (Kd.V_afterv (ok := (fun q => ((P4 q ∨ P5 q ∨ Q4 q ∨ Q5 q) ∨ w.heap.size ≤ q) ∧ some q ≠ (.slice Ao96 y177.length co96 : Value).ownBlock ∧ some q ≠ (v189 : Value).ownBlock ∧ some q ≠ (.slice Ao108 y202.length co108 : Value).ownBlock ∧ q ≠ g1 ∧ q ≠ g2 ∧ q ≠ g3)) (by (with_reducible repeat (first | apply Kd.V_alloc | apply Kd.V_drewN | apply Kd.V_drew)); exact HO187.out) hg hat)
          have n9_ := Aside0.mk (Kd.R_over' (by (with_reducible repeat (first | apply Kd.R_alloc | apply Kd.R_drewN | apply Kd.R_drew)); exact HO179.out) (Kd.N_typed (by (with_reducible repeat (first | apply Kd.N_alloc | apply Kd.N_drewN | apply Kd.N_drew)); exact HO207.out)) (by decide) hg)
          have n10_ := Aside0.mk (Kd.R_over' (by (with_reducible repeat (first | apply Kd.R_alloc | apply Kd.R_drewN | apply Kd.R_drew)); exact HO190.out) (Kd.N_typed (by (with_reducible repeat (first | apply Kd.N_alloc | apply Kd.N_drewN | apply Kd.N_drew)); exact HO207.out)) (by decide) hg)
          have n11_ := Aside0.mk (Kd.V_afterv (ok := (fun q => ((P4 q ∨ P5 q ∨ Q4 q ∨ Q5 q) ∨ w.heap.size ≤ q) ∧ some q ≠ (.slice Ao96 y177.length co96 : Value).ownBlock ∧ some q ≠ (v189 : Value).ownBlock ∧ some q ≠ (.slice Ao108 y202.length co108 : Value).ownBlock ∧ q ≠ g1 ∧ q ≠ g2 ∧ q ≠ g3)) (by (with_reducible repeat (first | apply Kd.V_alloc | apply Kd.V_drewN | apply Kd.V_drew)); exact HO198.out) hg hat)
          have n12_ := Aside0.mk (Kd.V_afterv (ok := (fun q => ((P4 q ∨ P5 q ∨ Q4 q ∨ Q5 q) ∨ w.heap.size ≤ q) ∧ some q ≠ (.slice Ao96 y177.length co96 : Value).ownBlock ∧ some q ≠ (v189 : Value).ownBlock ∧ some q ≠ (.slice Ao108 y202.length co108 : Value).ownBlock ∧ q ≠ g1 ∧ q ≠ g2 ∧ q ≠ g3)) (by (with_reducible repeat (first | apply Kd.V_alloc | apply Kd.V_drewN | apply Kd.V_drew)); exact HO212.out) hg hat)
          have n13_ := Aside0.mk (Kd.N_afterv (ok := (fun q => ((P4 q ∨ P5 q ∨ Q4 q ∨ Q5 q) ∨ w.heap.size ≤ q) ∧ some q ≠ (.slice Ao96 y177.length co96 : Value).ownBlock ∧ some q ≠ (v189 : Value).ownBlock ∧ q ≠ g1 ∧ q ≠ g2 ∧ q ≠ g3)) (by (with_reducible repeat (first | apply Kd.N_alloc | apply Kd.N_drewN | apply Kd.N_drew)); exact HO204.out) hg hat)
          have n14_ := Aside0.mk (hb)
          have n15_ := Aside0.mk (ho)
          clear U4
          clear U5
          clear U6
          clear U7
          clear BK111
          clear BK112
          clear BK113
          clear HO173
          clear HO187
          clear HO179
          clear HO190
          clear HO198
          clear HO212
          clear HO204
          clear HB
          clear HO207
          have U4 := n0_
          have U5 := n1_
          have U6 := n2_
          have U7 := n3_
          have BK111 := n4_
          have BK112 := n5_
          have BK113 := n6_
          have HO173 := n7_
          have HO187 := n8_
          have HO179 := n9_
          have HO190 := n10_
          have HO198 := n11_
          have HO212 := n12_
          have HO204 := n13_
          have HB := n14_
          have HO215 := n15_
          clear n0_ n1_ n2_ n3_ n4_ n5_ n6_ n7_ n8_ n9_ n10_ n11_ n12_ n13_ n14_ n15_
          clear ho hb hg hat
          refine hK.out _ _ ⟨(blk_cell BK111.out 0).trans rfl, (blk_cell BK111.out 1).trans rfl, (blk_cell BK111.out 2).trans rfl, (blk_cell BK111.out 3).trans rfl, (blk_cell BK111.out 4).trans rfl, (blk_cell BK111.out 5).trans rfl, (blk_cell BK112.out 0).trans rfl, (blk_cell BK112.out 1).trans rfl, (blk_cell BK112.out 2).trans rfl, (blk_cell BK112.out 3).trans rfl, (blk_cell BK112.out 4).trans rfl, (blk_cell BK112.out 5).trans rfl⟩ (fun hHeld => ?_)
          clear hK K
          refine norm_ (a' := ?_) ?_ ?_
          rotate_left
          · show Act.put _ (some 63) _ = _
            simp only [Act.put, List.setIfInBounds_toArray, List.set_cons_zero, List.set_cons_succ, i64_w, i32_w]
            rfl
          refine pure_ (i := 14) (N := some 11) (v := ?_) (a' := ?_) #[true, true, true, true, true, true, true, true, true, true, true, true, true, true, true] rfl rfl (any_of HT_.out (by kernel_rfl)) (fun _ _ _ h => h) (Or.inl ⟨by rfl, ?_⟩) ?_ ?_
          rotate_left
          · intro w'
            go_simp
            with_reducible rfl
          rotate_left
          · simp only [Act.put, List.setIfInBounds_toArray, List.set_cons_zero, List.set_cons_succ, i64_w, i32_w]
            rfl
          refine done_ (done_of HT_.out (by kernel_rfl)) ?_
          obtain ⟨Ao110, co110, eo110⟩ := Kd.R_slice HO190.out
          subst eo110
          obtain ⟨Ao111, co111, eo111⟩ := Kd.N_slice HO215.out
          subst eo111
          have hnb112 := NB113_112.out
          have hnc112 := NB112_113.out
          have hcz113_0 : w109.cell? ⟨g3, 0, none⟩ = some (.int .i64 0) := (blk_cell BK113.out 0).trans rfl
          have hcz113_1 : w109.cell? ⟨g3, 1, none⟩ = some (.int .i64 0) := (blk_cell BK113.out 1).trans rfl
          have hcz113_2 : w109.cell? ⟨g3, 2, none⟩ = some (.int .i64 0) := (blk_cell BK113.out 2).trans rfl
          have hcz113_3 : w109.cell? ⟨g3, 3, none⟩ = some (.string (⟨#[]⟩ : ByteArray)) := (blk_cell BK113.out 3).trans rfl
          have hcz113_4 : w109.cell? ⟨g3, 4, none⟩ = some (.slice none 0 0) := (blk_cell BK113.out 4).trans rfl
          have hcz113_5 : w109.cell? ⟨g3, 5, none⟩ = some (.slice none 0 0) := (blk_cell BK113.out 5).trans rfl
          have hfz113_0 := blk_frozen BK113.out 0
          have hfz113_1 := blk_frozen BK113.out 1
          have hfz113_2 := blk_frozen BK113.out 2
          have hfz113_3 := blk_frozen BK113.out 3
          have hfz113_4 := blk_frozen BK113.out 4
          have hfz113_5 := blk_frozen BK113.out 5
          try go_wp2
          refine bodyPost_ret (results_cell_row rfl _ _ g3 27 #[.int .i64 6, .int .i64 0, .int .i64 0, .string (⟨#[]⟩ : ByteArray), .slice Ao111 y213.length co111, .slice Ao110 y188.length co110] (0, 0) _ rfl (by (with_reducible repeat (first | refine blk_drewN ?_ _ | refine blk_drew ?_ | refine blk_alloc ?_ _)); refine blk_put (cs := #[.int .i64 6, .int .i64 0, .int .i64 0, .string (⟨#[]⟩ : ByteArray), .slice Ao111 y213.length co111, .slice none 0 0]) ?_ 5 _ rfl; (with_reducible repeat (first | refine blk_drewN ?_ _ | refine blk_drew ?_ | refine blk_alloc ?_ _)); refine blk_put (cs := #[.int .i64 6, .int .i64 0, .int .i64 0, .string (⟨#[]⟩ : ByteArray), .slice none 0 0, .slice none 0 0]) ?_ 4 _ rfl; (with_reducible repeat (first | refine blk_drewN ?_ _ | refine blk_drew ?_ | refine blk_alloc ?_ _)); refine blk_put (cs := #[.int .i64 6, .int .i64 0, .int .i64 0, .string (⟨#[]⟩ : ByteArray), .slice none 0 0, .slice none 0 0]) ?_ 3 _ rfl; (with_reducible repeat (first | refine blk_drewN ?_ _ | refine blk_drew ?_ | refine blk_alloc ?_ _)); refine blk_put (cs := #[.int .i64 6, .int .i64 0, .int .i64 0, .string (⟨#[]⟩ : ByteArray), .slice none 0 0, .slice none 0 0]) ?_ 2 _ rfl; (with_reducible repeat (first | refine blk_drewN ?_ _ | refine blk_drew ?_ | refine blk_alloc ?_ _)); refine blk_put (cs := #[.int .i64 6, .int .i64 0, .int .i64 0, .string (⟨#[]⟩ : ByteArray), .slice none 0 0, .slice none 0 0]) ?_ 1 _ rfl; (with_reducible repeat (first | refine blk_drewN ?_ _ | refine blk_drew ?_ | refine blk_alloc ?_ _)); refine blk_put (cs := #[.int .i64 0, .int .i64 0, .int .i64 0, .string (⟨#[]⟩ : ByteArray), .slice none 0 0, .slice none 0 0]) ?_ 0 _ rfl; (with_reducible repeat (first | refine blk_drewN ?_ _ | refine blk_drew ?_ | refine blk_alloc ?_ _)); exact BK113.out) Try.underlying27 rfl (by kernel_rfl)) rfl ?_
          exact ⟨_, _, by first | rfl | (simp [errW_none, errW_some] <;> rfl) | (simp [*, errW_none, errW_some] <;> rfl), Kd.N_V (by (with_reducible repeat (first | apply Kd.N_alloc | apply Kd.N_drewN | apply Kd.N_drew)); exact Kd.N_mono (Kd.N_far (p := ⟨g3, 5, none⟩) (Kd.N_far (p := ⟨g3, 4, none⟩) (Kd.N_far (p := ⟨g3, 3, none⟩) (Kd.N_far (p := ⟨g3, 2, none⟩) (Kd.N_far (p := ⟨g3, 1, none⟩) (Kd.N_far (p := ⟨g3, 0, none⟩) (Kd.N_mono HO215.out (fun q hk => (⟨hk, hk.2.2.2.2.2⟩ : _ ∧ q ≠ g3))) (fun _ hk => hk.2) (.int .i64 6)) (fun _ hk => hk.2) (.int .i64 0)) (fun _ hk => hk.2) (.int .i64 0)) (fun _ hk => hk.2) (.string (⟨#[]⟩ : ByteArray))) (fun _ hk => hk.2) (.slice Ao111 y213.length co111)) (fun _ hk => hk.2) (.slice Ao110 y188.length co110)) (fun _ hk => hk.1.1)), Kd.V_mono (Kd.R_V (by (with_reducible repeat (first | apply Kd.R_alloc | apply Kd.R_drewN | apply Kd.R_drew)); exact Kd.R_mono (Kd.R_far (p := ⟨g3, 5, none⟩) (Kd.R_far (p := ⟨g3, 4, none⟩) (Kd.R_far (p := ⟨g3, 3, none⟩) (Kd.R_far (p := ⟨g3, 2, none⟩) (Kd.R_far (p := ⟨g3, 1, none⟩) (Kd.R_far (p := ⟨g3, 0, none⟩) (Kd.R_types HO190.out BK113.out (by decide)) (fun _ hk => hk.2) (.int .i64 6)) (fun _ hk => hk.2) (.int .i64 0)) (fun _ hk => hk.2) (.int .i64 0)) (fun _ hk => hk.2) (.string (⟨#[]⟩ : ByteArray))) (fun _ hk => hk.2) (.slice Ao111 y213.length co111)) (fun _ hk => hk.2) (.slice Ao110 y188.length co110)) (fun _ hk => hk.1.1))) (fun q hk => by first | exact ⟨(.inr (hk.1)), hk.2⟩ | exact (.inr (hk))), by repeat (first | (with_reducible first | exact HB.out | apply below_alloc | apply pw_below_drewN | apply below_drew1 | refine below_set ?_ GE111.out | refine below_set ?_ GE112.out | refine below_set ?_ GE113.out) | exact HB.out)⟩

end Go.Proofs.Ytjkdheebgmnpmaa.X
