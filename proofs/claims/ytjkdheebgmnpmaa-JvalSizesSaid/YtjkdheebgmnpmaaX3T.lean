-- Written for this claim by a program of the session, out of the translation's print. Lean checks it.
import Derived.Test.YtjkdheebgmnpmaaX0
import Derived.Test.YtjkdheebgmnpmaaX2
import Derived.Test.YtjkdheebgmnpmaaX3D
namespace Go.Proofs.Ytjkdheebgmnpmaa.X
open Go.RowKit Go.Proofs.YtjkdheebgmnpmaaY Go.Proofs.YtjkdheebgmnpmaaW.PrintWords Go.Proofs.YtjkdheebgmnpmaaW.PrintLast Go.Proofs.YtjkdheebgmnpmaaW.PrintMore
attribute [local go_sem] max2_int min2_int max_two min_two max_three min_three max_four min_four   -- for this text's walks alone
set_option linter.unusedVariables false
set_option linter.unusedSimpArgs false

set_option maxHeartbeats 8000000 in
set_option maxRecDepth 100000 in
theorem jval_Put.callsT (k : Nat) (a0_0 : Int) (a0_1 : Int) (a0_2 : Int) (a0_3 : ByteArray) (P4 : Nat → Prop) (A0_4 : Option Addr) (c0_4 : Nat) (l0_4 : List (S27)) (P5 : Nat → Prop) (A0_5 : Option Addr) (c0_5 : Nat) (l0_5 : List ByteArray) (a1 : ByteArray) (a2_0 : Int) (a2_1 : Int) (a2_2 : Int) (a2_3 : ByteArray) (Q4 : Nat → Prop) (A2_4 : Option Addr) (c2_4 : Nat) (l2_4 : List (S27)) (Q5 : Nat → Prop) (A2_5 : Option Addr) (c2_5 : Nat) (l2_5 : List ByteArray) (r1 : Int) (r2 : Int) (r3 : Int) (r4 : ByteArray) (r5 : List (S27)) (r6 : List ByteArray) (w : World) (hs0_4 : Kd.V k27 27 w w.heap.size (fun q => P4 q) (.slice A0_4 l0_4.length c0_4) l0_4) (hs0_5 : Kd.V Kd.string 9 w w.heap.size (fun q => P5 q) (.slice A0_5 l0_5.length c0_5) l0_5) (hs2_4 : Kd.V k27 27 w w.heap.size (fun q => Q4 q) (.slice A2_4 l2_4.length c2_4) l2_4) (hs2_5 : Kd.V Kd.string 9 w w.heap.size (fun q => Q5 q) (.slice A2_5 l2_5.length c2_5) l2_5) (h : jval_Put.f k a0_0 a0_1 a0_2 a0_3 l0_4 l0_5 a1 a2_0 a2_1 a2_2 a2_3 l2_4 l2_5 = some (r1, r2, r3, r4, r5, r6)) (hx_ : ∀ q i_, jval_place.f q l0_5 a1 ≠ some (i_, false)) :
    Calls Try.prog 11 #[.agg #[.int .i64 a0_0, .int .i64 a0_1, .int .i64 a0_2, .string a0_3, .slice A0_4 l0_4.length c0_4, .slice A0_5 l0_5.length c0_5], .string a1, .agg #[.int .i64 a2_0, .int .i64 a2_1, .int .i64 a2_2, .string a2_3, .slice A2_4 l2_4.length c2_4, .slice A2_5 l2_5.length c2_5]] w fun e w' => ∃ v4_ v5_ : Value, e = .returned (.agg #[.int .i64 r1, .int .i64 r2, .int .i64 r3, .string r4, v4_, v5_]) ∧ Kd.V k27 27 w' w.heap.size (fun q => ((P4 q ∨ P5 q ∨ Q4 q ∨ Q5 q) ∨ w.heap.size ≤ q)) v4_ r5 ∧ Kd.V Kd.string 9 w' w.heap.size (fun q => ((P4 q ∨ P5 q ∨ Q4 q ∨ Q5 q) ∨ w.heap.size ≤ q)) v5_ r6 ∧ Below w.heap.size w w' := by
  have hu27 := Try.underlying27
  have HO0_4 := Aside0.mk (show Kd.V k27 27 w w.heap.size (fun q => ((P4 q ∨ P5 q ∨ Q4 q ∨ Q5 q) ∨ w.heap.size ≤ q)) (.slice A0_4 l0_4.length c0_4) l0_4 from Kd.V_mono hs0_4 (fun q hk => .inl (.inl hk)))
  have HO0_5 := Aside0.mk (show Kd.V Kd.string 9 w w.heap.size (fun q => ((P4 q ∨ P5 q ∨ Q4 q ∨ Q5 q) ∨ w.heap.size ≤ q)) (.slice A0_5 l0_5.length c0_5) l0_5 from Kd.V_mono hs0_5 (fun q hk => .inl (.inr (.inl hk))))
  have HO2_4 := Aside0.mk (show Kd.V k27 27 w w.heap.size (fun q => ((P4 q ∨ P5 q ∨ Q4 q ∨ Q5 q) ∨ w.heap.size ≤ q)) (.slice A2_4 l2_4.length c2_4) l2_4 from Kd.V_mono hs2_4 (fun q hk => .inl (.inr (.inr (.inl hk)))))
  have HO2_5 := Aside0.mk (show Kd.V Kd.string 9 w w.heap.size (fun q => ((P4 q ∨ P5 q ∨ Q4 q ∨ Q5 q) ∨ w.heap.size ≤ q)) (.slice A2_5 l2_5.length c2_5) l2_5 from Kd.V_mono hs2_5 (fun q hk => .inl (.inr (.inr (.inr hk)))))
  have HB := Aside0.mk (Below.refl w.heap.size w)
  have H : (if a0_0 = 6 then (jval_Put.j0 k a1 ((l0_5.length : Int) != (l0_4.length : Int)) a0_0 a0_1 a0_2 a0_3 l0_4 l0_5 a2_0 a2_1 a2_2 a2_3 l2_4 l2_5) else (jval_Put.j0 k a1 true a0_0 a0_1 a0_2 a0_3 l0_4 l0_5 a2_0 a2_1 a2_2 a2_3 l2_4 l2_5)) = some (r1, r2, r3, r4, r5, r6) := h
  clear h
  have HC4 := Aside0.mk H
  clear H
  go_enter Try.func11, Try.ntmps11
  go_upto_region 1 with (first | ((with_reducible refine gate_dst (N := 3) rfl ?_); (try (refine gate_guard (by rfl) ?_; dsimp only)); refine box_event ?hg (N := 3) ?hd (cs := #[.int .i64 a0_0, .int .i64 a0_1, .int .i64 a0_2, .string a0_3, .slice A0_4 l0_4.length c0_4, .slice A0_5 l0_5.length c0_5]) (t := 27) ?hr ?_; (case hd => rfl); (case hg => rfl); (case hr => first | (go_simp; done) | (go_simp; rfl)); intro g1 hg w5 hbox hb; have n0_ := Aside0.mk (Kd.V_below (Kd.V_elderB (by (with_reducible repeat (first | apply Kd.V_alloc | apply Kd.V_drewN | apply Kd.V_drew)); exact HO0_4.out) g1 (Nat.le_of_eq hg.symm)) hb); have n1_ := Aside0.mk (Kd.V_below (Kd.V_elderB (by (with_reducible repeat (first | apply Kd.V_alloc | apply Kd.V_drewN | apply Kd.V_drew)); exact HO0_5.out) g1 (Nat.le_of_eq hg.symm)) hb); have n2_ := Aside0.mk (Kd.V_below (Kd.V_elderB (by (with_reducible repeat (first | apply Kd.V_alloc | apply Kd.V_drewN | apply Kd.V_drew)); exact HO2_4.out) g1 (Nat.le_of_eq hg.symm)) hb); have n3_ := Aside0.mk (Kd.V_below (Kd.V_elderB (by (with_reducible repeat (first | apply Kd.V_alloc | apply Kd.V_drewN | apply Kd.V_drew)); exact HO2_5.out) g1 (Nat.le_of_eq hg.symm)) hb); have n4_ := Aside0.mk (below_step (by repeat (first | (with_reducible first | exact HB.out | apply below_alloc | apply pw_below_drewN | apply below_drew1) | exact HB.out)) hb); have n5_ := Aside0.mk (hbox); have n6_ := Aside0.mk ((by rw [hg]; exact (below_size (by repeat (first | (with_reducible first | exact HB.out | apply below_alloc | apply pw_below_drewN | apply below_drew1) | exact HB.out))) : w.heap.size ≤ g1)); have n7_ := Aside0.mk ((by rw [hg]; exact (below_size (by repeat (first | (with_reducible first | exact HB.out | apply below_alloc | apply pw_below_drewN | apply below_drew1) | exact HB.out))) : w.heap.size ≤ g1)); clear HO0_4; clear HO0_5; clear HO2_4; clear HO2_5; clear HB; have HO0_4 := n0_; have HO0_5 := n1_; have HO2_4 := n2_; have HO2_5 := n3_; have HB := n4_; have BK111 := n5_; have GW111 := n6_; have GE111 := n7_; clear n0_ n1_ n2_ n3_ n4_ n5_ n6_ n7_; clear hb hbox hg) | ((with_reducible refine gate_dst (N := 5) rfl ?_); (try (refine gate_guard (by rfl) ?_; dsimp only)); refine box_event ?hg (N := 5) ?hd (cs := #[.int .i64 a2_0, .int .i64 a2_1, .int .i64 a2_2, .string a2_3, .slice A2_4 l2_4.length c2_4, .slice A2_5 l2_5.length c2_5]) (t := 27) ?hr ?_; (case hd => rfl); (case hg => rfl); (case hr => first | (go_simp; done) | (go_simp; rfl)); intro g2 hg w6 hbox hb; have n0_ := Aside0.mk (Kd.V_below (Kd.V_elderB (by (with_reducible repeat (first | apply Kd.V_alloc | apply Kd.V_drewN | apply Kd.V_drew)); exact HO0_4.out) g2 (Nat.le_of_eq hg.symm)) hb); have n1_ := Aside0.mk (Kd.V_below (Kd.V_elderB (by (with_reducible repeat (first | apply Kd.V_alloc | apply Kd.V_drewN | apply Kd.V_drew)); exact HO0_5.out) g2 (Nat.le_of_eq hg.symm)) hb); have n2_ := Aside0.mk (Kd.V_below (Kd.V_elderB (by (with_reducible repeat (first | apply Kd.V_alloc | apply Kd.V_drewN | apply Kd.V_drew)); exact HO2_4.out) g2 (Nat.le_of_eq hg.symm)) hb); have n3_ := Aside0.mk (Kd.V_below (Kd.V_elderB (by (with_reducible repeat (first | apply Kd.V_alloc | apply Kd.V_drewN | apply Kd.V_drew)); exact HO2_5.out) g2 (Nat.le_of_eq hg.symm)) hb); have n4_ := Aside0.mk (blk_below (g := g1) (o := .cells #[.int .i64 a0_0, .int .i64 a0_1, .int .i64 a0_2, .string a0_3, .slice A0_4 l0_4.length c0_4, .slice A0_5 l0_5.length c0_5] 27 (0, 0)) (by (with_reducible repeat (first | refine blk_drewN ?_ _ | refine blk_drew ?_ | refine blk_alloc ?_ _)); exact BK111.out) hb); have n5_ := Aside0.mk (below_step (by repeat (first | (with_reducible first | exact HB.out | apply below_alloc | apply pw_below_drewN | apply below_drew1 | refine below_set ?_ GE111.out) | exact HB.out)) hb); have n6_ := Aside0.mk (hbox); have n7_ := Aside0.mk ((by rw [hg]; exact (below_size (by repeat (first | (with_reducible first | exact HB.out | apply below_alloc | apply pw_below_drewN | apply below_drew1 | refine below_set ?_ GE111.out) | exact HB.out))) : w.heap.size ≤ g2)); have n8_ := Aside0.mk ((by rw [hg]; exact (below_size (by repeat (first | (with_reducible first | exact HB.out | apply below_alloc | apply pw_below_drewN | apply below_drew1 | refine below_set ?_ GE111.out) | exact HB.out))) : w.heap.size ≤ g2)); have n9_ := Aside0.mk ((by rw [hg]; exact Nat.ne_of_lt (blk_lt (g := g1) (o := .cells #[.int .i64 a0_0, .int .i64 a0_1, .int .i64 a0_2, .string a0_3, .slice A0_4 l0_4.length c0_4, .slice A0_5 l0_5.length c0_5] 27 (0, 0)) (by (with_reducible repeat (first | refine blk_drewN ?_ _ | refine blk_drew ?_ | refine blk_alloc ?_ _)); exact BK111.out)) : g1 ≠ g2)); have n10_ := Aside0.mk ((by rw [hg]; exact Nat.ne_of_gt (blk_lt (g := g1) (o := .cells #[.int .i64 a0_0, .int .i64 a0_1, .int .i64 a0_2, .string a0_3, .slice A0_4 l0_4.length c0_4, .slice A0_5 l0_5.length c0_5] 27 (0, 0)) (by (with_reducible repeat (first | refine blk_drewN ?_ _ | refine blk_drew ?_ | refine blk_alloc ?_ _)); exact BK111.out)) : g2 ≠ g1)); clear HO0_4; clear HO0_5; clear HO2_4; clear HO2_5; clear BK111; clear HB; have HO0_4 := n0_; have HO0_5 := n1_; have HO2_4 := n2_; have HO2_5 := n3_; have BK111 := n4_; have HB := n5_; have BK112 := n6_; have GW112 := n7_; have GE112 := n8_; have NB111_112 := n9_; have NB112_111 := n10_; clear n0_ n1_ n2_ n3_ n4_ n5_ n6_ n7_ n8_ n9_ n10_; clear hb hbox hg) | ((with_reducible refine gate_dst (N := 6) rfl ?_); (try (refine gate_guard (by rfl) ?_; dsimp only)); refine box_event ?hg (N := 6) ?hd (cs := #[.int .i64 0, .int .i64 0, .int .i64 0, .string (⟨#[]⟩ : ByteArray), .slice none 0 0, .slice none 0 0]) (t := 27) ?hr ?_; (case hd => rfl); (case hg => rfl); (case hr => first | (go_simp; done) | (go_simp; rfl)); intro g3 hg w7 hbox hb; have n0_ := Aside0.mk (Kd.V_below (Kd.V_elderB (by (with_reducible repeat (first | apply Kd.V_alloc | apply Kd.V_drewN | apply Kd.V_drew)); exact HO0_4.out) g3 (Nat.le_of_eq hg.symm)) hb); have n1_ := Aside0.mk (Kd.V_below (Kd.V_elderB (by (with_reducible repeat (first | apply Kd.V_alloc | apply Kd.V_drewN | apply Kd.V_drew)); exact HO0_5.out) g3 (Nat.le_of_eq hg.symm)) hb); have n2_ := Aside0.mk (Kd.V_below (Kd.V_elderB (by (with_reducible repeat (first | apply Kd.V_alloc | apply Kd.V_drewN | apply Kd.V_drew)); exact HO2_4.out) g3 (Nat.le_of_eq hg.symm)) hb); have n3_ := Aside0.mk (Kd.V_below (Kd.V_elderB (by (with_reducible repeat (first | apply Kd.V_alloc | apply Kd.V_drewN | apply Kd.V_drew)); exact HO2_5.out) g3 (Nat.le_of_eq hg.symm)) hb); have n4_ := Aside0.mk (blk_below (g := g1) (o := .cells #[.int .i64 a0_0, .int .i64 a0_1, .int .i64 a0_2, .string a0_3, .slice A0_4 l0_4.length c0_4, .slice A0_5 l0_5.length c0_5] 27 (0, 0)) (by (with_reducible repeat (first | refine blk_drewN ?_ _ | refine blk_drew ?_ | refine blk_alloc ?_ _)); exact BK111.out) hb); have n5_ := Aside0.mk (blk_below (g := g2) (o := .cells #[.int .i64 a2_0, .int .i64 a2_1, .int .i64 a2_2, .string a2_3, .slice A2_4 l2_4.length c2_4, .slice A2_5 l2_5.length c2_5] 27 (0, 0)) (by (with_reducible repeat (first | refine blk_drewN ?_ _ | refine blk_drew ?_ | refine blk_alloc ?_ _)); exact BK112.out) hb); have n6_ := Aside0.mk (below_step (by repeat (first | (with_reducible first | exact HB.out | apply below_alloc | apply pw_below_drewN | apply below_drew1 | refine below_set ?_ GE111.out | refine below_set ?_ GE112.out) | exact HB.out)) hb); have n7_ := Aside0.mk (hbox); have n8_ := Aside0.mk ((by rw [hg]; exact (below_size (by repeat (first | (with_reducible first | exact HB.out | apply below_alloc | apply pw_below_drewN | apply below_drew1 | refine below_set ?_ GE111.out | refine below_set ?_ GE112.out) | exact HB.out))) : w.heap.size ≤ g3)); have n9_ := Aside0.mk ((by rw [hg]; exact (below_size (by repeat (first | (with_reducible first | exact HB.out | apply below_alloc | apply pw_below_drewN | apply below_drew1 | refine below_set ?_ GE111.out | refine below_set ?_ GE112.out) | exact HB.out))) : w.heap.size ≤ g3)); have n10_ := Aside0.mk ((by rw [hg]; exact Nat.ne_of_lt (blk_lt (g := g1) (o := .cells #[.int .i64 a0_0, .int .i64 a0_1, .int .i64 a0_2, .string a0_3, .slice A0_4 l0_4.length c0_4, .slice A0_5 l0_5.length c0_5] 27 (0, 0)) (by (with_reducible repeat (first | refine blk_drewN ?_ _ | refine blk_drew ?_ | refine blk_alloc ?_ _)); exact BK111.out)) : g1 ≠ g3)); have n11_ := Aside0.mk ((by rw [hg]; exact Nat.ne_of_gt (blk_lt (g := g1) (o := .cells #[.int .i64 a0_0, .int .i64 a0_1, .int .i64 a0_2, .string a0_3, .slice A0_4 l0_4.length c0_4, .slice A0_5 l0_5.length c0_5] 27 (0, 0)) (by (with_reducible repeat (first | refine blk_drewN ?_ _ | refine blk_drew ?_ | refine blk_alloc ?_ _)); exact BK111.out)) : g3 ≠ g1)); have n12_ := Aside0.mk ((by rw [hg]; exact Nat.ne_of_lt (blk_lt (g := g2) (o := .cells #[.int .i64 a2_0, .int .i64 a2_1, .int .i64 a2_2, .string a2_3, .slice A2_4 l2_4.length c2_4, .slice A2_5 l2_5.length c2_5] 27 (0, 0)) (by (with_reducible repeat (first | refine blk_drewN ?_ _ | refine blk_drew ?_ | refine blk_alloc ?_ _)); exact BK112.out)) : g2 ≠ g3)); have n13_ := Aside0.mk ((by rw [hg]; exact Nat.ne_of_gt (blk_lt (g := g2) (o := .cells #[.int .i64 a2_0, .int .i64 a2_1, .int .i64 a2_2, .string a2_3, .slice A2_4 l2_4.length c2_4, .slice A2_5 l2_5.length c2_5] 27 (0, 0)) (by (with_reducible repeat (first | refine blk_drewN ?_ _ | refine blk_drew ?_ | refine blk_alloc ?_ _)); exact BK112.out)) : g3 ≠ g2)); clear HO0_4; clear HO0_5; clear HO2_4; clear HO2_5; clear BK111; clear BK112; clear HB; have HO0_4 := n0_; have HO0_5 := n1_; have HO2_4 := n2_; have HO2_5 := n3_; have BK111 := n4_; have BK112 := n5_; have HB := n6_; have BK113 := n7_; have GW113 := n8_; have GE113 := n9_; have NB111_113 := n10_; have NB113_111 := n11_; have NB112_113 := n12_; have NB113_112 := n13_; clear n0_ n1_ n2_ n3_ n4_ n5_ n6_ n7_ n8_ n9_ n10_ n11_ n12_ n13_; clear hb hbox hg))
  (try simp only [Act.put, List.setIfInBounds_toArray, List.set_cons_zero, List.set_cons_succ])
  go_cut [23] (fun v23 wc => ∃ (kq : Nat) (x23_3 : Bool), v23 = .bool x23_3 ∧ Aside0 (jval_Put.j0 kq a1 x23_3 a0_0 a0_1 a0_2 a0_3 l0_4 l0_5 a2_0 a2_1 a2_2 a2_3 l2_4 l2_5 = some (r1, r2, r3, r4, r5, r6)) ∧ Aside0 (kq ≤ k) ∧ Aside0 (Kd.V k27 27 wc w.heap.size (fun q => ((P4 q ∨ P5 q ∨ Q4 q ∨ Q5 q) ∨ w.heap.size ≤ q) ∧ q ≠ g1 ∧ q ≠ g2 ∧ q ≠ g3) (.slice A0_4 l0_4.length c0_4) l0_4) ∧ Aside0 (Kd.V Kd.string 9 wc w.heap.size (fun q => ((P4 q ∨ P5 q ∨ Q4 q ∨ Q5 q) ∨ w.heap.size ≤ q) ∧ q ≠ g1 ∧ q ≠ g2 ∧ q ≠ g3) (.slice A0_5 l0_5.length c0_5) l0_5) ∧ Aside0 (Kd.V k27 27 wc w.heap.size (fun q => ((P4 q ∨ P5 q ∨ Q4 q ∨ Q5 q) ∨ w.heap.size ≤ q) ∧ q ≠ g1 ∧ q ≠ g2 ∧ q ≠ g3) (.slice A2_4 l2_4.length c2_4) l2_4) ∧ Aside0 (Kd.V Kd.string 9 wc w.heap.size (fun q => ((P4 q ∨ P5 q ∨ Q4 q ∨ Q5 q) ∨ w.heap.size ≤ q) ∧ q ≠ g1 ∧ q ≠ g2 ∧ q ≠ g3) (.slice A2_5 l2_5.length c2_5) l2_5) ∧ Aside0 (wc.heap[g1]? = some (.cells #[.int .i64 a0_0, .int .i64 a0_1, .int .i64 a0_2, .string a0_3, (.slice A0_4 l0_4.length c0_4), (.slice A0_5 l0_5.length c0_5)] 27 (0, 0))) ∧ Aside0 (wc.heap[g2]? = some (.cells #[.int .i64 a2_0, .int .i64 a2_1, .int .i64 a2_2, .string a2_3, (.slice A2_4 l2_4.length c2_4), (.slice A2_5 l2_5.length c2_5)] 27 (0, 0))) ∧ Aside0 (wc.heap[g3]? = some (.cells #[.int .i64 0, .int .i64 0, .int .i64 0, .string (⟨#[]⟩ : ByteArray), (.slice none 0 0), (.slice none 0 0)] 27 (0, 0))) ∧ Aside0 (Below w.heap.size w wc))
  case first =>
    have H := HC4.out
    clear HC4
    by_cases c8 : a0_0 = 6
    · rw [if_pos c8] at H
      have c8b0 : (a0_0 == 6) = true := beq_iff_eq.mpr c8
      have c8b1 : (a0_0 != 6) = false := bne_eq_false_iff_eq.mpr c8
      clear c8
      (first | rw [c8b0] | (simp only [i64_w, i32_w]; rw [c8b0]) | skip)
      have H' := Aside0.mk H
      clear H
      have hnb9 := NB111_112.out
      have hnc9 := NB112_111.out
      have hnb10 := NB111_113.out
      have hnc10 := NB113_111.out
      have hcz11_0 : w7.cell? ⟨g1, 0, none⟩ = some (.int .i64 a0_0) := (blk_cell BK111.out 0).trans rfl
      have hcz11_1 : w7.cell? ⟨g1, 1, none⟩ = some (.int .i64 a0_1) := (blk_cell BK111.out 1).trans rfl
      have hcz11_2 : w7.cell? ⟨g1, 2, none⟩ = some (.int .i64 a0_2) := (blk_cell BK111.out 2).trans rfl
      have hcz11_3 : w7.cell? ⟨g1, 3, none⟩ = some (.string a0_3) := (blk_cell BK111.out 3).trans rfl
      have hcz11_4 : w7.cell? ⟨g1, 4, none⟩ = some (.slice A0_4 l0_4.length c0_4) := (blk_cell BK111.out 4).trans rfl
      have hcz11_5 : w7.cell? ⟨g1, 5, none⟩ = some (.slice A0_5 l0_5.length c0_5) := (blk_cell BK111.out 5).trans rfl
      have hfz11_0 := blk_frozen BK111.out 0
      have hfz11_1 := blk_frozen BK111.out 1
      have hfz11_2 := blk_frozen BK111.out 2
      have hfz11_3 := blk_frozen BK111.out 3
      have hfz11_4 := blk_frozen BK111.out 4
      have hfz11_5 := blk_frozen BK111.out 5
      go_wp2
      go_meet
      case rel => exact ⟨_, (((l0_5.length : Int) != (l0_4.length : Int))), (by first | rfl | (simp; done) | (simp [*]; done)), H', ⟨by first | omega | exact Nat.le_refl _⟩, ⟨by (with_reducible repeat (first | apply Kd.V_alloc | apply Kd.V_drewN | apply Kd.V_drew)); exact Kd.V_mono HO0_4.out (fun _ hk => ⟨hk.1.1.1, ⟨hk.1.1.2, ⟨hk.1.2, hk.2⟩⟩⟩)⟩, ⟨by (with_reducible repeat (first | apply Kd.V_alloc | apply Kd.V_drewN | apply Kd.V_drew)); exact Kd.V_mono HO0_5.out (fun _ hk => ⟨hk.1.1.1, ⟨hk.1.1.2, ⟨hk.1.2, hk.2⟩⟩⟩)⟩, ⟨by (with_reducible repeat (first | apply Kd.V_alloc | apply Kd.V_drewN | apply Kd.V_drew)); exact Kd.V_mono HO2_4.out (fun _ hk => ⟨hk.1.1.1, ⟨hk.1.1.2, ⟨hk.1.2, hk.2⟩⟩⟩)⟩, ⟨by (with_reducible repeat (first | apply Kd.V_alloc | apply Kd.V_drewN | apply Kd.V_drew)); exact Kd.V_mono HO2_5.out (fun _ hk => ⟨hk.1.1.1, ⟨hk.1.1.2, ⟨hk.1.2, hk.2⟩⟩⟩)⟩, ⟨by (with_reducible repeat (first | refine blk_drewN ?_ _ | refine blk_drew ?_ | refine blk_alloc ?_ _)); exact BK111.out⟩, ⟨by (with_reducible repeat (first | refine blk_drewN ?_ _ | refine blk_drew ?_ | refine blk_alloc ?_ _)); exact BK112.out⟩, ⟨by (with_reducible repeat (first | refine blk_drewN ?_ _ | refine blk_drew ?_ | refine blk_alloc ?_ _)); exact BK113.out⟩, ⟨by repeat (first | (with_reducible first | exact HB.out | apply below_alloc | apply pw_below_drewN | apply below_drew1 | refine below_set ?_ GE111.out | refine below_set ?_ GE112.out | refine below_set ?_ GE113.out) | exact HB.out)⟩⟩
    · rw [if_neg c8] at H
      have c8b0 : (a0_0 == 6) = false := beq_eq_false_iff_ne.mpr c8
      have c8b1 : (a0_0 != 6) = true := bne_iff_ne.mpr c8
      (first | rw [c8b0] | (simp only [i64_w, i32_w]; rw [c8b0]) | skip)
      have H' := Aside0.mk H
      clear H
      have hnb12 := NB111_112.out
      have hnc12 := NB112_111.out
      have hnb13 := NB111_113.out
      have hnc13 := NB113_111.out
      have hcz14_0 : w7.cell? ⟨g1, 0, none⟩ = some (.int .i64 a0_0) := (blk_cell BK111.out 0).trans rfl
      have hcz14_1 : w7.cell? ⟨g1, 1, none⟩ = some (.int .i64 a0_1) := (blk_cell BK111.out 1).trans rfl
      have hcz14_2 : w7.cell? ⟨g1, 2, none⟩ = some (.int .i64 a0_2) := (blk_cell BK111.out 2).trans rfl
      have hcz14_3 : w7.cell? ⟨g1, 3, none⟩ = some (.string a0_3) := (blk_cell BK111.out 3).trans rfl
      have hcz14_4 : w7.cell? ⟨g1, 4, none⟩ = some (.slice A0_4 l0_4.length c0_4) := (blk_cell BK111.out 4).trans rfl
      have hcz14_5 : w7.cell? ⟨g1, 5, none⟩ = some (.slice A0_5 l0_5.length c0_5) := (blk_cell BK111.out 5).trans rfl
      have hfz14_0 := blk_frozen BK111.out 0
      have hfz14_1 := blk_frozen BK111.out 1
      have hfz14_2 := blk_frozen BK111.out 2
      have hfz14_3 := blk_frozen BK111.out 3
      have hfz14_4 := blk_frozen BK111.out 4
      have hfz14_5 := blk_frozen BK111.out 5
      go_wp2
      go_meet
      case rel => exact ⟨_, (true), (by first | rfl | (simp; done) | (simp [*]; done)), H', ⟨by first | omega | exact Nat.le_refl _⟩, ⟨by (with_reducible repeat (first | apply Kd.V_alloc | apply Kd.V_drewN | apply Kd.V_drew)); exact Kd.V_mono HO0_4.out (fun _ hk => ⟨hk.1.1.1, ⟨hk.1.1.2, ⟨hk.1.2, hk.2⟩⟩⟩)⟩, ⟨by (with_reducible repeat (first | apply Kd.V_alloc | apply Kd.V_drewN | apply Kd.V_drew)); exact Kd.V_mono HO0_5.out (fun _ hk => ⟨hk.1.1.1, ⟨hk.1.1.2, ⟨hk.1.2, hk.2⟩⟩⟩)⟩, ⟨by (with_reducible repeat (first | apply Kd.V_alloc | apply Kd.V_drewN | apply Kd.V_drew)); exact Kd.V_mono HO2_4.out (fun _ hk => ⟨hk.1.1.1, ⟨hk.1.1.2, ⟨hk.1.2, hk.2⟩⟩⟩)⟩, ⟨by (with_reducible repeat (first | apply Kd.V_alloc | apply Kd.V_drewN | apply Kd.V_drew)); exact Kd.V_mono HO2_5.out (fun _ hk => ⟨hk.1.1.1, ⟨hk.1.1.2, ⟨hk.1.2, hk.2⟩⟩⟩)⟩, ⟨by (with_reducible repeat (first | refine blk_drewN ?_ _ | refine blk_drew ?_ | refine blk_alloc ?_ _)); exact BK111.out⟩, ⟨by (with_reducible repeat (first | refine blk_drewN ?_ _ | refine blk_drew ?_ | refine blk_alloc ?_ _)); exact BK112.out⟩, ⟨by (with_reducible repeat (first | refine blk_drewN ?_ _ | refine blk_drew ?_ | refine blk_alloc ?_ _)); exact BK113.out⟩, ⟨by repeat (first | (with_reducible first | exact HB.out | apply below_alloc | apply pw_below_drewN | apply below_drew1 | refine below_set ?_ GE111.out | refine below_set ?_ GE112.out | refine below_set ?_ GE113.out) | exact HB.out)⟩⟩
  case rest =>
    clear HC4
    try clear c1
    try clear c2
    try clear p2
    try clear c8
    try clear c8b0
    try clear c8b1
    try clear c9
    try clear c10
    try clear c11
    try clear c12
    try clear c13
    try clear hcz11_0
    try clear hcz11_1
    try clear hcz11_2
    try clear hcz11_3
    try clear hcz11_4
    try clear hcz11_5
    try clear hcz14_0
    try clear hcz14_1
    try clear hcz14_2
    try clear hcz14_3
    try clear hcz14_4
    try clear hcz14_5
    try clear hfz11_0
    try clear hfz11_1
    try clear hfz11_2
    try clear hfz11_3
    try clear hfz11_4
    try clear hfz11_5
    try clear hfz14_0
    try clear hfz14_1
    try clear hfz14_2
    try clear hfz14_3
    try clear hfz14_4
    try clear hfz14_5
    obtain ⟨kq, x23_3, rfl, HA, HJ3, U4, U5, U6, U7, BK111, BK112, BK113, HB⟩ := hcut
    cases kq with
    | zero => exact absurd HA.out (by simp [jval_Put.j0])
    | succ kj3 =>
      have H := HA.out
      clear HA
      simp only [jval_Put.j0] at H
      by_cases c15 : x23_3 = true
      · subst c15
        have H1 : (some (a0_0, a0_1, a0_2, a0_3, l0_4, l0_5)) = some (r1, r2, r3, r4, r5, r6) := by rw [if_pos rfl] at H; exact H
        clear H
        have H := H1
        clear H1
        simp only [Option.some.injEq, Prod.mk.injEq] at H
        obtain ⟨rfl, rfl, rfl, rfl, rfl, rfl⟩ := H
        have hnb16 := NB111_112.out
        have hnc16 := NB112_111.out
        have hnb17 := NB111_113.out
        have hnc17 := NB113_111.out
        have hcz18_0 : wc.cell? ⟨g1, 0, none⟩ = some (.int .i64 a0_0) := (blk_cell BK111.out 0).trans rfl
        have hcz18_1 : wc.cell? ⟨g1, 1, none⟩ = some (.int .i64 a0_1) := (blk_cell BK111.out 1).trans rfl
        have hcz18_2 : wc.cell? ⟨g1, 2, none⟩ = some (.int .i64 a0_2) := (blk_cell BK111.out 2).trans rfl
        have hcz18_3 : wc.cell? ⟨g1, 3, none⟩ = some (.string a0_3) := (blk_cell BK111.out 3).trans rfl
        have hcz18_4 : wc.cell? ⟨g1, 4, none⟩ = some (.slice A0_4 l0_4.length c0_4) := (blk_cell BK111.out 4).trans rfl
        have hcz18_5 : wc.cell? ⟨g1, 5, none⟩ = some (.slice A0_5 l0_5.length c0_5) := (blk_cell BK111.out 5).trans rfl
        have hfz18_0 := blk_frozen BK111.out 0
        have hfz18_1 := blk_frozen BK111.out 1
        have hfz18_2 := blk_frozen BK111.out 2
        have hfz18_3 := blk_frozen BK111.out 3
        have hfz18_4 := blk_frozen BK111.out 4
        have hfz18_5 := blk_frozen BK111.out 5
        have hnb19 := NB113_112.out
        have hnc19 := NB112_113.out
        have hcz20_0 : wc.cell? ⟨g3, 0, none⟩ = some (.int .i64 0) := (blk_cell BK113.out 0).trans rfl
        have hcz20_1 : wc.cell? ⟨g3, 1, none⟩ = some (.int .i64 0) := (blk_cell BK113.out 1).trans rfl
        have hcz20_2 : wc.cell? ⟨g3, 2, none⟩ = some (.int .i64 0) := (blk_cell BK113.out 2).trans rfl
        have hcz20_3 : wc.cell? ⟨g3, 3, none⟩ = some (.string (⟨#[]⟩ : ByteArray)) := (blk_cell BK113.out 3).trans rfl
        have hcz20_4 : wc.cell? ⟨g3, 4, none⟩ = some (.slice none 0 0) := (blk_cell BK113.out 4).trans rfl
        have hcz20_5 : wc.cell? ⟨g3, 5, none⟩ = some (.slice none 0 0) := (blk_cell BK113.out 5).trans rfl
        have hfz20_0 := blk_frozen BK113.out 0
        have hfz20_1 := blk_frozen BK113.out 1
        have hfz20_2 := blk_frozen BK113.out 2
        have hfz20_3 := blk_frozen BK113.out 3
        have hfz20_4 := blk_frozen BK113.out 4
        have hfz20_5 := blk_frozen BK113.out 5
        go_wp2
        refine bodyPost_ret (results_cell_row rfl _ _ g3 27 #[.int .i64 a0_0, .int .i64 a0_1, .int .i64 a0_2, .string a0_3, .slice A0_4 l0_4.length c0_4, .slice A0_5 l0_5.length c0_5] (0, 0) _ rfl (by (with_reducible repeat (first | refine blk_drewN ?_ _ | refine blk_drew ?_ | refine blk_alloc ?_ _)); refine blk_put (cs := #[.int .i64 a0_0, .int .i64 a0_1, .int .i64 a0_2, .string a0_3, .slice A0_4 l0_4.length c0_4, .slice none 0 0]) ?_ 5 _ rfl; (with_reducible repeat (first | refine blk_drewN ?_ _ | refine blk_drew ?_ | refine blk_alloc ?_ _)); refine blk_put (cs := #[.int .i64 a0_0, .int .i64 a0_1, .int .i64 a0_2, .string a0_3, .slice none 0 0, .slice none 0 0]) ?_ 4 _ rfl; (with_reducible repeat (first | refine blk_drewN ?_ _ | refine blk_drew ?_ | refine blk_alloc ?_ _)); refine blk_put (cs := #[.int .i64 a0_0, .int .i64 a0_1, .int .i64 a0_2, .string (⟨#[]⟩ : ByteArray), .slice none 0 0, .slice none 0 0]) ?_ 3 _ rfl; (with_reducible repeat (first | refine blk_drewN ?_ _ | refine blk_drew ?_ | refine blk_alloc ?_ _)); refine blk_put (cs := #[.int .i64 a0_0, .int .i64 a0_1, .int .i64 0, .string (⟨#[]⟩ : ByteArray), .slice none 0 0, .slice none 0 0]) ?_ 2 _ rfl; (with_reducible repeat (first | refine blk_drewN ?_ _ | refine blk_drew ?_ | refine blk_alloc ?_ _)); refine blk_put (cs := #[.int .i64 a0_0, .int .i64 0, .int .i64 0, .string (⟨#[]⟩ : ByteArray), .slice none 0 0, .slice none 0 0]) ?_ 1 _ rfl; (with_reducible repeat (first | refine blk_drewN ?_ _ | refine blk_drew ?_ | refine blk_alloc ?_ _)); refine blk_put (cs := #[.int .i64 0, .int .i64 0, .int .i64 0, .string (⟨#[]⟩ : ByteArray), .slice none 0 0, .slice none 0 0]) ?_ 0 _ rfl; (with_reducible repeat (first | refine blk_drewN ?_ _ | refine blk_drew ?_ | refine blk_alloc ?_ _)); exact BK113.out) Try.underlying27 rfl (by kernel_rfl)) rfl ?_
        exact ⟨_, _, by first | rfl | (simp [errW_none, errW_some] <;> rfl) | (simp [*, errW_none, errW_some] <;> rfl), by (with_reducible repeat (first | apply Kd.V_alloc | apply Kd.V_drewN | apply Kd.V_drew)); exact Kd.V_mono (Kd.V_far (p := ⟨g3, 5, none⟩) (Kd.V_far (p := ⟨g3, 4, none⟩) (Kd.V_far (p := ⟨g3, 3, none⟩) (Kd.V_far (p := ⟨g3, 2, none⟩) (Kd.V_far (p := ⟨g3, 1, none⟩) (Kd.V_far (p := ⟨g3, 0, none⟩) (Kd.V_mono U4.out (fun q hk => (⟨hk, hk.2.2.2⟩ : _ ∧ q ≠ g3))) (fun _ hk => hk.2) (.int .i64 a0_0)) (fun _ hk => hk.2) (.int .i64 a0_1)) (fun _ hk => hk.2) (.int .i64 a0_2)) (fun _ hk => hk.2) (.string a0_3)) (fun _ hk => hk.2) (.slice A0_4 l0_4.length c0_4)) (fun _ hk => hk.2) (.slice A0_5 l0_5.length c0_5)) (fun _ hk => hk.1.1), by (with_reducible repeat (first | apply Kd.V_alloc | apply Kd.V_drewN | apply Kd.V_drew)); exact Kd.V_mono (Kd.V_far (p := ⟨g3, 5, none⟩) (Kd.V_far (p := ⟨g3, 4, none⟩) (Kd.V_far (p := ⟨g3, 3, none⟩) (Kd.V_far (p := ⟨g3, 2, none⟩) (Kd.V_far (p := ⟨g3, 1, none⟩) (Kd.V_far (p := ⟨g3, 0, none⟩) (Kd.V_mono U5.out (fun q hk => (⟨hk, hk.2.2.2⟩ : _ ∧ q ≠ g3))) (fun _ hk => hk.2) (.int .i64 a0_0)) (fun _ hk => hk.2) (.int .i64 a0_1)) (fun _ hk => hk.2) (.int .i64 a0_2)) (fun _ hk => hk.2) (.string a0_3)) (fun _ hk => hk.2) (.slice A0_4 l0_4.length c0_4)) (fun _ hk => hk.2) (.slice A0_5 l0_5.length c0_5)) (fun _ hk => hk.1.1), by repeat (first | (with_reducible first | exact HB.out | apply below_alloc | apply pw_below_drewN | apply below_drew1 | refine below_set ?_ GE111.out | refine below_set ?_ GE112.out | refine below_set ?_ GE113.out) | exact HB.out)⟩
      · replace c15 := Bool.eq_false_iff.mpr c15
        subst c15
        have H1 : ((jval_place.f kj3 l0_5 a1).bind fun bt114 => (if bt114.2 = true then ((some (([] : List ByteArray) : List ByteArray)).bind fun y116 => (if 0 ≤ bt114.1 then (if bt114.1 ≤ (l0_5.length : Int) then ((some (l0_5.take (bt114.1 : Int).toNat : List ByteArray)).bind fun y119 => (if y116.length + y119.length < 8796093022208 then ((some (y116 ++ y119 : List ByteArray)).bind fun y124 => ((some (([a1] : List ByteArray) : List ByteArray)).bind fun y127 => (if y124.length + y127.length < 8796093022208 then ((some (y124 ++ y127 : List ByteArray)).bind fun y130 => (if 0 ≤ (wrap64 (bt114.1 + 1)) then (if (wrap64 (bt114.1 + 1)) ≤ (l0_5.length : Int) then ((some (l0_5.drop ((wrap64 (bt114.1 + 1)) : Int).toNat : List ByteArray)).bind fun y133 => (if y130.length + y133.length < 8796093022208 then ((some (([] : List (S27)) : List (S27))).bind fun y141 => (if bt114.1 ≤ (l0_4.length : Int) then ((some (l0_4.take (bt114.1 : Int).toNat : List (S27))).bind fun y144 => (if y141.length + y144.length < 1599289640401 then ((some (y141 ++ y144 : List (S27))).bind fun y149 => ((some (([(⟨a2_0, (⟨a2_1, a2_2⟩ : S23), a2_3, l2_4, l2_5⟩ : S27)] : List (S27)) : List (S27))).bind fun y152 => (if y149.length + y152.length < 1599289640401 then ((some (y149 ++ y152 : List (S27))).bind fun y155 => (if (wrap64 (bt114.1 + 1)) ≤ (l0_4.length : Int) then ((some (l0_4.drop ((wrap64 (bt114.1 + 1)) : Int).toNat : List (S27))).bind fun y158 => (if y155.length + y158.length < 1599289640401 then (some (6, 0, 0, (⟨#[]⟩ : ByteArray), (y155 ++ y158), (y130 ++ y133))) else (none))) else (none))) else (none)))) else (none))) else (none))) else (none))) else (none)) else (none))) else (none)))) else (none))) else (none)) else (none))) else ((some (([] : List ByteArray) : List ByteArray)).bind fun y166 => (if 0 ≤ bt114.1 then (if bt114.1 ≤ (l0_5.length : Int) then ((some (l0_5.take (bt114.1 : Int).toNat : List ByteArray)).bind fun y169 => (if y166.length + y169.length < 8796093022208 then ((some (y166 ++ y169 : List ByteArray)).bind fun y174 => ((some (([a1] : List ByteArray) : List ByteArray)).bind fun y177 => (if y174.length + y177.length < 8796093022208 then ((some (y174 ++ y177 : List ByteArray)).bind fun y180 => ((some (l0_5.drop (bt114.1 : Int).toNat : List ByteArray)).bind fun y183 => (if y180.length + y183.length < 8796093022208 then ((some (([] : List (S27)) : List (S27))).bind fun y191 => (if bt114.1 ≤ (l0_4.length : Int) then ((some (l0_4.take (bt114.1 : Int).toNat : List (S27))).bind fun y194 => (if y191.length + y194.length < 1599289640401 then ((some (y191 ++ y194 : List (S27))).bind fun y199 => ((some (([(⟨a2_0, (⟨a2_1, a2_2⟩ : S23), a2_3, l2_4, l2_5⟩ : S27)] : List (S27)) : List (S27))).bind fun y202 => (if y199.length + y202.length < 1599289640401 then ((some (y199 ++ y202 : List (S27))).bind fun y205 => ((some (l0_4.drop (bt114.1 : Int).toNat : List (S27))).bind fun y208 => (if y205.length + y208.length < 1599289640401 then (some (6, 0, 0, (⟨#[]⟩ : ByteArray), (y205 ++ y208), (y180 ++ y183))) else (none)))) else (none)))) else (none))) else (none))) else (none)))) else (none)))) else (none))) else (none)) else (none))))) = some (r1, r2, r3, r4, r5, r6) := by rw [if_neg (show ¬ (false = true) by decide)] at H; exact H
        clear H
        have H := H1
        clear H1
        replace H := Option.bind_eq_some_iff.mp H
        obtain ⟨⟨t114, t115⟩, A210, H⟩ := H
        replace H : (if t115 = true then ((some (([] : List ByteArray) : List ByteArray)).bind fun y116 => (if 0 ≤ t114 then (if t114 ≤ (l0_5.length : Int) then ((some (l0_5.take (t114 : Int).toNat : List ByteArray)).bind fun y119 => (if y116.length + y119.length < 8796093022208 then ((some (y116 ++ y119 : List ByteArray)).bind fun y124 => ((some (([a1] : List ByteArray) : List ByteArray)).bind fun y127 => (if y124.length + y127.length < 8796093022208 then ((some (y124 ++ y127 : List ByteArray)).bind fun y130 => (if 0 ≤ (wrap64 (t114 + 1)) then (if (wrap64 (t114 + 1)) ≤ (l0_5.length : Int) then ((some (l0_5.drop ((wrap64 (t114 + 1)) : Int).toNat : List ByteArray)).bind fun y133 => (if y130.length + y133.length < 8796093022208 then ((some (([] : List (S27)) : List (S27))).bind fun y141 => (if t114 ≤ (l0_4.length : Int) then ((some (l0_4.take (t114 : Int).toNat : List (S27))).bind fun y144 => (if y141.length + y144.length < 1599289640401 then ((some (y141 ++ y144 : List (S27))).bind fun y149 => ((some (([(⟨a2_0, (⟨a2_1, a2_2⟩ : S23), a2_3, l2_4, l2_5⟩ : S27)] : List (S27)) : List (S27))).bind fun y152 => (if y149.length + y152.length < 1599289640401 then ((some (y149 ++ y152 : List (S27))).bind fun y155 => (if (wrap64 (t114 + 1)) ≤ (l0_4.length : Int) then ((some (l0_4.drop ((wrap64 (t114 + 1)) : Int).toNat : List (S27))).bind fun y158 => (if y155.length + y158.length < 1599289640401 then (some (6, 0, 0, (⟨#[]⟩ : ByteArray), (y155 ++ y158), (y130 ++ y133))) else (none))) else (none))) else (none)))) else (none))) else (none))) else (none))) else (none)) else (none))) else (none)))) else (none))) else (none)) else (none))) else ((some (([] : List ByteArray) : List ByteArray)).bind fun y166 => (if 0 ≤ t114 then (if t114 ≤ (l0_5.length : Int) then ((some (l0_5.take (t114 : Int).toNat : List ByteArray)).bind fun y169 => (if y166.length + y169.length < 8796093022208 then ((some (y166 ++ y169 : List ByteArray)).bind fun y174 => ((some (([a1] : List ByteArray) : List ByteArray)).bind fun y177 => (if y174.length + y177.length < 8796093022208 then ((some (y174 ++ y177 : List ByteArray)).bind fun y180 => ((some (l0_5.drop (t114 : Int).toNat : List ByteArray)).bind fun y183 => (if y180.length + y183.length < 8796093022208 then ((some (([] : List (S27)) : List (S27))).bind fun y191 => (if t114 ≤ (l0_4.length : Int) then ((some (l0_4.take (t114 : Int).toNat : List (S27))).bind fun y194 => (if y191.length + y194.length < 1599289640401 then ((some (y191 ++ y194 : List (S27))).bind fun y199 => ((some (([(⟨a2_0, (⟨a2_1, a2_2⟩ : S23), a2_3, l2_4, l2_5⟩ : S27)] : List (S27)) : List (S27))).bind fun y202 => (if y199.length + y202.length < 1599289640401 then ((some (y199 ++ y202 : List (S27))).bind fun y205 => ((some (l0_4.drop (t114 : Int).toNat : List (S27))).bind fun y208 => (if y205.length + y208.length < 1599289640401 then (some (6, 0, 0, (⟨#[]⟩ : ByteArray), (y205 ++ y208), (y180 ++ y183))) else (none)))) else (none)))) else (none))) else (none))) else (none)))) else (none)))) else (none))) else (none)) else (none)))) = some (r1, r2, r3, r4, r5, r6) := H
        have A21 := Aside0.mk A210
        clear A210
        by_cases c22 : t115 = true
        case neg =>
          exact absurd A21.out (by rw [Bool.eq_false_iff.mpr c22]; exact hx_ _ _)
        subst c22
        have H1 : ((some (([] : List ByteArray) : List ByteArray)).bind fun y116 => (if 0 ≤ t114 then (if t114 ≤ (l0_5.length : Int) then ((some (l0_5.take (t114 : Int).toNat : List ByteArray)).bind fun y119 => (if y116.length + y119.length < 8796093022208 then ((some (y116 ++ y119 : List ByteArray)).bind fun y124 => ((some (([a1] : List ByteArray) : List ByteArray)).bind fun y127 => (if y124.length + y127.length < 8796093022208 then ((some (y124 ++ y127 : List ByteArray)).bind fun y130 => (if 0 ≤ (wrap64 (t114 + 1)) then (if (wrap64 (t114 + 1)) ≤ (l0_5.length : Int) then ((some (l0_5.drop ((wrap64 (t114 + 1)) : Int).toNat : List ByteArray)).bind fun y133 => (if y130.length + y133.length < 8796093022208 then ((some (([] : List (S27)) : List (S27))).bind fun y141 => (if t114 ≤ (l0_4.length : Int) then ((some (l0_4.take (t114 : Int).toNat : List (S27))).bind fun y144 => (if y141.length + y144.length < 1599289640401 then ((some (y141 ++ y144 : List (S27))).bind fun y149 => ((some (([(⟨a2_0, (⟨a2_1, a2_2⟩ : S23), a2_3, l2_4, l2_5⟩ : S27)] : List (S27)) : List (S27))).bind fun y152 => (if y149.length + y152.length < 1599289640401 then ((some (y149 ++ y152 : List (S27))).bind fun y155 => (if (wrap64 (t114 + 1)) ≤ (l0_4.length : Int) then ((some (l0_4.drop ((wrap64 (t114 + 1)) : Int).toNat : List (S27))).bind fun y158 => (if y155.length + y158.length < 1599289640401 then (some (6, 0, 0, (⟨#[]⟩ : ByteArray), (y155 ++ y158), (y130 ++ y133))) else (none))) else (none))) else (none)))) else (none))) else (none))) else (none))) else (none)) else (none))) else (none)))) else (none))) else (none)) else (none))) = some (r1, r2, r3, r4, r5, r6) := by rw [if_pos rfl] at H; exact H
        clear H
        have H := H1
        clear H1
        obtain ⟨y116, hy116⟩ : ∃ y_ : List ByteArray, y_ = (([] : List ByteArray)) := ⟨_, rfl⟩
        replace H : (if 0 ≤ t114 then (if t114 ≤ (l0_5.length : Int) then ((some (l0_5.take (t114 : Int).toNat : List ByteArray)).bind fun y119 => (if y116.length + y119.length < 8796093022208 then ((some (y116 ++ y119 : List ByteArray)).bind fun y124 => ((some (([a1] : List ByteArray) : List ByteArray)).bind fun y127 => (if y124.length + y127.length < 8796093022208 then ((some (y124 ++ y127 : List ByteArray)).bind fun y130 => (if 0 ≤ (wrap64 (t114 + 1)) then (if (wrap64 (t114 + 1)) ≤ (l0_5.length : Int) then ((some (l0_5.drop ((wrap64 (t114 + 1)) : Int).toNat : List ByteArray)).bind fun y133 => (if y130.length + y133.length < 8796093022208 then ((some (([] : List (S27)) : List (S27))).bind fun y141 => (if t114 ≤ (l0_4.length : Int) then ((some (l0_4.take (t114 : Int).toNat : List (S27))).bind fun y144 => (if y141.length + y144.length < 1599289640401 then ((some (y141 ++ y144 : List (S27))).bind fun y149 => ((some (([(⟨a2_0, (⟨a2_1, a2_2⟩ : S23), a2_3, l2_4, l2_5⟩ : S27)] : List (S27)) : List (S27))).bind fun y152 => (if y149.length + y152.length < 1599289640401 then ((some (y149 ++ y152 : List (S27))).bind fun y155 => (if (wrap64 (t114 + 1)) ≤ (l0_4.length : Int) then ((some (l0_4.drop ((wrap64 (t114 + 1)) : Int).toNat : List (S27))).bind fun y158 => (if y155.length + y158.length < 1599289640401 then (some (6, 0, 0, (⟨#[]⟩ : ByteArray), (y155 ++ y158), (y130 ++ y133))) else (none))) else (none))) else (none)))) else (none))) else (none))) else (none))) else (none)) else (none))) else (none)))) else (none))) else (none)) else (none)) = some (r1, r2, r3, r4, r5, r6) := by first | (rw [hy116]; with_reducible exact H) | (have H2_ := (Option.bind_some _ _).symm.trans H; rw [hy116]; with_reducible exact H2_) | (have H2_ := (Option.bind_some _ _).symm.trans H; with_reducible exact H2_) | with_reducible exact H | (rw [hy116]; exact H) | exact H
        have Ny116 := Aside0.mk hy116
        clear hy116
        by_cases c23 : 0 ≤ t114
        case neg =>
          rw [if_neg c23] at H
          exact absurd H (by simp)
        rw [if_pos c23] at H
        have c23b0 := eq_true c23
        have c23b1 : decide (0 ≤ t114) = true := decide_eq_true c23
        clear c23
        by_cases c24 : t114 ≤ (l0_5.length : Int)
        case neg =>
          rw [if_neg c24] at H
          exact absurd H (by simp)
        rw [if_pos c24] at H
        have c24b0 := eq_true c24
        have c24b1 : decide (t114 ≤ (l0_5.length : Int)) = true := decide_eq_true c24
        clear c24
        obtain ⟨y119, hy119⟩ : ∃ y_ : List ByteArray, y_ = (l0_5.take (t114 : Int).toNat) := ⟨_, rfl⟩
        replace H : (if y116.length + y119.length < 8796093022208 then ((some (y116 ++ y119 : List ByteArray)).bind fun y124 => ((some (([a1] : List ByteArray) : List ByteArray)).bind fun y127 => (if y124.length + y127.length < 8796093022208 then ((some (y124 ++ y127 : List ByteArray)).bind fun y130 => (if 0 ≤ (wrap64 (t114 + 1)) then (if (wrap64 (t114 + 1)) ≤ (l0_5.length : Int) then ((some (l0_5.drop ((wrap64 (t114 + 1)) : Int).toNat : List ByteArray)).bind fun y133 => (if y130.length + y133.length < 8796093022208 then ((some (([] : List (S27)) : List (S27))).bind fun y141 => (if t114 ≤ (l0_4.length : Int) then ((some (l0_4.take (t114 : Int).toNat : List (S27))).bind fun y144 => (if y141.length + y144.length < 1599289640401 then ((some (y141 ++ y144 : List (S27))).bind fun y149 => ((some (([(⟨a2_0, (⟨a2_1, a2_2⟩ : S23), a2_3, l2_4, l2_5⟩ : S27)] : List (S27)) : List (S27))).bind fun y152 => (if y149.length + y152.length < 1599289640401 then ((some (y149 ++ y152 : List (S27))).bind fun y155 => (if (wrap64 (t114 + 1)) ≤ (l0_4.length : Int) then ((some (l0_4.drop ((wrap64 (t114 + 1)) : Int).toNat : List (S27))).bind fun y158 => (if y155.length + y158.length < 1599289640401 then (some (6, 0, 0, (⟨#[]⟩ : ByteArray), (y155 ++ y158), (y130 ++ y133))) else (none))) else (none))) else (none)))) else (none))) else (none))) else (none))) else (none)) else (none))) else (none)))) else (none)) = some (r1, r2, r3, r4, r5, r6) := by first | (rw [hy119]; with_reducible exact H) | (have H2_ := (Option.bind_some _ _).symm.trans H; rw [hy119]; with_reducible exact H2_) | (have H2_ := (Option.bind_some _ _).symm.trans H; with_reducible exact H2_) | with_reducible exact H | (rw [hy119]; exact H) | exact H
        have Ny119 := Aside0.mk hy119
        clear hy119
        by_cases c25 : y116.length + y119.length < 8796093022208
        case neg =>
          rw [if_neg c25] at H
          exact absurd H (by simp)
        rw [if_pos c25] at H
        have LMc25 := Aside0.mk c25
        clear c25
        obtain ⟨y124, hy124⟩ : ∃ y_ : List ByteArray, y_ = (y116 ++ y119) := ⟨_, rfl⟩
        replace H : ((some (([a1] : List ByteArray) : List ByteArray)).bind fun y127 => (if y124.length + y127.length < 8796093022208 then ((some (y124 ++ y127 : List ByteArray)).bind fun y130 => (if 0 ≤ (wrap64 (t114 + 1)) then (if (wrap64 (t114 + 1)) ≤ (l0_5.length : Int) then ((some (l0_5.drop ((wrap64 (t114 + 1)) : Int).toNat : List ByteArray)).bind fun y133 => (if y130.length + y133.length < 8796093022208 then ((some (([] : List (S27)) : List (S27))).bind fun y141 => (if t114 ≤ (l0_4.length : Int) then ((some (l0_4.take (t114 : Int).toNat : List (S27))).bind fun y144 => (if y141.length + y144.length < 1599289640401 then ((some (y141 ++ y144 : List (S27))).bind fun y149 => ((some (([(⟨a2_0, (⟨a2_1, a2_2⟩ : S23), a2_3, l2_4, l2_5⟩ : S27)] : List (S27)) : List (S27))).bind fun y152 => (if y149.length + y152.length < 1599289640401 then ((some (y149 ++ y152 : List (S27))).bind fun y155 => (if (wrap64 (t114 + 1)) ≤ (l0_4.length : Int) then ((some (l0_4.drop ((wrap64 (t114 + 1)) : Int).toNat : List (S27))).bind fun y158 => (if y155.length + y158.length < 1599289640401 then (some (6, 0, 0, (⟨#[]⟩ : ByteArray), (y155 ++ y158), (y130 ++ y133))) else (none))) else (none))) else (none)))) else (none))) else (none))) else (none))) else (none)) else (none))) else (none))) = some (r1, r2, r3, r4, r5, r6) := by first | (rw [hy124]; with_reducible exact H) | (have H2_ := (Option.bind_some _ _).symm.trans H; rw [hy124]; with_reducible exact H2_) | (have H2_ := (Option.bind_some _ _).symm.trans H; with_reducible exact H2_) | with_reducible exact H | (rw [hy124]; exact H) | exact H
        have Ny124 := Aside0.mk hy124
        clear hy124
        obtain ⟨y127, hy127⟩ : ∃ y_ : List ByteArray, y_ = (([a1] : List ByteArray)) := ⟨_, rfl⟩
        replace H : (if y124.length + y127.length < 8796093022208 then ((some (y124 ++ y127 : List ByteArray)).bind fun y130 => (if 0 ≤ (wrap64 (t114 + 1)) then (if (wrap64 (t114 + 1)) ≤ (l0_5.length : Int) then ((some (l0_5.drop ((wrap64 (t114 + 1)) : Int).toNat : List ByteArray)).bind fun y133 => (if y130.length + y133.length < 8796093022208 then ((some (([] : List (S27)) : List (S27))).bind fun y141 => (if t114 ≤ (l0_4.length : Int) then ((some (l0_4.take (t114 : Int).toNat : List (S27))).bind fun y144 => (if y141.length + y144.length < 1599289640401 then ((some (y141 ++ y144 : List (S27))).bind fun y149 => ((some (([(⟨a2_0, (⟨a2_1, a2_2⟩ : S23), a2_3, l2_4, l2_5⟩ : S27)] : List (S27)) : List (S27))).bind fun y152 => (if y149.length + y152.length < 1599289640401 then ((some (y149 ++ y152 : List (S27))).bind fun y155 => (if (wrap64 (t114 + 1)) ≤ (l0_4.length : Int) then ((some (l0_4.drop ((wrap64 (t114 + 1)) : Int).toNat : List (S27))).bind fun y158 => (if y155.length + y158.length < 1599289640401 then (some (6, 0, 0, (⟨#[]⟩ : ByteArray), (y155 ++ y158), (y130 ++ y133))) else (none))) else (none))) else (none)))) else (none))) else (none))) else (none))) else (none)) else (none))) else (none)) = some (r1, r2, r3, r4, r5, r6) := by first | (rw [hy127]; with_reducible exact H) | (have H2_ := (Option.bind_some _ _).symm.trans H; rw [hy127]; with_reducible exact H2_) | (have H2_ := (Option.bind_some _ _).symm.trans H; with_reducible exact H2_) | with_reducible exact H | (rw [hy127]; exact H) | exact H
        have Ny127 := Aside0.mk hy127
        clear hy127
        by_cases c26 : y124.length + y127.length < 8796093022208
        case neg =>
          rw [if_neg c26] at H
          exact absurd H (by simp)
        rw [if_pos c26] at H
        have LMc26 := Aside0.mk c26
        clear c26
        obtain ⟨y130, hy130⟩ : ∃ y_ : List ByteArray, y_ = (y124 ++ y127) := ⟨_, rfl⟩
        replace H : (if 0 ≤ (wrap64 (t114 + 1)) then (if (wrap64 (t114 + 1)) ≤ (l0_5.length : Int) then ((some (l0_5.drop ((wrap64 (t114 + 1)) : Int).toNat : List ByteArray)).bind fun y133 => (if y130.length + y133.length < 8796093022208 then ((some (([] : List (S27)) : List (S27))).bind fun y141 => (if t114 ≤ (l0_4.length : Int) then ((some (l0_4.take (t114 : Int).toNat : List (S27))).bind fun y144 => (if y141.length + y144.length < 1599289640401 then ((some (y141 ++ y144 : List (S27))).bind fun y149 => ((some (([(⟨a2_0, (⟨a2_1, a2_2⟩ : S23), a2_3, l2_4, l2_5⟩ : S27)] : List (S27)) : List (S27))).bind fun y152 => (if y149.length + y152.length < 1599289640401 then ((some (y149 ++ y152 : List (S27))).bind fun y155 => (if (wrap64 (t114 + 1)) ≤ (l0_4.length : Int) then ((some (l0_4.drop ((wrap64 (t114 + 1)) : Int).toNat : List (S27))).bind fun y158 => (if y155.length + y158.length < 1599289640401 then (some (6, 0, 0, (⟨#[]⟩ : ByteArray), (y155 ++ y158), (y130 ++ y133))) else (none))) else (none))) else (none)))) else (none))) else (none))) else (none))) else (none)) else (none)) = some (r1, r2, r3, r4, r5, r6) := by first | (rw [hy130]; with_reducible exact H) | (have H2_ := (Option.bind_some _ _).symm.trans H; rw [hy130]; with_reducible exact H2_) | (have H2_ := (Option.bind_some _ _).symm.trans H; with_reducible exact H2_) | with_reducible exact H | (rw [hy130]; exact H) | exact H
        have Ny130 := Aside0.mk hy130
        clear hy130
        obtain ⟨ji27, hji27⟩ : ∃ j_ : Int, (wrap64 (t114 + 1)) = j_ := ⟨_, rfl⟩
        replace H : (if 0 ≤ (ji27) then (if (ji27) ≤ (l0_5.length : Int) then ((some (l0_5.drop ((ji27) : Int).toNat : List ByteArray)).bind fun y133 => (if y130.length + y133.length < 8796093022208 then ((some (([] : List (S27)) : List (S27))).bind fun y141 => (if t114 ≤ (l0_4.length : Int) then ((some (l0_4.take (t114 : Int).toNat : List (S27))).bind fun y144 => (if y141.length + y144.length < 1599289640401 then ((some (y141 ++ y144 : List (S27))).bind fun y149 => ((some (([(⟨a2_0, (⟨a2_1, a2_2⟩ : S23), a2_3, l2_4, l2_5⟩ : S27)] : List (S27)) : List (S27))).bind fun y152 => (if y149.length + y152.length < 1599289640401 then ((some (y149 ++ y152 : List (S27))).bind fun y155 => (if (ji27) ≤ (l0_4.length : Int) then ((some (l0_4.drop ((ji27) : Int).toNat : List (S27))).bind fun y158 => (if y155.length + y158.length < 1599289640401 then (some (6, 0, 0, (⟨#[]⟩ : ByteArray), (y155 ++ y158), (y130 ++ y133))) else (none))) else (none))) else (none)))) else (none))) else (none))) else (none))) else (none)) else (none)) = some (r1, r2, r3, r4, r5, r6) := by first | (rw [hji27] at H; exact H) | (simp only [hji27] at H ⊢; exact H)
        (try rw [hji27] at A21)
        have hji27w : (IntKind.i64.wrap (t114 + 1)) = ji27 := (i64_w _).trans hji27
        by_cases c28 : 0 ≤ (ji27)
        case neg =>
          rw [if_neg c28] at H
          exact absurd H (by simp)
        rw [if_pos c28] at H
        have c28b0 := eq_true c28
        have c28b1 : decide (0 ≤ (ji27)) = true := decide_eq_true c28
        clear c28
        by_cases c29 : (ji27) ≤ (l0_5.length : Int)
        case neg =>
          rw [if_neg c29] at H
          exact absurd H (by simp)
        rw [if_pos c29] at H
        have c29b0 := eq_true c29
        have c29b1 : decide ((ji27) ≤ (l0_5.length : Int)) = true := decide_eq_true c29
        clear c29
        obtain ⟨y133, hy133⟩ : ∃ y_ : List ByteArray, y_ = (l0_5.drop ((ji27) : Int).toNat) := ⟨_, rfl⟩
        replace H : (if y130.length + y133.length < 8796093022208 then ((some (([] : List (S27)) : List (S27))).bind fun y141 => (if t114 ≤ (l0_4.length : Int) then ((some (l0_4.take (t114 : Int).toNat : List (S27))).bind fun y144 => (if y141.length + y144.length < 1599289640401 then ((some (y141 ++ y144 : List (S27))).bind fun y149 => ((some (([(⟨a2_0, (⟨a2_1, a2_2⟩ : S23), a2_3, l2_4, l2_5⟩ : S27)] : List (S27)) : List (S27))).bind fun y152 => (if y149.length + y152.length < 1599289640401 then ((some (y149 ++ y152 : List (S27))).bind fun y155 => (if (ji27) ≤ (l0_4.length : Int) then ((some (l0_4.drop ((ji27) : Int).toNat : List (S27))).bind fun y158 => (if y155.length + y158.length < 1599289640401 then (some (6, 0, 0, (⟨#[]⟩ : ByteArray), (y155 ++ y158), (y130 ++ y133))) else (none))) else (none))) else (none)))) else (none))) else (none))) else (none)) = some (r1, r2, r3, r4, r5, r6) := by first | (rw [hy133]; with_reducible exact H) | (have H2_ := (Option.bind_some _ _).symm.trans H; rw [hy133]; with_reducible exact H2_) | (have H2_ := (Option.bind_some _ _).symm.trans H; with_reducible exact H2_) | with_reducible exact H | (rw [hy133]; exact H) | exact H
        have Ny133 := Aside0.mk hy133
        clear hy133
        by_cases c30 : y130.length + y133.length < 8796093022208
        case neg =>
          rw [if_neg c30] at H
          exact absurd H (by simp)
        rw [if_pos c30] at H
        have LMc30 := Aside0.mk c30
        clear c30
        obtain ⟨y138, hy138⟩ : ∃ y_ : List ByteArray, y_ = (y130 ++ y133) := ⟨_, rfl⟩
        replace H : ((some (([] : List (S27)) : List (S27))).bind fun y141 => (if t114 ≤ (l0_4.length : Int) then ((some (l0_4.take (t114 : Int).toNat : List (S27))).bind fun y144 => (if y141.length + y144.length < 1599289640401 then ((some (y141 ++ y144 : List (S27))).bind fun y149 => ((some (([(⟨a2_0, (⟨a2_1, a2_2⟩ : S23), a2_3, l2_4, l2_5⟩ : S27)] : List (S27)) : List (S27))).bind fun y152 => (if y149.length + y152.length < 1599289640401 then ((some (y149 ++ y152 : List (S27))).bind fun y155 => (if (ji27) ≤ (l0_4.length : Int) then ((some (l0_4.drop ((ji27) : Int).toNat : List (S27))).bind fun y158 => (if y155.length + y158.length < 1599289640401 then (some (6, 0, 0, (⟨#[]⟩ : ByteArray), (y155 ++ y158), y138)) else (none))) else (none))) else (none)))) else (none))) else (none))) = some (r1, r2, r3, r4, r5, r6) := by first | (rw [hy138]; with_reducible exact H) | (have H2_ := (Option.bind_some _ _).symm.trans H; rw [hy138]; with_reducible exact H2_) | (have H2_ := (Option.bind_some _ _).symm.trans H; with_reducible exact H2_) | with_reducible exact H | (rw [hy138]; exact H) | exact H
        have Ny138 := Aside0.mk hy138
        clear hy138
        obtain ⟨y141, hy141⟩ : ∃ y_ : List (S27), y_ = (([] : List (S27))) := ⟨_, rfl⟩
        replace H : (if t114 ≤ (l0_4.length : Int) then ((some (l0_4.take (t114 : Int).toNat : List (S27))).bind fun y144 => (if y141.length + y144.length < 1599289640401 then ((some (y141 ++ y144 : List (S27))).bind fun y149 => ((some (([(⟨a2_0, (⟨a2_1, a2_2⟩ : S23), a2_3, l2_4, l2_5⟩ : S27)] : List (S27)) : List (S27))).bind fun y152 => (if y149.length + y152.length < 1599289640401 then ((some (y149 ++ y152 : List (S27))).bind fun y155 => (if (ji27) ≤ (l0_4.length : Int) then ((some (l0_4.drop ((ji27) : Int).toNat : List (S27))).bind fun y158 => (if y155.length + y158.length < 1599289640401 then (some (6, 0, 0, (⟨#[]⟩ : ByteArray), (y155 ++ y158), y138)) else (none))) else (none))) else (none)))) else (none))) else (none)) = some (r1, r2, r3, r4, r5, r6) := by first | (rw [hy141]; with_reducible exact H) | (have H2_ := (Option.bind_some _ _).symm.trans H; rw [hy141]; with_reducible exact H2_) | (have H2_ := (Option.bind_some _ _).symm.trans H; with_reducible exact H2_) | with_reducible exact H | (rw [hy141]; exact H) | exact H
        have Ny141 := Aside0.mk hy141
        clear hy141
        have c31b0 := eq_true (of_decide_eq_true (by first | (with_reducible assumption) | assumption) : 0 ≤ t114)
        by_cases c32 : t114 ≤ (l0_4.length : Int)
        case neg =>
          rw [if_neg c32] at H
          exact absurd H (by simp)
        rw [if_pos c32] at H
        have c32b0 := eq_true c32
        have c32b1 : decide (t114 ≤ (l0_4.length : Int)) = true := decide_eq_true c32
        clear c32
        obtain ⟨y144, hy144⟩ : ∃ y_ : List (S27), y_ = (l0_4.take (t114 : Int).toNat) := ⟨_, rfl⟩
        replace H : (if y141.length + y144.length < 1599289640401 then ((some (y141 ++ y144 : List (S27))).bind fun y149 => ((some (([(⟨a2_0, (⟨a2_1, a2_2⟩ : S23), a2_3, l2_4, l2_5⟩ : S27)] : List (S27)) : List (S27))).bind fun y152 => (if y149.length + y152.length < 1599289640401 then ((some (y149 ++ y152 : List (S27))).bind fun y155 => (if (ji27) ≤ (l0_4.length : Int) then ((some (l0_4.drop ((ji27) : Int).toNat : List (S27))).bind fun y158 => (if y155.length + y158.length < 1599289640401 then (some (6, 0, 0, (⟨#[]⟩ : ByteArray), (y155 ++ y158), y138)) else (none))) else (none))) else (none)))) else (none)) = some (r1, r2, r3, r4, r5, r6) := by first | (rw [hy144]; with_reducible exact H) | (have H2_ := (Option.bind_some _ _).symm.trans H; rw [hy144]; with_reducible exact H2_) | (have H2_ := (Option.bind_some _ _).symm.trans H; with_reducible exact H2_) | with_reducible exact H | (rw [hy144]; exact H) | exact H
        have Ny144 := Aside0.mk hy144
        clear hy144
        by_cases c33 : y141.length + y144.length < 1599289640401
        case neg =>
          rw [if_neg c33] at H
          exact absurd H (by simp)
        rw [if_pos c33] at H
        have LMc33 := Aside0.mk c33
        clear c33
        obtain ⟨y149, hy149⟩ : ∃ y_ : List (S27), y_ = (y141 ++ y144) := ⟨_, rfl⟩
        replace H : ((some (([(⟨a2_0, (⟨a2_1, a2_2⟩ : S23), a2_3, l2_4, l2_5⟩ : S27)] : List (S27)) : List (S27))).bind fun y152 => (if y149.length + y152.length < 1599289640401 then ((some (y149 ++ y152 : List (S27))).bind fun y155 => (if (ji27) ≤ (l0_4.length : Int) then ((some (l0_4.drop ((ji27) : Int).toNat : List (S27))).bind fun y158 => (if y155.length + y158.length < 1599289640401 then (some (6, 0, 0, (⟨#[]⟩ : ByteArray), (y155 ++ y158), y138)) else (none))) else (none))) else (none))) = some (r1, r2, r3, r4, r5, r6) := by first | (rw [hy149]; with_reducible exact H) | (have H2_ := (Option.bind_some _ _).symm.trans H; rw [hy149]; with_reducible exact H2_) | (have H2_ := (Option.bind_some _ _).symm.trans H; with_reducible exact H2_) | with_reducible exact H | (rw [hy149]; exact H) | exact H
        have Ny149 := Aside0.mk hy149
        clear hy149
        obtain ⟨y152, hy152⟩ : ∃ y_ : List (S27), y_ = (([(⟨a2_0, (⟨a2_1, a2_2⟩ : S23), a2_3, l2_4, l2_5⟩ : S27)] : List (S27))) := ⟨_, rfl⟩
        replace H : (if y149.length + y152.length < 1599289640401 then ((some (y149 ++ y152 : List (S27))).bind fun y155 => (if (ji27) ≤ (l0_4.length : Int) then ((some (l0_4.drop ((ji27) : Int).toNat : List (S27))).bind fun y158 => (if y155.length + y158.length < 1599289640401 then (some (6, 0, 0, (⟨#[]⟩ : ByteArray), (y155 ++ y158), y138)) else (none))) else (none))) else (none)) = some (r1, r2, r3, r4, r5, r6) := by first | (rw [hy152]; with_reducible exact H) | (have H2_ := (Option.bind_some _ _).symm.trans H; rw [hy152]; with_reducible exact H2_) | (have H2_ := (Option.bind_some _ _).symm.trans H; with_reducible exact H2_) | with_reducible exact H | (rw [hy152]; exact H) | exact H
        have Ny152 := Aside0.mk hy152
        clear hy152
        by_cases c34 : y149.length + y152.length < 1599289640401
        case neg =>
          rw [if_neg c34] at H
          exact absurd H (by simp)
        rw [if_pos c34] at H
        have LMc34 := Aside0.mk c34
        clear c34
        obtain ⟨y155, hy155⟩ : ∃ y_ : List (S27), y_ = (y149 ++ y152) := ⟨_, rfl⟩
        replace H : (if (ji27) ≤ (l0_4.length : Int) then ((some (l0_4.drop ((ji27) : Int).toNat : List (S27))).bind fun y158 => (if y155.length + y158.length < 1599289640401 then (some (6, 0, 0, (⟨#[]⟩ : ByteArray), (y155 ++ y158), y138)) else (none))) else (none)) = some (r1, r2, r3, r4, r5, r6) := by first | (rw [hy155]; with_reducible exact H) | (have H2_ := (Option.bind_some _ _).symm.trans H; rw [hy155]; with_reducible exact H2_) | (have H2_ := (Option.bind_some _ _).symm.trans H; with_reducible exact H2_) | with_reducible exact H | (rw [hy155]; exact H) | exact H
        have Ny155 := Aside0.mk hy155
        clear hy155
        have c35b0 := eq_true (of_decide_eq_true (by first | (with_reducible assumption) | assumption) : 0 ≤ (ji27))
        by_cases c36 : (ji27) ≤ (l0_4.length : Int)
        case neg =>
          rw [if_neg c36] at H
          exact absurd H (by simp)
        rw [if_pos c36] at H
        have c36b0 := eq_true c36
        have c36b1 : decide ((ji27) ≤ (l0_4.length : Int)) = true := decide_eq_true c36
        clear c36
        obtain ⟨y158, hy158⟩ : ∃ y_ : List (S27), y_ = (l0_4.drop ((ji27) : Int).toNat) := ⟨_, rfl⟩
        replace H : (if y155.length + y158.length < 1599289640401 then (some (6, 0, 0, (⟨#[]⟩ : ByteArray), (y155 ++ y158), y138)) else (none)) = some (r1, r2, r3, r4, r5, r6) := by first | (rw [hy158]; with_reducible exact H) | (have H2_ := (Option.bind_some _ _).symm.trans H; rw [hy158]; with_reducible exact H2_) | (have H2_ := (Option.bind_some _ _).symm.trans H; with_reducible exact H2_) | with_reducible exact H | (rw [hy158]; exact H) | exact H
        have Ny158 := Aside0.mk hy158
        clear hy158
        by_cases c37 : y155.length + y158.length < 1599289640401
        case neg =>
          rw [if_neg c37] at H
          exact absurd H (by simp)
        rw [if_pos c37] at H
        have LMc37 := Aside0.mk c37
        clear c37
        obtain ⟨y163, hy163⟩ : ∃ y_ : List (S27), y_ = (y155 ++ y158) := ⟨_, rfl⟩
        replace H : (some (6, 0, 0, (⟨#[]⟩ : ByteArray), y163, y138)) = some (r1, r2, r3, r4, r5, r6) := by first | (rw [hy163]; with_reducible exact H) | (have H2_ := (Option.bind_some _ _).symm.trans H; rw [hy163]; with_reducible exact H2_) | (have H2_ := (Option.bind_some _ _).symm.trans H; with_reducible exact H2_) | with_reducible exact H | (rw [hy163]; exact H) | exact H
        have Ny163 := Aside0.mk hy163
        clear hy163
        simp only [Option.some.injEq, Prod.mk.injEq] at H
        obtain ⟨rfl, rfl, rfl, rfl, rfl, rfl⟩ := H
        have hnb38 := NB111_112.out
        have hnc38 := NB112_111.out
        have hnb39 := NB111_113.out
        have hnc39 := NB113_111.out
        have hcz40_0 : wc.cell? ⟨g1, 0, none⟩ = some (.int .i64 a0_0) := (blk_cell BK111.out 0).trans rfl
        have hcz40_1 : wc.cell? ⟨g1, 1, none⟩ = some (.int .i64 a0_1) := (blk_cell BK111.out 1).trans rfl
        have hcz40_2 : wc.cell? ⟨g1, 2, none⟩ = some (.int .i64 a0_2) := (blk_cell BK111.out 2).trans rfl
        have hcz40_3 : wc.cell? ⟨g1, 3, none⟩ = some (.string a0_3) := (blk_cell BK111.out 3).trans rfl
        have hcz40_4 : wc.cell? ⟨g1, 4, none⟩ = some (.slice A0_4 l0_4.length c0_4) := (blk_cell BK111.out 4).trans rfl
        have hcz40_5 : wc.cell? ⟨g1, 5, none⟩ = some (.slice A0_5 l0_5.length c0_5) := (blk_cell BK111.out 5).trans rfl
        have hfz40_0 := blk_frozen BK111.out 0
        have hfz40_1 := blk_frozen BK111.out 1
        have hfz40_2 := blk_frozen BK111.out 2
        have hfz40_3 := blk_frozen BK111.out 3
        have hfz40_4 := blk_frozen BK111.out 4
        have hfz40_5 := blk_frozen BK111.out 5
        try go_wp2_with (first | ((with_reducible refine gate_callee (f := 28) rfl ?_); refine goesL_ (some 29) rfl rfl Try.func28 (by kernel_rfl) rfl #[.slice A0_5 l0_5.length c0_5, .string a1] rfl (by (try simp only [List.map_toArray, List.map_cons, List.map_nil]); first | done | rfl | (simp only [List.length_drop, List.length_take]; rfl)) ?_; (with_reducible refine (jval_place.calls kj3 _ _ l0_5 a1 t114 true _ ?side1 ?side2 A21.out).mono ?_); (case side1 => repeat (first | exact (Kd.V_reads' U5.out).2.2 | (with_reducible refine Kd.C_alloc ?_ _) | (with_reducible refine Kd.C_drewN ?_ _) | (with_reducible refine Kd.C_drew ?_))); (case side2 => exact (Kd.V_reads' U5.out).2.1); rintro e w' ⟨rfl, ⟨nd, rfl⟩⟩; refine ⟨_, rfl, ?_⟩; (try (rw [drewN_self wc]; generalize hq_ : World.drewN wc _ = wc; have n0_ : Aside0 (Kd.V k27 27 wc w.heap.size (fun q => ((P4 q ∨ P5 q ∨ Q4 q ∨ Q5 q) ∨ w.heap.size ≤ q) ∧ q ≠ g1 ∧ q ≠ g2 ∧ q ≠ g3) (.slice A0_4 l0_4.length c0_4) l0_4) := ⟨by rw [← hq_]; exact (by (with_reducible repeat (first | apply Kd.V_alloc | apply Kd.V_drewN | apply Kd.V_drew)); exact U4.out)⟩; have n1_ : Aside0 (Kd.V Kd.string 9 wc w.heap.size (fun q => ((P4 q ∨ P5 q ∨ Q4 q ∨ Q5 q) ∨ w.heap.size ≤ q) ∧ q ≠ g1 ∧ q ≠ g2 ∧ q ≠ g3) (.slice A0_5 l0_5.length c0_5) l0_5) := ⟨by rw [← hq_]; exact (by (with_reducible repeat (first | apply Kd.V_alloc | apply Kd.V_drewN | apply Kd.V_drew)); exact U5.out)⟩; have n2_ : Aside0 (Kd.V k27 27 wc w.heap.size (fun q => ((P4 q ∨ P5 q ∨ Q4 q ∨ Q5 q) ∨ w.heap.size ≤ q) ∧ q ≠ g1 ∧ q ≠ g2 ∧ q ≠ g3) (.slice A2_4 l2_4.length c2_4) l2_4) := ⟨by rw [← hq_]; exact (by (with_reducible repeat (first | apply Kd.V_alloc | apply Kd.V_drewN | apply Kd.V_drew)); exact U6.out)⟩; have n3_ : Aside0 (Kd.V Kd.string 9 wc w.heap.size (fun q => ((P4 q ∨ P5 q ∨ Q4 q ∨ Q5 q) ∨ w.heap.size ≤ q) ∧ q ≠ g1 ∧ q ≠ g2 ∧ q ≠ g3) (.slice A2_5 l2_5.length c2_5) l2_5) := ⟨by rw [← hq_]; exact (by (with_reducible repeat (first | apply Kd.V_alloc | apply Kd.V_drewN | apply Kd.V_drew)); exact U7.out)⟩; have n4_ : Aside0 (wc.heap[g1]? = some (.cells #[.int .i64 a0_0, .int .i64 a0_1, .int .i64 a0_2, .string a0_3, .slice A0_4 l0_4.length c0_4, .slice A0_5 l0_5.length c0_5] 27 (0, 0))) := ⟨by rw [← hq_]; exact (by (with_reducible repeat (first | refine blk_drewN ?_ _ | refine blk_drew ?_ | refine blk_alloc ?_ _)); exact BK111.out)⟩; have n5_ : Aside0 (wc.heap[g2]? = some (.cells #[.int .i64 a2_0, .int .i64 a2_1, .int .i64 a2_2, .string a2_3, .slice A2_4 l2_4.length c2_4, .slice A2_5 l2_5.length c2_5] 27 (0, 0))) := ⟨by rw [← hq_]; exact (by (with_reducible repeat (first | refine blk_drewN ?_ _ | refine blk_drew ?_ | refine blk_alloc ?_ _)); exact BK112.out)⟩; have n6_ : Aside0 (wc.heap[g3]? = some (.cells #[.int .i64 0, .int .i64 0, .int .i64 0, .string (⟨#[]⟩ : ByteArray), .slice none 0 0, .slice none 0 0] 27 (0, 0))) := ⟨by rw [← hq_]; exact (by (with_reducible repeat (first | refine blk_drewN ?_ _ | refine blk_drew ?_ | refine blk_alloc ?_ _)); exact BK113.out)⟩; have n7_ : Aside0 (Below w.heap.size w wc) := ⟨by rw [← hq_]; exact (by repeat (first | (with_reducible first | exact HB.out | apply below_alloc | apply pw_below_drewN | apply below_drew1 | refine below_set ?_ GE111.out | refine below_set ?_ GE112.out | refine below_set ?_ GE113.out) | exact HB.out))⟩; clear U4 U5 U6 U7 BK111 BK112 BK113 HB hq_; have U4 := n0_; have U5 := n1_; have U6 := n2_; have U7 := n3_; have BK111 := n4_; have BK112 := n5_; have BK113 := n6_; have HB := n7_; clear n0_ n1_ n2_ n3_ n4_ n5_ n6_ n7_)); (try have hczu111_0 : wc.cell? ⟨g1, 0, none⟩ = some (.int .i64 a0_0) := (blk_cell BK111.out 0).trans rfl); (try have hczu111_1 : wc.cell? ⟨g1, 1, none⟩ = some (.int .i64 a0_1) := (blk_cell BK111.out 1).trans rfl); (try have hczu111_2 : wc.cell? ⟨g1, 2, none⟩ = some (.int .i64 a0_2) := (blk_cell BK111.out 2).trans rfl); (try have hczu111_3 : wc.cell? ⟨g1, 3, none⟩ = some (.string a0_3) := (blk_cell BK111.out 3).trans rfl); (try have hczu111_4 : wc.cell? ⟨g1, 4, none⟩ = some (.slice A0_4 l0_4.length c0_4) := (blk_cell BK111.out 4).trans rfl); (try have hczu111_5 : wc.cell? ⟨g1, 5, none⟩ = some (.slice A0_5 l0_5.length c0_5) := (blk_cell BK111.out 5).trans rfl); (try have hfzu111_0 := blk_frozen BK111.out 0); (try have hfzu111_1 := blk_frozen BK111.out 1); (try have hfzu111_2 := blk_frozen BK111.out 2); (try have hfzu111_3 := blk_frozen BK111.out 3); (try have hfzu111_4 := blk_frozen BK111.out 4); (try have hfzu111_5 := blk_frozen BK111.out 5)))
        have n0_ := Aside0.mk (Kd.V_drew U4.out)
        have n1_ := Aside0.mk (Kd.V_drew U5.out)
        have n2_ := Aside0.mk (Kd.V_drew U6.out)
        have n3_ := Aside0.mk (Kd.V_drew U7.out)
        have n4_ := Aside0.mk (blk_drew BK111.out)
        have n5_ := Aside0.mk (blk_drew BK112.out)
        have n6_ := Aside0.mk (blk_drew BK113.out)
        have n7_ := Aside0.mk (below_drew1 HB.out)
        clear U4
        clear U5
        clear U6
        clear U7
        clear BK111
        clear BK112
        clear BK113
        clear HB
        have U4 := n0_
        have U5 := n1_
        have U6 := n2_
        have U7 := n3_
        have BK111 := n4_
        have BK112 := n5_
        have BK113 := n6_
        have HB := n7_
        clear n0_ n1_ n2_ n3_ n4_ n5_ n6_ n7_
        have q42 : (t114 : Int) ≤ ((l0_5.length : Int) : Int) := of_decide_eq_true (by first | (with_reducible assumption) | assumption)
        obtain ⟨i042, hi042, _, hsz42, _⟩ := info_parts info9
        have hroom42 : l0_5.length ≤ c0_5 := (Kd.V_reads' U5.out).2.1
        have hC42 : Kd.F Kd.string _ _ A0_5 l0_5.length l0_5 := (Kd.V_at (base := w.heap.size) U5.out).2.2
        have hcut42 := cut_to (P := Try.prog) 25 9 .i64 Try.underlying25 hi042 A0_5 l0_5.length c0_5 t114 (of_decide_eq_true (by first | (with_reducible assumption) | assumption)) q42 hroom42
        have hr42 := Kd.F_take (m := (t114 : Int).toNat) hC42 (by omega)
        have hy42 : y119.length = (t114 : Int).toNat := (by rw [Ny119.out, List.length_take]; omega)
        rw [← Ny119.out] at hr42
        rw [← hy42] at hcut42
        have HO123 := Aside0.mk (show Kd.V Kd.string 9 _ w.heap.size _ (.slice A0_5 y119.length c0_5) y119 from Kd.V_mk (by omega) hr42)
        have HC123 := Aside0.mk (show y119.length ≤ c0_5 from by omega)
        clear hr42 hC42 hroom42 hi042 hsz42
        have KY42 := Aside0.mk hy42
        clear hy42
        replace q42 := eq_true q42
        have q43 : ((ji27) : Int) ≤ ((l0_5.length : Int) : Int) := of_decide_eq_true (by first | (with_reducible assumption) | assumption)
        obtain ⟨i043, hi043, _, hsz43, _⟩ := info_parts info9
        have hroom43 : l0_5.length ≤ c0_5 := (Kd.V_reads' U5.out).2.1
        have hC43 : Kd.F Kd.string _ _ A0_5 l0_5.length l0_5 := (Kd.V_at (base := w.heap.size) U5.out).2.2
        have q043 : (0 : Int) ≤ ((ji27) : Int) := of_decide_eq_true (by first | (with_reducible assumption) | assumption)
        have hcut43 := cut_from (P := Try.prog) 25 9 .i64 Try.underlying25 hi043 1 hsz43 A0_5 l0_5.length c0_5 (ji27) q043 q43
        have hr43 := Kd.F_cut (m := ((ji27) : Int).toNat) (c := c0_5) hC43 (by omega) hroom43
        obtain ⟨A43, hA43⟩ : ∃ A1, A1 = (if c0_5 = ((ji27) : Int).toNat then A0_5 else (A0_5 : Option Addr).map (·.add (((ji27) : Int).toNat * 1))) := ⟨_, rfl⟩
        obtain ⟨c43, hc43⟩ : ∃ c1, c1 = c0_5 - ((ji27) : Int).toNat := ⟨_, rfl⟩
        have hy43 : y133.length = l0_5.length - ((ji27) : Int).toNat := (by rw [Ny133.out, List.length_drop] <;> omega)
        rw [show (l0_5).drop ((ji27) : Int).toNat = y133 from Ny133.out.symm] at hr43
        replace hr43 : Kd.F Kd.string _ _ A43 y133.length y133 := (by rw [hA43]; exact hr43)
        rw [← hy43, ← hA43, ← hc43] at hcut43
        have HO137 := Aside0.mk (show Kd.V Kd.string 9 _ w.heap.size _ (.slice A43 y133.length c43) y133 from Kd.V_mk (by rw [hy43, hc43]; exact Nat.sub_le_sub_right hroom43 _) hr43)
        have HC137 := Aside0.mk (show y133.length ≤ c43 from by rw [hy43, hc43]; exact Nat.sub_le_sub_right hroom43 _)
        clear hr43 hC43 hroom43 hi043 hsz43 hc43
        have KY43 := Aside0.mk hy43
        have KA43 := Aside0.mk hA43
        clear hy43 hA43
        replace q43 := eq_true q43
        refine start_ (n := 15) (S := fun w' => w'.cell? ⟨g1, 0, none⟩ = some (.int .i64 a0_0) ∧ w'.cell? ⟨g1, 1, none⟩ = some (.int .i64 a0_1) ∧ w'.cell? ⟨g1, 2, none⟩ = some (.int .i64 a0_2) ∧ w'.cell? ⟨g1, 3, none⟩ = some (.string a0_3) ∧ w'.cell? ⟨g1, 4, none⟩ = some (.slice A0_4 l0_4.length c0_4) ∧ w'.cell? ⟨g1, 5, none⟩ = some (.slice A0_5 l0_5.length c0_5)) (ds := []) #[false, false, false, false, false, false, false, false, false, false, false, false, false, false, false] (by kernel_rfl) rfl rfl ⟨(blk_cell BK111.out 0).trans rfl, (blk_cell BK111.out 1).trans rfl, (blk_cell BK111.out 2).trans rfl, (blk_cell BK111.out 3).trans rfl, (blk_cell BK111.out 4).trans rfl, (blk_cell BK111.out 5).trans rfl⟩ (fun hHeld => ?_); refine with_tabW jval_Put.tab7 jval_Put.bits7 (fun HT_ HW_ => ?_)
        generalize wc.drew = w41 at U4 U5 U6 U7 BK111 BK112 BK113 HB HO123 HO137 hHeld ⊢
        refine pure_ (i := 1) (N := some 37) (v := ?_) (a' := ?_) #[false, true, false, false, false, false, false, false, false, false, false, false, false, false, false] rfl rfl (any_of HT_.out (by kernel_rfl)) (fun _ _ _ h => h) (Or.inl ⟨by rfl, ?_⟩) ?_ ?_
        rotate_left
        · intro w'
          go_simp
          with_reducible rfl
        rotate_left
        · simp only [Act.put, List.setIfInBounds_toArray, List.set_cons_zero, List.set_cons_succ, i64_w, i32_w]
          rfl
        refine pure_ (i := 3) (N := some 39) (v := ?_) (a' := ?_) #[false, true, false, true, false, false, false, false, false, false, false, false, false, false, false] rfl rfl (any_of HT_.out (by kernel_rfl)) (fun _ _ _ h => h) (Or.inl ⟨by rfl, ?_⟩) ?_ ?_
        rotate_left
        · intro w'
          go_simp
          with_reducible rfl
        rotate_left
        · simp only [Act.put, List.setIfInBounds_toArray, List.set_cons_zero, List.set_cons_succ, i64_w, i32_w]
          rfl
        refine pure_ (i := 6) (N := some 42) (v := ?_) (a' := ?_) #[false, true, false, true, false, false, true, false, false, false, false, false, false, false, false] rfl rfl (any_of HT_.out (by kernel_rfl)) (fun _ _ _ h => h) (Or.inl ⟨by rfl, ?_⟩) ?_ ?_
        rotate_left
        · intro w'
          go_simp
          with_reducible rfl
        rotate_left
        · simp only [Act.put, List.setIfInBounds_toArray, List.set_cons_zero, List.set_cons_succ, i64_w, i32_w]
          rfl
        refine pure_ (i := 9) (N := some 45) (v := ?_) (a' := ?_) #[false, true, false, true, false, false, true, false, false, true, false, false, false, false, false] rfl rfl (any_of HT_.out (by kernel_rfl)) (fun _ _ _ h => h) (Or.inl ⟨by rfl, ?_⟩) ?_ ?_
        rotate_left
        · intro w'
          go_simp
          with_reducible rfl
        rotate_left
        · simp only [Act.put, List.setIfInBounds_toArray, List.set_cons_zero, List.set_cons_succ, i64_w, i32_w]
          rfl
        refine pure_ (i := 11) (N := some 47) (v := ?_) (a' := ?_) #[false, true, false, true, false, false, true, false, false, true, false, true, false, false, false] rfl rfl (any_of HT_.out (by kernel_rfl)) (fun _ _ _ h => h) (Or.inl ⟨by rfl, ?_⟩) ?_ ?_
        rotate_left
        · intro w'
          go_simp
          with_reducible rfl
        rotate_left
        · simp only [Act.put, List.setIfInBounds_toArray, List.set_cons_zero, List.set_cons_succ, i64_w, i32_w]
          rfl
        refine take_ (i := 2) (N := some 38) (v := ?_) (a' := ?_) #[false, true, true, true, false, false, true, false, false, true, false, true, false, false, false] rfl rfl (take_ofW HT_.out HW_.out (by kernel_rfl)) (fun _ _ _ h => h) (Or.inl ⟨by rfl, ?_⟩) hHeld ?_ ?_
        rotate_left
        · rintro w' ⟨s0, s1, s2, s3, s4, s5⟩
          go_simp
          with_reducible rfl
        rotate_left
        · simp only [Act.put, List.setIfInBounds_toArray, List.set_cons_zero, List.set_cons_succ, i64_w, i32_w]
          rfl
        refine pure_ (i := 4) (N := some 40) (v := ?_) (a' := ?_) #[false, true, true, true, true, false, true, false, false, true, false, true, false, false, false] rfl rfl (any_of HT_.out (by kernel_rfl)) (fun _ _ _ h => h) (Or.inl ⟨by rfl, ?_⟩) ?_ ?_
        rotate_left
        · intro w'
          go_simp
          with_reducible rfl
        rotate_left
        · simp only [Act.put, List.setIfInBounds_toArray, List.set_cons_zero, List.set_cons_succ, i64_w, i32_w]
          rfl
        refine take_ (i := 10) (N := some 46) (v := ?_) (a' := ?_) #[false, true, true, true, true, false, true, false, false, true, true, true, false, false, false] rfl rfl (take_ofW HT_.out HW_.out (by kernel_rfl)) (fun _ _ _ h => h) (Or.inl ⟨by rfl, ?_⟩) hHeld ?_ ?_
        rotate_left
        · rintro w' ⟨s0, s1, s2, s3, s4, s5⟩
          go_simp
          with_reducible rfl
        rotate_left
        · simp only [Act.put, List.setIfInBounds_toArray, List.set_cons_zero, List.set_cons_succ, i64_w, i32_w]
          rfl
        refine pure_ (i := 12) (N := some 48) (v := ?_) (a' := ?_) #[false, true, true, true, true, false, true, false, false, true, true, true, true, false, false] rfl rfl (any_of HT_.out (by kernel_rfl)) (fun _ _ _ h => h) (Or.inl ⟨by rfl, ?_⟩) ?_ ?_
        rotate_left
        · intro w'
          go_simp
          with_reducible rfl
        rotate_left
        · simp only [Act.put, List.setIfInBounds_toArray, List.set_cons_zero, List.set_cons_succ, i64_w, i32_w]
          rfl
        refine join_ (σ := Value × Value × Value) 3 #[true, true, true, true, true, true, true, true, false, true, true, true, true, false, false] (fun s_ => [(36, s_.1), (41, s_.2.1), (43, s_.2.2)]) (fun s_ w' => (w'.cell? ⟨g1, 0, none⟩ = some (.int .i64 a0_0) ∧ w'.cell? ⟨g1, 1, none⟩ = some (.int .i64 a0_1) ∧ w'.cell? ⟨g1, 2, none⟩ = some (.int .i64 a0_2) ∧ w'.cell? ⟨g1, 3, none⟩ = some (.string a0_3) ∧ w'.cell? ⟨g1, 4, none⟩ = some (.slice A0_4 l0_4.length c0_4) ∧ w'.cell? ⟨g1, 5, none⟩ = some (.slice A0_5 l0_5.length c0_5)) ∧ (Kd.V Kd.string 9 w' w.heap.size (fun q => ((P4 q ∨ P5 q ∨ Q4 q ∨ Q5 q) ∨ w.heap.size ≤ q) ∧ some q ≠ (s_.2.1 : Value).ownBlock ∧ some q ≠ (s_.2.2 : Value).ownBlock ∧ q ≠ g1 ∧ q ≠ g2 ∧ q ≠ g3) (.slice A0_5 y119.length c0_5) y119) ∧ (Kd.R Kd.string 9 w' w.heap.size (fun q => (w.heap.size ≤ q) ∧ some q ≠ (s_.2.2 : Value).ownBlock) s_.2.1 y124) ∧ (Kd.R Kd.string 9 w' w.heap.size (fun q => (w.heap.size ≤ q) ∧ some q ≠ (s_.2.1 : Value).ownBlock) s_.2.2 y127) ∧ (Kd.V Kd.string 9 w' w.heap.size (fun q => ((P4 q ∨ P5 q ∨ Q4 q ∨ Q5 q) ∨ w.heap.size ≤ q) ∧ some q ≠ (s_.2.1 : Value).ownBlock ∧ some q ≠ (s_.2.2 : Value).ownBlock ∧ q ≠ g1 ∧ q ≠ g2 ∧ q ≠ g3) (.slice A43 y133.length c43) y133) ∧ (Kd.V k27 27 w' w.heap.size (fun q => ((P4 q ∨ P5 q ∨ Q4 q ∨ Q5 q) ∨ w.heap.size ≤ q) ∧ some q ≠ (s_.2.1 : Value).ownBlock ∧ some q ≠ (s_.2.2 : Value).ownBlock ∧ q ≠ g1 ∧ q ≠ g2 ∧ q ≠ g3) (.slice A0_4 l0_4.length c0_4) l0_4) ∧ (Kd.V Kd.string 9 w' w.heap.size (fun q => ((P4 q ∨ P5 q ∨ Q4 q ∨ Q5 q) ∨ w.heap.size ≤ q) ∧ some q ≠ (s_.2.1 : Value).ownBlock ∧ some q ≠ (s_.2.2 : Value).ownBlock ∧ q ≠ g1 ∧ q ≠ g2 ∧ q ≠ g3) (.slice A0_5 l0_5.length c0_5) l0_5) ∧ (Kd.V k27 27 w' w.heap.size (fun q => ((P4 q ∨ P5 q ∨ Q4 q ∨ Q5 q) ∨ w.heap.size ≤ q) ∧ some q ≠ (s_.2.1 : Value).ownBlock ∧ some q ≠ (s_.2.2 : Value).ownBlock ∧ q ≠ g1 ∧ q ≠ g2 ∧ q ≠ g3) (.slice A2_4 l2_4.length c2_4) l2_4) ∧ (Kd.V Kd.string 9 w' w.heap.size (fun q => ((P4 q ∨ P5 q ∨ Q4 q ∨ Q5 q) ∨ w.heap.size ≤ q) ∧ some q ≠ (s_.2.1 : Value).ownBlock ∧ some q ≠ (s_.2.2 : Value).ownBlock ∧ q ≠ g1 ∧ q ≠ g2 ∧ q ≠ g3) (.slice A2_5 l2_5.length c2_5) l2_5) ∧ (w'.heap[g1]? = some (.cells #[.int .i64 a0_0, .int .i64 a0_1, .int .i64 a0_2, .string a0_3, .slice A0_4 l0_4.length c0_4, .slice A0_5 l0_5.length c0_5] 27 (0, 0))) ∧ (w'.heap[g2]? = some (.cells #[.int .i64 a2_0, .int .i64 a2_1, .int .i64 a2_2, .string a2_3, .slice A2_4 l2_4.length c2_4, .slice A2_5 l2_5.length c2_5] 27 (0, 0))) ∧ (w'.heap[g3]? = some (.cells #[.int .i64 0, .int .i64 0, .int .i64 0, .string (⟨#[]⟩ : ByteArray), .slice none 0 0, .slice none 0 0] 27 (0, 0))) ∧ (Below w.heap.size w w')) ?_ ?_
        rotate_left
        · intro hCont
          refine two_ (i := 0) (j := 7) (Ni := some 36) (Nj := some 43) #[true, true, true, true, true, false, true, false, false, true, true, true, true, false, false] #[false, true, true, true, true, false, true, true, false, true, true, true, true, false, false] rfl rfl rfl rfl (two_of HT_.out (by kernel_rfl)) (by decide) (by decide) (fun K hK => ?_) (fun K hK => ?_)
          · skip
            refine Kd.R_lit_step Kd.string _ 9 ?hg (N := 36) ?hd (xs := ([] : List ByteArray)) (inner := []) (ok := fun _ => True) (okp := fun _ => True) ?hr ?hp (fun _ hk => hk) trivial (Below.refl _ _) (Nat.le_refl _) (by simp) ?_; (case hd => rfl); (case hg => rfl); (case hr => first | (go_simp; done) | (go_simp; rfl)); (case hp => exact (Reps.none _ _))
            intro v117 w44 ho45 hb hg_ hnew_
            clear hg_ hnew_
            (first | rw [← Ny116.out] at ho45 | (simp only [Int.reduceToNat] at ho45; rw [← Ny116.out] at ho45))
            have n0_ := Aside0.mk (Kd.V_elder' (by (with_reducible repeat (first | apply Kd.V_alloc | apply Kd.V_drewN | apply Kd.V_drew)); exact U4.out) (Kd.R_base ho45) hb)
            have n1_ := Aside0.mk (Kd.V_elder' (by (with_reducible repeat (first | apply Kd.V_alloc | apply Kd.V_drewN | apply Kd.V_drew)); exact U5.out) (Kd.R_base ho45) hb)
            have n2_ := Aside0.mk (Kd.V_elder' (by (with_reducible repeat (first | apply Kd.V_alloc | apply Kd.V_drewN | apply Kd.V_drew)); exact U6.out) (Kd.R_base ho45) hb)
            have n3_ := Aside0.mk (Kd.V_elder' (by (with_reducible repeat (first | apply Kd.V_alloc | apply Kd.V_drewN | apply Kd.V_drew)); exact U7.out) (Kd.R_base ho45) hb)
            have n4_ := Aside0.mk (Kd.V_elder' (by (with_reducible repeat (first | apply Kd.V_alloc | apply Kd.V_drewN | apply Kd.V_drew)); exact HO123.out) (Kd.R_base ho45) hb)
            have n5_ := Aside0.mk (Kd.V_elder' (by (with_reducible repeat (first | apply Kd.V_alloc | apply Kd.V_drewN | apply Kd.V_drew)); exact HO137.out) (Kd.R_base ho45) hb)
            have n6_ := Aside0.mk (Kd.R_lower (Kd.R_newM (M := fun q => (w.heap.size ≤ q)) ho45 (below_size (by repeat (first | (with_reducible first | exact HB.out | apply below_alloc | apply pw_below_drewN | apply below_drew1 | refine below_set ?_ GE111.out | refine below_set ?_ GE112.out | refine below_set ?_ GE113.out) | exact HB.out))) (fun q h_ => h_)) (below_size (by repeat (first | (with_reducible first | exact HB.out | apply below_alloc | apply pw_below_drewN | apply below_drew1 | refine below_set ?_ GE111.out | refine below_set ?_ GE112.out | refine below_set ?_ GE113.out) | exact HB.out))))
            have n7_ := Aside0.mk (blk_below (g := g1) (o := .cells #[.int .i64 a0_0, .int .i64 a0_1, .int .i64 a0_2, .string a0_3, .slice A0_4 l0_4.length c0_4, .slice A0_5 l0_5.length c0_5] 27 (0, 0)) (by (with_reducible repeat (first | refine blk_drewN ?_ _ | refine blk_drew ?_ | refine blk_alloc ?_ _)); exact BK111.out) hb)
            have n8_ := Aside0.mk (blk_below (g := g2) (o := .cells #[.int .i64 a2_0, .int .i64 a2_1, .int .i64 a2_2, .string a2_3, .slice A2_4 l2_4.length c2_4, .slice A2_5 l2_5.length c2_5] 27 (0, 0)) (by (with_reducible repeat (first | refine blk_drewN ?_ _ | refine blk_drew ?_ | refine blk_alloc ?_ _)); exact BK112.out) hb)
            have n9_ := Aside0.mk (blk_below (g := g3) (o := .cells #[.int .i64 0, .int .i64 0, .int .i64 0, .string (⟨#[]⟩ : ByteArray), .slice none 0 0, .slice none 0 0] 27 (0, 0)) (by (with_reducible repeat (first | refine blk_drewN ?_ _ | refine blk_drew ?_ | refine blk_alloc ?_ _)); exact BK113.out) hb)
            have n10_ := Aside0.mk (below_step (by repeat (first | (with_reducible first | exact HB.out | apply below_alloc | apply pw_below_drewN | apply below_drew1 | refine below_set ?_ GE111.out | refine below_set ?_ GE112.out | refine below_set ?_ GE113.out) | exact HB.out)) hb)
            clear U4
            clear U5
            clear U6
            clear U7
            clear HO123
            clear HO137
            clear BK111
            clear BK112
            clear BK113
            clear HB
            have U4 := n0_
            have U5 := n1_
            have U6 := n2_
            have U7 := n3_
            have HO123 := n4_
            have HO137 := n5_
            have HO118 := n6_
            have BK111 := n7_
            have BK112 := n8_
            have BK113 := n9_
            have HB := n10_
            clear n0_ n1_ n2_ n3_ n4_ n5_ n6_ n7_ n8_ n9_ n10_
            clear hb ho45
            refine hK.out _ _ ⟨(blk_cell BK111.out 0).trans rfl, (blk_cell BK111.out 1).trans rfl, (blk_cell BK111.out 2).trans rfl, (blk_cell BK111.out 3).trans rfl, (blk_cell BK111.out 4).trans rfl, (blk_cell BK111.out 5).trans rfl⟩ (fun hHeld => ?_)
            clear hK K
            refine norm_ (a' := ?_) ?_ ?_
            rotate_left
            · show Act.put _ (some 36) _ = _
              simp only [Act.put, List.setIfInBounds_toArray, List.set_cons_zero, List.set_cons_succ, i64_w, i32_w]
              rfl
            refine two_ (i := 5) (j := 7) (Ni := some 41) (Nj := some 43) #[true, true, true, true, true, true, true, false, false, true, true, true, true, false, false] #[true, true, true, true, true, false, true, true, false, true, true, true, true, false, false] rfl rfl rfl rfl (two_of HT_.out (by kernel_rfl)) (by decide) (by decide) (fun K hK => ?_) (fun K hK => ?_)
            · skip
              refine Kd.R_append_rows_step Kd.string (w0 := w) w.heap.size (by rfl) (.tmp 36) (.tmp 40) 25 9 (.string ⟨#[]⟩) 16 rfl Try.underlying25 info9 rfl (by decide) (by omega) v117 y116 y119 _ _ _ (fun q => (w.heap.size ≤ q)) (fun _ => False) rfl rfl ?aO ?aR (fun _ _ h => h) (fun _ h => h.elim) ?aF ?aB ?aS ?aL ?_
              (case aR => repeat (first | exact (Kd.V_reads' HO123.out).2.2 | (with_reducible refine Kd.C_alloc ?_ _) | (with_reducible refine Kd.C_drewN ?_ _) | (with_reducible refine Kd.C_drew ?_)))
              (case aB => exact (by repeat (first | (with_reducible first | exact HB.out | apply below_alloc | apply pw_below_drewN | apply below_drew1 | refine below_set ?_ GE111.out | refine below_set ?_ GE112.out | refine below_set ?_ GE113.out) | exact HB.out)))
              (case aF => exact (fun q hk => (Nat.le_trans (below_size (by repeat (first | (with_reducible first | exact HB.out | apply below_alloc | apply pw_below_drewN | apply below_drew1 | refine below_set ?_ GE111.out | refine below_set ?_ GE112.out | refine below_set ?_ GE113.out) | exact HB.out))) hk)))
              (case aO => exact (by (with_reducible repeat (first | apply Kd.R_alloc | apply Kd.R_drewN | apply Kd.R_drew)); exact Kd.R_mono HO118.out (fun _ hk => hk.1)))
              (case aS => exact (below_size (by repeat (first | (with_reducible first | exact HB.out | apply below_alloc | apply pw_below_drewN | apply below_drew1 | refine below_set ?_ GE111.out | refine below_set ?_ GE112.out | refine below_set ?_ GE113.out) | exact HB.out))))
              (case aL => have := LMc25.out; omega)
              intro v125 w46 ho hb hg hat
              rw [← Ny124.out] at ho
              have n0_ := Aside0.mk (Kd.V_afterv (ok := (fun q => ((P4 q ∨ P5 q ∨ Q4 q ∨ Q5 q) ∨ w.heap.size ≤ q) ∧ q ≠ g1 ∧ q ≠ g2 ∧ q ≠ g3)) (by (with_reducible repeat (first | apply Kd.V_alloc | apply Kd.V_drewN | apply Kd.V_drew)); exact U4.out) hg hat)
              have n1_ := Aside0.mk (Kd.V_afterv (ok := (fun q => ((P4 q ∨ P5 q ∨ Q4 q ∨ Q5 q) ∨ w.heap.size ≤ q) ∧ q ≠ g1 ∧ q ≠ g2 ∧ q ≠ g3)) (by (with_reducible repeat (first | apply Kd.V_alloc | apply Kd.V_drewN | apply Kd.V_drew)); exact U5.out) hg hat)
              have n2_ := Aside0.mk (Kd.V_afterv (ok := (fun q => ((P4 q ∨ P5 q ∨ Q4 q ∨ Q5 q) ∨ w.heap.size ≤ q) ∧ q ≠ g1 ∧ q ≠ g2 ∧ q ≠ g3)) (by (with_reducible repeat (first | apply Kd.V_alloc | apply Kd.V_drewN | apply Kd.V_drew)); exact U6.out) hg hat)
              have n3_ := Aside0.mk (Kd.V_afterv (ok := (fun q => ((P4 q ∨ P5 q ∨ Q4 q ∨ Q5 q) ∨ w.heap.size ≤ q) ∧ q ≠ g1 ∧ q ≠ g2 ∧ q ≠ g3)) (by (with_reducible repeat (first | apply Kd.V_alloc | apply Kd.V_drewN | apply Kd.V_drew)); exact U7.out) hg hat)
              have n4_ := Aside0.mk (blk_grown (g := g1) (o := .cells #[.int .i64 a0_0, .int .i64 a0_1, .int .i64 a0_2, .string a0_3, .slice A0_4 l0_4.length c0_4, .slice A0_5 l0_5.length c0_5] 27 (0, 0)) (by (with_reducible repeat (first | refine blk_drewN ?_ _ | refine blk_drew ?_ | refine blk_alloc ?_ _)); exact BK111.out) hg (Kd.R_ne HO118.out BK111.out (by decide)))
              have n5_ := Aside0.mk (blk_grown (g := g2) (o := .cells #[.int .i64 a2_0, .int .i64 a2_1, .int .i64 a2_2, .string a2_3, .slice A2_4 l2_4.length c2_4, .slice A2_5 l2_5.length c2_5] 27 (0, 0)) (by (with_reducible repeat (first | refine blk_drewN ?_ _ | refine blk_drew ?_ | refine blk_alloc ?_ _)); exact BK112.out) hg (Kd.R_ne HO118.out BK112.out (by decide)))
              have n6_ := Aside0.mk (blk_grown (g := g3) (o := .cells #[.int .i64 0, .int .i64 0, .int .i64 0, .string (⟨#[]⟩ : ByteArray), .slice none 0 0, .slice none 0 0] 27 (0, 0)) (by (with_reducible repeat (first | refine blk_drewN ?_ _ | refine blk_drew ?_ | refine blk_alloc ?_ _)); exact BK113.out) hg (Kd.R_ne HO118.out BK113.out (by decide)))
              have n7_ := Aside0.mk (Kd.V_afterv (ok := (fun q => ((P4 q ∨ P5 q ∨ Q4 q ∨ Q5 q) ∨ w.heap.size ≤ q) ∧ q ≠ g1 ∧ q ≠ g2 ∧ q ≠ g3)) (by (with_reducible repeat (first | apply Kd.V_alloc | apply Kd.V_drewN | apply Kd.V_drew)); exact HO123.out) hg hat)
              have n8_ := Aside0.mk (Kd.V_afterv (ok := (fun q => ((P4 q ∨ P5 q ∨ Q4 q ∨ Q5 q) ∨ w.heap.size ≤ q) ∧ q ≠ g1 ∧ q ≠ g2 ∧ q ≠ g3)) (by (with_reducible repeat (first | apply Kd.V_alloc | apply Kd.V_drewN | apply Kd.V_drew)); exact HO137.out) hg hat)
              have n9_ := Aside0.mk (hb)
              have n10_ := Aside0.mk (ho)
              clear U4
              clear U5
              clear U6
              clear U7
              clear BK111
              clear BK112
              clear BK113
              clear HO123
              clear HO137
              clear HB
              clear HO118
              have U4 := n0_
              have U5 := n1_
              have U6 := n2_
              have U7 := n3_
              have BK111 := n4_
              have BK112 := n5_
              have BK113 := n6_
              have HO123 := n7_
              have HO137 := n8_
              have HB := n9_
              have HO126 := n10_
              clear n0_ n1_ n2_ n3_ n4_ n5_ n6_ n7_ n8_ n9_ n10_
              clear ho hb hg hat
              refine hK.out _ _ ⟨(blk_cell BK111.out 0).trans rfl, (blk_cell BK111.out 1).trans rfl, (blk_cell BK111.out 2).trans rfl, (blk_cell BK111.out 3).trans rfl, (blk_cell BK111.out 4).trans rfl, (blk_cell BK111.out 5).trans rfl⟩ (fun hHeld => ?_)
              clear hK K
              refine norm_ (a' := ?_) ?_ ?_
              rotate_left
              · show Act.put _ (some 41) _ = _
                simp only [Act.put, List.setIfInBounds_toArray, List.set_cons_zero, List.set_cons_succ, i64_w, i32_w]
                rfl
              refine one_ (i := 7) (N := some 43) #[true, true, true, true, true, true, true, true, false, true, true, true, true, false, false] rfl rfl (one_of HT_.out (by kernel_rfl)) (by decide) (fun K hK => ?_)
              refine Kd.R_lit_step Kd.string _ 9 ?hg (N := 43) ?hd (xs := ([a1] : List ByteArray)) (inner := [.string a1]) (ok := fun _ => True) (okp := fun _ => True) ?hr ?hp (fun _ hk => hk) trivial (Below.refl _ _) (Nat.le_refl _) (by simp) ?_; (case hd => rfl); (case hg => rfl); (case hr => first | (go_simp; done) | (go_simp; rfl)); (case hp => exact (Reps.one (show Kd.M Kd.string _ _ _ a1 [.string a1] from rfl) (Reps.none _ _)))
              intro v128 w47 ho48 hb hg_ hnew_
              clear hg_ hnew_
              (first | rw [← Ny127.out] at ho48 | (simp only [Int.reduceToNat] at ho48; rw [← Ny127.out] at ho48))
              have n0_ := Aside0.mk (Kd.V_elder' (by (with_reducible repeat (first | apply Kd.V_alloc | apply Kd.V_drewN | apply Kd.V_drew)); exact U4.out) (Kd.R_base ho48) hb)
              have n1_ := Aside0.mk (Kd.V_elder' (by (with_reducible repeat (first | apply Kd.V_alloc | apply Kd.V_drewN | apply Kd.V_drew)); exact U5.out) (Kd.R_base ho48) hb)
              have n2_ := Aside0.mk (Kd.V_elder' (by (with_reducible repeat (first | apply Kd.V_alloc | apply Kd.V_drewN | apply Kd.V_drew)); exact U6.out) (Kd.R_base ho48) hb)
              have n3_ := Aside0.mk (Kd.V_elder' (by (with_reducible repeat (first | apply Kd.V_alloc | apply Kd.V_drewN | apply Kd.V_drew)); exact U7.out) (Kd.R_base ho48) hb)
              have n4_ := Aside0.mk (Kd.V_elder' (by (with_reducible repeat (first | apply Kd.V_alloc | apply Kd.V_drewN | apply Kd.V_drew)); exact HO123.out) (Kd.R_base ho48) hb)
              have n5_ := Aside0.mk (Kd.V_elder' (by (with_reducible repeat (first | apply Kd.V_alloc | apply Kd.V_drewN | apply Kd.V_drew)); exact HO137.out) (Kd.R_base ho48) hb)
              have n6_ := Aside0.mk (Kd.R_elder' (by (with_reducible repeat (first | apply Kd.R_alloc | apply Kd.R_drewN | apply Kd.R_drew)); exact HO126.out) (Kd.R_base ho48) hb)
              have n7_ := Aside0.mk (Kd.R_lower (Kd.R_new' (Kd.R_newM (M := fun q => (w.heap.size ≤ q)) ho48 (below_size (by repeat (first | (with_reducible first | exact HB.out | apply below_alloc | apply pw_below_drewN | apply below_drew1 | refine below_set ?_ GE111.out | refine below_set ?_ GE112.out | refine below_set ?_ GE113.out) | exact HB.out))) (fun q h_ => h_)) (Kd.R_lt (by (with_reducible repeat (first | apply Kd.R_alloc | apply Kd.R_drewN | apply Kd.R_drew)); exact HO126.out))) (below_size (by repeat (first | (with_reducible first | exact HB.out | apply below_alloc | apply pw_below_drewN | apply below_drew1 | refine below_set ?_ GE111.out | refine below_set ?_ GE112.out | refine below_set ?_ GE113.out) | exact HB.out))))
              have n8_ := Aside0.mk (blk_below (g := g1) (o := .cells #[.int .i64 a0_0, .int .i64 a0_1, .int .i64 a0_2, .string a0_3, .slice A0_4 l0_4.length c0_4, .slice A0_5 l0_5.length c0_5] 27 (0, 0)) (by (with_reducible repeat (first | refine blk_drewN ?_ _ | refine blk_drew ?_ | refine blk_alloc ?_ _)); exact BK111.out) hb)
              have n9_ := Aside0.mk (blk_below (g := g2) (o := .cells #[.int .i64 a2_0, .int .i64 a2_1, .int .i64 a2_2, .string a2_3, .slice A2_4 l2_4.length c2_4, .slice A2_5 l2_5.length c2_5] 27 (0, 0)) (by (with_reducible repeat (first | refine blk_drewN ?_ _ | refine blk_drew ?_ | refine blk_alloc ?_ _)); exact BK112.out) hb)
              have n10_ := Aside0.mk (blk_below (g := g3) (o := .cells #[.int .i64 0, .int .i64 0, .int .i64 0, .string (⟨#[]⟩ : ByteArray), .slice none 0 0, .slice none 0 0] 27 (0, 0)) (by (with_reducible repeat (first | refine blk_drewN ?_ _ | refine blk_drew ?_ | refine blk_alloc ?_ _)); exact BK113.out) hb)
              have n11_ := Aside0.mk (below_step (by repeat (first | (with_reducible first | exact HB.out | apply below_alloc | apply pw_below_drewN | apply below_drew1 | refine below_set ?_ GE111.out | refine below_set ?_ GE112.out | refine below_set ?_ GE113.out) | exact HB.out)) hb)
              clear U4
              clear U5
              clear U6
              clear U7
              clear HO123
              clear HO137
              clear HO126
              clear BK111
              clear BK112
              clear BK113
              clear HB
              have U4 := n0_
              have U5 := n1_
              have U6 := n2_
              have U7 := n3_
              have HO123 := n4_
              have HO137 := n5_
              have HO126 := n6_
              have HO129 := n7_
              have BK111 := n8_
              have BK112 := n9_
              have BK113 := n10_
              have HB := n11_
              clear n0_ n1_ n2_ n3_ n4_ n5_ n6_ n7_ n8_ n9_ n10_ n11_
              clear hb ho48
              refine hK.out _ _ ⟨(blk_cell BK111.out 0).trans rfl, (blk_cell BK111.out 1).trans rfl, (blk_cell BK111.out 2).trans rfl, (blk_cell BK111.out 3).trans rfl, (blk_cell BK111.out 4).trans rfl, (blk_cell BK111.out 5).trans rfl⟩ (fun hHeld => ?_)
              clear hK K
              refine norm_ (a' := ?_) ?_ ?_
              rotate_left
              · show Act.put _ (some 43) _ = _
                simp only [Act.put, List.setIfInBounds_toArray, List.set_cons_zero, List.set_cons_succ, i64_w, i32_w]
                rfl
              exact norm_ (by simp only [putAll, Act.put, List.setIfInBounds_toArray, List.set_cons_zero, List.set_cons_succ]) (hCont (v117, v125, v128) _ ⟨hHeld, (by (with_reducible repeat (first | apply Kd.V_alloc | apply Kd.V_drewN | apply Kd.V_drew)); exact Kd.V_mono HO123.out (fun _ hk => ⟨hk.1.1.1, ⟨hk.1.2, ⟨hk.2, ⟨hk.1.1.2.1, ⟨hk.1.1.2.2.1, hk.1.1.2.2.2⟩⟩⟩⟩⟩)), (by (with_reducible repeat (first | apply Kd.R_alloc | apply Kd.R_drewN | apply Kd.R_drew)); exact HO126.out), (by (with_reducible repeat (first | apply Kd.R_alloc | apply Kd.R_drewN | apply Kd.R_drew)); exact Kd.R_mono HO129.out (fun _ hk => ⟨hk.1.1, hk.2⟩)), (by (with_reducible repeat (first | apply Kd.V_alloc | apply Kd.V_drewN | apply Kd.V_drew)); exact Kd.V_mono HO137.out (fun _ hk => ⟨hk.1.1.1, ⟨hk.1.2, ⟨hk.2, ⟨hk.1.1.2.1, ⟨hk.1.1.2.2.1, hk.1.1.2.2.2⟩⟩⟩⟩⟩)), (by (with_reducible repeat (first | apply Kd.V_alloc | apply Kd.V_drewN | apply Kd.V_drew)); exact Kd.V_mono U4.out (fun _ hk => ⟨hk.1.1.1, ⟨hk.1.2, ⟨hk.2, ⟨hk.1.1.2.1, ⟨hk.1.1.2.2.1, hk.1.1.2.2.2⟩⟩⟩⟩⟩)), (by (with_reducible repeat (first | apply Kd.V_alloc | apply Kd.V_drewN | apply Kd.V_drew)); exact Kd.V_mono U5.out (fun _ hk => ⟨hk.1.1.1, ⟨hk.1.2, ⟨hk.2, ⟨hk.1.1.2.1, ⟨hk.1.1.2.2.1, hk.1.1.2.2.2⟩⟩⟩⟩⟩)), (by (with_reducible repeat (first | apply Kd.V_alloc | apply Kd.V_drewN | apply Kd.V_drew)); exact Kd.V_mono U6.out (fun _ hk => ⟨hk.1.1.1, ⟨hk.1.2, ⟨hk.2, ⟨hk.1.1.2.1, ⟨hk.1.1.2.2.1, hk.1.1.2.2.2⟩⟩⟩⟩⟩)), (by (with_reducible repeat (first | apply Kd.V_alloc | apply Kd.V_drewN | apply Kd.V_drew)); exact Kd.V_mono U7.out (fun _ hk => ⟨hk.1.1.1, ⟨hk.1.2, ⟨hk.2, ⟨hk.1.1.2.1, ⟨hk.1.1.2.2.1, hk.1.1.2.2.2⟩⟩⟩⟩⟩)), (by (with_reducible repeat (first | refine blk_drewN ?_ _ | refine blk_drew ?_ | refine blk_alloc ?_ _)); exact BK111.out), (by (with_reducible repeat (first | refine blk_drewN ?_ _ | refine blk_drew ?_ | refine blk_alloc ?_ _)); exact BK112.out), (by (with_reducible repeat (first | refine blk_drewN ?_ _ | refine blk_drew ?_ | refine blk_alloc ?_ _)); exact BK113.out), (by repeat (first | (with_reducible first | exact HB.out | apply below_alloc | apply pw_below_drewN | apply below_drew1 | refine below_set ?_ GE111.out | refine below_set ?_ GE112.out | refine below_set ?_ GE113.out) | exact HB.out))⟩)
            · skip
              refine Kd.R_lit_step Kd.string _ 9 ?hg (N := 43) ?hd (xs := ([a1] : List ByteArray)) (inner := [.string a1]) (ok := fun _ => True) (okp := fun _ => True) ?hr ?hp (fun _ hk => hk) trivial (Below.refl _ _) (Nat.le_refl _) (by simp) ?_; (case hd => rfl); (case hg => rfl); (case hr => first | (go_simp; done) | (go_simp; rfl)); (case hp => exact (Reps.one (show Kd.M Kd.string _ _ _ a1 [.string a1] from rfl) (Reps.none _ _)))
              intro v128 w46 ho47 hb hg_ hnew_
              clear hg_ hnew_
              (first | rw [← Ny127.out] at ho47 | (simp only [Int.reduceToNat] at ho47; rw [← Ny127.out] at ho47))
              have n0_ := Aside0.mk (Kd.V_elder' (by (with_reducible repeat (first | apply Kd.V_alloc | apply Kd.V_drewN | apply Kd.V_drew)); exact U4.out) (Kd.R_base ho47) hb)
              have n1_ := Aside0.mk (Kd.V_elder' (by (with_reducible repeat (first | apply Kd.V_alloc | apply Kd.V_drewN | apply Kd.V_drew)); exact U5.out) (Kd.R_base ho47) hb)
              have n2_ := Aside0.mk (Kd.V_elder' (by (with_reducible repeat (first | apply Kd.V_alloc | apply Kd.V_drewN | apply Kd.V_drew)); exact U6.out) (Kd.R_base ho47) hb)
              have n3_ := Aside0.mk (Kd.V_elder' (by (with_reducible repeat (first | apply Kd.V_alloc | apply Kd.V_drewN | apply Kd.V_drew)); exact U7.out) (Kd.R_base ho47) hb)
              have n4_ := Aside0.mk (Kd.V_elder' (by (with_reducible repeat (first | apply Kd.V_alloc | apply Kd.V_drewN | apply Kd.V_drew)); exact HO123.out) (Kd.R_base ho47) hb)
              have n5_ := Aside0.mk (Kd.V_elder' (by (with_reducible repeat (first | apply Kd.V_alloc | apply Kd.V_drewN | apply Kd.V_drew)); exact HO137.out) (Kd.R_base ho47) hb)
              have n6_ := Aside0.mk (Kd.R_elder' (by (with_reducible repeat (first | apply Kd.R_alloc | apply Kd.R_drewN | apply Kd.R_drew)); exact HO118.out) (Kd.R_base ho47) hb)
              have n7_ := Aside0.mk (Kd.R_lower (Kd.R_new' (Kd.R_newM (M := fun q => (w.heap.size ≤ q)) ho47 (below_size (by repeat (first | (with_reducible first | exact HB.out | apply below_alloc | apply pw_below_drewN | apply below_drew1 | refine below_set ?_ GE111.out | refine below_set ?_ GE112.out | refine below_set ?_ GE113.out) | exact HB.out))) (fun q h_ => h_)) (Kd.R_lt (by (with_reducible repeat (first | apply Kd.R_alloc | apply Kd.R_drewN | apply Kd.R_drew)); exact HO118.out))) (below_size (by repeat (first | (with_reducible first | exact HB.out | apply below_alloc | apply pw_below_drewN | apply below_drew1 | refine below_set ?_ GE111.out | refine below_set ?_ GE112.out | refine below_set ?_ GE113.out) | exact HB.out))))
              have n8_ := Aside0.mk (blk_below (g := g1) (o := .cells #[.int .i64 a0_0, .int .i64 a0_1, .int .i64 a0_2, .string a0_3, .slice A0_4 l0_4.length c0_4, .slice A0_5 l0_5.length c0_5] 27 (0, 0)) (by (with_reducible repeat (first | refine blk_drewN ?_ _ | refine blk_drew ?_ | refine blk_alloc ?_ _)); exact BK111.out) hb)
              have n9_ := Aside0.mk (blk_below (g := g2) (o := .cells #[.int .i64 a2_0, .int .i64 a2_1, .int .i64 a2_2, .string a2_3, .slice A2_4 l2_4.length c2_4, .slice A2_5 l2_5.length c2_5] 27 (0, 0)) (by (with_reducible repeat (first | refine blk_drewN ?_ _ | refine blk_drew ?_ | refine blk_alloc ?_ _)); exact BK112.out) hb)
              have n10_ := Aside0.mk (blk_below (g := g3) (o := .cells #[.int .i64 0, .int .i64 0, .int .i64 0, .string (⟨#[]⟩ : ByteArray), .slice none 0 0, .slice none 0 0] 27 (0, 0)) (by (with_reducible repeat (first | refine blk_drewN ?_ _ | refine blk_drew ?_ | refine blk_alloc ?_ _)); exact BK113.out) hb)
              have n11_ := Aside0.mk (below_step (by repeat (first | (with_reducible first | exact HB.out | apply below_alloc | apply pw_below_drewN | apply below_drew1 | refine below_set ?_ GE111.out | refine below_set ?_ GE112.out | refine below_set ?_ GE113.out) | exact HB.out)) hb)
              clear U4
              clear U5
              clear U6
              clear U7
              clear HO123
              clear HO137
              clear HO118
              clear BK111
              clear BK112
              clear BK113
              clear HB
              have U4 := n0_
              have U5 := n1_
              have U6 := n2_
              have U7 := n3_
              have HO123 := n4_
              have HO137 := n5_
              have HO118 := n6_
              have HO129 := n7_
              have BK111 := n8_
              have BK112 := n9_
              have BK113 := n10_
              have HB := n11_
              clear n0_ n1_ n2_ n3_ n4_ n5_ n6_ n7_ n8_ n9_ n10_ n11_
              clear hb ho47
              refine hK.out _ _ ⟨(blk_cell BK111.out 0).trans rfl, (blk_cell BK111.out 1).trans rfl, (blk_cell BK111.out 2).trans rfl, (blk_cell BK111.out 3).trans rfl, (blk_cell BK111.out 4).trans rfl, (blk_cell BK111.out 5).trans rfl⟩ (fun hHeld => ?_)
              clear hK K
              refine norm_ (a' := ?_) ?_ ?_
              rotate_left
              · show Act.put _ (some 43) _ = _
                simp only [Act.put, List.setIfInBounds_toArray, List.set_cons_zero, List.set_cons_succ, i64_w, i32_w]
                rfl
              refine one_ (i := 5) (N := some 41) #[true, true, true, true, true, true, true, true, false, true, true, true, true, false, false] rfl rfl (one_of HT_.out (by kernel_rfl)) (by decide) (fun K hK => ?_)
              refine Kd.R_append_rows_step Kd.string (w0 := w) w.heap.size (by rfl) (.tmp 36) (.tmp 40) 25 9 (.string ⟨#[]⟩) 16 rfl Try.underlying25 info9 rfl (by decide) (by omega) v117 y116 y119 _ _ _ (fun q => (w.heap.size ≤ q) ∧ some q ≠ (v128 : Value).ownBlock) (fun _ => False) rfl rfl ?aO ?aR (fun _ _ h => h) (fun _ h => h.elim) ?aF ?aB ?aS ?aL ?_
              (case aR => repeat (first | exact (Kd.V_reads' HO123.out).2.2 | (with_reducible refine Kd.C_alloc ?_ _) | (with_reducible refine Kd.C_drewN ?_ _) | (with_reducible refine Kd.C_drew ?_)))
              (case aB => exact (by repeat (first | (with_reducible first | exact HB.out | apply below_alloc | apply pw_below_drewN | apply below_drew1 | refine below_set ?_ GE111.out | refine below_set ?_ GE112.out | refine below_set ?_ GE113.out) | exact HB.out)))
              (case aF => exact (fun q hk => ⟨(Nat.le_trans (below_size (by repeat (first | (with_reducible first | exact HB.out | apply below_alloc | apply pw_below_drewN | apply below_drew1 | refine below_set ?_ GE111.out | refine below_set ?_ GE112.out | refine below_set ?_ GE113.out) | exact HB.out))) hk), Kd.fresh' (Kd.R_lt (by (with_reducible repeat (first | apply Kd.R_alloc | apply Kd.R_drewN | apply Kd.R_drew)); exact HO129.out)) q hk⟩))
              (case aO => exact (by (with_reducible repeat (first | apply Kd.R_alloc | apply Kd.R_drewN | apply Kd.R_drew)); exact Kd.R_mono HO118.out (fun _ hk => ⟨hk.1.1, hk.2⟩)))
              (case aS => exact (below_size (by repeat (first | (with_reducible first | exact HB.out | apply below_alloc | apply pw_below_drewN | apply below_drew1 | refine below_set ?_ GE111.out | refine below_set ?_ GE112.out | refine below_set ?_ GE113.out) | exact HB.out))))
              (case aL => have := LMc25.out; omega)
              intro v125 w48 ho hb hg hat
              rw [← Ny124.out] at ho
              have n0_ := Aside0.mk (Kd.V_afterv (ok := (fun q => ((P4 q ∨ P5 q ∨ Q4 q ∨ Q5 q) ∨ w.heap.size ≤ q) ∧ some q ≠ (v128 : Value).ownBlock ∧ q ≠ g1 ∧ q ≠ g2 ∧ q ≠ g3)) (by (with_reducible repeat (first | apply Kd.V_alloc | apply Kd.V_drewN | apply Kd.V_drew)); exact Kd.V_mono U4.out (fun _ hk => ⟨⟨hk.1.1.1, ⟨hk.2, ⟨hk.1.1.2.1, ⟨hk.1.1.2.2.1, hk.1.1.2.2.2⟩⟩⟩⟩, hk.1.2⟩)) hg hat)
              have n1_ := Aside0.mk (Kd.V_afterv (ok := (fun q => ((P4 q ∨ P5 q ∨ Q4 q ∨ Q5 q) ∨ w.heap.size ≤ q) ∧ some q ≠ (v128 : Value).ownBlock ∧ q ≠ g1 ∧ q ≠ g2 ∧ q ≠ g3)) (by (with_reducible repeat (first | apply Kd.V_alloc | apply Kd.V_drewN | apply Kd.V_drew)); exact Kd.V_mono U5.out (fun _ hk => ⟨⟨hk.1.1.1, ⟨hk.2, ⟨hk.1.1.2.1, ⟨hk.1.1.2.2.1, hk.1.1.2.2.2⟩⟩⟩⟩, hk.1.2⟩)) hg hat)
              have n2_ := Aside0.mk (Kd.V_afterv (ok := (fun q => ((P4 q ∨ P5 q ∨ Q4 q ∨ Q5 q) ∨ w.heap.size ≤ q) ∧ some q ≠ (v128 : Value).ownBlock ∧ q ≠ g1 ∧ q ≠ g2 ∧ q ≠ g3)) (by (with_reducible repeat (first | apply Kd.V_alloc | apply Kd.V_drewN | apply Kd.V_drew)); exact Kd.V_mono U6.out (fun _ hk => ⟨⟨hk.1.1.1, ⟨hk.2, ⟨hk.1.1.2.1, ⟨hk.1.1.2.2.1, hk.1.1.2.2.2⟩⟩⟩⟩, hk.1.2⟩)) hg hat)
              have n3_ := Aside0.mk (Kd.V_afterv (ok := (fun q => ((P4 q ∨ P5 q ∨ Q4 q ∨ Q5 q) ∨ w.heap.size ≤ q) ∧ some q ≠ (v128 : Value).ownBlock ∧ q ≠ g1 ∧ q ≠ g2 ∧ q ≠ g3)) (by (with_reducible repeat (first | apply Kd.V_alloc | apply Kd.V_drewN | apply Kd.V_drew)); exact Kd.V_mono U7.out (fun _ hk => ⟨⟨hk.1.1.1, ⟨hk.2, ⟨hk.1.1.2.1, ⟨hk.1.1.2.2.1, hk.1.1.2.2.2⟩⟩⟩⟩, hk.1.2⟩)) hg hat)
              have n4_ := Aside0.mk (blk_grown (g := g1) (o := .cells #[.int .i64 a0_0, .int .i64 a0_1, .int .i64 a0_2, .string a0_3, .slice A0_4 l0_4.length c0_4, .slice A0_5 l0_5.length c0_5] 27 (0, 0)) (by (with_reducible repeat (first | refine blk_drewN ?_ _ | refine blk_drew ?_ | refine blk_alloc ?_ _)); exact BK111.out) hg (Kd.R_ne HO118.out BK111.out (by decide)))
              have n5_ := Aside0.mk (blk_grown (g := g2) (o := .cells #[.int .i64 a2_0, .int .i64 a2_1, .int .i64 a2_2, .string a2_3, .slice A2_4 l2_4.length c2_4, .slice A2_5 l2_5.length c2_5] 27 (0, 0)) (by (with_reducible repeat (first | refine blk_drewN ?_ _ | refine blk_drew ?_ | refine blk_alloc ?_ _)); exact BK112.out) hg (Kd.R_ne HO118.out BK112.out (by decide)))
              have n6_ := Aside0.mk (blk_grown (g := g3) (o := .cells #[.int .i64 0, .int .i64 0, .int .i64 0, .string (⟨#[]⟩ : ByteArray), .slice none 0 0, .slice none 0 0] 27 (0, 0)) (by (with_reducible repeat (first | refine blk_drewN ?_ _ | refine blk_drew ?_ | refine blk_alloc ?_ _)); exact BK113.out) hg (Kd.R_ne HO118.out BK113.out (by decide)))
              have n7_ := Aside0.mk (Kd.V_afterv (ok := (fun q => ((P4 q ∨ P5 q ∨ Q4 q ∨ Q5 q) ∨ w.heap.size ≤ q) ∧ some q ≠ (v128 : Value).ownBlock ∧ q ≠ g1 ∧ q ≠ g2 ∧ q ≠ g3)) (by (with_reducible repeat (first | apply Kd.V_alloc | apply Kd.V_drewN | apply Kd.V_drew)); exact Kd.V_mono HO123.out (fun _ hk => ⟨⟨hk.1.1.1, ⟨hk.2, ⟨hk.1.1.2.1, ⟨hk.1.1.2.2.1, hk.1.1.2.2.2⟩⟩⟩⟩, hk.1.2⟩)) hg hat)
              have n8_ := Aside0.mk (Kd.V_afterv (ok := (fun q => ((P4 q ∨ P5 q ∨ Q4 q ∨ Q5 q) ∨ w.heap.size ≤ q) ∧ some q ≠ (v128 : Value).ownBlock ∧ q ≠ g1 ∧ q ≠ g2 ∧ q ≠ g3)) (by (with_reducible repeat (first | apply Kd.V_alloc | apply Kd.V_drewN | apply Kd.V_drew)); exact Kd.V_mono HO137.out (fun _ hk => ⟨⟨hk.1.1.1, ⟨hk.2, ⟨hk.1.1.2.1, ⟨hk.1.1.2.2.1, hk.1.1.2.2.2⟩⟩⟩⟩, hk.1.2⟩)) hg hat)
              have n9_ := Aside0.mk (Kd.R_after (ok := (fun q => (w.heap.size ≤ q))) (by (with_reducible repeat (first | apply Kd.R_alloc | apply Kd.R_drewN | apply Kd.R_drew)); exact Kd.R_mono HO129.out (fun _ hk => ⟨hk.1.1, hk.2⟩)) hg hat)
              have n10_ := Aside0.mk (hb)
              have n11_ := Aside0.mk (ho)
              clear U4
              clear U5
              clear U6
              clear U7
              clear BK111
              clear BK112
              clear BK113
              clear HO123
              clear HO137
              clear HO129
              clear HB
              clear HO118
              have U4 := n0_
              have U5 := n1_
              have U6 := n2_
              have U7 := n3_
              have BK111 := n4_
              have BK112 := n5_
              have BK113 := n6_
              have HO123 := n7_
              have HO137 := n8_
              have HO129 := n9_
              have HB := n10_
              have HO126 := n11_
              clear n0_ n1_ n2_ n3_ n4_ n5_ n6_ n7_ n8_ n9_ n10_ n11_
              clear ho hb hg hat
              refine hK.out _ _ ⟨(blk_cell BK111.out 0).trans rfl, (blk_cell BK111.out 1).trans rfl, (blk_cell BK111.out 2).trans rfl, (blk_cell BK111.out 3).trans rfl, (blk_cell BK111.out 4).trans rfl, (blk_cell BK111.out 5).trans rfl⟩ (fun hHeld => ?_)
              clear hK K
              refine norm_ (a' := ?_) ?_ ?_
              rotate_left
              · show Act.put _ (some 41) _ = _
                simp only [Act.put, List.setIfInBounds_toArray, List.set_cons_zero, List.set_cons_succ, i64_w, i32_w]
                rfl
              exact norm_ (by simp only [putAll, Act.put, List.setIfInBounds_toArray, List.set_cons_zero, List.set_cons_succ]) (hCont (v117, v125, v128) _ ⟨hHeld, (by (with_reducible repeat (first | apply Kd.V_alloc | apply Kd.V_drewN | apply Kd.V_drew)); exact Kd.V_mono HO123.out (fun _ hk => ⟨hk.1.1, ⟨hk.2, ⟨hk.1.2.1, ⟨hk.1.2.2.1, ⟨hk.1.2.2.2.1, hk.1.2.2.2.2⟩⟩⟩⟩⟩)), (by (with_reducible repeat (first | apply Kd.R_alloc | apply Kd.R_drewN | apply Kd.R_drew)); exact HO126.out), (by (with_reducible repeat (first | apply Kd.R_alloc | apply Kd.R_drewN | apply Kd.R_drew)); exact HO129.out), (by (with_reducible repeat (first | apply Kd.V_alloc | apply Kd.V_drewN | apply Kd.V_drew)); exact Kd.V_mono HO137.out (fun _ hk => ⟨hk.1.1, ⟨hk.2, ⟨hk.1.2.1, ⟨hk.1.2.2.1, ⟨hk.1.2.2.2.1, hk.1.2.2.2.2⟩⟩⟩⟩⟩)), (by (with_reducible repeat (first | apply Kd.V_alloc | apply Kd.V_drewN | apply Kd.V_drew)); exact Kd.V_mono U4.out (fun _ hk => ⟨hk.1.1, ⟨hk.2, ⟨hk.1.2.1, ⟨hk.1.2.2.1, ⟨hk.1.2.2.2.1, hk.1.2.2.2.2⟩⟩⟩⟩⟩)), (by (with_reducible repeat (first | apply Kd.V_alloc | apply Kd.V_drewN | apply Kd.V_drew)); exact Kd.V_mono U5.out (fun _ hk => ⟨hk.1.1, ⟨hk.2, ⟨hk.1.2.1, ⟨hk.1.2.2.1, ⟨hk.1.2.2.2.1, hk.1.2.2.2.2⟩⟩⟩⟩⟩)), (by (with_reducible repeat (first | apply Kd.V_alloc | apply Kd.V_drewN | apply Kd.V_drew)); exact Kd.V_mono U6.out (fun _ hk => ⟨hk.1.1, ⟨hk.2, ⟨hk.1.2.1, ⟨hk.1.2.2.1, ⟨hk.1.2.2.2.1, hk.1.2.2.2.2⟩⟩⟩⟩⟩)), (by (with_reducible repeat (first | apply Kd.V_alloc | apply Kd.V_drewN | apply Kd.V_drew)); exact Kd.V_mono U7.out (fun _ hk => ⟨hk.1.1, ⟨hk.2, ⟨hk.1.2.1, ⟨hk.1.2.2.1, ⟨hk.1.2.2.2.1, hk.1.2.2.2.2⟩⟩⟩⟩⟩)), (by (with_reducible repeat (first | refine blk_drewN ?_ _ | refine blk_drew ?_ | refine blk_alloc ?_ _)); exact BK111.out), (by (with_reducible repeat (first | refine blk_drewN ?_ _ | refine blk_drew ?_ | refine blk_alloc ?_ _)); exact BK112.out), (by (with_reducible repeat (first | refine blk_drewN ?_ _ | refine blk_drew ?_ | refine blk_alloc ?_ _)); exact BK113.out), (by repeat (first | (with_reducible first | exact HB.out | apply below_alloc | apply pw_below_drewN | apply below_drew1 | refine below_set ?_ GE111.out | refine below_set ?_ GE112.out | refine below_set ?_ GE113.out) | exact HB.out))⟩)
          · skip
            refine Kd.R_lit_step Kd.string _ 9 ?hg (N := 43) ?hd (xs := ([a1] : List ByteArray)) (inner := [.string a1]) (ok := fun _ => True) (okp := fun _ => True) ?hr ?hp (fun _ hk => hk) trivial (Below.refl _ _) (Nat.le_refl _) (by simp) ?_; (case hd => rfl); (case hg => rfl); (case hr => first | (go_simp; done) | (go_simp; rfl)); (case hp => exact (Reps.one (show Kd.M Kd.string _ _ _ a1 [.string a1] from rfl) (Reps.none _ _)))
            intro v128 w44 ho45 hb hg_ hnew_
            clear hg_ hnew_
            (first | rw [← Ny127.out] at ho45 | (simp only [Int.reduceToNat] at ho45; rw [← Ny127.out] at ho45))
            have n0_ := Aside0.mk (Kd.V_elder' (by (with_reducible repeat (first | apply Kd.V_alloc | apply Kd.V_drewN | apply Kd.V_drew)); exact U4.out) (Kd.R_base ho45) hb)
            have n1_ := Aside0.mk (Kd.V_elder' (by (with_reducible repeat (first | apply Kd.V_alloc | apply Kd.V_drewN | apply Kd.V_drew)); exact U5.out) (Kd.R_base ho45) hb)
            have n2_ := Aside0.mk (Kd.V_elder' (by (with_reducible repeat (first | apply Kd.V_alloc | apply Kd.V_drewN | apply Kd.V_drew)); exact U6.out) (Kd.R_base ho45) hb)
            have n3_ := Aside0.mk (Kd.V_elder' (by (with_reducible repeat (first | apply Kd.V_alloc | apply Kd.V_drewN | apply Kd.V_drew)); exact U7.out) (Kd.R_base ho45) hb)
            have n4_ := Aside0.mk (Kd.V_elder' (by (with_reducible repeat (first | apply Kd.V_alloc | apply Kd.V_drewN | apply Kd.V_drew)); exact HO123.out) (Kd.R_base ho45) hb)
            have n5_ := Aside0.mk (Kd.V_elder' (by (with_reducible repeat (first | apply Kd.V_alloc | apply Kd.V_drewN | apply Kd.V_drew)); exact HO137.out) (Kd.R_base ho45) hb)
            have n6_ := Aside0.mk (Kd.R_lower (Kd.R_newM (M := fun q => (w.heap.size ≤ q)) ho45 (below_size (by repeat (first | (with_reducible first | exact HB.out | apply below_alloc | apply pw_below_drewN | apply below_drew1 | refine below_set ?_ GE111.out | refine below_set ?_ GE112.out | refine below_set ?_ GE113.out) | exact HB.out))) (fun q h_ => h_)) (below_size (by repeat (first | (with_reducible first | exact HB.out | apply below_alloc | apply pw_below_drewN | apply below_drew1 | refine below_set ?_ GE111.out | refine below_set ?_ GE112.out | refine below_set ?_ GE113.out) | exact HB.out))))
            have n7_ := Aside0.mk (blk_below (g := g1) (o := .cells #[.int .i64 a0_0, .int .i64 a0_1, .int .i64 a0_2, .string a0_3, .slice A0_4 l0_4.length c0_4, .slice A0_5 l0_5.length c0_5] 27 (0, 0)) (by (with_reducible repeat (first | refine blk_drewN ?_ _ | refine blk_drew ?_ | refine blk_alloc ?_ _)); exact BK111.out) hb)
            have n8_ := Aside0.mk (blk_below (g := g2) (o := .cells #[.int .i64 a2_0, .int .i64 a2_1, .int .i64 a2_2, .string a2_3, .slice A2_4 l2_4.length c2_4, .slice A2_5 l2_5.length c2_5] 27 (0, 0)) (by (with_reducible repeat (first | refine blk_drewN ?_ _ | refine blk_drew ?_ | refine blk_alloc ?_ _)); exact BK112.out) hb)
            have n9_ := Aside0.mk (blk_below (g := g3) (o := .cells #[.int .i64 0, .int .i64 0, .int .i64 0, .string (⟨#[]⟩ : ByteArray), .slice none 0 0, .slice none 0 0] 27 (0, 0)) (by (with_reducible repeat (first | refine blk_drewN ?_ _ | refine blk_drew ?_ | refine blk_alloc ?_ _)); exact BK113.out) hb)
            have n10_ := Aside0.mk (below_step (by repeat (first | (with_reducible first | exact HB.out | apply below_alloc | apply pw_below_drewN | apply below_drew1 | refine below_set ?_ GE111.out | refine below_set ?_ GE112.out | refine below_set ?_ GE113.out) | exact HB.out)) hb)
            clear U4
            clear U5
            clear U6
            clear U7
            clear HO123
            clear HO137
            clear BK111
            clear BK112
            clear BK113
            clear HB
            have U4 := n0_
            have U5 := n1_
            have U6 := n2_
            have U7 := n3_
            have HO123 := n4_
            have HO137 := n5_
            have HO129 := n6_
            have BK111 := n7_
            have BK112 := n8_
            have BK113 := n9_
            have HB := n10_
            clear n0_ n1_ n2_ n3_ n4_ n5_ n6_ n7_ n8_ n9_ n10_
            clear hb ho45
            refine hK.out _ _ ⟨(blk_cell BK111.out 0).trans rfl, (blk_cell BK111.out 1).trans rfl, (blk_cell BK111.out 2).trans rfl, (blk_cell BK111.out 3).trans rfl, (blk_cell BK111.out 4).trans rfl, (blk_cell BK111.out 5).trans rfl⟩ (fun hHeld => ?_)
            clear hK K
            refine norm_ (a' := ?_) ?_ ?_
            rotate_left
            · show Act.put _ (some 43) _ = _
              simp only [Act.put, List.setIfInBounds_toArray, List.set_cons_zero, List.set_cons_succ, i64_w, i32_w]
              rfl
            refine one_ (i := 0) (N := some 36) #[true, true, true, true, true, false, true, true, false, true, true, true, true, false, false] rfl rfl (one_of HT_.out (by kernel_rfl)) (by decide) (fun K hK => ?_)
            refine Kd.R_lit_step Kd.string _ 9 ?hg (N := 36) ?hd (xs := ([] : List ByteArray)) (inner := []) (ok := fun _ => True) (okp := fun _ => True) ?hr ?hp (fun _ hk => hk) trivial (Below.refl _ _) (Nat.le_refl _) (by simp) ?_; (case hd => rfl); (case hg => rfl); (case hr => first | (go_simp; done) | (go_simp; rfl)); (case hp => exact (Reps.none _ _))
            intro v117 w46 ho47 hb hg_ hnew_
            clear hg_ hnew_
            (first | rw [← Ny116.out] at ho47 | (simp only [Int.reduceToNat] at ho47; rw [← Ny116.out] at ho47))
            have n0_ := Aside0.mk (Kd.V_elder' (by (with_reducible repeat (first | apply Kd.V_alloc | apply Kd.V_drewN | apply Kd.V_drew)); exact U4.out) (Kd.R_base ho47) hb)
            have n1_ := Aside0.mk (Kd.V_elder' (by (with_reducible repeat (first | apply Kd.V_alloc | apply Kd.V_drewN | apply Kd.V_drew)); exact U5.out) (Kd.R_base ho47) hb)
            have n2_ := Aside0.mk (Kd.V_elder' (by (with_reducible repeat (first | apply Kd.V_alloc | apply Kd.V_drewN | apply Kd.V_drew)); exact U6.out) (Kd.R_base ho47) hb)
            have n3_ := Aside0.mk (Kd.V_elder' (by (with_reducible repeat (first | apply Kd.V_alloc | apply Kd.V_drewN | apply Kd.V_drew)); exact U7.out) (Kd.R_base ho47) hb)
            have n4_ := Aside0.mk (Kd.V_elder' (by (with_reducible repeat (first | apply Kd.V_alloc | apply Kd.V_drewN | apply Kd.V_drew)); exact HO123.out) (Kd.R_base ho47) hb)
            have n5_ := Aside0.mk (Kd.V_elder' (by (with_reducible repeat (first | apply Kd.V_alloc | apply Kd.V_drewN | apply Kd.V_drew)); exact HO137.out) (Kd.R_base ho47) hb)
            have n6_ := Aside0.mk (Kd.R_elder' (by (with_reducible repeat (first | apply Kd.R_alloc | apply Kd.R_drewN | apply Kd.R_drew)); exact HO129.out) (Kd.R_base ho47) hb)
            have n7_ := Aside0.mk (Kd.R_lower (Kd.R_new' (Kd.R_newM (M := fun q => (w.heap.size ≤ q)) ho47 (below_size (by repeat (first | (with_reducible first | exact HB.out | apply below_alloc | apply pw_below_drewN | apply below_drew1 | refine below_set ?_ GE111.out | refine below_set ?_ GE112.out | refine below_set ?_ GE113.out) | exact HB.out))) (fun q h_ => h_)) (Kd.R_lt (by (with_reducible repeat (first | apply Kd.R_alloc | apply Kd.R_drewN | apply Kd.R_drew)); exact HO129.out))) (below_size (by repeat (first | (with_reducible first | exact HB.out | apply below_alloc | apply pw_below_drewN | apply below_drew1 | refine below_set ?_ GE111.out | refine below_set ?_ GE112.out | refine below_set ?_ GE113.out) | exact HB.out))))
            have n8_ := Aside0.mk (blk_below (g := g1) (o := .cells #[.int .i64 a0_0, .int .i64 a0_1, .int .i64 a0_2, .string a0_3, .slice A0_4 l0_4.length c0_4, .slice A0_5 l0_5.length c0_5] 27 (0, 0)) (by (with_reducible repeat (first | refine blk_drewN ?_ _ | refine blk_drew ?_ | refine blk_alloc ?_ _)); exact BK111.out) hb)
            have n9_ := Aside0.mk (blk_below (g := g2) (o := .cells #[.int .i64 a2_0, .int .i64 a2_1, .int .i64 a2_2, .string a2_3, .slice A2_4 l2_4.length c2_4, .slice A2_5 l2_5.length c2_5] 27 (0, 0)) (by (with_reducible repeat (first | refine blk_drewN ?_ _ | refine blk_drew ?_ | refine blk_alloc ?_ _)); exact BK112.out) hb)
            have n10_ := Aside0.mk (blk_below (g := g3) (o := .cells #[.int .i64 0, .int .i64 0, .int .i64 0, .string (⟨#[]⟩ : ByteArray), .slice none 0 0, .slice none 0 0] 27 (0, 0)) (by (with_reducible repeat (first | refine blk_drewN ?_ _ | refine blk_drew ?_ | refine blk_alloc ?_ _)); exact BK113.out) hb)
            have n11_ := Aside0.mk (below_step (by repeat (first | (with_reducible first | exact HB.out | apply below_alloc | apply pw_below_drewN | apply below_drew1 | refine below_set ?_ GE111.out | refine below_set ?_ GE112.out | refine below_set ?_ GE113.out) | exact HB.out)) hb)
            clear U4
            clear U5
            clear U6
            clear U7
            clear HO123
            clear HO137
            clear HO129
            clear BK111
            clear BK112
            clear BK113
            clear HB
            have U4 := n0_
            have U5 := n1_
            have U6 := n2_
            have U7 := n3_
            have HO123 := n4_
            have HO137 := n5_
            have HO129 := n6_
            have HO118 := n7_
            have BK111 := n8_
            have BK112 := n9_
            have BK113 := n10_
            have HB := n11_
            clear n0_ n1_ n2_ n3_ n4_ n5_ n6_ n7_ n8_ n9_ n10_ n11_
            clear hb ho47
            refine hK.out _ _ ⟨(blk_cell BK111.out 0).trans rfl, (blk_cell BK111.out 1).trans rfl, (blk_cell BK111.out 2).trans rfl, (blk_cell BK111.out 3).trans rfl, (blk_cell BK111.out 4).trans rfl, (blk_cell BK111.out 5).trans rfl⟩ (fun hHeld => ?_)
            clear hK K
            refine norm_ (a' := ?_) ?_ ?_
            rotate_left
            · show Act.put _ (some 36) _ = _
              simp only [Act.put, List.setIfInBounds_toArray, List.set_cons_zero, List.set_cons_succ, i64_w, i32_w]
              rfl
            refine one_ (i := 5) (N := some 41) #[true, true, true, true, true, true, true, true, false, true, true, true, true, false, false] rfl rfl (one_of HT_.out (by kernel_rfl)) (by decide) (fun K hK => ?_)
            refine Kd.R_append_rows_step Kd.string (w0 := w) w.heap.size (by rfl) (.tmp 36) (.tmp 40) 25 9 (.string ⟨#[]⟩) 16 rfl Try.underlying25 info9 rfl (by decide) (by omega) v117 y116 y119 _ _ _ (fun q => (w.heap.size ≤ q) ∧ some q ≠ (v128 : Value).ownBlock) (fun _ => False) rfl rfl ?aO ?aR (fun _ _ h => h) (fun _ h => h.elim) ?aF ?aB ?aS ?aL ?_
            (case aR => repeat (first | exact (Kd.V_reads' HO123.out).2.2 | (with_reducible refine Kd.C_alloc ?_ _) | (with_reducible refine Kd.C_drewN ?_ _) | (with_reducible refine Kd.C_drew ?_)))
            (case aB => exact (by repeat (first | (with_reducible first | exact HB.out | apply below_alloc | apply pw_below_drewN | apply below_drew1 | refine below_set ?_ GE111.out | refine below_set ?_ GE112.out | refine below_set ?_ GE113.out) | exact HB.out)))
            (case aF => exact (fun q hk => ⟨(Nat.le_trans (below_size (by repeat (first | (with_reducible first | exact HB.out | apply below_alloc | apply pw_below_drewN | apply below_drew1 | refine below_set ?_ GE111.out | refine below_set ?_ GE112.out | refine below_set ?_ GE113.out) | exact HB.out))) hk), Kd.fresh' (Kd.R_lt (by (with_reducible repeat (first | apply Kd.R_alloc | apply Kd.R_drewN | apply Kd.R_drew)); exact HO129.out)) q hk⟩))
            (case aO => exact (by (with_reducible repeat (first | apply Kd.R_alloc | apply Kd.R_drewN | apply Kd.R_drew)); exact Kd.R_mono HO118.out (fun _ hk => ⟨hk.1.1, hk.2⟩)))
            (case aS => exact (below_size (by repeat (first | (with_reducible first | exact HB.out | apply below_alloc | apply pw_below_drewN | apply below_drew1 | refine below_set ?_ GE111.out | refine below_set ?_ GE112.out | refine below_set ?_ GE113.out) | exact HB.out))))
            (case aL => have := LMc25.out; omega)
            intro v125 w48 ho hb hg hat
            rw [← Ny124.out] at ho
            have n0_ := Aside0.mk (Kd.V_afterv (ok := (fun q => ((P4 q ∨ P5 q ∨ Q4 q ∨ Q5 q) ∨ w.heap.size ≤ q) ∧ some q ≠ (v128 : Value).ownBlock ∧ q ≠ g1 ∧ q ≠ g2 ∧ q ≠ g3)) (by (with_reducible repeat (first | apply Kd.V_alloc | apply Kd.V_drewN | apply Kd.V_drew)); exact Kd.V_mono U4.out (fun _ hk => ⟨⟨hk.1.1.1, ⟨hk.1.2, ⟨hk.1.1.2.1, ⟨hk.1.1.2.2.1, hk.1.1.2.2.2⟩⟩⟩⟩, hk.2⟩)) hg hat)
            have n1_ := Aside0.mk (Kd.V_afterv (ok := (fun q => ((P4 q ∨ P5 q ∨ Q4 q ∨ Q5 q) ∨ w.heap.size ≤ q) ∧ some q ≠ (v128 : Value).ownBlock ∧ q ≠ g1 ∧ q ≠ g2 ∧ q ≠ g3)) (by (with_reducible repeat (first | apply Kd.V_alloc | apply Kd.V_drewN | apply Kd.V_drew)); exact Kd.V_mono U5.out (fun _ hk => ⟨⟨hk.1.1.1, ⟨hk.1.2, ⟨hk.1.1.2.1, ⟨hk.1.1.2.2.1, hk.1.1.2.2.2⟩⟩⟩⟩, hk.2⟩)) hg hat)
            have n2_ := Aside0.mk (Kd.V_afterv (ok := (fun q => ((P4 q ∨ P5 q ∨ Q4 q ∨ Q5 q) ∨ w.heap.size ≤ q) ∧ some q ≠ (v128 : Value).ownBlock ∧ q ≠ g1 ∧ q ≠ g2 ∧ q ≠ g3)) (by (with_reducible repeat (first | apply Kd.V_alloc | apply Kd.V_drewN | apply Kd.V_drew)); exact Kd.V_mono U6.out (fun _ hk => ⟨⟨hk.1.1.1, ⟨hk.1.2, ⟨hk.1.1.2.1, ⟨hk.1.1.2.2.1, hk.1.1.2.2.2⟩⟩⟩⟩, hk.2⟩)) hg hat)
            have n3_ := Aside0.mk (Kd.V_afterv (ok := (fun q => ((P4 q ∨ P5 q ∨ Q4 q ∨ Q5 q) ∨ w.heap.size ≤ q) ∧ some q ≠ (v128 : Value).ownBlock ∧ q ≠ g1 ∧ q ≠ g2 ∧ q ≠ g3)) (by (with_reducible repeat (first | apply Kd.V_alloc | apply Kd.V_drewN | apply Kd.V_drew)); exact Kd.V_mono U7.out (fun _ hk => ⟨⟨hk.1.1.1, ⟨hk.1.2, ⟨hk.1.1.2.1, ⟨hk.1.1.2.2.1, hk.1.1.2.2.2⟩⟩⟩⟩, hk.2⟩)) hg hat)
            have n4_ := Aside0.mk (blk_grown (g := g1) (o := .cells #[.int .i64 a0_0, .int .i64 a0_1, .int .i64 a0_2, .string a0_3, .slice A0_4 l0_4.length c0_4, .slice A0_5 l0_5.length c0_5] 27 (0, 0)) (by (with_reducible repeat (first | refine blk_drewN ?_ _ | refine blk_drew ?_ | refine blk_alloc ?_ _)); exact BK111.out) hg (Kd.R_ne HO118.out BK111.out (by decide)))
            have n5_ := Aside0.mk (blk_grown (g := g2) (o := .cells #[.int .i64 a2_0, .int .i64 a2_1, .int .i64 a2_2, .string a2_3, .slice A2_4 l2_4.length c2_4, .slice A2_5 l2_5.length c2_5] 27 (0, 0)) (by (with_reducible repeat (first | refine blk_drewN ?_ _ | refine blk_drew ?_ | refine blk_alloc ?_ _)); exact BK112.out) hg (Kd.R_ne HO118.out BK112.out (by decide)))
            have n6_ := Aside0.mk (blk_grown (g := g3) (o := .cells #[.int .i64 0, .int .i64 0, .int .i64 0, .string (⟨#[]⟩ : ByteArray), .slice none 0 0, .slice none 0 0] 27 (0, 0)) (by (with_reducible repeat (first | refine blk_drewN ?_ _ | refine blk_drew ?_ | refine blk_alloc ?_ _)); exact BK113.out) hg (Kd.R_ne HO118.out BK113.out (by decide)))
            have n7_ := Aside0.mk (Kd.V_afterv (ok := (fun q => ((P4 q ∨ P5 q ∨ Q4 q ∨ Q5 q) ∨ w.heap.size ≤ q) ∧ some q ≠ (v128 : Value).ownBlock ∧ q ≠ g1 ∧ q ≠ g2 ∧ q ≠ g3)) (by (with_reducible repeat (first | apply Kd.V_alloc | apply Kd.V_drewN | apply Kd.V_drew)); exact Kd.V_mono HO123.out (fun _ hk => ⟨⟨hk.1.1.1, ⟨hk.1.2, ⟨hk.1.1.2.1, ⟨hk.1.1.2.2.1, hk.1.1.2.2.2⟩⟩⟩⟩, hk.2⟩)) hg hat)
            have n8_ := Aside0.mk (Kd.V_afterv (ok := (fun q => ((P4 q ∨ P5 q ∨ Q4 q ∨ Q5 q) ∨ w.heap.size ≤ q) ∧ some q ≠ (v128 : Value).ownBlock ∧ q ≠ g1 ∧ q ≠ g2 ∧ q ≠ g3)) (by (with_reducible repeat (first | apply Kd.V_alloc | apply Kd.V_drewN | apply Kd.V_drew)); exact Kd.V_mono HO137.out (fun _ hk => ⟨⟨hk.1.1.1, ⟨hk.1.2, ⟨hk.1.1.2.1, ⟨hk.1.1.2.2.1, hk.1.1.2.2.2⟩⟩⟩⟩, hk.2⟩)) hg hat)
            have n9_ := Aside0.mk (Kd.R_after (ok := (fun q => (w.heap.size ≤ q))) (by (with_reducible repeat (first | apply Kd.R_alloc | apply Kd.R_drewN | apply Kd.R_drew)); exact Kd.R_mono HO129.out (fun _ hk => ⟨hk.1.1, hk.2⟩)) hg hat)
            have n10_ := Aside0.mk (hb)
            have n11_ := Aside0.mk (ho)
            clear U4
            clear U5
            clear U6
            clear U7
            clear BK111
            clear BK112
            clear BK113
            clear HO123
            clear HO137
            clear HO129
            clear HB
            clear HO118
            have U4 := n0_
            have U5 := n1_
            have U6 := n2_
            have U7 := n3_
            have BK111 := n4_
            have BK112 := n5_
            have BK113 := n6_
            have HO123 := n7_
            have HO137 := n8_
            have HO129 := n9_
            have HB := n10_
            have HO126 := n11_
            clear n0_ n1_ n2_ n3_ n4_ n5_ n6_ n7_ n8_ n9_ n10_ n11_
            clear ho hb hg hat
            refine hK.out _ _ ⟨(blk_cell BK111.out 0).trans rfl, (blk_cell BK111.out 1).trans rfl, (blk_cell BK111.out 2).trans rfl, (blk_cell BK111.out 3).trans rfl, (blk_cell BK111.out 4).trans rfl, (blk_cell BK111.out 5).trans rfl⟩ (fun hHeld => ?_)
            clear hK K
            refine norm_ (a' := ?_) ?_ ?_
            rotate_left
            · show Act.put _ (some 41) _ = _
              simp only [Act.put, List.setIfInBounds_toArray, List.set_cons_zero, List.set_cons_succ, i64_w, i32_w]
              rfl
            exact norm_ (by simp only [putAll, Act.put, List.setIfInBounds_toArray, List.set_cons_zero, List.set_cons_succ]) (hCont (v117, v125, v128) _ ⟨hHeld, (by (with_reducible repeat (first | apply Kd.V_alloc | apply Kd.V_drewN | apply Kd.V_drew)); exact Kd.V_mono HO123.out (fun _ hk => ⟨hk.1.1, ⟨hk.2, ⟨hk.1.2.1, ⟨hk.1.2.2.1, ⟨hk.1.2.2.2.1, hk.1.2.2.2.2⟩⟩⟩⟩⟩)), (by (with_reducible repeat (first | apply Kd.R_alloc | apply Kd.R_drewN | apply Kd.R_drew)); exact HO126.out), (by (with_reducible repeat (first | apply Kd.R_alloc | apply Kd.R_drewN | apply Kd.R_drew)); exact HO129.out), (by (with_reducible repeat (first | apply Kd.V_alloc | apply Kd.V_drewN | apply Kd.V_drew)); exact Kd.V_mono HO137.out (fun _ hk => ⟨hk.1.1, ⟨hk.2, ⟨hk.1.2.1, ⟨hk.1.2.2.1, ⟨hk.1.2.2.2.1, hk.1.2.2.2.2⟩⟩⟩⟩⟩)), (by (with_reducible repeat (first | apply Kd.V_alloc | apply Kd.V_drewN | apply Kd.V_drew)); exact Kd.V_mono U4.out (fun _ hk => ⟨hk.1.1, ⟨hk.2, ⟨hk.1.2.1, ⟨hk.1.2.2.1, ⟨hk.1.2.2.2.1, hk.1.2.2.2.2⟩⟩⟩⟩⟩)), (by (with_reducible repeat (first | apply Kd.V_alloc | apply Kd.V_drewN | apply Kd.V_drew)); exact Kd.V_mono U5.out (fun _ hk => ⟨hk.1.1, ⟨hk.2, ⟨hk.1.2.1, ⟨hk.1.2.2.1, ⟨hk.1.2.2.2.1, hk.1.2.2.2.2⟩⟩⟩⟩⟩)), (by (with_reducible repeat (first | apply Kd.V_alloc | apply Kd.V_drewN | apply Kd.V_drew)); exact Kd.V_mono U6.out (fun _ hk => ⟨hk.1.1, ⟨hk.2, ⟨hk.1.2.1, ⟨hk.1.2.2.1, ⟨hk.1.2.2.2.1, hk.1.2.2.2.2⟩⟩⟩⟩⟩)), (by (with_reducible repeat (first | apply Kd.V_alloc | apply Kd.V_drewN | apply Kd.V_drew)); exact Kd.V_mono U7.out (fun _ hk => ⟨hk.1.1, ⟨hk.2, ⟨hk.1.2.1, ⟨hk.1.2.2.1, ⟨hk.1.2.2.2.1, hk.1.2.2.2.2⟩⟩⟩⟩⟩)), (by (with_reducible repeat (first | refine blk_drewN ?_ _ | refine blk_drew ?_ | refine blk_alloc ?_ _)); exact BK111.out), (by (with_reducible repeat (first | refine blk_drewN ?_ _ | refine blk_drew ?_ | refine blk_alloc ?_ _)); exact BK112.out), (by (with_reducible repeat (first | refine blk_drewN ?_ _ | refine blk_drew ?_ | refine blk_alloc ?_ _)); exact BK113.out), (by repeat (first | (with_reducible first | exact HB.out | apply below_alloc | apply pw_below_drewN | apply below_drew1 | refine below_set ?_ GE111.out | refine below_set ?_ GE112.out | refine below_set ?_ GE113.out) | exact HB.out))⟩)
        rintro ⟨v117, v125, v128⟩ w49 ⟨hS_, h0_, h1_, h2_, h3_, h4_, h5_, h6_, h7_, h8_, h9_, h10_, h11_⟩
        have n0_ : Aside0 (Kd.V Kd.string 9 w49 w.heap.size (fun q => ((P4 q ∨ P5 q ∨ Q4 q ∨ Q5 q) ∨ w.heap.size ≤ q) ∧ some q ≠ (v125 : Value).ownBlock ∧ some q ≠ (v128 : Value).ownBlock ∧ q ≠ g1 ∧ q ≠ g2 ∧ q ≠ g3) (.slice A0_5 y119.length c0_5) y119) := ⟨h0_⟩
        have n1_ : Aside0 (Kd.R Kd.string 9 w49 w.heap.size (fun q => (w.heap.size ≤ q) ∧ some q ≠ (v128 : Value).ownBlock) v125 y124) := ⟨h1_⟩
        have n2_ : Aside0 (Kd.R Kd.string 9 w49 w.heap.size (fun q => (w.heap.size ≤ q) ∧ some q ≠ (v125 : Value).ownBlock) v128 y127) := ⟨h2_⟩
        have n3_ : Aside0 (Kd.V Kd.string 9 w49 w.heap.size (fun q => ((P4 q ∨ P5 q ∨ Q4 q ∨ Q5 q) ∨ w.heap.size ≤ q) ∧ some q ≠ (v125 : Value).ownBlock ∧ some q ≠ (v128 : Value).ownBlock ∧ q ≠ g1 ∧ q ≠ g2 ∧ q ≠ g3) (.slice A43 y133.length c43) y133) := ⟨h3_⟩
        have n4_ : Aside0 (Kd.V k27 27 w49 w.heap.size (fun q => ((P4 q ∨ P5 q ∨ Q4 q ∨ Q5 q) ∨ w.heap.size ≤ q) ∧ some q ≠ (v125 : Value).ownBlock ∧ some q ≠ (v128 : Value).ownBlock ∧ q ≠ g1 ∧ q ≠ g2 ∧ q ≠ g3) (.slice A0_4 l0_4.length c0_4) l0_4) := ⟨h4_⟩
        have n5_ : Aside0 (Kd.V Kd.string 9 w49 w.heap.size (fun q => ((P4 q ∨ P5 q ∨ Q4 q ∨ Q5 q) ∨ w.heap.size ≤ q) ∧ some q ≠ (v125 : Value).ownBlock ∧ some q ≠ (v128 : Value).ownBlock ∧ q ≠ g1 ∧ q ≠ g2 ∧ q ≠ g3) (.slice A0_5 l0_5.length c0_5) l0_5) := ⟨h5_⟩
        have n6_ : Aside0 (Kd.V k27 27 w49 w.heap.size (fun q => ((P4 q ∨ P5 q ∨ Q4 q ∨ Q5 q) ∨ w.heap.size ≤ q) ∧ some q ≠ (v125 : Value).ownBlock ∧ some q ≠ (v128 : Value).ownBlock ∧ q ≠ g1 ∧ q ≠ g2 ∧ q ≠ g3) (.slice A2_4 l2_4.length c2_4) l2_4) := ⟨h6_⟩
        have n7_ : Aside0 (Kd.V Kd.string 9 w49 w.heap.size (fun q => ((P4 q ∨ P5 q ∨ Q4 q ∨ Q5 q) ∨ w.heap.size ≤ q) ∧ some q ≠ (v125 : Value).ownBlock ∧ some q ≠ (v128 : Value).ownBlock ∧ q ≠ g1 ∧ q ≠ g2 ∧ q ≠ g3) (.slice A2_5 l2_5.length c2_5) l2_5) := ⟨h7_⟩
        have n8_ : Aside0 (w49.heap[g1]? = some (.cells #[.int .i64 a0_0, .int .i64 a0_1, .int .i64 a0_2, .string a0_3, .slice A0_4 l0_4.length c0_4, .slice A0_5 l0_5.length c0_5] 27 (0, 0))) := ⟨h8_⟩
        have n9_ : Aside0 (w49.heap[g2]? = some (.cells #[.int .i64 a2_0, .int .i64 a2_1, .int .i64 a2_2, .string a2_3, .slice A2_4 l2_4.length c2_4, .slice A2_5 l2_5.length c2_5] 27 (0, 0))) := ⟨h9_⟩
        have n10_ : Aside0 (w49.heap[g3]? = some (.cells #[.int .i64 0, .int .i64 0, .int .i64 0, .string (⟨#[]⟩ : ByteArray), .slice none 0 0, .slice none 0 0] 27 (0, 0))) := ⟨h10_⟩
        have n11_ : Aside0 (Below w.heap.size w w49) := ⟨h11_⟩
        clear U4
        clear U5
        clear U6
        clear U7
        clear BK111
        clear BK112
        clear BK113
        clear HB
        clear h0_ h1_ h2_ h3_ h4_ h5_ h6_ h7_ h8_ h9_ h10_ h11_
        have HO123 := n0_
        have HO126 := n1_
        have HO129 := n2_
        have HO137 := n3_
        have U4 := n4_
        have U5 := n5_
        have U6 := n6_
        have U7 := n7_
        have BK111 := n8_
        have BK112 := n9_
        have BK113 := n10_
        have HB := n11_
        clear n0_ n1_ n2_ n3_ n4_ n5_ n6_ n7_ n8_ n9_ n10_ n11_
        have hHeld : w49.cell? ⟨g1, 0, none⟩ = some (.int .i64 a0_0) ∧ w49.cell? ⟨g1, 1, none⟩ = some (.int .i64 a0_1) ∧ w49.cell? ⟨g1, 2, none⟩ = some (.int .i64 a0_2) ∧ w49.cell? ⟨g1, 3, none⟩ = some (.string a0_3) ∧ w49.cell? ⟨g1, 4, none⟩ = some (.slice A0_4 l0_4.length c0_4) ∧ w49.cell? ⟨g1, 5, none⟩ = some (.slice A0_5 l0_5.length c0_5) := hS_
        obtain ⟨Ao51, co51, eo51⟩ := Kd.R_slice HO129.out
        (first | subst eo51 | (injection eo51 with f1_ f2_ f3_; have f4_ := f1_.symm; have f5_ := f3_.symm; clear f1_ f2_ f3_; subst f4_; subst f5_))
        refine norm_ (a' := ?_) ?_ ?_
        rotate_left
        · simp only [putAll, Act.put, List.setIfInBounds_toArray, List.set_cons_zero, List.set_cons_succ]
          rfl
        refine one_ (i := 8) (N := some 44) #[true, true, true, true, true, true, true, true, true, true, true, true, true, false, false] rfl rfl (one_of HT_.out (by kernel_rfl)) (by decide) (fun K hK => ?_)
        refine Kd.R_append_rows_step Kd.string (w0 := w) w.heap.size (by rfl) (.tmp 41) (.tmp 43) 25 9 (.string ⟨#[]⟩) 16 rfl Try.underlying25 info9 rfl (by decide) (by omega) v125 y124 y127 _ _ _ (fun q => (w.heap.size ≤ q) ∧ some q ≠ (.slice Ao51 y127.length co51 : Value).ownBlock) (fun _ => False) rfl rfl ?aO ?aR (fun _ _ h => h) (fun _ h => h.elim) ?aF ?aB ?aS ?aL ?_
        (case aR => repeat (first | exact (Kd.R_reads' HO129.out).2.2 | (with_reducible refine Kd.C_alloc ?_ _) | (with_reducible refine Kd.C_drewN ?_ _) | (with_reducible refine Kd.C_drew ?_)))
        (case aB => exact (by repeat (first | (with_reducible first | exact HB.out | apply below_alloc | apply pw_below_drewN | apply below_drew1 | refine below_set ?_ GE111.out | refine below_set ?_ GE112.out | refine below_set ?_ GE113.out) | exact HB.out)))
        (case aF => exact (fun q hk => ⟨(Nat.le_trans (below_size (by repeat (first | (with_reducible first | exact HB.out | apply below_alloc | apply pw_below_drewN | apply below_drew1 | refine below_set ?_ GE111.out | refine below_set ?_ GE112.out | refine below_set ?_ GE113.out) | exact HB.out))) hk), Kd.fresh' (Kd.R_lt (by (with_reducible repeat (first | apply Kd.R_alloc | apply Kd.R_drewN | apply Kd.R_drew)); exact HO129.out)) q hk⟩))
        (case aO => exact (by (with_reducible repeat (first | apply Kd.R_alloc | apply Kd.R_drewN | apply Kd.R_drew)); exact HO126.out))
        (case aS => exact (below_size (by repeat (first | (with_reducible first | exact HB.out | apply below_alloc | apply pw_below_drewN | apply below_drew1 | refine below_set ?_ GE111.out | refine below_set ?_ GE112.out | refine below_set ?_ GE113.out) | exact HB.out))))
        (case aL => have := LMc26.out; omega)
        intro v131 w50 ho hb hg hat
        rw [← Ny130.out] at ho
        have n0_ := Aside0.mk (Kd.V_afterv (ok := (fun q => ((P4 q ∨ P5 q ∨ Q4 q ∨ Q5 q) ∨ w.heap.size ≤ q) ∧ some q ≠ (.slice Ao51 y127.length co51 : Value).ownBlock ∧ q ≠ g1 ∧ q ≠ g2 ∧ q ≠ g3)) (by (with_reducible repeat (first | apply Kd.V_alloc | apply Kd.V_drewN | apply Kd.V_drew)); exact Kd.V_mono U4.out (fun _ hk => ⟨⟨hk.1, ⟨hk.2.2.1, ⟨hk.2.2.2.1, ⟨hk.2.2.2.2.1, hk.2.2.2.2.2⟩⟩⟩⟩, hk.2.1⟩)) hg hat)
        have n1_ := Aside0.mk (Kd.V_afterv (ok := (fun q => ((P4 q ∨ P5 q ∨ Q4 q ∨ Q5 q) ∨ w.heap.size ≤ q) ∧ some q ≠ (.slice Ao51 y127.length co51 : Value).ownBlock ∧ q ≠ g1 ∧ q ≠ g2 ∧ q ≠ g3)) (by (with_reducible repeat (first | apply Kd.V_alloc | apply Kd.V_drewN | apply Kd.V_drew)); exact Kd.V_mono U5.out (fun _ hk => ⟨⟨hk.1, ⟨hk.2.2.1, ⟨hk.2.2.2.1, ⟨hk.2.2.2.2.1, hk.2.2.2.2.2⟩⟩⟩⟩, hk.2.1⟩)) hg hat)
        have n2_ := Aside0.mk (Kd.V_afterv (ok := (fun q => ((P4 q ∨ P5 q ∨ Q4 q ∨ Q5 q) ∨ w.heap.size ≤ q) ∧ some q ≠ (.slice Ao51 y127.length co51 : Value).ownBlock ∧ q ≠ g1 ∧ q ≠ g2 ∧ q ≠ g3)) (by (with_reducible repeat (first | apply Kd.V_alloc | apply Kd.V_drewN | apply Kd.V_drew)); exact Kd.V_mono U6.out (fun _ hk => ⟨⟨hk.1, ⟨hk.2.2.1, ⟨hk.2.2.2.1, ⟨hk.2.2.2.2.1, hk.2.2.2.2.2⟩⟩⟩⟩, hk.2.1⟩)) hg hat)
        have n3_ := Aside0.mk (Kd.V_afterv (ok := (fun q => ((P4 q ∨ P5 q ∨ Q4 q ∨ Q5 q) ∨ w.heap.size ≤ q) ∧ some q ≠ (.slice Ao51 y127.length co51 : Value).ownBlock ∧ q ≠ g1 ∧ q ≠ g2 ∧ q ≠ g3)) (by (with_reducible repeat (first | apply Kd.V_alloc | apply Kd.V_drewN | apply Kd.V_drew)); exact Kd.V_mono U7.out (fun _ hk => ⟨⟨hk.1, ⟨hk.2.2.1, ⟨hk.2.2.2.1, ⟨hk.2.2.2.2.1, hk.2.2.2.2.2⟩⟩⟩⟩, hk.2.1⟩)) hg hat)
        have n4_ := Aside0.mk (blk_grown (g := g1) (o := .cells #[.int .i64 a0_0, .int .i64 a0_1, .int .i64 a0_2, .string a0_3, .slice A0_4 l0_4.length c0_4, .slice A0_5 l0_5.length c0_5] 27 (0, 0)) (by (with_reducible repeat (first | refine blk_drewN ?_ _ | refine blk_drew ?_ | refine blk_alloc ?_ _)); exact BK111.out) hg (Kd.R_ne HO126.out BK111.out (by decide)))
        have n5_ := Aside0.mk (blk_grown (g := g2) (o := .cells #[.int .i64 a2_0, .int .i64 a2_1, .int .i64 a2_2, .string a2_3, .slice A2_4 l2_4.length c2_4, .slice A2_5 l2_5.length c2_5] 27 (0, 0)) (by (with_reducible repeat (first | refine blk_drewN ?_ _ | refine blk_drew ?_ | refine blk_alloc ?_ _)); exact BK112.out) hg (Kd.R_ne HO126.out BK112.out (by decide)))
        have n6_ := Aside0.mk (blk_grown (g := g3) (o := .cells #[.int .i64 0, .int .i64 0, .int .i64 0, .string (⟨#[]⟩ : ByteArray), .slice none 0 0, .slice none 0 0] 27 (0, 0)) (by (with_reducible repeat (first | refine blk_drewN ?_ _ | refine blk_drew ?_ | refine blk_alloc ?_ _)); exact BK113.out) hg (Kd.R_ne HO126.out BK113.out (by decide)))
        have n7_ := Aside0.mk (Kd.V_afterv (ok := (fun q => ((P4 q ∨ P5 q ∨ Q4 q ∨ Q5 q) ∨ w.heap.size ≤ q) ∧ some q ≠ (.slice Ao51 y127.length co51 : Value).ownBlock ∧ q ≠ g1 ∧ q ≠ g2 ∧ q ≠ g3)) (by (with_reducible repeat (first | apply Kd.V_alloc | apply Kd.V_drewN | apply Kd.V_drew)); exact Kd.V_mono HO123.out (fun _ hk => ⟨⟨hk.1, ⟨hk.2.2.1, ⟨hk.2.2.2.1, ⟨hk.2.2.2.2.1, hk.2.2.2.2.2⟩⟩⟩⟩, hk.2.1⟩)) hg hat)
        have n8_ := Aside0.mk (Kd.V_afterv (ok := (fun q => ((P4 q ∨ P5 q ∨ Q4 q ∨ Q5 q) ∨ w.heap.size ≤ q) ∧ some q ≠ (.slice Ao51 y127.length co51 : Value).ownBlock ∧ q ≠ g1 ∧ q ≠ g2 ∧ q ≠ g3)) (by (with_reducible repeat (first | apply Kd.V_alloc | apply Kd.V_drewN | apply Kd.V_drew)); exact Kd.V_mono HO137.out (fun _ hk => ⟨⟨hk.1, ⟨hk.2.2.1, ⟨hk.2.2.2.1, ⟨hk.2.2.2.2.1, hk.2.2.2.2.2⟩⟩⟩⟩, hk.2.1⟩)) hg hat)
        have n9_ := Aside0.mk (Kd.R_after (ok := (fun q => (w.heap.size ≤ q))) (by (with_reducible repeat (first | apply Kd.R_alloc | apply Kd.R_drewN | apply Kd.R_drew)); exact HO129.out) hg hat)
        have n10_ := Aside0.mk (hb)
        have n11_ := Aside0.mk (ho)
        clear U4
        clear U5
        clear U6
        clear U7
        clear BK111
        clear BK112
        clear BK113
        clear HO123
        clear HO137
        clear HO129
        clear HB
        clear HO126
        have U4 := n0_
        have U5 := n1_
        have U6 := n2_
        have U7 := n3_
        have BK111 := n4_
        have BK112 := n5_
        have BK113 := n6_
        have HO123 := n7_
        have HO137 := n8_
        have HO129 := n9_
        have HB := n10_
        have HO132 := n11_
        clear n0_ n1_ n2_ n3_ n4_ n5_ n6_ n7_ n8_ n9_ n10_ n11_
        clear ho hb hg hat
        refine hK.out _ _ ⟨(blk_cell BK111.out 0).trans rfl, (blk_cell BK111.out 1).trans rfl, (blk_cell BK111.out 2).trans rfl, (blk_cell BK111.out 3).trans rfl, (blk_cell BK111.out 4).trans rfl, (blk_cell BK111.out 5).trans rfl⟩ (fun hHeld => ?_)
        clear hK K
        refine norm_ (a' := ?_) ?_ ?_
        rotate_left
        · show Act.put _ (some 44) _ = _
          simp only [Act.put, List.setIfInBounds_toArray, List.set_cons_zero, List.set_cons_succ, i64_w, i32_w]
          rfl
        refine one_ (i := 13) (N := some 49) #[true, true, true, true, true, true, true, true, true, true, true, true, true, true, false] rfl rfl (one_of HT_.out (by kernel_rfl)) (by decide) (fun K hK => ?_)
        refine Kd.R_append_rows_step Kd.string (w0 := w) w.heap.size (by rfl) (.tmp 44) (.tmp 48) 25 9 (.string ⟨#[]⟩) 16 rfl Try.underlying25 info9 rfl (by decide) (by omega) v131 y130 y133 _ _ _ (fun q => (w.heap.size ≤ q) ∧ some q ≠ (.slice Ao51 y127.length co51 : Value).ownBlock) (fun _ => False) rfl rfl ?aO ?aR (fun _ _ h => h) (fun _ h => h.elim) ?aF ?aB ?aS ?aL ?_
        (case aR => repeat (first | exact (Kd.V_reads' HO137.out).2.2 | (with_reducible refine Kd.C_alloc ?_ _) | (with_reducible refine Kd.C_drewN ?_ _) | (with_reducible refine Kd.C_drew ?_)))
        (case aB => exact (by repeat (first | (with_reducible first | exact HB.out | apply below_alloc | apply pw_below_drewN | apply below_drew1 | refine below_set ?_ GE111.out | refine below_set ?_ GE112.out | refine below_set ?_ GE113.out) | exact HB.out)))
        (case aF => exact (fun q hk => ⟨(Nat.le_trans (below_size (by repeat (first | (with_reducible first | exact HB.out | apply below_alloc | apply pw_below_drewN | apply below_drew1 | refine below_set ?_ GE111.out | refine below_set ?_ GE112.out | refine below_set ?_ GE113.out) | exact HB.out))) hk), Kd.fresh' (Kd.R_lt (by (with_reducible repeat (first | apply Kd.R_alloc | apply Kd.R_drewN | apply Kd.R_drew)); exact HO129.out)) q hk⟩))
        (case aO => exact (by (with_reducible repeat (first | apply Kd.R_alloc | apply Kd.R_drewN | apply Kd.R_drew)); exact HO132.out))
        (case aS => exact (below_size (by repeat (first | (with_reducible first | exact HB.out | apply below_alloc | apply pw_below_drewN | apply below_drew1 | refine below_set ?_ GE111.out | refine below_set ?_ GE112.out | refine below_set ?_ GE113.out) | exact HB.out))))
        (case aL => have := LMc30.out; omega)
        intro v139 w52 ho hb hg hat
        rw [← Ny138.out] at ho
        have n0_ := Aside0.mk (Kd.V_afterv (ok := (fun q => ((P4 q ∨ P5 q ∨ Q4 q ∨ Q5 q) ∨ w.heap.size ≤ q) ∧ some q ≠ (.slice Ao51 y127.length co51 : Value).ownBlock ∧ q ≠ g1 ∧ q ≠ g2 ∧ q ≠ g3)) (by (with_reducible repeat (first | apply Kd.V_alloc | apply Kd.V_drewN | apply Kd.V_drew)); exact U4.out) hg hat)
        have n1_ := Aside0.mk (Kd.V_afterv (ok := (fun q => ((P4 q ∨ P5 q ∨ Q4 q ∨ Q5 q) ∨ w.heap.size ≤ q) ∧ some q ≠ (.slice Ao51 y127.length co51 : Value).ownBlock ∧ q ≠ g1 ∧ q ≠ g2 ∧ q ≠ g3)) (by (with_reducible repeat (first | apply Kd.V_alloc | apply Kd.V_drewN | apply Kd.V_drew)); exact U5.out) hg hat)
        have n2_ := Aside0.mk (Kd.V_afterv (ok := (fun q => ((P4 q ∨ P5 q ∨ Q4 q ∨ Q5 q) ∨ w.heap.size ≤ q) ∧ some q ≠ (.slice Ao51 y127.length co51 : Value).ownBlock ∧ q ≠ g1 ∧ q ≠ g2 ∧ q ≠ g3)) (by (with_reducible repeat (first | apply Kd.V_alloc | apply Kd.V_drewN | apply Kd.V_drew)); exact U6.out) hg hat)
        have n3_ := Aside0.mk (Kd.V_afterv (ok := (fun q => ((P4 q ∨ P5 q ∨ Q4 q ∨ Q5 q) ∨ w.heap.size ≤ q) ∧ some q ≠ (.slice Ao51 y127.length co51 : Value).ownBlock ∧ q ≠ g1 ∧ q ≠ g2 ∧ q ≠ g3)) (by (with_reducible repeat (first | apply Kd.V_alloc | apply Kd.V_drewN | apply Kd.V_drew)); exact U7.out) hg hat)
        have n4_ := Aside0.mk (blk_grown (g := g1) (o := .cells #[.int .i64 a0_0, .int .i64 a0_1, .int .i64 a0_2, .string a0_3, .slice A0_4 l0_4.length c0_4, .slice A0_5 l0_5.length c0_5] 27 (0, 0)) (by (with_reducible repeat (first | refine blk_drewN ?_ _ | refine blk_drew ?_ | refine blk_alloc ?_ _)); exact BK111.out) hg (Kd.R_ne HO132.out BK111.out (by decide)))
        have n5_ := Aside0.mk (blk_grown (g := g2) (o := .cells #[.int .i64 a2_0, .int .i64 a2_1, .int .i64 a2_2, .string a2_3, .slice A2_4 l2_4.length c2_4, .slice A2_5 l2_5.length c2_5] 27 (0, 0)) (by (with_reducible repeat (first | refine blk_drewN ?_ _ | refine blk_drew ?_ | refine blk_alloc ?_ _)); exact BK112.out) hg (Kd.R_ne HO132.out BK112.out (by decide)))
        have n6_ := Aside0.mk (blk_grown (g := g3) (o := .cells #[.int .i64 0, .int .i64 0, .int .i64 0, .string (⟨#[]⟩ : ByteArray), .slice none 0 0, .slice none 0 0] 27 (0, 0)) (by (with_reducible repeat (first | refine blk_drewN ?_ _ | refine blk_drew ?_ | refine blk_alloc ?_ _)); exact BK113.out) hg (Kd.R_ne HO132.out BK113.out (by decide)))
        have n7_ := Aside0.mk (Kd.V_afterv (ok := (fun q => ((P4 q ∨ P5 q ∨ Q4 q ∨ Q5 q) ∨ w.heap.size ≤ q) ∧ some q ≠ (.slice Ao51 y127.length co51 : Value).ownBlock ∧ q ≠ g1 ∧ q ≠ g2 ∧ q ≠ g3)) (by (with_reducible repeat (first | apply Kd.V_alloc | apply Kd.V_drewN | apply Kd.V_drew)); exact HO123.out) hg hat)
        have n8_ := Aside0.mk (Kd.V_afterv (ok := (fun q => ((P4 q ∨ P5 q ∨ Q4 q ∨ Q5 q) ∨ w.heap.size ≤ q) ∧ some q ≠ (.slice Ao51 y127.length co51 : Value).ownBlock ∧ q ≠ g1 ∧ q ≠ g2 ∧ q ≠ g3)) (by (with_reducible repeat (first | apply Kd.V_alloc | apply Kd.V_drewN | apply Kd.V_drew)); exact HO137.out) hg hat)
        have n9_ := Aside0.mk (Kd.R_after (ok := (fun q => (w.heap.size ≤ q))) (by (with_reducible repeat (first | apply Kd.R_alloc | apply Kd.R_drewN | apply Kd.R_drew)); exact HO129.out) hg hat)
        have n10_ := Aside0.mk (hb)
        have n11_ := Aside0.mk (ho)
        clear U4
        clear U5
        clear U6
        clear U7
        clear BK111
        clear BK112
        clear BK113
        clear HO123
        clear HO137
        clear HO129
        clear HB
        clear HO132
        have U4 := n0_
        have U5 := n1_
        have U6 := n2_
        have U7 := n3_
        have BK111 := n4_
        have BK112 := n5_
        have BK113 := n6_
        have HO123 := n7_
        have HO137 := n8_
        have HO129 := n9_
        have HB := n10_
        have HO140 := n11_
        clear n0_ n1_ n2_ n3_ n4_ n5_ n6_ n7_ n8_ n9_ n10_ n11_
        clear ho hb hg hat
        refine hK.out _ _ ⟨(blk_cell BK111.out 0).trans rfl, (blk_cell BK111.out 1).trans rfl, (blk_cell BK111.out 2).trans rfl, (blk_cell BK111.out 3).trans rfl, (blk_cell BK111.out 4).trans rfl, (blk_cell BK111.out 5).trans rfl⟩ (fun hHeld => ?_)
        clear hK K
        refine norm_ (a' := ?_) ?_ ?_
        rotate_left
        · show Act.put _ (some 49) _ = _
          simp only [Act.put, List.setIfInBounds_toArray, List.set_cons_zero, List.set_cons_succ, i64_w, i32_w]
          rfl
        refine pure_ (i := 14) (N := some 10) (v := ?_) (a' := ?_) #[true, true, true, true, true, true, true, true, true, true, true, true, true, true, true] rfl rfl (any_of HT_.out (by kernel_rfl)) (fun _ _ _ h => h) (Or.inl ⟨by rfl, ?_⟩) ?_ ?_
        rotate_left
        · intro w'
          go_simp
          with_reducible rfl
        rotate_left
        · simp only [Act.put, List.setIfInBounds_toArray, List.set_cons_zero, List.set_cons_succ, i64_w, i32_w]
          rfl
        refine done_ (done_of HT_.out (by kernel_rfl)) ?_
        try go_wp2
        have n0_ := Aside0.mk (Kd.V_drew U4.out)
        have n1_ := Aside0.mk (Kd.V_drew U5.out)
        have n2_ := Aside0.mk (Kd.V_drew U6.out)
        have n3_ := Aside0.mk (Kd.V_drew U7.out)
        have n4_ := Aside0.mk (Kd.V_drew HO123.out)
        have n5_ := Aside0.mk (Kd.V_drew HO137.out)
        have n6_ := Aside0.mk (Kd.R_drew HO129.out)
        have n7_ := Aside0.mk (Kd.R_drew HO140.out)
        have n8_ := Aside0.mk (blk_drew BK111.out)
        have n9_ := Aside0.mk (blk_drew BK112.out)
        have n10_ := Aside0.mk (blk_drew BK113.out)
        have n11_ := Aside0.mk (below_drew1 HB.out)
        clear U4
        clear U5
        clear U6
        clear U7
        clear HO123
        clear HO137
        clear HO129
        clear HO140
        clear BK111
        clear BK112
        clear BK113
        clear HB
        have U4 := n0_
        have U5 := n1_
        have U6 := n2_
        have U7 := n3_
        have HO123 := n4_
        have HO137 := n5_
        have HO129 := n6_
        have HO140 := n7_
        have BK111 := n8_
        have BK112 := n9_
        have BK113 := n10_
        have HB := n11_
        clear n0_ n1_ n2_ n3_ n4_ n5_ n6_ n7_ n8_ n9_ n10_ n11_
        have q54 : (t114 : Int) ≤ ((l0_4.length : Int) : Int) := of_decide_eq_true (by first | (with_reducible assumption) | assumption)
        obtain ⟨i054, hi054, _, hsz54, _⟩ := info_parts info27
        have hroom54 : l0_4.length ≤ c0_4 := (Kd.V_reads' U4.out).2.1
        have hC54 : Kd.F k27 _ _ A0_4 l0_4.length l0_4 := (Kd.V_at (base := w.heap.size) U4.out).2.2
        have hcut54 := cut_to (P := Try.prog) 24 27 .i64 Try.underlying24 hi054 A0_4 l0_4.length c0_4 t114 (of_decide_eq_true (by first | (with_reducible assumption) | assumption)) q54 hroom54
        have hr54 := Kd.F_take (m := (t114 : Int).toNat) hC54 (by omega)
        have hy54 : y144.length = (t114 : Int).toNat := (by rw [Ny144.out, List.length_take]; omega)
        rw [← Ny144.out] at hr54
        rw [← hy54] at hcut54
        have HO148 := Aside0.mk (show Kd.V k27 27 _ w.heap.size _ (.slice A0_4 y144.length c0_4) y144 from Kd.V_mk (by omega) hr54)
        have HC148 := Aside0.mk (show y144.length ≤ c0_4 from by omega)
        clear hr54 hC54 hroom54 hi054 hsz54
        have KY54 := Aside0.mk hy54
        clear hy54
        replace q54 := eq_true q54
        have q55 : ((ji27) : Int) ≤ ((l0_4.length : Int) : Int) := of_decide_eq_true (by first | (with_reducible assumption) | assumption)
        obtain ⟨i055, hi055, _, hsz55, _⟩ := info_parts info27
        have hroom55 : l0_4.length ≤ c0_4 := (Kd.V_reads' U4.out).2.1
        have hC55 : Kd.F k27 _ _ A0_4 l0_4.length l0_4 := (Kd.V_at (base := w.heap.size) U4.out).2.2
        have q055 : (0 : Int) ≤ ((ji27) : Int) := of_decide_eq_true (by first | (with_reducible assumption) | assumption)
        have hcut55 := cut_from (P := Try.prog) 24 27 .i64 Try.underlying24 hi055 6 hsz55 A0_4 l0_4.length c0_4 (ji27) q055 q55
        have hr55 := Kd.F_cut (m := ((ji27) : Int).toNat) (c := c0_4) hC55 (by omega) hroom55
        obtain ⟨A55, hA55⟩ : ∃ A1, A1 = (if c0_4 = ((ji27) : Int).toNat then A0_4 else (A0_4 : Option Addr).map (·.add (((ji27) : Int).toNat * 6))) := ⟨_, rfl⟩
        obtain ⟨c55, hc55⟩ : ∃ c1, c1 = c0_4 - ((ji27) : Int).toNat := ⟨_, rfl⟩
        have hy55 : y158.length = l0_4.length - ((ji27) : Int).toNat := (by rw [Ny158.out, List.length_drop] <;> omega)
        rw [show (l0_4).drop ((ji27) : Int).toNat = y158 from Ny158.out.symm] at hr55
        replace hr55 : Kd.F k27 _ _ A55 y158.length y158 := (by rw [hA55]; exact hr55)
        rw [← hy55, ← hA55, ← hc55] at hcut55
        have HO162 := Aside0.mk (show Kd.V k27 27 _ w.heap.size _ (.slice A55 y158.length c55) y158 from Kd.V_mk (by rw [hy55, hc55]; exact Nat.sub_le_sub_right hroom55 _) hr55)
        have HC162 := Aside0.mk (show y158.length ≤ c55 from by rw [hy55, hc55]; exact Nat.sub_le_sub_right hroom55 _)
        clear hr55 hC55 hroom55 hi055 hsz55 hc55
        have KY55 := Aside0.mk hy55
        have KA55 := Aside0.mk hA55
        clear hy55 hA55
        replace q55 := eq_true q55
        refine start_ (n := 15) (S := fun w' => w'.cell? ⟨g1, 0, none⟩ = some (.int .i64 a0_0) ∧ w'.cell? ⟨g1, 1, none⟩ = some (.int .i64 a0_1) ∧ w'.cell? ⟨g1, 2, none⟩ = some (.int .i64 a0_2) ∧ w'.cell? ⟨g1, 3, none⟩ = some (.string a0_3) ∧ w'.cell? ⟨g1, 4, none⟩ = some (.slice A0_4 l0_4.length c0_4) ∧ w'.cell? ⟨g1, 5, none⟩ = some (.slice A0_5 l0_5.length c0_5) ∧ w'.cell? ⟨g2, 0, none⟩ = some (.int .i64 a2_0) ∧ w'.cell? ⟨g2, 1, none⟩ = some (.int .i64 a2_1) ∧ w'.cell? ⟨g2, 2, none⟩ = some (.int .i64 a2_2) ∧ w'.cell? ⟨g2, 3, none⟩ = some (.string a2_3) ∧ w'.cell? ⟨g2, 4, none⟩ = some (.slice A2_4 l2_4.length c2_4) ∧ w'.cell? ⟨g2, 5, none⟩ = some (.slice A2_5 l2_5.length c2_5)) (ds := []) #[false, false, false, false, false, false, false, false, false, false, false, false, false, false, false] (by kernel_rfl) rfl rfl ⟨(blk_cell BK111.out 0).trans rfl, (blk_cell BK111.out 1).trans rfl, (blk_cell BK111.out 2).trans rfl, (blk_cell BK111.out 3).trans rfl, (blk_cell BK111.out 4).trans rfl, (blk_cell BK111.out 5).trans rfl, (blk_cell BK112.out 0).trans rfl, (blk_cell BK112.out 1).trans rfl, (blk_cell BK112.out 2).trans rfl, (blk_cell BK112.out 3).trans rfl, (blk_cell BK112.out 4).trans rfl, (blk_cell BK112.out 5).trans rfl⟩ (fun hHeld => ?_); refine with_tabW jval_Put.tab8 jval_Put.bits8 (fun HT_ HW_ => ?_)
        generalize w52.drew = w53 at U4 U5 U6 U7 HO123 HO137 HO129 HO140 BK111 BK112 BK113 HB HO148 HO162 hHeld ⊢
        refine pure_ (i := 1) (N := some 51) (v := ?_) (a' := ?_) #[false, true, false, false, false, false, false, false, false, false, false, false, false, false, false] rfl rfl (any_of HT_.out (by kernel_rfl)) (fun _ _ _ h => h) (Or.inl ⟨by rfl, ?_⟩) ?_ ?_
        rotate_left
        · intro w'
          go_simp
          with_reducible rfl
        rotate_left
        · simp only [Act.put, List.setIfInBounds_toArray, List.set_cons_zero, List.set_cons_succ, i64_w, i32_w]
          rfl
        refine pure_ (i := 3) (N := some 53) (v := ?_) (a' := ?_) #[false, true, false, true, false, false, false, false, false, false, false, false, false, false, false] rfl rfl (any_of HT_.out (by kernel_rfl)) (fun _ _ _ h => h) (Or.inl ⟨by rfl, ?_⟩) ?_ ?_
        rotate_left
        · intro w'
          go_simp
          with_reducible rfl
        rotate_left
        · simp only [Act.put, List.setIfInBounds_toArray, List.set_cons_zero, List.set_cons_succ, i64_w, i32_w]
          rfl
        refine pure_ (i := 9) (N := some 59) (v := ?_) (a' := ?_) #[false, true, false, true, false, false, false, false, false, true, false, false, false, false, false] rfl rfl (any_of HT_.out (by kernel_rfl)) (fun _ _ _ h => h) (Or.inl ⟨by rfl, ?_⟩) ?_ ?_
        rotate_left
        · intro w'
          go_simp
          with_reducible rfl
        rotate_left
        · simp only [Act.put, List.setIfInBounds_toArray, List.set_cons_zero, List.set_cons_succ, i64_w, i32_w]
          rfl
        refine pure_ (i := 11) (N := some 61) (v := ?_) (a' := ?_) #[false, true, false, true, false, false, false, false, false, true, false, true, false, false, false] rfl rfl (any_of HT_.out (by kernel_rfl)) (fun _ _ _ h => h) (Or.inl ⟨by rfl, ?_⟩) ?_ ?_
        rotate_left
        · intro w'
          go_simp
          with_reducible rfl
        rotate_left
        · simp only [Act.put, List.setIfInBounds_toArray, List.set_cons_zero, List.set_cons_succ, i64_w, i32_w]
          rfl
        refine take_ (i := 2) (N := some 52) (v := ?_) (a' := ?_) #[false, true, true, true, false, false, false, false, false, true, false, true, false, false, false] rfl rfl (take_ofW HT_.out HW_.out (by kernel_rfl)) (fun _ _ _ h => h) (Or.inl ⟨by rfl, ?_⟩) hHeld ?_ ?_
        rotate_left
        · rintro w' ⟨s0, s1, s2, s3, s4, s5, s6, s7, s8, s9, s10, s11⟩
          go_simp
          with_reducible rfl
        rotate_left
        · simp only [Act.put, List.setIfInBounds_toArray, List.set_cons_zero, List.set_cons_succ, i64_w, i32_w]
          rfl
        refine pure_ (i := 4) (N := some 54) (v := ?_) (a' := ?_) #[false, true, true, true, true, false, false, false, false, true, false, true, false, false, false] rfl rfl (any_of HT_.out (by kernel_rfl)) (fun _ _ _ h => h) (Or.inl ⟨by rfl, ?_⟩) ?_ ?_
        rotate_left
        · intro w'
          go_simp
          with_reducible rfl
        rotate_left
        · simp only [Act.put, List.setIfInBounds_toArray, List.set_cons_zero, List.set_cons_succ, i64_w, i32_w]
          rfl
        refine take_ (i := 6) (N := some 56) (v := ?_) (a' := ?_) #[false, true, true, true, true, false, true, false, false, true, false, true, false, false, false] rfl rfl (take_ofW HT_.out HW_.out (by kernel_rfl)) (fun _ _ _ h => h) (Or.inl ⟨by rfl, ?_⟩) hHeld ?_ ?_
        rotate_left
        · rintro w' ⟨s0, s1, s2, s3, s4, s5, s6, s7, s8, s9, s10, s11⟩
          go_simp
          with_reducible rfl
        rotate_left
        · simp only [Act.put, List.setIfInBounds_toArray, List.set_cons_zero, List.set_cons_succ, i64_w, i32_w]
          rfl
        refine take_ (i := 10) (N := some 60) (v := ?_) (a' := ?_) #[false, true, true, true, true, false, true, false, false, true, true, true, false, false, false] rfl rfl (take_ofW HT_.out HW_.out (by kernel_rfl)) (fun _ _ _ h => h) (Or.inl ⟨by rfl, ?_⟩) hHeld ?_ ?_
        rotate_left
        · rintro w' ⟨s0, s1, s2, s3, s4, s5, s6, s7, s8, s9, s10, s11⟩
          go_simp
          with_reducible rfl
        rotate_left
        · simp only [Act.put, List.setIfInBounds_toArray, List.set_cons_zero, List.set_cons_succ, i64_w, i32_w]
          rfl
        refine pure_ (i := 12) (N := some 62) (v := ?_) (a' := ?_) #[false, true, true, true, true, false, true, false, false, true, true, true, true, false, false] rfl rfl (any_of HT_.out (by kernel_rfl)) (fun _ _ _ h => h) (Or.inl ⟨by rfl, ?_⟩) ?_ ?_
        rotate_left
        · intro w'
          go_simp
          with_reducible rfl
        rotate_left
        · simp only [Act.put, List.setIfInBounds_toArray, List.set_cons_zero, List.set_cons_succ, i64_w, i32_w]
          rfl
        refine join_ (σ := Value × Value × Value) 3 #[true, true, true, true, true, true, true, true, false, true, true, true, true, false, false] (fun s_ => [(50, s_.1), (55, s_.2.1), (57, s_.2.2)]) (fun s_ w' => (w'.cell? ⟨g1, 0, none⟩ = some (.int .i64 a0_0) ∧ w'.cell? ⟨g1, 1, none⟩ = some (.int .i64 a0_1) ∧ w'.cell? ⟨g1, 2, none⟩ = some (.int .i64 a0_2) ∧ w'.cell? ⟨g1, 3, none⟩ = some (.string a0_3) ∧ w'.cell? ⟨g1, 4, none⟩ = some (.slice A0_4 l0_4.length c0_4) ∧ w'.cell? ⟨g1, 5, none⟩ = some (.slice A0_5 l0_5.length c0_5) ∧ w'.cell? ⟨g2, 0, none⟩ = some (.int .i64 a2_0) ∧ w'.cell? ⟨g2, 1, none⟩ = some (.int .i64 a2_1) ∧ w'.cell? ⟨g2, 2, none⟩ = some (.int .i64 a2_2) ∧ w'.cell? ⟨g2, 3, none⟩ = some (.string a2_3) ∧ w'.cell? ⟨g2, 4, none⟩ = some (.slice A2_4 l2_4.length c2_4) ∧ w'.cell? ⟨g2, 5, none⟩ = some (.slice A2_5 l2_5.length c2_5)) ∧ (Kd.V Kd.string 9 w' w.heap.size (fun q => ((P4 q ∨ P5 q ∨ Q4 q ∨ Q5 q) ∨ w.heap.size ≤ q) ∧ some q ≠ (.slice Ao51 y127.length co51 : Value).ownBlock ∧ some q ≠ (v139 : Value).ownBlock ∧ some q ≠ (s_.2.1 : Value).ownBlock ∧ some q ≠ (s_.2.2 : Value).ownBlock ∧ q ≠ g1 ∧ q ≠ g2 ∧ q ≠ g3) (.slice A0_5 y119.length c0_5) y119) ∧ (Kd.R Kd.string 9 w' w.heap.size (fun q => (w.heap.size ≤ q) ∧ some q ≠ (v139 : Value).ownBlock) (.slice Ao51 y127.length co51) y127) ∧ (Kd.V Kd.string 9 w' w.heap.size (fun q => ((P4 q ∨ P5 q ∨ Q4 q ∨ Q5 q) ∨ w.heap.size ≤ q) ∧ some q ≠ (.slice Ao51 y127.length co51 : Value).ownBlock ∧ some q ≠ (v139 : Value).ownBlock ∧ some q ≠ (s_.2.1 : Value).ownBlock ∧ some q ≠ (s_.2.2 : Value).ownBlock ∧ q ≠ g1 ∧ q ≠ g2 ∧ q ≠ g3) (.slice A43 y133.length c43) y133) ∧ (Kd.R Kd.string 9 w' w.heap.size (fun q => (w.heap.size ≤ q) ∧ some q ≠ (.slice Ao51 y127.length co51 : Value).ownBlock) v139 y138) ∧ (Kd.V k27 27 w' w.heap.size (fun q => ((P4 q ∨ P5 q ∨ Q4 q ∨ Q5 q) ∨ w.heap.size ≤ q) ∧ some q ≠ (.slice Ao51 y127.length co51 : Value).ownBlock ∧ some q ≠ (v139 : Value).ownBlock ∧ some q ≠ (s_.2.1 : Value).ownBlock ∧ some q ≠ (s_.2.2 : Value).ownBlock ∧ q ≠ g1 ∧ q ≠ g2 ∧ q ≠ g3) (.slice A0_4 y144.length c0_4) y144) ∧ (Kd.N k27 27 w' w.heap.size (fun q => ((P4 q ∨ P5 q ∨ Q4 q ∨ Q5 q) ∨ w.heap.size ≤ q) ∧ some q ≠ (.slice Ao51 y127.length co51 : Value).ownBlock ∧ some q ≠ (v139 : Value).ownBlock ∧ some q ≠ (s_.2.2 : Value).ownBlock ∧ q ≠ g1 ∧ q ≠ g2 ∧ q ≠ g3) s_.2.1 y149) ∧ (Kd.N k27 27 w' w.heap.size (fun q => ((P4 q ∨ P5 q ∨ Q4 q ∨ Q5 q) ∨ w.heap.size ≤ q) ∧ some q ≠ (.slice Ao51 y127.length co51 : Value).ownBlock ∧ some q ≠ (v139 : Value).ownBlock ∧ some q ≠ (s_.2.1 : Value).ownBlock ∧ q ≠ g1 ∧ q ≠ g2 ∧ q ≠ g3) s_.2.2 y152) ∧ (Kd.V k27 27 w' w.heap.size (fun q => ((P4 q ∨ P5 q ∨ Q4 q ∨ Q5 q) ∨ w.heap.size ≤ q) ∧ some q ≠ (.slice Ao51 y127.length co51 : Value).ownBlock ∧ some q ≠ (v139 : Value).ownBlock ∧ some q ≠ (s_.2.1 : Value).ownBlock ∧ some q ≠ (s_.2.2 : Value).ownBlock ∧ q ≠ g1 ∧ q ≠ g2 ∧ q ≠ g3) (.slice A55 y158.length c55) y158) ∧ (Kd.V k27 27 w' w.heap.size (fun q => ((P4 q ∨ P5 q ∨ Q4 q ∨ Q5 q) ∨ w.heap.size ≤ q) ∧ some q ≠ (.slice Ao51 y127.length co51 : Value).ownBlock ∧ some q ≠ (v139 : Value).ownBlock ∧ some q ≠ (s_.2.1 : Value).ownBlock ∧ some q ≠ (s_.2.2 : Value).ownBlock ∧ q ≠ g1 ∧ q ≠ g2 ∧ q ≠ g3) (.slice A0_4 l0_4.length c0_4) l0_4) ∧ (Kd.V Kd.string 9 w' w.heap.size (fun q => ((P4 q ∨ P5 q ∨ Q4 q ∨ Q5 q) ∨ w.heap.size ≤ q) ∧ some q ≠ (.slice Ao51 y127.length co51 : Value).ownBlock ∧ some q ≠ (v139 : Value).ownBlock ∧ some q ≠ (s_.2.1 : Value).ownBlock ∧ some q ≠ (s_.2.2 : Value).ownBlock ∧ q ≠ g1 ∧ q ≠ g2 ∧ q ≠ g3) (.slice A0_5 l0_5.length c0_5) l0_5) ∧ (Kd.V k27 27 w' w.heap.size (fun q => ((P4 q ∨ P5 q ∨ Q4 q ∨ Q5 q) ∨ w.heap.size ≤ q) ∧ some q ≠ (.slice Ao51 y127.length co51 : Value).ownBlock ∧ some q ≠ (v139 : Value).ownBlock ∧ some q ≠ (s_.2.1 : Value).ownBlock ∧ some q ≠ (s_.2.2 : Value).ownBlock ∧ q ≠ g1 ∧ q ≠ g2 ∧ q ≠ g3) (.slice A2_4 l2_4.length c2_4) l2_4) ∧ (Kd.V Kd.string 9 w' w.heap.size (fun q => ((P4 q ∨ P5 q ∨ Q4 q ∨ Q5 q) ∨ w.heap.size ≤ q) ∧ some q ≠ (.slice Ao51 y127.length co51 : Value).ownBlock ∧ some q ≠ (v139 : Value).ownBlock ∧ some q ≠ (s_.2.1 : Value).ownBlock ∧ some q ≠ (s_.2.2 : Value).ownBlock ∧ q ≠ g1 ∧ q ≠ g2 ∧ q ≠ g3) (.slice A2_5 l2_5.length c2_5) l2_5) ∧ (w'.heap[g1]? = some (.cells #[.int .i64 a0_0, .int .i64 a0_1, .int .i64 a0_2, .string a0_3, .slice A0_4 l0_4.length c0_4, .slice A0_5 l0_5.length c0_5] 27 (0, 0))) ∧ (w'.heap[g2]? = some (.cells #[.int .i64 a2_0, .int .i64 a2_1, .int .i64 a2_2, .string a2_3, .slice A2_4 l2_4.length c2_4, .slice A2_5 l2_5.length c2_5] 27 (0, 0))) ∧ (w'.heap[g3]? = some (.cells #[.int .i64 0, .int .i64 0, .int .i64 0, .string (⟨#[]⟩ : ByteArray), .slice none 0 0, .slice none 0 0] 27 (0, 0))) ∧ (Below w.heap.size w w')) ?_ ?_
        rotate_left
        · intro hCont
          refine two_ (i := 0) (j := 7) (Ni := some 50) (Nj := some 57) #[true, true, true, true, true, false, true, false, false, true, true, true, true, false, false] #[false, true, true, true, true, false, true, true, false, true, true, true, true, false, false] rfl rfl rfl rfl (two_of HT_.out (by kernel_rfl)) (by decide) (by decide) (fun K hK => ?_) (fun K hK => ?_)
          · skip
            refine Kd.N_lit_step k27 _ 27 ?hg (N' := 50) ?hd (xs := ([] : List (S27))) (inner := []) (ok := (fun q => ((P4 q ∨ P5 q ∨ Q4 q ∨ Q5 q) ∨ w.heap.size ≤ q) ∧ some q ≠ (.slice Ao51 y127.length co51 : Value).ownBlock ∧ some q ≠ (v139 : Value).ownBlock ∧ q ≠ g1 ∧ q ≠ g2 ∧ q ≠ g3)) (okp := (fun q => ((P4 q ∨ P5 q ∨ Q4 q ∨ Q5 q) ∨ w.heap.size ≤ q) ∧ some q ≠ (.slice Ao51 y127.length co51 : Value).ownBlock ∧ some q ≠ (v139 : Value).ownBlock ∧ q ≠ g1 ∧ q ≠ g2 ∧ q ≠ g3)) ?hr ?hp (fun _ hk => hk) ((show ∀ q, w53.heap.size ≤ q → (fun q => ((P4 q ∨ P5 q ∨ Q4 q ∨ Q5 q) ∨ w.heap.size ≤ q) ∧ some q ≠ (.slice Ao51 y127.length co51 : Value).ownBlock ∧ some q ≠ (v139 : Value).ownBlock ∧ q ≠ g1 ∧ q ≠ g2 ∧ q ≠ g3) q from fun q hk => ⟨(.inr (Nat.le_trans (below_size (by repeat (first | (with_reducible first | exact HB.out | apply below_alloc | apply pw_below_drewN | apply below_drew1 | refine below_set ?_ GE111.out | refine below_set ?_ GE112.out | refine below_set ?_ GE113.out) | exact HB.out))) hk)), Kd.fresh' (Kd.R_lt (by (with_reducible repeat (first | apply Kd.R_alloc | apply Kd.R_drewN | apply Kd.R_drew)); exact HO129.out)) q hk, Kd.fresh' (Kd.R_lt (by (with_reducible repeat (first | apply Kd.R_alloc | apply Kd.R_drewN | apply Kd.R_drew)); exact HO140.out)) q hk, Kd.freshB (g := g1) (o := .cells #[.int .i64 a0_0, .int .i64 a0_1, .int .i64 a0_2, .string a0_3, .slice A0_4 l0_4.length c0_4, .slice A0_5 l0_5.length c0_5] 27 (0, 0)) (by (with_reducible repeat (first | refine blk_drewN ?_ _ | refine blk_drew ?_ | refine blk_alloc ?_ _)); exact BK111.out) q hk, Kd.freshB (g := g2) (o := .cells #[.int .i64 a2_0, .int .i64 a2_1, .int .i64 a2_2, .string a2_3, .slice A2_4 l2_4.length c2_4, .slice A2_5 l2_5.length c2_5] 27 (0, 0)) (by (with_reducible repeat (first | refine blk_drewN ?_ _ | refine blk_drew ?_ | refine blk_alloc ?_ _)); exact BK112.out) q hk, Kd.freshB (g := g3) (o := .cells #[.int .i64 0, .int .i64 0, .int .i64 0, .string (⟨#[]⟩ : ByteArray), .slice none 0 0, .slice none 0 0] 27 (0, 0)) (by (with_reducible repeat (first | refine blk_drewN ?_ _ | refine blk_drew ?_ | refine blk_alloc ?_ _)); exact BK113.out) q hk⟩) _ (Nat.le_refl _)) (Below.refl _ _) (Nat.le_refl _) (by simp) ?_; (case hd => rfl); (case hg => rfl); (case hr => first | (go_simp; done) | (go_simp; rfl)); (case hp => exact (Reps.none _ _))
            intro v142 w56 ho57 hb hg_ hnew_
            clear hg_ hnew_
            (first | rw [← Ny141.out] at ho57 | (simp only [Int.reduceToNat] at ho57; rw [← Ny141.out] at ho57))
            have n0_ := Aside0.mk (Kd.V_elder' (by (with_reducible repeat (first | apply Kd.V_alloc | apply Kd.V_drewN | apply Kd.V_drew)); exact U4.out) (Kd.N_base ho57) hb)
            have n1_ := Aside0.mk (Kd.V_elder' (by (with_reducible repeat (first | apply Kd.V_alloc | apply Kd.V_drewN | apply Kd.V_drew)); exact U5.out) (Kd.N_base ho57) hb)
            have n2_ := Aside0.mk (Kd.V_elder' (by (with_reducible repeat (first | apply Kd.V_alloc | apply Kd.V_drewN | apply Kd.V_drew)); exact U6.out) (Kd.N_base ho57) hb)
            have n3_ := Aside0.mk (Kd.V_elder' (by (with_reducible repeat (first | apply Kd.V_alloc | apply Kd.V_drewN | apply Kd.V_drew)); exact U7.out) (Kd.N_base ho57) hb)
            have n4_ := Aside0.mk (Kd.V_elder' (by (with_reducible repeat (first | apply Kd.V_alloc | apply Kd.V_drewN | apply Kd.V_drew)); exact HO123.out) (Kd.N_base ho57) hb)
            have n5_ := Aside0.mk (Kd.V_elder' (by (with_reducible repeat (first | apply Kd.V_alloc | apply Kd.V_drewN | apply Kd.V_drew)); exact HO137.out) (Kd.N_base ho57) hb)
            have n6_ := Aside0.mk (Kd.R_below (by (with_reducible repeat (first | apply Kd.R_alloc | apply Kd.R_drewN | apply Kd.R_drew)); exact HO129.out) hb)
            have n7_ := Aside0.mk (Kd.R_below (by (with_reducible repeat (first | apply Kd.R_alloc | apply Kd.R_drewN | apply Kd.R_drew)); exact HO140.out) hb)
            have n8_ := Aside0.mk (Kd.V_elder' (by (with_reducible repeat (first | apply Kd.V_alloc | apply Kd.V_drewN | apply Kd.V_drew)); exact HO148.out) (Kd.N_base ho57) hb)
            have n9_ := Aside0.mk (Kd.V_elder' (by (with_reducible repeat (first | apply Kd.V_alloc | apply Kd.V_drewN | apply Kd.V_drew)); exact HO162.out) (Kd.N_base ho57) hb)
            have n10_ := Aside0.mk (Kd.N_lower ho57 (below_size (by repeat (first | (with_reducible first | exact HB.out | apply below_alloc | apply pw_below_drewN | apply below_drew1 | refine below_set ?_ GE111.out | refine below_set ?_ GE112.out | refine below_set ?_ GE113.out) | exact HB.out))))
            have n11_ := Aside0.mk (blk_below (g := g1) (o := .cells #[.int .i64 a0_0, .int .i64 a0_1, .int .i64 a0_2, .string a0_3, .slice A0_4 l0_4.length c0_4, .slice A0_5 l0_5.length c0_5] 27 (0, 0)) (by (with_reducible repeat (first | refine blk_drewN ?_ _ | refine blk_drew ?_ | refine blk_alloc ?_ _)); exact BK111.out) hb)
            have n12_ := Aside0.mk (blk_below (g := g2) (o := .cells #[.int .i64 a2_0, .int .i64 a2_1, .int .i64 a2_2, .string a2_3, .slice A2_4 l2_4.length c2_4, .slice A2_5 l2_5.length c2_5] 27 (0, 0)) (by (with_reducible repeat (first | refine blk_drewN ?_ _ | refine blk_drew ?_ | refine blk_alloc ?_ _)); exact BK112.out) hb)
            have n13_ := Aside0.mk (blk_below (g := g3) (o := .cells #[.int .i64 0, .int .i64 0, .int .i64 0, .string (⟨#[]⟩ : ByteArray), .slice none 0 0, .slice none 0 0] 27 (0, 0)) (by (with_reducible repeat (first | refine blk_drewN ?_ _ | refine blk_drew ?_ | refine blk_alloc ?_ _)); exact BK113.out) hb)
            have n14_ := Aside0.mk (below_step (by repeat (first | (with_reducible first | exact HB.out | apply below_alloc | apply pw_below_drewN | apply below_drew1 | refine below_set ?_ GE111.out | refine below_set ?_ GE112.out | refine below_set ?_ GE113.out) | exact HB.out)) hb)
            clear U4
            clear U5
            clear U6
            clear U7
            clear HO123
            clear HO137
            clear HO129
            clear HO140
            clear HO148
            clear HO162
            clear BK111
            clear BK112
            clear BK113
            clear HB
            have U4 := n0_
            have U5 := n1_
            have U6 := n2_
            have U7 := n3_
            have HO123 := n4_
            have HO137 := n5_
            have HO129 := n6_
            have HO140 := n7_
            have HO148 := n8_
            have HO162 := n9_
            have HO143 := n10_
            have BK111 := n11_
            have BK112 := n12_
            have BK113 := n13_
            have HB := n14_
            clear n0_ n1_ n2_ n3_ n4_ n5_ n6_ n7_ n8_ n9_ n10_ n11_ n12_ n13_ n14_
            clear hb ho57
            refine hK.out _ _ ⟨(blk_cell BK111.out 0).trans rfl, (blk_cell BK111.out 1).trans rfl, (blk_cell BK111.out 2).trans rfl, (blk_cell BK111.out 3).trans rfl, (blk_cell BK111.out 4).trans rfl, (blk_cell BK111.out 5).trans rfl, (blk_cell BK112.out 0).trans rfl, (blk_cell BK112.out 1).trans rfl, (blk_cell BK112.out 2).trans rfl, (blk_cell BK112.out 3).trans rfl, (blk_cell BK112.out 4).trans rfl, (blk_cell BK112.out 5).trans rfl⟩ (fun hHeld => ?_)
            clear hK K
            refine norm_ (a' := ?_) ?_ ?_
            rotate_left
            · show Act.put _ (some 50) _ = _
              simp only [Act.put, List.setIfInBounds_toArray, List.set_cons_zero, List.set_cons_succ, i64_w, i32_w]
              rfl
            refine two_ (i := 5) (j := 7) (Ni := some 55) (Nj := some 57) #[true, true, true, true, true, true, true, false, false, true, true, true, true, false, false] #[true, true, true, true, true, false, true, true, false, true, true, true, true, false, false] rfl rfl rfl rfl (two_of HT_.out (by kernel_rfl)) (by decide) (by decide) (fun K hK => ?_) (fun K hK => ?_)
            · skip
              refine Kd.N_append_rows_step k27 (w0 := w) w.heap.size (by rfl) (.tmp 50) (.tmp 54) 24 27 (.agg #[(.int .i64 0), (.int .i64 0), (.int .i64 0), (.string ⟨#[]⟩), (.slice none 0 0), (.slice none 0 0)]) 88 rfl Try.underlying24 info27 rfl (by decide) (by omega) v142 y141 y144 _ _ _ (fun q => ((P4 q ∨ P5 q ∨ Q4 q ∨ Q5 q) ∨ w.heap.size ≤ q) ∧ some q ≠ (.slice Ao51 y127.length co51 : Value).ownBlock ∧ some q ≠ (v139 : Value).ownBlock ∧ q ≠ g1 ∧ q ≠ g2 ∧ q ≠ g3) (fun q => ((fun q => ((P4 q ∨ P5 q ∨ Q4 q ∨ Q5 q) ∨ w.heap.size ≤ q) ∧ some q ≠ (.slice Ao51 y127.length co51 : Value).ownBlock ∧ some q ≠ (v139 : Value).ownBlock ∧ q ≠ g1 ∧ q ≠ g2 ∧ q ≠ g3)) q ∧ some q ≠ (v142 : Value).ownBlock) rfl rfl ?aO ?aR (fun _ hk => hk) ?aF ?aB ?aS ?aL ?_
              (case aR => exact (by skip; exact Kd.V_F (Kd.V_mono (ok' := (fun q => ((fun q => ((P4 q ∨ P5 q ∨ Q4 q ∨ Q5 q) ∨ w.heap.size ≤ q) ∧ some q ≠ (.slice Ao51 y127.length co51 : Value).ownBlock ∧ some q ≠ (v139 : Value).ownBlock ∧ q ≠ g1 ∧ q ≠ g2 ∧ q ≠ g3)) q ∧ some q ≠ (v142 : Value).ownBlock)) (HO148.out) (fun q hk => ⟨⟨hk.1.1.1, ⟨hk.1.1.2.1, ⟨hk.1.2, ⟨hk.1.1.2.2.1, ⟨hk.1.1.2.2.2.1, hk.1.1.2.2.2.2⟩⟩⟩⟩⟩, hk.2⟩))))
              (case aB => exact (by repeat (first | (with_reducible first | exact HB.out | apply below_alloc | apply pw_below_drewN | apply below_drew1 | refine below_set ?_ GE111.out | refine below_set ?_ GE112.out | refine below_set ?_ GE113.out) | exact HB.out)))
              (case aF => exact (fun q hk => ⟨(.inr (Nat.le_trans (below_size (by repeat (first | (with_reducible first | exact HB.out | apply below_alloc | apply pw_below_drewN | apply below_drew1 | refine below_set ?_ GE111.out | refine below_set ?_ GE112.out | refine below_set ?_ GE113.out) | exact HB.out))) hk)), Kd.fresh' (Kd.R_lt (by (with_reducible repeat (first | apply Kd.R_alloc | apply Kd.R_drewN | apply Kd.R_drew)); exact HO129.out)) q hk, Kd.fresh' (Kd.R_lt (by (with_reducible repeat (first | apply Kd.R_alloc | apply Kd.R_drewN | apply Kd.R_drew)); exact HO140.out)) q hk, Kd.freshB (g := g1) (o := .cells #[.int .i64 a0_0, .int .i64 a0_1, .int .i64 a0_2, .string a0_3, .slice A0_4 l0_4.length c0_4, .slice A0_5 l0_5.length c0_5] 27 (0, 0)) (by (with_reducible repeat (first | refine blk_drewN ?_ _ | refine blk_drew ?_ | refine blk_alloc ?_ _)); exact BK111.out) q hk, Kd.freshB (g := g2) (o := .cells #[.int .i64 a2_0, .int .i64 a2_1, .int .i64 a2_2, .string a2_3, .slice A2_4 l2_4.length c2_4, .slice A2_5 l2_5.length c2_5] 27 (0, 0)) (by (with_reducible repeat (first | refine blk_drewN ?_ _ | refine blk_drew ?_ | refine blk_alloc ?_ _)); exact BK112.out) q hk, Kd.freshB (g := g3) (o := .cells #[.int .i64 0, .int .i64 0, .int .i64 0, .string (⟨#[]⟩ : ByteArray), .slice none 0 0, .slice none 0 0] 27 (0, 0)) (by (with_reducible repeat (first | refine blk_drewN ?_ _ | refine blk_drew ?_ | refine blk_alloc ?_ _)); exact BK113.out) q hk⟩))
              (case aO => exact (by (with_reducible repeat (first | apply Kd.N_alloc | apply Kd.N_drewN | apply Kd.N_drew)); exact HO143.out))
              (case aS => exact (below_size (by repeat (first | (with_reducible first | exact HB.out | apply below_alloc | apply pw_below_drewN | apply below_drew1 | refine below_set ?_ GE111.out | refine below_set ?_ GE112.out | refine below_set ?_ GE113.out) | exact HB.out))))
              (case aL => have := LMc33.out; omega)
              intro v150 w58 ho hb hg hat
              rw [← Ny149.out] at ho
              have n0_ := Aside0.mk (Kd.V_afterv (ok := (fun q => ((P4 q ∨ P5 q ∨ Q4 q ∨ Q5 q) ∨ w.heap.size ≤ q) ∧ some q ≠ (.slice Ao51 y127.length co51 : Value).ownBlock ∧ some q ≠ (v139 : Value).ownBlock ∧ q ≠ g1 ∧ q ≠ g2 ∧ q ≠ g3)) (by (with_reducible repeat (first | apply Kd.V_alloc | apply Kd.V_drewN | apply Kd.V_drew)); exact Kd.V_mono U4.out (fun _ hk => ⟨⟨hk.1.1.1, ⟨hk.1.1.2.1, ⟨hk.1.2, ⟨hk.1.1.2.2.1, ⟨hk.1.1.2.2.2.1, hk.1.1.2.2.2.2⟩⟩⟩⟩⟩, hk.2⟩)) hg hat)
              have n1_ := Aside0.mk (Kd.V_afterv (ok := (fun q => ((P4 q ∨ P5 q ∨ Q4 q ∨ Q5 q) ∨ w.heap.size ≤ q) ∧ some q ≠ (.slice Ao51 y127.length co51 : Value).ownBlock ∧ some q ≠ (v139 : Value).ownBlock ∧ q ≠ g1 ∧ q ≠ g2 ∧ q ≠ g3)) (by (with_reducible repeat (first | apply Kd.V_alloc | apply Kd.V_drewN | apply Kd.V_drew)); exact Kd.V_mono U5.out (fun _ hk => ⟨⟨hk.1.1.1, ⟨hk.1.1.2.1, ⟨hk.1.2, ⟨hk.1.1.2.2.1, ⟨hk.1.1.2.2.2.1, hk.1.1.2.2.2.2⟩⟩⟩⟩⟩, hk.2⟩)) hg hat)
              have n2_ := Aside0.mk (Kd.V_afterv (ok := (fun q => ((P4 q ∨ P5 q ∨ Q4 q ∨ Q5 q) ∨ w.heap.size ≤ q) ∧ some q ≠ (.slice Ao51 y127.length co51 : Value).ownBlock ∧ some q ≠ (v139 : Value).ownBlock ∧ q ≠ g1 ∧ q ≠ g2 ∧ q ≠ g3)) (by (with_reducible repeat (first | apply Kd.V_alloc | apply Kd.V_drewN | apply Kd.V_drew)); exact Kd.V_mono U6.out (fun _ hk => ⟨⟨hk.1.1.1, ⟨hk.1.1.2.1, ⟨hk.1.2, ⟨hk.1.1.2.2.1, ⟨hk.1.1.2.2.2.1, hk.1.1.2.2.2.2⟩⟩⟩⟩⟩, hk.2⟩)) hg hat)
              have n3_ := Aside0.mk (Kd.V_afterv (ok := (fun q => ((P4 q ∨ P5 q ∨ Q4 q ∨ Q5 q) ∨ w.heap.size ≤ q) ∧ some q ≠ (.slice Ao51 y127.length co51 : Value).ownBlock ∧ some q ≠ (v139 : Value).ownBlock ∧ q ≠ g1 ∧ q ≠ g2 ∧ q ≠ g3)) (by (with_reducible repeat (first | apply Kd.V_alloc | apply Kd.V_drewN | apply Kd.V_drew)); exact Kd.V_mono U7.out (fun _ hk => ⟨⟨hk.1.1.1, ⟨hk.1.1.2.1, ⟨hk.1.2, ⟨hk.1.1.2.2.1, ⟨hk.1.1.2.2.2.1, hk.1.1.2.2.2.2⟩⟩⟩⟩⟩, hk.2⟩)) hg hat)
              have n4_ := Aside0.mk (blk_grown (g := g1) (o := .cells #[.int .i64 a0_0, .int .i64 a0_1, .int .i64 a0_2, .string a0_3, .slice A0_4 l0_4.length c0_4, .slice A0_5 l0_5.length c0_5] 27 (0, 0)) (by (with_reducible repeat (first | refine blk_drewN ?_ _ | refine blk_drew ?_ | refine blk_alloc ?_ _)); exact BK111.out) hg (Kd.N_away HO143.out (fun _ hk => hk.2.2.2.1)))
              have n5_ := Aside0.mk (blk_grown (g := g2) (o := .cells #[.int .i64 a2_0, .int .i64 a2_1, .int .i64 a2_2, .string a2_3, .slice A2_4 l2_4.length c2_4, .slice A2_5 l2_5.length c2_5] 27 (0, 0)) (by (with_reducible repeat (first | refine blk_drewN ?_ _ | refine blk_drew ?_ | refine blk_alloc ?_ _)); exact BK112.out) hg (Kd.N_away HO143.out (fun _ hk => hk.2.2.2.2.1)))
              have n6_ := Aside0.mk (blk_grown (g := g3) (o := .cells #[.int .i64 0, .int .i64 0, .int .i64 0, .string (⟨#[]⟩ : ByteArray), .slice none 0 0, .slice none 0 0] 27 (0, 0)) (by (with_reducible repeat (first | refine blk_drewN ?_ _ | refine blk_drew ?_ | refine blk_alloc ?_ _)); exact BK113.out) hg (Kd.N_away HO143.out (fun _ hk => hk.2.2.2.2.2)))
              have n7_ := Aside0.mk (Kd.V_afterv (ok := (fun q => ((P4 q ∨ P5 q ∨ Q4 q ∨ Q5 q) ∨ w.heap.size ≤ q) ∧ some q ≠ (.slice Ao51 y127.length co51 : Value).ownBlock ∧ some q ≠ (v139 : Value).ownBlock ∧ q ≠ g1 ∧ q ≠ g2 ∧ q ≠ g3)) (by (with_reducible repeat (first | apply Kd.V_alloc | apply Kd.V_drewN | apply Kd.V_drew)); exact Kd.V_mono HO123.out (fun _ hk => ⟨⟨hk.1.1.1, ⟨hk.1.1.2.1, ⟨hk.1.2, ⟨hk.1.1.2.2.1, ⟨hk.1.1.2.2.2.1, hk.1.1.2.2.2.2⟩⟩⟩⟩⟩, hk.2⟩)) hg hat)
              have n8_ := Aside0.mk (Kd.V_afterv (ok := (fun q => ((P4 q ∨ P5 q ∨ Q4 q ∨ Q5 q) ∨ w.heap.size ≤ q) ∧ some q ≠ (.slice Ao51 y127.length co51 : Value).ownBlock ∧ some q ≠ (v139 : Value).ownBlock ∧ q ≠ g1 ∧ q ≠ g2 ∧ q ≠ g3)) (by (with_reducible repeat (first | apply Kd.V_alloc | apply Kd.V_drewN | apply Kd.V_drew)); exact Kd.V_mono HO137.out (fun _ hk => ⟨⟨hk.1.1.1, ⟨hk.1.1.2.1, ⟨hk.1.2, ⟨hk.1.1.2.2.1, ⟨hk.1.1.2.2.2.1, hk.1.1.2.2.2.2⟩⟩⟩⟩⟩, hk.2⟩)) hg hat)
              have n9_ := Aside0.mk (Kd.R_over' (by (with_reducible repeat (first | apply Kd.R_alloc | apply Kd.R_drewN | apply Kd.R_drew)); exact HO129.out) (Kd.N_typed (by (with_reducible repeat (first | apply Kd.N_alloc | apply Kd.N_drewN | apply Kd.N_drew)); exact HO143.out)) (by decide) hg)
              have n10_ := Aside0.mk (Kd.R_over' (by (with_reducible repeat (first | apply Kd.R_alloc | apply Kd.R_drewN | apply Kd.R_drew)); exact HO140.out) (Kd.N_typed (by (with_reducible repeat (first | apply Kd.N_alloc | apply Kd.N_drewN | apply Kd.N_drew)); exact HO143.out)) (by decide) hg)
              have n11_ := Aside0.mk (Kd.V_afterv (ok := (fun q => ((P4 q ∨ P5 q ∨ Q4 q ∨ Q5 q) ∨ w.heap.size ≤ q) ∧ some q ≠ (.slice Ao51 y127.length co51 : Value).ownBlock ∧ some q ≠ (v139 : Value).ownBlock ∧ q ≠ g1 ∧ q ≠ g2 ∧ q ≠ g3)) (by (with_reducible repeat (first | apply Kd.V_alloc | apply Kd.V_drewN | apply Kd.V_drew)); exact Kd.V_mono HO148.out (fun _ hk => ⟨⟨hk.1.1.1, ⟨hk.1.1.2.1, ⟨hk.1.2, ⟨hk.1.1.2.2.1, ⟨hk.1.1.2.2.2.1, hk.1.1.2.2.2.2⟩⟩⟩⟩⟩, hk.2⟩)) hg hat)
              have n12_ := Aside0.mk (Kd.V_afterv (ok := (fun q => ((P4 q ∨ P5 q ∨ Q4 q ∨ Q5 q) ∨ w.heap.size ≤ q) ∧ some q ≠ (.slice Ao51 y127.length co51 : Value).ownBlock ∧ some q ≠ (v139 : Value).ownBlock ∧ q ≠ g1 ∧ q ≠ g2 ∧ q ≠ g3)) (by (with_reducible repeat (first | apply Kd.V_alloc | apply Kd.V_drewN | apply Kd.V_drew)); exact Kd.V_mono HO162.out (fun _ hk => ⟨⟨hk.1.1.1, ⟨hk.1.1.2.1, ⟨hk.1.2, ⟨hk.1.1.2.2.1, ⟨hk.1.1.2.2.2.1, hk.1.1.2.2.2.2⟩⟩⟩⟩⟩, hk.2⟩)) hg hat)
              have n13_ := Aside0.mk (hb)
              have n14_ := Aside0.mk (ho)
              clear U4
              clear U5
              clear U6
              clear U7
              clear BK111
              clear BK112
              clear BK113
              clear HO123
              clear HO137
              clear HO129
              clear HO140
              clear HO148
              clear HO162
              clear HB
              clear HO143
              have U4 := n0_
              have U5 := n1_
              have U6 := n2_
              have U7 := n3_
              have BK111 := n4_
              have BK112 := n5_
              have BK113 := n6_
              have HO123 := n7_
              have HO137 := n8_
              have HO129 := n9_
              have HO140 := n10_
              have HO148 := n11_
              have HO162 := n12_
              have HB := n13_
              have HO151 := n14_
              clear n0_ n1_ n2_ n3_ n4_ n5_ n6_ n7_ n8_ n9_ n10_ n11_ n12_ n13_ n14_
              clear ho hb hg hat
              refine hK.out _ _ ⟨(blk_cell BK111.out 0).trans rfl, (blk_cell BK111.out 1).trans rfl, (blk_cell BK111.out 2).trans rfl, (blk_cell BK111.out 3).trans rfl, (blk_cell BK111.out 4).trans rfl, (blk_cell BK111.out 5).trans rfl, (blk_cell BK112.out 0).trans rfl, (blk_cell BK112.out 1).trans rfl, (blk_cell BK112.out 2).trans rfl, (blk_cell BK112.out 3).trans rfl, (blk_cell BK112.out 4).trans rfl, (blk_cell BK112.out 5).trans rfl⟩ (fun hHeld => ?_)
              clear hK K
              refine norm_ (a' := ?_) ?_ ?_
              rotate_left
              · show Act.put _ (some 55) _ = _
                simp only [Act.put, List.setIfInBounds_toArray, List.set_cons_zero, List.set_cons_succ, i64_w, i32_w]
                rfl
              refine one_ (i := 7) (N := some 57) #[true, true, true, true, true, true, true, true, false, true, true, true, true, false, false] rfl rfl (one_of HT_.out (by kernel_rfl)) (by decide) (fun K hK => ?_)
              refine Kd.N_lit_step k27 _ 27 ?hg (N' := 57) ?hd (xs := ([(⟨a2_0, (⟨a2_1, a2_2⟩ : S23), a2_3, l2_4, l2_5⟩ : S27)] : List (S27))) (inner := [.int .i64 a2_0, .int .i64 a2_1, .int .i64 a2_2, .string a2_3, .slice A2_4 l2_4.length c2_4, .slice A2_5 l2_5.length c2_5]) (ok := (fun q => ((P4 q ∨ P5 q ∨ Q4 q ∨ Q5 q) ∨ w.heap.size ≤ q) ∧ some q ≠ (.slice Ao51 y127.length co51 : Value).ownBlock ∧ some q ≠ (v139 : Value).ownBlock ∧ some q ≠ (v150 : Value).ownBlock ∧ q ≠ g1 ∧ q ≠ g2 ∧ q ≠ g3)) (okp := (fun q => ((P4 q ∨ P5 q ∨ Q4 q ∨ Q5 q) ∨ w.heap.size ≤ q) ∧ some q ≠ (.slice Ao51 y127.length co51 : Value).ownBlock ∧ some q ≠ (v139 : Value).ownBlock ∧ some q ≠ (v150 : Value).ownBlock ∧ q ≠ g1 ∧ q ≠ g2 ∧ q ≠ g3)) ?hr ?hp (fun _ hk => hk) ((show ∀ q, w58.heap.size ≤ q → (fun q => ((P4 q ∨ P5 q ∨ Q4 q ∨ Q5 q) ∨ w.heap.size ≤ q) ∧ some q ≠ (.slice Ao51 y127.length co51 : Value).ownBlock ∧ some q ≠ (v139 : Value).ownBlock ∧ some q ≠ (v150 : Value).ownBlock ∧ q ≠ g1 ∧ q ≠ g2 ∧ q ≠ g3) q from fun q hk => ⟨(.inr (Nat.le_trans (below_size (by repeat (first | (with_reducible first | exact HB.out | apply below_alloc | apply pw_below_drewN | apply below_drew1 | refine below_set ?_ GE111.out | refine below_set ?_ GE112.out | refine below_set ?_ GE113.out) | exact HB.out))) hk)), Kd.fresh' (Kd.R_lt (by (with_reducible repeat (first | apply Kd.R_alloc | apply Kd.R_drewN | apply Kd.R_drew)); exact HO129.out)) q hk, Kd.fresh' (Kd.R_lt (by (with_reducible repeat (first | apply Kd.R_alloc | apply Kd.R_drewN | apply Kd.R_drew)); exact HO140.out)) q hk, Kd.fresh' (Kd.N_lt (by (with_reducible repeat (first | apply Kd.N_alloc | apply Kd.N_drewN | apply Kd.N_drew)); exact HO151.out)) q hk, Kd.freshB (g := g1) (o := .cells #[.int .i64 a0_0, .int .i64 a0_1, .int .i64 a0_2, .string a0_3, .slice A0_4 l0_4.length c0_4, .slice A0_5 l0_5.length c0_5] 27 (0, 0)) (by (with_reducible repeat (first | refine blk_drewN ?_ _ | refine blk_drew ?_ | refine blk_alloc ?_ _)); exact BK111.out) q hk, Kd.freshB (g := g2) (o := .cells #[.int .i64 a2_0, .int .i64 a2_1, .int .i64 a2_2, .string a2_3, .slice A2_4 l2_4.length c2_4, .slice A2_5 l2_5.length c2_5] 27 (0, 0)) (by (with_reducible repeat (first | refine blk_drewN ?_ _ | refine blk_drew ?_ | refine blk_alloc ?_ _)); exact BK112.out) q hk, Kd.freshB (g := g3) (o := .cells #[.int .i64 0, .int .i64 0, .int .i64 0, .string (⟨#[]⟩ : ByteArray), .slice none 0 0, .slice none 0 0] 27 (0, 0)) (by (with_reducible repeat (first | refine blk_drewN ?_ _ | refine blk_drew ?_ | refine blk_alloc ?_ _)); exact BK113.out) q hk⟩) _ (Nat.le_refl _)) (Below.refl _ _) (Nat.le_refl _) (by simp) ?_; (case hd => rfl); (case hg => rfl); (case hr => first | (go_simp; done) | (go_simp; rfl)); (case hp => exact (Reps.c6 (show Kd.FK k27 _ _ (⟨a2_0, (⟨a2_1, a2_2⟩ : S23), a2_3, l2_4, l2_5⟩ : S27) [.int .i64 a2_0, .int .i64 a2_1, .int .i64 a2_2, .string a2_3, .slice A2_4 l2_4.length c2_4, .slice A2_5 l2_5.length c2_5] from (k27_mkF _ _ (⟨a2_0, (⟨a2_1, a2_2⟩ : S23), a2_3, l2_4, l2_5⟩ : S27) (Kd.V_reads' (Kd.V_mono (ok' := (fun q => ((P4 q ∨ P5 q ∨ Q4 q ∨ Q5 q) ∨ w.heap.size ≤ q) ∧ some q ≠ (.slice Ao51 y127.length co51 : Value).ownBlock ∧ some q ≠ (v139 : Value).ownBlock ∧ some q ≠ (v150 : Value).ownBlock ∧ q ≠ g1 ∧ q ≠ g2 ∧ q ≠ g3)) (U6.out) (fun q hk => ⟨hk.1.1, ⟨hk.1.2.1, ⟨hk.1.2.2.1, ⟨hk.2, ⟨hk.1.2.2.2.1, ⟨hk.1.2.2.2.2.1, hk.1.2.2.2.2.2⟩⟩⟩⟩⟩⟩))).2.1 (Kd.V_F (Kd.V_mono (ok' := (fun q => ((P4 q ∨ P5 q ∨ Q4 q ∨ Q5 q) ∨ w.heap.size ≤ q) ∧ some q ≠ (.slice Ao51 y127.length co51 : Value).ownBlock ∧ some q ≠ (v139 : Value).ownBlock ∧ some q ≠ (v150 : Value).ownBlock ∧ q ≠ g1 ∧ q ≠ g2 ∧ q ≠ g3)) (U6.out) (fun q hk => ⟨hk.1.1, ⟨hk.1.2.1, ⟨hk.1.2.2.1, ⟨hk.2, ⟨hk.1.2.2.2.1, ⟨hk.1.2.2.2.2.1, hk.1.2.2.2.2.2⟩⟩⟩⟩⟩⟩))) (Kd.V_reads' (Kd.V_mono (ok' := (fun q => ((P4 q ∨ P5 q ∨ Q4 q ∨ Q5 q) ∨ w.heap.size ≤ q) ∧ some q ≠ (.slice Ao51 y127.length co51 : Value).ownBlock ∧ some q ≠ (v139 : Value).ownBlock ∧ some q ≠ (v150 : Value).ownBlock ∧ q ≠ g1 ∧ q ≠ g2 ∧ q ≠ g3)) (U7.out) (fun q hk => ⟨hk.1.1, ⟨hk.1.2.1, ⟨hk.1.2.2.1, ⟨hk.2, ⟨hk.1.2.2.2.1, ⟨hk.1.2.2.2.2.1, hk.1.2.2.2.2.2⟩⟩⟩⟩⟩⟩))).2.1 (Kd.V_F (Kd.V_mono (ok' := (fun q => ((P4 q ∨ P5 q ∨ Q4 q ∨ Q5 q) ∨ w.heap.size ≤ q) ∧ some q ≠ (.slice Ao51 y127.length co51 : Value).ownBlock ∧ some q ≠ (v139 : Value).ownBlock ∧ some q ≠ (v150 : Value).ownBlock ∧ q ≠ g1 ∧ q ≠ g2 ∧ q ≠ g3)) (U7.out) (fun q hk => ⟨hk.1.1, ⟨hk.1.2.1, ⟨hk.1.2.2.1, ⟨hk.2, ⟨hk.1.2.2.2.1, ⟨hk.1.2.2.2.2.1, hk.1.2.2.2.2.2⟩⟩⟩⟩⟩⟩))))) (Reps.none _ _)))
              intro v153 w59 ho60 hb hg_ hnew_
              clear hg_ hnew_
              (first | rw [← Ny152.out] at ho60 | (simp only [Int.reduceToNat] at ho60; rw [← Ny152.out] at ho60))
              have n0_ := Aside0.mk (Kd.V_elder' (by (with_reducible repeat (first | apply Kd.V_alloc | apply Kd.V_drewN | apply Kd.V_drew)); exact U4.out) (Kd.N_base ho60) hb)
              have n1_ := Aside0.mk (Kd.V_elder' (by (with_reducible repeat (first | apply Kd.V_alloc | apply Kd.V_drewN | apply Kd.V_drew)); exact U5.out) (Kd.N_base ho60) hb)
              have n2_ := Aside0.mk (Kd.V_elder' (by (with_reducible repeat (first | apply Kd.V_alloc | apply Kd.V_drewN | apply Kd.V_drew)); exact U6.out) (Kd.N_base ho60) hb)
              have n3_ := Aside0.mk (Kd.V_elder' (by (with_reducible repeat (first | apply Kd.V_alloc | apply Kd.V_drewN | apply Kd.V_drew)); exact U7.out) (Kd.N_base ho60) hb)
              have n4_ := Aside0.mk (Kd.V_elder' (by (with_reducible repeat (first | apply Kd.V_alloc | apply Kd.V_drewN | apply Kd.V_drew)); exact HO123.out) (Kd.N_base ho60) hb)
              have n5_ := Aside0.mk (Kd.V_elder' (by (with_reducible repeat (first | apply Kd.V_alloc | apply Kd.V_drewN | apply Kd.V_drew)); exact HO137.out) (Kd.N_base ho60) hb)
              have n6_ := Aside0.mk (Kd.R_below (by (with_reducible repeat (first | apply Kd.R_alloc | apply Kd.R_drewN | apply Kd.R_drew)); exact HO129.out) hb)
              have n7_ := Aside0.mk (Kd.R_below (by (with_reducible repeat (first | apply Kd.R_alloc | apply Kd.R_drewN | apply Kd.R_drew)); exact HO140.out) hb)
              have n8_ := Aside0.mk (Kd.V_elder' (by (with_reducible repeat (first | apply Kd.V_alloc | apply Kd.V_drewN | apply Kd.V_drew)); exact HO148.out) (Kd.N_base ho60) hb)
              have n9_ := Aside0.mk (Kd.V_elder' (by (with_reducible repeat (first | apply Kd.V_alloc | apply Kd.V_drewN | apply Kd.V_drew)); exact HO162.out) (Kd.N_base ho60) hb)
              have n10_ := Aside0.mk (Kd.N_elder' (by (with_reducible repeat (first | apply Kd.N_alloc | apply Kd.N_drewN | apply Kd.N_drew)); exact HO151.out) (Kd.N_base ho60) hb)
              have n11_ := Aside0.mk (Kd.N_lower ho60 (below_size (by repeat (first | (with_reducible first | exact HB.out | apply below_alloc | apply pw_below_drewN | apply below_drew1 | refine below_set ?_ GE111.out | refine below_set ?_ GE112.out | refine below_set ?_ GE113.out) | exact HB.out))))
              have n12_ := Aside0.mk (blk_below (g := g1) (o := .cells #[.int .i64 a0_0, .int .i64 a0_1, .int .i64 a0_2, .string a0_3, .slice A0_4 l0_4.length c0_4, .slice A0_5 l0_5.length c0_5] 27 (0, 0)) (by (with_reducible repeat (first | refine blk_drewN ?_ _ | refine blk_drew ?_ | refine blk_alloc ?_ _)); exact BK111.out) hb)
              have n13_ := Aside0.mk (blk_below (g := g2) (o := .cells #[.int .i64 a2_0, .int .i64 a2_1, .int .i64 a2_2, .string a2_3, .slice A2_4 l2_4.length c2_4, .slice A2_5 l2_5.length c2_5] 27 (0, 0)) (by (with_reducible repeat (first | refine blk_drewN ?_ _ | refine blk_drew ?_ | refine blk_alloc ?_ _)); exact BK112.out) hb)
              have n14_ := Aside0.mk (blk_below (g := g3) (o := .cells #[.int .i64 0, .int .i64 0, .int .i64 0, .string (⟨#[]⟩ : ByteArray), .slice none 0 0, .slice none 0 0] 27 (0, 0)) (by (with_reducible repeat (first | refine blk_drewN ?_ _ | refine blk_drew ?_ | refine blk_alloc ?_ _)); exact BK113.out) hb)
              have n15_ := Aside0.mk (below_step (by repeat (first | (with_reducible first | exact HB.out | apply below_alloc | apply pw_below_drewN | apply below_drew1 | refine below_set ?_ GE111.out | refine below_set ?_ GE112.out | refine below_set ?_ GE113.out) | exact HB.out)) hb)
              clear U4
              clear U5
              clear U6
              clear U7
              clear HO123
              clear HO137
              clear HO129
              clear HO140
              clear HO148
              clear HO162
              clear HO151
              clear BK111
              clear BK112
              clear BK113
              clear HB
              have U4 := n0_
              have U5 := n1_
              have U6 := n2_
              have U7 := n3_
              have HO123 := n4_
              have HO137 := n5_
              have HO129 := n6_
              have HO140 := n7_
              have HO148 := n8_
              have HO162 := n9_
              have HO151 := n10_
              have HO154 := n11_
              have BK111 := n12_
              have BK112 := n13_
              have BK113 := n14_
              have HB := n15_
              clear n0_ n1_ n2_ n3_ n4_ n5_ n6_ n7_ n8_ n9_ n10_ n11_ n12_ n13_ n14_ n15_
              clear hb ho60
              refine hK.out _ _ ⟨(blk_cell BK111.out 0).trans rfl, (blk_cell BK111.out 1).trans rfl, (blk_cell BK111.out 2).trans rfl, (blk_cell BK111.out 3).trans rfl, (blk_cell BK111.out 4).trans rfl, (blk_cell BK111.out 5).trans rfl, (blk_cell BK112.out 0).trans rfl, (blk_cell BK112.out 1).trans rfl, (blk_cell BK112.out 2).trans rfl, (blk_cell BK112.out 3).trans rfl, (blk_cell BK112.out 4).trans rfl, (blk_cell BK112.out 5).trans rfl⟩ (fun hHeld => ?_)
              clear hK K
              refine norm_ (a' := ?_) ?_ ?_
              rotate_left
              · show Act.put _ (some 57) _ = _
                simp only [Act.put, List.setIfInBounds_toArray, List.set_cons_zero, List.set_cons_succ, i64_w, i32_w]
                rfl
              exact norm_ (by simp only [putAll, Act.put, List.setIfInBounds_toArray, List.set_cons_zero, List.set_cons_succ]) (hCont (v142, v150, v153) _ ⟨hHeld, (by (with_reducible repeat (first | apply Kd.V_alloc | apply Kd.V_drewN | apply Kd.V_drew)); exact Kd.V_mono HO123.out (fun _ hk => ⟨hk.1.1.1, ⟨hk.1.1.2.1, ⟨hk.1.1.2.2.1, ⟨hk.1.2, ⟨hk.2, ⟨hk.1.1.2.2.2.1, ⟨hk.1.1.2.2.2.2.1, hk.1.1.2.2.2.2.2⟩⟩⟩⟩⟩⟩⟩)), (by (with_reducible repeat (first | apply Kd.R_alloc | apply Kd.R_drewN | apply Kd.R_drew)); exact HO129.out), (by (with_reducible repeat (first | apply Kd.V_alloc | apply Kd.V_drewN | apply Kd.V_drew)); exact Kd.V_mono HO137.out (fun _ hk => ⟨hk.1.1.1, ⟨hk.1.1.2.1, ⟨hk.1.1.2.2.1, ⟨hk.1.2, ⟨hk.2, ⟨hk.1.1.2.2.2.1, ⟨hk.1.1.2.2.2.2.1, hk.1.1.2.2.2.2.2⟩⟩⟩⟩⟩⟩⟩)), (by (with_reducible repeat (first | apply Kd.R_alloc | apply Kd.R_drewN | apply Kd.R_drew)); exact HO140.out), (by (with_reducible repeat (first | apply Kd.V_alloc | apply Kd.V_drewN | apply Kd.V_drew)); exact Kd.V_mono HO148.out (fun _ hk => ⟨hk.1.1.1, ⟨hk.1.1.2.1, ⟨hk.1.1.2.2.1, ⟨hk.1.2, ⟨hk.2, ⟨hk.1.1.2.2.2.1, ⟨hk.1.1.2.2.2.2.1, hk.1.1.2.2.2.2.2⟩⟩⟩⟩⟩⟩⟩)), (by (with_reducible repeat (first | apply Kd.N_alloc | apply Kd.N_drewN | apply Kd.N_drew)); exact Kd.N_mono HO151.out (fun _ hk => ⟨hk.1.1, ⟨hk.1.2.1, ⟨hk.1.2.2.1, ⟨hk.2, ⟨hk.1.2.2.2.1, ⟨hk.1.2.2.2.2.1, hk.1.2.2.2.2.2⟩⟩⟩⟩⟩⟩)), (by (with_reducible repeat (first | apply Kd.N_alloc | apply Kd.N_drewN | apply Kd.N_drew)); exact HO154.out), (by (with_reducible repeat (first | apply Kd.V_alloc | apply Kd.V_drewN | apply Kd.V_drew)); exact Kd.V_mono HO162.out (fun _ hk => ⟨hk.1.1.1, ⟨hk.1.1.2.1, ⟨hk.1.1.2.2.1, ⟨hk.1.2, ⟨hk.2, ⟨hk.1.1.2.2.2.1, ⟨hk.1.1.2.2.2.2.1, hk.1.1.2.2.2.2.2⟩⟩⟩⟩⟩⟩⟩)), (by (with_reducible repeat (first | apply Kd.V_alloc | apply Kd.V_drewN | apply Kd.V_drew)); exact Kd.V_mono U4.out (fun _ hk => ⟨hk.1.1.1, ⟨hk.1.1.2.1, ⟨hk.1.1.2.2.1, ⟨hk.1.2, ⟨hk.2, ⟨hk.1.1.2.2.2.1, ⟨hk.1.1.2.2.2.2.1, hk.1.1.2.2.2.2.2⟩⟩⟩⟩⟩⟩⟩)), (by (with_reducible repeat (first | apply Kd.V_alloc | apply Kd.V_drewN | apply Kd.V_drew)); exact Kd.V_mono U5.out (fun _ hk => ⟨hk.1.1.1, ⟨hk.1.1.2.1, ⟨hk.1.1.2.2.1, ⟨hk.1.2, ⟨hk.2, ⟨hk.1.1.2.2.2.1, ⟨hk.1.1.2.2.2.2.1, hk.1.1.2.2.2.2.2⟩⟩⟩⟩⟩⟩⟩)), (by (with_reducible repeat (first | apply Kd.V_alloc | apply Kd.V_drewN | apply Kd.V_drew)); exact Kd.V_mono U6.out (fun _ hk => ⟨hk.1.1.1, ⟨hk.1.1.2.1, ⟨hk.1.1.2.2.1, ⟨hk.1.2, ⟨hk.2, ⟨hk.1.1.2.2.2.1, ⟨hk.1.1.2.2.2.2.1, hk.1.1.2.2.2.2.2⟩⟩⟩⟩⟩⟩⟩)), (by (with_reducible repeat (first | apply Kd.V_alloc | apply Kd.V_drewN | apply Kd.V_drew)); exact Kd.V_mono U7.out (fun _ hk => ⟨hk.1.1.1, ⟨hk.1.1.2.1, ⟨hk.1.1.2.2.1, ⟨hk.1.2, ⟨hk.2, ⟨hk.1.1.2.2.2.1, ⟨hk.1.1.2.2.2.2.1, hk.1.1.2.2.2.2.2⟩⟩⟩⟩⟩⟩⟩)), (by (with_reducible repeat (first | refine blk_drewN ?_ _ | refine blk_drew ?_ | refine blk_alloc ?_ _)); exact BK111.out), (by (with_reducible repeat (first | refine blk_drewN ?_ _ | refine blk_drew ?_ | refine blk_alloc ?_ _)); exact BK112.out), (by (with_reducible repeat (first | refine blk_drewN ?_ _ | refine blk_drew ?_ | refine blk_alloc ?_ _)); exact BK113.out), (by repeat (first | (with_reducible first | exact HB.out | apply below_alloc | apply pw_below_drewN | apply below_drew1 | refine below_set ?_ GE111.out | refine below_set ?_ GE112.out | refine below_set ?_ GE113.out) | exact HB.out))⟩)
            · skip
              refine Kd.N_lit_step k27 _ 27 ?hg (N' := 57) ?hd (xs := ([(⟨a2_0, (⟨a2_1, a2_2⟩ : S23), a2_3, l2_4, l2_5⟩ : S27)] : List (S27))) (inner := [.int .i64 a2_0, .int .i64 a2_1, .int .i64 a2_2, .string a2_3, .slice A2_4 l2_4.length c2_4, .slice A2_5 l2_5.length c2_5]) (ok := (fun q => ((P4 q ∨ P5 q ∨ Q4 q ∨ Q5 q) ∨ w.heap.size ≤ q) ∧ some q ≠ (.slice Ao51 y127.length co51 : Value).ownBlock ∧ some q ≠ (v139 : Value).ownBlock ∧ some q ≠ (v142 : Value).ownBlock ∧ q ≠ g1 ∧ q ≠ g2 ∧ q ≠ g3)) (okp := (fun q => ((P4 q ∨ P5 q ∨ Q4 q ∨ Q5 q) ∨ w.heap.size ≤ q) ∧ some q ≠ (.slice Ao51 y127.length co51 : Value).ownBlock ∧ some q ≠ (v139 : Value).ownBlock ∧ some q ≠ (v142 : Value).ownBlock ∧ q ≠ g1 ∧ q ≠ g2 ∧ q ≠ g3)) ?hr ?hp (fun _ hk => hk) ((show ∀ q, w56.heap.size ≤ q → (fun q => ((P4 q ∨ P5 q ∨ Q4 q ∨ Q5 q) ∨ w.heap.size ≤ q) ∧ some q ≠ (.slice Ao51 y127.length co51 : Value).ownBlock ∧ some q ≠ (v139 : Value).ownBlock ∧ some q ≠ (v142 : Value).ownBlock ∧ q ≠ g1 ∧ q ≠ g2 ∧ q ≠ g3) q from fun q hk => ⟨(.inr (Nat.le_trans (below_size (by repeat (first | (with_reducible first | exact HB.out | apply below_alloc | apply pw_below_drewN | apply below_drew1 | refine below_set ?_ GE111.out | refine below_set ?_ GE112.out | refine below_set ?_ GE113.out) | exact HB.out))) hk)), Kd.fresh' (Kd.R_lt (by (with_reducible repeat (first | apply Kd.R_alloc | apply Kd.R_drewN | apply Kd.R_drew)); exact HO129.out)) q hk, Kd.fresh' (Kd.R_lt (by (with_reducible repeat (first | apply Kd.R_alloc | apply Kd.R_drewN | apply Kd.R_drew)); exact HO140.out)) q hk, Kd.fresh' (Kd.N_lt (by (with_reducible repeat (first | apply Kd.N_alloc | apply Kd.N_drewN | apply Kd.N_drew)); exact HO143.out)) q hk, Kd.freshB (g := g1) (o := .cells #[.int .i64 a0_0, .int .i64 a0_1, .int .i64 a0_2, .string a0_3, .slice A0_4 l0_4.length c0_4, .slice A0_5 l0_5.length c0_5] 27 (0, 0)) (by (with_reducible repeat (first | refine blk_drewN ?_ _ | refine blk_drew ?_ | refine blk_alloc ?_ _)); exact BK111.out) q hk, Kd.freshB (g := g2) (o := .cells #[.int .i64 a2_0, .int .i64 a2_1, .int .i64 a2_2, .string a2_3, .slice A2_4 l2_4.length c2_4, .slice A2_5 l2_5.length c2_5] 27 (0, 0)) (by (with_reducible repeat (first | refine blk_drewN ?_ _ | refine blk_drew ?_ | refine blk_alloc ?_ _)); exact BK112.out) q hk, Kd.freshB (g := g3) (o := .cells #[.int .i64 0, .int .i64 0, .int .i64 0, .string (⟨#[]⟩ : ByteArray), .slice none 0 0, .slice none 0 0] 27 (0, 0)) (by (with_reducible repeat (first | refine blk_drewN ?_ _ | refine blk_drew ?_ | refine blk_alloc ?_ _)); exact BK113.out) q hk⟩) _ (Nat.le_refl _)) (Below.refl _ _) (Nat.le_refl _) (by simp) ?_; (case hd => rfl); (case hg => rfl); (case hr => first | (go_simp; done) | (go_simp; rfl)); (case hp => exact (Reps.c6 (show Kd.FK k27 _ _ (⟨a2_0, (⟨a2_1, a2_2⟩ : S23), a2_3, l2_4, l2_5⟩ : S27) [.int .i64 a2_0, .int .i64 a2_1, .int .i64 a2_2, .string a2_3, .slice A2_4 l2_4.length c2_4, .slice A2_5 l2_5.length c2_5] from (k27_mkF _ _ (⟨a2_0, (⟨a2_1, a2_2⟩ : S23), a2_3, l2_4, l2_5⟩ : S27) (Kd.V_reads' (Kd.V_mono (ok' := (fun q => ((P4 q ∨ P5 q ∨ Q4 q ∨ Q5 q) ∨ w.heap.size ≤ q) ∧ some q ≠ (.slice Ao51 y127.length co51 : Value).ownBlock ∧ some q ≠ (v139 : Value).ownBlock ∧ some q ≠ (v142 : Value).ownBlock ∧ q ≠ g1 ∧ q ≠ g2 ∧ q ≠ g3)) (U6.out) (fun q hk => ⟨hk.1.1.1, ⟨hk.1.1.2.1, ⟨hk.1.2, ⟨hk.2, ⟨hk.1.1.2.2.1, ⟨hk.1.1.2.2.2.1, hk.1.1.2.2.2.2⟩⟩⟩⟩⟩⟩))).2.1 (Kd.V_F (Kd.V_mono (ok' := (fun q => ((P4 q ∨ P5 q ∨ Q4 q ∨ Q5 q) ∨ w.heap.size ≤ q) ∧ some q ≠ (.slice Ao51 y127.length co51 : Value).ownBlock ∧ some q ≠ (v139 : Value).ownBlock ∧ some q ≠ (v142 : Value).ownBlock ∧ q ≠ g1 ∧ q ≠ g2 ∧ q ≠ g3)) (U6.out) (fun q hk => ⟨hk.1.1.1, ⟨hk.1.1.2.1, ⟨hk.1.2, ⟨hk.2, ⟨hk.1.1.2.2.1, ⟨hk.1.1.2.2.2.1, hk.1.1.2.2.2.2⟩⟩⟩⟩⟩⟩))) (Kd.V_reads' (Kd.V_mono (ok' := (fun q => ((P4 q ∨ P5 q ∨ Q4 q ∨ Q5 q) ∨ w.heap.size ≤ q) ∧ some q ≠ (.slice Ao51 y127.length co51 : Value).ownBlock ∧ some q ≠ (v139 : Value).ownBlock ∧ some q ≠ (v142 : Value).ownBlock ∧ q ≠ g1 ∧ q ≠ g2 ∧ q ≠ g3)) (U7.out) (fun q hk => ⟨hk.1.1.1, ⟨hk.1.1.2.1, ⟨hk.1.2, ⟨hk.2, ⟨hk.1.1.2.2.1, ⟨hk.1.1.2.2.2.1, hk.1.1.2.2.2.2⟩⟩⟩⟩⟩⟩))).2.1 (Kd.V_F (Kd.V_mono (ok' := (fun q => ((P4 q ∨ P5 q ∨ Q4 q ∨ Q5 q) ∨ w.heap.size ≤ q) ∧ some q ≠ (.slice Ao51 y127.length co51 : Value).ownBlock ∧ some q ≠ (v139 : Value).ownBlock ∧ some q ≠ (v142 : Value).ownBlock ∧ q ≠ g1 ∧ q ≠ g2 ∧ q ≠ g3)) (U7.out) (fun q hk => ⟨hk.1.1.1, ⟨hk.1.1.2.1, ⟨hk.1.2, ⟨hk.2, ⟨hk.1.1.2.2.1, ⟨hk.1.1.2.2.2.1, hk.1.1.2.2.2.2⟩⟩⟩⟩⟩⟩))))) (Reps.none _ _)))
              intro v153 w58 ho59 hb hg_ hnew_
              clear hg_ hnew_
              (first | rw [← Ny152.out] at ho59 | (simp only [Int.reduceToNat] at ho59; rw [← Ny152.out] at ho59))
              have n0_ := Aside0.mk (Kd.V_elder' (by (with_reducible repeat (first | apply Kd.V_alloc | apply Kd.V_drewN | apply Kd.V_drew)); exact U4.out) (Kd.N_base ho59) hb)
              have n1_ := Aside0.mk (Kd.V_elder' (by (with_reducible repeat (first | apply Kd.V_alloc | apply Kd.V_drewN | apply Kd.V_drew)); exact U5.out) (Kd.N_base ho59) hb)
              have n2_ := Aside0.mk (Kd.V_elder' (by (with_reducible repeat (first | apply Kd.V_alloc | apply Kd.V_drewN | apply Kd.V_drew)); exact U6.out) (Kd.N_base ho59) hb)
              have n3_ := Aside0.mk (Kd.V_elder' (by (with_reducible repeat (first | apply Kd.V_alloc | apply Kd.V_drewN | apply Kd.V_drew)); exact U7.out) (Kd.N_base ho59) hb)
              have n4_ := Aside0.mk (Kd.V_elder' (by (with_reducible repeat (first | apply Kd.V_alloc | apply Kd.V_drewN | apply Kd.V_drew)); exact HO123.out) (Kd.N_base ho59) hb)
              have n5_ := Aside0.mk (Kd.V_elder' (by (with_reducible repeat (first | apply Kd.V_alloc | apply Kd.V_drewN | apply Kd.V_drew)); exact HO137.out) (Kd.N_base ho59) hb)
              have n6_ := Aside0.mk (Kd.R_below (by (with_reducible repeat (first | apply Kd.R_alloc | apply Kd.R_drewN | apply Kd.R_drew)); exact HO129.out) hb)
              have n7_ := Aside0.mk (Kd.R_below (by (with_reducible repeat (first | apply Kd.R_alloc | apply Kd.R_drewN | apply Kd.R_drew)); exact HO140.out) hb)
              have n8_ := Aside0.mk (Kd.V_elder' (by (with_reducible repeat (first | apply Kd.V_alloc | apply Kd.V_drewN | apply Kd.V_drew)); exact HO148.out) (Kd.N_base ho59) hb)
              have n9_ := Aside0.mk (Kd.V_elder' (by (with_reducible repeat (first | apply Kd.V_alloc | apply Kd.V_drewN | apply Kd.V_drew)); exact HO162.out) (Kd.N_base ho59) hb)
              have n10_ := Aside0.mk (Kd.N_elder' (by (with_reducible repeat (first | apply Kd.N_alloc | apply Kd.N_drewN | apply Kd.N_drew)); exact HO143.out) (Kd.N_base ho59) hb)
              have n11_ := Aside0.mk (Kd.N_lower ho59 (below_size (by repeat (first | (with_reducible first | exact HB.out | apply below_alloc | apply pw_below_drewN | apply below_drew1 | refine below_set ?_ GE111.out | refine below_set ?_ GE112.out | refine below_set ?_ GE113.out) | exact HB.out))))
              have n12_ := Aside0.mk (blk_below (g := g1) (o := .cells #[.int .i64 a0_0, .int .i64 a0_1, .int .i64 a0_2, .string a0_3, .slice A0_4 l0_4.length c0_4, .slice A0_5 l0_5.length c0_5] 27 (0, 0)) (by (with_reducible repeat (first | refine blk_drewN ?_ _ | refine blk_drew ?_ | refine blk_alloc ?_ _)); exact BK111.out) hb)
              have n13_ := Aside0.mk (blk_below (g := g2) (o := .cells #[.int .i64 a2_0, .int .i64 a2_1, .int .i64 a2_2, .string a2_3, .slice A2_4 l2_4.length c2_4, .slice A2_5 l2_5.length c2_5] 27 (0, 0)) (by (with_reducible repeat (first | refine blk_drewN ?_ _ | refine blk_drew ?_ | refine blk_alloc ?_ _)); exact BK112.out) hb)
              have n14_ := Aside0.mk (blk_below (g := g3) (o := .cells #[.int .i64 0, .int .i64 0, .int .i64 0, .string (⟨#[]⟩ : ByteArray), .slice none 0 0, .slice none 0 0] 27 (0, 0)) (by (with_reducible repeat (first | refine blk_drewN ?_ _ | refine blk_drew ?_ | refine blk_alloc ?_ _)); exact BK113.out) hb)
              have n15_ := Aside0.mk (below_step (by repeat (first | (with_reducible first | exact HB.out | apply below_alloc | apply pw_below_drewN | apply below_drew1 | refine below_set ?_ GE111.out | refine below_set ?_ GE112.out | refine below_set ?_ GE113.out) | exact HB.out)) hb)
              clear U4
              clear U5
              clear U6
              clear U7
              clear HO123
              clear HO137
              clear HO129
              clear HO140
              clear HO148
              clear HO162
              clear HO143
              clear BK111
              clear BK112
              clear BK113
              clear HB
              have U4 := n0_
              have U5 := n1_
              have U6 := n2_
              have U7 := n3_
              have HO123 := n4_
              have HO137 := n5_
              have HO129 := n6_
              have HO140 := n7_
              have HO148 := n8_
              have HO162 := n9_
              have HO143 := n10_
              have HO154 := n11_
              have BK111 := n12_
              have BK112 := n13_
              have BK113 := n14_
              have HB := n15_
              clear n0_ n1_ n2_ n3_ n4_ n5_ n6_ n7_ n8_ n9_ n10_ n11_ n12_ n13_ n14_ n15_
              clear hb ho59
              refine hK.out _ _ ⟨(blk_cell BK111.out 0).trans rfl, (blk_cell BK111.out 1).trans rfl, (blk_cell BK111.out 2).trans rfl, (blk_cell BK111.out 3).trans rfl, (blk_cell BK111.out 4).trans rfl, (blk_cell BK111.out 5).trans rfl, (blk_cell BK112.out 0).trans rfl, (blk_cell BK112.out 1).trans rfl, (blk_cell BK112.out 2).trans rfl, (blk_cell BK112.out 3).trans rfl, (blk_cell BK112.out 4).trans rfl, (blk_cell BK112.out 5).trans rfl⟩ (fun hHeld => ?_)
              clear hK K
              refine norm_ (a' := ?_) ?_ ?_
              rotate_left
              · show Act.put _ (some 57) _ = _
                simp only [Act.put, List.setIfInBounds_toArray, List.set_cons_zero, List.set_cons_succ, i64_w, i32_w]
                rfl
              refine one_ (i := 5) (N := some 55) #[true, true, true, true, true, true, true, true, false, true, true, true, true, false, false] rfl rfl (one_of HT_.out (by kernel_rfl)) (by decide) (fun K hK => ?_)
              refine Kd.N_append_rows_step k27 (w0 := w) w.heap.size (by rfl) (.tmp 50) (.tmp 54) 24 27 (.agg #[(.int .i64 0), (.int .i64 0), (.int .i64 0), (.string ⟨#[]⟩), (.slice none 0 0), (.slice none 0 0)]) 88 rfl Try.underlying24 info27 rfl (by decide) (by omega) v142 y141 y144 _ _ _ (fun q => ((P4 q ∨ P5 q ∨ Q4 q ∨ Q5 q) ∨ w.heap.size ≤ q) ∧ some q ≠ (.slice Ao51 y127.length co51 : Value).ownBlock ∧ some q ≠ (v139 : Value).ownBlock ∧ some q ≠ (v153 : Value).ownBlock ∧ q ≠ g1 ∧ q ≠ g2 ∧ q ≠ g3) (fun q => ((fun q => ((P4 q ∨ P5 q ∨ Q4 q ∨ Q5 q) ∨ w.heap.size ≤ q) ∧ some q ≠ (.slice Ao51 y127.length co51 : Value).ownBlock ∧ some q ≠ (v139 : Value).ownBlock ∧ some q ≠ (v153 : Value).ownBlock ∧ q ≠ g1 ∧ q ≠ g2 ∧ q ≠ g3)) q ∧ some q ≠ (v142 : Value).ownBlock) rfl rfl ?aO ?aR (fun _ hk => hk) ?aF ?aB ?aS ?aL ?_
              (case aR => exact (by skip; exact Kd.V_F (Kd.V_mono (ok' := (fun q => ((fun q => ((P4 q ∨ P5 q ∨ Q4 q ∨ Q5 q) ∨ w.heap.size ≤ q) ∧ some q ≠ (.slice Ao51 y127.length co51 : Value).ownBlock ∧ some q ≠ (v139 : Value).ownBlock ∧ some q ≠ (v153 : Value).ownBlock ∧ q ≠ g1 ∧ q ≠ g2 ∧ q ≠ g3)) q ∧ some q ≠ (v142 : Value).ownBlock)) (HO148.out) (fun q hk => ⟨⟨hk.1.1.1.1, ⟨hk.1.1.1.2.1, ⟨hk.1.1.2, ⟨hk.2, ⟨hk.1.1.1.2.2.1, ⟨hk.1.1.1.2.2.2.1, hk.1.1.1.2.2.2.2⟩⟩⟩⟩⟩⟩, hk.1.2⟩))))
              (case aB => exact (by repeat (first | (with_reducible first | exact HB.out | apply below_alloc | apply pw_below_drewN | apply below_drew1 | refine below_set ?_ GE111.out | refine below_set ?_ GE112.out | refine below_set ?_ GE113.out) | exact HB.out)))
              (case aF => exact (fun q hk => ⟨(.inr (Nat.le_trans (below_size (by repeat (first | (with_reducible first | exact HB.out | apply below_alloc | apply pw_below_drewN | apply below_drew1 | refine below_set ?_ GE111.out | refine below_set ?_ GE112.out | refine below_set ?_ GE113.out) | exact HB.out))) hk)), Kd.fresh' (Kd.R_lt (by (with_reducible repeat (first | apply Kd.R_alloc | apply Kd.R_drewN | apply Kd.R_drew)); exact HO129.out)) q hk, Kd.fresh' (Kd.R_lt (by (with_reducible repeat (first | apply Kd.R_alloc | apply Kd.R_drewN | apply Kd.R_drew)); exact HO140.out)) q hk, Kd.fresh' (Kd.N_lt (by (with_reducible repeat (first | apply Kd.N_alloc | apply Kd.N_drewN | apply Kd.N_drew)); exact HO154.out)) q hk, Kd.freshB (g := g1) (o := .cells #[.int .i64 a0_0, .int .i64 a0_1, .int .i64 a0_2, .string a0_3, .slice A0_4 l0_4.length c0_4, .slice A0_5 l0_5.length c0_5] 27 (0, 0)) (by (with_reducible repeat (first | refine blk_drewN ?_ _ | refine blk_drew ?_ | refine blk_alloc ?_ _)); exact BK111.out) q hk, Kd.freshB (g := g2) (o := .cells #[.int .i64 a2_0, .int .i64 a2_1, .int .i64 a2_2, .string a2_3, .slice A2_4 l2_4.length c2_4, .slice A2_5 l2_5.length c2_5] 27 (0, 0)) (by (with_reducible repeat (first | refine blk_drewN ?_ _ | refine blk_drew ?_ | refine blk_alloc ?_ _)); exact BK112.out) q hk, Kd.freshB (g := g3) (o := .cells #[.int .i64 0, .int .i64 0, .int .i64 0, .string (⟨#[]⟩ : ByteArray), .slice none 0 0, .slice none 0 0] 27 (0, 0)) (by (with_reducible repeat (first | refine blk_drewN ?_ _ | refine blk_drew ?_ | refine blk_alloc ?_ _)); exact BK113.out) q hk⟩))
              (case aO => exact (by (with_reducible repeat (first | apply Kd.N_alloc | apply Kd.N_drewN | apply Kd.N_drew)); exact Kd.N_mono HO143.out (fun _ hk => ⟨hk.1.1, ⟨hk.1.2.1, ⟨hk.1.2.2.1, ⟨hk.2, ⟨hk.1.2.2.2.1, ⟨hk.1.2.2.2.2.1, hk.1.2.2.2.2.2⟩⟩⟩⟩⟩⟩)))
              (case aS => exact (below_size (by repeat (first | (with_reducible first | exact HB.out | apply below_alloc | apply pw_below_drewN | apply below_drew1 | refine below_set ?_ GE111.out | refine below_set ?_ GE112.out | refine below_set ?_ GE113.out) | exact HB.out))))
              (case aL => have := LMc33.out; omega)
              intro v150 w60 ho hb hg hat
              rw [← Ny149.out] at ho
              have n0_ := Aside0.mk (Kd.V_afterv (ok := (fun q => ((P4 q ∨ P5 q ∨ Q4 q ∨ Q5 q) ∨ w.heap.size ≤ q) ∧ some q ≠ (.slice Ao51 y127.length co51 : Value).ownBlock ∧ some q ≠ (v139 : Value).ownBlock ∧ some q ≠ (v153 : Value).ownBlock ∧ q ≠ g1 ∧ q ≠ g2 ∧ q ≠ g3)) (by (with_reducible repeat (first | apply Kd.V_alloc | apply Kd.V_drewN | apply Kd.V_drew)); exact Kd.V_mono U4.out (fun _ hk => ⟨⟨hk.1.1.1.1, ⟨hk.1.1.1.2.1, ⟨hk.1.1.2, ⟨hk.2, ⟨hk.1.1.1.2.2.1, ⟨hk.1.1.1.2.2.2.1, hk.1.1.1.2.2.2.2⟩⟩⟩⟩⟩⟩, hk.1.2⟩)) hg hat)
              have n1_ := Aside0.mk (Kd.V_afterv (ok := (fun q => ((P4 q ∨ P5 q ∨ Q4 q ∨ Q5 q) ∨ w.heap.size ≤ q) ∧ some q ≠ (.slice Ao51 y127.length co51 : Value).ownBlock ∧ some q ≠ (v139 : Value).ownBlock ∧ some q ≠ (v153 : Value).ownBlock ∧ q ≠ g1 ∧ q ≠ g2 ∧ q ≠ g3)) (by (with_reducible repeat (first | apply Kd.V_alloc | apply Kd.V_drewN | apply Kd.V_drew)); exact Kd.V_mono U5.out (fun _ hk => ⟨⟨hk.1.1.1.1, ⟨hk.1.1.1.2.1, ⟨hk.1.1.2, ⟨hk.2, ⟨hk.1.1.1.2.2.1, ⟨hk.1.1.1.2.2.2.1, hk.1.1.1.2.2.2.2⟩⟩⟩⟩⟩⟩, hk.1.2⟩)) hg hat)
              have n2_ := Aside0.mk (Kd.V_afterv (ok := (fun q => ((P4 q ∨ P5 q ∨ Q4 q ∨ Q5 q) ∨ w.heap.size ≤ q) ∧ some q ≠ (.slice Ao51 y127.length co51 : Value).ownBlock ∧ some q ≠ (v139 : Value).ownBlock ∧ some q ≠ (v153 : Value).ownBlock ∧ q ≠ g1 ∧ q ≠ g2 ∧ q ≠ g3)) (by (with_reducible repeat (first | apply Kd.V_alloc | apply Kd.V_drewN | apply Kd.V_drew)); exact Kd.V_mono U6.out (fun _ hk => ⟨⟨hk.1.1.1.1, ⟨hk.1.1.1.2.1, ⟨hk.1.1.2, ⟨hk.2, ⟨hk.1.1.1.2.2.1, ⟨hk.1.1.1.2.2.2.1, hk.1.1.1.2.2.2.2⟩⟩⟩⟩⟩⟩, hk.1.2⟩)) hg hat)
              have n3_ := Aside0.mk (Kd.V_afterv (ok := (fun q => ((P4 q ∨ P5 q ∨ Q4 q ∨ Q5 q) ∨ w.heap.size ≤ q) ∧ some q ≠ (.slice Ao51 y127.length co51 : Value).ownBlock ∧ some q ≠ (v139 : Value).ownBlock ∧ some q ≠ (v153 : Value).ownBlock ∧ q ≠ g1 ∧ q ≠ g2 ∧ q ≠ g3)) (by (with_reducible repeat (first | apply Kd.V_alloc | apply Kd.V_drewN | apply Kd.V_drew)); exact Kd.V_mono U7.out (fun _ hk => ⟨⟨hk.1.1.1.1, ⟨hk.1.1.1.2.1, ⟨hk.1.1.2, ⟨hk.2, ⟨hk.1.1.1.2.2.1, ⟨hk.1.1.1.2.2.2.1, hk.1.1.1.2.2.2.2⟩⟩⟩⟩⟩⟩, hk.1.2⟩)) hg hat)
              have n4_ := Aside0.mk (blk_grown (g := g1) (o := .cells #[.int .i64 a0_0, .int .i64 a0_1, .int .i64 a0_2, .string a0_3, .slice A0_4 l0_4.length c0_4, .slice A0_5 l0_5.length c0_5] 27 (0, 0)) (by (with_reducible repeat (first | refine blk_drewN ?_ _ | refine blk_drew ?_ | refine blk_alloc ?_ _)); exact BK111.out) hg (Kd.N_away HO143.out (fun _ hk => hk.1.2.2.2.1)))
              have n5_ := Aside0.mk (blk_grown (g := g2) (o := .cells #[.int .i64 a2_0, .int .i64 a2_1, .int .i64 a2_2, .string a2_3, .slice A2_4 l2_4.length c2_4, .slice A2_5 l2_5.length c2_5] 27 (0, 0)) (by (with_reducible repeat (first | refine blk_drewN ?_ _ | refine blk_drew ?_ | refine blk_alloc ?_ _)); exact BK112.out) hg (Kd.N_away HO143.out (fun _ hk => hk.1.2.2.2.2.1)))
              have n6_ := Aside0.mk (blk_grown (g := g3) (o := .cells #[.int .i64 0, .int .i64 0, .int .i64 0, .string (⟨#[]⟩ : ByteArray), .slice none 0 0, .slice none 0 0] 27 (0, 0)) (by (with_reducible repeat (first | refine blk_drewN ?_ _ | refine blk_drew ?_ | refine blk_alloc ?_ _)); exact BK113.out) hg (Kd.N_away HO143.out (fun _ hk => hk.1.2.2.2.2.2)))
              have n7_ := Aside0.mk (Kd.V_afterv (ok := (fun q => ((P4 q ∨ P5 q ∨ Q4 q ∨ Q5 q) ∨ w.heap.size ≤ q) ∧ some q ≠ (.slice Ao51 y127.length co51 : Value).ownBlock ∧ some q ≠ (v139 : Value).ownBlock ∧ some q ≠ (v153 : Value).ownBlock ∧ q ≠ g1 ∧ q ≠ g2 ∧ q ≠ g3)) (by (with_reducible repeat (first | apply Kd.V_alloc | apply Kd.V_drewN | apply Kd.V_drew)); exact Kd.V_mono HO123.out (fun _ hk => ⟨⟨hk.1.1.1.1, ⟨hk.1.1.1.2.1, ⟨hk.1.1.2, ⟨hk.2, ⟨hk.1.1.1.2.2.1, ⟨hk.1.1.1.2.2.2.1, hk.1.1.1.2.2.2.2⟩⟩⟩⟩⟩⟩, hk.1.2⟩)) hg hat)
              have n8_ := Aside0.mk (Kd.V_afterv (ok := (fun q => ((P4 q ∨ P5 q ∨ Q4 q ∨ Q5 q) ∨ w.heap.size ≤ q) ∧ some q ≠ (.slice Ao51 y127.length co51 : Value).ownBlock ∧ some q ≠ (v139 : Value).ownBlock ∧ some q ≠ (v153 : Value).ownBlock ∧ q ≠ g1 ∧ q ≠ g2 ∧ q ≠ g3)) (by (with_reducible repeat (first | apply Kd.V_alloc | apply Kd.V_drewN | apply Kd.V_drew)); exact Kd.V_mono HO137.out (fun _ hk => ⟨⟨hk.1.1.1.1, ⟨hk.1.1.1.2.1, ⟨hk.1.1.2, ⟨hk.2, ⟨hk.1.1.1.2.2.1, ⟨hk.1.1.1.2.2.2.1, hk.1.1.1.2.2.2.2⟩⟩⟩⟩⟩⟩, hk.1.2⟩)) hg hat)
              have n9_ := Aside0.mk (Kd.R_over' (by (with_reducible repeat (first | apply Kd.R_alloc | apply Kd.R_drewN | apply Kd.R_drew)); exact HO129.out) (Kd.N_typed (by (with_reducible repeat (first | apply Kd.N_alloc | apply Kd.N_drewN | apply Kd.N_drew)); exact HO143.out)) (by decide) hg)
              have n10_ := Aside0.mk (Kd.R_over' (by (with_reducible repeat (first | apply Kd.R_alloc | apply Kd.R_drewN | apply Kd.R_drew)); exact HO140.out) (Kd.N_typed (by (with_reducible repeat (first | apply Kd.N_alloc | apply Kd.N_drewN | apply Kd.N_drew)); exact HO143.out)) (by decide) hg)
              have n11_ := Aside0.mk (Kd.V_afterv (ok := (fun q => ((P4 q ∨ P5 q ∨ Q4 q ∨ Q5 q) ∨ w.heap.size ≤ q) ∧ some q ≠ (.slice Ao51 y127.length co51 : Value).ownBlock ∧ some q ≠ (v139 : Value).ownBlock ∧ some q ≠ (v153 : Value).ownBlock ∧ q ≠ g1 ∧ q ≠ g2 ∧ q ≠ g3)) (by (with_reducible repeat (first | apply Kd.V_alloc | apply Kd.V_drewN | apply Kd.V_drew)); exact Kd.V_mono HO148.out (fun _ hk => ⟨⟨hk.1.1.1.1, ⟨hk.1.1.1.2.1, ⟨hk.1.1.2, ⟨hk.2, ⟨hk.1.1.1.2.2.1, ⟨hk.1.1.1.2.2.2.1, hk.1.1.1.2.2.2.2⟩⟩⟩⟩⟩⟩, hk.1.2⟩)) hg hat)
              have n12_ := Aside0.mk (Kd.V_afterv (ok := (fun q => ((P4 q ∨ P5 q ∨ Q4 q ∨ Q5 q) ∨ w.heap.size ≤ q) ∧ some q ≠ (.slice Ao51 y127.length co51 : Value).ownBlock ∧ some q ≠ (v139 : Value).ownBlock ∧ some q ≠ (v153 : Value).ownBlock ∧ q ≠ g1 ∧ q ≠ g2 ∧ q ≠ g3)) (by (with_reducible repeat (first | apply Kd.V_alloc | apply Kd.V_drewN | apply Kd.V_drew)); exact Kd.V_mono HO162.out (fun _ hk => ⟨⟨hk.1.1.1.1, ⟨hk.1.1.1.2.1, ⟨hk.1.1.2, ⟨hk.2, ⟨hk.1.1.1.2.2.1, ⟨hk.1.1.1.2.2.2.1, hk.1.1.1.2.2.2.2⟩⟩⟩⟩⟩⟩, hk.1.2⟩)) hg hat)
              have n13_ := Aside0.mk (Kd.N_afterv (ok := (fun q => ((P4 q ∨ P5 q ∨ Q4 q ∨ Q5 q) ∨ w.heap.size ≤ q) ∧ some q ≠ (.slice Ao51 y127.length co51 : Value).ownBlock ∧ some q ≠ (v139 : Value).ownBlock ∧ q ≠ g1 ∧ q ≠ g2 ∧ q ≠ g3)) (by (with_reducible repeat (first | apply Kd.N_alloc | apply Kd.N_drewN | apply Kd.N_drew)); exact Kd.N_mono HO154.out (fun _ hk => ⟨⟨hk.1, ⟨hk.2.1, ⟨hk.2.2.1, ⟨hk.2.2.2.2.1, ⟨hk.2.2.2.2.2.1, hk.2.2.2.2.2.2⟩⟩⟩⟩⟩, hk.2.2.2.1⟩)) hg hat)
              have n14_ := Aside0.mk (hb)
              have n15_ := Aside0.mk (ho)
              clear U4
              clear U5
              clear U6
              clear U7
              clear BK111
              clear BK112
              clear BK113
              clear HO123
              clear HO137
              clear HO129
              clear HO140
              clear HO148
              clear HO162
              clear HO154
              clear HB
              clear HO143
              have U4 := n0_
              have U5 := n1_
              have U6 := n2_
              have U7 := n3_
              have BK111 := n4_
              have BK112 := n5_
              have BK113 := n6_
              have HO123 := n7_
              have HO137 := n8_
              have HO129 := n9_
              have HO140 := n10_
              have HO148 := n11_
              have HO162 := n12_
              have HO154 := n13_
              have HB := n14_
              have HO151 := n15_
              clear n0_ n1_ n2_ n3_ n4_ n5_ n6_ n7_ n8_ n9_ n10_ n11_ n12_ n13_ n14_ n15_
              clear ho hb hg hat
              refine hK.out _ _ ⟨(blk_cell BK111.out 0).trans rfl, (blk_cell BK111.out 1).trans rfl, (blk_cell BK111.out 2).trans rfl, (blk_cell BK111.out 3).trans rfl, (blk_cell BK111.out 4).trans rfl, (blk_cell BK111.out 5).trans rfl, (blk_cell BK112.out 0).trans rfl, (blk_cell BK112.out 1).trans rfl, (blk_cell BK112.out 2).trans rfl, (blk_cell BK112.out 3).trans rfl, (blk_cell BK112.out 4).trans rfl, (blk_cell BK112.out 5).trans rfl⟩ (fun hHeld => ?_)
              clear hK K
              refine norm_ (a' := ?_) ?_ ?_
              rotate_left
              · show Act.put _ (some 55) _ = _
                simp only [Act.put, List.setIfInBounds_toArray, List.set_cons_zero, List.set_cons_succ, i64_w, i32_w]
                rfl
              exact norm_ (by simp only [putAll, Act.put, List.setIfInBounds_toArray, List.set_cons_zero, List.set_cons_succ]) (hCont (v142, v150, v153) _ ⟨hHeld, (by (with_reducible repeat (first | apply Kd.V_alloc | apply Kd.V_drewN | apply Kd.V_drew)); exact Kd.V_mono HO123.out (fun _ hk => ⟨hk.1.1, ⟨hk.1.2.1, ⟨hk.1.2.2.1, ⟨hk.2, ⟨hk.1.2.2.2.1, ⟨hk.1.2.2.2.2.1, ⟨hk.1.2.2.2.2.2.1, hk.1.2.2.2.2.2.2⟩⟩⟩⟩⟩⟩⟩)), (by (with_reducible repeat (first | apply Kd.R_alloc | apply Kd.R_drewN | apply Kd.R_drew)); exact HO129.out), (by (with_reducible repeat (first | apply Kd.V_alloc | apply Kd.V_drewN | apply Kd.V_drew)); exact Kd.V_mono HO137.out (fun _ hk => ⟨hk.1.1, ⟨hk.1.2.1, ⟨hk.1.2.2.1, ⟨hk.2, ⟨hk.1.2.2.2.1, ⟨hk.1.2.2.2.2.1, ⟨hk.1.2.2.2.2.2.1, hk.1.2.2.2.2.2.2⟩⟩⟩⟩⟩⟩⟩)), (by (with_reducible repeat (first | apply Kd.R_alloc | apply Kd.R_drewN | apply Kd.R_drew)); exact HO140.out), (by (with_reducible repeat (first | apply Kd.V_alloc | apply Kd.V_drewN | apply Kd.V_drew)); exact Kd.V_mono HO148.out (fun _ hk => ⟨hk.1.1, ⟨hk.1.2.1, ⟨hk.1.2.2.1, ⟨hk.2, ⟨hk.1.2.2.2.1, ⟨hk.1.2.2.2.2.1, ⟨hk.1.2.2.2.2.2.1, hk.1.2.2.2.2.2.2⟩⟩⟩⟩⟩⟩⟩)), (by (with_reducible repeat (first | apply Kd.N_alloc | apply Kd.N_drewN | apply Kd.N_drew)); exact HO151.out), (by (with_reducible repeat (first | apply Kd.N_alloc | apply Kd.N_drewN | apply Kd.N_drew)); exact Kd.N_mono HO154.out (fun _ hk => ⟨hk.1.1, ⟨hk.1.2.1, ⟨hk.1.2.2.1, ⟨hk.2, ⟨hk.1.2.2.2.1, ⟨hk.1.2.2.2.2.1, hk.1.2.2.2.2.2⟩⟩⟩⟩⟩⟩)), (by (with_reducible repeat (first | apply Kd.V_alloc | apply Kd.V_drewN | apply Kd.V_drew)); exact Kd.V_mono HO162.out (fun _ hk => ⟨hk.1.1, ⟨hk.1.2.1, ⟨hk.1.2.2.1, ⟨hk.2, ⟨hk.1.2.2.2.1, ⟨hk.1.2.2.2.2.1, ⟨hk.1.2.2.2.2.2.1, hk.1.2.2.2.2.2.2⟩⟩⟩⟩⟩⟩⟩)), (by (with_reducible repeat (first | apply Kd.V_alloc | apply Kd.V_drewN | apply Kd.V_drew)); exact Kd.V_mono U4.out (fun _ hk => ⟨hk.1.1, ⟨hk.1.2.1, ⟨hk.1.2.2.1, ⟨hk.2, ⟨hk.1.2.2.2.1, ⟨hk.1.2.2.2.2.1, ⟨hk.1.2.2.2.2.2.1, hk.1.2.2.2.2.2.2⟩⟩⟩⟩⟩⟩⟩)), (by (with_reducible repeat (first | apply Kd.V_alloc | apply Kd.V_drewN | apply Kd.V_drew)); exact Kd.V_mono U5.out (fun _ hk => ⟨hk.1.1, ⟨hk.1.2.1, ⟨hk.1.2.2.1, ⟨hk.2, ⟨hk.1.2.2.2.1, ⟨hk.1.2.2.2.2.1, ⟨hk.1.2.2.2.2.2.1, hk.1.2.2.2.2.2.2⟩⟩⟩⟩⟩⟩⟩)), (by (with_reducible repeat (first | apply Kd.V_alloc | apply Kd.V_drewN | apply Kd.V_drew)); exact Kd.V_mono U6.out (fun _ hk => ⟨hk.1.1, ⟨hk.1.2.1, ⟨hk.1.2.2.1, ⟨hk.2, ⟨hk.1.2.2.2.1, ⟨hk.1.2.2.2.2.1, ⟨hk.1.2.2.2.2.2.1, hk.1.2.2.2.2.2.2⟩⟩⟩⟩⟩⟩⟩)), (by (with_reducible repeat (first | apply Kd.V_alloc | apply Kd.V_drewN | apply Kd.V_drew)); exact Kd.V_mono U7.out (fun _ hk => ⟨hk.1.1, ⟨hk.1.2.1, ⟨hk.1.2.2.1, ⟨hk.2, ⟨hk.1.2.2.2.1, ⟨hk.1.2.2.2.2.1, ⟨hk.1.2.2.2.2.2.1, hk.1.2.2.2.2.2.2⟩⟩⟩⟩⟩⟩⟩)), (by (with_reducible repeat (first | refine blk_drewN ?_ _ | refine blk_drew ?_ | refine blk_alloc ?_ _)); exact BK111.out), (by (with_reducible repeat (first | refine blk_drewN ?_ _ | refine blk_drew ?_ | refine blk_alloc ?_ _)); exact BK112.out), (by (with_reducible repeat (first | refine blk_drewN ?_ _ | refine blk_drew ?_ | refine blk_alloc ?_ _)); exact BK113.out), (by repeat (first | (with_reducible first | exact HB.out | apply below_alloc | apply pw_below_drewN | apply below_drew1 | refine below_set ?_ GE111.out | refine below_set ?_ GE112.out | refine below_set ?_ GE113.out) | exact HB.out))⟩)
          · skip
            refine Kd.N_lit_step k27 _ 27 ?hg (N' := 57) ?hd (xs := ([(⟨a2_0, (⟨a2_1, a2_2⟩ : S23), a2_3, l2_4, l2_5⟩ : S27)] : List (S27))) (inner := [.int .i64 a2_0, .int .i64 a2_1, .int .i64 a2_2, .string a2_3, .slice A2_4 l2_4.length c2_4, .slice A2_5 l2_5.length c2_5]) (ok := (fun q => ((P4 q ∨ P5 q ∨ Q4 q ∨ Q5 q) ∨ w.heap.size ≤ q) ∧ some q ≠ (.slice Ao51 y127.length co51 : Value).ownBlock ∧ some q ≠ (v139 : Value).ownBlock ∧ q ≠ g1 ∧ q ≠ g2 ∧ q ≠ g3)) (okp := (fun q => ((P4 q ∨ P5 q ∨ Q4 q ∨ Q5 q) ∨ w.heap.size ≤ q) ∧ some q ≠ (.slice Ao51 y127.length co51 : Value).ownBlock ∧ some q ≠ (v139 : Value).ownBlock ∧ q ≠ g1 ∧ q ≠ g2 ∧ q ≠ g3)) ?hr ?hp (fun _ hk => hk) ((show ∀ q, w53.heap.size ≤ q → (fun q => ((P4 q ∨ P5 q ∨ Q4 q ∨ Q5 q) ∨ w.heap.size ≤ q) ∧ some q ≠ (.slice Ao51 y127.length co51 : Value).ownBlock ∧ some q ≠ (v139 : Value).ownBlock ∧ q ≠ g1 ∧ q ≠ g2 ∧ q ≠ g3) q from fun q hk => ⟨(.inr (Nat.le_trans (below_size (by repeat (first | (with_reducible first | exact HB.out | apply below_alloc | apply pw_below_drewN | apply below_drew1 | refine below_set ?_ GE111.out | refine below_set ?_ GE112.out | refine below_set ?_ GE113.out) | exact HB.out))) hk)), Kd.fresh' (Kd.R_lt (by (with_reducible repeat (first | apply Kd.R_alloc | apply Kd.R_drewN | apply Kd.R_drew)); exact HO129.out)) q hk, Kd.fresh' (Kd.R_lt (by (with_reducible repeat (first | apply Kd.R_alloc | apply Kd.R_drewN | apply Kd.R_drew)); exact HO140.out)) q hk, Kd.freshB (g := g1) (o := .cells #[.int .i64 a0_0, .int .i64 a0_1, .int .i64 a0_2, .string a0_3, .slice A0_4 l0_4.length c0_4, .slice A0_5 l0_5.length c0_5] 27 (0, 0)) (by (with_reducible repeat (first | refine blk_drewN ?_ _ | refine blk_drew ?_ | refine blk_alloc ?_ _)); exact BK111.out) q hk, Kd.freshB (g := g2) (o := .cells #[.int .i64 a2_0, .int .i64 a2_1, .int .i64 a2_2, .string a2_3, .slice A2_4 l2_4.length c2_4, .slice A2_5 l2_5.length c2_5] 27 (0, 0)) (by (with_reducible repeat (first | refine blk_drewN ?_ _ | refine blk_drew ?_ | refine blk_alloc ?_ _)); exact BK112.out) q hk, Kd.freshB (g := g3) (o := .cells #[.int .i64 0, .int .i64 0, .int .i64 0, .string (⟨#[]⟩ : ByteArray), .slice none 0 0, .slice none 0 0] 27 (0, 0)) (by (with_reducible repeat (first | refine blk_drewN ?_ _ | refine blk_drew ?_ | refine blk_alloc ?_ _)); exact BK113.out) q hk⟩) _ (Nat.le_refl _)) (Below.refl _ _) (Nat.le_refl _) (by simp) ?_; (case hd => rfl); (case hg => rfl); (case hr => first | (go_simp; done) | (go_simp; rfl)); (case hp => exact (Reps.c6 (show Kd.FK k27 _ _ (⟨a2_0, (⟨a2_1, a2_2⟩ : S23), a2_3, l2_4, l2_5⟩ : S27) [.int .i64 a2_0, .int .i64 a2_1, .int .i64 a2_2, .string a2_3, .slice A2_4 l2_4.length c2_4, .slice A2_5 l2_5.length c2_5] from (k27_mkF _ _ (⟨a2_0, (⟨a2_1, a2_2⟩ : S23), a2_3, l2_4, l2_5⟩ : S27) (Kd.V_reads' (Kd.V_mono (ok' := (fun q => ((P4 q ∨ P5 q ∨ Q4 q ∨ Q5 q) ∨ w.heap.size ≤ q) ∧ some q ≠ (.slice Ao51 y127.length co51 : Value).ownBlock ∧ some q ≠ (v139 : Value).ownBlock ∧ q ≠ g1 ∧ q ≠ g2 ∧ q ≠ g3)) (U6.out) (fun q hk => ⟨hk.1.1, ⟨hk.1.2.1, ⟨hk.2, ⟨hk.1.2.2.1, ⟨hk.1.2.2.2.1, hk.1.2.2.2.2⟩⟩⟩⟩⟩))).2.1 (Kd.V_F (Kd.V_mono (ok' := (fun q => ((P4 q ∨ P5 q ∨ Q4 q ∨ Q5 q) ∨ w.heap.size ≤ q) ∧ some q ≠ (.slice Ao51 y127.length co51 : Value).ownBlock ∧ some q ≠ (v139 : Value).ownBlock ∧ q ≠ g1 ∧ q ≠ g2 ∧ q ≠ g3)) (U6.out) (fun q hk => ⟨hk.1.1, ⟨hk.1.2.1, ⟨hk.2, ⟨hk.1.2.2.1, ⟨hk.1.2.2.2.1, hk.1.2.2.2.2⟩⟩⟩⟩⟩))) (Kd.V_reads' (Kd.V_mono (ok' := (fun q => ((P4 q ∨ P5 q ∨ Q4 q ∨ Q5 q) ∨ w.heap.size ≤ q) ∧ some q ≠ (.slice Ao51 y127.length co51 : Value).ownBlock ∧ some q ≠ (v139 : Value).ownBlock ∧ q ≠ g1 ∧ q ≠ g2 ∧ q ≠ g3)) (U7.out) (fun q hk => ⟨hk.1.1, ⟨hk.1.2.1, ⟨hk.2, ⟨hk.1.2.2.1, ⟨hk.1.2.2.2.1, hk.1.2.2.2.2⟩⟩⟩⟩⟩))).2.1 (Kd.V_F (Kd.V_mono (ok' := (fun q => ((P4 q ∨ P5 q ∨ Q4 q ∨ Q5 q) ∨ w.heap.size ≤ q) ∧ some q ≠ (.slice Ao51 y127.length co51 : Value).ownBlock ∧ some q ≠ (v139 : Value).ownBlock ∧ q ≠ g1 ∧ q ≠ g2 ∧ q ≠ g3)) (U7.out) (fun q hk => ⟨hk.1.1, ⟨hk.1.2.1, ⟨hk.2, ⟨hk.1.2.2.1, ⟨hk.1.2.2.2.1, hk.1.2.2.2.2⟩⟩⟩⟩⟩))))) (Reps.none _ _)))
            intro v153 w56 ho57 hb hg_ hnew_
            clear hg_ hnew_
            (first | rw [← Ny152.out] at ho57 | (simp only [Int.reduceToNat] at ho57; rw [← Ny152.out] at ho57))
            have n0_ := Aside0.mk (Kd.V_elder' (by (with_reducible repeat (first | apply Kd.V_alloc | apply Kd.V_drewN | apply Kd.V_drew)); exact U4.out) (Kd.N_base ho57) hb)
            have n1_ := Aside0.mk (Kd.V_elder' (by (with_reducible repeat (first | apply Kd.V_alloc | apply Kd.V_drewN | apply Kd.V_drew)); exact U5.out) (Kd.N_base ho57) hb)
            have n2_ := Aside0.mk (Kd.V_elder' (by (with_reducible repeat (first | apply Kd.V_alloc | apply Kd.V_drewN | apply Kd.V_drew)); exact U6.out) (Kd.N_base ho57) hb)
            have n3_ := Aside0.mk (Kd.V_elder' (by (with_reducible repeat (first | apply Kd.V_alloc | apply Kd.V_drewN | apply Kd.V_drew)); exact U7.out) (Kd.N_base ho57) hb)
            have n4_ := Aside0.mk (Kd.V_elder' (by (with_reducible repeat (first | apply Kd.V_alloc | apply Kd.V_drewN | apply Kd.V_drew)); exact HO123.out) (Kd.N_base ho57) hb)
            have n5_ := Aside0.mk (Kd.V_elder' (by (with_reducible repeat (first | apply Kd.V_alloc | apply Kd.V_drewN | apply Kd.V_drew)); exact HO137.out) (Kd.N_base ho57) hb)
            have n6_ := Aside0.mk (Kd.R_below (by (with_reducible repeat (first | apply Kd.R_alloc | apply Kd.R_drewN | apply Kd.R_drew)); exact HO129.out) hb)
            have n7_ := Aside0.mk (Kd.R_below (by (with_reducible repeat (first | apply Kd.R_alloc | apply Kd.R_drewN | apply Kd.R_drew)); exact HO140.out) hb)
            have n8_ := Aside0.mk (Kd.V_elder' (by (with_reducible repeat (first | apply Kd.V_alloc | apply Kd.V_drewN | apply Kd.V_drew)); exact HO148.out) (Kd.N_base ho57) hb)
            have n9_ := Aside0.mk (Kd.V_elder' (by (with_reducible repeat (first | apply Kd.V_alloc | apply Kd.V_drewN | apply Kd.V_drew)); exact HO162.out) (Kd.N_base ho57) hb)
            have n10_ := Aside0.mk (Kd.N_lower ho57 (below_size (by repeat (first | (with_reducible first | exact HB.out | apply below_alloc | apply pw_below_drewN | apply below_drew1 | refine below_set ?_ GE111.out | refine below_set ?_ GE112.out | refine below_set ?_ GE113.out) | exact HB.out))))
            have n11_ := Aside0.mk (blk_below (g := g1) (o := .cells #[.int .i64 a0_0, .int .i64 a0_1, .int .i64 a0_2, .string a0_3, .slice A0_4 l0_4.length c0_4, .slice A0_5 l0_5.length c0_5] 27 (0, 0)) (by (with_reducible repeat (first | refine blk_drewN ?_ _ | refine blk_drew ?_ | refine blk_alloc ?_ _)); exact BK111.out) hb)
            have n12_ := Aside0.mk (blk_below (g := g2) (o := .cells #[.int .i64 a2_0, .int .i64 a2_1, .int .i64 a2_2, .string a2_3, .slice A2_4 l2_4.length c2_4, .slice A2_5 l2_5.length c2_5] 27 (0, 0)) (by (with_reducible repeat (first | refine blk_drewN ?_ _ | refine blk_drew ?_ | refine blk_alloc ?_ _)); exact BK112.out) hb)
            have n13_ := Aside0.mk (blk_below (g := g3) (o := .cells #[.int .i64 0, .int .i64 0, .int .i64 0, .string (⟨#[]⟩ : ByteArray), .slice none 0 0, .slice none 0 0] 27 (0, 0)) (by (with_reducible repeat (first | refine blk_drewN ?_ _ | refine blk_drew ?_ | refine blk_alloc ?_ _)); exact BK113.out) hb)
            have n14_ := Aside0.mk (below_step (by repeat (first | (with_reducible first | exact HB.out | apply below_alloc | apply pw_below_drewN | apply below_drew1 | refine below_set ?_ GE111.out | refine below_set ?_ GE112.out | refine below_set ?_ GE113.out) | exact HB.out)) hb)
            clear U4
            clear U5
            clear U6
            clear U7
            clear HO123
            clear HO137
            clear HO129
            clear HO140
            clear HO148
            clear HO162
            clear BK111
            clear BK112
            clear BK113
            clear HB
            have U4 := n0_
            have U5 := n1_
            have U6 := n2_
            have U7 := n3_
            have HO123 := n4_
            have HO137 := n5_
            have HO129 := n6_
            have HO140 := n7_
            have HO148 := n8_
            have HO162 := n9_
            have HO154 := n10_
            have BK111 := n11_
            have BK112 := n12_
            have BK113 := n13_
            have HB := n14_
            clear n0_ n1_ n2_ n3_ n4_ n5_ n6_ n7_ n8_ n9_ n10_ n11_ n12_ n13_ n14_
            clear hb ho57
            refine hK.out _ _ ⟨(blk_cell BK111.out 0).trans rfl, (blk_cell BK111.out 1).trans rfl, (blk_cell BK111.out 2).trans rfl, (blk_cell BK111.out 3).trans rfl, (blk_cell BK111.out 4).trans rfl, (blk_cell BK111.out 5).trans rfl, (blk_cell BK112.out 0).trans rfl, (blk_cell BK112.out 1).trans rfl, (blk_cell BK112.out 2).trans rfl, (blk_cell BK112.out 3).trans rfl, (blk_cell BK112.out 4).trans rfl, (blk_cell BK112.out 5).trans rfl⟩ (fun hHeld => ?_)
            clear hK K
            refine norm_ (a' := ?_) ?_ ?_
            rotate_left
            · show Act.put _ (some 57) _ = _
              simp only [Act.put, List.setIfInBounds_toArray, List.set_cons_zero, List.set_cons_succ, i64_w, i32_w]
              rfl
            refine one_ (i := 0) (N := some 50) #[true, true, true, true, true, false, true, true, false, true, true, true, true, false, false] rfl rfl (one_of HT_.out (by kernel_rfl)) (by decide) (fun K hK => ?_)
            refine Kd.N_lit_step k27 _ 27 ?hg (N' := 50) ?hd (xs := ([] : List (S27))) (inner := []) (ok := (fun q => ((P4 q ∨ P5 q ∨ Q4 q ∨ Q5 q) ∨ w.heap.size ≤ q) ∧ some q ≠ (.slice Ao51 y127.length co51 : Value).ownBlock ∧ some q ≠ (v139 : Value).ownBlock ∧ some q ≠ (v153 : Value).ownBlock ∧ q ≠ g1 ∧ q ≠ g2 ∧ q ≠ g3)) (okp := (fun q => ((P4 q ∨ P5 q ∨ Q4 q ∨ Q5 q) ∨ w.heap.size ≤ q) ∧ some q ≠ (.slice Ao51 y127.length co51 : Value).ownBlock ∧ some q ≠ (v139 : Value).ownBlock ∧ some q ≠ (v153 : Value).ownBlock ∧ q ≠ g1 ∧ q ≠ g2 ∧ q ≠ g3)) ?hr ?hp (fun _ hk => hk) ((show ∀ q, w56.heap.size ≤ q → (fun q => ((P4 q ∨ P5 q ∨ Q4 q ∨ Q5 q) ∨ w.heap.size ≤ q) ∧ some q ≠ (.slice Ao51 y127.length co51 : Value).ownBlock ∧ some q ≠ (v139 : Value).ownBlock ∧ some q ≠ (v153 : Value).ownBlock ∧ q ≠ g1 ∧ q ≠ g2 ∧ q ≠ g3) q from fun q hk => ⟨(.inr (Nat.le_trans (below_size (by repeat (first | (with_reducible first | exact HB.out | apply below_alloc | apply pw_below_drewN | apply below_drew1 | refine below_set ?_ GE111.out | refine below_set ?_ GE112.out | refine below_set ?_ GE113.out) | exact HB.out))) hk)), Kd.fresh' (Kd.R_lt (by (with_reducible repeat (first | apply Kd.R_alloc | apply Kd.R_drewN | apply Kd.R_drew)); exact HO129.out)) q hk, Kd.fresh' (Kd.R_lt (by (with_reducible repeat (first | apply Kd.R_alloc | apply Kd.R_drewN | apply Kd.R_drew)); exact HO140.out)) q hk, Kd.fresh' (Kd.N_lt (by (with_reducible repeat (first | apply Kd.N_alloc | apply Kd.N_drewN | apply Kd.N_drew)); exact HO154.out)) q hk, Kd.freshB (g := g1) (o := .cells #[.int .i64 a0_0, .int .i64 a0_1, .int .i64 a0_2, .string a0_3, .slice A0_4 l0_4.length c0_4, .slice A0_5 l0_5.length c0_5] 27 (0, 0)) (by (with_reducible repeat (first | refine blk_drewN ?_ _ | refine blk_drew ?_ | refine blk_alloc ?_ _)); exact BK111.out) q hk, Kd.freshB (g := g2) (o := .cells #[.int .i64 a2_0, .int .i64 a2_1, .int .i64 a2_2, .string a2_3, .slice A2_4 l2_4.length c2_4, .slice A2_5 l2_5.length c2_5] 27 (0, 0)) (by (with_reducible repeat (first | refine blk_drewN ?_ _ | refine blk_drew ?_ | refine blk_alloc ?_ _)); exact BK112.out) q hk, Kd.freshB (g := g3) (o := .cells #[.int .i64 0, .int .i64 0, .int .i64 0, .string (⟨#[]⟩ : ByteArray), .slice none 0 0, .slice none 0 0] 27 (0, 0)) (by (with_reducible repeat (first | refine blk_drewN ?_ _ | refine blk_drew ?_ | refine blk_alloc ?_ _)); exact BK113.out) q hk⟩) _ (Nat.le_refl _)) (Below.refl _ _) (Nat.le_refl _) (by simp) ?_; (case hd => rfl); (case hg => rfl); (case hr => first | (go_simp; done) | (go_simp; rfl)); (case hp => exact (Reps.none _ _))
            intro v142 w58 ho59 hb hg_ hnew_
            clear hg_ hnew_
            (first | rw [← Ny141.out] at ho59 | (simp only [Int.reduceToNat] at ho59; rw [← Ny141.out] at ho59))
            have n0_ := Aside0.mk (Kd.V_elder' (by (with_reducible repeat (first | apply Kd.V_alloc | apply Kd.V_drewN | apply Kd.V_drew)); exact U4.out) (Kd.N_base ho59) hb)
            have n1_ := Aside0.mk (Kd.V_elder' (by (with_reducible repeat (first | apply Kd.V_alloc | apply Kd.V_drewN | apply Kd.V_drew)); exact U5.out) (Kd.N_base ho59) hb)
            have n2_ := Aside0.mk (Kd.V_elder' (by (with_reducible repeat (first | apply Kd.V_alloc | apply Kd.V_drewN | apply Kd.V_drew)); exact U6.out) (Kd.N_base ho59) hb)
            have n3_ := Aside0.mk (Kd.V_elder' (by (with_reducible repeat (first | apply Kd.V_alloc | apply Kd.V_drewN | apply Kd.V_drew)); exact U7.out) (Kd.N_base ho59) hb)
            have n4_ := Aside0.mk (Kd.V_elder' (by (with_reducible repeat (first | apply Kd.V_alloc | apply Kd.V_drewN | apply Kd.V_drew)); exact HO123.out) (Kd.N_base ho59) hb)
            have n5_ := Aside0.mk (Kd.V_elder' (by (with_reducible repeat (first | apply Kd.V_alloc | apply Kd.V_drewN | apply Kd.V_drew)); exact HO137.out) (Kd.N_base ho59) hb)
            have n6_ := Aside0.mk (Kd.R_below (by (with_reducible repeat (first | apply Kd.R_alloc | apply Kd.R_drewN | apply Kd.R_drew)); exact HO129.out) hb)
            have n7_ := Aside0.mk (Kd.R_below (by (with_reducible repeat (first | apply Kd.R_alloc | apply Kd.R_drewN | apply Kd.R_drew)); exact HO140.out) hb)
            have n8_ := Aside0.mk (Kd.V_elder' (by (with_reducible repeat (first | apply Kd.V_alloc | apply Kd.V_drewN | apply Kd.V_drew)); exact HO148.out) (Kd.N_base ho59) hb)
            have n9_ := Aside0.mk (Kd.V_elder' (by (with_reducible repeat (first | apply Kd.V_alloc | apply Kd.V_drewN | apply Kd.V_drew)); exact HO162.out) (Kd.N_base ho59) hb)
            have n10_ := Aside0.mk (Kd.N_elder' (by (with_reducible repeat (first | apply Kd.N_alloc | apply Kd.N_drewN | apply Kd.N_drew)); exact HO154.out) (Kd.N_base ho59) hb)
            have n11_ := Aside0.mk (Kd.N_lower ho59 (below_size (by repeat (first | (with_reducible first | exact HB.out | apply below_alloc | apply pw_below_drewN | apply below_drew1 | refine below_set ?_ GE111.out | refine below_set ?_ GE112.out | refine below_set ?_ GE113.out) | exact HB.out))))
            have n12_ := Aside0.mk (blk_below (g := g1) (o := .cells #[.int .i64 a0_0, .int .i64 a0_1, .int .i64 a0_2, .string a0_3, .slice A0_4 l0_4.length c0_4, .slice A0_5 l0_5.length c0_5] 27 (0, 0)) (by (with_reducible repeat (first | refine blk_drewN ?_ _ | refine blk_drew ?_ | refine blk_alloc ?_ _)); exact BK111.out) hb)
            have n13_ := Aside0.mk (blk_below (g := g2) (o := .cells #[.int .i64 a2_0, .int .i64 a2_1, .int .i64 a2_2, .string a2_3, .slice A2_4 l2_4.length c2_4, .slice A2_5 l2_5.length c2_5] 27 (0, 0)) (by (with_reducible repeat (first | refine blk_drewN ?_ _ | refine blk_drew ?_ | refine blk_alloc ?_ _)); exact BK112.out) hb)
            have n14_ := Aside0.mk (blk_below (g := g3) (o := .cells #[.int .i64 0, .int .i64 0, .int .i64 0, .string (⟨#[]⟩ : ByteArray), .slice none 0 0, .slice none 0 0] 27 (0, 0)) (by (with_reducible repeat (first | refine blk_drewN ?_ _ | refine blk_drew ?_ | refine blk_alloc ?_ _)); exact BK113.out) hb)
            have n15_ := Aside0.mk (below_step (by repeat (first | (with_reducible first | exact HB.out | apply below_alloc | apply pw_below_drewN | apply below_drew1 | refine below_set ?_ GE111.out | refine below_set ?_ GE112.out | refine below_set ?_ GE113.out) | exact HB.out)) hb)
            clear U4
            clear U5
            clear U6
            clear U7
            clear HO123
            clear HO137
            clear HO129
            clear HO140
            clear HO148
            clear HO162
            clear HO154
            clear BK111
            clear BK112
            clear BK113
            clear HB
            have U4 := n0_
            have U5 := n1_
            have U6 := n2_
            have U7 := n3_
            have HO123 := n4_
            have HO137 := n5_
            have HO129 := n6_
            have HO140 := n7_
            have HO148 := n8_
            have HO162 := n9_
            have HO154 := n10_
            have HO143 := n11_
            have BK111 := n12_
            have BK112 := n13_
            have BK113 := n14_
            have HB := n15_
            clear n0_ n1_ n2_ n3_ n4_ n5_ n6_ n7_ n8_ n9_ n10_ n11_ n12_ n13_ n14_ n15_
            clear hb ho59
            refine hK.out _ _ ⟨(blk_cell BK111.out 0).trans rfl, (blk_cell BK111.out 1).trans rfl, (blk_cell BK111.out 2).trans rfl, (blk_cell BK111.out 3).trans rfl, (blk_cell BK111.out 4).trans rfl, (blk_cell BK111.out 5).trans rfl, (blk_cell BK112.out 0).trans rfl, (blk_cell BK112.out 1).trans rfl, (blk_cell BK112.out 2).trans rfl, (blk_cell BK112.out 3).trans rfl, (blk_cell BK112.out 4).trans rfl, (blk_cell BK112.out 5).trans rfl⟩ (fun hHeld => ?_)
            clear hK K
            refine norm_ (a' := ?_) ?_ ?_
            rotate_left
            · show Act.put _ (some 50) _ = _
              simp only [Act.put, List.setIfInBounds_toArray, List.set_cons_zero, List.set_cons_succ, i64_w, i32_w]
              rfl
            refine one_ (i := 5) (N := some 55) #[true, true, true, true, true, true, true, true, false, true, true, true, true, false, false] rfl rfl (one_of HT_.out (by kernel_rfl)) (by decide) (fun K hK => ?_)
            refine Kd.N_append_rows_step k27 (w0 := w) w.heap.size (by rfl) (.tmp 50) (.tmp 54) 24 27 (.agg #[(.int .i64 0), (.int .i64 0), (.int .i64 0), (.string ⟨#[]⟩), (.slice none 0 0), (.slice none 0 0)]) 88 rfl Try.underlying24 info27 rfl (by decide) (by omega) v142 y141 y144 _ _ _ (fun q => ((P4 q ∨ P5 q ∨ Q4 q ∨ Q5 q) ∨ w.heap.size ≤ q) ∧ some q ≠ (.slice Ao51 y127.length co51 : Value).ownBlock ∧ some q ≠ (v139 : Value).ownBlock ∧ some q ≠ (v153 : Value).ownBlock ∧ q ≠ g1 ∧ q ≠ g2 ∧ q ≠ g3) (fun q => ((fun q => ((P4 q ∨ P5 q ∨ Q4 q ∨ Q5 q) ∨ w.heap.size ≤ q) ∧ some q ≠ (.slice Ao51 y127.length co51 : Value).ownBlock ∧ some q ≠ (v139 : Value).ownBlock ∧ some q ≠ (v153 : Value).ownBlock ∧ q ≠ g1 ∧ q ≠ g2 ∧ q ≠ g3)) q ∧ some q ≠ (v142 : Value).ownBlock) rfl rfl ?aO ?aR (fun _ hk => hk) ?aF ?aB ?aS ?aL ?_
            (case aR => exact (by skip; exact Kd.V_F (Kd.V_mono (ok' := (fun q => ((fun q => ((P4 q ∨ P5 q ∨ Q4 q ∨ Q5 q) ∨ w.heap.size ≤ q) ∧ some q ≠ (.slice Ao51 y127.length co51 : Value).ownBlock ∧ some q ≠ (v139 : Value).ownBlock ∧ some q ≠ (v153 : Value).ownBlock ∧ q ≠ g1 ∧ q ≠ g2 ∧ q ≠ g3)) q ∧ some q ≠ (v142 : Value).ownBlock)) (HO148.out) (fun q hk => ⟨⟨hk.1.1.1.1, ⟨hk.1.1.1.2.1, ⟨hk.1.1.2, ⟨hk.1.2, ⟨hk.1.1.1.2.2.1, ⟨hk.1.1.1.2.2.2.1, hk.1.1.1.2.2.2.2⟩⟩⟩⟩⟩⟩, hk.2⟩))))
            (case aB => exact (by repeat (first | (with_reducible first | exact HB.out | apply below_alloc | apply pw_below_drewN | apply below_drew1 | refine below_set ?_ GE111.out | refine below_set ?_ GE112.out | refine below_set ?_ GE113.out) | exact HB.out)))
            (case aF => exact (fun q hk => ⟨(.inr (Nat.le_trans (below_size (by repeat (first | (with_reducible first | exact HB.out | apply below_alloc | apply pw_below_drewN | apply below_drew1 | refine below_set ?_ GE111.out | refine below_set ?_ GE112.out | refine below_set ?_ GE113.out) | exact HB.out))) hk)), Kd.fresh' (Kd.R_lt (by (with_reducible repeat (first | apply Kd.R_alloc | apply Kd.R_drewN | apply Kd.R_drew)); exact HO129.out)) q hk, Kd.fresh' (Kd.R_lt (by (with_reducible repeat (first | apply Kd.R_alloc | apply Kd.R_drewN | apply Kd.R_drew)); exact HO140.out)) q hk, Kd.fresh' (Kd.N_lt (by (with_reducible repeat (first | apply Kd.N_alloc | apply Kd.N_drewN | apply Kd.N_drew)); exact HO154.out)) q hk, Kd.freshB (g := g1) (o := .cells #[.int .i64 a0_0, .int .i64 a0_1, .int .i64 a0_2, .string a0_3, .slice A0_4 l0_4.length c0_4, .slice A0_5 l0_5.length c0_5] 27 (0, 0)) (by (with_reducible repeat (first | refine blk_drewN ?_ _ | refine blk_drew ?_ | refine blk_alloc ?_ _)); exact BK111.out) q hk, Kd.freshB (g := g2) (o := .cells #[.int .i64 a2_0, .int .i64 a2_1, .int .i64 a2_2, .string a2_3, .slice A2_4 l2_4.length c2_4, .slice A2_5 l2_5.length c2_5] 27 (0, 0)) (by (with_reducible repeat (first | refine blk_drewN ?_ _ | refine blk_drew ?_ | refine blk_alloc ?_ _)); exact BK112.out) q hk, Kd.freshB (g := g3) (o := .cells #[.int .i64 0, .int .i64 0, .int .i64 0, .string (⟨#[]⟩ : ByteArray), .slice none 0 0, .slice none 0 0] 27 (0, 0)) (by (with_reducible repeat (first | refine blk_drewN ?_ _ | refine blk_drew ?_ | refine blk_alloc ?_ _)); exact BK113.out) q hk⟩))
            (case aO => exact (by (with_reducible repeat (first | apply Kd.N_alloc | apply Kd.N_drewN | apply Kd.N_drew)); exact HO143.out))
            (case aS => exact (below_size (by repeat (first | (with_reducible first | exact HB.out | apply below_alloc | apply pw_below_drewN | apply below_drew1 | refine below_set ?_ GE111.out | refine below_set ?_ GE112.out | refine below_set ?_ GE113.out) | exact HB.out))))
            (case aL => have := LMc33.out; omega)
            intro v150 w60 ho hb hg hat
            rw [← Ny149.out] at ho
            have n0_ := Aside0.mk (Kd.V_afterv (ok := (fun q => ((P4 q ∨ P5 q ∨ Q4 q ∨ Q5 q) ∨ w.heap.size ≤ q) ∧ some q ≠ (.slice Ao51 y127.length co51 : Value).ownBlock ∧ some q ≠ (v139 : Value).ownBlock ∧ some q ≠ (v153 : Value).ownBlock ∧ q ≠ g1 ∧ q ≠ g2 ∧ q ≠ g3)) (by (with_reducible repeat (first | apply Kd.V_alloc | apply Kd.V_drewN | apply Kd.V_drew)); exact Kd.V_mono U4.out (fun _ hk => ⟨⟨hk.1.1.1.1, ⟨hk.1.1.1.2.1, ⟨hk.1.1.2, ⟨hk.1.2, ⟨hk.1.1.1.2.2.1, ⟨hk.1.1.1.2.2.2.1, hk.1.1.1.2.2.2.2⟩⟩⟩⟩⟩⟩, hk.2⟩)) hg hat)
            have n1_ := Aside0.mk (Kd.V_afterv (ok := (fun q => ((P4 q ∨ P5 q ∨ Q4 q ∨ Q5 q) ∨ w.heap.size ≤ q) ∧ some q ≠ (.slice Ao51 y127.length co51 : Value).ownBlock ∧ some q ≠ (v139 : Value).ownBlock ∧ some q ≠ (v153 : Value).ownBlock ∧ q ≠ g1 ∧ q ≠ g2 ∧ q ≠ g3)) (by (with_reducible repeat (first | apply Kd.V_alloc | apply Kd.V_drewN | apply Kd.V_drew)); exact Kd.V_mono U5.out (fun _ hk => ⟨⟨hk.1.1.1.1, ⟨hk.1.1.1.2.1, ⟨hk.1.1.2, ⟨hk.1.2, ⟨hk.1.1.1.2.2.1, ⟨hk.1.1.1.2.2.2.1, hk.1.1.1.2.2.2.2⟩⟩⟩⟩⟩⟩, hk.2⟩)) hg hat)
            have n2_ := Aside0.mk (Kd.V_afterv (ok := (fun q => ((P4 q ∨ P5 q ∨ Q4 q ∨ Q5 q) ∨ w.heap.size ≤ q) ∧ some q ≠ (.slice Ao51 y127.length co51 : Value).ownBlock ∧ some q ≠ (v139 : Value).ownBlock ∧ some q ≠ (v153 : Value).ownBlock ∧ q ≠ g1 ∧ q ≠ g2 ∧ q ≠ g3)) (by (with_reducible repeat (first | apply Kd.V_alloc | apply Kd.V_drewN | apply Kd.V_drew)); exact Kd.V_mono U6.out (fun _ hk => ⟨⟨hk.1.1.1.1, ⟨hk.1.1.1.2.1, ⟨hk.1.1.2, ⟨hk.1.2, ⟨hk.1.1.1.2.2.1, ⟨hk.1.1.1.2.2.2.1, hk.1.1.1.2.2.2.2⟩⟩⟩⟩⟩⟩, hk.2⟩)) hg hat)
            have n3_ := Aside0.mk (Kd.V_afterv (ok := (fun q => ((P4 q ∨ P5 q ∨ Q4 q ∨ Q5 q) ∨ w.heap.size ≤ q) ∧ some q ≠ (.slice Ao51 y127.length co51 : Value).ownBlock ∧ some q ≠ (v139 : Value).ownBlock ∧ some q ≠ (v153 : Value).ownBlock ∧ q ≠ g1 ∧ q ≠ g2 ∧ q ≠ g3)) (by (with_reducible repeat (first | apply Kd.V_alloc | apply Kd.V_drewN | apply Kd.V_drew)); exact Kd.V_mono U7.out (fun _ hk => ⟨⟨hk.1.1.1.1, ⟨hk.1.1.1.2.1, ⟨hk.1.1.2, ⟨hk.1.2, ⟨hk.1.1.1.2.2.1, ⟨hk.1.1.1.2.2.2.1, hk.1.1.1.2.2.2.2⟩⟩⟩⟩⟩⟩, hk.2⟩)) hg hat)
            have n4_ := Aside0.mk (blk_grown (g := g1) (o := .cells #[.int .i64 a0_0, .int .i64 a0_1, .int .i64 a0_2, .string a0_3, .slice A0_4 l0_4.length c0_4, .slice A0_5 l0_5.length c0_5] 27 (0, 0)) (by (with_reducible repeat (first | refine blk_drewN ?_ _ | refine blk_drew ?_ | refine blk_alloc ?_ _)); exact BK111.out) hg (Kd.N_away HO143.out (fun _ hk => hk.2.2.2.2.1)))
            have n5_ := Aside0.mk (blk_grown (g := g2) (o := .cells #[.int .i64 a2_0, .int .i64 a2_1, .int .i64 a2_2, .string a2_3, .slice A2_4 l2_4.length c2_4, .slice A2_5 l2_5.length c2_5] 27 (0, 0)) (by (with_reducible repeat (first | refine blk_drewN ?_ _ | refine blk_drew ?_ | refine blk_alloc ?_ _)); exact BK112.out) hg (Kd.N_away HO143.out (fun _ hk => hk.2.2.2.2.2.1)))
            have n6_ := Aside0.mk (blk_grown (g := g3) (o := .cells #[.int .i64 0, .int .i64 0, .int .i64 0, .string (⟨#[]⟩ : ByteArray), .slice none 0 0, .slice none 0 0] 27 (0, 0)) (by (with_reducible repeat (first | refine blk_drewN ?_ _ | refine blk_drew ?_ | refine blk_alloc ?_ _)); exact BK113.out) hg (Kd.N_away HO143.out (fun _ hk => hk.2.2.2.2.2.2)))
            have n7_ := Aside0.mk (Kd.V_afterv (ok := (fun q => ((P4 q ∨ P5 q ∨ Q4 q ∨ Q5 q) ∨ w.heap.size ≤ q) ∧ some q ≠ (.slice Ao51 y127.length co51 : Value).ownBlock ∧ some q ≠ (v139 : Value).ownBlock ∧ some q ≠ (v153 : Value).ownBlock ∧ q ≠ g1 ∧ q ≠ g2 ∧ q ≠ g3)) (by (with_reducible repeat (first | apply Kd.V_alloc | apply Kd.V_drewN | apply Kd.V_drew)); exact Kd.V_mono HO123.out (fun _ hk => ⟨⟨hk.1.1.1.1, ⟨hk.1.1.1.2.1, ⟨hk.1.1.2, ⟨hk.1.2, ⟨hk.1.1.1.2.2.1, ⟨hk.1.1.1.2.2.2.1, hk.1.1.1.2.2.2.2⟩⟩⟩⟩⟩⟩, hk.2⟩)) hg hat)
            have n8_ := Aside0.mk (Kd.V_afterv (ok := (fun q => ((P4 q ∨ P5 q ∨ Q4 q ∨ Q5 q) ∨ w.heap.size ≤ q) ∧ some q ≠ (.slice Ao51 y127.length co51 : Value).ownBlock ∧ some q ≠ (v139 : Value).ownBlock ∧ some q ≠ (v153 : Value).ownBlock ∧ q ≠ g1 ∧ q ≠ g2 ∧ q ≠ g3)) (by (with_reducible repeat (first | apply Kd.V_alloc | apply Kd.V_drewN | apply Kd.V_drew)); exact Kd.V_mono HO137.out (fun _ hk => ⟨⟨hk.1.1.1.1, ⟨hk.1.1.1.2.1, ⟨hk.1.1.2, ⟨hk.1.2, ⟨hk.1.1.1.2.2.1, ⟨hk.1.1.1.2.2.2.1, hk.1.1.1.2.2.2.2⟩⟩⟩⟩⟩⟩, hk.2⟩)) hg hat)
            have n9_ := Aside0.mk (Kd.R_over' (by (with_reducible repeat (first | apply Kd.R_alloc | apply Kd.R_drewN | apply Kd.R_drew)); exact HO129.out) (Kd.N_typed (by (with_reducible repeat (first | apply Kd.N_alloc | apply Kd.N_drewN | apply Kd.N_drew)); exact HO143.out)) (by decide) hg)
            have n10_ := Aside0.mk (Kd.R_over' (by (with_reducible repeat (first | apply Kd.R_alloc | apply Kd.R_drewN | apply Kd.R_drew)); exact HO140.out) (Kd.N_typed (by (with_reducible repeat (first | apply Kd.N_alloc | apply Kd.N_drewN | apply Kd.N_drew)); exact HO143.out)) (by decide) hg)
            have n11_ := Aside0.mk (Kd.V_afterv (ok := (fun q => ((P4 q ∨ P5 q ∨ Q4 q ∨ Q5 q) ∨ w.heap.size ≤ q) ∧ some q ≠ (.slice Ao51 y127.length co51 : Value).ownBlock ∧ some q ≠ (v139 : Value).ownBlock ∧ some q ≠ (v153 : Value).ownBlock ∧ q ≠ g1 ∧ q ≠ g2 ∧ q ≠ g3)) (by (with_reducible repeat (first | apply Kd.V_alloc | apply Kd.V_drewN | apply Kd.V_drew)); exact Kd.V_mono HO148.out (fun _ hk => ⟨⟨hk.1.1.1.1, ⟨hk.1.1.1.2.1, ⟨hk.1.1.2, ⟨hk.1.2, ⟨hk.1.1.1.2.2.1, ⟨hk.1.1.1.2.2.2.1, hk.1.1.1.2.2.2.2⟩⟩⟩⟩⟩⟩, hk.2⟩)) hg hat)
            have n12_ := Aside0.mk (Kd.V_afterv (ok := (fun q => ((P4 q ∨ P5 q ∨ Q4 q ∨ Q5 q) ∨ w.heap.size ≤ q) ∧ some q ≠ (.slice Ao51 y127.length co51 : Value).ownBlock ∧ some q ≠ (v139 : Value).ownBlock ∧ some q ≠ (v153 : Value).ownBlock ∧ q ≠ g1 ∧ q ≠ g2 ∧ q ≠ g3)) (by (with_reducible repeat (first | apply Kd.V_alloc | apply Kd.V_drewN | apply Kd.V_drew)); exact Kd.V_mono HO162.out (fun _ hk => ⟨⟨hk.1.1.1.1, ⟨hk.1.1.1.2.1, ⟨hk.1.1.2, ⟨hk.1.2, ⟨hk.1.1.1.2.2.1, ⟨hk.1.1.1.2.2.2.1, hk.1.1.1.2.2.2.2⟩⟩⟩⟩⟩⟩, hk.2⟩)) hg hat)
            have n13_ := Aside0.mk (Kd.N_afterv (ok := (fun q => ((P4 q ∨ P5 q ∨ Q4 q ∨ Q5 q) ∨ w.heap.size ≤ q) ∧ some q ≠ (.slice Ao51 y127.length co51 : Value).ownBlock ∧ some q ≠ (v139 : Value).ownBlock ∧ q ≠ g1 ∧ q ≠ g2 ∧ q ≠ g3)) (by (with_reducible repeat (first | apply Kd.N_alloc | apply Kd.N_drewN | apply Kd.N_drew)); exact HO154.out) hg hat)
            have n14_ := Aside0.mk (hb)
            have n15_ := Aside0.mk (ho)
            clear U4
            clear U5
            clear U6
            clear U7
            clear BK111
            clear BK112
            clear BK113
            clear HO123
            clear HO137
            clear HO129
            clear HO140
            clear HO148
            clear HO162
            clear HO154
            clear HB
            clear HO143
            have U4 := n0_
            have U5 := n1_
            have U6 := n2_
            have U7 := n3_
            have BK111 := n4_
            have BK112 := n5_
            have BK113 := n6_
            have HO123 := n7_
            have HO137 := n8_
            have HO129 := n9_
            have HO140 := n10_
            have HO148 := n11_
            have HO162 := n12_
            have HO154 := n13_
            have HB := n14_
            have HO151 := n15_
            clear n0_ n1_ n2_ n3_ n4_ n5_ n6_ n7_ n8_ n9_ n10_ n11_ n12_ n13_ n14_ n15_
            clear ho hb hg hat
            refine hK.out _ _ ⟨(blk_cell BK111.out 0).trans rfl, (blk_cell BK111.out 1).trans rfl, (blk_cell BK111.out 2).trans rfl, (blk_cell BK111.out 3).trans rfl, (blk_cell BK111.out 4).trans rfl, (blk_cell BK111.out 5).trans rfl, (blk_cell BK112.out 0).trans rfl, (blk_cell BK112.out 1).trans rfl, (blk_cell BK112.out 2).trans rfl, (blk_cell BK112.out 3).trans rfl, (blk_cell BK112.out 4).trans rfl, (blk_cell BK112.out 5).trans rfl⟩ (fun hHeld => ?_)
            clear hK K
            refine norm_ (a' := ?_) ?_ ?_
            rotate_left
            · show Act.put _ (some 55) _ = _
              simp only [Act.put, List.setIfInBounds_toArray, List.set_cons_zero, List.set_cons_succ, i64_w, i32_w]
              rfl
            exact norm_ (by simp only [putAll, Act.put, List.setIfInBounds_toArray, List.set_cons_zero, List.set_cons_succ]) (hCont (v142, v150, v153) _ ⟨hHeld, (by (with_reducible repeat (first | apply Kd.V_alloc | apply Kd.V_drewN | apply Kd.V_drew)); exact Kd.V_mono HO123.out (fun _ hk => ⟨hk.1.1, ⟨hk.1.2.1, ⟨hk.1.2.2.1, ⟨hk.2, ⟨hk.1.2.2.2.1, ⟨hk.1.2.2.2.2.1, ⟨hk.1.2.2.2.2.2.1, hk.1.2.2.2.2.2.2⟩⟩⟩⟩⟩⟩⟩)), (by (with_reducible repeat (first | apply Kd.R_alloc | apply Kd.R_drewN | apply Kd.R_drew)); exact HO129.out), (by (with_reducible repeat (first | apply Kd.V_alloc | apply Kd.V_drewN | apply Kd.V_drew)); exact Kd.V_mono HO137.out (fun _ hk => ⟨hk.1.1, ⟨hk.1.2.1, ⟨hk.1.2.2.1, ⟨hk.2, ⟨hk.1.2.2.2.1, ⟨hk.1.2.2.2.2.1, ⟨hk.1.2.2.2.2.2.1, hk.1.2.2.2.2.2.2⟩⟩⟩⟩⟩⟩⟩)), (by (with_reducible repeat (first | apply Kd.R_alloc | apply Kd.R_drewN | apply Kd.R_drew)); exact HO140.out), (by (with_reducible repeat (first | apply Kd.V_alloc | apply Kd.V_drewN | apply Kd.V_drew)); exact Kd.V_mono HO148.out (fun _ hk => ⟨hk.1.1, ⟨hk.1.2.1, ⟨hk.1.2.2.1, ⟨hk.2, ⟨hk.1.2.2.2.1, ⟨hk.1.2.2.2.2.1, ⟨hk.1.2.2.2.2.2.1, hk.1.2.2.2.2.2.2⟩⟩⟩⟩⟩⟩⟩)), (by (with_reducible repeat (first | apply Kd.N_alloc | apply Kd.N_drewN | apply Kd.N_drew)); exact HO151.out), (by (with_reducible repeat (first | apply Kd.N_alloc | apply Kd.N_drewN | apply Kd.N_drew)); exact Kd.N_mono HO154.out (fun _ hk => ⟨hk.1.1, ⟨hk.1.2.1, ⟨hk.1.2.2.1, ⟨hk.2, ⟨hk.1.2.2.2.1, ⟨hk.1.2.2.2.2.1, hk.1.2.2.2.2.2⟩⟩⟩⟩⟩⟩)), (by (with_reducible repeat (first | apply Kd.V_alloc | apply Kd.V_drewN | apply Kd.V_drew)); exact Kd.V_mono HO162.out (fun _ hk => ⟨hk.1.1, ⟨hk.1.2.1, ⟨hk.1.2.2.1, ⟨hk.2, ⟨hk.1.2.2.2.1, ⟨hk.1.2.2.2.2.1, ⟨hk.1.2.2.2.2.2.1, hk.1.2.2.2.2.2.2⟩⟩⟩⟩⟩⟩⟩)), (by (with_reducible repeat (first | apply Kd.V_alloc | apply Kd.V_drewN | apply Kd.V_drew)); exact Kd.V_mono U4.out (fun _ hk => ⟨hk.1.1, ⟨hk.1.2.1, ⟨hk.1.2.2.1, ⟨hk.2, ⟨hk.1.2.2.2.1, ⟨hk.1.2.2.2.2.1, ⟨hk.1.2.2.2.2.2.1, hk.1.2.2.2.2.2.2⟩⟩⟩⟩⟩⟩⟩)), (by (with_reducible repeat (first | apply Kd.V_alloc | apply Kd.V_drewN | apply Kd.V_drew)); exact Kd.V_mono U5.out (fun _ hk => ⟨hk.1.1, ⟨hk.1.2.1, ⟨hk.1.2.2.1, ⟨hk.2, ⟨hk.1.2.2.2.1, ⟨hk.1.2.2.2.2.1, ⟨hk.1.2.2.2.2.2.1, hk.1.2.2.2.2.2.2⟩⟩⟩⟩⟩⟩⟩)), (by (with_reducible repeat (first | apply Kd.V_alloc | apply Kd.V_drewN | apply Kd.V_drew)); exact Kd.V_mono U6.out (fun _ hk => ⟨hk.1.1, ⟨hk.1.2.1, ⟨hk.1.2.2.1, ⟨hk.2, ⟨hk.1.2.2.2.1, ⟨hk.1.2.2.2.2.1, ⟨hk.1.2.2.2.2.2.1, hk.1.2.2.2.2.2.2⟩⟩⟩⟩⟩⟩⟩)), (by (with_reducible repeat (first | apply Kd.V_alloc | apply Kd.V_drewN | apply Kd.V_drew)); exact Kd.V_mono U7.out (fun _ hk => ⟨hk.1.1, ⟨hk.1.2.1, ⟨hk.1.2.2.1, ⟨hk.2, ⟨hk.1.2.2.2.1, ⟨hk.1.2.2.2.2.1, ⟨hk.1.2.2.2.2.2.1, hk.1.2.2.2.2.2.2⟩⟩⟩⟩⟩⟩⟩)), (by (with_reducible repeat (first | refine blk_drewN ?_ _ | refine blk_drew ?_ | refine blk_alloc ?_ _)); exact BK111.out), (by (with_reducible repeat (first | refine blk_drewN ?_ _ | refine blk_drew ?_ | refine blk_alloc ?_ _)); exact BK112.out), (by (with_reducible repeat (first | refine blk_drewN ?_ _ | refine blk_drew ?_ | refine blk_alloc ?_ _)); exact BK113.out), (by repeat (first | (with_reducible first | exact HB.out | apply below_alloc | apply pw_below_drewN | apply below_drew1 | refine below_set ?_ GE111.out | refine below_set ?_ GE112.out | refine below_set ?_ GE113.out) | exact HB.out))⟩)
        rintro ⟨v142, v150, v153⟩ w61 ⟨hS_, h0_, h1_, h2_, h3_, h4_, h5_, h6_, h7_, h8_, h9_, h10_, h11_, h12_, h13_, h14_, h15_⟩
        have n0_ : Aside0 (Kd.V Kd.string 9 w61 w.heap.size (fun q => ((P4 q ∨ P5 q ∨ Q4 q ∨ Q5 q) ∨ w.heap.size ≤ q) ∧ some q ≠ (.slice Ao51 y127.length co51 : Value).ownBlock ∧ some q ≠ (v139 : Value).ownBlock ∧ some q ≠ (v150 : Value).ownBlock ∧ some q ≠ (v153 : Value).ownBlock ∧ q ≠ g1 ∧ q ≠ g2 ∧ q ≠ g3) (.slice A0_5 y119.length c0_5) y119) := ⟨h0_⟩
        have n1_ : Aside0 (Kd.R Kd.string 9 w61 w.heap.size (fun q => (w.heap.size ≤ q) ∧ some q ≠ (v139 : Value).ownBlock) (.slice Ao51 y127.length co51) y127) := ⟨h1_⟩
        have n2_ : Aside0 (Kd.V Kd.string 9 w61 w.heap.size (fun q => ((P4 q ∨ P5 q ∨ Q4 q ∨ Q5 q) ∨ w.heap.size ≤ q) ∧ some q ≠ (.slice Ao51 y127.length co51 : Value).ownBlock ∧ some q ≠ (v139 : Value).ownBlock ∧ some q ≠ (v150 : Value).ownBlock ∧ some q ≠ (v153 : Value).ownBlock ∧ q ≠ g1 ∧ q ≠ g2 ∧ q ≠ g3) (.slice A43 y133.length c43) y133) := ⟨h2_⟩
        have n3_ : Aside0 (Kd.R Kd.string 9 w61 w.heap.size (fun q => (w.heap.size ≤ q) ∧ some q ≠ (.slice Ao51 y127.length co51 : Value).ownBlock) v139 y138) := ⟨h3_⟩
        have n4_ : Aside0 (Kd.V k27 27 w61 w.heap.size (fun q => ((P4 q ∨ P5 q ∨ Q4 q ∨ Q5 q) ∨ w.heap.size ≤ q) ∧ some q ≠ (.slice Ao51 y127.length co51 : Value).ownBlock ∧ some q ≠ (v139 : Value).ownBlock ∧ some q ≠ (v150 : Value).ownBlock ∧ some q ≠ (v153 : Value).ownBlock ∧ q ≠ g1 ∧ q ≠ g2 ∧ q ≠ g3) (.slice A0_4 y144.length c0_4) y144) := ⟨h4_⟩
        have n5_ : Aside0 (Kd.N k27 27 w61 w.heap.size (fun q => ((P4 q ∨ P5 q ∨ Q4 q ∨ Q5 q) ∨ w.heap.size ≤ q) ∧ some q ≠ (.slice Ao51 y127.length co51 : Value).ownBlock ∧ some q ≠ (v139 : Value).ownBlock ∧ some q ≠ (v153 : Value).ownBlock ∧ q ≠ g1 ∧ q ≠ g2 ∧ q ≠ g3) v150 y149) := ⟨h5_⟩
        have n6_ : Aside0 (Kd.N k27 27 w61 w.heap.size (fun q => ((P4 q ∨ P5 q ∨ Q4 q ∨ Q5 q) ∨ w.heap.size ≤ q) ∧ some q ≠ (.slice Ao51 y127.length co51 : Value).ownBlock ∧ some q ≠ (v139 : Value).ownBlock ∧ some q ≠ (v150 : Value).ownBlock ∧ q ≠ g1 ∧ q ≠ g2 ∧ q ≠ g3) v153 y152) := ⟨h6_⟩
        have n7_ : Aside0 (Kd.V k27 27 w61 w.heap.size (fun q => ((P4 q ∨ P5 q ∨ Q4 q ∨ Q5 q) ∨ w.heap.size ≤ q) ∧ some q ≠ (.slice Ao51 y127.length co51 : Value).ownBlock ∧ some q ≠ (v139 : Value).ownBlock ∧ some q ≠ (v150 : Value).ownBlock ∧ some q ≠ (v153 : Value).ownBlock ∧ q ≠ g1 ∧ q ≠ g2 ∧ q ≠ g3) (.slice A55 y158.length c55) y158) := ⟨h7_⟩
        have n8_ : Aside0 (Kd.V k27 27 w61 w.heap.size (fun q => ((P4 q ∨ P5 q ∨ Q4 q ∨ Q5 q) ∨ w.heap.size ≤ q) ∧ some q ≠ (.slice Ao51 y127.length co51 : Value).ownBlock ∧ some q ≠ (v139 : Value).ownBlock ∧ some q ≠ (v150 : Value).ownBlock ∧ some q ≠ (v153 : Value).ownBlock ∧ q ≠ g1 ∧ q ≠ g2 ∧ q ≠ g3) (.slice A0_4 l0_4.length c0_4) l0_4) := ⟨h8_⟩
        have n9_ : Aside0 (Kd.V Kd.string 9 w61 w.heap.size (fun q => ((P4 q ∨ P5 q ∨ Q4 q ∨ Q5 q) ∨ w.heap.size ≤ q) ∧ some q ≠ (.slice Ao51 y127.length co51 : Value).ownBlock ∧ some q ≠ (v139 : Value).ownBlock ∧ some q ≠ (v150 : Value).ownBlock ∧ some q ≠ (v153 : Value).ownBlock ∧ q ≠ g1 ∧ q ≠ g2 ∧ q ≠ g3) (.slice A0_5 l0_5.length c0_5) l0_5) := ⟨h9_⟩
        have n10_ : Aside0 (Kd.V k27 27 w61 w.heap.size (fun q => ((P4 q ∨ P5 q ∨ Q4 q ∨ Q5 q) ∨ w.heap.size ≤ q) ∧ some q ≠ (.slice Ao51 y127.length co51 : Value).ownBlock ∧ some q ≠ (v139 : Value).ownBlock ∧ some q ≠ (v150 : Value).ownBlock ∧ some q ≠ (v153 : Value).ownBlock ∧ q ≠ g1 ∧ q ≠ g2 ∧ q ≠ g3) (.slice A2_4 l2_4.length c2_4) l2_4) := ⟨h10_⟩
        have n11_ : Aside0 (Kd.V Kd.string 9 w61 w.heap.size (fun q => ((P4 q ∨ P5 q ∨ Q4 q ∨ Q5 q) ∨ w.heap.size ≤ q) ∧ some q ≠ (.slice Ao51 y127.length co51 : Value).ownBlock ∧ some q ≠ (v139 : Value).ownBlock ∧ some q ≠ (v150 : Value).ownBlock ∧ some q ≠ (v153 : Value).ownBlock ∧ q ≠ g1 ∧ q ≠ g2 ∧ q ≠ g3) (.slice A2_5 l2_5.length c2_5) l2_5) := ⟨h11_⟩
        have n12_ : Aside0 (w61.heap[g1]? = some (.cells #[.int .i64 a0_0, .int .i64 a0_1, .int .i64 a0_2, .string a0_3, .slice A0_4 l0_4.length c0_4, .slice A0_5 l0_5.length c0_5] 27 (0, 0))) := ⟨h12_⟩
        have n13_ : Aside0 (w61.heap[g2]? = some (.cells #[.int .i64 a2_0, .int .i64 a2_1, .int .i64 a2_2, .string a2_3, .slice A2_4 l2_4.length c2_4, .slice A2_5 l2_5.length c2_5] 27 (0, 0))) := ⟨h13_⟩
        have n14_ : Aside0 (w61.heap[g3]? = some (.cells #[.int .i64 0, .int .i64 0, .int .i64 0, .string (⟨#[]⟩ : ByteArray), .slice none 0 0, .slice none 0 0] 27 (0, 0))) := ⟨h14_⟩
        have n15_ : Aside0 (Below w.heap.size w w61) := ⟨h15_⟩
        clear U4
        clear U5
        clear U6
        clear U7
        clear HO123
        clear HO137
        clear HO129
        clear HO140
        clear BK111
        clear BK112
        clear BK113
        clear HB
        clear h0_ h1_ h2_ h3_ h4_ h5_ h6_ h7_ h8_ h9_ h10_ h11_ h12_ h13_ h14_ h15_
        have HO123 := n0_
        have HO129 := n1_
        have HO137 := n2_
        have HO140 := n3_
        have HO148 := n4_
        have HO151 := n5_
        have HO154 := n6_
        have HO162 := n7_
        have U4 := n8_
        have U5 := n9_
        have U6 := n10_
        have U7 := n11_
        have BK111 := n12_
        have BK112 := n13_
        have BK113 := n14_
        have HB := n15_
        clear n0_ n1_ n2_ n3_ n4_ n5_ n6_ n7_ n8_ n9_ n10_ n11_ n12_ n13_ n14_ n15_
        have hHeld : w61.cell? ⟨g1, 0, none⟩ = some (.int .i64 a0_0) ∧ w61.cell? ⟨g1, 1, none⟩ = some (.int .i64 a0_1) ∧ w61.cell? ⟨g1, 2, none⟩ = some (.int .i64 a0_2) ∧ w61.cell? ⟨g1, 3, none⟩ = some (.string a0_3) ∧ w61.cell? ⟨g1, 4, none⟩ = some (.slice A0_4 l0_4.length c0_4) ∧ w61.cell? ⟨g1, 5, none⟩ = some (.slice A0_5 l0_5.length c0_5) ∧ w61.cell? ⟨g2, 0, none⟩ = some (.int .i64 a2_0) ∧ w61.cell? ⟨g2, 1, none⟩ = some (.int .i64 a2_1) ∧ w61.cell? ⟨g2, 2, none⟩ = some (.int .i64 a2_2) ∧ w61.cell? ⟨g2, 3, none⟩ = some (.string a2_3) ∧ w61.cell? ⟨g2, 4, none⟩ = some (.slice A2_4 l2_4.length c2_4) ∧ w61.cell? ⟨g2, 5, none⟩ = some (.slice A2_5 l2_5.length c2_5) := hS_
        obtain ⟨Ao63, co63, eo63⟩ := Kd.N_slice HO154.out
        (first | subst eo63 | (injection eo63 with f1_ f2_ f3_; have f4_ := f1_.symm; have f5_ := f3_.symm; clear f1_ f2_ f3_; subst f4_; subst f5_))
        refine norm_ (a' := ?_) ?_ ?_
        rotate_left
        · simp only [putAll, Act.put, List.setIfInBounds_toArray, List.set_cons_zero, List.set_cons_succ]
          rfl
        refine one_ (i := 8) (N := some 58) #[true, true, true, true, true, true, true, true, true, true, true, true, true, false, false] rfl rfl (one_of HT_.out (by kernel_rfl)) (by decide) (fun K hK => ?_)
        refine Kd.N_append_rows_step k27 (w0 := w) w.heap.size (by rfl) (.tmp 55) (.tmp 57) 24 27 (.agg #[(.int .i64 0), (.int .i64 0), (.int .i64 0), (.string ⟨#[]⟩), (.slice none 0 0), (.slice none 0 0)]) 88 rfl Try.underlying24 info27 rfl (by decide) (by omega) v150 y149 y152 _ _ _ (fun q => ((P4 q ∨ P5 q ∨ Q4 q ∨ Q5 q) ∨ w.heap.size ≤ q) ∧ some q ≠ (.slice Ao51 y127.length co51 : Value).ownBlock ∧ some q ≠ (v139 : Value).ownBlock ∧ q ≠ g1 ∧ q ≠ g2 ∧ q ≠ g3) (fun q => ((fun q => ((P4 q ∨ P5 q ∨ Q4 q ∨ Q5 q) ∨ w.heap.size ≤ q) ∧ some q ≠ (.slice Ao51 y127.length co51 : Value).ownBlock ∧ some q ≠ (v139 : Value).ownBlock ∧ q ≠ g1 ∧ q ≠ g2 ∧ q ≠ g3)) q ∧ some q ≠ (v150 : Value).ownBlock) rfl rfl ?aO ?aR (fun _ hk => hk) ?aF ?aB ?aS ?aL ?_
        (case aR => exact (by skip; exact Kd.N_F (Kd.N_mono (ok' := (fun q => ((fun q => ((P4 q ∨ P5 q ∨ Q4 q ∨ Q5 q) ∨ w.heap.size ≤ q) ∧ some q ≠ (.slice Ao51 y127.length co51 : Value).ownBlock ∧ some q ≠ (v139 : Value).ownBlock ∧ q ≠ g1 ∧ q ≠ g2 ∧ q ≠ g3)) q ∧ some q ≠ (v150 : Value).ownBlock)) (HO154.out) (fun q hk => ⟨⟨hk.1, ⟨hk.2.1, ⟨hk.2.2.1, ⟨hk.2.2.2.2.1, ⟨hk.2.2.2.2.2.1, hk.2.2.2.2.2.2⟩⟩⟩⟩⟩, hk.2.2.2.1⟩))))
        (case aB => exact (by repeat (first | (with_reducible first | exact HB.out | apply below_alloc | apply pw_below_drewN | apply below_drew1 | refine below_set ?_ GE111.out | refine below_set ?_ GE112.out | refine below_set ?_ GE113.out) | exact HB.out)))
        (case aF => exact (fun q hk => ⟨(.inr (Nat.le_trans (below_size (by repeat (first | (with_reducible first | exact HB.out | apply below_alloc | apply pw_below_drewN | apply below_drew1 | refine below_set ?_ GE111.out | refine below_set ?_ GE112.out | refine below_set ?_ GE113.out) | exact HB.out))) hk)), Kd.fresh' (Kd.R_lt (by (with_reducible repeat (first | apply Kd.R_alloc | apply Kd.R_drewN | apply Kd.R_drew)); exact HO129.out)) q hk, Kd.fresh' (Kd.R_lt (by (with_reducible repeat (first | apply Kd.R_alloc | apply Kd.R_drewN | apply Kd.R_drew)); exact HO140.out)) q hk, Kd.freshB (g := g1) (o := .cells #[.int .i64 a0_0, .int .i64 a0_1, .int .i64 a0_2, .string a0_3, .slice A0_4 l0_4.length c0_4, .slice A0_5 l0_5.length c0_5] 27 (0, 0)) (by (with_reducible repeat (first | refine blk_drewN ?_ _ | refine blk_drew ?_ | refine blk_alloc ?_ _)); exact BK111.out) q hk, Kd.freshB (g := g2) (o := .cells #[.int .i64 a2_0, .int .i64 a2_1, .int .i64 a2_2, .string a2_3, .slice A2_4 l2_4.length c2_4, .slice A2_5 l2_5.length c2_5] 27 (0, 0)) (by (with_reducible repeat (first | refine blk_drewN ?_ _ | refine blk_drew ?_ | refine blk_alloc ?_ _)); exact BK112.out) q hk, Kd.freshB (g := g3) (o := .cells #[.int .i64 0, .int .i64 0, .int .i64 0, .string (⟨#[]⟩ : ByteArray), .slice none 0 0, .slice none 0 0] 27 (0, 0)) (by (with_reducible repeat (first | refine blk_drewN ?_ _ | refine blk_drew ?_ | refine blk_alloc ?_ _)); exact BK113.out) q hk⟩))
        (case aO => exact (by (with_reducible repeat (first | apply Kd.N_alloc | apply Kd.N_drewN | apply Kd.N_drew)); exact Kd.N_mono HO151.out (fun _ hk => ⟨hk.1, ⟨hk.2.1, ⟨hk.2.2.1, ⟨hk.2.2.2.2.1, ⟨hk.2.2.2.2.2.1, hk.2.2.2.2.2.2⟩⟩⟩⟩⟩)))
        (case aS => exact (below_size (by repeat (first | (with_reducible first | exact HB.out | apply below_alloc | apply pw_below_drewN | apply below_drew1 | refine below_set ?_ GE111.out | refine below_set ?_ GE112.out | refine below_set ?_ GE113.out) | exact HB.out))))
        (case aL => have := LMc34.out; omega)
        intro v156 w62 ho hb hg hat
        rw [← Ny155.out] at ho
        have n0_ := Aside0.mk (Kd.V_afterv (ok := (fun q => ((P4 q ∨ P5 q ∨ Q4 q ∨ Q5 q) ∨ w.heap.size ≤ q) ∧ some q ≠ (.slice Ao51 y127.length co51 : Value).ownBlock ∧ some q ≠ (v139 : Value).ownBlock ∧ some q ≠ (.slice Ao63 y152.length co63 : Value).ownBlock ∧ q ≠ g1 ∧ q ≠ g2 ∧ q ≠ g3)) (by (with_reducible repeat (first | apply Kd.V_alloc | apply Kd.V_drewN | apply Kd.V_drew)); exact Kd.V_mono U4.out (fun _ hk => ⟨⟨hk.1, ⟨hk.2.1, ⟨hk.2.2.1, ⟨hk.2.2.2.2.1, ⟨hk.2.2.2.2.2.1, ⟨hk.2.2.2.2.2.2.1, hk.2.2.2.2.2.2.2⟩⟩⟩⟩⟩⟩, hk.2.2.2.1⟩)) hg hat)
        have n1_ := Aside0.mk (Kd.V_afterv (ok := (fun q => ((P4 q ∨ P5 q ∨ Q4 q ∨ Q5 q) ∨ w.heap.size ≤ q) ∧ some q ≠ (.slice Ao51 y127.length co51 : Value).ownBlock ∧ some q ≠ (v139 : Value).ownBlock ∧ some q ≠ (.slice Ao63 y152.length co63 : Value).ownBlock ∧ q ≠ g1 ∧ q ≠ g2 ∧ q ≠ g3)) (by (with_reducible repeat (first | apply Kd.V_alloc | apply Kd.V_drewN | apply Kd.V_drew)); exact Kd.V_mono U5.out (fun _ hk => ⟨⟨hk.1, ⟨hk.2.1, ⟨hk.2.2.1, ⟨hk.2.2.2.2.1, ⟨hk.2.2.2.2.2.1, ⟨hk.2.2.2.2.2.2.1, hk.2.2.2.2.2.2.2⟩⟩⟩⟩⟩⟩, hk.2.2.2.1⟩)) hg hat)
        have n2_ := Aside0.mk (Kd.V_afterv (ok := (fun q => ((P4 q ∨ P5 q ∨ Q4 q ∨ Q5 q) ∨ w.heap.size ≤ q) ∧ some q ≠ (.slice Ao51 y127.length co51 : Value).ownBlock ∧ some q ≠ (v139 : Value).ownBlock ∧ some q ≠ (.slice Ao63 y152.length co63 : Value).ownBlock ∧ q ≠ g1 ∧ q ≠ g2 ∧ q ≠ g3)) (by (with_reducible repeat (first | apply Kd.V_alloc | apply Kd.V_drewN | apply Kd.V_drew)); exact Kd.V_mono U6.out (fun _ hk => ⟨⟨hk.1, ⟨hk.2.1, ⟨hk.2.2.1, ⟨hk.2.2.2.2.1, ⟨hk.2.2.2.2.2.1, ⟨hk.2.2.2.2.2.2.1, hk.2.2.2.2.2.2.2⟩⟩⟩⟩⟩⟩, hk.2.2.2.1⟩)) hg hat)
        have n3_ := Aside0.mk (Kd.V_afterv (ok := (fun q => ((P4 q ∨ P5 q ∨ Q4 q ∨ Q5 q) ∨ w.heap.size ≤ q) ∧ some q ≠ (.slice Ao51 y127.length co51 : Value).ownBlock ∧ some q ≠ (v139 : Value).ownBlock ∧ some q ≠ (.slice Ao63 y152.length co63 : Value).ownBlock ∧ q ≠ g1 ∧ q ≠ g2 ∧ q ≠ g3)) (by (with_reducible repeat (first | apply Kd.V_alloc | apply Kd.V_drewN | apply Kd.V_drew)); exact Kd.V_mono U7.out (fun _ hk => ⟨⟨hk.1, ⟨hk.2.1, ⟨hk.2.2.1, ⟨hk.2.2.2.2.1, ⟨hk.2.2.2.2.2.1, ⟨hk.2.2.2.2.2.2.1, hk.2.2.2.2.2.2.2⟩⟩⟩⟩⟩⟩, hk.2.2.2.1⟩)) hg hat)
        have n4_ := Aside0.mk (blk_grown (g := g1) (o := .cells #[.int .i64 a0_0, .int .i64 a0_1, .int .i64 a0_2, .string a0_3, .slice A0_4 l0_4.length c0_4, .slice A0_5 l0_5.length c0_5] 27 (0, 0)) (by (with_reducible repeat (first | refine blk_drewN ?_ _ | refine blk_drew ?_ | refine blk_alloc ?_ _)); exact BK111.out) hg (Kd.N_away HO151.out (fun _ hk => hk.2.2.2.2.1)))
        have n5_ := Aside0.mk (blk_grown (g := g2) (o := .cells #[.int .i64 a2_0, .int .i64 a2_1, .int .i64 a2_2, .string a2_3, .slice A2_4 l2_4.length c2_4, .slice A2_5 l2_5.length c2_5] 27 (0, 0)) (by (with_reducible repeat (first | refine blk_drewN ?_ _ | refine blk_drew ?_ | refine blk_alloc ?_ _)); exact BK112.out) hg (Kd.N_away HO151.out (fun _ hk => hk.2.2.2.2.2.1)))
        have n6_ := Aside0.mk (blk_grown (g := g3) (o := .cells #[.int .i64 0, .int .i64 0, .int .i64 0, .string (⟨#[]⟩ : ByteArray), .slice none 0 0, .slice none 0 0] 27 (0, 0)) (by (with_reducible repeat (first | refine blk_drewN ?_ _ | refine blk_drew ?_ | refine blk_alloc ?_ _)); exact BK113.out) hg (Kd.N_away HO151.out (fun _ hk => hk.2.2.2.2.2.2)))
        have n7_ := Aside0.mk (Kd.V_afterv (ok := (fun q => ((P4 q ∨ P5 q ∨ Q4 q ∨ Q5 q) ∨ w.heap.size ≤ q) ∧ some q ≠ (.slice Ao51 y127.length co51 : Value).ownBlock ∧ some q ≠ (v139 : Value).ownBlock ∧ some q ≠ (.slice Ao63 y152.length co63 : Value).ownBlock ∧ q ≠ g1 ∧ q ≠ g2 ∧ q ≠ g3)) (by (with_reducible repeat (first | apply Kd.V_alloc | apply Kd.V_drewN | apply Kd.V_drew)); exact Kd.V_mono HO123.out (fun _ hk => ⟨⟨hk.1, ⟨hk.2.1, ⟨hk.2.2.1, ⟨hk.2.2.2.2.1, ⟨hk.2.2.2.2.2.1, ⟨hk.2.2.2.2.2.2.1, hk.2.2.2.2.2.2.2⟩⟩⟩⟩⟩⟩, hk.2.2.2.1⟩)) hg hat)
        have n8_ := Aside0.mk (Kd.V_afterv (ok := (fun q => ((P4 q ∨ P5 q ∨ Q4 q ∨ Q5 q) ∨ w.heap.size ≤ q) ∧ some q ≠ (.slice Ao51 y127.length co51 : Value).ownBlock ∧ some q ≠ (v139 : Value).ownBlock ∧ some q ≠ (.slice Ao63 y152.length co63 : Value).ownBlock ∧ q ≠ g1 ∧ q ≠ g2 ∧ q ≠ g3)) (by (with_reducible repeat (first | apply Kd.V_alloc | apply Kd.V_drewN | apply Kd.V_drew)); exact Kd.V_mono HO137.out (fun _ hk => ⟨⟨hk.1, ⟨hk.2.1, ⟨hk.2.2.1, ⟨hk.2.2.2.2.1, ⟨hk.2.2.2.2.2.1, ⟨hk.2.2.2.2.2.2.1, hk.2.2.2.2.2.2.2⟩⟩⟩⟩⟩⟩, hk.2.2.2.1⟩)) hg hat)
        have n9_ := Aside0.mk (Kd.R_over' (by (with_reducible repeat (first | apply Kd.R_alloc | apply Kd.R_drewN | apply Kd.R_drew)); exact HO129.out) (Kd.N_typed (by (with_reducible repeat (first | apply Kd.N_alloc | apply Kd.N_drewN | apply Kd.N_drew)); exact HO151.out)) (by decide) hg)
        have n10_ := Aside0.mk (Kd.R_over' (by (with_reducible repeat (first | apply Kd.R_alloc | apply Kd.R_drewN | apply Kd.R_drew)); exact HO140.out) (Kd.N_typed (by (with_reducible repeat (first | apply Kd.N_alloc | apply Kd.N_drewN | apply Kd.N_drew)); exact HO151.out)) (by decide) hg)
        have n11_ := Aside0.mk (Kd.V_afterv (ok := (fun q => ((P4 q ∨ P5 q ∨ Q4 q ∨ Q5 q) ∨ w.heap.size ≤ q) ∧ some q ≠ (.slice Ao51 y127.length co51 : Value).ownBlock ∧ some q ≠ (v139 : Value).ownBlock ∧ some q ≠ (.slice Ao63 y152.length co63 : Value).ownBlock ∧ q ≠ g1 ∧ q ≠ g2 ∧ q ≠ g3)) (by (with_reducible repeat (first | apply Kd.V_alloc | apply Kd.V_drewN | apply Kd.V_drew)); exact Kd.V_mono HO148.out (fun _ hk => ⟨⟨hk.1, ⟨hk.2.1, ⟨hk.2.2.1, ⟨hk.2.2.2.2.1, ⟨hk.2.2.2.2.2.1, ⟨hk.2.2.2.2.2.2.1, hk.2.2.2.2.2.2.2⟩⟩⟩⟩⟩⟩, hk.2.2.2.1⟩)) hg hat)
        have n12_ := Aside0.mk (Kd.V_afterv (ok := (fun q => ((P4 q ∨ P5 q ∨ Q4 q ∨ Q5 q) ∨ w.heap.size ≤ q) ∧ some q ≠ (.slice Ao51 y127.length co51 : Value).ownBlock ∧ some q ≠ (v139 : Value).ownBlock ∧ some q ≠ (.slice Ao63 y152.length co63 : Value).ownBlock ∧ q ≠ g1 ∧ q ≠ g2 ∧ q ≠ g3)) (by (with_reducible repeat (first | apply Kd.V_alloc | apply Kd.V_drewN | apply Kd.V_drew)); exact Kd.V_mono HO162.out (fun _ hk => ⟨⟨hk.1, ⟨hk.2.1, ⟨hk.2.2.1, ⟨hk.2.2.2.2.1, ⟨hk.2.2.2.2.2.1, ⟨hk.2.2.2.2.2.2.1, hk.2.2.2.2.2.2.2⟩⟩⟩⟩⟩⟩, hk.2.2.2.1⟩)) hg hat)
        have n13_ := Aside0.mk (Kd.N_afterv (ok := (fun q => ((P4 q ∨ P5 q ∨ Q4 q ∨ Q5 q) ∨ w.heap.size ≤ q) ∧ some q ≠ (.slice Ao51 y127.length co51 : Value).ownBlock ∧ some q ≠ (v139 : Value).ownBlock ∧ q ≠ g1 ∧ q ≠ g2 ∧ q ≠ g3)) (by (with_reducible repeat (first | apply Kd.N_alloc | apply Kd.N_drewN | apply Kd.N_drew)); exact Kd.N_mono HO154.out (fun _ hk => ⟨⟨hk.1, ⟨hk.2.1, ⟨hk.2.2.1, ⟨hk.2.2.2.2.1, ⟨hk.2.2.2.2.2.1, hk.2.2.2.2.2.2⟩⟩⟩⟩⟩, hk.2.2.2.1⟩)) hg hat)
        have n14_ := Aside0.mk (hb)
        have n15_ := Aside0.mk (ho)
        clear U4
        clear U5
        clear U6
        clear U7
        clear BK111
        clear BK112
        clear BK113
        clear HO123
        clear HO137
        clear HO129
        clear HO140
        clear HO148
        clear HO162
        clear HO154
        clear HB
        clear HO151
        have U4 := n0_
        have U5 := n1_
        have U6 := n2_
        have U7 := n3_
        have BK111 := n4_
        have BK112 := n5_
        have BK113 := n6_
        have HO123 := n7_
        have HO137 := n8_
        have HO129 := n9_
        have HO140 := n10_
        have HO148 := n11_
        have HO162 := n12_
        have HO154 := n13_
        have HB := n14_
        have HO157 := n15_
        clear n0_ n1_ n2_ n3_ n4_ n5_ n6_ n7_ n8_ n9_ n10_ n11_ n12_ n13_ n14_ n15_
        clear ho hb hg hat
        refine hK.out _ _ ⟨(blk_cell BK111.out 0).trans rfl, (blk_cell BK111.out 1).trans rfl, (blk_cell BK111.out 2).trans rfl, (blk_cell BK111.out 3).trans rfl, (blk_cell BK111.out 4).trans rfl, (blk_cell BK111.out 5).trans rfl, (blk_cell BK112.out 0).trans rfl, (blk_cell BK112.out 1).trans rfl, (blk_cell BK112.out 2).trans rfl, (blk_cell BK112.out 3).trans rfl, (blk_cell BK112.out 4).trans rfl, (blk_cell BK112.out 5).trans rfl⟩ (fun hHeld => ?_)
        clear hK K
        refine norm_ (a' := ?_) ?_ ?_
        rotate_left
        · show Act.put _ (some 58) _ = _
          simp only [Act.put, List.setIfInBounds_toArray, List.set_cons_zero, List.set_cons_succ, i64_w, i32_w]
          rfl
        refine one_ (i := 13) (N := some 63) #[true, true, true, true, true, true, true, true, true, true, true, true, true, true, false] rfl rfl (one_of HT_.out (by kernel_rfl)) (by decide) (fun K hK => ?_)
        refine Kd.N_append_rows_step k27 (w0 := w) w.heap.size (by rfl) (.tmp 58) (.tmp 62) 24 27 (.agg #[(.int .i64 0), (.int .i64 0), (.int .i64 0), (.string ⟨#[]⟩), (.slice none 0 0), (.slice none 0 0)]) 88 rfl Try.underlying24 info27 rfl (by decide) (by omega) v156 y155 y158 _ _ _ (fun q => ((P4 q ∨ P5 q ∨ Q4 q ∨ Q5 q) ∨ w.heap.size ≤ q) ∧ some q ≠ (.slice Ao51 y127.length co51 : Value).ownBlock ∧ some q ≠ (v139 : Value).ownBlock ∧ q ≠ g1 ∧ q ≠ g2 ∧ q ≠ g3) (fun q => ((fun q => ((P4 q ∨ P5 q ∨ Q4 q ∨ Q5 q) ∨ w.heap.size ≤ q) ∧ some q ≠ (.slice Ao51 y127.length co51 : Value).ownBlock ∧ some q ≠ (v139 : Value).ownBlock ∧ q ≠ g1 ∧ q ≠ g2 ∧ q ≠ g3)) q ∧ some q ≠ (v156 : Value).ownBlock) rfl rfl ?aO ?aR (fun _ hk => hk) ?aF ?aB ?aS ?aL ?_
        (case aR => exact (by skip; exact Kd.V_F (Kd.V_mono (ok' := (fun q => ((fun q => ((P4 q ∨ P5 q ∨ Q4 q ∨ Q5 q) ∨ w.heap.size ≤ q) ∧ some q ≠ (.slice Ao51 y127.length co51 : Value).ownBlock ∧ some q ≠ (v139 : Value).ownBlock ∧ q ≠ g1 ∧ q ≠ g2 ∧ q ≠ g3)) q ∧ some q ≠ (v156 : Value).ownBlock)) (HO162.out) (fun q hk => ⟨⟨hk.1.1, ⟨hk.1.2.1, ⟨hk.1.2.2.1, ⟨hk.1.2.2.2.2.1, ⟨hk.1.2.2.2.2.2.1, hk.1.2.2.2.2.2.2⟩⟩⟩⟩⟩, hk.2⟩))))
        (case aB => exact (by repeat (first | (with_reducible first | exact HB.out | apply below_alloc | apply pw_below_drewN | apply below_drew1 | refine below_set ?_ GE111.out | refine below_set ?_ GE112.out | refine below_set ?_ GE113.out) | exact HB.out)))
        (case aF => exact (fun q hk => ⟨(.inr (Nat.le_trans (below_size (by repeat (first | (with_reducible first | exact HB.out | apply below_alloc | apply pw_below_drewN | apply below_drew1 | refine below_set ?_ GE111.out | refine below_set ?_ GE112.out | refine below_set ?_ GE113.out) | exact HB.out))) hk)), Kd.fresh' (Kd.R_lt (by (with_reducible repeat (first | apply Kd.R_alloc | apply Kd.R_drewN | apply Kd.R_drew)); exact HO129.out)) q hk, Kd.fresh' (Kd.R_lt (by (with_reducible repeat (first | apply Kd.R_alloc | apply Kd.R_drewN | apply Kd.R_drew)); exact HO140.out)) q hk, Kd.freshB (g := g1) (o := .cells #[.int .i64 a0_0, .int .i64 a0_1, .int .i64 a0_2, .string a0_3, .slice A0_4 l0_4.length c0_4, .slice A0_5 l0_5.length c0_5] 27 (0, 0)) (by (with_reducible repeat (first | refine blk_drewN ?_ _ | refine blk_drew ?_ | refine blk_alloc ?_ _)); exact BK111.out) q hk, Kd.freshB (g := g2) (o := .cells #[.int .i64 a2_0, .int .i64 a2_1, .int .i64 a2_2, .string a2_3, .slice A2_4 l2_4.length c2_4, .slice A2_5 l2_5.length c2_5] 27 (0, 0)) (by (with_reducible repeat (first | refine blk_drewN ?_ _ | refine blk_drew ?_ | refine blk_alloc ?_ _)); exact BK112.out) q hk, Kd.freshB (g := g3) (o := .cells #[.int .i64 0, .int .i64 0, .int .i64 0, .string (⟨#[]⟩ : ByteArray), .slice none 0 0, .slice none 0 0] 27 (0, 0)) (by (with_reducible repeat (first | refine blk_drewN ?_ _ | refine blk_drew ?_ | refine blk_alloc ?_ _)); exact BK113.out) q hk⟩))
        (case aO => exact (by (with_reducible repeat (first | apply Kd.N_alloc | apply Kd.N_drewN | apply Kd.N_drew)); exact HO157.out))
        (case aS => exact (below_size (by repeat (first | (with_reducible first | exact HB.out | apply below_alloc | apply pw_below_drewN | apply below_drew1 | refine below_set ?_ GE111.out | refine below_set ?_ GE112.out | refine below_set ?_ GE113.out) | exact HB.out))))
        (case aL => have := LMc37.out; omega)
        intro v164 w64 ho hb hg hat
        rw [← Ny163.out] at ho
        have n0_ := Aside0.mk (Kd.V_afterv (ok := (fun q => ((P4 q ∨ P5 q ∨ Q4 q ∨ Q5 q) ∨ w.heap.size ≤ q) ∧ some q ≠ (.slice Ao51 y127.length co51 : Value).ownBlock ∧ some q ≠ (v139 : Value).ownBlock ∧ some q ≠ (.slice Ao63 y152.length co63 : Value).ownBlock ∧ q ≠ g1 ∧ q ≠ g2 ∧ q ≠ g3)) (by (with_reducible repeat (first | apply Kd.V_alloc | apply Kd.V_drewN | apply Kd.V_drew)); exact U4.out) hg hat)
        have n1_ := Aside0.mk (Kd.V_afterv (ok := (fun q => ((P4 q ∨ P5 q ∨ Q4 q ∨ Q5 q) ∨ w.heap.size ≤ q) ∧ some q ≠ (.slice Ao51 y127.length co51 : Value).ownBlock ∧ some q ≠ (v139 : Value).ownBlock ∧ some q ≠ (.slice Ao63 y152.length co63 : Value).ownBlock ∧ q ≠ g1 ∧ q ≠ g2 ∧ q ≠ g3)) (by (with_reducible repeat (first | apply Kd.V_alloc | apply Kd.V_drewN | apply Kd.V_drew)); exact U5.out) hg hat)
        have n2_ := Aside0.mk (Kd.V_afterv (ok := (fun q => ((P4 q ∨ P5 q ∨ Q4 q ∨ Q5 q) ∨ w.heap.size ≤ q) ∧ some q ≠ (.slice Ao51 y127.length co51 : Value).ownBlock ∧ some q ≠ (v139 : Value).ownBlock ∧ some q ≠ (.slice Ao63 y152.length co63 : Value).ownBlock ∧ q ≠ g1 ∧ q ≠ g2 ∧ q ≠ g3)) (by (with_reducible repeat (first | apply Kd.V_alloc | apply Kd.V_drewN | apply Kd.V_drew)); exact U6.out) hg hat)
        have n3_ := Aside0.mk (Kd.V_afterv (ok := (fun q => ((P4 q ∨ P5 q ∨ Q4 q ∨ Q5 q) ∨ w.heap.size ≤ q) ∧ some q ≠ (.slice Ao51 y127.length co51 : Value).ownBlock ∧ some q ≠ (v139 : Value).ownBlock ∧ some q ≠ (.slice Ao63 y152.length co63 : Value).ownBlock ∧ q ≠ g1 ∧ q ≠ g2 ∧ q ≠ g3)) (by (with_reducible repeat (first | apply Kd.V_alloc | apply Kd.V_drewN | apply Kd.V_drew)); exact U7.out) hg hat)
        have n4_ := Aside0.mk (blk_grown (g := g1) (o := .cells #[.int .i64 a0_0, .int .i64 a0_1, .int .i64 a0_2, .string a0_3, .slice A0_4 l0_4.length c0_4, .slice A0_5 l0_5.length c0_5] 27 (0, 0)) (by (with_reducible repeat (first | refine blk_drewN ?_ _ | refine blk_drew ?_ | refine blk_alloc ?_ _)); exact BK111.out) hg (Kd.N_away HO157.out (fun _ hk => hk.2.2.2.1)))
        have n5_ := Aside0.mk (blk_grown (g := g2) (o := .cells #[.int .i64 a2_0, .int .i64 a2_1, .int .i64 a2_2, .string a2_3, .slice A2_4 l2_4.length c2_4, .slice A2_5 l2_5.length c2_5] 27 (0, 0)) (by (with_reducible repeat (first | refine blk_drewN ?_ _ | refine blk_drew ?_ | refine blk_alloc ?_ _)); exact BK112.out) hg (Kd.N_away HO157.out (fun _ hk => hk.2.2.2.2.1)))
        have n6_ := Aside0.mk (blk_grown (g := g3) (o := .cells #[.int .i64 0, .int .i64 0, .int .i64 0, .string (⟨#[]⟩ : ByteArray), .slice none 0 0, .slice none 0 0] 27 (0, 0)) (by (with_reducible repeat (first | refine blk_drewN ?_ _ | refine blk_drew ?_ | refine blk_alloc ?_ _)); exact BK113.out) hg (Kd.N_away HO157.out (fun _ hk => hk.2.2.2.2.2)))
        have n7_ := Aside0.mk (Kd.V_afterv (ok := (fun q => ((P4 q ∨ P5 q ∨ Q4 q ∨ Q5 q) ∨ w.heap.size ≤ q) ∧ some q ≠ (.slice Ao51 y127.length co51 : Value).ownBlock ∧ some q ≠ (v139 : Value).ownBlock ∧ some q ≠ (.slice Ao63 y152.length co63 : Value).ownBlock ∧ q ≠ g1 ∧ q ≠ g2 ∧ q ≠ g3)) (by (with_reducible repeat (first | apply Kd.V_alloc | apply Kd.V_drewN | apply Kd.V_drew)); exact HO123.out) hg hat)
        have n8_ := Aside0.mk (Kd.V_afterv (ok := (fun q => ((P4 q ∨ P5 q ∨ Q4 q ∨ Q5 q) ∨ w.heap.size ≤ q) ∧ some q ≠ (.slice Ao51 y127.length co51 : Value).ownBlock ∧ some q ≠ (v139 : Value).ownBlock ∧ some q ≠ (.slice Ao63 y152.length co63 : Value).ownBlock ∧ q ≠ g1 ∧ q ≠ g2 ∧ q ≠ g3)) (by (with_reducible repeat (first | apply Kd.V_alloc | apply Kd.V_drewN | apply Kd.V_drew)); exact HO137.out) hg hat)
        have n9_ := Aside0.mk (Kd.R_over' (by (with_reducible repeat (first | apply Kd.R_alloc | apply Kd.R_drewN | apply Kd.R_drew)); exact HO129.out) (Kd.N_typed (by (with_reducible repeat (first | apply Kd.N_alloc | apply Kd.N_drewN | apply Kd.N_drew)); exact HO157.out)) (by decide) hg)
        have n10_ := Aside0.mk (Kd.R_over' (by (with_reducible repeat (first | apply Kd.R_alloc | apply Kd.R_drewN | apply Kd.R_drew)); exact HO140.out) (Kd.N_typed (by (with_reducible repeat (first | apply Kd.N_alloc | apply Kd.N_drewN | apply Kd.N_drew)); exact HO157.out)) (by decide) hg)
        have n11_ := Aside0.mk (Kd.V_afterv (ok := (fun q => ((P4 q ∨ P5 q ∨ Q4 q ∨ Q5 q) ∨ w.heap.size ≤ q) ∧ some q ≠ (.slice Ao51 y127.length co51 : Value).ownBlock ∧ some q ≠ (v139 : Value).ownBlock ∧ some q ≠ (.slice Ao63 y152.length co63 : Value).ownBlock ∧ q ≠ g1 ∧ q ≠ g2 ∧ q ≠ g3)) (by (with_reducible repeat (first | apply Kd.V_alloc | apply Kd.V_drewN | apply Kd.V_drew)); exact HO148.out) hg hat)
        have n12_ := Aside0.mk (Kd.V_afterv (ok := (fun q => ((P4 q ∨ P5 q ∨ Q4 q ∨ Q5 q) ∨ w.heap.size ≤ q) ∧ some q ≠ (.slice Ao51 y127.length co51 : Value).ownBlock ∧ some q ≠ (v139 : Value).ownBlock ∧ some q ≠ (.slice Ao63 y152.length co63 : Value).ownBlock ∧ q ≠ g1 ∧ q ≠ g2 ∧ q ≠ g3)) (by (with_reducible repeat (first | apply Kd.V_alloc | apply Kd.V_drewN | apply Kd.V_drew)); exact HO162.out) hg hat)
        have n13_ := Aside0.mk (Kd.N_afterv (ok := (fun q => ((P4 q ∨ P5 q ∨ Q4 q ∨ Q5 q) ∨ w.heap.size ≤ q) ∧ some q ≠ (.slice Ao51 y127.length co51 : Value).ownBlock ∧ some q ≠ (v139 : Value).ownBlock ∧ q ≠ g1 ∧ q ≠ g2 ∧ q ≠ g3)) (by (with_reducible repeat (first | apply Kd.N_alloc | apply Kd.N_drewN | apply Kd.N_drew)); exact HO154.out) hg hat)
        have n14_ := Aside0.mk (hb)
        have n15_ := Aside0.mk (ho)
        clear U4
        clear U5
        clear U6
        clear U7
        clear BK111
        clear BK112
        clear BK113
        clear HO123
        clear HO137
        clear HO129
        clear HO140
        clear HO148
        clear HO162
        clear HO154
        clear HB
        clear HO157
        have U4 := n0_
        have U5 := n1_
        have U6 := n2_
        have U7 := n3_
        have BK111 := n4_
        have BK112 := n5_
        have BK113 := n6_
        have HO123 := n7_
        have HO137 := n8_
        have HO129 := n9_
        have HO140 := n10_
        have HO148 := n11_
        have HO162 := n12_
        have HO154 := n13_
        have HB := n14_
        have HO165 := n15_
        clear n0_ n1_ n2_ n3_ n4_ n5_ n6_ n7_ n8_ n9_ n10_ n11_ n12_ n13_ n14_ n15_
        clear ho hb hg hat
        refine hK.out _ _ ⟨(blk_cell BK111.out 0).trans rfl, (blk_cell BK111.out 1).trans rfl, (blk_cell BK111.out 2).trans rfl, (blk_cell BK111.out 3).trans rfl, (blk_cell BK111.out 4).trans rfl, (blk_cell BK111.out 5).trans rfl, (blk_cell BK112.out 0).trans rfl, (blk_cell BK112.out 1).trans rfl, (blk_cell BK112.out 2).trans rfl, (blk_cell BK112.out 3).trans rfl, (blk_cell BK112.out 4).trans rfl, (blk_cell BK112.out 5).trans rfl⟩ (fun hHeld => ?_)
        clear hK K
        refine norm_ (a' := ?_) ?_ ?_
        rotate_left
        · show Act.put _ (some 63) _ = _
          simp only [Act.put, List.setIfInBounds_toArray, List.set_cons_zero, List.set_cons_succ, i64_w, i32_w]
          rfl
        refine pure_ (i := 14) (N := some 11) (v := ?_) (a' := ?_) #[true, true, true, true, true, true, true, true, true, true, true, true, true, true, true] rfl rfl (any_of HT_.out (by kernel_rfl)) (fun _ _ _ h => h) (Or.inl ⟨by rfl, ?_⟩) ?_ ?_
        rotate_left
        · intro w'
          go_simp
          with_reducible rfl
        rotate_left
        · simp only [Act.put, List.setIfInBounds_toArray, List.set_cons_zero, List.set_cons_succ, i64_w, i32_w]
          rfl
        refine done_ (done_of HT_.out (by kernel_rfl)) ?_
        obtain ⟨Ao65, co65, eo65⟩ := Kd.R_slice HO140.out
        subst eo65
        obtain ⟨Ao66, co66, eo66⟩ := Kd.N_slice HO165.out
        subst eo66
        have hnb67 := NB113_112.out
        have hnc67 := NB112_113.out
        have hcz68_0 : w64.cell? ⟨g3, 0, none⟩ = some (.int .i64 0) := (blk_cell BK113.out 0).trans rfl
        have hcz68_1 : w64.cell? ⟨g3, 1, none⟩ = some (.int .i64 0) := (blk_cell BK113.out 1).trans rfl
        have hcz68_2 : w64.cell? ⟨g3, 2, none⟩ = some (.int .i64 0) := (blk_cell BK113.out 2).trans rfl
        have hcz68_3 : w64.cell? ⟨g3, 3, none⟩ = some (.string (⟨#[]⟩ : ByteArray)) := (blk_cell BK113.out 3).trans rfl
        have hcz68_4 : w64.cell? ⟨g3, 4, none⟩ = some (.slice none 0 0) := (blk_cell BK113.out 4).trans rfl
        have hcz68_5 : w64.cell? ⟨g3, 5, none⟩ = some (.slice none 0 0) := (blk_cell BK113.out 5).trans rfl
        have hfz68_0 := blk_frozen BK113.out 0
        have hfz68_1 := blk_frozen BK113.out 1
        have hfz68_2 := blk_frozen BK113.out 2
        have hfz68_3 := blk_frozen BK113.out 3
        have hfz68_4 := blk_frozen BK113.out 4
        have hfz68_5 := blk_frozen BK113.out 5
        try go_wp2
        refine bodyPost_ret (results_cell_row rfl _ _ g3 27 #[.int .i64 6, .int .i64 0, .int .i64 0, .string (⟨#[]⟩ : ByteArray), .slice Ao66 y163.length co66, .slice Ao65 y138.length co65] (0, 0) _ rfl (by (with_reducible repeat (first | refine blk_drewN ?_ _ | refine blk_drew ?_ | refine blk_alloc ?_ _)); refine blk_put (cs := #[.int .i64 6, .int .i64 0, .int .i64 0, .string (⟨#[]⟩ : ByteArray), .slice Ao66 y163.length co66, .slice none 0 0]) ?_ 5 _ rfl; (with_reducible repeat (first | refine blk_drewN ?_ _ | refine blk_drew ?_ | refine blk_alloc ?_ _)); refine blk_put (cs := #[.int .i64 6, .int .i64 0, .int .i64 0, .string (⟨#[]⟩ : ByteArray), .slice none 0 0, .slice none 0 0]) ?_ 4 _ rfl; (with_reducible repeat (first | refine blk_drewN ?_ _ | refine blk_drew ?_ | refine blk_alloc ?_ _)); refine blk_put (cs := #[.int .i64 6, .int .i64 0, .int .i64 0, .string (⟨#[]⟩ : ByteArray), .slice none 0 0, .slice none 0 0]) ?_ 3 _ rfl; (with_reducible repeat (first | refine blk_drewN ?_ _ | refine blk_drew ?_ | refine blk_alloc ?_ _)); refine blk_put (cs := #[.int .i64 6, .int .i64 0, .int .i64 0, .string (⟨#[]⟩ : ByteArray), .slice none 0 0, .slice none 0 0]) ?_ 2 _ rfl; (with_reducible repeat (first | refine blk_drewN ?_ _ | refine blk_drew ?_ | refine blk_alloc ?_ _)); refine blk_put (cs := #[.int .i64 6, .int .i64 0, .int .i64 0, .string (⟨#[]⟩ : ByteArray), .slice none 0 0, .slice none 0 0]) ?_ 1 _ rfl; (with_reducible repeat (first | refine blk_drewN ?_ _ | refine blk_drew ?_ | refine blk_alloc ?_ _)); refine blk_put (cs := #[.int .i64 0, .int .i64 0, .int .i64 0, .string (⟨#[]⟩ : ByteArray), .slice none 0 0, .slice none 0 0]) ?_ 0 _ rfl; (with_reducible repeat (first | refine blk_drewN ?_ _ | refine blk_drew ?_ | refine blk_alloc ?_ _)); exact BK113.out) Try.underlying27 rfl (by kernel_rfl)) rfl ?_
        exact ⟨_, _, by first | rfl | (simp [errW_none, errW_some] <;> rfl) | (simp only [← hji27]; first | rfl | (simp [errW_none, errW_some] <;> rfl)) | (simp [*, errW_none, errW_some] <;> rfl), Kd.N_V (by (with_reducible repeat (first | apply Kd.N_alloc | apply Kd.N_drewN | apply Kd.N_drew)); exact Kd.N_mono (Kd.N_far (p := ⟨g3, 5, none⟩) (Kd.N_far (p := ⟨g3, 4, none⟩) (Kd.N_far (p := ⟨g3, 3, none⟩) (Kd.N_far (p := ⟨g3, 2, none⟩) (Kd.N_far (p := ⟨g3, 1, none⟩) (Kd.N_far (p := ⟨g3, 0, none⟩) (Kd.N_mono HO165.out (fun q hk => (⟨hk, hk.2.2.2.2.2⟩ : _ ∧ q ≠ g3))) (fun _ hk => hk.2) (.int .i64 6)) (fun _ hk => hk.2) (.int .i64 0)) (fun _ hk => hk.2) (.int .i64 0)) (fun _ hk => hk.2) (.string (⟨#[]⟩ : ByteArray))) (fun _ hk => hk.2) (.slice Ao66 y163.length co66)) (fun _ hk => hk.2) (.slice Ao65 y138.length co65)) (fun _ hk => hk.1.1)), Kd.V_mono (Kd.R_V (by (with_reducible repeat (first | apply Kd.R_alloc | apply Kd.R_drewN | apply Kd.R_drew)); exact Kd.R_mono (Kd.R_far (p := ⟨g3, 5, none⟩) (Kd.R_far (p := ⟨g3, 4, none⟩) (Kd.R_far (p := ⟨g3, 3, none⟩) (Kd.R_far (p := ⟨g3, 2, none⟩) (Kd.R_far (p := ⟨g3, 1, none⟩) (Kd.R_far (p := ⟨g3, 0, none⟩) (Kd.R_types HO140.out BK113.out (by decide)) (fun _ hk => hk.2) (.int .i64 6)) (fun _ hk => hk.2) (.int .i64 0)) (fun _ hk => hk.2) (.int .i64 0)) (fun _ hk => hk.2) (.string (⟨#[]⟩ : ByteArray))) (fun _ hk => hk.2) (.slice Ao66 y163.length co66)) (fun _ hk => hk.2) (.slice Ao65 y138.length co65)) (fun _ hk => hk.1.1))) (fun q hk => by first | exact ⟨(.inr (hk.1)), hk.2⟩ | exact (.inr (hk))), by repeat (first | (with_reducible first | exact HB.out | apply below_alloc | apply pw_below_drewN | apply below_drew1 | refine below_set ?_ GE111.out | refine below_set ?_ GE112.out | refine below_set ?_ GE113.out) | exact HB.out)⟩
end Go.Proofs.Ytjkdheebgmnpmaa.X
