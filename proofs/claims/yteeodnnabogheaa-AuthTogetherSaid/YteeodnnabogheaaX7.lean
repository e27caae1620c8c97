-- Written for this claim by a program of the session, out of the translation's print. Lean checks it.
import Derived.Test.YteeodnnabogheaaX0
import Derived.Test.YteeodnnabogheaaX1
import Derived.Test.YteeodnnabogheaaX4
import Derived.Test.YteeodnnabogheaaX5
namespace Go.Proofs.Yteeodnnabogheaa.X
open Go.RowKit Go.Proofs.YteeodnnabogheaaY Go.Proofs.YteeodnnabogheaaW.PrintWords Go.Proofs.YteeodnnabogheaaW.PrintLast Go.Proofs.YteeodnnabogheaaW.PrintMore
attribute [local go_sem] max2_int min2_int max_two min_two max_three min_three max_four min_four   -- for this text's walks alone
set_option linter.unusedVariables false
set_option linter.unusedSimpArgs false

/-! ### keyholelaw02_AuthTogether: function 6 -/
mutual
def keyholelaw02_AuthTogether.j0 : Nat → List (Lat) → Int → Bool → Int → Int → Option (Bool)
  | 0, _, _, _, _, _ => none
  | k + 1, x5, x6, x36, x217000, x217001 => if x36 = true then (if x6 = 0 then ((keyholelaw02_lives.f k).bind fun t232 => (some t232)) else (none)) else (keyholelaw02_AuthTogether.l0 k x5 (([(⟨(⟨#[97]⟩ : ByteArray), (([x217000] : List Int))⟩ : S36), (⟨(⟨#[98]⟩ : ByteArray), (([x217001] : List Int))⟩ : S36), (⟨(⟨#[99]⟩ : ByteArray), (([mn x217000 x217001, mx x217000 x217001] : List Int))⟩ : S36), (⟨(⟨#[100]⟩ : ByteArray), ([] : List Int)⟩ : S36)] : List (S36))) 0 x217000 x217001)
def keyholelaw02_AuthTogether.l0 : Nat → List (Lat) → List (S36) → Int → Int → Int → Option (Bool)
  | 0, _, _, _, _, _ => none
  | k + 1, x5, x7, x8, x217000, x217001 => (level_Lattice_Size.f x5).bind fun t245 => (if x8 < t245 then ((auth_Over.f k x5 x7 (⟨#[97]⟩ : ByteArray) x8).bind fun t250 => ((auth_Over.f k x5 x7 (⟨#[98]⟩ : ByteArray) x8).bind fun t251 => ((auth_Over.f k x5 x7 (⟨#[99]⟩ : ByteArray) x8).bind fun t252 => (if t250 = true then (if (t252 != true) = true then (none) else ((level_Lattice_Leq.f x5 x8 x217000).bind fun t253 => (if (t250 != t253) = true then (none) else ((auth_Over.f k x5 x7 (⟨#[100]⟩ : ByteArray) x8).bind fun t254 => (if t254 = true then (none) else (keyholelaw02_AuthTogether.l0 k x5 x7 (wrap64 (x8 + 1)) x217000 x217001)))))) else (if (t252 != t251) = true then (none) else ((level_Lattice_Leq.f x5 x8 x217000).bind fun t255 => (if (t250 != t255) = true then (none) else ((auth_Over.f k x5 x7 (⟨#[100]⟩ : ByteArray) x8).bind fun t256 => (if t256 = true then (none) else (keyholelaw02_AuthTogether.l0 k x5 x7 (wrap64 (x8 + 1)) x217000 x217001)))))))))) else ((auth_Reach.f k x5 x7 (⟨#[100]⟩ : ByteArray)).bind fun t246 => (if (t246.length : Int) = 0 then ((keyholelaw02_lives.f k).bind fun t249 => (some t249)) else (none))))
end
def keyholelaw02_AuthTogether.f (k : Nat) (a0 : Int) (a1_0 : Int) (a1_1 : Int) : Option (Bool) := (keyholeref01_Sort.f a0).bind fun bt217 => ((level_New.f k bt217.1 bt217.2.1 bt217.2.2).bind fun bt226 => (if bt226.2 = 0 then (if 0 < (bt226.1.length : Int) then ((level_Lattice_Is.f bt226.1 a1_0).bind fun t230 => (if t230 = true then ((level_Lattice_Is.f bt226.1 a1_1).bind fun t231 => (keyholelaw02_AuthTogether.j0 k bt226.1 bt226.2 (!t231) a1_0 a1_1)) else (keyholelaw02_AuthTogether.j0 k bt226.1 bt226.2 true a1_0 a1_1))) else (none)) else (keyholelaw02_AuthTogether.j0 k bt226.1 bt226.2 true a1_0 a1_1)))
theorem keyholelaw02_AuthTogether.mono_l : ∀ k, (∀ y0 y1 y2 y3 y4, LeO (keyholelaw02_AuthTogether.j0 k y0 y1 y2 y3 y4) (keyholelaw02_AuthTogether.j0 (k + 1) y0 y1 y2 y3 y4)) ∧ (∀ y0 y1 y2 y3 y4, LeO (keyholelaw02_AuthTogether.l0 k y0 y1 y2 y3 y4) (keyholelaw02_AuthTogether.l0 (k + 1) y0 y1 y2 y3 y4))
  | 0 => ⟨fun _ _ _ _ _ r h => by simp [keyholelaw02_AuthTogether.j0] at h, fun _ _ _ _ _ r h => by simp [keyholelaw02_AuthTogether.l0] at h⟩
  | k + 1 => by
    obtain ⟨ih0, ih1⟩ := keyholelaw02_AuthTogether.mono_l k
    refine ⟨?_, ?_⟩
    · intro y0 y1 y2 y3 y4
      unfold keyholelaw02_AuthTogether.j0
      repeat' first
      | (with_reducible exact ih0 _ _ _ _ _)
      | (with_reducible exact ih1 _ _ _ _ _)
      | (with_reducible exact auth_Over.mono _ _ _ _ _)
      | (with_reducible exact auth_Reach.mono _ _ _ _)
      | (with_reducible exact keyholelaw02_lives.mono _)
      | (with_reducible exact level_New.mono _ _ _ _)
      | (with_reducible exact LeO.refl _)
      | (with_reducible exact LeO.none _)
      | (with_reducible refine LeO.ite ?_ ?_)
      | (with_reducible refine LeO.bind ?_ (fun _ => ?_))
      | exact ih0 _ _ _ _ _
      | exact ih1 _ _ _ _ _
      | exact auth_Over.mono _ _ _ _ _
      | exact auth_Reach.mono _ _ _ _
      | exact keyholelaw02_lives.mono _
      | exact level_New.mono _ _ _ _
      | exact LeO.none _
      | refine LeO.ite ?_ ?_
      | refine LeO.bind ?_ (fun _ => ?_)
    · intro y0 y1 y2 y3 y4
      unfold keyholelaw02_AuthTogether.l0
      repeat' first
      | (with_reducible exact ih0 _ _ _ _ _)
      | (with_reducible exact ih1 _ _ _ _ _)
      | (with_reducible exact auth_Over.mono _ _ _ _ _)
      | (with_reducible exact auth_Reach.mono _ _ _ _)
      | (with_reducible exact keyholelaw02_lives.mono _)
      | (with_reducible exact level_New.mono _ _ _ _)
      | (with_reducible exact LeO.refl _)
      | (with_reducible exact LeO.none _)
      | (with_reducible refine LeO.ite ?_ ?_)
      | (with_reducible refine LeO.bind ?_ (fun _ => ?_))
      | exact ih0 _ _ _ _ _
      | exact ih1 _ _ _ _ _
      | exact auth_Over.mono _ _ _ _ _
      | exact auth_Reach.mono _ _ _ _
      | exact keyholelaw02_lives.mono _
      | exact level_New.mono _ _ _ _
      | exact LeO.none _
      | refine LeO.ite ?_ ?_
      | refine LeO.bind ?_ (fun _ => ?_)
theorem keyholelaw02_AuthTogether.mono : ∀ a0 a1 a2 k, LeO (keyholelaw02_AuthTogether.f k a0 a1 a2) (keyholelaw02_AuthTogether.f (k + 1) a0 a1 a2) := by
  intro a0 a1 a2 k
  obtain ⟨ih0, ih1⟩ := keyholelaw02_AuthTogether.mono_l k
  unfold keyholelaw02_AuthTogether.f
  repeat' first
      | (with_reducible exact ih0 _ _ _ _ _)
      | (with_reducible exact ih1 _ _ _ _ _)
      | (with_reducible exact auth_Over.mono _ _ _ _ _)
      | (with_reducible exact auth_Reach.mono _ _ _ _)
      | (with_reducible exact keyholelaw02_lives.mono _)
      | (with_reducible exact level_New.mono _ _ _ _)
      | (with_reducible exact LeO.refl _)
      | (with_reducible exact LeO.none _)
      | (with_reducible refine LeO.ite ?_ ?_)
      | (with_reducible refine LeO.bind ?_ (fun _ => ?_))
      | exact ih0 _ _ _ _ _
      | exact ih1 _ _ _ _ _
      | exact auth_Over.mono _ _ _ _ _
      | exact auth_Reach.mono _ _ _ _
      | exact keyholelaw02_lives.mono _
      | exact level_New.mono _ _ _ _
      | exact LeO.none _
      | refine LeO.ite ?_ ?_
      | refine LeO.bind ?_ (fun _ => ?_)
set_option maxHeartbeats 8000000 in
set_option maxRecDepth 100000 in
theorem keyholelaw02_AuthTogether.calls (k : Nat) (a0 : Int) (a1_0 : Int) (a1_1 : Int) (r : Bool) (w : World) (h : keyholelaw02_AuthTogether.f k a0 a1_0 a1_1 = some r) :
    Calls Try.prog 6 #[.int .i64 a0, .agg #[.int .i64 a1_0, .int .i64 a1_1]] w fun e w' => e = .returned (.bool r) ∧ Below w.heap.size w w' := by
  have hu52 := Try.underlying52
  have hu36 := Try.underlying36
  have hu30 := Try.underlying30
  have HB := Aside0.mk (Below.refl w.heap.size w)
  have H : ((keyholeref01_Sort.f a0).bind fun bt217 => ((level_New.f k bt217.1 bt217.2.1 bt217.2.2).bind fun bt226 => (if bt226.2 = 0 then (if 0 < (bt226.1.length : Int) then ((level_Lattice_Is.f bt226.1 a1_0).bind fun t230 => (if t230 = true then ((level_Lattice_Is.f bt226.1 a1_1).bind fun t231 => (keyholelaw02_AuthTogether.j0 k bt226.1 bt226.2 (!t231) a1_0 a1_1)) else (keyholelaw02_AuthTogether.j0 k bt226.1 bt226.2 true a1_0 a1_1))) else (none)) else (keyholelaw02_AuthTogether.j0 k bt226.1 bt226.2 true a1_0 a1_1)))) = some r := h
  clear h
  replace H := Option.bind_eq_some_iff.mp H
  obtain ⟨⟨t217, t220, t223⟩, A30, H⟩ := H
  replace H : ((level_New.f k t217 t220 t223).bind fun bt226 => (if bt226.2 = 0 then (if 0 < (bt226.1.length : Int) then ((level_Lattice_Is.f bt226.1 a1_0).bind fun t230 => (if t230 = true then ((level_Lattice_Is.f bt226.1 a1_1).bind fun t231 => (keyholelaw02_AuthTogether.j0 k bt226.1 bt226.2 (!t231) a1_0 a1_1)) else (keyholelaw02_AuthTogether.j0 k bt226.1 bt226.2 true a1_0 a1_1))) else (none)) else (keyholelaw02_AuthTogether.j0 k bt226.1 bt226.2 true a1_0 a1_1))) = some r := H
  have A3 := Aside0.mk A30
  clear A30
  replace H := Option.bind_eq_some_iff.mp H
  obtain ⟨⟨t226, t229⟩, A40, H⟩ := H
  replace H : (if t229 = 0 then (if 0 < (t226.length : Int) then ((level_Lattice_Is.f t226 a1_0).bind fun t230 => (if t230 = true then ((level_Lattice_Is.f t226 a1_1).bind fun t231 => (keyholelaw02_AuthTogether.j0 k t226 t229 (!t231) a1_0 a1_1)) else (keyholelaw02_AuthTogether.j0 k t226 t229 true a1_0 a1_1))) else (none)) else (keyholelaw02_AuthTogether.j0 k t226 t229 true a1_0 a1_1)) = some r := H
  have A4 := Aside0.mk A40
  clear A40
  have HC5 := Aside0.mk H
  clear H
  go_enter Try.func6, Try.ntmps6
  go_upto_region 2 with (first | ((with_reducible refine gate_dst (N := 3) rfl ?_); refine box_event ?hg (N := 3) ?hd (cs := #[.int .i64 a1_0, .int .i64 a1_1]) (t := 52) ?hr ?_; (case hd => rfl); (case hg => rfl); (case hr => first | (go_simp; done) | (go_simp; rfl)); intro gb216 hg w6 hbox hb; have n0_ := Aside0.mk (below_step (by repeat (first | (with_reducible first | exact HB.out | apply below_alloc | apply pw_below_drewN | apply below_drew1) | exact HB.out)) hb); have n1_ := Aside0.mk (hbox); have n2_ := Aside0.mk ((by rw [hg]; exact (below_size (by repeat (first | (with_reducible first | exact HB.out | apply below_alloc | apply pw_below_drewN | apply below_drew1) | exact HB.out))) : w.heap.size ≤ gb216)); have n3_ := Aside0.mk ((by rw [hg]; exact (below_size (by repeat (first | (with_reducible first | exact HB.out | apply below_alloc | apply pw_below_drewN | apply below_drew1) | exact HB.out))) : w.heap.size ≤ gb216)); clear HB; have HB := n0_; have BK216 := n1_; have GW216 := n2_; have GE216 := n3_; clear n0_ n1_ n2_ n3_; clear hb hbox hg) | ((with_reducible refine gate_callee (f := 9) rfl ?_); refine goesL_ (some 13) rfl rfl Try.func9 (by kernel_rfl) rfl #[.int .i64 a0] rfl (by (try simp only [List.map_toArray, List.map_cons, List.map_nil]); first | done | rfl | (simp only [List.length_drop, List.length_take]; rfl)) ?_; (with_reducible refine (keyholeref01_Sort.calls a0 t217 t220 t223 _ A3.out).mono ?_); rintro e w7 ⟨v218, v221, v224, rfl, ho0, ho1, ho2, hb⟩; refine ⟨_, rfl, ?_⟩; have n0_ := Aside0.mk (Kd.R_lower ho0 (below_size (by repeat (first | (with_reducible first | exact HB.out | apply below_alloc | apply pw_below_drewN | apply below_drew1 | refine below_set ?_ GE216.out) | exact HB.out)))); have n1_ := Aside0.mk (Kd.R_lower (Kd.R_newB ho1 (g := gb216) (o := .cells #[.int .i64 a1_0, .int .i64 a1_1] 52 (0, 0)) (by (with_reducible repeat (first | refine blk_drewN ?_ _ | refine blk_drew ?_ | refine blk_alloc ?_ _)); exact BK216.out)) (below_size (by repeat (first | (with_reducible first | exact HB.out | apply below_alloc | apply pw_below_drewN | apply below_drew1 | refine below_set ?_ GE216.out) | exact HB.out)))); have n2_ := Aside0.mk (Kd.N_lower (Kd.N_mono (ok' := fun k_ => some k_ ≠ (v218 : Value).ownBlock ∧ some k_ ≠ (v221 : Value).ownBlock ∧ k_ ≠ gb216) (Kd.S_N (Kd.S_bound (Kd.S_apart' (Kd.S_apart' ho2 (Kd.R_typed ho0) (by decide)) (Kd.R_typed ho1) (by decide)))) (fun k_ hk_ => ⟨hk_.1.1.2, hk_.1.2, (Kd.freshB (g := gb216) (o := .cells #[.int .i64 a1_0, .int .i64 a1_1] 52 (0, 0)) (by (with_reducible repeat (first | refine blk_drewN ?_ _ | refine blk_drew ?_ | refine blk_alloc ?_ _)); exact BK216.out) k_ hk_.2.1)⟩)) (below_size (by repeat (first | (with_reducible first | exact HB.out | apply below_alloc | apply pw_below_drewN | apply below_drew1 | refine below_set ?_ GE216.out) | exact HB.out)))); have n3_ := Aside0.mk (blk_below (g := gb216) (o := .cells #[.int .i64 a1_0, .int .i64 a1_1] 52 (0, 0)) (by (with_reducible repeat (first | refine blk_drewN ?_ _ | refine blk_drew ?_ | refine blk_alloc ?_ _)); exact BK216.out) hb); have n4_ := Aside0.mk (below_step (by repeat (first | (with_reducible first | exact HB.out | apply below_alloc | apply pw_below_drewN | apply below_drew1 | refine below_set ?_ GE216.out) | exact HB.out)) hb); clear BK216; clear HB; have HO219 := n0_; have HO222 := n1_; have HO225 := n2_; have BK216 := n3_; have HB := n4_; clear n0_ n1_ n2_ n3_ n4_; (try clear hb); (try clear hb2); (try clear hk); (try clear hi); (try clear ho0); (try clear ho1); (try clear ho2); obtain ⟨Ao8, co8, eo8⟩ := Kd.R_slice HO219.out; subst eo8; obtain ⟨Ao9, co9, eo9⟩ := Kd.R_slice HO222.out; subst eo9; obtain ⟨Ao10, co10, eo10⟩ := Kd.N_slice HO225.out; subst eo10) | ((with_reducible refine gate_callee (f := 10) rfl ?_); refine goesL_ (some 14) rfl rfl Try.func10 (by kernel_rfl) rfl #[.agg #[.slice Ao8 t217.length co8, .slice Ao9 t220.length co9, .slice Ao10 t223.length co10]] rfl (by (try simp only [List.map_toArray, List.map_cons, List.map_nil]); first | done | rfl | (simp only [List.length_drop, List.length_take]; rfl)) ?_; (with_reducible refine (level_New.calls k _ _ t217 _ _ t220 _ _ t223 t226 t229 _ ?side1 ?side2 ?side3 ?side4 ?side5 ?side6 A4.out).mono ?_); (case side1 => repeat (first | exact (Kd.R_reads' HO219.out).2.2 | (with_reducible refine Kd.C_alloc ?_ _) | (with_reducible refine Kd.C_drewN ?_ _) | (with_reducible refine Kd.C_drew ?_))); (case side2 => exact (Kd.R_reads' HO219.out).2.1); (case side3 => repeat (first | exact (Kd.R_reads' HO222.out).2.2 | (with_reducible refine Kd.C_alloc ?_ _) | (with_reducible refine Kd.C_drewN ?_ _) | (with_reducible refine Kd.C_drew ?_))); (case side4 => exact (Kd.R_reads' HO222.out).2.1); (case side5 => repeat (first | exact (Kd.N_reads' HO225.out).2.2 | (with_reducible refine Kd.C_alloc ?_ _) | (with_reducible refine Kd.C_drewN ?_ _) | (with_reducible refine Kd.C_drew ?_))); (case side6 => exact (Kd.N_reads' HO225.out).2.1); rintro e w11 ⟨v227, rfl, ho0, hb⟩; refine ⟨_, rfl, ?_⟩; have n0_ := Aside0.mk (Kd.R_below (by (with_reducible repeat (first | apply Kd.R_alloc | apply Kd.R_drewN | apply Kd.R_drew)); exact HO219.out) hb); have n1_ := Aside0.mk (Kd.R_below (by (with_reducible repeat (first | apply Kd.R_alloc | apply Kd.R_drewN | apply Kd.R_drew)); exact HO222.out) hb); have n2_ := Aside0.mk (Kd.N_below (by (with_reducible repeat (first | apply Kd.N_alloc | apply Kd.N_drewN | apply Kd.N_drew)); exact HO225.out) hb); have n3_ := Aside0.mk (Kd.V_lower (Kd.V_mono (ok' := fun k_ => some k_ ≠ (.slice Ao8 t217.length co8 : Value).ownBlock ∧ some k_ ≠ (.slice Ao9 t220.length co9 : Value).ownBlock ∧ some k_ ≠ (.slice Ao10 t223.length co10 : Value).ownBlock ∧ k_ ≠ gb216) ho0 (fun k_ hk_ => ⟨(Kd.fresh' (Kd.R_lt (by (with_reducible repeat (first | apply Kd.R_alloc | apply Kd.R_drewN | apply Kd.R_drew)); exact HO219.out)) k_ hk_), (Kd.fresh' (Kd.R_lt (by (with_reducible repeat (first | apply Kd.R_alloc | apply Kd.R_drewN | apply Kd.R_drew)); exact HO222.out)) k_ hk_), (Kd.fresh' (Kd.N_lt (by (with_reducible repeat (first | apply Kd.N_alloc | apply Kd.N_drewN | apply Kd.N_drew)); exact HO225.out)) k_ hk_), (Kd.freshB (g := gb216) (o := .cells #[.int .i64 a1_0, .int .i64 a1_1] 52 (0, 0)) (by (with_reducible repeat (first | refine blk_drewN ?_ _ | refine blk_drew ?_ | refine blk_alloc ?_ _)); exact BK216.out) k_ hk_)⟩)) (below_size (by repeat (first | (with_reducible first | exact HB.out | apply below_alloc | apply pw_below_drewN | apply below_drew1 | refine below_set ?_ GE216.out) | exact HB.out)))); have n4_ := Aside0.mk (blk_below (g := gb216) (o := .cells #[.int .i64 a1_0, .int .i64 a1_1] 52 (0, 0)) (by (with_reducible repeat (first | refine blk_drewN ?_ _ | refine blk_drew ?_ | refine blk_alloc ?_ _)); exact BK216.out) hb); have n5_ := Aside0.mk (below_step (by repeat (first | (with_reducible first | exact HB.out | apply below_alloc | apply pw_below_drewN | apply below_drew1 | refine below_set ?_ GE216.out) | exact HB.out)) hb); clear HO219; clear HO222; clear HO225; clear BK216; clear HB; have HO219 := n0_; have HO222 := n1_; have HO225 := n2_; have HO228 := n3_; have BK216 := n4_; have HB := n5_; clear n0_ n1_ n2_ n3_ n4_ n5_; (try clear hb); (try clear hb2); (try clear hk); (try clear hi); (try clear ho0)))
  (try simp only [Act.put, List.setIfInBounds_toArray, List.set_cons_zero, List.set_cons_succ])
  go_cut [36] (fun v36 wc => ∃ (kq : Nat) (x36_4 : Bool), v36 = .bool x36_4 ∧ Aside0 (keyholelaw02_AuthTogether.j0 kq t226 t229 x36_4 a1_0 a1_1 = some r) ∧ Aside0 (kq ≤ k) ∧ Aside0 (Kd.V klat 64 wc w.heap.size (fun k_ => k_ ≠ gb216) v227 t226) ∧ Aside0 (wc.heap[gb216]? = some (.cells #[.int .i64 a1_0, .int .i64 a1_1] 52 (0, 0))) ∧ Aside0 (Below w.heap.size w wc))
  case first =>
    have H := HC5.out
    clear HC5
    by_cases c12 : t229 = 0
    case neg =>
      rw [if_neg c12] at H
      have c12b0 : (t229 == 0) = false := beq_eq_false_iff_ne.mpr c12
      have c12b1 : (t229 != 0) = true := bne_iff_ne.mpr c12
      (first | rw [c12b0] | (simp only [i64_w, i32_w]; rw [c12b0]) | skip)
      have H' := Aside0.mk H
      clear H
      go_wp2
      go_meet
      case rel => exact ⟨_, (true), (by first | rfl | (simp; done) | (simp [*]; done)), H', ⟨by first | omega | exact Nat.le_refl _⟩, ⟨by (with_reducible repeat (first | apply Kd.V_alloc | apply Kd.V_drewN | apply Kd.V_drew)); exact Kd.V_mono HO228.out (fun _ hk => hk.2.2.2)⟩, ⟨by (with_reducible repeat (first | refine blk_drewN ?_ _ | refine blk_drew ?_ | refine blk_alloc ?_ _)); exact BK216.out⟩, ⟨by repeat (first | (with_reducible first | exact HB.out | apply below_alloc | apply pw_below_drewN | apply below_drew1 | refine below_set ?_ GE216.out) | exact HB.out)⟩⟩
    rw [if_pos c12] at H
    have c12b0 : (t229 == 0) = true := beq_iff_eq.mpr c12
    have c12b1 : (t229 != 0) = false := bne_eq_false_iff_eq.mpr c12
    clear c12
    (first | rw [c12b0] | (simp only [i64_w, i32_w]; rw [c12b0]) | skip)
    by_cases c13 : 0 < (t226.length : Int)
    case neg =>
      rw [if_neg c13] at H
      exact absurd H (by simp)
    rw [if_pos c13] at H
    have c13b0 := eq_true c13
    have c13b1 : decide (0 < (t226.length : Int)) = true := decide_eq_true c13
    (try have c13b9 : (v227).isNone = false := by first | exact lat_some_V HO228.out c13 | exact lat_some_C HO228.out c13)
    clear c13
    replace H := Option.bind_eq_some_iff.mp H
    obtain ⟨t230, A140, H⟩ := H
    replace H : (if t230 = true then ((level_Lattice_Is.f t226 a1_1).bind fun t231 => (keyholelaw02_AuthTogether.j0 k t226 t229 (!t231) a1_0 a1_1)) else (keyholelaw02_AuthTogether.j0 k t226 t229 true a1_0 a1_1)) = some r := H
    have A14 := Aside0.mk A140
    clear A140
    by_cases c15 : t230 = true
    case neg =>
      replace c15 := Bool.eq_false_iff.mpr c15
      subst c15
      have H1 : (keyholelaw02_AuthTogether.j0 k t226 t229 true a1_0 a1_1) = some r := by rw [if_neg (show ¬ (false = true) by decide)] at H; exact H
      clear H
      have H := H1
      clear H1
      have H' := Aside0.mk H
      clear H
      obtain ⟨Ao19, co19, eo19⟩ := Kd.V_slice HO228.out
      subst eo19
      (try have hzo19 : (Ao19).isNone = false := lat_some_V HO228.out (of_eq_true (by assumption)))
      have hcz20_0 : w11.cell? ⟨gb216, 0, none⟩ = some (.int .i64 a1_0) := (blk_cell BK216.out 0).trans rfl
      have hcz20_1 : w11.cell? ⟨gb216, 1, none⟩ = some (.int .i64 a1_1) := (blk_cell BK216.out 1).trans rfl
      have hfz20_0 := blk_frozen BK216.out 0
      have hfz20_1 := blk_frozen BK216.out 1
      go_wp2_with (first | (go_at_call 20; (with_reducible refine (level_Lattice_Is.calls _ t226 a1_0 false _ ?side1 A14.out).mono ?_); (case side1 => repeat (first | exact (Kd.V_reads' HO228.out).2.2 | (with_reducible refine Kd.C_alloc ?_ _) | (with_reducible refine Kd.C_drewN ?_ _) | (with_reducible refine Kd.C_drew ?_))); rintro e w' ⟨rfl, ⟨nd, rfl⟩⟩))
      go_meet
      case rel => exact ⟨_, (true), (by first | rfl | (simp; done) | (simp [*]; done)), H', ⟨by first | omega | exact Nat.le_refl _⟩, ⟨by (with_reducible repeat (first | apply Kd.V_alloc | apply Kd.V_drewN | apply Kd.V_drew)); exact Kd.V_mono HO228.out (fun _ hk => hk.2.2.2)⟩, ⟨by (with_reducible repeat (first | refine blk_drewN ?_ _ | refine blk_drew ?_ | refine blk_alloc ?_ _)); exact BK216.out⟩, ⟨by repeat (first | (with_reducible first | exact HB.out | apply below_alloc | apply pw_below_drewN | apply below_drew1 | refine below_set ?_ GE216.out) | exact HB.out)⟩⟩
    subst c15
    have H1 : ((level_Lattice_Is.f t226 a1_1).bind fun t231 => (keyholelaw02_AuthTogether.j0 k t226 t229 (!t231) a1_0 a1_1)) = some r := by rw [if_pos rfl] at H; exact H
    clear H
    have H := H1
    clear H1
    replace H := Option.bind_eq_some_iff.mp H
    obtain ⟨t231, A160, H⟩ := H
    replace H : (keyholelaw02_AuthTogether.j0 k t226 t229 (!t231) a1_0 a1_1) = some r := H
    have A16 := Aside0.mk A160
    clear A160
    have H' := Aside0.mk H
    clear H
    obtain ⟨Ao17, co17, eo17⟩ := Kd.V_slice HO228.out
    subst eo17
    (try have hzo17 : (Ao17).isNone = false := lat_some_V HO228.out (of_eq_true (by assumption)))
    have hcz18_0 : w11.cell? ⟨gb216, 0, none⟩ = some (.int .i64 a1_0) := (blk_cell BK216.out 0).trans rfl
    have hcz18_1 : w11.cell? ⟨gb216, 1, none⟩ = some (.int .i64 a1_1) := (blk_cell BK216.out 1).trans rfl
    have hfz18_0 := blk_frozen BK216.out 0
    have hfz18_1 := blk_frozen BK216.out 1
    go_wp2_with (first | (go_at_call 20; (with_reducible refine (level_Lattice_Is.calls _ t226 a1_0 true _ ?side1 A14.out).mono ?_); (case side1 => repeat (first | exact (Kd.V_reads' HO228.out).2.2 | (with_reducible refine Kd.C_alloc ?_ _) | (with_reducible refine Kd.C_drewN ?_ _) | (with_reducible refine Kd.C_drew ?_))); rintro e w' ⟨rfl, ⟨nd, rfl⟩⟩) | (go_at_call 20; (with_reducible refine (level_Lattice_Is.calls _ t226 a1_1 t231 _ ?side1 A16.out).mono ?_); (case side1 => repeat (first | exact (Kd.V_reads' HO228.out).2.2 | (with_reducible refine Kd.C_alloc ?_ _) | (with_reducible refine Kd.C_drewN ?_ _) | (with_reducible refine Kd.C_drew ?_))); rintro e w' ⟨rfl, ⟨nd, rfl⟩⟩))
    go_meet
    case rel => exact ⟨_, (!t231), (by first | rfl | (simp; done) | (simp [*]; done)), H', ⟨by first | omega | exact Nat.le_refl _⟩, ⟨by (with_reducible repeat (first | apply Kd.V_alloc | apply Kd.V_drewN | apply Kd.V_drew)); exact Kd.V_mono HO228.out (fun _ hk => hk.2.2.2)⟩, ⟨by (with_reducible repeat (first | refine blk_drewN ?_ _ | refine blk_drew ?_ | refine blk_alloc ?_ _)); exact BK216.out⟩, ⟨by repeat (first | (with_reducible first | exact HB.out | apply below_alloc | apply pw_below_drewN | apply below_drew1 | refine below_set ?_ GE216.out) | exact HB.out)⟩⟩
  clear HC5
  try clear c1
  try clear p2
  try clear c6
  try clear c9
  try clear c10
  try clear c12
  try clear c12b0
  try clear c12b1
  try clear c13
  try clear c13b0
  try clear c13b1
  try clear c15
  try clear hcz18_0
  try clear hcz18_1
  try clear hcz20_0
  try clear hcz20_1
  try clear hfz18_0
  try clear hfz18_1
  try clear hfz20_0
  try clear hfz20_1
  obtain ⟨kq, x36_4, rfl, HA, HJ4, HO_5, BK216, HB⟩ := hcut
  rcases kq with _ | kj4
  · exact absurd HA.out (by simp [keyholelaw02_AuthTogether.j0])
  have H := HA.out
  clear HA
  simp only [keyholelaw02_AuthTogether.j0] at H
  by_cases c21 : x36_4 = true
  · subst c21
    have H1 : (if t229 = 0 then ((keyholelaw02_lives.f kj4).bind fun t232 => (some t232)) else (none)) = some r := by rw [if_pos rfl] at H; exact H
    clear H
    have H := H1
    clear H1
    by_cases c22 : t229 = 0
    case neg =>
      rw [if_neg c22] at H
      exact absurd H (by simp)
    rw [if_pos c22] at H
    have c22b0 : (t229 == 0) = true := beq_iff_eq.mpr c22
    have c22b1 : (t229 != 0) = false := bne_eq_false_iff_eq.mpr c22
    clear c22
    replace H := Option.bind_eq_some_iff.mp H
    obtain ⟨t232, A230, H⟩ := H
    replace H : (some t232) = some r := H
    have A23 := Aside0.mk A230
    clear A230
    obtain rfl := Option.some.inj H
    go_wp2_with (first | (go_at_call 8; (with_reducible refine (keyholelaw02_lives.calls kj4  t232 _ A23.out).mono ?_); rintro e w24 ⟨rfl, hb⟩; have n0_ := Aside0.mk (Kd.V_below (by (with_reducible repeat (first | apply Kd.V_alloc | apply Kd.V_drewN | apply Kd.V_drew)); exact HO_5.out) hb); have n1_ := Aside0.mk (blk_below (g := gb216) (o := .cells #[.int .i64 a1_0, .int .i64 a1_1] 52 (0, 0)) (by (with_reducible repeat (first | refine blk_drewN ?_ _ | refine blk_drew ?_ | refine blk_alloc ?_ _)); exact BK216.out) hb); have n2_ := Aside0.mk (below_step (by repeat (first | (with_reducible first | exact HB.out | apply below_alloc | apply pw_below_drewN | apply below_drew1 | refine below_set ?_ GE216.out) | exact HB.out)) hb); clear HO_5; clear BK216; clear HB; have HO_5 := n0_; have BK216 := n1_; have HB := n2_; clear n0_ n1_ n2_; (try clear hb); (try clear hb2); (try clear hk); (try clear hi)))
    go_ret
    exact ⟨by first | rfl | (simp [errW_none, errW_some] <;> rfl) | (simp [*, errW_none, errW_some] <;> rfl), by repeat (first | (with_reducible first | exact HB.out | apply below_alloc | apply pw_below_drewN | apply below_drew1 | refine below_set ?_ GE216.out) | exact HB.out)⟩
  replace c21 := Bool.eq_false_iff.mpr c21
  subst c21
  have H1 : (keyholelaw02_AuthTogether.l0 kj4 t226 (([(⟨(⟨#[97]⟩ : ByteArray), (([a1_0] : List Int))⟩ : S36), (⟨(⟨#[98]⟩ : ByteArray), (([a1_1] : List Int))⟩ : S36), (⟨(⟨#[99]⟩ : ByteArray), (([mn a1_0 a1_1, mx a1_0 a1_1] : List Int))⟩ : S36), (⟨(⟨#[100]⟩ : ByteArray), ([] : List Int)⟩ : S36)] : List (S36))) 0 a1_0 a1_1) = some r := by rw [if_neg (show ¬ (false = true) by decide)] at H; exact H
  clear H
  have H := H1
  clear H1
  obtain ⟨y233, hy233⟩ : ∃ y_ : List Int, y_ = (([a1_0] : List Int)) := ⟨_, rfl⟩
  replace H : (keyholelaw02_AuthTogether.l0 kj4 t226 (([(⟨(⟨#[97]⟩ : ByteArray), y233⟩ : S36), (⟨(⟨#[98]⟩ : ByteArray), (([a1_1] : List Int))⟩ : S36), (⟨(⟨#[99]⟩ : ByteArray), (([mn a1_0 a1_1, mx a1_0 a1_1] : List Int))⟩ : S36), (⟨(⟨#[100]⟩ : ByteArray), ([] : List Int)⟩ : S36)] : List (S36))) 0 a1_0 a1_1) = some r := by first | (rw [hy233]; with_reducible exact H) | (have H2_ := (Option.bind_some _ _).symm.trans H; rw [hy233]; with_reducible exact H2_) | (have H2_ := (Option.bind_some _ _).symm.trans H; with_reducible exact H2_) | with_reducible exact H | (rw [hy233]; exact H) | exact H
  have Ny233 := Aside0.mk hy233
  clear hy233
  obtain ⟨y236, hy236⟩ : ∃ y_ : List Int, y_ = (([a1_1] : List Int)) := ⟨_, rfl⟩
  replace H : (keyholelaw02_AuthTogether.l0 kj4 t226 (([(⟨(⟨#[97]⟩ : ByteArray), y233⟩ : S36), (⟨(⟨#[98]⟩ : ByteArray), y236⟩ : S36), (⟨(⟨#[99]⟩ : ByteArray), (([mn a1_0 a1_1, mx a1_0 a1_1] : List Int))⟩ : S36), (⟨(⟨#[100]⟩ : ByteArray), ([] : List Int)⟩ : S36)] : List (S36))) 0 a1_0 a1_1) = some r := by first | (rw [hy236]; with_reducible exact H) | (have H2_ := (Option.bind_some _ _).symm.trans H; rw [hy236]; with_reducible exact H2_) | (have H2_ := (Option.bind_some _ _).symm.trans H; with_reducible exact H2_) | with_reducible exact H | (rw [hy236]; exact H) | exact H
  have Ny236 := Aside0.mk hy236
  clear hy236
  obtain ⟨ji25, hji25⟩ : ∃ j_ : Int, (mn a1_0 a1_1) = j_ := ⟨_, rfl⟩
  replace H : (keyholelaw02_AuthTogether.l0 kj4 t226 (([(⟨(⟨#[97]⟩ : ByteArray), y233⟩ : S36), (⟨(⟨#[98]⟩ : ByteArray), y236⟩ : S36), (⟨(⟨#[99]⟩ : ByteArray), (([ji25, mx a1_0 a1_1] : List Int))⟩ : S36), (⟨(⟨#[100]⟩ : ByteArray), ([] : List Int)⟩ : S36)] : List (S36))) 0 a1_0 a1_1) = some r := by first | (rw [hji25] at H; exact H) | (simp only [hji25] at H ⊢; exact H)
  have hji25_ : (if a1_1 < a1_0 then a1_1 else a1_0) = ji25 := hji25
  obtain ⟨ji26, hji26⟩ : ∃ j_ : Int, (mx a1_0 a1_1) = j_ := ⟨_, rfl⟩
  replace H : (keyholelaw02_AuthTogether.l0 kj4 t226 (([(⟨(⟨#[97]⟩ : ByteArray), y233⟩ : S36), (⟨(⟨#[98]⟩ : ByteArray), y236⟩ : S36), (⟨(⟨#[99]⟩ : ByteArray), (([ji25, ji26] : List Int))⟩ : S36), (⟨(⟨#[100]⟩ : ByteArray), ([] : List Int)⟩ : S36)] : List (S36))) 0 a1_0 a1_1) = some r := by first | (rw [hji26] at H; exact H) | (simp only [hji26] at H ⊢; exact H)
  have hji26_ : (if a1_0 < a1_1 then a1_1 else a1_0) = ji26 := hji26
  obtain ⟨y239, hy239⟩ : ∃ y_ : List Int, y_ = (([ji25, ji26] : List Int)) := ⟨_, rfl⟩
  replace H : (keyholelaw02_AuthTogether.l0 kj4 t226 (([(⟨(⟨#[97]⟩ : ByteArray), y233⟩ : S36), (⟨(⟨#[98]⟩ : ByteArray), y236⟩ : S36), (⟨(⟨#[99]⟩ : ByteArray), y239⟩ : S36), (⟨(⟨#[100]⟩ : ByteArray), ([] : List Int)⟩ : S36)] : List (S36))) 0 a1_0 a1_1) = some r := by first | (rw [hy239]; with_reducible exact H) | (have H2_ := (Option.bind_some _ _).symm.trans H; rw [hy239]; with_reducible exact H2_) | (have H2_ := (Option.bind_some _ _).symm.trans H; with_reducible exact H2_) | with_reducible exact H | (rw [hy239]; exact H) | exact H
  have Ny239 := Aside0.mk hy239
  clear hy239
  obtain ⟨y242, hy242⟩ : ∃ y_ : List (S36), y_ = (([(⟨(⟨#[97]⟩ : ByteArray), y233⟩ : S36), (⟨(⟨#[98]⟩ : ByteArray), y236⟩ : S36), (⟨(⟨#[99]⟩ : ByteArray), y239⟩ : S36), (⟨(⟨#[100]⟩ : ByteArray), ([] : List Int)⟩ : S36)] : List (S36))) := ⟨_, rfl⟩
  replace H : (keyholelaw02_AuthTogether.l0 kj4 t226 y242 0 a1_0 a1_1) = some r := by first | (rw [hy242]; with_reducible exact H) | (have H2_ := (Option.bind_some _ _).symm.trans H; rw [hy242]; with_reducible exact H2_) | (have H2_ := (Option.bind_some _ _).symm.trans H; with_reducible exact H2_) | with_reducible exact H | (rw [hy242]; exact H) | exact H
  have Ny242 := Aside0.mk hy242
  clear hy242
  have H' := Aside0.mk H
  clear H
  have hcz27_0 : wc.cell? ⟨gb216, 0, none⟩ = some (.int .i64 a1_0) := (blk_cell BK216.out 0).trans rfl
  have hcz27_1 : wc.cell? ⟨gb216, 1, none⟩ = some (.int .i64 a1_1) := (blk_cell BK216.out 1).trans rfl
  have hfz27_0 := blk_frozen BK216.out 0
  have hfz27_1 := blk_frozen BK216.out 1
  go_wp2_with (first | ((with_reducible refine gate_dst (N := 44) rfl ?_); refine Kd.R_lit (Kd.int .i64) _ 3 ?hg (N := 44) ?hd (xs := ([a1_0] : List Int)) (inner := [.int .i64 a1_0]) (ok := fun _ => True) (okp := fun _ => True) ?hr ?hp (fun _ hk => hk) trivial (Below.refl _ _) (Nat.le_refl _) (by simp) ?_; (case hd => rfl); (case hg => rfl); (case hr => first | (go_simp; done) | (go_simp; rfl)); (case hp => exact (Reps.one (show Kd.M (Kd.int .i64) _ _ _ a1_0 [.int .i64 a1_0] from rfl) (Reps.none _ _))); intro v234 w28 ho29 hb hg_ hnew_; clear hg_ hnew_; (first | rw [← Ny233.out] at ho29 | (simp only [Int.reduceToNat] at ho29; rw [← Ny233.out] at ho29)); have n0_ := Aside0.mk (Kd.V_elder' (by (with_reducible repeat (first | apply Kd.V_alloc | apply Kd.V_drewN | apply Kd.V_drew)); exact HO_5.out) (Kd.R_base ho29) hb); have n1_ := Aside0.mk (Kd.R_lower ho29 (below_size (by repeat (first | (with_reducible first | exact HB.out | apply below_alloc | apply pw_below_drewN | apply below_drew1 | refine below_set ?_ GE216.out) | exact HB.out)))); have n2_ := Aside0.mk (blk_below (g := gb216) (o := .cells #[.int .i64 a1_0, .int .i64 a1_1] 52 (0, 0)) (by (with_reducible repeat (first | refine blk_drewN ?_ _ | refine blk_drew ?_ | refine blk_alloc ?_ _)); exact BK216.out) hb); have n3_ := Aside0.mk (below_step (by repeat (first | (with_reducible first | exact HB.out | apply below_alloc | apply pw_below_drewN | apply below_drew1 | refine below_set ?_ GE216.out) | exact HB.out)) hb); clear HO_5; clear BK216; clear HB; have HO_5 := n0_; have HO235 := n1_; have BK216 := n2_; have HB := n3_; clear n0_ n1_ n2_ n3_; clear hb ho29; obtain ⟨Ao30, co30, eo30⟩ := Kd.R_slice HO235.out; subst eo30; have hcz31_0 : w28.cell? ⟨gb216, 0, none⟩ = some (.int .i64 a1_0) := (blk_cell BK216.out 0).trans rfl; have hcz31_1 : w28.cell? ⟨gb216, 1, none⟩ = some (.int .i64 a1_1) := (blk_cell BK216.out 1).trans rfl; have hfz31_0 := blk_frozen BK216.out 0; have hfz31_1 := blk_frozen BK216.out 1) | ((with_reducible refine gate_dst (N := 48) rfl ?_); refine Kd.R_lit (Kd.int .i64) _ 3 ?hg (N := 48) ?hd (xs := ([a1_1] : List Int)) (inner := [.int .i64 a1_1]) (ok := fun _ => True) (okp := fun _ => True) ?hr ?hp (fun _ hk => hk) trivial (Below.refl _ _) (Nat.le_refl _) (by simp) ?_; (case hd => rfl); (case hg => rfl); (case hr => first | (go_simp; done) | (go_simp; rfl)); (case hp => exact (Reps.one (show Kd.M (Kd.int .i64) _ _ _ a1_1 [.int .i64 a1_1] from rfl) (Reps.none _ _))); intro v237 w32 ho33 hb hg_ hnew_; clear hg_ hnew_; (first | rw [← Ny236.out] at ho33 | (simp only [Int.reduceToNat] at ho33; rw [← Ny236.out] at ho33)); have n0_ := Aside0.mk (Kd.V_elder' (by (with_reducible repeat (first | apply Kd.V_alloc | apply Kd.V_drewN | apply Kd.V_drew)); exact HO_5.out) (Kd.R_base ho33) hb); have n1_ := Aside0.mk (Kd.R_elder' (by (with_reducible repeat (first | apply Kd.R_alloc | apply Kd.R_drewN | apply Kd.R_drew)); exact HO235.out) (Kd.R_base ho33) hb); have n2_ := Aside0.mk (Kd.R_lower (Kd.R_new' ho33 (Kd.R_lt (by (with_reducible repeat (first | apply Kd.R_alloc | apply Kd.R_drewN | apply Kd.R_drew)); exact HO235.out))) (below_size (by repeat (first | (with_reducible first | exact HB.out | apply below_alloc | apply pw_below_drewN | apply below_drew1 | refine below_set ?_ GE216.out) | exact HB.out)))); have n3_ := Aside0.mk (blk_below (g := gb216) (o := .cells #[.int .i64 a1_0, .int .i64 a1_1] 52 (0, 0)) (by (with_reducible repeat (first | refine blk_drewN ?_ _ | refine blk_drew ?_ | refine blk_alloc ?_ _)); exact BK216.out) hb); have n4_ := Aside0.mk (below_step (by repeat (first | (with_reducible first | exact HB.out | apply below_alloc | apply pw_below_drewN | apply below_drew1 | refine below_set ?_ GE216.out) | exact HB.out)) hb); clear HO_5; clear HO235; clear BK216; clear HB; have HO_5 := n0_; have HO235 := n1_; have HO238 := n2_; have BK216 := n3_; have HB := n4_; clear n0_ n1_ n2_ n3_ n4_; clear hb ho33; obtain ⟨Ao34, co34, eo34⟩ := Kd.R_slice HO238.out; subst eo34; have hcz35_0 : w32.cell? ⟨gb216, 0, none⟩ = some (.int .i64 a1_0) := (blk_cell BK216.out 0).trans rfl; have hcz35_1 : w32.cell? ⟨gb216, 1, none⟩ = some (.int .i64 a1_1) := (blk_cell BK216.out 1).trans rfl; have hfz35_0 := blk_frozen BK216.out 0; have hfz35_1 := blk_frozen BK216.out 1) | ((with_reducible refine gate_dst (N := 60) rfl ?_); refine Kd.R_lit (Kd.int .i64) _ 3 ?hg (N := 60) ?hd (xs := ([ji25, ji26] : List Int)) (inner := [.int .i64 ji25, .int .i64 ji26]) (ok := fun _ => True) (okp := fun _ => True) ?hr ?hp (fun _ hk => hk) trivial (Below.refl _ _) (Nat.le_refl _) (by simp) ?_; (case hd => rfl); (case hg => rfl); (case hr => first | (go_simp; done) | (go_simp; rfl)); (case hp => exact (Reps.one (show Kd.M (Kd.int .i64) _ _ _ ji25 [.int .i64 ji25] from rfl) (Reps.one (show Kd.M (Kd.int .i64) _ _ _ ji26 [.int .i64 ji26] from rfl) (Reps.none _ _)))); intro v240 w36 ho37 hb hg_ hnew_; clear hg_ hnew_; (first | rw [← Ny239.out] at ho37 | (simp only [Int.reduceToNat] at ho37; rw [← Ny239.out] at ho37)); have n0_ := Aside0.mk (Kd.V_elder' (by (with_reducible repeat (first | apply Kd.V_alloc | apply Kd.V_drewN | apply Kd.V_drew)); exact HO_5.out) (Kd.R_base ho37) hb); have n1_ := Aside0.mk (Kd.R_elder' (by (with_reducible repeat (first | apply Kd.R_alloc | apply Kd.R_drewN | apply Kd.R_drew)); exact HO235.out) (Kd.R_base ho37) hb); have n2_ := Aside0.mk (Kd.R_elder' (by (with_reducible repeat (first | apply Kd.R_alloc | apply Kd.R_drewN | apply Kd.R_drew)); exact HO238.out) (Kd.R_base ho37) hb); have n3_ := Aside0.mk (Kd.R_lower (Kd.R_new' (Kd.R_new' ho37 (Kd.R_lt (by (with_reducible repeat (first | apply Kd.R_alloc | apply Kd.R_drewN | apply Kd.R_drew)); exact HO235.out))) (Kd.R_lt (by (with_reducible repeat (first | apply Kd.R_alloc | apply Kd.R_drewN | apply Kd.R_drew)); exact HO238.out))) (below_size (by repeat (first | (with_reducible first | exact HB.out | apply below_alloc | apply pw_below_drewN | apply below_drew1 | refine below_set ?_ GE216.out) | exact HB.out)))); have n4_ := Aside0.mk (blk_below (g := gb216) (o := .cells #[.int .i64 a1_0, .int .i64 a1_1] 52 (0, 0)) (by (with_reducible repeat (first | refine blk_drewN ?_ _ | refine blk_drew ?_ | refine blk_alloc ?_ _)); exact BK216.out) hb); have n5_ := Aside0.mk (below_step (by repeat (first | (with_reducible first | exact HB.out | apply below_alloc | apply pw_below_drewN | apply below_drew1 | refine below_set ?_ GE216.out) | exact HB.out)) hb); clear HO_5; clear HO235; clear HO238; clear BK216; clear HB; have HO_5 := n0_; have HO235 := n1_; have HO238 := n2_; have HO241 := n3_; have BK216 := n4_; have HB := n5_; clear n0_ n1_ n2_ n3_ n4_ n5_; clear hb ho37; obtain ⟨Ao38, co38, eo38⟩ := Kd.R_slice HO241.out; subst eo38) | ((with_reducible refine gate_dst (N := 63) rfl ?_); refine Kd.N_lit k36 _ 36 ?hg (N' := 63) ?hd (xs := ([(⟨(⟨#[97]⟩ : ByteArray), y233⟩ : S36), (⟨(⟨#[98]⟩ : ByteArray), y236⟩ : S36), (⟨(⟨#[99]⟩ : ByteArray), y239⟩ : S36), (⟨(⟨#[100]⟩ : ByteArray), ([] : List Int)⟩ : S36)] : List (S36))) (inner := [.string (⟨#[97]⟩ : ByteArray), .slice Ao30 y233.length co30, .string (⟨#[98]⟩ : ByteArray), .slice Ao34 y236.length co34, .string (⟨#[99]⟩ : ByteArray), .slice Ao38 y239.length co38, .string (⟨#[100]⟩ : ByteArray), .slice none 0 0]) (ok := (fun k_ => k_ ≠ gb216)) (okp := (fun k_ => k_ ≠ gb216)) ?hr ?hp (fun _ hk => hk) ((show ∀ k_, w36.heap.size ≤ k_ → (fun k_ => k_ ≠ gb216) k_ from fun k_ hk => Kd.freshB (g := gb216) (o := .cells #[.int .i64 a1_0, .int .i64 a1_1] 52 (0, 0)) (by (with_reducible repeat (first | refine blk_drewN ?_ _ | refine blk_drew ?_ | refine blk_alloc ?_ _)); exact BK216.out) k_ hk) _ (Nat.le_refl _)) (Below.refl _ _) (Nat.le_refl _) (by simp) ?_; (case hd => rfl); (case hg => rfl); (case hr => first | (go_simp; done) | (go_simp; rfl)); (case hp => exact (Reps.c2 (show Kd.FK k36 _ _ (⟨(⟨#[97]⟩ : ByteArray), y233⟩ : S36) [.string (⟨#[97]⟩ : ByteArray), .slice Ao30 y233.length co30] from (k36_mkF _ _ (⟨(⟨#[97]⟩ : ByteArray), y233⟩ : S36) (Kd.R_reads' (Kd.R_mono (ok' := (fun k_ => k_ ≠ gb216)) (Kd.R_types (HO235.out) BK216.out (by decide)) (fun k_ hk => hk.2))).2.1 (Kd.R_F (Kd.R_mono (ok' := (fun k_ => k_ ≠ gb216)) (Kd.R_types (HO235.out) BK216.out (by decide)) (fun k_ hk => hk.2))))) (Reps.c2 (show Kd.FK k36 _ _ (⟨(⟨#[98]⟩ : ByteArray), y236⟩ : S36) [.string (⟨#[98]⟩ : ByteArray), .slice Ao34 y236.length co34] from (k36_mkF _ _ (⟨(⟨#[98]⟩ : ByteArray), y236⟩ : S36) (Kd.R_reads' (Kd.R_mono (ok' := (fun k_ => k_ ≠ gb216)) (Kd.R_types (HO238.out) BK216.out (by decide)) (fun k_ hk => hk.2))).2.1 (Kd.R_F (Kd.R_mono (ok' := (fun k_ => k_ ≠ gb216)) (Kd.R_types (HO238.out) BK216.out (by decide)) (fun k_ hk => hk.2))))) (Reps.c2 (show Kd.FK k36 _ _ (⟨(⟨#[99]⟩ : ByteArray), y239⟩ : S36) [.string (⟨#[99]⟩ : ByteArray), .slice Ao38 y239.length co38] from (k36_mkF _ _ (⟨(⟨#[99]⟩ : ByteArray), y239⟩ : S36) (Kd.R_reads' (Kd.R_mono (ok' := (fun k_ => k_ ≠ gb216)) (Kd.R_types (HO241.out) BK216.out (by decide)) (fun k_ hk => hk.2))).2.1 (Kd.R_F (Kd.R_mono (ok' := (fun k_ => k_ ≠ gb216)) (Kd.R_types (HO241.out) BK216.out (by decide)) (fun k_ hk => hk.2))))) (Reps.c2 (show Kd.FK k36 _ _ (⟨(⟨#[100]⟩ : ByteArray), ([] : List Int)⟩ : S36) [.string (⟨#[100]⟩ : ByteArray), .slice none 0 0] from (k36_mkF _ _ (⟨(⟨#[100]⟩ : ByteArray), ([] : List Int)⟩ : S36) (Nat.le_refl _) (Kd.F_nil _ _ _))) (Reps.none _ _)))))); intro v243 w39 ho40 hb hg_ hnew_; clear hg_ hnew_; (first | rw [← Ny242.out] at ho40 | (simp only [Int.reduceToNat] at ho40; rw [← Ny242.out] at ho40)); have n0_ := Aside0.mk (Kd.V_elder' (by (with_reducible repeat (first | apply Kd.V_alloc | apply Kd.V_drewN | apply Kd.V_drew)); exact HO_5.out) (Kd.N_base ho40) hb); have n1_ := Aside0.mk (Kd.N_lower ho40 (below_size (by repeat (first | (with_reducible first | exact HB.out | apply below_alloc | apply pw_below_drewN | apply below_drew1 | refine below_set ?_ GE216.out) | exact HB.out)))); have n2_ := Aside0.mk (blk_below (g := gb216) (o := .cells #[.int .i64 a1_0, .int .i64 a1_1] 52 (0, 0)) (by (with_reducible repeat (first | refine blk_drewN ?_ _ | refine blk_drew ?_ | refine blk_alloc ?_ _)); exact BK216.out) hb); have n3_ := Aside0.mk (below_step (by repeat (first | (with_reducible first | exact HB.out | apply below_alloc | apply pw_below_drewN | apply below_drew1 | refine below_set ?_ GE216.out) | exact HB.out)) hb); clear HO_5; clear BK216; clear HB; clear HO235; clear HO238; clear HO241; have HO_5 := n0_; have HO244 := n1_; have BK216 := n2_; have HB := n3_; clear n0_ n1_ n2_ n3_; clear hb ho40))
  go_loopg [8] kj4 (fun kq v8 w' => ∃ (x8_2 : Int), v8 = .int .i64 x8_2 ∧ Aside0 (keyholelaw02_AuthTogether.l0 kq t226 y242 x8_2 a1_0 a1_1 = some r) ∧ Aside0 (kq ≤ kj4) ∧ Aside0 (Kd.V klat 64 w' w.heap.size (fun k_ => some k_ ≠ (v243 : Value).ownBlock ∧ k_ ≠ gb216) v227 t226) ∧ Aside0 (Kd.N k36 36 w' w.heap.size (fun k_ => k_ ≠ gb216) v243 y242) ∧ Aside0 (w'.heap[gb216]? = some (.cells #[.int .i64 a1_0, .int .i64 a1_1] 52 (0, 0))) ∧ Aside0 (Below w.heap.size w w'))
  case atStart => exact ⟨(0), (by first | rfl | (simp; done) | (simp [*]; done)), H', ⟨Nat.le_refl _⟩, ⟨by (with_reducible repeat (first | apply Kd.V_alloc | apply Kd.V_drewN | apply Kd.V_drew)); exact Kd.V_mono HO_5.out (fun _ hk => ⟨hk.2, hk.1.1.1.1⟩)⟩, ⟨by (with_reducible repeat (first | apply Kd.N_alloc | apply Kd.N_drewN | apply Kd.N_drew)); exact HO244.out⟩, ⟨by (with_reducible repeat (first | refine blk_drewN ?_ _ | refine blk_drew ?_ | refine blk_alloc ?_ _)); exact BK216.out⟩, ⟨by repeat (first | (with_reducible first | exact HB.out | apply below_alloc | apply pw_below_drewN | apply below_drew1 | refine below_set ?_ GE216.out) | exact HB.out)⟩⟩
  clear H'
  try clear c1
  try clear c2
  try clear p2
  try clear c6
  try clear c9
  try clear c10
  try clear c12
  try clear c12b0
  try clear c12b1
  try clear c13
  try clear c13b0
  try clear c13b1
  try clear c15
  try clear c21
  try clear c22
  try clear c22b0
  try clear c22b1
  try clear hcz18_0
  try clear hcz18_1
  try clear hcz20_0
  try clear hcz20_1
  try clear hcz27_0
  try clear hcz27_1
  try clear hcz31_0
  try clear hcz31_1
  try clear hcz35_0
  try clear hcz35_1
  try clear hfz18_0
  try clear hfz18_1
  try clear hfz20_0
  try clear hfz20_1
  try clear hfz27_0
  try clear hfz27_1
  try clear hfz31_0
  try clear hfz31_1
  try clear hfz35_0
  try clear hfz35_1
  try clear p2
  obtain ⟨x8_2, rfl, HA, HK2, HO_5, HO_7, BK216, HB⟩ := hrel
  rcases gk with _ | k2
  · exact absurd HA.out (by simp [keyholelaw02_AuthTogether.l0])
  have H := HA.out
  clear HA
  simp only [keyholelaw02_AuthTogether.l0] at H
  replace H := Option.bind_eq_some_iff.mp H
  obtain ⟨t245, A410, H⟩ := H
  replace H : (if x8_2 < t245 then ((auth_Over.f k2 t226 y242 (⟨#[97]⟩ : ByteArray) x8_2).bind fun t250 => ((auth_Over.f k2 t226 y242 (⟨#[98]⟩ : ByteArray) x8_2).bind fun t251 => ((auth_Over.f k2 t226 y242 (⟨#[99]⟩ : ByteArray) x8_2).bind fun t252 => (if t250 = true then (if (t252 != true) = true then (none) else ((level_Lattice_Leq.f t226 x8_2 a1_0).bind fun t253 => (if (t250 != t253) = true then (none) else ((auth_Over.f k2 t226 y242 (⟨#[100]⟩ : ByteArray) x8_2).bind fun t254 => (if t254 = true then (none) else (keyholelaw02_AuthTogether.l0 k2 t226 y242 (wrap64 (x8_2 + 1)) a1_0 a1_1)))))) else (if (t252 != t251) = true then (none) else ((level_Lattice_Leq.f t226 x8_2 a1_0).bind fun t255 => (if (t250 != t255) = true then (none) else ((auth_Over.f k2 t226 y242 (⟨#[100]⟩ : ByteArray) x8_2).bind fun t256 => (if t256 = true then (none) else (keyholelaw02_AuthTogether.l0 k2 t226 y242 (wrap64 (x8_2 + 1)) a1_0 a1_1)))))))))) else ((auth_Reach.f k2 t226 y242 (⟨#[100]⟩ : ByteArray)).bind fun t246 => (if (t246.length : Int) = 0 then ((keyholelaw02_lives.f k2).bind fun t249 => (some t249)) else (none)))) = some r := H
  have A41 := Aside0.mk A410
  clear A410
  by_cases c42 : x8_2 < t245
  case neg =>
    rw [if_neg c42] at H
    have c42b0 : decide (x8_2 < t245) = false := decide_eq_false c42
    clear c42
    replace H := Option.bind_eq_some_iff.mp H
    obtain ⟨t246, A710, H⟩ := H
    replace H : (if (t246.length : Int) = 0 then ((keyholelaw02_lives.f k2).bind fun t249 => (some t249)) else (none)) = some r := H
    have A71 := Aside0.mk A710
    clear A710
    by_cases c72 : (t246.length : Int) = 0
    case neg =>
      rw [if_neg c72] at H
      exact absurd H (by simp)

    rw [if_pos c72] at H
    have c72b0 : ((t246.length : Int) == 0) = true := beq_iff_eq.mpr c72
    have c72b1 : ((t246.length : Int) != 0) = false := bne_eq_false_iff_eq.mpr c72
    clear c72
    replace H := Option.bind_eq_some_iff.mp H
    obtain ⟨t249, A730, H⟩ := H
    replace H : (some t249) = some r := H
    have A73 := Aside0.mk A730
    clear A730
    obtain rfl := Option.some.inj H
    obtain ⟨Ao74, co74, eo74⟩ := Kd.V_slice HO_5.out
    subst eo74
    (try have hzo74 : (Ao74).isNone = false := lat_some_V HO_5.out (of_eq_true (by assumption)))
    go_wp2_with (first | ((with_reducible refine gate_callee (f := 18) rfl ?_); refine goesL_ (some 66) rfl rfl Try.func18 (by kernel_rfl) rfl #[.pointer Ao74] rfl (by (try simp only [List.map_toArray, List.map_cons, List.map_nil]); first | done | rfl | (simp only [List.length_drop, List.length_take]; rfl)) ?_; (with_reducible refine (level_Lattice_Size.calls _ t226 t245 _ ?side1 A41.out).mono ?_); (case side1 => repeat (first | exact (Kd.V_reads' HO_5.out).2.2 | (with_reducible refine Kd.C_alloc ?_ _) | (with_reducible refine Kd.C_drewN ?_ _) | (with_reducible refine Kd.C_drew ?_))); rintro e w' ⟨rfl, ⟨nd, rfl⟩⟩; refine ⟨_, rfl, ?_⟩; obtain ⟨Ao75, co75, eo75⟩ := Kd.N_slice HO_7.out; subst eo75) | ((with_reducible refine gate_callee (f := 16) rfl ?_); refine goesL_ (some 104) rfl rfl Try.func16 (by kernel_rfl) rfl #[.pointer Ao74, .slice Ao75 y242.length co75, .string (⟨#[100]⟩ : ByteArray)] rfl (by (try simp only [List.map_toArray, List.map_cons, List.map_nil]); first | done | rfl | (simp only [List.length_drop, List.length_take]; rfl)) ?_; (with_reducible refine (auth_Reach.calls k2 _ t226 _ _ y242 (⟨#[100]⟩ : ByteArray) t246 _ ?side1 ?side2 ?side3 A71.out).mono ?_); (case side1 => repeat (first | exact (Kd.V_reads' HO_5.out).2.2 | (with_reducible refine Kd.C_alloc ?_ _) | (with_reducible refine Kd.C_drewN ?_ _) | (with_reducible refine Kd.C_drew ?_))); (case side2 => repeat (first | exact (Kd.N_reads' HO_7.out).2.2 | (with_reducible refine Kd.C_alloc ?_ _) | (with_reducible refine Kd.C_drewN ?_ _) | (with_reducible refine Kd.C_drew ?_))); (case side3 => exact (Kd.N_reads' HO_7.out).2.1); rintro e w76 ⟨v247, rfl, ho0, hb⟩; refine ⟨_, rfl, ?_⟩; have n0_ := Aside0.mk (Kd.V_elder' (by (with_reducible repeat (first | apply Kd.V_alloc | apply Kd.V_drewN | apply Kd.V_drew)); exact HO_5.out) (Kd.R_base ho0) hb); have n1_ := Aside0.mk (Kd.N_elder' (by (with_reducible repeat (first | apply Kd.N_alloc | apply Kd.N_drewN | apply Kd.N_drew)); exact HO_7.out) (Kd.R_base ho0) hb); have n2_ := Aside0.mk (Kd.R_lower ho0 (below_size (by repeat (first | (with_reducible first | exact HB.out | apply below_alloc | apply pw_below_drewN | apply below_drew1 | refine below_set ?_ GE216.out) | exact HB.out)))); have n3_ := Aside0.mk (blk_below (g := gb216) (o := .cells #[.int .i64 a1_0, .int .i64 a1_1] 52 (0, 0)) (by (with_reducible repeat (first | refine blk_drewN ?_ _ | refine blk_drew ?_ | refine blk_alloc ?_ _)); exact BK216.out) hb); have n4_ := Aside0.mk (below_step (by repeat (first | (with_reducible first | exact HB.out | apply below_alloc | apply pw_below_drewN | apply below_drew1 | refine below_set ?_ GE216.out) | exact HB.out)) hb); clear HO_5; clear HO_7; clear BK216; clear HB; have HO_5 := n0_; have HO_7 := n1_; have HO248 := n2_; have BK216 := n3_; have HB := n4_; clear n0_ n1_ n2_ n3_ n4_; (try clear hb); (try clear hb2); (try clear hk); (try clear hi); (try clear ho0); obtain ⟨Ao77, co77, eo77⟩ := Kd.R_slice HO248.out; subst eo77) | (go_at_call 8; (with_reducible refine (keyholelaw02_lives.calls k2  t249 _ A73.out).mono ?_); rintro e w78 ⟨rfl, hb⟩; have n0_ := Aside0.mk (Kd.V_below (by (with_reducible repeat (first | apply Kd.V_alloc | apply Kd.V_drewN | apply Kd.V_drew)); exact HO_5.out) hb); have n1_ := Aside0.mk (Kd.N_below (by (with_reducible repeat (first | apply Kd.N_alloc | apply Kd.N_drewN | apply Kd.N_drew)); exact HO_7.out) hb); have n2_ := Aside0.mk (Kd.R_below (by (with_reducible repeat (first | apply Kd.R_alloc | apply Kd.R_drewN | apply Kd.R_drew)); exact HO248.out) hb); have n3_ := Aside0.mk (blk_below (g := gb216) (o := .cells #[.int .i64 a1_0, .int .i64 a1_1] 52 (0, 0)) (by (with_reducible repeat (first | refine blk_drewN ?_ _ | refine blk_drew ?_ | refine blk_alloc ?_ _)); exact BK216.out) hb); have n4_ := Aside0.mk (below_step (by repeat (first | (with_reducible first | exact HB.out | apply below_alloc | apply pw_below_drewN | apply below_drew1 | refine below_set ?_ GE216.out) | exact HB.out)) hb); clear HO_5; clear HO_7; clear HO248; clear BK216; clear HB; have HO_5 := n0_; have HO_7 := n1_; have HO248 := n2_; have BK216 := n3_; have HB := n4_; clear n0_ n1_ n2_ n3_ n4_; (try clear hb); (try clear hb2); (try clear hk); (try clear hi)))
    go_ret
    exact ⟨by first | rfl | (simp [errW_none, errW_some] <;> rfl) | (simp only [← hji25, ← hji26]; first | rfl | (simp [errW_none, errW_some] <;> rfl)) | (simp [*, errW_none, errW_some] <;> rfl), by repeat (first | (with_reducible first | exact HB.out | apply below_alloc | apply pw_below_drewN | apply below_drew1 | refine below_set ?_ GE216.out) | exact HB.out)⟩
  rw [if_pos c42] at H
  have c42b0 : decide (x8_2 < t245) = true := decide_eq_true c42
  clear c42
  replace H := Option.bind_eq_some_iff.mp H
  obtain ⟨t250, A430, H⟩ := H
  replace H : ((auth_Over.f k2 t226 y242 (⟨#[98]⟩ : ByteArray) x8_2).bind fun t251 => ((auth_Over.f k2 t226 y242 (⟨#[99]⟩ : ByteArray) x8_2).bind fun t252 => (if t250 = true then (if (t252 != true) = true then (none) else ((level_Lattice_Leq.f t226 x8_2 a1_0).bind fun t253 => (if (t250 != t253) = true then (none) else ((auth_Over.f k2 t226 y242 (⟨#[100]⟩ : ByteArray) x8_2).bind fun t254 => (if t254 = true then (none) else (keyholelaw02_AuthTogether.l0 k2 t226 y242 (wrap64 (x8_2 + 1)) a1_0 a1_1)))))) else (if (t252 != t251) = true then (none) else ((level_Lattice_Leq.f t226 x8_2 a1_0).bind fun t255 => (if (t250 != t255) = true then (none) else ((auth_Over.f k2 t226 y242 (⟨#[100]⟩ : ByteArray) x8_2).bind fun t256 => (if t256 = true then (none) else (keyholelaw02_AuthTogether.l0 k2 t226 y242 (wrap64 (x8_2 + 1)) a1_0 a1_1))))))))) = some r := H
  have A43 := Aside0.mk A430
  clear A430
  replace H := Option.bind_eq_some_iff.mp H
  obtain ⟨t251, A440, H⟩ := H
  replace H : ((auth_Over.f k2 t226 y242 (⟨#[99]⟩ : ByteArray) x8_2).bind fun t252 => (if t250 = true then (if (t252 != true) = true then (none) else ((level_Lattice_Leq.f t226 x8_2 a1_0).bind fun t253 => (if (t250 != t253) = true then (none) else ((auth_Over.f k2 t226 y242 (⟨#[100]⟩ : ByteArray) x8_2).bind fun t254 => (if t254 = true then (none) else (keyholelaw02_AuthTogether.l0 k2 t226 y242 (wrap64 (x8_2 + 1)) a1_0 a1_1)))))) else (if (t252 != t251) = true then (none) else ((level_Lattice_Leq.f t226 x8_2 a1_0).bind fun t255 => (if (t250 != t255) = true then (none) else ((auth_Over.f k2 t226 y242 (⟨#[100]⟩ : ByteArray) x8_2).bind fun t256 => (if t256 = true then (none) else (keyholelaw02_AuthTogether.l0 k2 t226 y242 (wrap64 (x8_2 + 1)) a1_0 a1_1)))))))) = some r := H
  have A44 := Aside0.mk A440
  clear A440
  replace H := Option.bind_eq_some_iff.mp H
  obtain ⟨t252, A450, H⟩ := H
  replace H : (if t250 = true then (if (t252 != true) = true then (none) else ((level_Lattice_Leq.f t226 x8_2 a1_0).bind fun t253 => (if (t250 != t253) = true then (none) else ((auth_Over.f k2 t226 y242 (⟨#[100]⟩ : ByteArray) x8_2).bind fun t254 => (if t254 = true then (none) else (keyholelaw02_AuthTogether.l0 k2 t226 y242 (wrap64 (x8_2 + 1)) a1_0 a1_1)))))) else (if (t252 != t251) = true then (none) else ((level_Lattice_Leq.f t226 x8_2 a1_0).bind fun t255 => (if (t250 != t255) = true then (none) else ((auth_Over.f k2 t226 y242 (⟨#[100]⟩ : ByteArray) x8_2).bind fun t256 => (if t256 = true then (none) else (keyholelaw02_AuthTogether.l0 k2 t226 y242 (wrap64 (x8_2 + 1)) a1_0 a1_1))))))) = some r := H
  have A45 := Aside0.mk A450
  clear A450
  by_cases c46 : t250 = true
  · subst c46
    have H1 : (if (t252 != true) = true then (none) else ((level_Lattice_Leq.f t226 x8_2 a1_0).bind fun t253 => (if (true != t253) = true then (none) else ((auth_Over.f k2 t226 y242 (⟨#[100]⟩ : ByteArray) x8_2).bind fun t254 => (if t254 = true then (none) else (keyholelaw02_AuthTogether.l0 k2 t226 y242 (wrap64 (x8_2 + 1)) a1_0 a1_1)))))) = some r := by rw [if_pos rfl] at H; exact H
    clear H
    have H := H1
    clear H1
    by_cases c47 : (t252 != true) = true
    · rw [if_pos c47] at H
      exact absurd H (by simp)
    rw [if_neg c47] at H
    have c47b0 : (t252 != true) = false := by simpa using c47
    (try (have c47b1 : decide (t252 = true) = true := by simpa using c47))
    (try (have c47b2 : (t252 == true) = true := by simpa using c47))
    clear c47
    replace H := Option.bind_eq_some_iff.mp H
    obtain ⟨t253, A480, H⟩ := H
    replace H : (if (true != t253) = true then (none) else ((auth_Over.f k2 t226 y242 (⟨#[100]⟩ : ByteArray) x8_2).bind fun t254 => (if t254 = true then (none) else (keyholelaw02_AuthTogether.l0 k2 t226 y242 (wrap64 (x8_2 + 1)) a1_0 a1_1)))) = some r := H
    have A48 := Aside0.mk A480
    clear A480
    by_cases c49 : (true != t253) = true
    · rw [if_pos c49] at H
      exact absurd H (by simp)
    rw [if_neg c49] at H
    have c49b0 : (true != t253) = false := by simpa using c49
    (try (have c49b1 : decide (true = t253) = true := by simpa using c49))
    (try (have c49b2 : (true == t253) = true := by simpa using c49))
    clear c49
    replace H := Option.bind_eq_some_iff.mp H
    obtain ⟨t254, A500, H⟩ := H
    replace H : (if t254 = true then (none) else (keyholelaw02_AuthTogether.l0 k2 t226 y242 (wrap64 (x8_2 + 1)) a1_0 a1_1)) = some r := H
    have A50 := Aside0.mk A500
    clear A500
    by_cases c51 : t254 = true
    · subst c51
      have H1 : (none) = some r := by rw [if_pos rfl] at H; exact H
      clear H
      have H := H1
      clear H1
      exact absurd H (by simp)
    replace c51 := Bool.eq_false_iff.mpr c51
    subst c51
    have H1 : (keyholelaw02_AuthTogether.l0 k2 t226 y242 (wrap64 (x8_2 + 1)) a1_0 a1_1) = some r := by rw [if_neg (show ¬ (false = true) by decide)] at H; exact H
    clear H
    have H := H1
    clear H1
    have H' := Aside0.mk H
    clear H
    obtain ⟨Ao52, co52, eo52⟩ := Kd.V_slice HO_5.out
    subst eo52
    (try have hzo52 : (Ao52).isNone = false := lat_some_V HO_5.out (of_eq_true (by assumption)))
    go_wp2_with (first | ((with_reducible refine gate_callee (f := 18) rfl ?_); refine goesL_ (some 66) rfl rfl Try.func18 (by kernel_rfl) rfl #[.pointer Ao52] rfl (by (try simp only [List.map_toArray, List.map_cons, List.map_nil]); first | done | rfl | (simp only [List.length_drop, List.length_take]; rfl)) ?_; (with_reducible refine (level_Lattice_Size.calls _ t226 t245 _ ?side1 A41.out).mono ?_); (case side1 => repeat (first | exact (Kd.V_reads' HO_5.out).2.2 | (with_reducible refine Kd.C_alloc ?_ _) | (with_reducible refine Kd.C_drewN ?_ _) | (with_reducible refine Kd.C_drew ?_))); rintro e w' ⟨rfl, ⟨nd, rfl⟩⟩; refine ⟨_, rfl, ?_⟩; obtain ⟨Ao53, co53, eo53⟩ := Kd.N_slice HO_7.out; subst eo53) | ((with_reducible refine gate_callee (f := 17) rfl ?_); refine goesL_ (some 73) rfl rfl Try.func17 (by kernel_rfl) rfl #[.pointer Ao52, .slice Ao53 y242.length co53, .string (⟨#[97]⟩ : ByteArray), .int .i64 x8_2] rfl (by (try simp only [List.map_toArray, List.map_cons, List.map_nil]); first | done | rfl | (simp only [List.length_drop, List.length_take]; rfl)) ?_; (with_reducible refine (auth_Over.calls k2 _ t226 _ _ y242 (⟨#[97]⟩ : ByteArray) x8_2 true _ ?side1 ?side2 ?side3 A43.out).mono ?_); (case side1 => repeat (first | exact (Kd.V_reads' HO_5.out).2.2 | (with_reducible refine Kd.C_alloc ?_ _) | (with_reducible refine Kd.C_drewN ?_ _) | (with_reducible refine Kd.C_drew ?_))); (case side2 => repeat (first | exact (Kd.N_reads' HO_7.out).2.2 | (with_reducible refine Kd.C_alloc ?_ _) | (with_reducible refine Kd.C_drewN ?_ _) | (with_reducible refine Kd.C_drew ?_))); (case side3 => exact (Kd.N_reads' HO_7.out).2.1); rintro e w54 ⟨rfl, hb⟩; refine ⟨_, rfl, ?_⟩; have n0_ := Aside0.mk (Kd.V_below (by (with_reducible repeat (first | apply Kd.V_alloc | apply Kd.V_drewN | apply Kd.V_drew)); exact HO_5.out) hb); have n1_ := Aside0.mk (Kd.N_below (by (with_reducible repeat (first | apply Kd.N_alloc | apply Kd.N_drewN | apply Kd.N_drew)); exact HO_7.out) hb); have n2_ := Aside0.mk (blk_below (g := gb216) (o := .cells #[.int .i64 a1_0, .int .i64 a1_1] 52 (0, 0)) (by (with_reducible repeat (first | refine blk_drewN ?_ _ | refine blk_drew ?_ | refine blk_alloc ?_ _)); exact BK216.out) hb); have n3_ := Aside0.mk (below_step (by repeat (first | (with_reducible first | exact HB.out | apply below_alloc | apply pw_below_drewN | apply below_drew1 | refine below_set ?_ GE216.out) | exact HB.out)) hb); clear HO_5; clear HO_7; clear BK216; clear HB; have HO_5 := n0_; have HO_7 := n1_; have BK216 := n2_; have HB := n3_; clear n0_ n1_ n2_ n3_; (try clear hb); (try clear hb2); (try clear hk); (try clear hi)) | ((with_reducible refine gate_callee (f := 17) rfl ?_); refine goesL_ (some 77) rfl rfl Try.func17 (by kernel_rfl) rfl #[.pointer Ao52, .slice Ao53 y242.length co53, .string (⟨#[98]⟩ : ByteArray), .int .i64 x8_2] rfl (by (try simp only [List.map_toArray, List.map_cons, List.map_nil]); first | done | rfl | (simp only [List.length_drop, List.length_take]; rfl)) ?_; (with_reducible refine (auth_Over.calls k2 _ t226 _ _ y242 (⟨#[98]⟩ : ByteArray) x8_2 t251 _ ?side1 ?side2 ?side3 A44.out).mono ?_); (case side1 => repeat (first | exact (Kd.V_reads' HO_5.out).2.2 | (with_reducible refine Kd.C_alloc ?_ _) | (with_reducible refine Kd.C_drewN ?_ _) | (with_reducible refine Kd.C_drew ?_))); (case side2 => repeat (first | exact (Kd.N_reads' HO_7.out).2.2 | (with_reducible refine Kd.C_alloc ?_ _) | (with_reducible refine Kd.C_drewN ?_ _) | (with_reducible refine Kd.C_drew ?_))); (case side3 => exact (Kd.N_reads' HO_7.out).2.1); rintro e w55 ⟨rfl, hb⟩; refine ⟨_, rfl, ?_⟩; have n0_ := Aside0.mk (Kd.V_below (by (with_reducible repeat (first | apply Kd.V_alloc | apply Kd.V_drewN | apply Kd.V_drew)); exact HO_5.out) hb); have n1_ := Aside0.mk (Kd.N_below (by (with_reducible repeat (first | apply Kd.N_alloc | apply Kd.N_drewN | apply Kd.N_drew)); exact HO_7.out) hb); have n2_ := Aside0.mk (blk_below (g := gb216) (o := .cells #[.int .i64 a1_0, .int .i64 a1_1] 52 (0, 0)) (by (with_reducible repeat (first | refine blk_drewN ?_ _ | refine blk_drew ?_ | refine blk_alloc ?_ _)); exact BK216.out) hb); have n3_ := Aside0.mk (below_step (by repeat (first | (with_reducible first | exact HB.out | apply below_alloc | apply pw_below_drewN | apply below_drew1 | refine below_set ?_ GE216.out) | exact HB.out)) hb); clear HO_5; clear HO_7; clear BK216; clear HB; have HO_5 := n0_; have HO_7 := n1_; have BK216 := n2_; have HB := n3_; clear n0_ n1_ n2_ n3_; (try clear hb); (try clear hb2); (try clear hk); (try clear hi)) | ((with_reducible refine gate_callee (f := 17) rfl ?_); refine goesL_ (some 81) rfl rfl Try.func17 (by kernel_rfl) rfl #[.pointer Ao52, .slice Ao53 y242.length co53, .string (⟨#[99]⟩ : ByteArray), .int .i64 x8_2] rfl (by (try simp only [List.map_toArray, List.map_cons, List.map_nil]); first | done | rfl | (simp only [List.length_drop, List.length_take]; rfl)) ?_; (with_reducible refine (auth_Over.calls k2 _ t226 _ _ y242 (⟨#[99]⟩ : ByteArray) x8_2 t252 _ ?side1 ?side2 ?side3 A45.out).mono ?_); (case side1 => repeat (first | exact (Kd.V_reads' HO_5.out).2.2 | (with_reducible refine Kd.C_alloc ?_ _) | (with_reducible refine Kd.C_drewN ?_ _) | (with_reducible refine Kd.C_drew ?_))); (case side2 => repeat (first | exact (Kd.N_reads' HO_7.out).2.2 | (with_reducible refine Kd.C_alloc ?_ _) | (with_reducible refine Kd.C_drewN ?_ _) | (with_reducible refine Kd.C_drew ?_))); (case side3 => exact (Kd.N_reads' HO_7.out).2.1); rintro e w56 ⟨rfl, hb⟩; refine ⟨_, rfl, ?_⟩; have n0_ := Aside0.mk (Kd.V_below (by (with_reducible repeat (first | apply Kd.V_alloc | apply Kd.V_drewN | apply Kd.V_drew)); exact HO_5.out) hb); have n1_ := Aside0.mk (Kd.N_below (by (with_reducible repeat (first | apply Kd.N_alloc | apply Kd.N_drewN | apply Kd.N_drew)); exact HO_7.out) hb); have n2_ := Aside0.mk (blk_below (g := gb216) (o := .cells #[.int .i64 a1_0, .int .i64 a1_1] 52 (0, 0)) (by (with_reducible repeat (first | refine blk_drewN ?_ _ | refine blk_drew ?_ | refine blk_alloc ?_ _)); exact BK216.out) hb); have n3_ := Aside0.mk (below_step (by repeat (first | (with_reducible first | exact HB.out | apply below_alloc | apply pw_below_drewN | apply below_drew1 | refine below_set ?_ GE216.out) | exact HB.out)) hb); clear HO_5; clear HO_7; clear BK216; clear HB; have HO_5 := n0_; have HO_7 := n1_; have BK216 := n2_; have HB := n3_; clear n0_ n1_ n2_ n3_; (try clear hb); (try clear hb2); (try clear hk); (try clear hi); have hcz57_0 : w56.cell? ⟨gb216, 0, none⟩ = some (.int .i64 a1_0) := (blk_cell BK216.out 0).trans rfl; have hcz57_1 : w56.cell? ⟨gb216, 1, none⟩ = some (.int .i64 a1_1) := (blk_cell BK216.out 1).trans rfl; have hfz57_0 := blk_frozen BK216.out 0; have hfz57_1 := blk_frozen BK216.out 1) | (go_at_call 19; (with_reducible refine (level_Lattice_Leq.calls _ t226 x8_2 a1_0 t253 _ ?side1 A48.out).mono ?_); (case side1 => repeat (first | exact (Kd.V_reads' HO_5.out).2.2 | (with_reducible refine Kd.C_alloc ?_ _) | (with_reducible refine Kd.C_drewN ?_ _) | (with_reducible refine Kd.C_drew ?_))); rintro e w' ⟨rfl, ⟨nd, rfl⟩⟩) | (go_at_call 17; (with_reducible refine (auth_Over.calls k2 _ t226 _ _ y242 (⟨#[100]⟩ : ByteArray) x8_2 false _ ?side1 ?side2 ?side3 A50.out).mono ?_); (case side1 => repeat (first | exact (Kd.V_reads' HO_5.out).2.2 | (with_reducible refine Kd.C_alloc ?_ _) | (with_reducible refine Kd.C_drewN ?_ _) | (with_reducible refine Kd.C_drew ?_))); (case side2 => repeat (first | exact (Kd.N_reads' HO_7.out).2.2 | (with_reducible refine Kd.C_alloc ?_ _) | (with_reducible refine Kd.C_drewN ?_ _) | (with_reducible refine Kd.C_drew ?_))); (case side3 => exact (Kd.N_reads' HO_7.out).2.1); rintro e w58 ⟨rfl, hb⟩; have n0_ := Aside0.mk (Kd.V_below (by (with_reducible repeat (first | apply Kd.V_alloc | apply Kd.V_drewN | apply Kd.V_drew)); exact HO_5.out) hb); have n1_ := Aside0.mk (Kd.N_below (by (with_reducible repeat (first | apply Kd.N_alloc | apply Kd.N_drewN | apply Kd.N_drew)); exact HO_7.out) hb); have n2_ := Aside0.mk (blk_below (g := gb216) (o := .cells #[.int .i64 a1_0, .int .i64 a1_1] 52 (0, 0)) (by (with_reducible repeat (first | refine blk_drewN ?_ _ | refine blk_drew ?_ | refine blk_alloc ?_ _)); exact BK216.out) hb); have n3_ := Aside0.mk (below_step (by repeat (first | (with_reducible first | exact HB.out | apply below_alloc | apply pw_below_drewN | apply below_drew1 | refine below_set ?_ GE216.out) | exact HB.out)) hb); clear HO_5; clear HO_7; clear BK216; clear HB; have HO_5 := n0_; have HO_7 := n1_; have BK216 := n2_; have HB := n3_; clear n0_ n1_ n2_ n3_; (try clear hb); (try clear hb2); (try clear hk); (try clear hi)))
    go_roundg k2
    case measure => have := HJ4.out; have := HK2.out; omega
    case rel => exact ⟨(wrap64 (x8_2 + 1)), (by first | rfl | (simp; done) | (simp [*]; done)), H', ⟨by have := HJ4.out; have := HK2.out; omega⟩, ⟨by (with_reducible repeat (first | apply Kd.V_alloc | apply Kd.V_drewN | apply Kd.V_drew)); exact HO_5.out⟩, ⟨by (with_reducible repeat (first | apply Kd.N_alloc | apply Kd.N_drewN | apply Kd.N_drew)); exact HO_7.out⟩, ⟨by (with_reducible repeat (first | refine blk_drewN ?_ _ | refine blk_drew ?_ | refine blk_alloc ?_ _)); exact BK216.out⟩, ⟨by repeat (first | (with_reducible first | exact HB.out | apply below_alloc | apply pw_below_drewN | apply below_drew1 | refine below_set ?_ GE216.out) | exact HB.out)⟩⟩
  replace c46 := Bool.eq_false_iff.mpr c46
  subst c46
  have H1 : (if (t252 != t251) = true then (none) else ((level_Lattice_Leq.f t226 x8_2 a1_0).bind fun t255 => (if (false != t255) = true then (none) else ((auth_Over.f k2 t226 y242 (⟨#[100]⟩ : ByteArray) x8_2).bind fun t256 => (if t256 = true then (none) else (keyholelaw02_AuthTogether.l0 k2 t226 y242 (wrap64 (x8_2 + 1)) a1_0 a1_1)))))) = some r := by rw [if_neg (show ¬ (false = true) by decide)] at H; exact H
  clear H
  have H := H1
  clear H1
  by_cases c59 : (t252 != t251) = true
  · rw [if_pos c59] at H
    exact absurd H (by simp)
  rw [if_neg c59] at H
  have c59b0 : (t252 != t251) = false := by simpa using c59
  (try (have c59b1 : decide (t252 = t251) = true := by simpa using c59))
  (try (have c59b2 : (t252 == t251) = true := by simpa using c59))
  clear c59
  replace H := Option.bind_eq_some_iff.mp H
  obtain ⟨t255, A600, H⟩ := H
  replace H : (if (false != t255) = true then (none) else ((auth_Over.f k2 t226 y242 (⟨#[100]⟩ : ByteArray) x8_2).bind fun t256 => (if t256 = true then (none) else (keyholelaw02_AuthTogether.l0 k2 t226 y242 (wrap64 (x8_2 + 1)) a1_0 a1_1)))) = some r := H
  have A60 := Aside0.mk A600
  clear A600
  by_cases c61 : (false != t255) = true
  · rw [if_pos c61] at H
    exact absurd H (by simp)
  rw [if_neg c61] at H
  have c61b0 : (false != t255) = false := by simpa using c61
  (try (have c61b1 : decide (false = t255) = true := by simpa using c61))
  (try (have c61b2 : (false == t255) = true := by simpa using c61))
  clear c61
  replace H := Option.bind_eq_some_iff.mp H
  obtain ⟨t256, A620, H⟩ := H
  replace H : (if t256 = true then (none) else (keyholelaw02_AuthTogether.l0 k2 t226 y242 (wrap64 (x8_2 + 1)) a1_0 a1_1)) = some r := H
  have A62 := Aside0.mk A620
  clear A620
  by_cases c63 : t256 = true
  · subst c63
    have H1 : (none) = some r := by rw [if_pos rfl] at H; exact H
    clear H
    have H := H1
    clear H1
    exact absurd H (by simp)
  replace c63 := Bool.eq_false_iff.mpr c63
  subst c63
  have H1 : (keyholelaw02_AuthTogether.l0 k2 t226 y242 (wrap64 (x8_2 + 1)) a1_0 a1_1) = some r := by rw [if_neg (show ¬ (false = true) by decide)] at H; exact H
  clear H
  have H := H1
  clear H1
  have H' := Aside0.mk H
  clear H
  obtain ⟨Ao64, co64, eo64⟩ := Kd.V_slice HO_5.out
  subst eo64
  (try have hzo64 : (Ao64).isNone = false := lat_some_V HO_5.out (of_eq_true (by assumption)))
  go_wp2_with (first | ((with_reducible refine gate_callee (f := 18) rfl ?_); refine goesL_ (some 66) rfl rfl Try.func18 (by kernel_rfl) rfl #[.pointer Ao64] rfl (by (try simp only [List.map_toArray, List.map_cons, List.map_nil]); first | done | rfl | (simp only [List.length_drop, List.length_take]; rfl)) ?_; (with_reducible refine (level_Lattice_Size.calls _ t226 t245 _ ?side1 A41.out).mono ?_); (case side1 => repeat (first | exact (Kd.V_reads' HO_5.out).2.2 | (with_reducible refine Kd.C_alloc ?_ _) | (with_reducible refine Kd.C_drewN ?_ _) | (with_reducible refine Kd.C_drew ?_))); rintro e w' ⟨rfl, ⟨nd, rfl⟩⟩; refine ⟨_, rfl, ?_⟩; obtain ⟨Ao65, co65, eo65⟩ := Kd.N_slice HO_7.out; subst eo65) | ((with_reducible refine gate_callee (f := 17) rfl ?_); refine goesL_ (some 73) rfl rfl Try.func17 (by kernel_rfl) rfl #[.pointer Ao64, .slice Ao65 y242.length co65, .string (⟨#[97]⟩ : ByteArray), .int .i64 x8_2] rfl (by (try simp only [List.map_toArray, List.map_cons, List.map_nil]); first | done | rfl | (simp only [List.length_drop, List.length_take]; rfl)) ?_; (with_reducible refine (auth_Over.calls k2 _ t226 _ _ y242 (⟨#[97]⟩ : ByteArray) x8_2 false _ ?side1 ?side2 ?side3 A43.out).mono ?_); (case side1 => repeat (first | exact (Kd.V_reads' HO_5.out).2.2 | (with_reducible refine Kd.C_alloc ?_ _) | (with_reducible refine Kd.C_drewN ?_ _) | (with_reducible refine Kd.C_drew ?_))); (case side2 => repeat (first | exact (Kd.N_reads' HO_7.out).2.2 | (with_reducible refine Kd.C_alloc ?_ _) | (with_reducible refine Kd.C_drewN ?_ _) | (with_reducible refine Kd.C_drew ?_))); (case side3 => exact (Kd.N_reads' HO_7.out).2.1); rintro e w66 ⟨rfl, hb⟩; refine ⟨_, rfl, ?_⟩; have n0_ := Aside0.mk (Kd.V_below (by (with_reducible repeat (first | apply Kd.V_alloc | apply Kd.V_drewN | apply Kd.V_drew)); exact HO_5.out) hb); have n1_ := Aside0.mk (Kd.N_below (by (with_reducible repeat (first | apply Kd.N_alloc | apply Kd.N_drewN | apply Kd.N_drew)); exact HO_7.out) hb); have n2_ := Aside0.mk (blk_below (g := gb216) (o := .cells #[.int .i64 a1_0, .int .i64 a1_1] 52 (0, 0)) (by (with_reducible repeat (first | refine blk_drewN ?_ _ | refine blk_drew ?_ | refine blk_alloc ?_ _)); exact BK216.out) hb); have n3_ := Aside0.mk (below_step (by repeat (first | (with_reducible first | exact HB.out | apply below_alloc | apply pw_below_drewN | apply below_drew1 | refine below_set ?_ GE216.out) | exact HB.out)) hb); clear HO_5; clear HO_7; clear BK216; clear HB; have HO_5 := n0_; have HO_7 := n1_; have BK216 := n2_; have HB := n3_; clear n0_ n1_ n2_ n3_; (try clear hb); (try clear hb2); (try clear hk); (try clear hi)) | ((with_reducible refine gate_callee (f := 17) rfl ?_); refine goesL_ (some 77) rfl rfl Try.func17 (by kernel_rfl) rfl #[.pointer Ao64, .slice Ao65 y242.length co65, .string (⟨#[98]⟩ : ByteArray), .int .i64 x8_2] rfl (by (try simp only [List.map_toArray, List.map_cons, List.map_nil]); first | done | rfl | (simp only [List.length_drop, List.length_take]; rfl)) ?_; (with_reducible refine (auth_Over.calls k2 _ t226 _ _ y242 (⟨#[98]⟩ : ByteArray) x8_2 t251 _ ?side1 ?side2 ?side3 A44.out).mono ?_); (case side1 => repeat (first | exact (Kd.V_reads' HO_5.out).2.2 | (with_reducible refine Kd.C_alloc ?_ _) | (with_reducible refine Kd.C_drewN ?_ _) | (with_reducible refine Kd.C_drew ?_))); (case side2 => repeat (first | exact (Kd.N_reads' HO_7.out).2.2 | (with_reducible refine Kd.C_alloc ?_ _) | (with_reducible refine Kd.C_drewN ?_ _) | (with_reducible refine Kd.C_drew ?_))); (case side3 => exact (Kd.N_reads' HO_7.out).2.1); rintro e w67 ⟨rfl, hb⟩; refine ⟨_, rfl, ?_⟩; have n0_ := Aside0.mk (Kd.V_below (by (with_reducible repeat (first | apply Kd.V_alloc | apply Kd.V_drewN | apply Kd.V_drew)); exact HO_5.out) hb); have n1_ := Aside0.mk (Kd.N_below (by (with_reducible repeat (first | apply Kd.N_alloc | apply Kd.N_drewN | apply Kd.N_drew)); exact HO_7.out) hb); have n2_ := Aside0.mk (blk_below (g := gb216) (o := .cells #[.int .i64 a1_0, .int .i64 a1_1] 52 (0, 0)) (by (with_reducible repeat (first | refine blk_drewN ?_ _ | refine blk_drew ?_ | refine blk_alloc ?_ _)); exact BK216.out) hb); have n3_ := Aside0.mk (below_step (by repeat (first | (with_reducible first | exact HB.out | apply below_alloc | apply pw_below_drewN | apply below_drew1 | refine below_set ?_ GE216.out) | exact HB.out)) hb); clear HO_5; clear HO_7; clear BK216; clear HB; have HO_5 := n0_; have HO_7 := n1_; have BK216 := n2_; have HB := n3_; clear n0_ n1_ n2_ n3_; (try clear hb); (try clear hb2); (try clear hk); (try clear hi)) | ((with_reducible refine gate_callee (f := 17) rfl ?_); refine goesL_ (some 81) rfl rfl Try.func17 (by kernel_rfl) rfl #[.pointer Ao64, .slice Ao65 y242.length co65, .string (⟨#[99]⟩ : ByteArray), .int .i64 x8_2] rfl (by (try simp only [List.map_toArray, List.map_cons, List.map_nil]); first | done | rfl | (simp only [List.length_drop, List.length_take]; rfl)) ?_; (with_reducible refine (auth_Over.calls k2 _ t226 _ _ y242 (⟨#[99]⟩ : ByteArray) x8_2 t252 _ ?side1 ?side2 ?side3 A45.out).mono ?_); (case side1 => repeat (first | exact (Kd.V_reads' HO_5.out).2.2 | (with_reducible refine Kd.C_alloc ?_ _) | (with_reducible refine Kd.C_drewN ?_ _) | (with_reducible refine Kd.C_drew ?_))); (case side2 => repeat (first | exact (Kd.N_reads' HO_7.out).2.2 | (with_reducible refine Kd.C_alloc ?_ _) | (with_reducible refine Kd.C_drewN ?_ _) | (with_reducible refine Kd.C_drew ?_))); (case side3 => exact (Kd.N_reads' HO_7.out).2.1); rintro e w68 ⟨rfl, hb⟩; refine ⟨_, rfl, ?_⟩; have n0_ := Aside0.mk (Kd.V_below (by (with_reducible repeat (first | apply Kd.V_alloc | apply Kd.V_drewN | apply Kd.V_drew)); exact HO_5.out) hb); have n1_ := Aside0.mk (Kd.N_below (by (with_reducible repeat (first | apply Kd.N_alloc | apply Kd.N_drewN | apply Kd.N_drew)); exact HO_7.out) hb); have n2_ := Aside0.mk (blk_below (g := gb216) (o := .cells #[.int .i64 a1_0, .int .i64 a1_1] 52 (0, 0)) (by (with_reducible repeat (first | refine blk_drewN ?_ _ | refine blk_drew ?_ | refine blk_alloc ?_ _)); exact BK216.out) hb); have n3_ := Aside0.mk (below_step (by repeat (first | (with_reducible first | exact HB.out | apply below_alloc | apply pw_below_drewN | apply below_drew1 | refine below_set ?_ GE216.out) | exact HB.out)) hb); clear HO_5; clear HO_7; clear BK216; clear HB; have HO_5 := n0_; have HO_7 := n1_; have BK216 := n2_; have HB := n3_; clear n0_ n1_ n2_ n3_; (try clear hb); (try clear hb2); (try clear hk); (try clear hi); have hcz69_0 : w68.cell? ⟨gb216, 0, none⟩ = some (.int .i64 a1_0) := (blk_cell BK216.out 0).trans rfl; have hcz69_1 : w68.cell? ⟨gb216, 1, none⟩ = some (.int .i64 a1_1) := (blk_cell BK216.out 1).trans rfl; have hfz69_0 := blk_frozen BK216.out 0; have hfz69_1 := blk_frozen BK216.out 1) | (go_at_call 19; (with_reducible refine (level_Lattice_Leq.calls _ t226 x8_2 a1_0 t255 _ ?side1 A60.out).mono ?_); (case side1 => repeat (first | exact (Kd.V_reads' HO_5.out).2.2 | (with_reducible refine Kd.C_alloc ?_ _) | (with_reducible refine Kd.C_drewN ?_ _) | (with_reducible refine Kd.C_drew ?_))); rintro e w' ⟨rfl, ⟨nd, rfl⟩⟩) | (go_at_call 17; (with_reducible refine (auth_Over.calls k2 _ t226 _ _ y242 (⟨#[100]⟩ : ByteArray) x8_2 false _ ?side1 ?side2 ?side3 A62.out).mono ?_); (case side1 => repeat (first | exact (Kd.V_reads' HO_5.out).2.2 | (with_reducible refine Kd.C_alloc ?_ _) | (with_reducible refine Kd.C_drewN ?_ _) | (with_reducible refine Kd.C_drew ?_))); (case side2 => repeat (first | exact (Kd.N_reads' HO_7.out).2.2 | (with_reducible refine Kd.C_alloc ?_ _) | (with_reducible refine Kd.C_drewN ?_ _) | (with_reducible refine Kd.C_drew ?_))); (case side3 => exact (Kd.N_reads' HO_7.out).2.1); rintro e w70 ⟨rfl, hb⟩; have n0_ := Aside0.mk (Kd.V_below (by (with_reducible repeat (first | apply Kd.V_alloc | apply Kd.V_drewN | apply Kd.V_drew)); exact HO_5.out) hb); have n1_ := Aside0.mk (Kd.N_below (by (with_reducible repeat (first | apply Kd.N_alloc | apply Kd.N_drewN | apply Kd.N_drew)); exact HO_7.out) hb); have n2_ := Aside0.mk (blk_below (g := gb216) (o := .cells #[.int .i64 a1_0, .int .i64 a1_1] 52 (0, 0)) (by (with_reducible repeat (first | refine blk_drewN ?_ _ | refine blk_drew ?_ | refine blk_alloc ?_ _)); exact BK216.out) hb); have n3_ := Aside0.mk (below_step (by repeat (first | (with_reducible first | exact HB.out | apply below_alloc | apply pw_below_drewN | apply below_drew1 | refine below_set ?_ GE216.out) | exact HB.out)) hb); clear HO_5; clear HO_7; clear BK216; clear HB; have HO_5 := n0_; have HO_7 := n1_; have BK216 := n2_; have HB := n3_; clear n0_ n1_ n2_ n3_; (try clear hb); (try clear hb2); (try clear hk); (try clear hi)))
  go_roundg k2
  case measure => have := HJ4.out; have := HK2.out; omega
  case rel => exact ⟨(wrap64 (x8_2 + 1)), (by first | rfl | (simp; done) | (simp [*]; done)), H', ⟨by have := HJ4.out; have := HK2.out; omega⟩, ⟨by (with_reducible repeat (first | apply Kd.V_alloc | apply Kd.V_drewN | apply Kd.V_drew)); exact HO_5.out⟩, ⟨by (with_reducible repeat (first | apply Kd.N_alloc | apply Kd.N_drewN | apply Kd.N_drew)); exact HO_7.out⟩, ⟨by (with_reducible repeat (first | refine blk_drewN ?_ _ | refine blk_drew ?_ | refine blk_alloc ?_ _)); exact BK216.out⟩, ⟨by repeat (first | (with_reducible first | exact HB.out | apply below_alloc | apply pw_below_drewN | apply below_drew1 | refine below_set ?_ GE216.out) | exact HB.out)⟩⟩
end Go.Proofs.Yteeodnnabogheaa.X
