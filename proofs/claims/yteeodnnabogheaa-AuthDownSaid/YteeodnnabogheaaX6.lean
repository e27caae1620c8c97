-- Written for this claim by a program of the session, out of the translation's print. Lean checks it.
import Derived.Test.YteeodnnabogheaaX0
import Derived.Test.YteeodnnabogheaaX1
import Derived.Test.YteeodnnabogheaaX4
import Derived.Test.YteeodnnabogheaaX5
namespace Go.Proofs.Yteeodnnabogheaa.X
open Go.RowKit Go.Proofs.YteeodnnabogheaaY Go.Proofs.YteeodnnabogheaaW.PrintWords Go.Proofs.YteeodnnabogheaaW.PrintLast Go.Proofs.YteeodnnabogheaaW.PrintMore
attribute [local go_sem] max2_int min2_int max_two min_two max_three min_three max_four min_four   -- for this text's walks alone
set_option linter.unusedVariables false
set_option linter.unusedSimpArgs false

/-! ### keyholelaw02_AuthDown: function 5 -/
mutual
def keyholelaw02_AuthDown.j0 : Nat → List (S36) → ByteArray → List (Lat) → Int → Bool → Option (Bool)
  | 0, _, _, _, _, _ => none
  | k + 1, x1, x2, x7, x8, x30 => if x30 = true then (if x8 = 0 then ((keyholelaw02_lives.f k).bind fun t200 => (some t200)) else (none)) else (keyholelaw02_AuthDown.l0 k x1 x2 x7 0)
def keyholelaw02_AuthDown.l0 : Nat → List (S36) → ByteArray → List (Lat) → Int → Option (Bool)
  | 0, _, _, _, _ => none
  | k + 1, x1, x2, x7, x9 => (level_Lattice_Size.f x7).bind fun t201 => (if x9 < t201 then (keyholelaw02_AuthDown.l1 k x1 x2 x7 x9 0) else ((auth_Find.f k x1 x2).bind fun bt206 => (keyholelaw02_AuthDown.l2 k x1 x2 x7 bt206.1 bt206.2 0)))
def keyholelaw02_AuthDown.l1 : Nat → List (S36) → ByteArray → List (Lat) → Int → Int → Option (Bool)
  | 0, _, _, _, _, _ => none
  | k + 1, x1, x2, x7, x9, x10 => (level_Lattice_Size.f x7).bind fun t202 => (if x10 < t202 then ((level_Lattice_Leq.f x7 x9 x10).bind fun t203 => (if t203 = true then ((auth_Over.f k x7 x1 x2 x10).bind fun t204 => (if t204 = true then ((auth_Over.f k x7 x1 x2 x9).bind fun t205 => (if t205 = true then (keyholelaw02_AuthDown.l1 k x1 x2 x7 x9 (wrap64 (x10 + 1))) else (none))) else (keyholelaw02_AuthDown.l1 k x1 x2 x7 x9 (wrap64 (x10 + 1))))) else (keyholelaw02_AuthDown.l1 k x1 x2 x7 x9 (wrap64 (x10 + 1))))) else (keyholelaw02_AuthDown.l0 k x1 x2 x7 (wrap64 (x9 + 1))))
def keyholelaw02_AuthDown.l2 : Nat → List (S36) → ByteArray → List (Lat) → Int → Bool → Int → Option (Bool)
  | 0, _, _, _, _, _, _ => none
  | k + 1, x1, x2, x7, x11, x12, x13 => if x12 = true then (if 0 ≤ x11 then (if x11 < (x1.length : Int) then (keyholelaw02_AuthDown.j4 k x1 x2 x7 x11 x12 x13 (decide (x13 < (((rd_T36 x1 x11).f1).length : Int)))) else (none)) else (none)) else (keyholelaw02_AuthDown.j4 k x1 x2 x7 x11 x12 x13 false)
def keyholelaw02_AuthDown.j4 : Nat → List (S36) → ByteArray → List (Lat) → Int → Bool → Int → Bool → Option (Bool)
  | 0, _, _, _, _, _, _, _ => none
  | k + 1, x1, x2, x7, x11, x12, x13, x83 => if x83 = true then (if 0 ≤ x11 then (if x11 < (x1.length : Int) then (if 0 ≤ x13 then (if x13 < (((rd_T36 x1 x11).f1).length : Int) then ((level_Lattice_Is.f x7 (rd ((rd_T36 x1 x11).f1) x13)).bind fun t212 => (if t212 = true then ((auth_Over.f k x7 x1 x2 (rd ((rd_T36 x1 x11).f1) x13)).bind fun t215 => (if t215 = true then (keyholelaw02_AuthDown.l2 k x1 x2 x7 x11 x12 (wrap64 (x13 + 1))) else (none))) else (keyholelaw02_AuthDown.l2 k x1 x2 x7 x11 x12 (wrap64 (x13 + 1))))) else (none)) else (none)) else (none)) else (none)) else ((keyholelaw02_lives.f k).bind fun t209 => (some t209))
end
def keyholelaw02_AuthDown.f (k : Nat) (a0 : Int) (l1 : List (S36)) (a2 : ByteArray) : Option (Bool) := (keyholeref01_Sort.f a0).bind fun bt186 => ((level_New.f k bt186.1 bt186.2.1 bt186.2.2).bind fun bt195 => ((keyholelaw02_light.f k l1).bind fun t199 => (if t199 = true then (if bt195.2 = 0 then (if 0 < (bt195.1.length : Int) then (keyholelaw02_AuthDown.j0 k l1 a2 bt195.1 bt195.2 false) else (none)) else (keyholelaw02_AuthDown.j0 k l1 a2 bt195.1 bt195.2 true)) else (keyholelaw02_AuthDown.j0 k l1 a2 bt195.1 bt195.2 true))))
theorem keyholelaw02_AuthDown.mono_l : ∀ k, (∀ y0 y1 y2 y3 y4, LeO (keyholelaw02_AuthDown.j0 k y0 y1 y2 y3 y4) (keyholelaw02_AuthDown.j0 (k + 1) y0 y1 y2 y3 y4)) ∧ (∀ y0 y1 y2 y3, LeO (keyholelaw02_AuthDown.l0 k y0 y1 y2 y3) (keyholelaw02_AuthDown.l0 (k + 1) y0 y1 y2 y3)) ∧ (∀ y0 y1 y2 y3 y4, LeO (keyholelaw02_AuthDown.l1 k y0 y1 y2 y3 y4) (keyholelaw02_AuthDown.l1 (k + 1) y0 y1 y2 y3 y4)) ∧ (∀ y0 y1 y2 y3 y4 y5, LeO (keyholelaw02_AuthDown.l2 k y0 y1 y2 y3 y4 y5) (keyholelaw02_AuthDown.l2 (k + 1) y0 y1 y2 y3 y4 y5)) ∧ (∀ y0 y1 y2 y3 y4 y5 y6, LeO (keyholelaw02_AuthDown.j4 k y0 y1 y2 y3 y4 y5 y6) (keyholelaw02_AuthDown.j4 (k + 1) y0 y1 y2 y3 y4 y5 y6))
  | 0 => ⟨fun _ _ _ _ _ r h => by simp [keyholelaw02_AuthDown.j0] at h, fun _ _ _ _ r h => by simp [keyholelaw02_AuthDown.l0] at h, fun _ _ _ _ _ r h => by simp [keyholelaw02_AuthDown.l1] at h, fun _ _ _ _ _ _ r h => by simp [keyholelaw02_AuthDown.l2] at h, fun _ _ _ _ _ _ _ r h => by simp [keyholelaw02_AuthDown.j4] at h⟩
  | k + 1 => by
    obtain ⟨ih0, ih1, ih2, ih3, ih4⟩ := keyholelaw02_AuthDown.mono_l k
    refine ⟨?_, ?_, ?_, ?_, ?_⟩
    · intro y0 y1 y2 y3 y4
      unfold keyholelaw02_AuthDown.j0
      repeat' first
      | (with_reducible exact ih0 _ _ _ _ _)
      | (with_reducible exact ih1 _ _ _ _)
      | (with_reducible exact ih2 _ _ _ _ _)
      | (with_reducible exact ih3 _ _ _ _ _ _)
      | (with_reducible exact ih4 _ _ _ _ _ _ _)
      | (with_reducible exact auth_Find.mono _ _ _)
      | (with_reducible exact auth_Over.mono _ _ _ _ _)
      | (with_reducible exact keyholelaw02_light.mono _ _)
      | (with_reducible exact keyholelaw02_lives.mono _)
      | (with_reducible exact level_New.mono _ _ _ _)
      | (with_reducible exact LeO.refl _)
      | (with_reducible exact LeO.none _)
      | (with_reducible refine LeO.ite ?_ ?_)
      | (with_reducible refine LeO.bind ?_ (fun _ => ?_))
      | exact ih0 _ _ _ _ _
      | exact ih1 _ _ _ _
      | exact ih2 _ _ _ _ _
      | exact ih3 _ _ _ _ _ _
      | exact ih4 _ _ _ _ _ _ _
      | exact auth_Find.mono _ _ _
      | exact auth_Over.mono _ _ _ _ _
      | exact keyholelaw02_light.mono _ _
      | exact keyholelaw02_lives.mono _
      | exact level_New.mono _ _ _ _
      | exact LeO.none _
      | refine LeO.ite ?_ ?_
      | refine LeO.bind ?_ (fun _ => ?_)
    · intro y0 y1 y2 y3
      unfold keyholelaw02_AuthDown.l0
      repeat' first
      | (with_reducible exact ih0 _ _ _ _ _)
      | (with_reducible exact ih1 _ _ _ _)
      | (with_reducible exact ih2 _ _ _ _ _)
      | (with_reducible exact ih3 _ _ _ _ _ _)
      | (with_reducible exact ih4 _ _ _ _ _ _ _)
      | (with_reducible exact auth_Find.mono _ _ _)
      | (with_reducible exact auth_Over.mono _ _ _ _ _)
      | (with_reducible exact keyholelaw02_light.mono _ _)
      | (with_reducible exact keyholelaw02_lives.mono _)
      | (with_reducible exact level_New.mono _ _ _ _)
      | (with_reducible exact LeO.refl _)
      | (with_reducible exact LeO.none _)
      | (with_reducible refine LeO.ite ?_ ?_)
      | (with_reducible refine LeO.bind ?_ (fun _ => ?_))
      | exact ih0 _ _ _ _ _
      | exact ih1 _ _ _ _
      | exact ih2 _ _ _ _ _
      | exact ih3 _ _ _ _ _ _
      | exact ih4 _ _ _ _ _ _ _
      | exact auth_Find.mono _ _ _
      | exact auth_Over.mono _ _ _ _ _
      | exact keyholelaw02_light.mono _ _
      | exact keyholelaw02_lives.mono _
      | exact level_New.mono _ _ _ _
      | exact LeO.none _
      | refine LeO.ite ?_ ?_
      | refine LeO.bind ?_ (fun _ => ?_)
    · intro y0 y1 y2 y3 y4
      unfold keyholelaw02_AuthDown.l1
      repeat' first
      | (with_reducible exact ih0 _ _ _ _ _)
      | (with_reducible exact ih1 _ _ _ _)
      | (with_reducible exact ih2 _ _ _ _ _)
      | (with_reducible exact ih3 _ _ _ _ _ _)
      | (with_reducible exact ih4 _ _ _ _ _ _ _)
      | (with_reducible exact auth_Find.mono _ _ _)
      | (with_reducible exact auth_Over.mono _ _ _ _ _)
      | (with_reducible exact keyholelaw02_light.mono _ _)
      | (with_reducible exact keyholelaw02_lives.mono _)
      | (with_reducible exact level_New.mono _ _ _ _)
      | (with_reducible exact LeO.refl _)
      | (with_reducible exact LeO.none _)
      | (with_reducible refine LeO.ite ?_ ?_)
      | (with_reducible refine LeO.bind ?_ (fun _ => ?_))
      | exact ih0 _ _ _ _ _
      | exact ih1 _ _ _ _
      | exact ih2 _ _ _ _ _
      | exact ih3 _ _ _ _ _ _
      | exact ih4 _ _ _ _ _ _ _
      | exact auth_Find.mono _ _ _
      | exact auth_Over.mono _ _ _ _ _
      | exact keyholelaw02_light.mono _ _
      | exact keyholelaw02_lives.mono _
      | exact level_New.mono _ _ _ _
      | exact LeO.none _
      | refine LeO.ite ?_ ?_
      | refine LeO.bind ?_ (fun _ => ?_)
    · intro y0 y1 y2 y3 y4 y5
      unfold keyholelaw02_AuthDown.l2
      repeat' first
      | (with_reducible exact ih0 _ _ _ _ _)
      | (with_reducible exact ih1 _ _ _ _)
      | (with_reducible exact ih2 _ _ _ _ _)
      | (with_reducible exact ih3 _ _ _ _ _ _)
      | (with_reducible exact ih4 _ _ _ _ _ _ _)
      | (with_reducible exact auth_Find.mono _ _ _)
      | (with_reducible exact auth_Over.mono _ _ _ _ _)
      | (with_reducible exact keyholelaw02_light.mono _ _)
      | (with_reducible exact keyholelaw02_lives.mono _)
      | (with_reducible exact level_New.mono _ _ _ _)
      | (with_reducible exact LeO.refl _)
      | (with_reducible exact LeO.none _)
      | (with_reducible refine LeO.ite ?_ ?_)
      | (with_reducible refine LeO.bind ?_ (fun _ => ?_))
      | exact ih0 _ _ _ _ _
      | exact ih1 _ _ _ _
      | exact ih2 _ _ _ _ _
      | exact ih3 _ _ _ _ _ _
      | exact ih4 _ _ _ _ _ _ _
      | exact auth_Find.mono _ _ _
      | exact auth_Over.mono _ _ _ _ _
      | exact keyholelaw02_light.mono _ _
      | exact keyholelaw02_lives.mono _
      | exact level_New.mono _ _ _ _
      | exact LeO.none _
      | refine LeO.ite ?_ ?_
      | refine LeO.bind ?_ (fun _ => ?_)
    · intro y0 y1 y2 y3 y4 y5 y6
      unfold keyholelaw02_AuthDown.j4
      repeat' first
      | (with_reducible exact ih0 _ _ _ _ _)
      | (with_reducible exact ih1 _ _ _ _)
      | (with_reducible exact ih2 _ _ _ _ _)
      | (with_reducible exact ih3 _ _ _ _ _ _)
      | (with_reducible exact ih4 _ _ _ _ _ _ _)
      | (with_reducible exact auth_Find.mono _ _ _)
      | (with_reducible exact auth_Over.mono _ _ _ _ _)
      | (with_reducible exact keyholelaw02_light.mono _ _)
      | (with_reducible exact keyholelaw02_lives.mono _)
      | (with_reducible exact level_New.mono _ _ _ _)
      | (with_reducible exact LeO.refl _)
      | (with_reducible exact LeO.none _)
      | (with_reducible refine LeO.ite ?_ ?_)
      | (with_reducible refine LeO.bind ?_ (fun _ => ?_))
      | exact ih0 _ _ _ _ _
      | exact ih1 _ _ _ _
      | exact ih2 _ _ _ _ _
      | exact ih3 _ _ _ _ _ _
      | exact ih4 _ _ _ _ _ _ _
      | exact auth_Find.mono _ _ _
      | exact auth_Over.mono _ _ _ _ _
      | exact keyholelaw02_light.mono _ _
      | exact keyholelaw02_lives.mono _
      | exact level_New.mono _ _ _ _
      | exact LeO.none _
      | refine LeO.ite ?_ ?_
      | refine LeO.bind ?_ (fun _ => ?_)
theorem keyholelaw02_AuthDown.mono : ∀ a0 a1 a2 k, LeO (keyholelaw02_AuthDown.f k a0 a1 a2) (keyholelaw02_AuthDown.f (k + 1) a0 a1 a2) := by
  intro a0 a1 a2 k
  obtain ⟨ih0, ih1, ih2, ih3, ih4⟩ := keyholelaw02_AuthDown.mono_l k
  unfold keyholelaw02_AuthDown.f
  repeat' first
      | (with_reducible exact ih0 _ _ _ _ _)
      | (with_reducible exact ih1 _ _ _ _)
      | (with_reducible exact ih2 _ _ _ _ _)
      | (with_reducible exact ih3 _ _ _ _ _ _)
      | (with_reducible exact ih4 _ _ _ _ _ _ _)
      | (with_reducible exact auth_Find.mono _ _ _)
      | (with_reducible exact auth_Over.mono _ _ _ _ _)
      | (with_reducible exact keyholelaw02_light.mono _ _)
      | (with_reducible exact keyholelaw02_lives.mono _)
      | (with_reducible exact level_New.mono _ _ _ _)
      | (with_reducible exact LeO.refl _)
      | (with_reducible exact LeO.none _)
      | (with_reducible refine LeO.ite ?_ ?_)
      | (with_reducible refine LeO.bind ?_ (fun _ => ?_))
      | exact ih0 _ _ _ _ _
      | exact ih1 _ _ _ _
      | exact ih2 _ _ _ _ _
      | exact ih3 _ _ _ _ _ _
      | exact ih4 _ _ _ _ _ _ _
      | exact auth_Find.mono _ _ _
      | exact auth_Over.mono _ _ _ _ _
      | exact keyholelaw02_light.mono _ _
      | exact keyholelaw02_lives.mono _
      | exact level_New.mono _ _ _ _
      | exact LeO.none _
      | refine LeO.ite ?_ ?_
      | refine LeO.bind ?_ (fun _ => ?_)
set_option maxHeartbeats 8000000 in
set_option maxRecDepth 100000 in
theorem keyholelaw02_AuthDown.calls (k : Nat) (a0 : Int) (A1 : Option Addr) (c1 : Nat) (l1 : List (S36)) (a2 : ByteArray) (r : Bool) (w : World) (hr1 : Kd.C k36 w A1 l1.length l1) (hc1 : l1.length ≤ c1) (h : keyholelaw02_AuthDown.f k a0 l1 a2 = some r) :
    Calls Try.prog 5 #[.int .i64 a0, .slice A1 l1.length c1, .string a2] w fun e w' => e = .returned (.bool r) ∧ Below w.heap.size w w' := by
  have hu30 := Try.underlying30
  have HR1 := Aside0.mk hr1
  have HC1 := Aside0.mk hc1
  clear hr1 hc1
  have HB := Aside0.mk (Below.refl w.heap.size w)
  have H : ((keyholeref01_Sort.f a0).bind fun bt186 => ((level_New.f k bt186.1 bt186.2.1 bt186.2.2).bind fun bt195 => ((keyholelaw02_light.f k l1).bind fun t199 => (if t199 = true then (if bt195.2 = 0 then (if 0 < (bt195.1.length : Int) then (keyholelaw02_AuthDown.j0 k l1 a2 bt195.1 bt195.2 false) else (none)) else (keyholelaw02_AuthDown.j0 k l1 a2 bt195.1 bt195.2 true)) else (keyholelaw02_AuthDown.j0 k l1 a2 bt195.1 bt195.2 true))))) = some r := h
  clear h
  replace H := Option.bind_eq_some_iff.mp H
  obtain ⟨⟨t186, t189, t192⟩, A40, H⟩ := H
  replace H : ((level_New.f k t186 t189 t192).bind fun bt195 => ((keyholelaw02_light.f k l1).bind fun t199 => (if t199 = true then (if bt195.2 = 0 then (if 0 < (bt195.1.length : Int) then (keyholelaw02_AuthDown.j0 k l1 a2 bt195.1 bt195.2 false) else (none)) else (keyholelaw02_AuthDown.j0 k l1 a2 bt195.1 bt195.2 true)) else (keyholelaw02_AuthDown.j0 k l1 a2 bt195.1 bt195.2 true)))) = some r := H
  have A4 := Aside0.mk A40
  clear A40
  replace H := Option.bind_eq_some_iff.mp H
  obtain ⟨⟨t195, t198⟩, A50, H⟩ := H
  replace H : ((keyholelaw02_light.f k l1).bind fun t199 => (if t199 = true then (if t198 = 0 then (if 0 < (t195.length : Int) then (keyholelaw02_AuthDown.j0 k l1 a2 t195 t198 false) else (none)) else (keyholelaw02_AuthDown.j0 k l1 a2 t195 t198 true)) else (keyholelaw02_AuthDown.j0 k l1 a2 t195 t198 true))) = some r := H
  have A5 := Aside0.mk A50
  clear A50
  have HC6 := Aside0.mk H
  clear H
  go_enter Try.func5, Try.ntmps5
  go_upto_region 2 with (first | ((with_reducible refine gate_callee (f := 9) rfl ?_); refine goesL_ (some 16) rfl rfl Try.func9 (by kernel_rfl) rfl #[.int .i64 a0] rfl (by (try simp only [List.map_toArray, List.map_cons, List.map_nil]); first | done | rfl | (simp only [List.length_drop, List.length_take]; rfl)) ?_; (with_reducible refine (keyholeref01_Sort.calls a0 t186 t189 t192 _ A4.out).mono ?_); rintro e w7 ⟨v187, v190, v193, rfl, ho0, ho1, ho2, hb⟩; refine ⟨_, rfl, ?_⟩; have n0_ := Aside0.mk (Kd.R_lower ho0 (below_size (by repeat (first | (with_reducible first | exact HB.out | apply below_alloc | apply pw_below_drewN | apply below_drew1) | exact HB.out)))); have n1_ := Aside0.mk (Kd.R_lower ho1 (below_size (by repeat (first | (with_reducible first | exact HB.out | apply below_alloc | apply pw_below_drewN | apply below_drew1) | exact HB.out)))); have n2_ := Aside0.mk (Kd.S_lower ho2 (below_size (by repeat (first | (with_reducible first | exact HB.out | apply below_alloc | apply pw_below_drewN | apply below_drew1) | exact HB.out)))); have n3_ := Aside0.mk (below_step (by repeat (first | (with_reducible first | exact HB.out | apply below_alloc | apply pw_below_drewN | apply below_drew1) | exact HB.out)) hb); clear HB; have HO188 := n0_; have HO191 := n1_; have HO194 := n2_; have HB := n3_; clear n0_ n1_ n2_ n3_; (try clear hb); (try clear hb2); (try clear hk); (try clear hi); (try clear ho0); (try clear ho1); (try clear ho2); obtain ⟨Ao8, co8, eo8⟩ := Kd.R_slice HO188.out; subst eo8; obtain ⟨Ao9, co9, eo9⟩ := Kd.R_slice HO191.out; subst eo9; obtain ⟨Ao10, co10, eo10⟩ := Kd.S_slice HO194.out; subst eo10) | ((with_reducible refine gate_callee (f := 10) rfl ?_); refine goesL_ (some 17) rfl rfl Try.func10 (by kernel_rfl) rfl #[.agg #[.slice Ao8 t186.length co8, .slice Ao9 t189.length co9, .slice Ao10 t192.length co10]] rfl (by (try simp only [List.map_toArray, List.map_cons, List.map_nil]); first | done | rfl | (simp only [List.length_drop, List.length_take]; rfl)) ?_; (with_reducible refine (level_New.calls k _ _ t186 _ _ t189 _ _ t192 t195 t198 _ ?side1 ?side2 ?side3 ?side4 ?side5 ?side6 A5.out).mono ?_); (case side1 => repeat (first | exact (Kd.R_reads' HO188.out).2.2 | (with_reducible refine Kd.C_alloc ?_ _) | (with_reducible refine Kd.C_drewN ?_ _) | (with_reducible refine Kd.C_drew ?_))); (case side2 => exact (Kd.R_reads' HO188.out).2.1); (case side3 => repeat (first | exact (Kd.R_reads' HO191.out).2.2 | (with_reducible refine Kd.C_alloc ?_ _) | (with_reducible refine Kd.C_drewN ?_ _) | (with_reducible refine Kd.C_drew ?_))); (case side4 => exact (Kd.R_reads' HO191.out).2.1); (case side5 => repeat (first | exact (Kd.S_reads' HO194.out).2.2 | (with_reducible refine Kd.C_alloc ?_ _) | (with_reducible refine Kd.C_drewN ?_ _) | (with_reducible refine Kd.C_drew ?_))); (case side6 => exact (Kd.S_reads' HO194.out).2.1); rintro e w11 ⟨v196, rfl, ho0, hb⟩; refine ⟨_, rfl, ?_⟩; have n0_ := Aside0.mk (Kd.R_below (by (with_reducible repeat (first | apply Kd.R_alloc | apply Kd.R_drewN | apply Kd.R_drew)); exact HO188.out) hb); have n1_ := Aside0.mk (Kd.R_below (by (with_reducible repeat (first | apply Kd.R_alloc | apply Kd.R_drewN | apply Kd.R_drew)); exact HO191.out) hb); have n2_ := Aside0.mk (Kd.S_below (by (with_reducible repeat (first | apply Kd.S_alloc | apply Kd.S_drewN | apply Kd.S_drew)); exact HO194.out) hb); have n3_ := Aside0.mk (Kd.V_lower (Kd.V_mono (ok' := fun k_ => some k_ ≠ (.slice Ao8 t186.length co8 : Value).ownBlock ∧ some k_ ≠ (.slice Ao9 t189.length co9 : Value).ownBlock ∧ some k_ ≠ (.slice Ao10 t192.length co10 : Value).ownBlock) ho0 (fun k_ hk_ => ⟨(Kd.fresh' (Kd.R_lt (by (with_reducible repeat (first | apply Kd.R_alloc | apply Kd.R_drewN | apply Kd.R_drew)); exact HO188.out)) k_ hk_), (Kd.fresh' (Kd.R_lt (by (with_reducible repeat (first | apply Kd.R_alloc | apply Kd.R_drewN | apply Kd.R_drew)); exact HO191.out)) k_ hk_), (Kd.fresh' (Kd.S_lt (by (with_reducible repeat (first | apply Kd.S_alloc | apply Kd.S_drewN | apply Kd.S_drew)); exact HO194.out)) k_ hk_)⟩)) (below_size (by repeat (first | (with_reducible first | exact HB.out | apply below_alloc | apply pw_below_drewN | apply below_drew1) | exact HB.out)))); have n4_ := Aside0.mk (below_step (by repeat (first | (with_reducible first | exact HB.out | apply below_alloc | apply pw_below_drewN | apply below_drew1) | exact HB.out)) hb); clear HO188; clear HO191; clear HO194; clear HB; have HO188 := n0_; have HO191 := n1_; have HO194 := n2_; have HO197 := n3_; have HB := n4_; clear n0_ n1_ n2_ n3_ n4_; (try clear hb); (try clear hb2); (try clear hk); (try clear hi); (try clear ho0)))
  (try simp only [Act.put, List.setIfInBounds_toArray, List.set_cons_zero, List.set_cons_succ])
  go_cut [30] (fun v30 wc => ∃ (kq : Nat) (x30_5 : Bool), v30 = .bool x30_5 ∧ Aside0 (keyholelaw02_AuthDown.j0 kq l1 a2 t195 t198 x30_5 = some r) ∧ Aside0 (kq ≤ k) ∧ Aside0 (Kd.V klat 64 wc w.heap.size (fun _ => True) v196 t195) ∧ Aside0 (Below w.heap.size w wc))
  case first =>
    have H := HC6.out
    clear HC6
    replace H := Option.bind_eq_some_iff.mp H
    obtain ⟨t199, A120, H⟩ := H
    replace H : (if t199 = true then (if t198 = 0 then (if 0 < (t195.length : Int) then (keyholelaw02_AuthDown.j0 k l1 a2 t195 t198 false) else (none)) else (keyholelaw02_AuthDown.j0 k l1 a2 t195 t198 true)) else (keyholelaw02_AuthDown.j0 k l1 a2 t195 t198 true)) = some r := H
    have A12 := Aside0.mk A120
    clear A120
    by_cases c13 : t199 = true
    case neg =>
      replace c13 := Bool.eq_false_iff.mpr c13
      subst c13
      have H1 : (keyholelaw02_AuthDown.j0 k l1 a2 t195 t198 true) = some r := by rw [if_neg (show ¬ (false = true) by decide)] at H; exact H
      clear H
      have H := H1
      clear H1
      have H' := Aside0.mk H
      clear H
      go_wp2_with (first | ((with_reducible refine gate_callee (f := 7) rfl ?_); refine goesL_ (some 21) rfl rfl Try.func7 (by kernel_rfl) rfl #[.slice A1 l1.length c1] rfl (by (try simp only [List.map_toArray, List.map_cons, List.map_nil]); first | done | rfl | (simp only [List.length_drop, List.length_take]; rfl)) ?_; (with_reducible refine (keyholelaw02_light.calls k _ _ l1 false _ ?side1 ?side2 A12.out).mono ?_); (case side1 => repeat (first | exact (Kd.C_below HR1.out HB.out) | (with_reducible refine Kd.C_alloc ?_ _) | (with_reducible refine Kd.C_drewN ?_ _) | (with_reducible refine Kd.C_drew ?_))); (case side2 => exact HC1.out); rintro e w' ⟨rfl, ⟨nd, rfl⟩⟩; refine ⟨_, rfl, ?_⟩))
      go_meet
      case rel => exact ⟨_, (true), (by first | rfl | (simp; done) | (simp [*]; done)), H', ⟨by first | omega | exact Nat.le_refl _⟩, ⟨by (with_reducible repeat (first | apply Kd.V_alloc | apply Kd.V_drewN | apply Kd.V_drew)); exact Kd.V_mono HO197.out (fun _ hk => trivial)⟩, ⟨by repeat (first | (with_reducible first | exact HB.out | apply below_alloc | apply pw_below_drewN | apply below_drew1) | exact HB.out)⟩⟩
    subst c13
    have H1 : (if t198 = 0 then (if 0 < (t195.length : Int) then (keyholelaw02_AuthDown.j0 k l1 a2 t195 t198 false) else (none)) else (keyholelaw02_AuthDown.j0 k l1 a2 t195 t198 true)) = some r := by rw [if_pos rfl] at H; exact H
    clear H
    have H := H1
    clear H1
    by_cases c14 : t198 = 0
    case neg =>
      rw [if_neg c14] at H
      have c14b0 : (t198 == 0) = false := beq_eq_false_iff_ne.mpr c14
      have c14b1 : (t198 != 0) = true := bne_iff_ne.mpr c14
      (first | rw [c14b0] | (simp only [i64_w, i32_w]; rw [c14b0]) | skip)
      have H' := Aside0.mk H
      clear H
      go_wp2_with (first | ((with_reducible refine gate_callee (f := 7) rfl ?_); refine goesL_ (some 21) rfl rfl Try.func7 (by kernel_rfl) rfl #[.slice A1 l1.length c1] rfl (by (try simp only [List.map_toArray, List.map_cons, List.map_nil]); first | done | rfl | (simp only [List.length_drop, List.length_take]; rfl)) ?_; (with_reducible refine (keyholelaw02_light.calls k _ _ l1 true _ ?side1 ?side2 A12.out).mono ?_); (case side1 => repeat (first | exact (Kd.C_below HR1.out HB.out) | (with_reducible refine Kd.C_alloc ?_ _) | (with_reducible refine Kd.C_drewN ?_ _) | (with_reducible refine Kd.C_drew ?_))); (case side2 => exact HC1.out); rintro e w' ⟨rfl, ⟨nd, rfl⟩⟩; refine ⟨_, rfl, ?_⟩))
      go_meet
      case rel => exact ⟨_, (true), (by first | rfl | (simp; done) | (simp [*]; done)), H', ⟨by first | omega | exact Nat.le_refl _⟩, ⟨by (with_reducible repeat (first | apply Kd.V_alloc | apply Kd.V_drewN | apply Kd.V_drew)); exact Kd.V_mono HO197.out (fun _ hk => trivial)⟩, ⟨by repeat (first | (with_reducible first | exact HB.out | apply below_alloc | apply pw_below_drewN | apply below_drew1) | exact HB.out)⟩⟩
    rw [if_pos c14] at H
    have c14b0 : (t198 == 0) = true := beq_iff_eq.mpr c14
    have c14b1 : (t198 != 0) = false := bne_eq_false_iff_eq.mpr c14
    clear c14
    (first | rw [c14b0] | (simp only [i64_w, i32_w]; rw [c14b0]) | skip)
    by_cases c15 : 0 < (t195.length : Int)
    case neg =>
      rw [if_neg c15] at H
      exact absurd H (by simp)
    rw [if_pos c15] at H
    have c15b0 := eq_true c15
    have c15b1 : decide (0 < (t195.length : Int)) = true := decide_eq_true c15
    (try have c15b9 : (v196).isNone = false := by first | exact lat_some_V HO197.out c15 | exact lat_some_C HO197.out c15)
    clear c15
    have H' := Aside0.mk H
    clear H
    go_wp2_with (first | ((with_reducible refine gate_callee (f := 7) rfl ?_); refine goesL_ (some 21) rfl rfl Try.func7 (by kernel_rfl) rfl #[.slice A1 l1.length c1] rfl (by (try simp only [List.map_toArray, List.map_cons, List.map_nil]); first | done | rfl | (simp only [List.length_drop, List.length_take]; rfl)) ?_; (with_reducible refine (keyholelaw02_light.calls k _ _ l1 true _ ?side1 ?side2 A12.out).mono ?_); (case side1 => repeat (first | exact (Kd.C_below HR1.out HB.out) | (with_reducible refine Kd.C_alloc ?_ _) | (with_reducible refine Kd.C_drewN ?_ _) | (with_reducible refine Kd.C_drew ?_))); (case side2 => exact HC1.out); rintro e w' ⟨rfl, ⟨nd, rfl⟩⟩; refine ⟨_, rfl, ?_⟩; obtain ⟨Ao16, co16, eo16⟩ := Kd.V_slice HO197.out; subst eo16; (try have hzo16 : (Ao16).isNone = false := lat_some_V HO197.out (of_eq_true (by assumption)))))
    go_meet
    case rel => exact ⟨_, (false), (by first | rfl | (simp; done) | (simp [*]; done)), H', ⟨by first | omega | exact Nat.le_refl _⟩, ⟨by (with_reducible repeat (first | apply Kd.V_alloc | apply Kd.V_drewN | apply Kd.V_drew)); exact Kd.V_mono HO197.out (fun _ hk => trivial)⟩, ⟨by repeat (first | (with_reducible first | exact HB.out | apply below_alloc | apply pw_below_drewN | apply below_drew1) | exact HB.out)⟩⟩
  clear HC6
  try clear c1
  try clear p2
  try clear c5
  try clear c7
  try clear c9
  try clear c10
  try clear c13
  try clear c14
  try clear c14b0
  try clear c14b1
  try clear c15
  try clear c15b0
  try clear c15b1
  obtain ⟨kq, x30_5, rfl, HA, HJ5, HO_7, HB⟩ := hcut
  rcases kq with _ | kj5
  · exact absurd HA.out (by simp [keyholelaw02_AuthDown.j0])
  have H := HA.out
  clear HA
  simp only [keyholelaw02_AuthDown.j0] at H
  by_cases c17 : x30_5 = true
  · subst c17
    have H1 : (if t198 = 0 then ((keyholelaw02_lives.f kj5).bind fun t200 => (some t200)) else (none)) = some r := by rw [if_pos rfl] at H; exact H
    clear H
    have H := H1
    clear H1
    by_cases c18 : t198 = 0
    case neg =>
      rw [if_neg c18] at H
      exact absurd H (by simp)
    rw [if_pos c18] at H
    have c18b0 : (t198 == 0) = true := beq_iff_eq.mpr c18
    have c18b1 : (t198 != 0) = false := bne_eq_false_iff_eq.mpr c18
    clear c18
    replace H := Option.bind_eq_some_iff.mp H
    obtain ⟨t200, A190, H⟩ := H
    replace H : (some t200) = some r := H
    have A19 := Aside0.mk A190
    clear A190
    obtain rfl := Option.some.inj H
    go_wp2_with (first | (go_at_call 8; (with_reducible refine (keyholelaw02_lives.calls kj5  t200 _ A19.out).mono ?_); rintro e w20 ⟨rfl, hb⟩; have n0_ := Aside0.mk (Kd.V_below (by (with_reducible repeat (first | apply Kd.V_alloc | apply Kd.V_drewN | apply Kd.V_drew)); exact HO_7.out) hb); have n1_ := Aside0.mk (below_step (by repeat (first | (with_reducible first | exact HB.out | apply below_alloc | apply pw_below_drewN | apply below_drew1) | exact HB.out)) hb); clear HO_7; clear HB; have HO_7 := n0_; have HB := n1_; clear n0_ n1_; (try clear hb); (try clear hb2); (try clear hk); (try clear hi)))
    go_ret
    exact ⟨by first | rfl | (simp [errW_none, errW_some] <;> rfl) | (simp [*, errW_none, errW_some] <;> rfl), by repeat (first | (with_reducible first | exact HB.out | apply below_alloc | apply pw_below_drewN | apply below_drew1) | exact HB.out)⟩
  replace c17 := Bool.eq_false_iff.mpr c17
  subst c17
  have H1 : (keyholelaw02_AuthDown.l0 kj5 l1 a2 t195 0) = some r := by rw [if_neg (show ¬ (false = true) by decide)] at H; exact H
  clear H
  have H := H1
  clear H1
  have H' := Aside0.mk H
  clear H
  go_wp2
  go_loopg [9] kj5 (fun kq v9 w' => ∃ (x9_2 : Int), v9 = .int .i64 x9_2 ∧ Aside0 (keyholelaw02_AuthDown.l0 kq l1 a2 t195 x9_2 = some r) ∧ Aside0 (kq ≤ kj5) ∧ Aside0 (Kd.V klat 64 w' w.heap.size (fun _ => True) v196 t195) ∧ Aside0 (Below w.heap.size w w'))
  case atStart => exact ⟨(0), (by first | rfl | (simp; done) | (simp [*]; done)), H', ⟨Nat.le_refl _⟩, ⟨by (with_reducible repeat (first | apply Kd.V_alloc | apply Kd.V_drewN | apply Kd.V_drew)); exact HO_7.out⟩, ⟨by repeat (first | (with_reducible first | exact HB.out | apply below_alloc | apply pw_below_drewN | apply below_drew1) | exact HB.out)⟩⟩
  clear H'
  try clear c1
  try clear p2
  try clear c5
  try clear c7
  try clear c9
  try clear c10
  try clear c13
  try clear c14
  try clear c14b0
  try clear c14b1
  try clear c15
  try clear c15b0
  try clear c15b1
  try clear c17
  try clear c18
  try clear c18b0
  try clear c18b1
  try clear p2
  obtain ⟨x9_2, rfl, HA, HK2, HO_7, HB⟩ := hrel
  rcases gk with _ | k2
  · exact absurd HA.out (by simp [keyholelaw02_AuthDown.l0])
  have H := HA.out
  clear HA
  simp only [keyholelaw02_AuthDown.l0] at H
  replace H := Option.bind_eq_some_iff.mp H
  obtain ⟨t201, A210, H⟩ := H
  replace H : (if x9_2 < t201 then (keyholelaw02_AuthDown.l1 k2 l1 a2 t195 x9_2 0) else ((auth_Find.f k2 l1 a2).bind fun bt206 => (keyholelaw02_AuthDown.l2 k2 l1 a2 t195 bt206.1 bt206.2 0))) = some r := H
  have A21 := Aside0.mk A210
  clear A210
  by_cases c22 : x9_2 < t201
  · rw [if_pos c22] at H
    have c22b0 : decide (x9_2 < t201) = true := decide_eq_true c22
    clear c22
    have H' := Aside0.mk H
    clear H
    obtain ⟨Ao23, co23, eo23⟩ := Kd.V_slice HO_7.out
    subst eo23
    (try have hzo23 : (Ao23).isNone = false := lat_some_V HO_7.out (of_eq_true (by assumption)))
    go_wp2_with (first | ((with_reducible refine gate_callee (f := 18) rfl ?_); refine goesL_ (some 38) rfl rfl Try.func18 (by kernel_rfl) rfl #[.pointer Ao23] rfl (by (try simp only [List.map_toArray, List.map_cons, List.map_nil]); first | done | rfl | (simp only [List.length_drop, List.length_take]; rfl)) ?_; (with_reducible refine (level_Lattice_Size.calls _ t195 t201 _ ?side1 A21.out).mono ?_); (case side1 => repeat (first | exact (Kd.V_reads' HO_7.out).2.2 | (with_reducible refine Kd.C_alloc ?_ _) | (with_reducible refine Kd.C_drewN ?_ _) | (with_reducible refine Kd.C_drew ?_))); rintro e w' ⟨rfl, ⟨nd, rfl⟩⟩; refine ⟨_, rfl, ?_⟩))
    go_loopg [10] k2 (fun kq v10 w' => ∃ (x10_3 : Int), v10 = .int .i64 x10_3 ∧ Aside0 (keyholelaw02_AuthDown.l1 kq l1 a2 t195 x9_2 x10_3 = some r) ∧ Aside0 (kq ≤ k2) ∧ Aside0 (Kd.V klat 64 w' w.heap.size (fun _ => True) (.slice Ao23 t195.length co23) t195) ∧ Aside0 (Below w.heap.size w w'))
    case atStart => exact ⟨(0), (by first | rfl | (simp; done) | (simp [*]; done)), H', ⟨Nat.le_refl _⟩, ⟨by (with_reducible repeat (first | apply Kd.V_alloc | apply Kd.V_drewN | apply Kd.V_drew)); exact HO_7.out⟩, ⟨by repeat (first | (with_reducible first | exact HB.out | apply below_alloc | apply pw_below_drewN | apply below_drew1) | exact HB.out)⟩⟩
    clear H'
    try clear c1
    try clear c2
    try clear p2
    try clear c5
    try clear c7
    try clear c9
    try clear c10
    try clear c13
    try clear c14
    try clear c14b0
    try clear c14b1
    try clear c15
    try clear c15b0
    try clear c15b1
    try clear c17
    try clear c18
    try clear c18b0
    try clear c18b1
    try clear c22
    try clear c22b0
    try clear p2
    obtain ⟨x10_3, rfl, HA, HK3, HO_7, HB⟩ := hrel
    rcases gk with _ | k3
    · exact absurd HA.out (by simp [keyholelaw02_AuthDown.l1])
    have H := HA.out
    clear HA
    simp only [keyholelaw02_AuthDown.l1] at H
    replace H := Option.bind_eq_some_iff.mp H
    obtain ⟨t202, A240, H⟩ := H
    replace H : (if x10_3 < t202 then ((level_Lattice_Leq.f t195 x9_2 x10_3).bind fun t203 => (if t203 = true then ((auth_Over.f k3 t195 l1 a2 x10_3).bind fun t204 => (if t204 = true then ((auth_Over.f k3 t195 l1 a2 x9_2).bind fun t205 => (if t205 = true then (keyholelaw02_AuthDown.l1 k3 l1 a2 t195 x9_2 (wrap64 (x10_3 + 1))) else (none))) else (keyholelaw02_AuthDown.l1 k3 l1 a2 t195 x9_2 (wrap64 (x10_3 + 1))))) else (keyholelaw02_AuthDown.l1 k3 l1 a2 t195 x9_2 (wrap64 (x10_3 + 1))))) else (keyholelaw02_AuthDown.l0 k3 l1 a2 t195 (wrap64 (x9_2 + 1)))) = some r := H
    have A24 := Aside0.mk A240
    clear A240
    by_cases c25 : x10_3 < t202
    case neg =>
      rw [if_neg c25] at H
      have c25b0 : decide (x10_3 < t202) = false := decide_eq_false c25
      clear c25
      have H' := Aside0.mk H
      clear H
      go_wp2_with (first | ((with_reducible refine gate_callee (f := 18) rfl ?_); refine goesL_ (some 44) rfl rfl Try.func18 (by kernel_rfl) rfl #[.pointer Ao23] rfl (by (try simp only [List.map_toArray, List.map_cons, List.map_nil]); first | done | rfl | (simp only [List.length_drop, List.length_take]; rfl)) ?_; (with_reducible refine (level_Lattice_Size.calls _ t195 t202 _ ?side1 A24.out).mono ?_); (case side1 => repeat (first | exact (Kd.V_reads' HO_7.out).2.2 | (with_reducible refine Kd.C_alloc ?_ _) | (with_reducible refine Kd.C_drewN ?_ _) | (with_reducible refine Kd.C_drew ?_))); rintro e w' ⟨rfl, ⟨nd, rfl⟩⟩; refine ⟨_, rfl, ?_⟩))
      go_roundg k3
      case measure => have := HJ5.out; have := HK2.out; have := HK3.out; omega
      case rel => exact ⟨(wrap64 (x9_2 + 1)), (by first | rfl | (simp; done) | (simp [*]; done)), H', ⟨by have := HJ5.out; have := HK2.out; have := HK3.out; omega⟩, ⟨by (with_reducible repeat (first | apply Kd.V_alloc | apply Kd.V_drewN | apply Kd.V_drew)); exact HO_7.out⟩, ⟨by repeat (first | (with_reducible first | exact HB.out | apply below_alloc | apply pw_below_drewN | apply below_drew1) | exact HB.out)⟩⟩
    rw [if_pos c25] at H
    have c25b0 : decide (x10_3 < t202) = true := decide_eq_true c25
    clear c25
    replace H := Option.bind_eq_some_iff.mp H
    obtain ⟨t203, A260, H⟩ := H
    replace H : (if t203 = true then ((auth_Over.f k3 t195 l1 a2 x10_3).bind fun t204 => (if t204 = true then ((auth_Over.f k3 t195 l1 a2 x9_2).bind fun t205 => (if t205 = true then (keyholelaw02_AuthDown.l1 k3 l1 a2 t195 x9_2 (wrap64 (x10_3 + 1))) else (none))) else (keyholelaw02_AuthDown.l1 k3 l1 a2 t195 x9_2 (wrap64 (x10_3 + 1))))) else (keyholelaw02_AuthDown.l1 k3 l1 a2 t195 x9_2 (wrap64 (x10_3 + 1)))) = some r := H
    have A26 := Aside0.mk A260
    clear A260
    by_cases c27 : t203 = true
    case neg =>
      replace c27 := Bool.eq_false_iff.mpr c27
      subst c27
      have H1 : (keyholelaw02_AuthDown.l1 k3 l1 a2 t195 x9_2 (wrap64 (x10_3 + 1))) = some r := by rw [if_neg (show ¬ (false = true) by decide)] at H; exact H
      clear H
      have H := H1
      clear H1
      have H' := Aside0.mk H
      clear H
      go_wp2_with (first | ((with_reducible refine gate_callee (f := 18) rfl ?_); refine goesL_ (some 44) rfl rfl Try.func18 (by kernel_rfl) rfl #[.pointer Ao23] rfl (by (try simp only [List.map_toArray, List.map_cons, List.map_nil]); first | done | rfl | (simp only [List.length_drop, List.length_take]; rfl)) ?_; (with_reducible refine (level_Lattice_Size.calls _ t195 t202 _ ?side1 A24.out).mono ?_); (case side1 => repeat (first | exact (Kd.V_reads' HO_7.out).2.2 | (with_reducible refine Kd.C_alloc ?_ _) | (with_reducible refine Kd.C_drewN ?_ _) | (with_reducible refine Kd.C_drew ?_))); rintro e w' ⟨rfl, ⟨nd, rfl⟩⟩; refine ⟨_, rfl, ?_⟩) | ((with_reducible refine gate_callee (f := 19) rfl ?_); refine goesL_ (some 51) rfl rfl Try.func19 (by kernel_rfl) rfl #[.pointer Ao23, .int .i64 x9_2, .int .i64 x10_3] rfl (by (try simp only [List.map_toArray, List.map_cons, List.map_nil]); first | done | rfl | (simp only [List.length_drop, List.length_take]; rfl)) ?_; (with_reducible refine (level_Lattice_Leq.calls _ t195 x9_2 x10_3 false _ ?side1 A26.out).mono ?_); (case side1 => repeat (first | exact (Kd.V_reads' HO_7.out).2.2 | (with_reducible refine Kd.C_alloc ?_ _) | (with_reducible refine Kd.C_drewN ?_ _) | (with_reducible refine Kd.C_drew ?_))); rintro e w' ⟨rfl, ⟨nd, rfl⟩⟩; refine ⟨_, rfl, ?_⟩))
      go_roundg k3
      case measure => have := HJ5.out; have := HK2.out; have := HK3.out; omega
      case rel => exact ⟨(wrap64 (x10_3 + 1)), (by first | rfl | (simp; done) | (simp [*]; done)), H', ⟨by have := HJ5.out; have := HK2.out; have := HK3.out; omega⟩, ⟨by (with_reducible repeat (first | apply Kd.V_alloc | apply Kd.V_drewN | apply Kd.V_drew)); exact HO_7.out⟩, ⟨by repeat (first | (with_reducible first | exact HB.out | apply below_alloc | apply pw_below_drewN | apply below_drew1) | exact HB.out)⟩⟩
    subst c27
    have H1 : ((auth_Over.f k3 t195 l1 a2 x10_3).bind fun t204 => (if t204 = true then ((auth_Over.f k3 t195 l1 a2 x9_2).bind fun t205 => (if t205 = true then (keyholelaw02_AuthDown.l1 k3 l1 a2 t195 x9_2 (wrap64 (x10_3 + 1))) else (none))) else (keyholelaw02_AuthDown.l1 k3 l1 a2 t195 x9_2 (wrap64 (x10_3 + 1))))) = some r := by rw [if_pos rfl] at H; exact H
    clear H
    have H := H1
    clear H1
    replace H := Option.bind_eq_some_iff.mp H
    obtain ⟨t204, A280, H⟩ := H
    replace H : (if t204 = true then ((auth_Over.f k3 t195 l1 a2 x9_2).bind fun t205 => (if t205 = true then (keyholelaw02_AuthDown.l1 k3 l1 a2 t195 x9_2 (wrap64 (x10_3 + 1))) else (none))) else (keyholelaw02_AuthDown.l1 k3 l1 a2 t195 x9_2 (wrap64 (x10_3 + 1)))) = some r := H
    have A28 := Aside0.mk A280
    clear A280
    by_cases c29 : t204 = true
    case neg =>
      replace c29 := Bool.eq_false_iff.mpr c29
      subst c29
      have H1 : (keyholelaw02_AuthDown.l1 k3 l1 a2 t195 x9_2 (wrap64 (x10_3 + 1))) = some r := by rw [if_neg (show ¬ (false = true) by decide)] at H; exact H
      clear H
      have H := H1
      clear H1
      have H' := Aside0.mk H
      clear H
      go_wp2_with (first | ((with_reducible refine gate_callee (f := 18) rfl ?_); refine goesL_ (some 44) rfl rfl Try.func18 (by kernel_rfl) rfl #[.pointer Ao23] rfl (by (try simp only [List.map_toArray, List.map_cons, List.map_nil]); first | done | rfl | (simp only [List.length_drop, List.length_take]; rfl)) ?_; (with_reducible refine (level_Lattice_Size.calls _ t195 t202 _ ?side1 A24.out).mono ?_); (case side1 => repeat (first | exact (Kd.V_reads' HO_7.out).2.2 | (with_reducible refine Kd.C_alloc ?_ _) | (with_reducible refine Kd.C_drewN ?_ _) | (with_reducible refine Kd.C_drew ?_))); rintro e w' ⟨rfl, ⟨nd, rfl⟩⟩; refine ⟨_, rfl, ?_⟩) | ((with_reducible refine gate_callee (f := 19) rfl ?_); refine goesL_ (some 51) rfl rfl Try.func19 (by kernel_rfl) rfl #[.pointer Ao23, .int .i64 x9_2, .int .i64 x10_3] rfl (by (try simp only [List.map_toArray, List.map_cons, List.map_nil]); first | done | rfl | (simp only [List.length_drop, List.length_take]; rfl)) ?_; (with_reducible refine (level_Lattice_Leq.calls _ t195 x9_2 x10_3 true _ ?side1 A26.out).mono ?_); (case side1 => repeat (first | exact (Kd.V_reads' HO_7.out).2.2 | (with_reducible refine Kd.C_alloc ?_ _) | (with_reducible refine Kd.C_drewN ?_ _) | (with_reducible refine Kd.C_drew ?_))); rintro e w' ⟨rfl, ⟨nd, rfl⟩⟩; refine ⟨_, rfl, ?_⟩) | (go_at_call 17; (with_reducible refine (auth_Over.calls k3 _ t195 _ _ l1 a2 x10_3 false _ ?side1 ?side2 ?side3 A28.out).mono ?_); (case side1 => repeat (first | exact (Kd.V_reads' HO_7.out).2.2 | (with_reducible refine Kd.C_alloc ?_ _) | (with_reducible refine Kd.C_drewN ?_ _) | (with_reducible refine Kd.C_drew ?_))); (case side2 => repeat (first | exact (Kd.C_below HR1.out (by repeat (first | (with_reducible first | exact HB.out | apply below_alloc | apply pw_below_drewN | apply below_drew1) | exact HB.out))) | (with_reducible refine Kd.C_alloc ?_ _) | (with_reducible refine Kd.C_drewN ?_ _) | (with_reducible refine Kd.C_drew ?_))); (case side3 => exact HC1.out); rintro e w34 ⟨rfl, hb⟩; have n0_ := Aside0.mk (Kd.V_below (by (with_reducible repeat (first | apply Kd.V_alloc | apply Kd.V_drewN | apply Kd.V_drew)); exact HO_7.out) hb); have n1_ := Aside0.mk (below_step (by repeat (first | (with_reducible first | exact HB.out | apply below_alloc | apply pw_below_drewN | apply below_drew1) | exact HB.out)) hb); clear HO_7; clear HB; have HO_7 := n0_; have HB := n1_; clear n0_ n1_; (try clear hb); (try clear hb2); (try clear hk); (try clear hi)))
      go_roundg k3
      case measure => have := HJ5.out; have := HK2.out; have := HK3.out; omega
      case rel => exact ⟨(wrap64 (x10_3 + 1)), (by first | rfl | (simp; done) | (simp [*]; done)), H', ⟨by have := HJ5.out; have := HK2.out; have := HK3.out; omega⟩, ⟨by (with_reducible repeat (first | apply Kd.V_alloc | apply Kd.V_drewN | apply Kd.V_drew)); exact HO_7.out⟩, ⟨by repeat (first | (with_reducible first | exact HB.out | apply below_alloc | apply pw_below_drewN | apply below_drew1) | exact HB.out)⟩⟩
    subst c29
    have H1 : ((auth_Over.f k3 t195 l1 a2 x9_2).bind fun t205 => (if t205 = true then (keyholelaw02_AuthDown.l1 k3 l1 a2 t195 x9_2 (wrap64 (x10_3 + 1))) else (none))) = some r := by rw [if_pos rfl] at H; exact H
    clear H
    have H := H1
    clear H1
    replace H := Option.bind_eq_some_iff.mp H
    obtain ⟨t205, A300, H⟩ := H
    replace H : (if t205 = true then (keyholelaw02_AuthDown.l1 k3 l1 a2 t195 x9_2 (wrap64 (x10_3 + 1))) else (none)) = some r := H
    have A30 := Aside0.mk A300
    clear A300
    by_cases c31 : t205 = true
    case neg =>
      replace c31 := Bool.eq_false_iff.mpr c31
      subst c31
      have H1 : (none) = some r := by rw [if_neg (show ¬ (false = true) by decide)] at H; exact H
      clear H
      have H := H1
      clear H1
      exact absurd H (by simp)
    subst c31
    have H1 : (keyholelaw02_AuthDown.l1 k3 l1 a2 t195 x9_2 (wrap64 (x10_3 + 1))) = some r := by rw [if_pos rfl] at H; exact H
    clear H
    have H := H1
    clear H1
    have H' := Aside0.mk H
    clear H
    go_wp2_with (first | ((with_reducible refine gate_callee (f := 18) rfl ?_); refine goesL_ (some 44) rfl rfl Try.func18 (by kernel_rfl) rfl #[.pointer Ao23] rfl (by (try simp only [List.map_toArray, List.map_cons, List.map_nil]); first | done | rfl | (simp only [List.length_drop, List.length_take]; rfl)) ?_; (with_reducible refine (level_Lattice_Size.calls _ t195 t202 _ ?side1 A24.out).mono ?_); (case side1 => repeat (first | exact (Kd.V_reads' HO_7.out).2.2 | (with_reducible refine Kd.C_alloc ?_ _) | (with_reducible refine Kd.C_drewN ?_ _) | (with_reducible refine Kd.C_drew ?_))); rintro e w' ⟨rfl, ⟨nd, rfl⟩⟩; refine ⟨_, rfl, ?_⟩) | ((with_reducible refine gate_callee (f := 19) rfl ?_); refine goesL_ (some 51) rfl rfl Try.func19 (by kernel_rfl) rfl #[.pointer Ao23, .int .i64 x9_2, .int .i64 x10_3] rfl (by (try simp only [List.map_toArray, List.map_cons, List.map_nil]); first | done | rfl | (simp only [List.length_drop, List.length_take]; rfl)) ?_; (with_reducible refine (level_Lattice_Leq.calls _ t195 x9_2 x10_3 true _ ?side1 A26.out).mono ?_); (case side1 => repeat (first | exact (Kd.V_reads' HO_7.out).2.2 | (with_reducible refine Kd.C_alloc ?_ _) | (with_reducible refine Kd.C_drewN ?_ _) | (with_reducible refine Kd.C_drew ?_))); rintro e w' ⟨rfl, ⟨nd, rfl⟩⟩; refine ⟨_, rfl, ?_⟩) | (go_at_call 17; (with_reducible refine (auth_Over.calls k3 _ t195 _ _ l1 a2 x10_3 true _ ?side1 ?side2 ?side3 A28.out).mono ?_); (case side1 => repeat (first | exact (Kd.V_reads' HO_7.out).2.2 | (with_reducible refine Kd.C_alloc ?_ _) | (with_reducible refine Kd.C_drewN ?_ _) | (with_reducible refine Kd.C_drew ?_))); (case side2 => repeat (first | exact (Kd.C_below HR1.out (by repeat (first | (with_reducible first | exact HB.out | apply below_alloc | apply pw_below_drewN | apply below_drew1) | exact HB.out))) | (with_reducible refine Kd.C_alloc ?_ _) | (with_reducible refine Kd.C_drewN ?_ _) | (with_reducible refine Kd.C_drew ?_))); (case side3 => exact HC1.out); rintro e w32 ⟨rfl, hb⟩; have n0_ := Aside0.mk (Kd.V_below (by (with_reducible repeat (first | apply Kd.V_alloc | apply Kd.V_drewN | apply Kd.V_drew)); exact HO_7.out) hb); have n1_ := Aside0.mk (below_step (by repeat (first | (with_reducible first | exact HB.out | apply below_alloc | apply pw_below_drewN | apply below_drew1) | exact HB.out)) hb); clear HO_7; clear HB; have HO_7 := n0_; have HB := n1_; clear n0_ n1_; (try clear hb); (try clear hb2); (try clear hk); (try clear hi)) | (go_at_call 17; (with_reducible refine (auth_Over.calls k3 _ t195 _ _ l1 a2 x9_2 true _ ?side1 ?side2 ?side3 A30.out).mono ?_); (case side1 => repeat (first | exact (Kd.V_reads' HO_7.out).2.2 | (with_reducible refine Kd.C_alloc ?_ _) | (with_reducible refine Kd.C_drewN ?_ _) | (with_reducible refine Kd.C_drew ?_))); (case side2 => repeat (first | exact (Kd.C_below HR1.out HB.out) | (with_reducible refine Kd.C_alloc ?_ _) | (with_reducible refine Kd.C_drewN ?_ _) | (with_reducible refine Kd.C_drew ?_))); (case side3 => exact HC1.out); rintro e w33 ⟨rfl, hb⟩; have n0_ := Aside0.mk (Kd.V_below (by (with_reducible repeat (first | apply Kd.V_alloc | apply Kd.V_drewN | apply Kd.V_drew)); exact HO_7.out) hb); have n1_ := Aside0.mk (below_step (by repeat (first | (with_reducible first | exact HB.out | apply below_alloc | apply pw_below_drewN | apply below_drew1) | exact HB.out)) hb); clear HO_7; clear HB; have HO_7 := n0_; have HB := n1_; clear n0_ n1_; (try clear hb); (try clear hb2); (try clear hk); (try clear hi)))
    go_roundg k3
    case measure => have := HJ5.out; have := HK2.out; have := HK3.out; omega
    case rel => exact ⟨(wrap64 (x10_3 + 1)), (by first | rfl | (simp; done) | (simp [*]; done)), H', ⟨by have := HJ5.out; have := HK2.out; have := HK3.out; omega⟩, ⟨by (with_reducible repeat (first | apply Kd.V_alloc | apply Kd.V_drewN | apply Kd.V_drew)); exact HO_7.out⟩, ⟨by repeat (first | (with_reducible first | exact HB.out | apply below_alloc | apply pw_below_drewN | apply below_drew1) | exact HB.out)⟩⟩
  rw [if_neg c22] at H
  have c22b0 : decide (x9_2 < t201) = false := decide_eq_false c22
  clear c22
  replace H := Option.bind_eq_some_iff.mp H
  obtain ⟨⟨t206, t207⟩, A350, H⟩ := H
  replace H : (keyholelaw02_AuthDown.l2 k2 l1 a2 t195 t206 t207 0) = some r := H
  have A35 := Aside0.mk A350
  clear A350
  have H' := Aside0.mk H
  clear H
  obtain ⟨Ao36, co36, eo36⟩ := Kd.V_slice HO_7.out
  subst eo36
  (try have hzo36 : (Ao36).isNone = false := lat_some_V HO_7.out (of_eq_true (by assumption)))
  go_wp2_with (first | ((with_reducible refine gate_callee (f := 18) rfl ?_); refine goesL_ (some 38) rfl rfl Try.func18 (by kernel_rfl) rfl #[.pointer Ao36] rfl (by (try simp only [List.map_toArray, List.map_cons, List.map_nil]); first | done | rfl | (simp only [List.length_drop, List.length_take]; rfl)) ?_; (with_reducible refine (level_Lattice_Size.calls _ t195 t201 _ ?side1 A21.out).mono ?_); (case side1 => repeat (first | exact (Kd.V_reads' HO_7.out).2.2 | (with_reducible refine Kd.C_alloc ?_ _) | (with_reducible refine Kd.C_drewN ?_ _) | (with_reducible refine Kd.C_drew ?_))); rintro e w' ⟨rfl, ⟨nd, rfl⟩⟩; refine ⟨_, rfl, ?_⟩) | ((with_reducible refine gate_callee (f := 15) rfl ?_); refine goesL_ (some 70) rfl rfl Try.func15 (by kernel_rfl) rfl #[.slice A1 l1.length c1, .string a2] rfl (by (try simp only [List.map_toArray, List.map_cons, List.map_nil]); first | done | rfl | (simp only [List.length_drop, List.length_take]; rfl)) ?_; (with_reducible refine (auth_Find.calls k2 _ _ l1 a2 t206 t207 _ ?side1 ?side2 A35.out).mono ?_); (case side1 => repeat (first | exact (Kd.C_below HR1.out (by repeat (first | (with_reducible first | exact HB.out | apply below_alloc | apply pw_below_drewN | apply below_drew1) | exact HB.out))) | (with_reducible refine Kd.C_alloc ?_ _) | (with_reducible refine Kd.C_drewN ?_ _) | (with_reducible refine Kd.C_drew ?_))); (case side2 => exact HC1.out); rintro e w37 ⟨rfl, hb⟩; refine ⟨_, rfl, ?_⟩; have n0_ := Aside0.mk (Kd.V_below (by (with_reducible repeat (first | apply Kd.V_alloc | apply Kd.V_drewN | apply Kd.V_drew)); exact HO_7.out) hb); have n1_ := Aside0.mk (below_step (by repeat (first | (with_reducible first | exact HB.out | apply below_alloc | apply pw_below_drewN | apply below_drew1) | exact HB.out)) hb); clear HO_7; clear HB; have HO_7 := n0_; have HB := n1_; clear n0_ n1_; (try clear hb); (try clear hb2); (try clear hk); (try clear hi)))
  go_loopg [13] k2 (fun kq v13 w' => ∃ (x13_3 : Int), v13 = .int .i64 x13_3 ∧ Aside0 (keyholelaw02_AuthDown.l2 kq l1 a2 t195 t206 t207 x13_3 = some r) ∧ Aside0 (kq ≤ k2) ∧ Aside0 (Kd.V klat 64 w' w.heap.size (fun _ => True) (.slice Ao36 t195.length co36) t195) ∧ Aside0 (Below w.heap.size w w'))
  case atStart => exact ⟨(0), (by first | rfl | (simp; done) | (simp [*]; done)), H', ⟨Nat.le_refl _⟩, ⟨by (with_reducible repeat (first | apply Kd.V_alloc | apply Kd.V_drewN | apply Kd.V_drew)); exact HO_7.out⟩, ⟨by repeat (first | (with_reducible first | exact HB.out | apply below_alloc | apply pw_below_drewN | apply below_drew1) | exact HB.out)⟩⟩
  clear H'
  try clear c1
  try clear c2
  try clear p2
  try clear c3
  try clear c5
  try clear p6
  try clear c7
  try clear c9
  try clear c10
  try clear c13
  try clear c14
  try clear c14b0
  try clear c14b1
  try clear c15
  try clear c15b0
  try clear c15b1
  try clear c17
  try clear c18
  try clear c18b0
  try clear c18b1
  try clear c19
  try clear c22
  try clear c22b0
  try clear c25
  try clear c25b0
  try clear c27
  try clear c29
  try clear c31
  try clear p2
  obtain ⟨x13_3, rfl, HA, HK3, HO_7, HB⟩ := hrel
  rcases gk with _ | k3
  · exact absurd HA.out (by simp [keyholelaw02_AuthDown.l2])
  have H := HA.out
  clear HA
  simp only [keyholelaw02_AuthDown.l2] at H
  have HC38 := Aside0.mk H
  clear H
  go_upto_region 14 with (fail)
  go_cut [83] (fun v83 wc => ∃ (kq : Nat) (x83_37 : Bool), v83 = .bool x83_37 ∧ Aside0 (keyholelaw02_AuthDown.j4 kq l1 a2 t195 t206 t207 x13_3 x83_37 = some r) ∧ Aside0 (kq ≤ k3) ∧ Aside0 (Kd.V klat 64 wc w.heap.size (fun _ => True) (.slice Ao36 t195.length co36) t195) ∧ Aside0 (Below w.heap.size w wc))
  case first =>
    have H := HC38.out
    clear HC38
    by_cases c39 : t207 = true
    case neg =>
      replace c39 := Bool.eq_false_iff.mpr c39
      subst c39
      have H1 : (keyholelaw02_AuthDown.j4 k3 l1 a2 t195 t206 false x13_3 false) = some r := by rw [if_neg (show ¬ (false = true) by decide)] at H; exact H
      clear H
      have H := H1
      clear H1
      have H' := Aside0.mk H
      clear H
      go_wp2
      go_meet
      case rel => exact ⟨_, (false), (by first | rfl | (simp; done) | (simp [*]; done)), H', ⟨by have := HJ5.out; have := HK2.out; have := HK3.out; first | omega | exact Nat.le_refl _⟩, ⟨by (with_reducible repeat (first | apply Kd.V_alloc | apply Kd.V_drewN | apply Kd.V_drew)); exact HO_7.out⟩, ⟨by repeat (first | (with_reducible first | exact HB.out | apply below_alloc | apply pw_below_drewN | apply below_drew1) | exact HB.out)⟩⟩
    subst c39
    have H1 : (if 0 ≤ t206 then (if t206 < (l1.length : Int) then (keyholelaw02_AuthDown.j4 k3 l1 a2 t195 t206 true x13_3 (decide (x13_3 < (((rd_T36 l1 t206).f1).length : Int)))) else (none)) else (none)) = some r := by rw [if_pos rfl] at H; exact H
    clear H
    have H := H1
    clear H1
    by_cases c40 : 0 ≤ t206
    case neg =>
      rw [if_neg c40] at H
      exact absurd H (by simp)
    rw [if_pos c40] at H
    have c40b0 : decide (0 ≤ t206) = true := decide_eq_true c40
    clear c40
    (first | rw [c40b0] | (simp only [i64_w, i32_w]; rw [c40b0]) | skip)
    by_cases c41 : t206 < (l1.length : Int)
    case neg =>
      rw [if_neg c41] at H
      exact absurd H (by simp)
    rw [if_pos c41] at H
    have c41b0 : decide (t206 < (l1.length : Int)) = true := decide_eq_true c41
    clear c41
    have H' := Aside0.mk H
    clear H
    have p208 : 0 ≤ (t206 : Int) := of_decide_eq_true (by first | (with_reducible assumption) | assumption)
    have q208 : t206 < (l1.length : Int) := of_decide_eq_true (by first | (with_reducible assumption) | assumption)
    obtain ⟨ad208, A208_1, c208_1, e208, hx208_0, hx208_1, hl208_1, hi208_1⟩ := at_T36 HR1.out t206 p208 q208
    cases e208
    replace hx208_0 := (HB.out.cell (World.block_lt_of_cell? w _ hx208_0)).trans hx208_0
    replace hx208_1 := (HB.out.cell (World.block_lt_of_cell? w _ hx208_1)).trans hx208_1
    have HR208_1 := Aside0.mk hi208_1
    have HC208_1 := Aside0.mk hl208_1
    clear hi208_1 hl208_1
    replace p208 := eq_true p208
    replace q208 := eq_true q208
    go_wp2
    go_meet
    case rel => exact ⟨_, (decide (x13_3 < (((rd_T36 l1 t206).f1).length : Int))), (by first | rfl | (simp; done) | (simp [*]; done)), H', ⟨by have := HJ5.out; have := HK2.out; have := HK3.out; first | omega | exact Nat.le_refl _⟩, ⟨by (with_reducible repeat (first | apply Kd.V_alloc | apply Kd.V_drewN | apply Kd.V_drew)); exact HO_7.out⟩, ⟨by repeat (first | (with_reducible first | exact HB.out | apply below_alloc | apply pw_below_drewN | apply below_drew1) | exact HB.out)⟩⟩
  clear HC38
  try clear c1
  try clear c2
  try clear p2
  try clear q2
  try clear hx2
  try clear c3
  try clear c4
  try clear c5
  try clear p6
  try clear c7
  try clear c9
  try clear c10
  try clear c13
  try clear c14
  try clear c14b0
  try clear c14b1
  try clear c15
  try clear c15b0
  try clear c15b1
  try clear c17
  try clear c18
  try clear c18b0
  try clear c18b1
  try clear c19
  try clear c20
  try clear p20
  try clear q20
  try clear hx20
  try clear c22
  try clear c22b0
  try clear c25
  try clear c25b0
  try clear c27
  try clear c29
  try clear c31
  try clear c39
  try clear c40
  try clear c40b0
  try clear c41
  try clear c41b0
  try clear hx208_0
  try clear hx208_1
  try clear p2
  try clear p208
  try clear p6
  try clear q208
  obtain ⟨kq, x83_37, rfl, HA, HJ37, HO_7, HB⟩ := hcut
  rcases kq with _ | kj37
  · exact absurd HA.out (by simp [keyholelaw02_AuthDown.j4])
  have H := HA.out
  clear HA
  simp only [keyholelaw02_AuthDown.j4] at H
  by_cases c42 : x83_37 = true
  case neg =>
    replace c42 := Bool.eq_false_iff.mpr c42
    subst c42
    have H1 : ((keyholelaw02_lives.f kj37).bind fun t209 => (some t209)) = some r := by rw [if_neg (show ¬ (false = true) by decide)] at H; exact H
    clear H
    have H := H1
    clear H1
    replace H := Option.bind_eq_some_iff.mp H
    obtain ⟨t209, A520, H⟩ := H
    replace H : (some t209) = some r := H
    have A52 := Aside0.mk A520
    clear A520
    obtain rfl := Option.some.inj H
    go_wp2_with (first | ((with_reducible refine gate_callee (f := 8) rfl ?_); refine goesL_ (some 111) rfl rfl Try.func8 (by kernel_rfl) rfl #[] rfl (by (try simp only [List.map_toArray, List.map_cons, List.map_nil]); first | done | rfl | (simp only [List.length_drop, List.length_take]; rfl)) ?_; (with_reducible refine (keyholelaw02_lives.calls kj37  t209 _ A52.out).mono ?_); rintro e w53 ⟨rfl, hb⟩; refine ⟨_, rfl, ?_⟩; have n0_ := Aside0.mk (Kd.V_below (by (with_reducible repeat (first | apply Kd.V_alloc | apply Kd.V_drewN | apply Kd.V_drew)); exact HO_7.out) hb); have n1_ := Aside0.mk (below_step (by repeat (first | (with_reducible first | exact HB.out | apply below_alloc | apply pw_below_drewN | apply below_drew1) | exact HB.out)) hb); clear HO_7; clear HB; have HO_7 := n0_; have HB := n1_; clear n0_ n1_; (try clear hb); (try clear hb2); (try clear hk); (try clear hi)))
    go_ret
    exact ⟨by first | rfl | (simp [errW_none, errW_some] <;> rfl) | (simp [*, errW_none, errW_some] <;> rfl), by repeat (first | (with_reducible first | exact HB.out | apply below_alloc | apply pw_below_drewN | apply below_drew1) | exact HB.out)⟩

  subst c42
  have H1 : (if 0 ≤ t206 then (if t206 < (l1.length : Int) then (if 0 ≤ x13_3 then (if x13_3 < (((rd_T36 l1 t206).f1).length : Int) then ((level_Lattice_Is.f t195 (rd ((rd_T36 l1 t206).f1) x13_3)).bind fun t212 => (if t212 = true then ((auth_Over.f kj37 t195 l1 a2 (rd ((rd_T36 l1 t206).f1) x13_3)).bind fun t215 => (if t215 = true then (keyholelaw02_AuthDown.l2 kj37 l1 a2 t195 t206 t207 (wrap64 (x13_3 + 1))) else (none))) else (keyholelaw02_AuthDown.l2 kj37 l1 a2 t195 t206 t207 (wrap64 (x13_3 + 1))))) else (none)) else (none)) else (none)) else (none)) = some r := by rw [if_pos rfl] at H; exact H
  clear H
  have H := H1
  clear H1
  by_cases c43 : 0 ≤ t206
  case neg =>
    rw [if_neg c43] at H
    exact absurd H (by simp)
  rw [if_pos c43] at H
  have c43b0 : decide (0 ≤ t206) = true := decide_eq_true c43
  clear c43
  by_cases c44 : t206 < (l1.length : Int)
  case neg =>
    rw [if_neg c44] at H
    exact absurd H (by simp)
  rw [if_pos c44] at H
  have c44b0 : decide (t206 < (l1.length : Int)) = true := decide_eq_true c44
  clear c44
  by_cases c45 : 0 ≤ x13_3
  case neg =>
    rw [if_neg c45] at H
    exact absurd H (by simp)
  rw [if_pos c45] at H
  have c45b0 : decide (0 ≤ x13_3) = true := decide_eq_true c45
  clear c45
  by_cases c46 : x13_3 < (((rd_T36 l1 t206).f1).length : Int)
  case neg =>
    rw [if_neg c46] at H
    exact absurd H (by simp)
  rw [if_pos c46] at H
  have c46b0 : decide (x13_3 < (((rd_T36 l1 t206).f1).length : Int)) = true := decide_eq_true c46
  clear c46
  replace H := Option.bind_eq_some_iff.mp H
  obtain ⟨t212, A470, H⟩ := H
  replace H : (if t212 = true then ((auth_Over.f kj37 t195 l1 a2 (rd ((rd_T36 l1 t206).f1) x13_3)).bind fun t215 => (if t215 = true then (keyholelaw02_AuthDown.l2 kj37 l1 a2 t195 t206 t207 (wrap64 (x13_3 + 1))) else (none))) else (keyholelaw02_AuthDown.l2 kj37 l1 a2 t195 t206 t207 (wrap64 (x13_3 + 1)))) = some r := H
  have A47 := Aside0.mk A470
  clear A470
  by_cases c48 : t212 = true
  case neg =>
    replace c48 := Bool.eq_false_iff.mpr c48
    subst c48
    have H1 : (keyholelaw02_AuthDown.l2 kj37 l1 a2 t195 t206 t207 (wrap64 (x13_3 + 1))) = some r := by rw [if_neg (show ¬ (false = true) by decide)] at H; exact H
    clear H
    have H := H1
    clear H1
    have H' := Aside0.mk H
    clear H
    have p210 : 0 ≤ (t206 : Int) := of_decide_eq_true (by first | (with_reducible assumption) | assumption)
    have q210 : t206 < (l1.length : Int) := of_decide_eq_true (by first | (with_reducible assumption) | assumption)
    obtain ⟨ad210, A210_1, c210_1, e210, hx210_0, hx210_1, hl210_1, hi210_1⟩ := at_T36 HR1.out t206 p210 q210
    cases e210
    replace hx210_0 := (HB.out.cell (World.block_lt_of_cell? w _ hx210_0)).trans hx210_0
    replace hx210_1 := (HB.out.cell (World.block_lt_of_cell? w _ hx210_1)).trans hx210_1
    have HR210_1 := Aside0.mk hi210_1
    have HC210_1 := Aside0.mk hl210_1
    clear hi210_1 hl210_1
    replace p210 := eq_true p210
    replace q210 := eq_true q210
    have p211 : 0 ≤ (x13_3 : Int) := of_decide_eq_true (by first | (with_reducible assumption) | assumption)
    have q211 : x13_3 < (((rd_T36 l1 t206).f1).length : Int) := of_decide_eq_true (by first | (with_reducible assumption) | assumption)
    obtain ⟨ad211, e211, hx211_0⟩ := Kd.at_int HR210_1.out x13_3 p211 q211
    cases e211
    replace hx211_0 := (HB.out.cell (World.block_lt_of_cell? w _ hx211_0)).trans hx211_0
    replace p211 := eq_true p211
    replace q211 := eq_true q211
    go_wp2_with (first | ((with_reducible refine gate_callee (f := 20) rfl ?_); refine goesL_ (some 95) rfl rfl Try.func20 (by kernel_rfl) rfl #[.pointer Ao36, .int .i64 (rd ((rd_T36 l1 t206).f1) x13_3)] rfl (by (try simp only [List.map_toArray, List.map_cons, List.map_nil]); first | done | rfl | (simp only [List.length_drop, List.length_take]; rfl)) ?_; (with_reducible refine (level_Lattice_Is.calls _ t195 (rd ((rd_T36 l1 t206).f1) x13_3) false _ ?side1 A47.out).mono ?_); (case side1 => repeat (first | exact (Kd.V_reads' HO_7.out).2.2 | (with_reducible refine Kd.C_alloc ?_ _) | (with_reducible refine Kd.C_drewN ?_ _) | (with_reducible refine Kd.C_drew ?_))); rintro e w' ⟨rfl, ⟨nd, rfl⟩⟩; refine ⟨_, rfl, ?_⟩))
    go_roundg kj37
    case measure => have := HJ5.out; have := HK2.out; have := HK3.out; have := HJ37.out; omega
    case rel => exact ⟨(wrap64 (x13_3 + 1)), (by first | rfl | (simp; done) | (simp [*]; done)), H', ⟨by have := HJ5.out; have := HK2.out; have := HK3.out; have := HJ37.out; omega⟩, ⟨by (with_reducible repeat (first | apply Kd.V_alloc | apply Kd.V_drewN | apply Kd.V_drew)); exact HO_7.out⟩, ⟨by repeat (first | (with_reducible first | exact HB.out | apply below_alloc | apply pw_below_drewN | apply below_drew1) | exact HB.out)⟩⟩
  subst c48
  have H1 : ((auth_Over.f kj37 t195 l1 a2 (rd ((rd_T36 l1 t206).f1) x13_3)).bind fun t215 => (if t215 = true then (keyholelaw02_AuthDown.l2 kj37 l1 a2 t195 t206 t207 (wrap64 (x13_3 + 1))) else (none))) = some r := by rw [if_pos rfl] at H; exact H
  clear H
  have H := H1
  clear H1
  replace H := Option.bind_eq_some_iff.mp H
  obtain ⟨t215, A490, H⟩ := H
  replace H : (if t215 = true then (keyholelaw02_AuthDown.l2 kj37 l1 a2 t195 t206 t207 (wrap64 (x13_3 + 1))) else (none)) = some r := H
  have A49 := Aside0.mk A490
  clear A490
  by_cases c50 : t215 = true
  case neg =>
    replace c50 := Bool.eq_false_iff.mpr c50
    subst c50
    have H1 : (none) = some r := by rw [if_neg (show ¬ (false = true) by decide)] at H; exact H
    clear H
    have H := H1
    clear H1
    exact absurd H (by simp)
  subst c50
  have H1 : (keyholelaw02_AuthDown.l2 kj37 l1 a2 t195 t206 t207 (wrap64 (x13_3 + 1))) = some r := by rw [if_pos rfl] at H; exact H
  clear H
  have H := H1
  clear H1
  have H' := Aside0.mk H
  clear H
  have p210 : 0 ≤ (t206 : Int) := of_decide_eq_true (by first | (with_reducible assumption) | assumption)
  have q210 : t206 < (l1.length : Int) := of_decide_eq_true (by first | (with_reducible assumption) | assumption)
  obtain ⟨ad210, A210_1, c210_1, e210, hx210_0, hx210_1, hl210_1, hi210_1⟩ := at_T36 HR1.out t206 p210 q210
  cases e210
  replace hx210_0 := (HB.out.cell (World.block_lt_of_cell? w _ hx210_0)).trans hx210_0
  replace hx210_1 := (HB.out.cell (World.block_lt_of_cell? w _ hx210_1)).trans hx210_1
  have HR210_1 := Aside0.mk hi210_1
  have HC210_1 := Aside0.mk hl210_1
  clear hi210_1 hl210_1
  replace p210 := eq_true p210
  replace q210 := eq_true q210
  have p211 : 0 ≤ (x13_3 : Int) := of_decide_eq_true (by first | (with_reducible assumption) | assumption)
  have q211 : x13_3 < (((rd_T36 l1 t206).f1).length : Int) := of_decide_eq_true (by first | (with_reducible assumption) | assumption)
  obtain ⟨ad211, e211, hx211_0⟩ := Kd.at_int HR210_1.out x13_3 p211 q211
  cases e211
  replace hx211_0 := (HB.out.cell (World.block_lt_of_cell? w _ hx211_0)).trans hx211_0
  replace p211 := eq_true p211
  replace q211 := eq_true q211
  go_wp2_with (first | ((with_reducible refine gate_callee (f := 20) rfl ?_); refine goesL_ (some 95) rfl rfl Try.func20 (by kernel_rfl) rfl #[.pointer Ao36, .int .i64 (rd ((rd_T36 l1 t206).f1) x13_3)] rfl (by (try simp only [List.map_toArray, List.map_cons, List.map_nil]); first | done | rfl | (simp only [List.length_drop, List.length_take]; rfl)) ?_; (with_reducible refine (level_Lattice_Is.calls _ t195 (rd ((rd_T36 l1 t206).f1) x13_3) true _ ?side1 A47.out).mono ?_); (case side1 => repeat (first | exact (Kd.V_reads' HO_7.out).2.2 | (with_reducible refine Kd.C_alloc ?_ _) | (with_reducible refine Kd.C_drewN ?_ _) | (with_reducible refine Kd.C_drew ?_))); rintro e w' ⟨rfl, ⟨nd, rfl⟩⟩; refine ⟨_, rfl, ?_⟩; have p213 : 0 ≤ (t206 : Int) := of_decide_eq_true (by first | (with_reducible assumption) | assumption); have q213 : t206 < (l1.length : Int) := of_decide_eq_true (by first | (with_reducible assumption) | assumption); obtain ⟨ad213, A213_1, c213_1, e213, hx213_0, hx213_1, hl213_1, hi213_1⟩ := at_T36 HR1.out t206 p213 q213; obtain rfl : ad210 = ad213 := (by injection e213); replace hx213_0 := (HB.out.cell (World.block_lt_of_cell? w _ hx213_0)).trans hx213_0; replace hx213_1 := (HB.out.cell (World.block_lt_of_cell? w _ hx213_1)).trans hx213_1; have HR213_1 := Aside0.mk hi213_1; have HC213_1 := Aside0.mk hl213_1; clear hi213_1 hl213_1; replace p213 := eq_true p213; replace q213 := eq_true q213; have ea_ := Option.some.inj (hx210_1.symm.trans hx213_1); injection ea_ with ea_ en_ ec_; subst ea_; subst ec_; clear en_; have p214 : 0 ≤ (x13_3 : Int) := of_decide_eq_true (by first | (with_reducible assumption) | assumption); have q214 : x13_3 < (((rd_T36 l1 t206).f1).length : Int) := of_decide_eq_true (by first | (with_reducible assumption) | assumption); obtain ⟨ad214, e214, hx214_0⟩ := Kd.at_int HR213_1.out x13_3 p214 q214; cases e214; replace hx214_0 := (HB.out.cell (World.block_lt_of_cell? w _ hx214_0)).trans hx214_0; replace p214 := eq_true p214; replace q214 := eq_true q214) | (go_at_call 17; (with_reducible refine (auth_Over.calls kj37 _ t195 _ _ l1 a2 (rd ((rd_T36 l1 t206).f1) x13_3) true _ ?side1 ?side2 ?side3 A49.out).mono ?_); (case side1 => repeat (first | exact (Kd.V_reads' HO_7.out).2.2 | (with_reducible refine Kd.C_alloc ?_ _) | (with_reducible refine Kd.C_drewN ?_ _) | (with_reducible refine Kd.C_drew ?_))); (case side2 => repeat (first | exact (Kd.C_below HR1.out (by repeat (first | (with_reducible first | exact HB.out | apply below_alloc | apply pw_below_drewN | apply below_drew1) | exact HB.out))) | (with_reducible refine Kd.C_alloc ?_ _) | (with_reducible refine Kd.C_drewN ?_ _) | (with_reducible refine Kd.C_drew ?_))); (case side3 => exact HC1.out); rintro e w51 ⟨rfl, hb⟩; have n0_ := Aside0.mk (Kd.V_below (by (with_reducible repeat (first | apply Kd.V_alloc | apply Kd.V_drewN | apply Kd.V_drew)); exact HO_7.out) hb); have n1_ := Aside0.mk (below_step (by repeat (first | (with_reducible first | exact HB.out | apply below_alloc | apply pw_below_drewN | apply below_drew1) | exact HB.out)) hb); clear HO_7; clear HB; have HO_7 := n0_; have HB := n1_; clear n0_ n1_; (try clear hb); (try clear hb2); (try clear hk); (try clear hi)))
  go_roundg kj37
  case measure => have := HJ5.out; have := HK2.out; have := HK3.out; have := HJ37.out; omega
  case rel => exact ⟨(wrap64 (x13_3 + 1)), (by first | rfl | (simp; done) | (simp [*]; done)), H', ⟨by have := HJ5.out; have := HK2.out; have := HK3.out; have := HJ37.out; omega⟩, ⟨by (with_reducible repeat (first | apply Kd.V_alloc | apply Kd.V_drewN | apply Kd.V_drew)); exact HO_7.out⟩, ⟨by repeat (first | (with_reducible first | exact HB.out | apply below_alloc | apply pw_below_drewN | apply below_drew1) | exact HB.out)⟩⟩
end Go.Proofs.Yteeodnnabogheaa.X
