-- Written for this claim by a program of the session, out of the translation's print. Lean checks it.
import Derived.Test.YteeodnnabogheaaX0
import Derived.Test.YteeodnnabogheaaX1
import Derived.Test.YteeodnnabogheaaX4
import Derived.Test.YteeodnnabogheaaX5
import Derived.Test.YteeodnnabogheaaX6
import Derived.Test.YteeodnnabogheaaX8
namespace Go.Proofs.Yteeodnnabogheaa.X
open Go.RowKit Go.Proofs.YteeodnnabogheaaY Go.Proofs.YteeodnnabogheaaW.PrintWords Go.Proofs.YteeodnnabogheaaW.PrintLast Go.Proofs.YteeodnnabogheaaW.PrintMore
attribute [local go_sem] max2_int min2_int max_two min_two max_three min_three max_four min_four   -- for this text's walks alone
set_option linter.unusedVariables false
set_option linter.unusedSimpArgs false

/-! ### keyholelaw02_AuthOver: function 4 -/
mutual
def keyholelaw02_AuthOver.j0 : Nat → List (S36) → ByteArray → List (Lat) → List (List Bool) → Int → Bool → Option (Bool)
  | 0, _, _, _, _, _, _ => none
  | k + 1, x1, x2, x8, x10, x11, x61 => if x61 = true then (none) else ((auth_Reach.f k x8 x1 x2).bind fun t248 => (keyholelaw02_AuthOver.l0 k x1 x2 x8 x10 x11 t248 0 0))
def keyholelaw02_AuthOver.l0 : Nat → List (S36) → ByteArray → List (Lat) → List (List Bool) → Int → List Int → Int → Int → Option (Bool)
  | 0, _, _, _, _, _, _, _, _ => none
  | k + 1, x1, x2, x8, x10, x11, x14, x15, x16 => if x16 < (x10.length : Int) then (keyholelaw02_AuthOver.l1 k x1 x2 x8 x10 x11 x14 x15 x16 false 0) else (if x15 = (x14.length : Int) then ((auth_Over.f k x8 x1 x2 (-1)).bind fun t251 => (if t251 = true then (none) else ((auth_Over.f k x8 x1 x2 (x10.length : Int)).bind fun t252 => (if t252 = true then (none) else ((keyholelaw02_lives.f k).bind fun t253 => (some t253)))))) else (none))
def keyholelaw02_AuthOver.j3 : Nat → List (S36) → ByteArray → List (Lat) → List (List Bool) → Int → List Int → Int → Int → Bool → Option (Bool)
  | 0, _, _, _, _, _, _, _, _, _ => none
  | k + 1, x1, x2, x8, x10, x11, x14, x15, x16, x17 => (auth_Over.f k x8 x1 x2 x16).bind fun t259 => (if (t259 != x17) = true then (keyholelaw02_AuthOver.j4 k x1 x2 x8 x10 x11 x14 x15 x16 x17 true) else (if x17 = true then (if x15 ≥ (x14.length : Int) then (keyholelaw02_AuthOver.j4 k x1 x2 x8 x10 x11 x14 x15 x16 x17 true) else (if 0 ≤ x15 then (if x15 < (x14.length : Int) then (keyholelaw02_AuthOver.j4 k x1 x2 x8 x10 x11 x14 x15 x16 x17 ((rd x14 x15) != x16)) else (none)) else (none))) else (keyholelaw02_AuthOver.j4 k x1 x2 x8 x10 x11 x14 x15 x16 x17 false)))
def keyholelaw02_AuthOver.j4 : Nat → List (S36) → ByteArray → List (Lat) → List (List Bool) → Int → List Int → Int → Int → Bool → Bool → Option (Bool)
  | 0, _, _, _, _, _, _, _, _, _, _ => none
  | k + 1, x1, x2, x8, x10, x11, x14, x15, x16, x17, x137 => if x137 = true then (none) else (if x17 = true then (keyholelaw02_AuthOver.l0 k x1 x2 x8 x10 x11 x14 (wrap64 (x15 + 1)) (wrap64 (x16 + 1))) else (keyholelaw02_AuthOver.l0 k x1 x2 x8 x10 x11 x14 x15 (wrap64 (x16 + 1))))
def keyholelaw02_AuthOver.l1 : Nat → List (S36) → ByteArray → List (Lat) → List (List Bool) → Int → List Int → Int → Int → Bool → Int → Option (Bool)
  | 0, _, _, _, _, _, _, _, _, _, _ => none
  | k + 1, x1, x2, x8, x10, x11, x14, x15, x16, x17, x18 => if x11 ≥ 0 then (if 0 ≤ x11 then (if x11 < (x1.length : Int) then (if x18 < (((rd_T36 x1 x11).f1).length : Int) then (if 0 ≤ x18 then (if x17 = true then (keyholelaw02_AuthOver.l1 k x1 x2 x8 x10 x11 x14 x15 x16 true (wrap64 (x18 + 1))) else (if (rd ((rd_T36 x1 x11).f1) x18) ≥ 0 then (if (rd ((rd_T36 x1 x11).f1) x18) < (x10.length : Int) then (if 0 ≤ x16 then (if x16 < (x10.length : Int) then (if 0 ≤ (rd ((rd_T36 x1 x11).f1) x18) then (if (rd ((rd_T36 x1 x11).f1) x18) < ((rd_L11 x10 x16).length : Int) then (keyholelaw02_AuthOver.l1 k x1 x2 x8 x10 x11 x14 x15 x16 (rdOf false (rd_L11 x10 x16) (rd ((rd_T36 x1 x11).f1) x18)) (wrap64 (x18 + 1))) else (none)) else (none)) else (none)) else (none)) else (keyholelaw02_AuthOver.l1 k x1 x2 x8 x10 x11 x14 x15 x16 false (wrap64 (x18 + 1)))) else (keyholelaw02_AuthOver.l1 k x1 x2 x8 x10 x11 x14 x15 x16 false (wrap64 (x18 + 1))))) else (none)) else (keyholelaw02_AuthOver.j3 k x1 x2 x8 x10 x11 x14 x15 x16 x17)) else (none)) else (none)) else (keyholelaw02_AuthOver.j3 k x1 x2 x8 x10 x11 x14 x15 x16 x17)
end
def keyholelaw02_AuthOver.f (k : Nat) (a0 : Int) (l1 : List (S36)) (a2 : ByteArray) : Option (Bool) := (keyholelaw02_light.f k l1).bind fun t226 => (if t226 = true then ((keyholeref01_Sort.f a0).bind fun bt228 => ((level_New.f k bt228.1 bt228.2.1 bt228.2.2).bind fun bt238 => ((keyholeref01_Table.f k bt228.1 bt228.2.1 bt228.2.2).bind fun t242 => ((keyholelaw02_find.f k l1 a2).bind fun t245 => ((auth_Find.f k l1 a2).bind fun bt246 => (if (bt246.2 != (decide (t245 ≥ 0))) = true then (keyholelaw02_AuthOver.j0 k l1 a2 bt238.1 t242 t245 true) else (if bt246.2 = true then (if bt246.1 = t245 then (keyholelaw02_AuthOver.j0 k l1 a2 bt238.1 t242 t245 false) else (keyholelaw02_AuthOver.j0 k l1 a2 bt238.1 t242 t245 true)) else (keyholelaw02_AuthOver.j0 k l1 a2 bt238.1 t242 t245 (bt246.1 != 0))))))))) else ((keyholelaw02_lives.f k).bind fun t227 => (some t227)))
theorem keyholelaw02_AuthOver.mono_l : ∀ k, (∀ y0 y1 y2 y3 y4 y5, LeO (keyholelaw02_AuthOver.j0 k y0 y1 y2 y3 y4 y5) (keyholelaw02_AuthOver.j0 (k + 1) y0 y1 y2 y3 y4 y5)) ∧ (∀ y0 y1 y2 y3 y4 y5 y6 y7, LeO (keyholelaw02_AuthOver.l0 k y0 y1 y2 y3 y4 y5 y6 y7) (keyholelaw02_AuthOver.l0 (k + 1) y0 y1 y2 y3 y4 y5 y6 y7)) ∧ (∀ y0 y1 y2 y3 y4 y5 y6 y7 y8, LeO (keyholelaw02_AuthOver.j3 k y0 y1 y2 y3 y4 y5 y6 y7 y8) (keyholelaw02_AuthOver.j3 (k + 1) y0 y1 y2 y3 y4 y5 y6 y7 y8)) ∧ (∀ y0 y1 y2 y3 y4 y5 y6 y7 y8 y9, LeO (keyholelaw02_AuthOver.j4 k y0 y1 y2 y3 y4 y5 y6 y7 y8 y9) (keyholelaw02_AuthOver.j4 (k + 1) y0 y1 y2 y3 y4 y5 y6 y7 y8 y9)) ∧ (∀ y0 y1 y2 y3 y4 y5 y6 y7 y8 y9, LeO (keyholelaw02_AuthOver.l1 k y0 y1 y2 y3 y4 y5 y6 y7 y8 y9) (keyholelaw02_AuthOver.l1 (k + 1) y0 y1 y2 y3 y4 y5 y6 y7 y8 y9))
  | 0 => ⟨fun _ _ _ _ _ _ r h => by simp [keyholelaw02_AuthOver.j0] at h, fun _ _ _ _ _ _ _ _ r h => by simp [keyholelaw02_AuthOver.l0] at h, fun _ _ _ _ _ _ _ _ _ r h => by simp [keyholelaw02_AuthOver.j3] at h, fun _ _ _ _ _ _ _ _ _ _ r h => by simp [keyholelaw02_AuthOver.j4] at h, fun _ _ _ _ _ _ _ _ _ _ r h => by simp [keyholelaw02_AuthOver.l1] at h⟩
  | k + 1 => by
    obtain ⟨ih0, ih1, ih2, ih3, ih4⟩ := keyholelaw02_AuthOver.mono_l k
    refine ⟨?_, ?_, ?_, ?_, ?_⟩
    · intro y0 y1 y2 y3 y4 y5
      unfold keyholelaw02_AuthOver.j0
      repeat' first
      | (with_reducible exact ih0 _ _ _ _ _ _)
      | (with_reducible exact ih1 _ _ _ _ _ _ _ _)
      | (with_reducible exact ih2 _ _ _ _ _ _ _ _ _)
      | (with_reducible exact ih3 _ _ _ _ _ _ _ _ _ _)
      | (with_reducible exact ih4 _ _ _ _ _ _ _ _ _ _)
      | (with_reducible exact auth_Find.mono _ _ _)
      | (with_reducible exact auth_Over.mono _ _ _ _ _)
      | (with_reducible exact auth_Reach.mono _ _ _ _)
      | (with_reducible exact keyholelaw02_find.mono _ _ _)
      | (with_reducible exact keyholelaw02_light.mono _ _)
      | (with_reducible exact keyholelaw02_lives.mono _)
      | (with_reducible exact keyholeref01_Table.mono _ _ _ _)
      | (with_reducible exact level_New.mono _ _ _ _)
      | (with_reducible exact LeO.refl _)
      | (with_reducible exact LeO.none _)
      | (with_reducible refine LeO.ite ?_ ?_)
      | (with_reducible refine LeO.bind ?_ (fun _ => ?_))
      | exact ih0 _ _ _ _ _ _
      | exact ih1 _ _ _ _ _ _ _ _
      | exact ih2 _ _ _ _ _ _ _ _ _
      | exact ih3 _ _ _ _ _ _ _ _ _ _
      | exact ih4 _ _ _ _ _ _ _ _ _ _
      | exact auth_Find.mono _ _ _
      | exact auth_Over.mono _ _ _ _ _
      | exact auth_Reach.mono _ _ _ _
      | exact keyholelaw02_find.mono _ _ _
      | exact keyholelaw02_light.mono _ _
      | exact keyholelaw02_lives.mono _
      | exact keyholeref01_Table.mono _ _ _ _
      | exact level_New.mono _ _ _ _
      | exact LeO.none _
      | refine LeO.ite ?_ ?_
      | refine LeO.bind ?_ (fun _ => ?_)
    · intro y0 y1 y2 y3 y4 y5 y6 y7
      unfold keyholelaw02_AuthOver.l0
      repeat' first
      | (with_reducible exact ih0 _ _ _ _ _ _)
      | (with_reducible exact ih1 _ _ _ _ _ _ _ _)
      | (with_reducible exact ih2 _ _ _ _ _ _ _ _ _)
      | (with_reducible exact ih3 _ _ _ _ _ _ _ _ _ _)
      | (with_reducible exact ih4 _ _ _ _ _ _ _ _ _ _)
      | (with_reducible exact auth_Find.mono _ _ _)
      | (with_reducible exact auth_Over.mono _ _ _ _ _)
      | (with_reducible exact auth_Reach.mono _ _ _ _)
      | (with_reducible exact keyholelaw02_find.mono _ _ _)
      | (with_reducible exact keyholelaw02_light.mono _ _)
      | (with_reducible exact keyholelaw02_lives.mono _)
      | (with_reducible exact keyholeref01_Table.mono _ _ _ _)
      | (with_reducible exact level_New.mono _ _ _ _)
      | (with_reducible exact LeO.refl _)
      | (with_reducible exact LeO.none _)
      | (with_reducible refine LeO.ite ?_ ?_)
      | (with_reducible refine LeO.bind ?_ (fun _ => ?_))
      | exact ih0 _ _ _ _ _ _
      | exact ih1 _ _ _ _ _ _ _ _
      | exact ih2 _ _ _ _ _ _ _ _ _
      | exact ih3 _ _ _ _ _ _ _ _ _ _
      | exact ih4 _ _ _ _ _ _ _ _ _ _
      | exact auth_Find.mono _ _ _
      | exact auth_Over.mono _ _ _ _ _
      | exact auth_Reach.mono _ _ _ _
      | exact keyholelaw02_find.mono _ _ _
      | exact keyholelaw02_light.mono _ _
      | exact keyholelaw02_lives.mono _
      | exact keyholeref01_Table.mono _ _ _ _
      | exact level_New.mono _ _ _ _
      | exact LeO.none _
      | refine LeO.ite ?_ ?_
      | refine LeO.bind ?_ (fun _ => ?_)
    · intro y0 y1 y2 y3 y4 y5 y6 y7 y8
      unfold keyholelaw02_AuthOver.j3
      repeat' first
      | (with_reducible exact ih0 _ _ _ _ _ _)
      | (with_reducible exact ih1 _ _ _ _ _ _ _ _)
      | (with_reducible exact ih2 _ _ _ _ _ _ _ _ _)
      | (with_reducible exact ih3 _ _ _ _ _ _ _ _ _ _)
      | (with_reducible exact ih4 _ _ _ _ _ _ _ _ _ _)
      | (with_reducible exact auth_Find.mono _ _ _)
      | (with_reducible exact auth_Over.mono _ _ _ _ _)
      | (with_reducible exact auth_Reach.mono _ _ _ _)
      | (with_reducible exact keyholelaw02_find.mono _ _ _)
      | (with_reducible exact keyholelaw02_light.mono _ _)
      | (with_reducible exact keyholelaw02_lives.mono _)
      | (with_reducible exact keyholeref01_Table.mono _ _ _ _)
      | (with_reducible exact level_New.mono _ _ _ _)
      | (with_reducible exact LeO.refl _)
      | (with_reducible exact LeO.none _)
      | (with_reducible refine LeO.ite ?_ ?_)
      | (with_reducible refine LeO.bind ?_ (fun _ => ?_))
      | exact ih0 _ _ _ _ _ _
      | exact ih1 _ _ _ _ _ _ _ _
      | exact ih2 _ _ _ _ _ _ _ _ _
      | exact ih3 _ _ _ _ _ _ _ _ _ _
      | exact ih4 _ _ _ _ _ _ _ _ _ _
      | exact auth_Find.mono _ _ _
      | exact auth_Over.mono _ _ _ _ _
      | exact auth_Reach.mono _ _ _ _
      | exact keyholelaw02_find.mono _ _ _
      | exact keyholelaw02_light.mono _ _
      | exact keyholelaw02_lives.mono _
      | exact keyholeref01_Table.mono _ _ _ _
      | exact level_New.mono _ _ _ _
      | exact LeO.none _
      | refine LeO.ite ?_ ?_
      | refine LeO.bind ?_ (fun _ => ?_)
    · intro y0 y1 y2 y3 y4 y5 y6 y7 y8 y9
      unfold keyholelaw02_AuthOver.j4
      repeat' first
      | (with_reducible exact ih0 _ _ _ _ _ _)
      | (with_reducible exact ih1 _ _ _ _ _ _ _ _)
      | (with_reducible exact ih2 _ _ _ _ _ _ _ _ _)
      | (with_reducible exact ih3 _ _ _ _ _ _ _ _ _ _)
      | (with_reducible exact ih4 _ _ _ _ _ _ _ _ _ _)
      | (with_reducible exact auth_Find.mono _ _ _)
      | (with_reducible exact auth_Over.mono _ _ _ _ _)
      | (with_reducible exact auth_Reach.mono _ _ _ _)
      | (with_reducible exact keyholelaw02_find.mono _ _ _)
      | (with_reducible exact keyholelaw02_light.mono _ _)
      | (with_reducible exact keyholelaw02_lives.mono _)
      | (with_reducible exact keyholeref01_Table.mono _ _ _ _)
      | (with_reducible exact level_New.mono _ _ _ _)
      | (with_reducible exact LeO.refl _)
      | (with_reducible exact LeO.none _)
      | (with_reducible refine LeO.ite ?_ ?_)
      | (with_reducible refine LeO.bind ?_ (fun _ => ?_))
      | exact ih0 _ _ _ _ _ _
      | exact ih1 _ _ _ _ _ _ _ _
      | exact ih2 _ _ _ _ _ _ _ _ _
      | exact ih3 _ _ _ _ _ _ _ _ _ _
      | exact ih4 _ _ _ _ _ _ _ _ _ _
      | exact auth_Find.mono _ _ _
      | exact auth_Over.mono _ _ _ _ _
      | exact auth_Reach.mono _ _ _ _
      | exact keyholelaw02_find.mono _ _ _
      | exact keyholelaw02_light.mono _ _
      | exact keyholelaw02_lives.mono _
      | exact keyholeref01_Table.mono _ _ _ _
      | exact level_New.mono _ _ _ _
      | exact LeO.none _
      | refine LeO.ite ?_ ?_
      | refine LeO.bind ?_ (fun _ => ?_)
    · intro y0 y1 y2 y3 y4 y5 y6 y7 y8 y9
      unfold keyholelaw02_AuthOver.l1
      repeat' first
      | (with_reducible exact ih0 _ _ _ _ _ _)
      | (with_reducible exact ih1 _ _ _ _ _ _ _ _)
      | (with_reducible exact ih2 _ _ _ _ _ _ _ _ _)
      | (with_reducible exact ih3 _ _ _ _ _ _ _ _ _ _)
      | (with_reducible exact ih4 _ _ _ _ _ _ _ _ _ _)
      | (with_reducible exact auth_Find.mono _ _ _)
      | (with_reducible exact auth_Over.mono _ _ _ _ _)
      | (with_reducible exact auth_Reach.mono _ _ _ _)
      | (with_reducible exact keyholelaw02_find.mono _ _ _)
      | (with_reducible exact keyholelaw02_light.mono _ _)
      | (with_reducible exact keyholelaw02_lives.mono _)
      | (with_reducible exact keyholeref01_Table.mono _ _ _ _)
      | (with_reducible exact level_New.mono _ _ _ _)
      | (with_reducible exact LeO.refl _)
      | (with_reducible exact LeO.none _)
      | (with_reducible refine LeO.ite ?_ ?_)
      | (with_reducible refine LeO.bind ?_ (fun _ => ?_))
      | exact ih0 _ _ _ _ _ _
      | exact ih1 _ _ _ _ _ _ _ _
      | exact ih2 _ _ _ _ _ _ _ _ _
      | exact ih3 _ _ _ _ _ _ _ _ _ _
      | exact ih4 _ _ _ _ _ _ _ _ _ _
      | exact auth_Find.mono _ _ _
      | exact auth_Over.mono _ _ _ _ _
      | exact auth_Reach.mono _ _ _ _
      | exact keyholelaw02_find.mono _ _ _
      | exact keyholelaw02_light.mono _ _
      | exact keyholelaw02_lives.mono _
      | exact keyholeref01_Table.mono _ _ _ _
      | exact level_New.mono _ _ _ _
      | exact LeO.none _
      | refine LeO.ite ?_ ?_
      | refine LeO.bind ?_ (fun _ => ?_)
theorem keyholelaw02_AuthOver.mono : ∀ a0 a1 a2 k, LeO (keyholelaw02_AuthOver.f k a0 a1 a2) (keyholelaw02_AuthOver.f (k + 1) a0 a1 a2) := by
  intro a0 a1 a2 k
  obtain ⟨ih0, ih1, ih2, ih3, ih4⟩ := keyholelaw02_AuthOver.mono_l k
  unfold keyholelaw02_AuthOver.f
  repeat' first
      | (with_reducible exact ih0 _ _ _ _ _ _)
      | (with_reducible exact ih1 _ _ _ _ _ _ _ _)
      | (with_reducible exact ih2 _ _ _ _ _ _ _ _ _)
      | (with_reducible exact ih3 _ _ _ _ _ _ _ _ _ _)
      | (with_reducible exact ih4 _ _ _ _ _ _ _ _ _ _)
      | (with_reducible exact auth_Find.mono _ _ _)
      | (with_reducible exact auth_Over.mono _ _ _ _ _)
      | (with_reducible exact auth_Reach.mono _ _ _ _)
      | (with_reducible exact keyholelaw02_find.mono _ _ _)
      | (with_reducible exact keyholelaw02_light.mono _ _)
      | (with_reducible exact keyholelaw02_lives.mono _)
      | (with_reducible exact keyholeref01_Table.mono _ _ _ _)
      | (with_reducible exact level_New.mono _ _ _ _)
      | (with_reducible exact LeO.refl _)
      | (with_reducible exact LeO.none _)
      | (with_reducible refine LeO.ite ?_ ?_)
      | (with_reducible refine LeO.bind ?_ (fun _ => ?_))
      | exact ih0 _ _ _ _ _ _
      | exact ih1 _ _ _ _ _ _ _ _
      | exact ih2 _ _ _ _ _ _ _ _ _
      | exact ih3 _ _ _ _ _ _ _ _ _ _
      | exact ih4 _ _ _ _ _ _ _ _ _ _
      | exact auth_Find.mono _ _ _
      | exact auth_Over.mono _ _ _ _ _
      | exact auth_Reach.mono _ _ _ _
      | exact keyholelaw02_find.mono _ _ _
      | exact keyholelaw02_light.mono _ _
      | exact keyholelaw02_lives.mono _
      | exact keyholeref01_Table.mono _ _ _ _
      | exact level_New.mono _ _ _ _
      | exact LeO.none _
      | refine LeO.ite ?_ ?_
      | refine LeO.bind ?_ (fun _ => ?_)
set_option maxHeartbeats 8000000 in
set_option maxRecDepth 100000 in
theorem keyholelaw02_AuthOver.calls (k : Nat) (a0 : Int) (A1 : Option Addr) (c1 : Nat) (l1 : List (S36)) (a2 : ByteArray) (r : Bool) (w : World) (hr1 : Kd.C k36 w A1 l1.length l1) (hc1 : l1.length ≤ c1) (h : keyholelaw02_AuthOver.f k a0 l1 a2 = some r) :
    Calls Try.prog 4 #[.int .i64 a0, .slice A1 l1.length c1, .string a2] w fun e w' => e = .returned (.bool r) ∧ Below w.heap.size w w' := by
  have hu28 := Try.underlying28
  have HR1 := Aside0.mk hr1
  have HC1 := Aside0.mk hc1
  clear hr1 hc1
  have HB := Aside0.mk (Below.refl w.heap.size w)
  have H : ((keyholelaw02_light.f k l1).bind fun t226 => (if t226 = true then ((keyholeref01_Sort.f a0).bind fun bt228 => ((level_New.f k bt228.1 bt228.2.1 bt228.2.2).bind fun bt238 => ((keyholeref01_Table.f k bt228.1 bt228.2.1 bt228.2.2).bind fun t242 => ((keyholelaw02_find.f k l1 a2).bind fun t245 => ((auth_Find.f k l1 a2).bind fun bt246 => (if (bt246.2 != (decide (t245 ≥ 0))) = true then (keyholelaw02_AuthOver.j0 k l1 a2 bt238.1 t242 t245 true) else (if bt246.2 = true then (if bt246.1 = t245 then (keyholelaw02_AuthOver.j0 k l1 a2 bt238.1 t242 t245 false) else (keyholelaw02_AuthOver.j0 k l1 a2 bt238.1 t242 t245 true)) else (keyholelaw02_AuthOver.j0 k l1 a2 bt238.1 t242 t245 (bt246.1 != 0))))))))) else ((keyholelaw02_lives.f k).bind fun t227 => (some t227)))) = some r := h
  clear h
  replace H := Option.bind_eq_some_iff.mp H
  obtain ⟨t226, A40, H⟩ := H
  replace H : (if t226 = true then ((keyholeref01_Sort.f a0).bind fun bt228 => ((level_New.f k bt228.1 bt228.2.1 bt228.2.2).bind fun bt238 => ((keyholeref01_Table.f k bt228.1 bt228.2.1 bt228.2.2).bind fun t242 => ((keyholelaw02_find.f k l1 a2).bind fun t245 => ((auth_Find.f k l1 a2).bind fun bt246 => (if (bt246.2 != (decide (t245 ≥ 0))) = true then (keyholelaw02_AuthOver.j0 k l1 a2 bt238.1 t242 t245 true) else (if bt246.2 = true then (if bt246.1 = t245 then (keyholelaw02_AuthOver.j0 k l1 a2 bt238.1 t242 t245 false) else (keyholelaw02_AuthOver.j0 k l1 a2 bt238.1 t242 t245 true)) else (keyholelaw02_AuthOver.j0 k l1 a2 bt238.1 t242 t245 (bt246.1 != 0))))))))) else ((keyholelaw02_lives.f k).bind fun t227 => (some t227))) = some r := H
  have A4 := Aside0.mk A40
  clear A40
  by_cases c5 : t226 = true
  · subst c5
    have H1 : ((keyholeref01_Sort.f a0).bind fun bt228 => ((level_New.f k bt228.1 bt228.2.1 bt228.2.2).bind fun bt238 => ((keyholeref01_Table.f k bt228.1 bt228.2.1 bt228.2.2).bind fun t242 => ((keyholelaw02_find.f k l1 a2).bind fun t245 => ((auth_Find.f k l1 a2).bind fun bt246 => (if (bt246.2 != (decide (t245 ≥ 0))) = true then (keyholelaw02_AuthOver.j0 k l1 a2 bt238.1 t242 t245 true) else (if bt246.2 = true then (if bt246.1 = t245 then (keyholelaw02_AuthOver.j0 k l1 a2 bt238.1 t242 t245 false) else (keyholelaw02_AuthOver.j0 k l1 a2 bt238.1 t242 t245 true)) else (keyholelaw02_AuthOver.j0 k l1 a2 bt238.1 t242 t245 (bt246.1 != 0))))))))) = some r := by rw [if_pos rfl] at H; exact H
    clear H
    have H := H1
    clear H1
    replace H := Option.bind_eq_some_iff.mp H
    obtain ⟨⟨t228, t231, t234⟩, A60, H⟩ := H
    replace H : ((level_New.f k t228 t231 t234).bind fun bt238 => ((keyholeref01_Table.f k t228 t231 t234).bind fun t242 => ((keyholelaw02_find.f k l1 a2).bind fun t245 => ((auth_Find.f k l1 a2).bind fun bt246 => (if (bt246.2 != (decide (t245 ≥ 0))) = true then (keyholelaw02_AuthOver.j0 k l1 a2 bt238.1 t242 t245 true) else (if bt246.2 = true then (if bt246.1 = t245 then (keyholelaw02_AuthOver.j0 k l1 a2 bt238.1 t242 t245 false) else (keyholelaw02_AuthOver.j0 k l1 a2 bt238.1 t242 t245 true)) else (keyholelaw02_AuthOver.j0 k l1 a2 bt238.1 t242 t245 (bt246.1 != 0)))))))) = some r := H
    have A6 := Aside0.mk A60
    clear A60
    replace H := Option.bind_eq_some_iff.mp H
    obtain ⟨⟨t238, t241⟩, A70, H⟩ := H
    replace H : ((keyholeref01_Table.f k t228 t231 t234).bind fun t242 => ((keyholelaw02_find.f k l1 a2).bind fun t245 => ((auth_Find.f k l1 a2).bind fun bt246 => (if (bt246.2 != (decide (t245 ≥ 0))) = true then (keyholelaw02_AuthOver.j0 k l1 a2 t238 t242 t245 true) else (if bt246.2 = true then (if bt246.1 = t245 then (keyholelaw02_AuthOver.j0 k l1 a2 t238 t242 t245 false) else (keyholelaw02_AuthOver.j0 k l1 a2 t238 t242 t245 true)) else (keyholelaw02_AuthOver.j0 k l1 a2 t238 t242 t245 (bt246.1 != 0))))))) = some r := H
    have A7 := Aside0.mk A70
    clear A70
    replace H := Option.bind_eq_some_iff.mp H
    obtain ⟨t242, A80, H⟩ := H
    replace H : ((keyholelaw02_find.f k l1 a2).bind fun t245 => ((auth_Find.f k l1 a2).bind fun bt246 => (if (bt246.2 != (decide (t245 ≥ 0))) = true then (keyholelaw02_AuthOver.j0 k l1 a2 t238 t242 t245 true) else (if bt246.2 = true then (if bt246.1 = t245 then (keyholelaw02_AuthOver.j0 k l1 a2 t238 t242 t245 false) else (keyholelaw02_AuthOver.j0 k l1 a2 t238 t242 t245 true)) else (keyholelaw02_AuthOver.j0 k l1 a2 t238 t242 t245 (bt246.1 != 0)))))) = some r := H
    have A8 := Aside0.mk A80
    clear A80
    replace H := Option.bind_eq_some_iff.mp H
    obtain ⟨t245, A90, H⟩ := H
    replace H : ((auth_Find.f k l1 a2).bind fun bt246 => (if (bt246.2 != (decide (t245 ≥ 0))) = true then (keyholelaw02_AuthOver.j0 k l1 a2 t238 t242 t245 true) else (if bt246.2 = true then (if bt246.1 = t245 then (keyholelaw02_AuthOver.j0 k l1 a2 t238 t242 t245 false) else (keyholelaw02_AuthOver.j0 k l1 a2 t238 t242 t245 true)) else (keyholelaw02_AuthOver.j0 k l1 a2 t238 t242 t245 (bt246.1 != 0))))) = some r := H
    have A9 := Aside0.mk A90
    clear A90
    replace H := Option.bind_eq_some_iff.mp H
    obtain ⟨⟨t246, t247⟩, A100, H⟩ := H
    replace H : (if (t247 != (decide (t245 ≥ 0))) = true then (keyholelaw02_AuthOver.j0 k l1 a2 t238 t242 t245 true) else (if t247 = true then (if t246 = t245 then (keyholelaw02_AuthOver.j0 k l1 a2 t238 t242 t245 false) else (keyholelaw02_AuthOver.j0 k l1 a2 t238 t242 t245 true)) else (keyholelaw02_AuthOver.j0 k l1 a2 t238 t242 t245 (t246 != 0)))) = some r := H
    have A10 := Aside0.mk A100
    clear A100
    have HC11 := Aside0.mk H
    clear H
    go_enter Try.func4, Try.ntmps4
    go_upto_region 8 with (first | ((with_reducible refine gate_callee (f := 7) rfl ?_); refine goesL_ (some 21) rfl rfl Try.func7 (by kernel_rfl) rfl #[.slice A1 l1.length c1] rfl (by (try simp only [List.map_toArray, List.map_cons, List.map_nil]); first | done | rfl | (simp only [List.length_drop, List.length_take]; rfl)) ?_; (with_reducible refine (keyholelaw02_light.calls k _ _ l1 true _ ?side1 ?side2 A4.out).mono ?_); (case side1 => repeat (first | exact HR1.out | (with_reducible refine Kd.C_alloc ?_ _) | (with_reducible refine Kd.C_drewN ?_ _) | (with_reducible refine Kd.C_drew ?_))); (case side2 => exact HC1.out); rintro e w' ⟨rfl, ⟨nd, rfl⟩⟩; refine ⟨_, rfl, ?_⟩) | ((with_reducible refine gate_callee (f := 9) rfl ?_); refine goesL_ (some 25) rfl rfl Try.func9 (by kernel_rfl) rfl #[.int .i64 a0] rfl (by (try simp only [List.map_toArray, List.map_cons, List.map_nil]); first | done | rfl | (simp only [List.length_drop, List.length_take]; rfl)) ?_; (with_reducible refine (keyholeref01_Sort.calls a0 t228 t231 t234 _ A6.out).mono ?_); rintro e w12 ⟨v229, v232, v235, rfl, ho0, ho1, ho2, hb⟩; refine ⟨_, rfl, ?_⟩; have n0_ := Aside0.mk (Kd.R_lower ho0 (below_size (by repeat (first | (with_reducible first | exact HB.out | apply below_alloc | apply pw_below_drewN | apply below_drew1) | exact HB.out)))); have n1_ := Aside0.mk (Kd.R_lower ho1 (below_size (by repeat (first | (with_reducible first | exact HB.out | apply below_alloc | apply pw_below_drewN | apply below_drew1) | exact HB.out)))); have n2_ := Aside0.mk (Kd.S_lower ho2 (below_size (by repeat (first | (with_reducible first | exact HB.out | apply below_alloc | apply pw_below_drewN | apply below_drew1) | exact HB.out)))); have n3_ := Aside0.mk (below_step (by repeat (first | (with_reducible first | exact HB.out | apply below_alloc | apply pw_below_drewN | apply below_drew1) | exact HB.out)) hb); clear HB; have HO230 := n0_; have HO233 := n1_; have HO236 := n2_; have HB := n3_; clear n0_ n1_ n2_ n3_; (try clear hb); (try clear hb2); (try clear hk); (try clear hi); (try clear ho0); (try clear ho1); (try clear ho2)) | ((with_reducible refine gate_dst (N := 7) rfl ?_); (try (refine gate_guard (by rfl) ?_; dsimp only)); refine box_event ?hg (N := 7) ?hd (cs := #[.slice none 0 0, .slice none 0 0, .slice none 0 0]) (t := 28) ?hr ?_; (case hd => rfl); (case hg => rfl); (case hr => first | (go_simp; done) | (go_simp; rfl)); intro gb237 hg w13 hbox hb; have n0_ := Aside0.mk (Kd.R_below (by (with_reducible repeat (first | apply Kd.R_alloc | apply Kd.R_drewN | apply Kd.R_drew)); exact HO230.out) hb); have n1_ := Aside0.mk (Kd.R_below (by (with_reducible repeat (first | apply Kd.R_alloc | apply Kd.R_drewN | apply Kd.R_drew)); exact HO233.out) hb); have n2_ := Aside0.mk (Kd.S_below (by (with_reducible repeat (first | apply Kd.S_alloc | apply Kd.S_drewN | apply Kd.S_drew)); exact HO236.out) hb); have n3_ := Aside0.mk (below_step (by repeat (first | (with_reducible first | exact HB.out | apply below_alloc | apply pw_below_drewN | apply below_drew1) | exact HB.out)) hb); have n4_ := Aside0.mk (hbox); have n5_ := Aside0.mk ((by rw [hg]; exact (below_size (by repeat (first | (with_reducible first | exact HB.out | apply below_alloc | apply pw_below_drewN | apply below_drew1) | exact HB.out))) : w.heap.size ≤ gb237)); have n6_ := Aside0.mk ((by rw [hg]; exact (below_size (by repeat (first | (with_reducible first | exact HB.out | apply below_alloc | apply pw_below_drewN | apply below_drew1) | exact HB.out))) : w.heap.size ≤ gb237)); clear HO230; clear HO233; clear HO236; clear HB; have HO230 := n0_; have HO233 := n1_; have HO236 := n2_; have HB := n3_; have BK237 := n4_; have GW237 := n5_; have GE237 := n6_; clear n0_ n1_ n2_ n3_ n4_ n5_ n6_; clear hb hbox hg; obtain ⟨Ao14, co14, eo14⟩ := Kd.R_slice HO230.out; subst eo14; have hcz15_0 : w13.cell? ⟨gb237, 0, none⟩ = some (.slice none 0 0) := (blk_cell BK237.out 0).trans rfl; have hcz15_1 : w13.cell? ⟨gb237, 1, none⟩ = some (.slice none 0 0) := (blk_cell BK237.out 1).trans rfl; have hcz15_2 : w13.cell? ⟨gb237, 2, none⟩ = some (.slice none 0 0) := (blk_cell BK237.out 2).trans rfl; have hfz15_0 := blk_frozen BK237.out 0; have hfz15_1 := blk_frozen BK237.out 1; have hfz15_2 := blk_frozen BK237.out 2; obtain ⟨Ao16, co16, eo16⟩ := Kd.R_slice HO233.out; subst eo16; obtain ⟨Ao17, co17, eo17⟩ := Kd.S_slice HO236.out; subst eo17) | ((with_reducible refine gate_callee (f := 10) rfl ?_); refine goesL_ (some 28) rfl rfl Try.func10 (by kernel_rfl) rfl #[.agg #[.slice Ao14 t228.length co14, .slice Ao16 t231.length co16, .slice Ao17 t234.length co17]] rfl (by (try simp only [List.map_toArray, List.map_cons, List.map_nil]); first | done | rfl | (simp only [List.length_drop, List.length_take]; rfl)) ?_; (with_reducible refine (level_New.calls k _ _ t228 _ _ t231 _ _ t234 t238 t241 _ ?side1 ?side2 ?side3 ?side4 ?side5 ?side6 A7.out).mono ?_); (case side1 => refine (Kd.R_reads' (e := 9) (base := w.heap.size) (ok := fun k_ => True) (n := t228.length) (c := co14) ?_).2.2; exact (by (with_reducible repeat (first | apply Kd.R_alloc | apply Kd.R_drewN | apply Kd.R_drew)); exact (Kd.R_mono (Kd.R_far (p := ⟨gb237, 2, none⟩) (Kd.R_far (p := ⟨gb237, 1, none⟩) (Kd.R_far (p := ⟨gb237, 0, none⟩) (Kd.R_types HO230.out BK237.out (by decide)) (fun _ hk => hk.2) (.slice Ao14 t228.length co14)) (fun _ hk => hk.2) (.slice Ao16 t231.length co16)) (fun _ hk => hk.2) (.slice Ao17 t234.length co17)) (fun _ h_ => h_.1)))); (case side2 => exact (Kd.R_reads' HO230.out).2.1); (case side3 => refine (Kd.R_reads' (e := 52) (base := w.heap.size) (ok := fun k_ => True) (n := t231.length) (c := co16) ?_).2.2; exact (by (with_reducible repeat (first | apply Kd.R_alloc | apply Kd.R_drewN | apply Kd.R_drew)); exact (Kd.R_mono (Kd.R_far (p := ⟨gb237, 2, none⟩) (Kd.R_far (p := ⟨gb237, 1, none⟩) (Kd.R_far (p := ⟨gb237, 0, none⟩) (Kd.R_types HO233.out BK237.out (by decide)) (fun _ hk => hk.2) (.slice Ao14 t228.length co14)) (fun _ hk => hk.2) (.slice Ao16 t231.length co16)) (fun _ hk => hk.2) (.slice Ao17 t234.length co17)) (fun _ h_ => h_.1)))); (case side4 => exact (Kd.R_reads' HO233.out).2.1); (case side5 => refine (Kd.S_reads' (e := 36) (base := w.heap.size) (ok := fun k_ => True) (n := t234.length) (c := co17) ?_).2.2; exact (by (with_reducible repeat (first | apply Kd.S_alloc | apply Kd.S_drewN | apply Kd.S_drew)); exact (Kd.S_mono (Kd.S_far (p := ⟨gb237, 2, none⟩) (Kd.S_far (p := ⟨gb237, 1, none⟩) (Kd.S_far (p := ⟨gb237, 0, none⟩) (Kd.S_types HO236.out BK237.out (by decide)) (fun _ hk => hk.2) (.slice Ao14 t228.length co14)) (fun _ hk => hk.2) (.slice Ao16 t231.length co16)) (fun _ hk => hk.2) (.slice Ao17 t234.length co17)) (fun _ h_ => h_.1)))); (case side6 => exact (Kd.S_reads' HO236.out).2.1); rintro e w18 ⟨v239, rfl, ho0, hb⟩; refine ⟨_, rfl, ?_⟩; have n0_ := Aside0.mk (Kd.R_below (by (with_reducible repeat (first | apply Kd.R_alloc | apply Kd.R_drewN | apply Kd.R_drew)); exact (Kd.R_mono (Kd.R_far (p := ⟨gb237, 2, none⟩) (Kd.R_far (p := ⟨gb237, 1, none⟩) (Kd.R_far (p := ⟨gb237, 0, none⟩) (Kd.R_types HO230.out BK237.out (by decide)) (fun _ hk => hk.2) (.slice Ao14 t228.length co14)) (fun _ hk => hk.2) (.slice Ao16 t231.length co16)) (fun _ hk => hk.2) (.slice Ao17 t234.length co17)) (fun _ h_ => h_.1))) hb); have n1_ := Aside0.mk (Kd.R_below (by (with_reducible repeat (first | apply Kd.R_alloc | apply Kd.R_drewN | apply Kd.R_drew)); exact (Kd.R_mono (Kd.R_far (p := ⟨gb237, 2, none⟩) (Kd.R_far (p := ⟨gb237, 1, none⟩) (Kd.R_far (p := ⟨gb237, 0, none⟩) (Kd.R_types HO233.out BK237.out (by decide)) (fun _ hk => hk.2) (.slice Ao14 t228.length co14)) (fun _ hk => hk.2) (.slice Ao16 t231.length co16)) (fun _ hk => hk.2) (.slice Ao17 t234.length co17)) (fun _ h_ => h_.1))) hb); have n2_ := Aside0.mk (Kd.S_below (by (with_reducible repeat (first | apply Kd.S_alloc | apply Kd.S_drewN | apply Kd.S_drew)); exact (Kd.S_mono (Kd.S_far (p := ⟨gb237, 2, none⟩) (Kd.S_far (p := ⟨gb237, 1, none⟩) (Kd.S_far (p := ⟨gb237, 0, none⟩) (Kd.S_types HO236.out BK237.out (by decide)) (fun _ hk => hk.2) (.slice Ao14 t228.length co14)) (fun _ hk => hk.2) (.slice Ao16 t231.length co16)) (fun _ hk => hk.2) (.slice Ao17 t234.length co17)) (fun _ h_ => h_.1))) hb); have n3_ := Aside0.mk (Kd.V_lower (Kd.V_mono (ok' := fun k_ => some k_ ≠ (.slice Ao14 t228.length co14 : Value).ownBlock ∧ some k_ ≠ (.slice Ao16 t231.length co16 : Value).ownBlock ∧ some k_ ≠ (.slice Ao17 t234.length co17 : Value).ownBlock ∧ k_ ≠ gb237) ho0 (fun k_ hk_ => ⟨(Kd.fresh' (Kd.R_lt (by (with_reducible repeat (first | apply Kd.R_alloc | apply Kd.R_drewN | apply Kd.R_drew)); exact (Kd.R_mono (Kd.R_far (p := ⟨gb237, 2, none⟩) (Kd.R_far (p := ⟨gb237, 1, none⟩) (Kd.R_far (p := ⟨gb237, 0, none⟩) (Kd.R_types HO230.out BK237.out (by decide)) (fun _ hk => hk.2) (.slice Ao14 t228.length co14)) (fun _ hk => hk.2) (.slice Ao16 t231.length co16)) (fun _ hk => hk.2) (.slice Ao17 t234.length co17)) (fun _ h_ => h_.1)))) k_ hk_), (Kd.fresh' (Kd.R_lt (by (with_reducible repeat (first | apply Kd.R_alloc | apply Kd.R_drewN | apply Kd.R_drew)); exact (Kd.R_mono (Kd.R_far (p := ⟨gb237, 2, none⟩) (Kd.R_far (p := ⟨gb237, 1, none⟩) (Kd.R_far (p := ⟨gb237, 0, none⟩) (Kd.R_types HO233.out BK237.out (by decide)) (fun _ hk => hk.2) (.slice Ao14 t228.length co14)) (fun _ hk => hk.2) (.slice Ao16 t231.length co16)) (fun _ hk => hk.2) (.slice Ao17 t234.length co17)) (fun _ h_ => h_.1)))) k_ hk_), (Kd.fresh' (Kd.S_lt (by (with_reducible repeat (first | apply Kd.S_alloc | apply Kd.S_drewN | apply Kd.S_drew)); exact (Kd.S_mono (Kd.S_far (p := ⟨gb237, 2, none⟩) (Kd.S_far (p := ⟨gb237, 1, none⟩) (Kd.S_far (p := ⟨gb237, 0, none⟩) (Kd.S_types HO236.out BK237.out (by decide)) (fun _ hk => hk.2) (.slice Ao14 t228.length co14)) (fun _ hk => hk.2) (.slice Ao16 t231.length co16)) (fun _ hk => hk.2) (.slice Ao17 t234.length co17)) (fun _ h_ => h_.1)))) k_ hk_), (Kd.freshB (g := gb237) (o := .cells #[.slice Ao14 t228.length co14, .slice Ao16 t231.length co16, .slice Ao17 t234.length co17] 28 (0, 0)) (by (with_reducible repeat (first | refine blk_drewN ?_ _ | refine blk_drew ?_ | refine blk_alloc ?_ _)); refine blk_put (cs := #[.slice Ao14 t228.length co14, .slice Ao16 t231.length co16, .slice none 0 0]) ?_ 2 _ rfl; (with_reducible repeat (first | refine blk_drewN ?_ _ | refine blk_drew ?_ | refine blk_alloc ?_ _)); refine blk_put (cs := #[.slice Ao14 t228.length co14, .slice none 0 0, .slice none 0 0]) ?_ 1 _ rfl; (with_reducible repeat (first | refine blk_drewN ?_ _ | refine blk_drew ?_ | refine blk_alloc ?_ _)); refine blk_put (cs := #[.slice none 0 0, .slice none 0 0, .slice none 0 0]) ?_ 0 _ rfl; (with_reducible repeat (first | refine blk_drewN ?_ _ | refine blk_drew ?_ | refine blk_alloc ?_ _)); exact BK237.out) k_ hk_)⟩)) (below_size (by repeat (first | (with_reducible first | exact HB.out | apply below_alloc | apply pw_below_drewN | apply below_drew1 | refine below_set ?_ GE237.out) | exact HB.out)))); have n4_ := Aside0.mk (blk_below (g := gb237) (o := .cells #[.slice Ao14 t228.length co14, .slice Ao16 t231.length co16, .slice Ao17 t234.length co17] 28 (0, 0)) (by (with_reducible repeat (first | refine blk_drewN ?_ _ | refine blk_drew ?_ | refine blk_alloc ?_ _)); refine blk_put (cs := #[.slice Ao14 t228.length co14, .slice Ao16 t231.length co16, .slice none 0 0]) ?_ 2 _ rfl; (with_reducible repeat (first | refine blk_drewN ?_ _ | refine blk_drew ?_ | refine blk_alloc ?_ _)); refine blk_put (cs := #[.slice Ao14 t228.length co14, .slice none 0 0, .slice none 0 0]) ?_ 1 _ rfl; (with_reducible repeat (first | refine blk_drewN ?_ _ | refine blk_drew ?_ | refine blk_alloc ?_ _)); refine blk_put (cs := #[.slice none 0 0, .slice none 0 0, .slice none 0 0]) ?_ 0 _ rfl; (with_reducible repeat (first | refine blk_drewN ?_ _ | refine blk_drew ?_ | refine blk_alloc ?_ _)); exact BK237.out) hb); have n5_ := Aside0.mk (below_step (by repeat (first | (with_reducible first | exact HB.out | apply below_alloc | apply pw_below_drewN | apply below_drew1 | refine below_set ?_ GE237.out) | exact HB.out)) hb); clear HO230; clear HO233; clear HO236; clear BK237; clear HB; have HO230 := n0_; have HO233 := n1_; have HO236 := n2_; have HO240 := n3_; have BK237 := n4_; have HB := n5_; clear n0_ n1_ n2_ n3_ n4_ n5_; (try clear hb); (try clear hb2); (try clear hk); (try clear hi); (try clear ho0); have hcz19_0 : w18.cell? ⟨gb237, 0, none⟩ = some (.slice Ao14 t228.length co14) := (blk_cell BK237.out 0).trans rfl; have hcz19_1 : w18.cell? ⟨gb237, 1, none⟩ = some (.slice Ao16 t231.length co16) := (blk_cell BK237.out 1).trans rfl; have hcz19_2 : w18.cell? ⟨gb237, 2, none⟩ = some (.slice Ao17 t234.length co17) := (blk_cell BK237.out 2).trans rfl; have hfz19_0 := blk_frozen BK237.out 0; have hfz19_1 := blk_frozen BK237.out 1; have hfz19_2 := blk_frozen BK237.out 2) | ((with_reducible refine gate_callee (f := 14) rfl ?_); refine goesL_ (some 32) rfl rfl Try.func14 (by kernel_rfl) rfl #[.agg #[.slice Ao14 t228.length co14, .slice Ao16 t231.length co16, .slice Ao17 t234.length co17]] rfl (by (try simp only [List.map_toArray, List.map_cons, List.map_nil]); first | done | rfl | (simp only [List.length_drop, List.length_take]; rfl)) ?_; (with_reducible refine (keyholeref01_Table.calls k _ _ t228 _ _ t231 _ _ t234 t242 _ ?side1 ?side2 ?side3 ?side4 ?side5 ?side6 A8.out).mono ?_); (case side1 => repeat (first | exact (Kd.R_reads' HO230.out).2.2 | (with_reducible refine Kd.C_alloc ?_ _) | (with_reducible refine Kd.C_drewN ?_ _) | (with_reducible refine Kd.C_drew ?_))); (case side2 => exact (Kd.R_reads' HO230.out).2.1); (case side3 => repeat (first | exact (Kd.R_reads' HO233.out).2.2 | (with_reducible refine Kd.C_alloc ?_ _) | (with_reducible refine Kd.C_drewN ?_ _) | (with_reducible refine Kd.C_drew ?_))); (case side4 => exact (Kd.R_reads' HO233.out).2.1); (case side5 => repeat (first | exact (Kd.S_reads' HO236.out).2.2 | (with_reducible refine Kd.C_alloc ?_ _) | (with_reducible refine Kd.C_drewN ?_ _) | (with_reducible refine Kd.C_drew ?_))); (case side6 => exact (Kd.S_reads' HO236.out).2.1); rintro e w20 ⟨v243, rfl, ho0, hb⟩; refine ⟨_, rfl, ?_⟩; have n0_ := Aside0.mk (Kd.R_below (by (with_reducible repeat (first | apply Kd.R_alloc | apply Kd.R_drewN | apply Kd.R_drew)); exact HO230.out) hb); have n1_ := Aside0.mk (Kd.R_below (by (with_reducible repeat (first | apply Kd.R_alloc | apply Kd.R_drewN | apply Kd.R_drew)); exact HO233.out) hb); have n2_ := Aside0.mk (Kd.S_below (by (with_reducible repeat (first | apply Kd.S_alloc | apply Kd.S_drewN | apply Kd.S_drew)); exact HO236.out) hb); have n3_ := Aside0.mk (Kd.V_elder' (by (with_reducible repeat (first | apply Kd.V_alloc | apply Kd.V_drewN | apply Kd.V_drew)); exact HO240.out) (Kd.S_base ho0) hb); have n4_ := Aside0.mk (Kd.S_lower ho0 (below_size (by repeat (first | (with_reducible first | exact HB.out | apply below_alloc | apply pw_below_drewN | apply below_drew1 | refine below_set ?_ GE237.out) | exact HB.out)))); have n5_ := Aside0.mk (blk_below (g := gb237) (o := .cells #[.slice Ao14 t228.length co14, .slice Ao16 t231.length co16, .slice Ao17 t234.length co17] 28 (0, 0)) (by (with_reducible repeat (first | refine blk_drewN ?_ _ | refine blk_drew ?_ | refine blk_alloc ?_ _)); exact BK237.out) hb); have n6_ := Aside0.mk (below_step (by repeat (first | (with_reducible first | exact HB.out | apply below_alloc | apply pw_below_drewN | apply below_drew1 | refine below_set ?_ GE237.out) | exact HB.out)) hb); clear HO230; clear HO233; clear HO236; clear HO240; clear BK237; clear HB; have HO230 := n0_; have HO233 := n1_; have HO236 := n2_; have HO240 := n3_; have HO244 := n4_; have BK237 := n5_; have HB := n6_; clear n0_ n1_ n2_ n3_ n4_ n5_ n6_; (try clear hb); (try clear hb2); (try clear hk); (try clear hi); (try clear ho0)) | ((with_reducible refine gate_callee (f := 12) rfl ?_); refine goesL_ (some 35) rfl rfl Try.func12 (by kernel_rfl) rfl #[.slice A1 l1.length c1, .string a2] rfl (by (try simp only [List.map_toArray, List.map_cons, List.map_nil]); first | done | rfl | (simp only [List.length_drop, List.length_take]; rfl)) ?_; (with_reducible refine (keyholelaw02_find.calls k _ _ l1 a2 t245 _ ?side1 ?side2 A9.out).mono ?_); (case side1 => repeat (first | exact (Kd.C_below HR1.out HB.out) | (with_reducible refine Kd.C_alloc ?_ _) | (with_reducible refine Kd.C_drewN ?_ _) | (with_reducible refine Kd.C_drew ?_))); (case side2 => exact HC1.out); rintro e w' ⟨rfl, ⟨nd, rfl⟩⟩; refine ⟨_, rfl, ?_⟩) | ((with_reducible refine gate_callee (f := 15) rfl ?_); refine goesL_ (some 39) rfl rfl Try.func15 (by kernel_rfl) rfl #[.slice A1 l1.length c1, .string a2] rfl (by (try simp only [List.map_toArray, List.map_cons, List.map_nil]); first | done | rfl | (simp only [List.length_drop, List.length_take]; rfl)) ?_; (with_reducible refine (auth_Find.calls k _ _ l1 a2 t246 t247 _ ?side1 ?side2 A10.out).mono ?_); (case side1 => repeat (first | exact (Kd.C_below HR1.out (by repeat (first | (with_reducible first | exact HB.out | apply below_alloc | apply pw_below_drewN | apply below_drew1 | refine below_set ?_ GE237.out) | exact HB.out))) | (with_reducible refine Kd.C_alloc ?_ _) | (with_reducible refine Kd.C_drewN ?_ _) | (with_reducible refine Kd.C_drew ?_))); (case side2 => exact HC1.out); rintro e w21 ⟨rfl, hb⟩; refine ⟨_, rfl, ?_⟩; have n0_ := Aside0.mk (Kd.R_below (by (with_reducible repeat (first | apply Kd.R_alloc | apply Kd.R_drewN | apply Kd.R_drew)); exact HO230.out) hb); have n1_ := Aside0.mk (Kd.R_below (by (with_reducible repeat (first | apply Kd.R_alloc | apply Kd.R_drewN | apply Kd.R_drew)); exact HO233.out) hb); have n2_ := Aside0.mk (Kd.S_below (by (with_reducible repeat (first | apply Kd.S_alloc | apply Kd.S_drewN | apply Kd.S_drew)); exact HO236.out) hb); have n3_ := Aside0.mk (Kd.V_below (by (with_reducible repeat (first | apply Kd.V_alloc | apply Kd.V_drewN | apply Kd.V_drew)); exact HO240.out) hb); have n4_ := Aside0.mk (Kd.S_below (by (with_reducible repeat (first | apply Kd.S_alloc | apply Kd.S_drewN | apply Kd.S_drew)); exact HO244.out) hb); have n5_ := Aside0.mk (blk_below (g := gb237) (o := .cells #[.slice Ao14 t228.length co14, .slice Ao16 t231.length co16, .slice Ao17 t234.length co17] 28 (0, 0)) (by (with_reducible repeat (first | refine blk_drewN ?_ _ | refine blk_drew ?_ | refine blk_alloc ?_ _)); exact BK237.out) hb); have n6_ := Aside0.mk (below_step (by repeat (first | (with_reducible first | exact HB.out | apply below_alloc | apply pw_below_drewN | apply below_drew1 | refine below_set ?_ GE237.out) | exact HB.out)) hb); clear HO230; clear HO233; clear HO236; clear HO240; clear HO244; clear BK237; clear HB; have HO230 := n0_; have HO233 := n1_; have HO236 := n2_; have HO240 := n3_; have HO244 := n4_; have BK237 := n5_; have HB := n6_; clear n0_ n1_ n2_ n3_ n4_ n5_ n6_; (try clear hb); (try clear hb2); (try clear hk); (try clear hi)))
    (try simp only [Act.put, List.setIfInBounds_toArray, List.set_cons_zero, List.set_cons_succ])
    go_cut [61] (fun v61 wc => ∃ (kq : Nat) (x61_10 : Bool), v61 = .bool x61_10 ∧ Aside0 (keyholelaw02_AuthOver.j0 kq l1 a2 t238 t242 t245 x61_10 = some r) ∧ Aside0 (kq ≤ k) ∧ Aside0 (Kd.V klat 64 wc w.heap.size (fun k_ => some k_ ≠ (v243 : Value).ownBlock ∧ some k_ ≠ ((.slice Ao14 t228.length co14) : Value).ownBlock ∧ some k_ ≠ ((.slice Ao16 t231.length co16) : Value).ownBlock ∧ some k_ ≠ ((.slice Ao17 t234.length co17) : Value).ownBlock ∧ k_ ≠ gb237) v239 t238) ∧ Aside0 (Kd.S (Kd.slice 4 Kd.bool) 46 wc w.heap.size (fun _ => True) v243 t242) ∧ Aside0 (Kd.R Kd.string 9 wc w.heap.size (fun _ => True) (.slice Ao14 t228.length co14) t228) ∧ Aside0 (Kd.R k52 52 wc w.heap.size (fun _ => True) (.slice Ao16 t231.length co16) t231) ∧ Aside0 (Kd.S k36 36 wc w.heap.size (fun _ => True) (.slice Ao17 t234.length co17) t234) ∧ Aside0 (wc.heap[gb237]? = some (.cells #[(.slice Ao14 t228.length co14), (.slice Ao16 t231.length co16), (.slice Ao17 t234.length co17)] 28 (0, 0))) ∧ Aside0 (Below w.heap.size w wc))
    case first =>
      have H := HC11.out
      clear HC11
      by_cases c22 : (t247 != (decide (t245 ≥ 0))) = true
      · rw [if_pos c22] at H
        have c22b0 : (t247 != (decide (t245 ≥ 0))) = true := c22
        (try (have c22b1 : decide (t247 = (decide (t245 ≥ 0))) = false := by simpa using c22))
        (try (have c22b2 : (t247 == (decide (t245 ≥ 0))) = false := by simpa using c22))
        (try (have c22b3 : ¬ (t247 = (decide (t245 ≥ 0))) := by simpa using c22))
        clear c22
        (first | rw [c22b0] | (simp only [i64_w, i32_w]; rw [c22b0]) | skip)
        have H' := Aside0.mk H
        clear H
        go_wp2
        go_meet
        case rel => exact ⟨_, (true), (by first | rfl | (simp; done) | (simp [*]; done)), H', ⟨by first | omega | exact Nat.le_refl _⟩, ⟨by (with_reducible repeat (first | apply Kd.V_alloc | apply Kd.V_drewN | apply Kd.V_drew)); exact Kd.V_mono HO240.out (fun _ hk => ⟨hk.2, ⟨hk.1.1, ⟨hk.1.2.1, ⟨hk.1.2.2.1, hk.1.2.2.2⟩⟩⟩⟩)⟩, ⟨by (with_reducible repeat (first | apply Kd.S_alloc | apply Kd.S_drewN | apply Kd.S_drew)); exact HO244.out⟩, ⟨by (with_reducible repeat (first | apply Kd.R_alloc | apply Kd.R_drewN | apply Kd.R_drew)); exact HO230.out⟩, ⟨by (with_reducible repeat (first | apply Kd.R_alloc | apply Kd.R_drewN | apply Kd.R_drew)); exact HO233.out⟩, ⟨by (with_reducible repeat (first | apply Kd.S_alloc | apply Kd.S_drewN | apply Kd.S_drew)); exact HO236.out⟩, ⟨by (with_reducible repeat (first | refine blk_drewN ?_ _ | refine blk_drew ?_ | refine blk_alloc ?_ _)); exact BK237.out⟩, ⟨by repeat (first | (with_reducible first | exact HB.out | apply below_alloc | apply pw_below_drewN | apply below_drew1 | refine below_set ?_ GE237.out) | exact HB.out)⟩⟩
      · rw [if_neg c22] at H
        have c22b0 : (t247 != (decide (t245 ≥ 0))) = false := by simpa using c22
        (try (have c22b1 : decide (t247 = (decide (t245 ≥ 0))) = true := by simpa using c22))
        (try (have c22b2 : (t247 == (decide (t245 ≥ 0))) = true := by simpa using c22))
        clear c22
        (first | rw [c22b0] | (simp only [i64_w, i32_w]; rw [c22b0]) | skip)
        by_cases c23 : t247 = true
        · subst c23
          have H1 : (if t246 = t245 then (keyholelaw02_AuthOver.j0 k l1 a2 t238 t242 t245 false) else (keyholelaw02_AuthOver.j0 k l1 a2 t238 t242 t245 true)) = some r := by rw [if_pos rfl] at H; exact H
          clear H
          have H := H1
          clear H1
          by_cases c24 : t246 = t245
          · rw [if_pos c24] at H
            have c24b0 : (t246 == t245) = true := beq_iff_eq.mpr c24
            have c24b1 : (t246 != t245) = false := bne_eq_false_iff_eq.mpr c24
            clear c24
            have H' := Aside0.mk H
            clear H
            go_wp2
            go_meet
            case rel => exact ⟨_, (false), (by first | rfl | (simp; done) | (simp [*]; done)), H', ⟨by first | omega | exact Nat.le_refl _⟩, ⟨by (with_reducible repeat (first | apply Kd.V_alloc | apply Kd.V_drewN | apply Kd.V_drew)); exact Kd.V_mono HO240.out (fun _ hk => ⟨hk.2, ⟨hk.1.1, ⟨hk.1.2.1, ⟨hk.1.2.2.1, hk.1.2.2.2⟩⟩⟩⟩)⟩, ⟨by (with_reducible repeat (first | apply Kd.S_alloc | apply Kd.S_drewN | apply Kd.S_drew)); exact HO244.out⟩, ⟨by (with_reducible repeat (first | apply Kd.R_alloc | apply Kd.R_drewN | apply Kd.R_drew)); exact HO230.out⟩, ⟨by (with_reducible repeat (first | apply Kd.R_alloc | apply Kd.R_drewN | apply Kd.R_drew)); exact HO233.out⟩, ⟨by (with_reducible repeat (first | apply Kd.S_alloc | apply Kd.S_drewN | apply Kd.S_drew)); exact HO236.out⟩, ⟨by (with_reducible repeat (first | refine blk_drewN ?_ _ | refine blk_drew ?_ | refine blk_alloc ?_ _)); exact BK237.out⟩, ⟨by repeat (first | (with_reducible first | exact HB.out | apply below_alloc | apply pw_below_drewN | apply below_drew1 | refine below_set ?_ GE237.out) | exact HB.out)⟩⟩
          · rw [if_neg c24] at H
            have c24b0 : (t246 == t245) = false := beq_eq_false_iff_ne.mpr c24
            have c24b1 : (t246 != t245) = true := bne_iff_ne.mpr c24
            have H' := Aside0.mk H
            clear H
            go_wp2
            go_meet
            case rel => exact ⟨_, (true), (by first | rfl | (simp; done) | (simp [*]; done)), H', ⟨by first | omega | exact Nat.le_refl _⟩, ⟨by (with_reducible repeat (first | apply Kd.V_alloc | apply Kd.V_drewN | apply Kd.V_drew)); exact Kd.V_mono HO240.out (fun _ hk => ⟨hk.2, ⟨hk.1.1, ⟨hk.1.2.1, ⟨hk.1.2.2.1, hk.1.2.2.2⟩⟩⟩⟩)⟩, ⟨by (with_reducible repeat (first | apply Kd.S_alloc | apply Kd.S_drewN | apply Kd.S_drew)); exact HO244.out⟩, ⟨by (with_reducible repeat (first | apply Kd.R_alloc | apply Kd.R_drewN | apply Kd.R_drew)); exact HO230.out⟩, ⟨by (with_reducible repeat (first | apply Kd.R_alloc | apply Kd.R_drewN | apply Kd.R_drew)); exact HO233.out⟩, ⟨by (with_reducible repeat (first | apply Kd.S_alloc | apply Kd.S_drewN | apply Kd.S_drew)); exact HO236.out⟩, ⟨by (with_reducible repeat (first | refine blk_drewN ?_ _ | refine blk_drew ?_ | refine blk_alloc ?_ _)); exact BK237.out⟩, ⟨by repeat (first | (with_reducible first | exact HB.out | apply below_alloc | apply pw_below_drewN | apply below_drew1 | refine below_set ?_ GE237.out) | exact HB.out)⟩⟩
        · replace c23 := Bool.eq_false_iff.mpr c23
          subst c23
          have H1 : (keyholelaw02_AuthOver.j0 k l1 a2 t238 t242 t245 (t246 != 0)) = some r := by rw [if_neg (show ¬ (false = true) by decide)] at H; exact H
          clear H
          have H := H1
          clear H1
          have H' := Aside0.mk H
          clear H
          go_wp2
          go_meet
          case rel => exact ⟨_, ((t246 != 0)), (by first | rfl | (simp; done) | (simp [*]; done)), H', ⟨by first | omega | exact Nat.le_refl _⟩, ⟨by (with_reducible repeat (first | apply Kd.V_alloc | apply Kd.V_drewN | apply Kd.V_drew)); exact Kd.V_mono HO240.out (fun _ hk => ⟨hk.2, ⟨hk.1.1, ⟨hk.1.2.1, ⟨hk.1.2.2.1, hk.1.2.2.2⟩⟩⟩⟩)⟩, ⟨by (with_reducible repeat (first | apply Kd.S_alloc | apply Kd.S_drewN | apply Kd.S_drew)); exact HO244.out⟩, ⟨by (with_reducible repeat (first | apply Kd.R_alloc | apply Kd.R_drewN | apply Kd.R_drew)); exact HO230.out⟩, ⟨by (with_reducible repeat (first | apply Kd.R_alloc | apply Kd.R_drewN | apply Kd.R_drew)); exact HO233.out⟩, ⟨by (with_reducible repeat (first | apply Kd.S_alloc | apply Kd.S_drewN | apply Kd.S_drew)); exact HO236.out⟩, ⟨by (with_reducible repeat (first | refine blk_drewN ?_ _ | refine blk_drew ?_ | refine blk_alloc ?_ _)); exact BK237.out⟩, ⟨by repeat (first | (with_reducible first | exact HB.out | apply below_alloc | apply pw_below_drewN | apply below_drew1 | refine below_set ?_ GE237.out) | exact HB.out)⟩⟩
    case rest =>
      clear HC11
      try clear c1
      try clear c2
      try clear p2
      try clear c4
      try clear c5
      try clear c7
      try clear c9
      try clear c10
      try clear c12
      try clear c14
      try clear c15
      try clear c22
      try clear c22b0
      try clear c22b1
      try clear c22b2
      try clear c23
      try clear c24
      try clear c24b0
      try clear c24b1
      try clear hcz15_0
      try clear hcz15_1
      try clear hcz15_2
      try clear hcz19_0
      try clear hcz19_1
      try clear hcz19_2
      try clear hfz15_0
      try clear hfz15_1
      try clear hfz15_2
      try clear hfz19_0
      try clear hfz19_1
      try clear hfz19_2
      obtain ⟨kq, x61_10, rfl, HA, HJ10, HO_8, HO_10, HO_238000, HO_238001, HO_238002, BK237, HB⟩ := hcut
      cases kq with
      | zero => exact absurd HA.out (by simp [keyholelaw02_AuthOver.j0])
      | succ kj10 =>
        have H := HA.out
        clear HA
        simp only [keyholelaw02_AuthOver.j0] at H
        by_cases c25 : x61_10 = true
        · subst c25
          have H1 : (none) = some r := by rw [if_pos rfl] at H; exact H
          clear H
          have H := H1
          clear H1
          exact absurd H (by simp)
        · replace c25 := Bool.eq_false_iff.mpr c25
          subst c25
          have H1 : ((auth_Reach.f kj10 t238 l1 a2).bind fun t248 => (keyholelaw02_AuthOver.l0 kj10 l1 a2 t238 t242 t245 t248 0 0)) = some r := by rw [if_neg (show ¬ (false = true) by decide)] at H; exact H
          clear H
          have H := H1
          clear H1
          replace H := Option.bind_eq_some_iff.mp H
          obtain ⟨t248, A260, H⟩ := H
          replace H : (keyholelaw02_AuthOver.l0 kj10 l1 a2 t238 t242 t245 t248 0 0) = some r := H
          have A26 := Aside0.mk A260
          clear A260
          have H' := Aside0.mk H
          clear H
          obtain ⟨Ao27, co27, eo27⟩ := Kd.V_slice HO_8.out
          subst eo27
          go_wp2_with (first | ((with_reducible refine gate_callee (f := 16) rfl ?_); refine goesL_ (some 65) rfl rfl Try.func16 (by kernel_rfl) rfl #[.pointer Ao27, .slice A1 l1.length c1, .string a2] rfl (by (try simp only [List.map_toArray, List.map_cons, List.map_nil]); first | done | rfl | (simp only [List.length_drop, List.length_take]; rfl)) ?_; (with_reducible refine (auth_Reach.calls kj10 _ t238 _ _ l1 a2 t248 _ ?side1 ?side2 ?side3 A26.out).mono ?_); (case side1 => repeat (first | exact (Kd.V_reads' HO_8.out).2.2 | (with_reducible refine Kd.C_alloc ?_ _) | (with_reducible refine Kd.C_drewN ?_ _) | (with_reducible refine Kd.C_drew ?_))); (case side2 => repeat (first | exact (Kd.C_below HR1.out HB.out) | (with_reducible refine Kd.C_alloc ?_ _) | (with_reducible refine Kd.C_drewN ?_ _) | (with_reducible refine Kd.C_drew ?_))); (case side3 => exact HC1.out); rintro e w28 ⟨v249, rfl, ho0, hb⟩; refine ⟨_, rfl, ?_⟩; have n0_ := Aside0.mk (Kd.V_elder' (by (with_reducible repeat (first | apply Kd.V_alloc | apply Kd.V_drewN | apply Kd.V_drew)); exact HO_8.out) (Kd.R_base ho0) hb); have n1_ := Aside0.mk (Kd.S_below (by (with_reducible repeat (first | apply Kd.S_alloc | apply Kd.S_drewN | apply Kd.S_drew)); exact HO_10.out) hb); have n2_ := Aside0.mk (Kd.R_below (by (with_reducible repeat (first | apply Kd.R_alloc | apply Kd.R_drewN | apply Kd.R_drew)); exact HO_238000.out) hb); have n3_ := Aside0.mk (Kd.R_below (by (with_reducible repeat (first | apply Kd.R_alloc | apply Kd.R_drewN | apply Kd.R_drew)); exact HO_238001.out) hb); have n4_ := Aside0.mk (Kd.S_elder' (by (with_reducible repeat (first | apply Kd.S_alloc | apply Kd.S_drewN | apply Kd.S_drew)); exact HO_238002.out) (Kd.R_base ho0) hb); have n5_ := Aside0.mk (Kd.R_lower ho0 (below_size (by repeat (first | (with_reducible first | exact HB.out | apply below_alloc | apply pw_below_drewN | apply below_drew1 | refine below_set ?_ GE237.out) | exact HB.out)))); have n6_ := Aside0.mk (blk_below (g := gb237) (o := .cells #[.slice Ao14 t228.length co14, .slice Ao16 t231.length co16, .slice Ao17 t234.length co17] 28 (0, 0)) (by (with_reducible repeat (first | refine blk_drewN ?_ _ | refine blk_drew ?_ | refine blk_alloc ?_ _)); exact BK237.out) hb); have n7_ := Aside0.mk (below_step (by repeat (first | (with_reducible first | exact HB.out | apply below_alloc | apply pw_below_drewN | apply below_drew1 | refine below_set ?_ GE237.out) | exact HB.out)) hb); clear HO_8; clear HO_10; clear HO_238000; clear HO_238001; clear HO_238002; clear BK237; clear HB; have HO_8 := n0_; have HO_10 := n1_; have HO_238000 := n2_; have HO_238001 := n3_; have HO_238002 := n4_; have HO250 := n5_; have BK237 := n6_; have HB := n7_; clear n0_ n1_ n2_ n3_ n4_ n5_ n6_ n7_; (try clear hb); (try clear hb2); (try clear hk); (try clear hi); (try clear ho0)))
          go_loopg [15, 16] kj10 (fun kq v15 v16 w' => ∃ (x15_2 : Int) (x16_2 : Int), v15 = .int .i64 x15_2 ∧ v16 = .int .i64 x16_2 ∧ Aside0 (keyholelaw02_AuthOver.l0 kq l1 a2 t238 t242 t245 t248 x15_2 x16_2 = some r) ∧ Aside0 (kq ≤ kj10) ∧ Aside0 (Kd.V klat 64 w' w.heap.size (fun k_ => some k_ ≠ (v243 : Value).ownBlock ∧ some k_ ≠ (v249 : Value).ownBlock ∧ some k_ ≠ ((.slice Ao14 t228.length co14) : Value).ownBlock ∧ some k_ ≠ ((.slice Ao16 t231.length co16) : Value).ownBlock ∧ some k_ ≠ ((.slice Ao17 t234.length co17) : Value).ownBlock ∧ k_ ≠ gb237) (.slice Ao27 t238.length co27) t238) ∧ Aside0 (Kd.S (Kd.slice 4 Kd.bool) 46 w' w.heap.size (fun _ => True) v243 t242) ∧ Aside0 (Kd.R (Kd.int .i64) 3 w' w.heap.size (fun _ => True) v249 t248) ∧ Aside0 (Kd.R Kd.string 9 w' w.heap.size (fun _ => True) (.slice Ao14 t228.length co14) t228) ∧ Aside0 (Kd.R k52 52 w' w.heap.size (fun _ => True) (.slice Ao16 t231.length co16) t231) ∧ Aside0 (Kd.S k36 36 w' w.heap.size (fun k_ => some k_ ≠ (v249 : Value).ownBlock) (.slice Ao17 t234.length co17) t234) ∧ Aside0 (w'.heap[gb237]? = some (.cells #[(.slice Ao14 t228.length co14), (.slice Ao16 t231.length co16), (.slice Ao17 t234.length co17)] 28 (0, 0))) ∧ Aside0 (Below w.heap.size w w'))
          case atStart => exact ⟨(0), (0), (by first | rfl | (simp; done) | (simp [*]; done)), (by first | rfl | (simp; done) | (simp [*]; done)), H', ⟨Nat.le_refl _⟩, ⟨by (with_reducible repeat (first | apply Kd.V_alloc | apply Kd.V_drewN | apply Kd.V_drew)); exact Kd.V_mono HO_8.out (fun _ hk => ⟨hk.1.1, ⟨hk.2, ⟨hk.1.2.1, ⟨hk.1.2.2.1, ⟨hk.1.2.2.2.1, hk.1.2.2.2.2⟩⟩⟩⟩⟩)⟩, ⟨by (with_reducible repeat (first | apply Kd.S_alloc | apply Kd.S_drewN | apply Kd.S_drew)); exact HO_10.out⟩, ⟨by (with_reducible repeat (first | apply Kd.R_alloc | apply Kd.R_drewN | apply Kd.R_drew)); exact HO250.out⟩, ⟨by (with_reducible repeat (first | apply Kd.R_alloc | apply Kd.R_drewN | apply Kd.R_drew)); exact HO_238000.out⟩, ⟨by (with_reducible repeat (first | apply Kd.R_alloc | apply Kd.R_drewN | apply Kd.R_drew)); exact HO_238001.out⟩, ⟨by (with_reducible repeat (first | apply Kd.S_alloc | apply Kd.S_drewN | apply Kd.S_drew)); exact Kd.S_mono HO_238002.out (fun _ hk => hk.2)⟩, ⟨by (with_reducible repeat (first | refine blk_drewN ?_ _ | refine blk_drew ?_ | refine blk_alloc ?_ _)); exact BK237.out⟩, ⟨by repeat (first | (with_reducible first | exact HB.out | apply below_alloc | apply pw_below_drewN | apply below_drew1 | refine below_set ?_ GE237.out) | exact HB.out)⟩⟩
          case round =>
            clear H'
            try clear c1
            try clear c2
            try clear p2
            try clear c4
            try clear c5
            try clear c7
            try clear c9
            try clear c10
            try clear c12
            try clear c14
            try clear c15
            try clear c16
            try clear c22
            try clear c22b0
            try clear c22b1
            try clear c22b2
            try clear c23
            try clear c24
            try clear c24b0
            try clear c24b1
            try clear c25
            try clear hcz15_0
            try clear hcz15_1
            try clear hcz15_2
            try clear hcz19_0
            try clear hcz19_1
            try clear hcz19_2
            try clear hfz15_0
            try clear hfz15_1
            try clear hfz15_2
            try clear hfz19_0
            try clear hfz19_1
            try clear hfz19_2
            try clear p2
            obtain ⟨x15_2, x16_2, rfl, rfl, HA, HK2, HO_8, HO_10, HO_14, HO_238000, HO_238001, HO_238002, BK237, HB⟩ := hrel
            cases gk with
            | zero => exact absurd HA.out (by simp [keyholelaw02_AuthOver.l0])
            | succ k2 =>
              have H := HA.out
              clear HA
              simp only [keyholelaw02_AuthOver.l0] at H
              by_cases c29 : x16_2 < (t242.length : Int)
              · rw [if_pos c29] at H
                have c29b0 : decide (x16_2 < (t242.length : Int)) = true := decide_eq_true c29
                clear c29
                have HC30 := Aside0.mk H
                clear H
                obtain ⟨Ao31, co31, eo31⟩ := Kd.S_slice HO_10.out
                subst eo31
                go_upto_block 2 with (fail)
                go_cut [17] (fun v17 wc => ∃ (kq : Nat) (x17_29 : Bool), v17 = .bool x17_29 ∧ Aside0 (keyholelaw02_AuthOver.j3 kq l1 a2 t238 t242 t245 t248 x15_2 x16_2 x17_29 = some r) ∧ Aside0 (kq ≤ k2) ∧ Aside0 (Kd.V klat 64 wc w.heap.size (fun k_ => some k_ ≠ ((.slice Ao31 t242.length co31) : Value).ownBlock ∧ some k_ ≠ (v249 : Value).ownBlock ∧ some k_ ≠ ((.slice Ao14 t228.length co14) : Value).ownBlock ∧ some k_ ≠ ((.slice Ao16 t231.length co16) : Value).ownBlock ∧ some k_ ≠ ((.slice Ao17 t234.length co17) : Value).ownBlock ∧ k_ ≠ gb237) (.slice Ao27 t238.length co27) t238) ∧ Aside0 (Kd.S (Kd.slice 4 Kd.bool) 46 wc w.heap.size (fun _ => True) (.slice Ao31 t242.length co31) t242) ∧ Aside0 (Kd.R (Kd.int .i64) 3 wc w.heap.size (fun _ => True) v249 t248) ∧ Aside0 (Kd.R Kd.string 9 wc w.heap.size (fun _ => True) (.slice Ao14 t228.length co14) t228) ∧ Aside0 (Kd.R k52 52 wc w.heap.size (fun _ => True) (.slice Ao16 t231.length co16) t231) ∧ Aside0 (Kd.S k36 36 wc w.heap.size (fun k_ => some k_ ≠ (v249 : Value).ownBlock) (.slice Ao17 t234.length co17) t234) ∧ Aside0 (wc.heap[gb237]? = some (.cells #[(.slice Ao14 t228.length co14), (.slice Ao16 t231.length co16), (.slice Ao17 t234.length co17)] 28 (0, 0))) ∧ Aside0 (Below w.heap.size w wc))
                case first =>
                  have H := HC30.out
                  clear HC30
                  have H' := Aside0.mk H
                  clear H
                  go_wp2
                  go_loopg [17, 18] k2 (fun kq v17 v18 w' => ∃ (x17_3 : Bool) (x18_3 : Int), v17 = .bool x17_3 ∧ v18 = .int .i64 x18_3 ∧ Aside0 (keyholelaw02_AuthOver.l1 kq l1 a2 t238 t242 t245 t248 x15_2 x16_2 x17_3 x18_3 = some r) ∧ Aside0 (kq ≤ k2) ∧ Aside0 (Kd.V klat 64 w' w.heap.size (fun k_ => some k_ ≠ ((.slice Ao31 t242.length co31) : Value).ownBlock ∧ some k_ ≠ (v249 : Value).ownBlock ∧ some k_ ≠ ((.slice Ao14 t228.length co14) : Value).ownBlock ∧ some k_ ≠ ((.slice Ao16 t231.length co16) : Value).ownBlock ∧ some k_ ≠ ((.slice Ao17 t234.length co17) : Value).ownBlock ∧ k_ ≠ gb237) (.slice Ao27 t238.length co27) t238) ∧ Aside0 (Kd.S (Kd.slice 4 Kd.bool) 46 w' w.heap.size (fun _ => True) (.slice Ao31 t242.length co31) t242) ∧ Aside0 (Kd.R (Kd.int .i64) 3 w' w.heap.size (fun _ => True) v249 t248) ∧ Aside0 (Kd.R Kd.string 9 w' w.heap.size (fun _ => True) (.slice Ao14 t228.length co14) t228) ∧ Aside0 (Kd.R k52 52 w' w.heap.size (fun _ => True) (.slice Ao16 t231.length co16) t231) ∧ Aside0 (Kd.S k36 36 w' w.heap.size (fun k_ => some k_ ≠ (v249 : Value).ownBlock) (.slice Ao17 t234.length co17) t234) ∧ Aside0 (w'.heap[gb237]? = some (.cells #[(.slice Ao14 t228.length co14), (.slice Ao16 t231.length co16), (.slice Ao17 t234.length co17)] 28 (0, 0))) ∧ Aside0 (Below w.heap.size w w'))
                  case atStart => exact ⟨(false), (0), (by first | rfl | (simp; done) | (simp [*]; done)), (by first | rfl | (simp; done) | (simp [*]; done)), H', ⟨Nat.le_refl _⟩, ⟨by (with_reducible repeat (first | apply Kd.V_alloc | apply Kd.V_drewN | apply Kd.V_drew)); exact HO_8.out⟩, ⟨by (with_reducible repeat (first | apply Kd.S_alloc | apply Kd.S_drewN | apply Kd.S_drew)); exact HO_10.out⟩, ⟨by (with_reducible repeat (first | apply Kd.R_alloc | apply Kd.R_drewN | apply Kd.R_drew)); exact HO_14.out⟩, ⟨by (with_reducible repeat (first | apply Kd.R_alloc | apply Kd.R_drewN | apply Kd.R_drew)); exact HO_238000.out⟩, ⟨by (with_reducible repeat (first | apply Kd.R_alloc | apply Kd.R_drewN | apply Kd.R_drew)); exact HO_238001.out⟩, ⟨by (with_reducible repeat (first | apply Kd.S_alloc | apply Kd.S_drewN | apply Kd.S_drew)); exact HO_238002.out⟩, ⟨by (with_reducible repeat (first | refine blk_drewN ?_ _ | refine blk_drew ?_ | refine blk_alloc ?_ _)); exact BK237.out⟩, ⟨by repeat (first | (with_reducible first | exact HB.out | apply below_alloc | apply pw_below_drewN | apply below_drew1 | refine below_set ?_ GE237.out) | exact HB.out)⟩⟩
                  case round =>
                    clear H'
                    try clear c1
                    try clear c2
                    try clear p2
                    try clear c4
                    try clear c5
                    try clear c7
                    try clear c9
                    try clear c10
                    try clear c12
                    try clear c14
                    try clear c15
                    try clear c16
                    try clear c22
                    try clear c22b0
                    try clear c22b1
                    try clear c22b2
                    try clear c23
                    try clear c24
                    try clear c24b0
                    try clear c24b1
                    try clear c25
                    try clear c29
                    try clear c29b0
                    try clear hcz15_0
                    try clear hcz15_1
                    try clear hcz15_2
                    try clear hcz19_0
                    try clear hcz19_1
                    try clear hcz19_2
                    try clear hfz15_0
                    try clear hfz15_1
                    try clear hfz15_2
                    try clear hfz19_0
                    try clear hfz19_1
                    try clear hfz19_2
                    try clear p2
                    obtain ⟨x17_3, x18_3, rfl, rfl, HA, HK3, HO_8, HO_10, HO_14, HO_238000, HO_238001, HO_238002, BK237, HB⟩ := hrel
                    cases gk with
                    | zero => exact absurd HA.out (by simp [keyholelaw02_AuthOver.l1])
                    | succ k3 =>
                      have H := HA.out
                      clear HA
                      simp only [keyholelaw02_AuthOver.l1] at H
                      by_cases c32 : t245 ≥ 0
                      · rw [if_pos c32] at H
                        have c32b0 : decide (0 ≤ t245) = true := decide_eq_true c32
                        clear c32
                        (first | rw [c32b0] | (simp only [i64_w, i32_w]; rw [c32b0]) | skip)
                        by_cases c33 : 0 ≤ t245
                        · rw [if_pos c33] at H
                          have c33b0 : decide (0 ≤ t245) = true := decide_eq_true c33
                          clear c33
                          by_cases c34 : t245 < (l1.length : Int)
                          · rw [if_pos c34] at H
                            have c34b0 : decide (t245 < (l1.length : Int)) = true := decide_eq_true c34
                            clear c34
                            by_cases c35 : x18_3 < (((rd_T36 l1 t245).f1).length : Int)
                            · rw [if_pos c35] at H
                              have c35b0 : decide (x18_3 < (((rd_T36 l1 t245).f1).length : Int)) = true := decide_eq_true c35
                              clear c35
                              by_cases c36 : 0 ≤ x18_3
                              · rw [if_pos c36] at H
                                have c36b0 : decide (0 ≤ x18_3) = true := decide_eq_true c36
                                clear c36
                                by_cases c37 : x17_3 = true
                                · subst c37
                                  have H1 : (keyholelaw02_AuthOver.l1 k3 l1 a2 t238 t242 t245 t248 x15_2 x16_2 true (wrap64 (x18_3 + 1))) = some r := by rw [if_pos rfl] at H; exact H
                                  clear H
                                  have H := H1
                                  clear H1
                                  have H' := Aside0.mk H
                                  clear H
                                  have p254 : 0 ≤ (t245 : Int) := of_decide_eq_true (by first | (with_reducible assumption) | assumption)
                                  have q254 : t245 < (l1.length : Int) := of_decide_eq_true (by first | (with_reducible assumption) | assumption)
                                  obtain ⟨ad254, A254_1, c254_1, e254, hx254_0, hx254_1, hl254_1, hi254_1⟩ := at_T36 HR1.out t245 p254 q254
                                  cases e254
                                  replace hx254_0 := (HB.out.cell (World.block_lt_of_cell? w _ hx254_0)).trans hx254_0
                                  replace hx254_1 := (HB.out.cell (World.block_lt_of_cell? w _ hx254_1)).trans hx254_1
                                  have HR254_1 := Aside0.mk hi254_1
                                  have HC254_1 := Aside0.mk hl254_1
                                  clear hi254_1 hl254_1
                                  replace p254 := eq_true p254
                                  replace q254 := eq_true q254
                                  have p255 : 0 ≤ (t245 : Int) := of_decide_eq_true (by first | (with_reducible assumption) | assumption)
                                  have q255 : t245 < (l1.length : Int) := of_decide_eq_true (by first | (with_reducible assumption) | assumption)
                                  obtain ⟨ad255, A255_1, c255_1, e255, hx255_0, hx255_1, hl255_1, hi255_1⟩ := at_T36 HR1.out t245 p255 q255
                                  obtain rfl : ad254 = ad255 := (by injection e255)
                                  replace hx255_0 := (HB.out.cell (World.block_lt_of_cell? w _ hx255_0)).trans hx255_0
                                  replace hx255_1 := (HB.out.cell (World.block_lt_of_cell? w _ hx255_1)).trans hx255_1
                                  have HR255_1 := Aside0.mk hi255_1
                                  have HC255_1 := Aside0.mk hl255_1
                                  clear hi255_1 hl255_1
                                  replace p255 := eq_true p255
                                  replace q255 := eq_true q255
                                  have ea_ := Option.some.inj (hx254_1.symm.trans hx255_1)
                                  injection ea_ with ea_ en_ ec_
                                  subst ea_
                                  subst ec_
                                  clear en_
                                  have p256 : 0 ≤ (x18_3 : Int) := of_decide_eq_true (by first | (with_reducible assumption) | assumption)
                                  have q256 : x18_3 < (((rd_T36 l1 t245).f1).length : Int) := of_decide_eq_true (by first | (with_reducible assumption) | assumption)
                                  obtain ⟨ad256, e256, hx256_0⟩ := Kd.at_int HR255_1.out x18_3 p256 q256
                                  cases e256
                                  replace hx256_0 := (HB.out.cell (World.block_lt_of_cell? w _ hx256_0)).trans hx256_0
                                  replace p256 := eq_true p256
                                  replace q256 := eq_true q256
                                  go_wp2
                                  go_roundg k3
                                  case measure => have := HJ10.out; have := HK2.out; have := HK3.out; omega
                                  case rel => exact ⟨(true), (wrap64 (x18_3 + 1)), (by first | rfl | (simp; done) | (simp [*]; done)), (by first | rfl | (simp; done) | (simp [*]; done)), H', ⟨by have := HJ10.out; have := HK2.out; have := HK3.out; omega⟩, ⟨by (with_reducible repeat (first | apply Kd.V_alloc | apply Kd.V_drewN | apply Kd.V_drew)); exact HO_8.out⟩, ⟨by (with_reducible repeat (first | apply Kd.S_alloc | apply Kd.S_drewN | apply Kd.S_drew)); exact HO_10.out⟩, ⟨by (with_reducible repeat (first | apply Kd.R_alloc | apply Kd.R_drewN | apply Kd.R_drew)); exact HO_14.out⟩, ⟨by (with_reducible repeat (first | apply Kd.R_alloc | apply Kd.R_drewN | apply Kd.R_drew)); exact HO_238000.out⟩, ⟨by (with_reducible repeat (first | apply Kd.R_alloc | apply Kd.R_drewN | apply Kd.R_drew)); exact HO_238001.out⟩, ⟨by (with_reducible repeat (first | apply Kd.S_alloc | apply Kd.S_drewN | apply Kd.S_drew)); exact HO_238002.out⟩, ⟨by (with_reducible repeat (first | refine blk_drewN ?_ _ | refine blk_drew ?_ | refine blk_alloc ?_ _)); exact BK237.out⟩, ⟨by repeat (first | (with_reducible first | exact HB.out | apply below_alloc | apply pw_below_drewN | apply below_drew1 | refine below_set ?_ GE237.out) | exact HB.out)⟩⟩
                                · replace c37 := Bool.eq_false_iff.mpr c37
                                  subst c37
                                  have H1 : (if (rd ((rd_T36 l1 t245).f1) x18_3) ≥ 0 then (if (rd ((rd_T36 l1 t245).f1) x18_3) < (t242.length : Int) then (if 0 ≤ x16_2 then (if x16_2 < (t242.length : Int) then (if 0 ≤ (rd ((rd_T36 l1 t245).f1) x18_3) then (if (rd ((rd_T36 l1 t245).f1) x18_3) < ((rd_L11 t242 x16_2).length : Int) then (keyholelaw02_AuthOver.l1 k3 l1 a2 t238 t242 t245 t248 x15_2 x16_2 (rdOf false (rd_L11 t242 x16_2) (rd ((rd_T36 l1 t245).f1) x18_3)) (wrap64 (x18_3 + 1))) else (none)) else (none)) else (none)) else (none)) else (keyholelaw02_AuthOver.l1 k3 l1 a2 t238 t242 t245 t248 x15_2 x16_2 false (wrap64 (x18_3 + 1)))) else (keyholelaw02_AuthOver.l1 k3 l1 a2 t238 t242 t245 t248 x15_2 x16_2 false (wrap64 (x18_3 + 1)))) = some r := by rw [if_neg (show ¬ (false = true) by decide)] at H; exact H
                                  clear H
                                  have H := H1
                                  clear H1
                                  by_cases c38 : (rd ((rd_T36 l1 t245).f1) x18_3) ≥ 0
                                  · rw [if_pos c38] at H
                                    have c38b0 : decide (0 ≤ (rd ((rd_T36 l1 t245).f1) x18_3)) = true := decide_eq_true c38
                                    clear c38
                                    by_cases c39 : (rd ((rd_T36 l1 t245).f1) x18_3) < (t242.length : Int)
                                    · rw [if_pos c39] at H
                                      have c39b0 : decide ((rd ((rd_T36 l1 t245).f1) x18_3) < (t242.length : Int)) = true := decide_eq_true c39
                                      clear c39
                                      by_cases c40 : 0 ≤ x16_2
                                      · rw [if_pos c40] at H
                                        have c40b0 : decide (0 ≤ x16_2) = true := decide_eq_true c40
                                        clear c40
                                        by_cases c41 : x16_2 < (t242.length : Int)
                                        · rw [if_pos c41] at H
                                          have c41b0 : decide (x16_2 < (t242.length : Int)) = true := decide_eq_true c41
                                          clear c41
                                          by_cases c42 : 0 ≤ (rd ((rd_T36 l1 t245).f1) x18_3)
                                          · rw [if_pos c42] at H
                                            have c42b0 : decide (0 ≤ (rd ((rd_T36 l1 t245).f1) x18_3)) = true := decide_eq_true c42
                                            clear c42
                                            by_cases c43 : (rd ((rd_T36 l1 t245).f1) x18_3) < ((rd_L11 t242 x16_2).length : Int)
                                            · rw [if_pos c43] at H
                                              have c43b0 : decide ((rd ((rd_T36 l1 t245).f1) x18_3) < ((rd_L11 t242 x16_2).length : Int)) = true := decide_eq_true c43
                                              clear c43
                                              have H' := Aside0.mk H
                                              clear H
                                              have p254 : 0 ≤ (t245 : Int) := of_decide_eq_true (by first | (with_reducible assumption) | assumption)
                                              have q254 : t245 < (l1.length : Int) := of_decide_eq_true (by first | (with_reducible assumption) | assumption)
                                              obtain ⟨ad254, A254_1, c254_1, e254, hx254_0, hx254_1, hl254_1, hi254_1⟩ := at_T36 HR1.out t245 p254 q254
                                              cases e254
                                              replace hx254_0 := (HB.out.cell (World.block_lt_of_cell? w _ hx254_0)).trans hx254_0
                                              replace hx254_1 := (HB.out.cell (World.block_lt_of_cell? w _ hx254_1)).trans hx254_1
                                              have HR254_1 := Aside0.mk hi254_1
                                              have HC254_1 := Aside0.mk hl254_1
                                              clear hi254_1 hl254_1
                                              replace p254 := eq_true p254
                                              replace q254 := eq_true q254
                                              have p255 : 0 ≤ (t245 : Int) := of_decide_eq_true (by first | (with_reducible assumption) | assumption)
                                              have q255 : t245 < (l1.length : Int) := of_decide_eq_true (by first | (with_reducible assumption) | assumption)
                                              obtain ⟨ad255, A255_1, c255_1, e255, hx255_0, hx255_1, hl255_1, hi255_1⟩ := at_T36 HR1.out t245 p255 q255
                                              obtain rfl : ad254 = ad255 := (by injection e255)
                                              replace hx255_0 := (HB.out.cell (World.block_lt_of_cell? w _ hx255_0)).trans hx255_0
                                              replace hx255_1 := (HB.out.cell (World.block_lt_of_cell? w _ hx255_1)).trans hx255_1
                                              have HR255_1 := Aside0.mk hi255_1
                                              have HC255_1 := Aside0.mk hl255_1
                                              clear hi255_1 hl255_1
                                              replace p255 := eq_true p255
                                              replace q255 := eq_true q255
                                              have ea_ := Option.some.inj (hx254_1.symm.trans hx255_1)
                                              injection ea_ with ea_ en_ ec_
                                              subst ea_
                                              subst ec_
                                              clear en_
                                              have p256 : 0 ≤ (x18_3 : Int) := of_decide_eq_true (by first | (with_reducible assumption) | assumption)
                                              have q256 : x18_3 < (((rd_T36 l1 t245).f1).length : Int) := of_decide_eq_true (by first | (with_reducible assumption) | assumption)
                                              obtain ⟨ad256, e256, hx256_0⟩ := Kd.at_int HR255_1.out x18_3 p256 q256
                                              cases e256
                                              replace hx256_0 := (HB.out.cell (World.block_lt_of_cell? w _ hx256_0)).trans hx256_0
                                              replace p256 := eq_true p256
                                              replace q256 := eq_true q256
                                              have p257 : 0 ≤ (x16_2 : Int) := of_decide_eq_true (by first | (with_reducible assumption) | assumption)
                                              have q257 : x16_2 < (t242.length : Int) := of_decide_eq_true (by first | (with_reducible assumption) | assumption)
                                              obtain ⟨ad257, A257_0, c257_0, e257, hx257_0, hl257_0, hi257_0⟩ := at_L11 (Kd.S_reads' HO_10.out).2.2 x16_2 p257 q257
                                              cases e257
                                              obtain ⟨ce257, hce257, hMe257, hcc257⟩ := Kd.S_get HO_10.out [] x16_2 p257 (by first | exact q257 | exact of_decide_eq_true (by first | (with_reducible assumption) | assumption) | (have e_ := (Kd.S_reads' HO_10.out).1; omega))
                                              obtain ⟨ve257_0, rfl, ge257_0⟩ := hMe257
                                              have hv257_0 := hcc257 0 _ rfl
                                              rw [Nat.add_zero, show ((Kd.slice 4 Kd.bool)).sz = 1 from rfl, Nat.mul_one] at hv257_0
                                              replace hv257_0 := Option.some.inj (hv257_0.symm.trans hx257_0)
                                              rw [hv257_0] at ge257_0
                                              have HL257_0 := Aside0.mk (show Kd.R Kd.bool 4 _ _ _ _ (rd_L11 t242 x16_2) from ge257_0)
                                              clear hv257_0 ge257_0
                                              clear hcc257 hce257
                                              have HR257_0 := Aside0.mk hi257_0
                                              have HC257_0 := Aside0.mk hl257_0
                                              clear hi257_0 hl257_0
                                              replace p257 := eq_true p257
                                              replace q257 := eq_true q257
                                              have p258 : 0 ≤ ((rd ((rd_T36 l1 t245).f1) x18_3) : Int) := of_decide_eq_true (by first | (with_reducible assumption) | assumption)
                                              have q258 : (rd ((rd_T36 l1 t245).f1) x18_3) < ((rd_L11 t242 x16_2).length : Int) := of_decide_eq_true (by first | (with_reducible assumption) | assumption)
                                              obtain ⟨ad258, e258, hx258_0⟩ := Kd.at_bool (by repeat (first | (with_reducible exact HR257_0.out) | (with_reducible refine Kd.C_alloc ?_ _) | (with_reducible refine Kd.C_drewN ?_ _) | (with_reducible refine Kd.C_drew ?_) | exact HR257_0.out)) (rd ((rd_T36 l1 t245).f1) x18_3) p258 q258
                                              cases e258
                                              replace p258 := eq_true p258
                                              replace q258 := eq_true q258
                                              go_wp2
                                              go_roundg k3
                                              case measure => have := HJ10.out; have := HK2.out; have := HK3.out; omega
                                              case rel => exact ⟨(rdOf false (rd_L11 t242 x16_2) (rd ((rd_T36 l1 t245).f1) x18_3)), (wrap64 (x18_3 + 1)), (by first | rfl | (simp; done) | (simp [*]; done)), (by first | rfl | (simp; done) | (simp [*]; done)), H', ⟨by have := HJ10.out; have := HK2.out; have := HK3.out; omega⟩, ⟨by (with_reducible repeat (first | apply Kd.V_alloc | apply Kd.V_drewN | apply Kd.V_drew)); exact HO_8.out⟩, ⟨by (with_reducible repeat (first | apply Kd.S_alloc | apply Kd.S_drewN | apply Kd.S_drew)); exact HO_10.out⟩, ⟨by (with_reducible repeat (first | apply Kd.R_alloc | apply Kd.R_drewN | apply Kd.R_drew)); exact HO_14.out⟩, ⟨by (with_reducible repeat (first | apply Kd.R_alloc | apply Kd.R_drewN | apply Kd.R_drew)); exact HO_238000.out⟩, ⟨by (with_reducible repeat (first | apply Kd.R_alloc | apply Kd.R_drewN | apply Kd.R_drew)); exact HO_238001.out⟩, ⟨by (with_reducible repeat (first | apply Kd.S_alloc | apply Kd.S_drewN | apply Kd.S_drew)); exact HO_238002.out⟩, ⟨by (with_reducible repeat (first | refine blk_drewN ?_ _ | refine blk_drew ?_ | refine blk_alloc ?_ _)); exact BK237.out⟩, ⟨by repeat (first | (with_reducible first | exact HB.out | apply below_alloc | apply pw_below_drewN | apply below_drew1 | refine below_set ?_ GE237.out) | exact HB.out)⟩⟩
                                            · rw [if_neg c43] at H
                                              exact absurd H (by simp)
                                          · rw [if_neg c42] at H
                                            exact absurd H (by simp)
                                        · rw [if_neg c41] at H
                                          exact absurd H (by simp)
                                      · rw [if_neg c40] at H
                                        exact absurd H (by simp)
                                    · rw [if_neg c39] at H
                                      have c39b0 : decide ((rd ((rd_T36 l1 t245).f1) x18_3) < (t242.length : Int)) = false := decide_eq_false c39
                                      clear c39
                                      have H' := Aside0.mk H
                                      clear H
                                      have p254 : 0 ≤ (t245 : Int) := of_decide_eq_true (by first | (with_reducible assumption) | assumption)
                                      have q254 : t245 < (l1.length : Int) := of_decide_eq_true (by first | (with_reducible assumption) | assumption)
                                      obtain ⟨ad254, A254_1, c254_1, e254, hx254_0, hx254_1, hl254_1, hi254_1⟩ := at_T36 HR1.out t245 p254 q254
                                      cases e254
                                      replace hx254_0 := (HB.out.cell (World.block_lt_of_cell? w _ hx254_0)).trans hx254_0
                                      replace hx254_1 := (HB.out.cell (World.block_lt_of_cell? w _ hx254_1)).trans hx254_1
                                      have HR254_1 := Aside0.mk hi254_1
                                      have HC254_1 := Aside0.mk hl254_1
                                      clear hi254_1 hl254_1
                                      replace p254 := eq_true p254
                                      replace q254 := eq_true q254
                                      have p255 : 0 ≤ (t245 : Int) := of_decide_eq_true (by first | (with_reducible assumption) | assumption)
                                      have q255 : t245 < (l1.length : Int) := of_decide_eq_true (by first | (with_reducible assumption) | assumption)
                                      obtain ⟨ad255, A255_1, c255_1, e255, hx255_0, hx255_1, hl255_1, hi255_1⟩ := at_T36 HR1.out t245 p255 q255
                                      obtain rfl : ad254 = ad255 := (by injection e255)
                                      replace hx255_0 := (HB.out.cell (World.block_lt_of_cell? w _ hx255_0)).trans hx255_0
                                      replace hx255_1 := (HB.out.cell (World.block_lt_of_cell? w _ hx255_1)).trans hx255_1
                                      have HR255_1 := Aside0.mk hi255_1
                                      have HC255_1 := Aside0.mk hl255_1
                                      clear hi255_1 hl255_1
                                      replace p255 := eq_true p255
                                      replace q255 := eq_true q255
                                      have ea_ := Option.some.inj (hx254_1.symm.trans hx255_1)
                                      injection ea_ with ea_ en_ ec_
                                      subst ea_
                                      subst ec_
                                      clear en_
                                      have p256 : 0 ≤ (x18_3 : Int) := of_decide_eq_true (by first | (with_reducible assumption) | assumption)
                                      have q256 : x18_3 < (((rd_T36 l1 t245).f1).length : Int) := of_decide_eq_true (by first | (with_reducible assumption) | assumption)
                                      obtain ⟨ad256, e256, hx256_0⟩ := Kd.at_int HR255_1.out x18_3 p256 q256
                                      cases e256
                                      replace hx256_0 := (HB.out.cell (World.block_lt_of_cell? w _ hx256_0)).trans hx256_0
                                      replace p256 := eq_true p256
                                      replace q256 := eq_true q256
                                      go_wp2
                                      go_roundg k3
                                      case measure => have := HJ10.out; have := HK2.out; have := HK3.out; omega
                                      case rel => exact ⟨(false), (wrap64 (x18_3 + 1)), (by first | rfl | (simp; done) | (simp [*]; done)), (by first | rfl | (simp; done) | (simp [*]; done)), H', ⟨by have := HJ10.out; have := HK2.out; have := HK3.out; omega⟩, ⟨by (with_reducible repeat (first | apply Kd.V_alloc | apply Kd.V_drewN | apply Kd.V_drew)); exact HO_8.out⟩, ⟨by (with_reducible repeat (first | apply Kd.S_alloc | apply Kd.S_drewN | apply Kd.S_drew)); exact HO_10.out⟩, ⟨by (with_reducible repeat (first | apply Kd.R_alloc | apply Kd.R_drewN | apply Kd.R_drew)); exact HO_14.out⟩, ⟨by (with_reducible repeat (first | apply Kd.R_alloc | apply Kd.R_drewN | apply Kd.R_drew)); exact HO_238000.out⟩, ⟨by (with_reducible repeat (first | apply Kd.R_alloc | apply Kd.R_drewN | apply Kd.R_drew)); exact HO_238001.out⟩, ⟨by (with_reducible repeat (first | apply Kd.S_alloc | apply Kd.S_drewN | apply Kd.S_drew)); exact HO_238002.out⟩, ⟨by (with_reducible repeat (first | refine blk_drewN ?_ _ | refine blk_drew ?_ | refine blk_alloc ?_ _)); exact BK237.out⟩, ⟨by repeat (first | (with_reducible first | exact HB.out | apply below_alloc | apply pw_below_drewN | apply below_drew1 | refine below_set ?_ GE237.out) | exact HB.out)⟩⟩
                                  · rw [if_neg c38] at H
                                    have c38b0 : decide (0 ≤ (rd ((rd_T36 l1 t245).f1) x18_3)) = false := decide_eq_false c38
                                    clear c38
                                    have H' := Aside0.mk H
                                    clear H
                                    have p254 : 0 ≤ (t245 : Int) := of_decide_eq_true (by first | (with_reducible assumption) | assumption)
                                    have q254 : t245 < (l1.length : Int) := of_decide_eq_true (by first | (with_reducible assumption) | assumption)
                                    obtain ⟨ad254, A254_1, c254_1, e254, hx254_0, hx254_1, hl254_1, hi254_1⟩ := at_T36 HR1.out t245 p254 q254
                                    cases e254
                                    replace hx254_0 := (HB.out.cell (World.block_lt_of_cell? w _ hx254_0)).trans hx254_0
                                    replace hx254_1 := (HB.out.cell (World.block_lt_of_cell? w _ hx254_1)).trans hx254_1
                                    have HR254_1 := Aside0.mk hi254_1
                                    have HC254_1 := Aside0.mk hl254_1
                                    clear hi254_1 hl254_1
                                    replace p254 := eq_true p254
                                    replace q254 := eq_true q254
                                    have p255 : 0 ≤ (t245 : Int) := of_decide_eq_true (by first | (with_reducible assumption) | assumption)
                                    have q255 : t245 < (l1.length : Int) := of_decide_eq_true (by first | (with_reducible assumption) | assumption)
                                    obtain ⟨ad255, A255_1, c255_1, e255, hx255_0, hx255_1, hl255_1, hi255_1⟩ := at_T36 HR1.out t245 p255 q255
                                    obtain rfl : ad254 = ad255 := (by injection e255)
                                    replace hx255_0 := (HB.out.cell (World.block_lt_of_cell? w _ hx255_0)).trans hx255_0
                                    replace hx255_1 := (HB.out.cell (World.block_lt_of_cell? w _ hx255_1)).trans hx255_1
                                    have HR255_1 := Aside0.mk hi255_1
                                    have HC255_1 := Aside0.mk hl255_1
                                    clear hi255_1 hl255_1
                                    replace p255 := eq_true p255
                                    replace q255 := eq_true q255
                                    have ea_ := Option.some.inj (hx254_1.symm.trans hx255_1)
                                    injection ea_ with ea_ en_ ec_
                                    subst ea_
                                    subst ec_
                                    clear en_
                                    have p256 : 0 ≤ (x18_3 : Int) := of_decide_eq_true (by first | (with_reducible assumption) | assumption)
                                    have q256 : x18_3 < (((rd_T36 l1 t245).f1).length : Int) := of_decide_eq_true (by first | (with_reducible assumption) | assumption)
                                    obtain ⟨ad256, e256, hx256_0⟩ := Kd.at_int HR255_1.out x18_3 p256 q256
                                    cases e256
                                    replace hx256_0 := (HB.out.cell (World.block_lt_of_cell? w _ hx256_0)).trans hx256_0
                                    replace p256 := eq_true p256
                                    replace q256 := eq_true q256
                                    go_wp2
                                    go_roundg k3
                                    case measure => have := HJ10.out; have := HK2.out; have := HK3.out; omega
                                    case rel => exact ⟨(false), (wrap64 (x18_3 + 1)), (by first | rfl | (simp; done) | (simp [*]; done)), (by first | rfl | (simp; done) | (simp [*]; done)), H', ⟨by have := HJ10.out; have := HK2.out; have := HK3.out; omega⟩, ⟨by (with_reducible repeat (first | apply Kd.V_alloc | apply Kd.V_drewN | apply Kd.V_drew)); exact HO_8.out⟩, ⟨by (with_reducible repeat (first | apply Kd.S_alloc | apply Kd.S_drewN | apply Kd.S_drew)); exact HO_10.out⟩, ⟨by (with_reducible repeat (first | apply Kd.R_alloc | apply Kd.R_drewN | apply Kd.R_drew)); exact HO_14.out⟩, ⟨by (with_reducible repeat (first | apply Kd.R_alloc | apply Kd.R_drewN | apply Kd.R_drew)); exact HO_238000.out⟩, ⟨by (with_reducible repeat (first | apply Kd.R_alloc | apply Kd.R_drewN | apply Kd.R_drew)); exact HO_238001.out⟩, ⟨by (with_reducible repeat (first | apply Kd.S_alloc | apply Kd.S_drewN | apply Kd.S_drew)); exact HO_238002.out⟩, ⟨by (with_reducible repeat (first | refine blk_drewN ?_ _ | refine blk_drew ?_ | refine blk_alloc ?_ _)); exact BK237.out⟩, ⟨by repeat (first | (with_reducible first | exact HB.out | apply below_alloc | apply pw_below_drewN | apply below_drew1 | refine below_set ?_ GE237.out) | exact HB.out)⟩⟩
                              · rw [if_neg c36] at H
                                exact absurd H (by simp)
                            · rw [if_neg c35] at H
                              have c35b0 : decide (x18_3 < (((rd_T36 l1 t245).f1).length : Int)) = false := decide_eq_false c35
                              clear c35
                              have H' := Aside0.mk H
                              clear H
                              have p254 : 0 ≤ (t245 : Int) := of_decide_eq_true (by first | (with_reducible assumption) | assumption)
                              have q254 : t245 < (l1.length : Int) := of_decide_eq_true (by first | (with_reducible assumption) | assumption)
                              obtain ⟨ad254, A254_1, c254_1, e254, hx254_0, hx254_1, hl254_1, hi254_1⟩ := at_T36 HR1.out t245 p254 q254
                              cases e254
                              replace hx254_0 := (HB.out.cell (World.block_lt_of_cell? w _ hx254_0)).trans hx254_0
                              replace hx254_1 := (HB.out.cell (World.block_lt_of_cell? w _ hx254_1)).trans hx254_1
                              have HR254_1 := Aside0.mk hi254_1
                              have HC254_1 := Aside0.mk hl254_1
                              clear hi254_1 hl254_1
                              replace p254 := eq_true p254
                              replace q254 := eq_true q254
                              go_wp2
                              go_meet
                              case rel => exact ⟨_, (x17_3), (by first | rfl | (simp; done) | (simp [*]; done)), H', ⟨by have := HJ10.out; have := HK2.out; have := HK3.out; first | omega | exact Nat.le_refl _⟩, ⟨by (with_reducible repeat (first | apply Kd.V_alloc | apply Kd.V_drewN | apply Kd.V_drew)); exact HO_8.out⟩, ⟨by (with_reducible repeat (first | apply Kd.S_alloc | apply Kd.S_drewN | apply Kd.S_drew)); exact HO_10.out⟩, ⟨by (with_reducible repeat (first | apply Kd.R_alloc | apply Kd.R_drewN | apply Kd.R_drew)); exact HO_14.out⟩, ⟨by (with_reducible repeat (first | apply Kd.R_alloc | apply Kd.R_drewN | apply Kd.R_drew)); exact HO_238000.out⟩, ⟨by (with_reducible repeat (first | apply Kd.R_alloc | apply Kd.R_drewN | apply Kd.R_drew)); exact HO_238001.out⟩, ⟨by (with_reducible repeat (first | apply Kd.S_alloc | apply Kd.S_drewN | apply Kd.S_drew)); exact HO_238002.out⟩, ⟨by (with_reducible repeat (first | refine blk_drewN ?_ _ | refine blk_drew ?_ | refine blk_alloc ?_ _)); exact BK237.out⟩, ⟨by repeat (first | (with_reducible first | exact HB.out | apply below_alloc | apply pw_below_drewN | apply below_drew1 | refine below_set ?_ GE237.out) | exact HB.out)⟩⟩
                          · rw [if_neg c34] at H
                            exact absurd H (by simp)
                        · rw [if_neg c33] at H
                          exact absurd H (by simp)
                      · rw [if_neg c32] at H
                        have c32b0 : decide (0 ≤ t245) = false := decide_eq_false c32
                        clear c32
                        (first | rw [c32b0] | (simp only [i64_w, i32_w]; rw [c32b0]) | skip)
                        have H' := Aside0.mk H
                        clear H
                        go_wp2
                        go_meet
                        case rel => exact ⟨_, (x17_3), (by first | rfl | (simp; done) | (simp [*]; done)), H', ⟨by have := HJ10.out; have := HK2.out; have := HK3.out; first | omega | exact Nat.le_refl _⟩, ⟨by (with_reducible repeat (first | apply Kd.V_alloc | apply Kd.V_drewN | apply Kd.V_drew)); exact HO_8.out⟩, ⟨by (with_reducible repeat (first | apply Kd.S_alloc | apply Kd.S_drewN | apply Kd.S_drew)); exact HO_10.out⟩, ⟨by (with_reducible repeat (first | apply Kd.R_alloc | apply Kd.R_drewN | apply Kd.R_drew)); exact HO_14.out⟩, ⟨by (with_reducible repeat (first | apply Kd.R_alloc | apply Kd.R_drewN | apply Kd.R_drew)); exact HO_238000.out⟩, ⟨by (with_reducible repeat (first | apply Kd.R_alloc | apply Kd.R_drewN | apply Kd.R_drew)); exact HO_238001.out⟩, ⟨by (with_reducible repeat (first | apply Kd.S_alloc | apply Kd.S_drewN | apply Kd.S_drew)); exact HO_238002.out⟩, ⟨by (with_reducible repeat (first | refine blk_drewN ?_ _ | refine blk_drew ?_ | refine blk_alloc ?_ _)); exact BK237.out⟩, ⟨by repeat (first | (with_reducible first | exact HB.out | apply below_alloc | apply pw_below_drewN | apply below_drew1 | refine below_set ?_ GE237.out) | exact HB.out)⟩⟩
                case rest =>
                  clear HC30
                  try clear c1
                  try clear c2
                  try clear p2
                  try clear q2
                  try clear hx2
                  try clear c3
                  try clear c4
                  try clear c5
                  try clear p6
                  try clear c7
                  try clear c9
                  try clear c10
                  try clear c12
                  try clear c14
                  try clear c15
                  try clear c16
                  try clear c22
                  try clear c22b0
                  try clear c22b1
                  try clear c22b2
                  try clear c23
                  try clear c24
                  try clear c24b0
                  try clear c24b1
                  try clear c25
                  try clear p25
                  try clear q25
                  try clear hx25
                  try clear c29
                  try clear c29b0
                  try clear c32
                  try clear c32b0
                  try clear c33
                  try clear c33b0
                  try clear c34
                  try clear c34b0
                  try clear c35
                  try clear c35b0
                  try clear c36
                  try clear c36b0
                  try clear c37
                  try clear c38
                  try clear c38b0
                  try clear c39
                  try clear c39b0
                  try clear c40
                  try clear c40b0
                  try clear c41
                  try clear c41b0
                  try clear c42
                  try clear c42b0
                  try clear c43
                  try clear c43b0
                  try clear hcz15_0
                  try clear hcz15_1
                  try clear hcz15_2
                  try clear hcz19_0
                  try clear hcz19_1
                  try clear hcz19_2
                  try clear hfz15_0
                  try clear hfz15_1
                  try clear hfz15_2
                  try clear hfz19_0
                  try clear hfz19_1
                  try clear hfz19_2
                  try clear hx254_0
                  try clear hx254_1
                  try clear hx255_0
                  try clear hx255_1
                  try clear hx256_0
                  try clear hx257_0
                  try clear hx258_0
                  try clear p2
                  try clear p254
                  try clear p255
                  try clear p256
                  try clear p257
                  try clear p258
                  try clear q254
                  try clear q255
                  try clear q256
                  try clear q257
                  try clear q258
                  obtain ⟨kq, x17_29, rfl, HA, HJ29, HO_8, HO_10, HO_14, HO_238000, HO_238001, HO_238002, BK237, HB⟩ := hcut
                  cases kq with
                  | zero => exact absurd HA.out (by simp [keyholelaw02_AuthOver.j3])
                  | succ kj29 =>
                    have H := HA.out
                    clear HA
                    simp only [keyholelaw02_AuthOver.j3] at H
                    have HC44 := Aside0.mk H
                    clear H
                    go_upto_region 21 with (fail)
                    go_cut [137] (fun v137 wc => ∃ (kq : Nat) (x137_43 : Bool), v137 = .bool x137_43 ∧ Aside0 (keyholelaw02_AuthOver.j4 kq l1 a2 t238 t242 t245 t248 x15_2 x16_2 x17_29 x137_43 = some r) ∧ Aside0 (kq ≤ kj29) ∧ Aside0 (Kd.V klat 64 wc w.heap.size (fun k_ => some k_ ≠ ((.slice Ao31 t242.length co31) : Value).ownBlock ∧ some k_ ≠ (v249 : Value).ownBlock ∧ some k_ ≠ ((.slice Ao14 t228.length co14) : Value).ownBlock ∧ some k_ ≠ ((.slice Ao16 t231.length co16) : Value).ownBlock ∧ some k_ ≠ ((.slice Ao17 t234.length co17) : Value).ownBlock ∧ k_ ≠ gb237) (.slice Ao27 t238.length co27) t238) ∧ Aside0 (Kd.S (Kd.slice 4 Kd.bool) 46 wc w.heap.size (fun _ => True) (.slice Ao31 t242.length co31) t242) ∧ Aside0 (Kd.R (Kd.int .i64) 3 wc w.heap.size (fun _ => True) v249 t248) ∧ Aside0 (Kd.R Kd.string 9 wc w.heap.size (fun _ => True) (.slice Ao14 t228.length co14) t228) ∧ Aside0 (Kd.R k52 52 wc w.heap.size (fun _ => True) (.slice Ao16 t231.length co16) t231) ∧ Aside0 (Kd.S k36 36 wc w.heap.size (fun k_ => some k_ ≠ (v249 : Value).ownBlock) (.slice Ao17 t234.length co17) t234) ∧ Aside0 (wc.heap[gb237]? = some (.cells #[(.slice Ao14 t228.length co14), (.slice Ao16 t231.length co16), (.slice Ao17 t234.length co17)] 28 (0, 0))) ∧ Aside0 (Below w.heap.size w wc))
                    case first =>
                      have H := HC44.out
                      clear HC44
                      replace H := Option.bind_eq_some_iff.mp H
                      obtain ⟨t259, A450, H⟩ := H
                      replace H : (if (t259 != x17_29) = true then (keyholelaw02_AuthOver.j4 kj29 l1 a2 t238 t242 t245 t248 x15_2 x16_2 x17_29 true) else (if x17_29 = true then (if x15_2 ≥ (t248.length : Int) then (keyholelaw02_AuthOver.j4 kj29 l1 a2 t238 t242 t245 t248 x15_2 x16_2 x17_29 true) else (if 0 ≤ x15_2 then (if x15_2 < (t248.length : Int) then (keyholelaw02_AuthOver.j4 kj29 l1 a2 t238 t242 t245 t248 x15_2 x16_2 x17_29 ((rd t248 x15_2) != x16_2)) else (none)) else (none))) else (keyholelaw02_AuthOver.j4 kj29 l1 a2 t238 t242 t245 t248 x15_2 x16_2 x17_29 false))) = some r := H
                      have A45 := Aside0.mk A450
                      clear A450
                      by_cases c46 : (t259 != x17_29) = true
                      · rw [if_pos c46] at H
                        have c46b0 : (t259 != x17_29) = true := c46
                        (try (have c46b1 : decide (t259 = x17_29) = false := by simpa using c46))
                        (try (have c46b2 : (t259 == x17_29) = false := by simpa using c46))
                        (try (have c46b3 : ¬ (t259 = x17_29) := by simpa using c46))
                        clear c46
                        (first | rw [c46b0] | (simp only [i64_w, i32_w]; rw [c46b0]) | skip)
                        have H' := Aside0.mk H
                        clear H
                        go_wp2_with (first | ((with_reducible refine gate_callee (f := 17) rfl ?_); refine goesL_ (some 118) rfl rfl Try.func17 (by kernel_rfl) rfl #[.pointer Ao27, .slice A1 l1.length c1, .string a2, .int .i64 x16_2] rfl (by (try simp only [List.map_toArray, List.map_cons, List.map_nil]); first | done | rfl | (simp only [List.length_drop, List.length_take]; rfl)) ?_; (with_reducible refine (auth_Over.calls kj29 _ t238 _ _ l1 a2 x16_2 t259 _ ?side1 ?side2 ?side3 A45.out).mono ?_); (case side1 => repeat (first | exact (Kd.V_reads' HO_8.out).2.2 | (with_reducible refine Kd.C_alloc ?_ _) | (with_reducible refine Kd.C_drewN ?_ _) | (with_reducible refine Kd.C_drew ?_))); (case side2 => repeat (first | exact (Kd.C_below HR1.out HB.out) | (with_reducible refine Kd.C_alloc ?_ _) | (with_reducible refine Kd.C_drewN ?_ _) | (with_reducible refine Kd.C_drew ?_))); (case side3 => exact HC1.out); rintro e w47 ⟨rfl, hb⟩; refine ⟨_, rfl, ?_⟩; have n0_ := Aside0.mk (Kd.V_below (by (with_reducible repeat (first | apply Kd.V_alloc | apply Kd.V_drewN | apply Kd.V_drew)); exact HO_8.out) hb); have n1_ := Aside0.mk (Kd.S_below (by (with_reducible repeat (first | apply Kd.S_alloc | apply Kd.S_drewN | apply Kd.S_drew)); exact HO_10.out) hb); have n2_ := Aside0.mk (Kd.R_below (by (with_reducible repeat (first | apply Kd.R_alloc | apply Kd.R_drewN | apply Kd.R_drew)); exact HO_14.out) hb); have n3_ := Aside0.mk (Kd.R_below (by (with_reducible repeat (first | apply Kd.R_alloc | apply Kd.R_drewN | apply Kd.R_drew)); exact HO_238000.out) hb); have n4_ := Aside0.mk (Kd.R_below (by (with_reducible repeat (first | apply Kd.R_alloc | apply Kd.R_drewN | apply Kd.R_drew)); exact HO_238001.out) hb); have n5_ := Aside0.mk (Kd.S_below (by (with_reducible repeat (first | apply Kd.S_alloc | apply Kd.S_drewN | apply Kd.S_drew)); exact HO_238002.out) hb); have n6_ := Aside0.mk (blk_below (g := gb237) (o := .cells #[.slice Ao14 t228.length co14, .slice Ao16 t231.length co16, .slice Ao17 t234.length co17] 28 (0, 0)) (by (with_reducible repeat (first | refine blk_drewN ?_ _ | refine blk_drew ?_ | refine blk_alloc ?_ _)); exact BK237.out) hb); have n7_ := Aside0.mk (below_step (by repeat (first | (with_reducible first | exact HB.out | apply below_alloc | apply pw_below_drewN | apply below_drew1 | refine below_set ?_ GE237.out) | exact HB.out)) hb); clear HO_8; clear HO_10; clear HO_14; clear HO_238000; clear HO_238001; clear HO_238002; clear BK237; clear HB; have HO_8 := n0_; have HO_10 := n1_; have HO_14 := n2_; have HO_238000 := n3_; have HO_238001 := n4_; have HO_238002 := n5_; have BK237 := n6_; have HB := n7_; clear n0_ n1_ n2_ n3_ n4_ n5_ n6_ n7_; (try clear hb); (try clear hb2); (try clear hk); (try clear hi)))
                        go_meet
                        case rel => exact ⟨_, (true), (by first | rfl | (simp; done) | (simp [*]; done)), H', ⟨by have := HJ10.out; have := HK2.out; have := HJ29.out; first | omega | exact Nat.le_refl _⟩, ⟨by (with_reducible repeat (first | apply Kd.V_alloc | apply Kd.V_drewN | apply Kd.V_drew)); exact HO_8.out⟩, ⟨by (with_reducible repeat (first | apply Kd.S_alloc | apply Kd.S_drewN | apply Kd.S_drew)); exact HO_10.out⟩, ⟨by (with_reducible repeat (first | apply Kd.R_alloc | apply Kd.R_drewN | apply Kd.R_drew)); exact HO_14.out⟩, ⟨by (with_reducible repeat (first | apply Kd.R_alloc | apply Kd.R_drewN | apply Kd.R_drew)); exact HO_238000.out⟩, ⟨by (with_reducible repeat (first | apply Kd.R_alloc | apply Kd.R_drewN | apply Kd.R_drew)); exact HO_238001.out⟩, ⟨by (with_reducible repeat (first | apply Kd.S_alloc | apply Kd.S_drewN | apply Kd.S_drew)); exact HO_238002.out⟩, ⟨by (with_reducible repeat (first | refine blk_drewN ?_ _ | refine blk_drew ?_ | refine blk_alloc ?_ _)); exact BK237.out⟩, ⟨by repeat (first | (with_reducible first | exact HB.out | apply below_alloc | apply pw_below_drewN | apply below_drew1 | refine below_set ?_ GE237.out) | exact HB.out)⟩⟩
                      · rw [if_neg c46] at H
                        have c46b0 : (t259 != x17_29) = false := by simpa using c46
                        (try (have c46b1 : decide (t259 = x17_29) = true := by simpa using c46))
                        (try (have c46b2 : (t259 == x17_29) = true := by simpa using c46))
                        clear c46
                        (first | rw [c46b0] | (simp only [i64_w, i32_w]; rw [c46b0]) | skip)
                        by_cases c48 : x17_29 = true
                        · subst c48
                          have H1 : (if x15_2 ≥ (t248.length : Int) then (keyholelaw02_AuthOver.j4 kj29 l1 a2 t238 t242 t245 t248 x15_2 x16_2 true true) else (if 0 ≤ x15_2 then (if x15_2 < (t248.length : Int) then (keyholelaw02_AuthOver.j4 kj29 l1 a2 t238 t242 t245 t248 x15_2 x16_2 true ((rd t248 x15_2) != x16_2)) else (none)) else (none))) = some r := by rw [if_pos rfl] at H; exact H
                          clear H
                          have H := H1
                          clear H1
                          by_cases c49 : x15_2 ≥ (t248.length : Int)
                          · rw [if_pos c49] at H
                            have c49b0 : decide ((t248.length : Int) ≤ x15_2) = true := decide_eq_true c49
                            clear c49
                            have H' := Aside0.mk H
                            clear H
                            go_wp2_with (first | ((with_reducible refine gate_callee (f := 17) rfl ?_); refine goesL_ (some 118) rfl rfl Try.func17 (by kernel_rfl) rfl #[.pointer Ao27, .slice A1 l1.length c1, .string a2, .int .i64 x16_2] rfl (by (try simp only [List.map_toArray, List.map_cons, List.map_nil]); first | done | rfl | (simp only [List.length_drop, List.length_take]; rfl)) ?_; (with_reducible refine (auth_Over.calls kj29 _ t238 _ _ l1 a2 x16_2 t259 _ ?side1 ?side2 ?side3 A45.out).mono ?_); (case side1 => repeat (first | exact (Kd.V_reads' HO_8.out).2.2 | (with_reducible refine Kd.C_alloc ?_ _) | (with_reducible refine Kd.C_drewN ?_ _) | (with_reducible refine Kd.C_drew ?_))); (case side2 => repeat (first | exact (Kd.C_below HR1.out HB.out) | (with_reducible refine Kd.C_alloc ?_ _) | (with_reducible refine Kd.C_drewN ?_ _) | (with_reducible refine Kd.C_drew ?_))); (case side3 => exact HC1.out); rintro e w50 ⟨rfl, hb⟩; refine ⟨_, rfl, ?_⟩; have n0_ := Aside0.mk (Kd.V_below (by (with_reducible repeat (first | apply Kd.V_alloc | apply Kd.V_drewN | apply Kd.V_drew)); exact HO_8.out) hb); have n1_ := Aside0.mk (Kd.S_below (by (with_reducible repeat (first | apply Kd.S_alloc | apply Kd.S_drewN | apply Kd.S_drew)); exact HO_10.out) hb); have n2_ := Aside0.mk (Kd.R_below (by (with_reducible repeat (first | apply Kd.R_alloc | apply Kd.R_drewN | apply Kd.R_drew)); exact HO_14.out) hb); have n3_ := Aside0.mk (Kd.R_below (by (with_reducible repeat (first | apply Kd.R_alloc | apply Kd.R_drewN | apply Kd.R_drew)); exact HO_238000.out) hb); have n4_ := Aside0.mk (Kd.R_below (by (with_reducible repeat (first | apply Kd.R_alloc | apply Kd.R_drewN | apply Kd.R_drew)); exact HO_238001.out) hb); have n5_ := Aside0.mk (Kd.S_below (by (with_reducible repeat (first | apply Kd.S_alloc | apply Kd.S_drewN | apply Kd.S_drew)); exact HO_238002.out) hb); have n6_ := Aside0.mk (blk_below (g := gb237) (o := .cells #[.slice Ao14 t228.length co14, .slice Ao16 t231.length co16, .slice Ao17 t234.length co17] 28 (0, 0)) (by (with_reducible repeat (first | refine blk_drewN ?_ _ | refine blk_drew ?_ | refine blk_alloc ?_ _)); exact BK237.out) hb); have n7_ := Aside0.mk (below_step (by repeat (first | (with_reducible first | exact HB.out | apply below_alloc | apply pw_below_drewN | apply below_drew1 | refine below_set ?_ GE237.out) | exact HB.out)) hb); clear HO_8; clear HO_10; clear HO_14; clear HO_238000; clear HO_238001; clear HO_238002; clear BK237; clear HB; have HO_8 := n0_; have HO_10 := n1_; have HO_14 := n2_; have HO_238000 := n3_; have HO_238001 := n4_; have HO_238002 := n5_; have BK237 := n6_; have HB := n7_; clear n0_ n1_ n2_ n3_ n4_ n5_ n6_ n7_; (try clear hb); (try clear hb2); (try clear hk); (try clear hi); obtain ⟨Ao51, co51, eo51⟩ := Kd.R_slice HO_14.out; subst eo51))
                            go_meet
                            case rel => exact ⟨_, (true), (by first | rfl | (simp; done) | (simp [*]; done)), H', ⟨by have := HJ10.out; have := HK2.out; have := HJ29.out; first | omega | exact Nat.le_refl _⟩, ⟨by (with_reducible repeat (first | apply Kd.V_alloc | apply Kd.V_drewN | apply Kd.V_drew)); exact HO_8.out⟩, ⟨by (with_reducible repeat (first | apply Kd.S_alloc | apply Kd.S_drewN | apply Kd.S_drew)); exact HO_10.out⟩, ⟨by (with_reducible repeat (first | apply Kd.R_alloc | apply Kd.R_drewN | apply Kd.R_drew)); exact HO_14.out⟩, ⟨by (with_reducible repeat (first | apply Kd.R_alloc | apply Kd.R_drewN | apply Kd.R_drew)); exact HO_238000.out⟩, ⟨by (with_reducible repeat (first | apply Kd.R_alloc | apply Kd.R_drewN | apply Kd.R_drew)); exact HO_238001.out⟩, ⟨by (with_reducible repeat (first | apply Kd.S_alloc | apply Kd.S_drewN | apply Kd.S_drew)); exact HO_238002.out⟩, ⟨by (with_reducible repeat (first | refine blk_drewN ?_ _ | refine blk_drew ?_ | refine blk_alloc ?_ _)); exact BK237.out⟩, ⟨by repeat (first | (with_reducible first | exact HB.out | apply below_alloc | apply pw_below_drewN | apply below_drew1 | refine below_set ?_ GE237.out) | exact HB.out)⟩⟩
                          · rw [if_neg c49] at H
                            have c49b0 : decide ((t248.length : Int) ≤ x15_2) = false := decide_eq_false c49
                            clear c49
                            by_cases c52 : 0 ≤ x15_2
                            · rw [if_pos c52] at H
                              have c52b0 : decide (0 ≤ x15_2) = true := decide_eq_true c52
                              clear c52
                              by_cases c53 : x15_2 < (t248.length : Int)
                              · rw [if_pos c53] at H
                                have c53b0 : decide (x15_2 < (t248.length : Int)) = true := decide_eq_true c53
                                clear c53
                                have H' := Aside0.mk H
                                clear H
                                go_wp2_with (first | ((with_reducible refine gate_callee (f := 17) rfl ?_); refine goesL_ (some 118) rfl rfl Try.func17 (by kernel_rfl) rfl #[.pointer Ao27, .slice A1 l1.length c1, .string a2, .int .i64 x16_2] rfl (by (try simp only [List.map_toArray, List.map_cons, List.map_nil]); first | done | rfl | (simp only [List.length_drop, List.length_take]; rfl)) ?_; (with_reducible refine (auth_Over.calls kj29 _ t238 _ _ l1 a2 x16_2 t259 _ ?side1 ?side2 ?side3 A45.out).mono ?_); (case side1 => repeat (first | exact (Kd.V_reads' HO_8.out).2.2 | (with_reducible refine Kd.C_alloc ?_ _) | (with_reducible refine Kd.C_drewN ?_ _) | (with_reducible refine Kd.C_drew ?_))); (case side2 => repeat (first | exact (Kd.C_below HR1.out HB.out) | (with_reducible refine Kd.C_alloc ?_ _) | (with_reducible refine Kd.C_drewN ?_ _) | (with_reducible refine Kd.C_drew ?_))); (case side3 => exact HC1.out); rintro e w54 ⟨rfl, hb⟩; refine ⟨_, rfl, ?_⟩; have n0_ := Aside0.mk (Kd.V_below (by (with_reducible repeat (first | apply Kd.V_alloc | apply Kd.V_drewN | apply Kd.V_drew)); exact HO_8.out) hb); have n1_ := Aside0.mk (Kd.S_below (by (with_reducible repeat (first | apply Kd.S_alloc | apply Kd.S_drewN | apply Kd.S_drew)); exact HO_10.out) hb); have n2_ := Aside0.mk (Kd.R_below (by (with_reducible repeat (first | apply Kd.R_alloc | apply Kd.R_drewN | apply Kd.R_drew)); exact HO_14.out) hb); have n3_ := Aside0.mk (Kd.R_below (by (with_reducible repeat (first | apply Kd.R_alloc | apply Kd.R_drewN | apply Kd.R_drew)); exact HO_238000.out) hb); have n4_ := Aside0.mk (Kd.R_below (by (with_reducible repeat (first | apply Kd.R_alloc | apply Kd.R_drewN | apply Kd.R_drew)); exact HO_238001.out) hb); have n5_ := Aside0.mk (Kd.S_below (by (with_reducible repeat (first | apply Kd.S_alloc | apply Kd.S_drewN | apply Kd.S_drew)); exact HO_238002.out) hb); have n6_ := Aside0.mk (blk_below (g := gb237) (o := .cells #[.slice Ao14 t228.length co14, .slice Ao16 t231.length co16, .slice Ao17 t234.length co17] 28 (0, 0)) (by (with_reducible repeat (first | refine blk_drewN ?_ _ | refine blk_drew ?_ | refine blk_alloc ?_ _)); exact BK237.out) hb); have n7_ := Aside0.mk (below_step (by repeat (first | (with_reducible first | exact HB.out | apply below_alloc | apply pw_below_drewN | apply below_drew1 | refine below_set ?_ GE237.out) | exact HB.out)) hb); clear HO_8; clear HO_10; clear HO_14; clear HO_238000; clear HO_238001; clear HO_238002; clear BK237; clear HB; have HO_8 := n0_; have HO_10 := n1_; have HO_14 := n2_; have HO_238000 := n3_; have HO_238001 := n4_; have HO_238002 := n5_; have BK237 := n6_; have HB := n7_; clear n0_ n1_ n2_ n3_ n4_ n5_ n6_ n7_; (try clear hb); (try clear hb2); (try clear hk); (try clear hi); obtain ⟨Ao55, co55, eo55⟩ := Kd.R_slice HO_14.out; subst eo55; have p260 : 0 ≤ (x15_2 : Int) := of_decide_eq_true (by first | (with_reducible assumption) | assumption); have q260 : x15_2 < (t248.length : Int) := of_decide_eq_true (by first | (with_reducible assumption) | assumption); obtain ⟨ad260, e260, hx260_0⟩ := Kd.at_int (Kd.R_reads' HO_14.out).2.2 x15_2 p260 q260; cases e260; replace p260 := eq_true p260; replace q260 := eq_true q260))
                                go_meet
                                case rel => exact ⟨_, (((rd t248 x15_2) != x16_2)), (by first | rfl | (simp; done) | (simp [*]; done)), H', ⟨by have := HJ10.out; have := HK2.out; have := HJ29.out; first | omega | exact Nat.le_refl _⟩, ⟨by (with_reducible repeat (first | apply Kd.V_alloc | apply Kd.V_drewN | apply Kd.V_drew)); exact HO_8.out⟩, ⟨by (with_reducible repeat (first | apply Kd.S_alloc | apply Kd.S_drewN | apply Kd.S_drew)); exact HO_10.out⟩, ⟨by (with_reducible repeat (first | apply Kd.R_alloc | apply Kd.R_drewN | apply Kd.R_drew)); exact HO_14.out⟩, ⟨by (with_reducible repeat (first | apply Kd.R_alloc | apply Kd.R_drewN | apply Kd.R_drew)); exact HO_238000.out⟩, ⟨by (with_reducible repeat (first | apply Kd.R_alloc | apply Kd.R_drewN | apply Kd.R_drew)); exact HO_238001.out⟩, ⟨by (with_reducible repeat (first | apply Kd.S_alloc | apply Kd.S_drewN | apply Kd.S_drew)); exact HO_238002.out⟩, ⟨by (with_reducible repeat (first | refine blk_drewN ?_ _ | refine blk_drew ?_ | refine blk_alloc ?_ _)); exact BK237.out⟩, ⟨by repeat (first | (with_reducible first | exact HB.out | apply below_alloc | apply pw_below_drewN | apply below_drew1 | refine below_set ?_ GE237.out) | exact HB.out)⟩⟩
                              · rw [if_neg c53] at H
                                exact absurd H (by simp)
                            · rw [if_neg c52] at H
                              exact absurd H (by simp)
                        · replace c48 := Bool.eq_false_iff.mpr c48
                          subst c48
                          have H1 : (keyholelaw02_AuthOver.j4 kj29 l1 a2 t238 t242 t245 t248 x15_2 x16_2 false false) = some r := by rw [if_neg (show ¬ (false = true) by decide)] at H; exact H
                          clear H
                          have H := H1
                          clear H1
                          have H' := Aside0.mk H
                          clear H
                          go_wp2_with (first | ((with_reducible refine gate_callee (f := 17) rfl ?_); refine goesL_ (some 118) rfl rfl Try.func17 (by kernel_rfl) rfl #[.pointer Ao27, .slice A1 l1.length c1, .string a2, .int .i64 x16_2] rfl (by (try simp only [List.map_toArray, List.map_cons, List.map_nil]); first | done | rfl | (simp only [List.length_drop, List.length_take]; rfl)) ?_; (with_reducible refine (auth_Over.calls kj29 _ t238 _ _ l1 a2 x16_2 t259 _ ?side1 ?side2 ?side3 A45.out).mono ?_); (case side1 => repeat (first | exact (Kd.V_reads' HO_8.out).2.2 | (with_reducible refine Kd.C_alloc ?_ _) | (with_reducible refine Kd.C_drewN ?_ _) | (with_reducible refine Kd.C_drew ?_))); (case side2 => repeat (first | exact (Kd.C_below HR1.out HB.out) | (with_reducible refine Kd.C_alloc ?_ _) | (with_reducible refine Kd.C_drewN ?_ _) | (with_reducible refine Kd.C_drew ?_))); (case side3 => exact HC1.out); rintro e w56 ⟨rfl, hb⟩; refine ⟨_, rfl, ?_⟩; have n0_ := Aside0.mk (Kd.V_below (by (with_reducible repeat (first | apply Kd.V_alloc | apply Kd.V_drewN | apply Kd.V_drew)); exact HO_8.out) hb); have n1_ := Aside0.mk (Kd.S_below (by (with_reducible repeat (first | apply Kd.S_alloc | apply Kd.S_drewN | apply Kd.S_drew)); exact HO_10.out) hb); have n2_ := Aside0.mk (Kd.R_below (by (with_reducible repeat (first | apply Kd.R_alloc | apply Kd.R_drewN | apply Kd.R_drew)); exact HO_14.out) hb); have n3_ := Aside0.mk (Kd.R_below (by (with_reducible repeat (first | apply Kd.R_alloc | apply Kd.R_drewN | apply Kd.R_drew)); exact HO_238000.out) hb); have n4_ := Aside0.mk (Kd.R_below (by (with_reducible repeat (first | apply Kd.R_alloc | apply Kd.R_drewN | apply Kd.R_drew)); exact HO_238001.out) hb); have n5_ := Aside0.mk (Kd.S_below (by (with_reducible repeat (first | apply Kd.S_alloc | apply Kd.S_drewN | apply Kd.S_drew)); exact HO_238002.out) hb); have n6_ := Aside0.mk (blk_below (g := gb237) (o := .cells #[.slice Ao14 t228.length co14, .slice Ao16 t231.length co16, .slice Ao17 t234.length co17] 28 (0, 0)) (by (with_reducible repeat (first | refine blk_drewN ?_ _ | refine blk_drew ?_ | refine blk_alloc ?_ _)); exact BK237.out) hb); have n7_ := Aside0.mk (below_step (by repeat (first | (with_reducible first | exact HB.out | apply below_alloc | apply pw_below_drewN | apply below_drew1 | refine below_set ?_ GE237.out) | exact HB.out)) hb); clear HO_8; clear HO_10; clear HO_14; clear HO_238000; clear HO_238001; clear HO_238002; clear BK237; clear HB; have HO_8 := n0_; have HO_10 := n1_; have HO_14 := n2_; have HO_238000 := n3_; have HO_238001 := n4_; have HO_238002 := n5_; have BK237 := n6_; have HB := n7_; clear n0_ n1_ n2_ n3_ n4_ n5_ n6_ n7_; (try clear hb); (try clear hb2); (try clear hk); (try clear hi)))
                          go_meet
                          case rel => exact ⟨_, (false), (by first | rfl | (simp; done) | (simp [*]; done)), H', ⟨by have := HJ10.out; have := HK2.out; have := HJ29.out; first | omega | exact Nat.le_refl _⟩, ⟨by (with_reducible repeat (first | apply Kd.V_alloc | apply Kd.V_drewN | apply Kd.V_drew)); exact HO_8.out⟩, ⟨by (with_reducible repeat (first | apply Kd.S_alloc | apply Kd.S_drewN | apply Kd.S_drew)); exact HO_10.out⟩, ⟨by (with_reducible repeat (first | apply Kd.R_alloc | apply Kd.R_drewN | apply Kd.R_drew)); exact HO_14.out⟩, ⟨by (with_reducible repeat (first | apply Kd.R_alloc | apply Kd.R_drewN | apply Kd.R_drew)); exact HO_238000.out⟩, ⟨by (with_reducible repeat (first | apply Kd.R_alloc | apply Kd.R_drewN | apply Kd.R_drew)); exact HO_238001.out⟩, ⟨by (with_reducible repeat (first | apply Kd.S_alloc | apply Kd.S_drewN | apply Kd.S_drew)); exact HO_238002.out⟩, ⟨by (with_reducible repeat (first | refine blk_drewN ?_ _ | refine blk_drew ?_ | refine blk_alloc ?_ _)); exact BK237.out⟩, ⟨by repeat (first | (with_reducible first | exact HB.out | apply below_alloc | apply pw_below_drewN | apply below_drew1 | refine below_set ?_ GE237.out) | exact HB.out)⟩⟩
                    case rest =>
                      clear HC44
                      try clear c1
                      try clear c2
                      try clear p2
                      try clear q2
                      try clear hx2
                      try clear c3
                      try clear c4
                      try clear c5
                      try clear p6
                      try clear c7
                      try clear c9
                      try clear c10
                      try clear c12
                      try clear c14
                      try clear c15
                      try clear c16
                      try clear c17
                      try clear c22
                      try clear c22b0
                      try clear c22b1
                      try clear c22b2
                      try clear c23
                      try clear c24
                      try clear c24b0
                      try clear c24b1
                      try clear c25
                      try clear p25
                      try clear q25
                      try clear hx25
                      try clear p26
                      try clear q26
                      try clear hx26
                      try clear c29
                      try clear c29b0
                      try clear c32
                      try clear c32b0
                      try clear c33
                      try clear c33b0
                      try clear c34
                      try clear c34b0
                      try clear c35
                      try clear c35b0
                      try clear c36
                      try clear c36b0
                      try clear c37
                      try clear c38
                      try clear c38b0
                      try clear c39
                      try clear c39b0
                      try clear c40
                      try clear c40b0
                      try clear c41
                      try clear c41b0
                      try clear c42
                      try clear c42b0
                      try clear c43
                      try clear c43b0
                      try clear c46
                      try clear c46b0
                      try clear c46b1
                      try clear c46b2
                      try clear c48
                      try clear c49
                      try clear c49b0
                      try clear c52
                      try clear c52b0
                      try clear c53
                      try clear c53b0
                      try clear hcz15_0
                      try clear hcz15_1
                      try clear hcz15_2
                      try clear hcz19_0
                      try clear hcz19_1
                      try clear hcz19_2
                      try clear hfz15_0
                      try clear hfz15_1
                      try clear hfz15_2
                      try clear hfz19_0
                      try clear hfz19_1
                      try clear hfz19_2
                      try clear hx254_0
                      try clear hx254_1
                      try clear hx255_0
                      try clear hx255_1
                      try clear hx256_0
                      try clear hx257_0
                      try clear hx258_0
                      try clear hx260_0
                      try clear p2
                      try clear p25
                      try clear p254
                      try clear p255
                      try clear p256
                      try clear p257
                      try clear p258
                      try clear p260
                      try clear p6
                      try clear q2
                      try clear q25
                      try clear q254
                      try clear q255
                      try clear q256
                      try clear q257
                      try clear q258
                      try clear q260
                      obtain ⟨kq, x137_43, rfl, HA, HJ43, HO_8, HO_10, HO_14, HO_238000, HO_238001, HO_238002, BK237, HB⟩ := hcut
                      cases kq with
                      | zero => exact absurd HA.out (by simp [keyholelaw02_AuthOver.j4])
                      | succ kj43 =>
                        have H := HA.out
                        clear HA
                        simp only [keyholelaw02_AuthOver.j4] at H
                        by_cases c57 : x137_43 = true
                        · subst c57
                          have H1 : (none) = some r := by rw [if_pos rfl] at H; exact H
                          clear H
                          have H := H1
                          clear H1
                          exact absurd H (by simp)
                        · replace c57 := Bool.eq_false_iff.mpr c57
                          subst c57
                          have H1 : (if x17_29 = true then (keyholelaw02_AuthOver.l0 kj43 l1 a2 t238 t242 t245 t248 (wrap64 (x15_2 + 1)) (wrap64 (x16_2 + 1))) else (keyholelaw02_AuthOver.l0 kj43 l1 a2 t238 t242 t245 t248 x15_2 (wrap64 (x16_2 + 1)))) = some r := by rw [if_neg (show ¬ (false = true) by decide)] at H; exact H
                          clear H
                          have H := H1
                          clear H1
                          by_cases c58 : x17_29 = true
                          · subst c58
                            have H1 : (keyholelaw02_AuthOver.l0 kj43 l1 a2 t238 t242 t245 t248 (wrap64 (x15_2 + 1)) (wrap64 (x16_2 + 1))) = some r := by rw [if_pos rfl] at H; exact H
                            clear H
                            have H := H1
                            clear H1
                            have H' := Aside0.mk H
                            clear H
                            go_wp2
                            go_roundg kj43
                            case measure => have := HJ10.out; have := HK2.out; have := HJ29.out; have := HJ43.out; omega
                            case rel => exact ⟨(wrap64 (x15_2 + 1)), (wrap64 (x16_2 + 1)), (by first | rfl | (simp; done) | (simp [*]; done)), (by first | rfl | (simp; done) | (simp [*]; done)), H', ⟨by have := HJ10.out; have := HK2.out; have := HJ29.out; have := HJ43.out; omega⟩, ⟨by (with_reducible repeat (first | apply Kd.V_alloc | apply Kd.V_drewN | apply Kd.V_drew)); exact HO_8.out⟩, ⟨by (with_reducible repeat (first | apply Kd.S_alloc | apply Kd.S_drewN | apply Kd.S_drew)); exact HO_10.out⟩, ⟨by (with_reducible repeat (first | apply Kd.R_alloc | apply Kd.R_drewN | apply Kd.R_drew)); exact HO_14.out⟩, ⟨by (with_reducible repeat (first | apply Kd.R_alloc | apply Kd.R_drewN | apply Kd.R_drew)); exact HO_238000.out⟩, ⟨by (with_reducible repeat (first | apply Kd.R_alloc | apply Kd.R_drewN | apply Kd.R_drew)); exact HO_238001.out⟩, ⟨by (with_reducible repeat (first | apply Kd.S_alloc | apply Kd.S_drewN | apply Kd.S_drew)); exact HO_238002.out⟩, ⟨by (with_reducible repeat (first | refine blk_drewN ?_ _ | refine blk_drew ?_ | refine blk_alloc ?_ _)); exact BK237.out⟩, ⟨by repeat (first | (with_reducible first | exact HB.out | apply below_alloc | apply pw_below_drewN | apply below_drew1 | refine below_set ?_ GE237.out) | exact HB.out)⟩⟩
                          · replace c58 := Bool.eq_false_iff.mpr c58
                            subst c58
                            have H1 : (keyholelaw02_AuthOver.l0 kj43 l1 a2 t238 t242 t245 t248 x15_2 (wrap64 (x16_2 + 1))) = some r := by rw [if_neg (show ¬ (false = true) by decide)] at H; exact H
                            clear H
                            have H := H1
                            clear H1
                            have H' := Aside0.mk H
                            clear H
                            go_wp2
                            go_roundg kj43
                            case measure => have := HJ10.out; have := HK2.out; have := HJ29.out; have := HJ43.out; omega
                            case rel => exact ⟨(x15_2), (wrap64 (x16_2 + 1)), (by first | rfl | (simp; done) | (simp [*]; done)), (by first | rfl | (simp; done) | (simp [*]; done)), H', ⟨by have := HJ10.out; have := HK2.out; have := HJ29.out; have := HJ43.out; omega⟩, ⟨by (with_reducible repeat (first | apply Kd.V_alloc | apply Kd.V_drewN | apply Kd.V_drew)); exact HO_8.out⟩, ⟨by (with_reducible repeat (first | apply Kd.S_alloc | apply Kd.S_drewN | apply Kd.S_drew)); exact HO_10.out⟩, ⟨by (with_reducible repeat (first | apply Kd.R_alloc | apply Kd.R_drewN | apply Kd.R_drew)); exact HO_14.out⟩, ⟨by (with_reducible repeat (first | apply Kd.R_alloc | apply Kd.R_drewN | apply Kd.R_drew)); exact HO_238000.out⟩, ⟨by (with_reducible repeat (first | apply Kd.R_alloc | apply Kd.R_drewN | apply Kd.R_drew)); exact HO_238001.out⟩, ⟨by (with_reducible repeat (first | apply Kd.S_alloc | apply Kd.S_drewN | apply Kd.S_drew)); exact HO_238002.out⟩, ⟨by (with_reducible repeat (first | refine blk_drewN ?_ _ | refine blk_drew ?_ | refine blk_alloc ?_ _)); exact BK237.out⟩, ⟨by repeat (first | (with_reducible first | exact HB.out | apply below_alloc | apply pw_below_drewN | apply below_drew1 | refine below_set ?_ GE237.out) | exact HB.out)⟩⟩
              · rw [if_neg c29] at H
                have c29b0 : decide (x16_2 < (t242.length : Int)) = false := decide_eq_false c29
                clear c29
                by_cases c59 : x15_2 = (t248.length : Int)
                · rw [if_pos c59] at H
                  have c59b0 : (x15_2 == (t248.length : Int)) = true := beq_iff_eq.mpr c59
                  have c59b1 : (x15_2 != (t248.length : Int)) = false := bne_eq_false_iff_eq.mpr c59
                  clear c59
                  replace H := Option.bind_eq_some_iff.mp H
                  obtain ⟨t251, A600, H⟩ := H
                  replace H : (if t251 = true then (none) else ((auth_Over.f k2 t238 l1 a2 (t242.length : Int)).bind fun t252 => (if t252 = true then (none) else ((keyholelaw02_lives.f k2).bind fun t253 => (some t253))))) = some r := H
                  have A60 := Aside0.mk A600
                  clear A600
                  by_cases c61 : t251 = true
                  · subst c61
                    have H1 : (none) = some r := by rw [if_pos rfl] at H; exact H
                    clear H
                    have H := H1
                    clear H1
                    exact absurd H (by simp)
                  · replace c61 := Bool.eq_false_iff.mpr c61
                    subst c61
                    have H1 : ((auth_Over.f k2 t238 l1 a2 (t242.length : Int)).bind fun t252 => (if t252 = true then (none) else ((keyholelaw02_lives.f k2).bind fun t253 => (some t253)))) = some r := by rw [if_neg (show ¬ (false = true) by decide)] at H; exact H
                    clear H
                    have H := H1
                    clear H1
                    replace H := Option.bind_eq_some_iff.mp H
                    obtain ⟨t252, A620, H⟩ := H
                    replace H : (if t252 = true then (none) else ((keyholelaw02_lives.f k2).bind fun t253 => (some t253))) = some r := H
                    have A62 := Aside0.mk A620
                    clear A620
                    by_cases c63 : t252 = true
                    · subst c63
                      have H1 : (none) = some r := by rw [if_pos rfl] at H; exact H
                      clear H
                      have H := H1
                      clear H1
                      exact absurd H (by simp)
                    · replace c63 := Bool.eq_false_iff.mpr c63
                      subst c63
                      have H1 : ((keyholelaw02_lives.f k2).bind fun t253 => (some t253)) = some r := by rw [if_neg (show ¬ (false = true) by decide)] at H; exact H
                      clear H
                      have H := H1
                      clear H1
                      replace H := Option.bind_eq_some_iff.mp H
                      obtain ⟨t253, A640, H⟩ := H
                      replace H : (some t253) = some r := H
                      have A64 := Aside0.mk A640
                      clear A640
                      obtain rfl := Option.some.inj H
                      obtain ⟨Ao65, co65, eo65⟩ := Kd.S_slice HO_10.out
                      subst eo65
                      obtain ⟨Ao66, co66, eo66⟩ := Kd.R_slice HO_14.out
                      subst eo66
                      go_wp2_with (first | (go_at_call 17; (with_reducible refine (auth_Over.calls k2 _ t238 _ _ l1 a2 (-1) false _ ?side1 ?side2 ?side3 A60.out).mono ?_); (case side1 => repeat (first | exact (Kd.V_reads' HO_8.out).2.2 | (with_reducible refine Kd.C_alloc ?_ _) | (with_reducible refine Kd.C_drewN ?_ _) | (with_reducible refine Kd.C_drew ?_))); (case side2 => repeat (first | exact (Kd.C_below HR1.out HB.out) | (with_reducible refine Kd.C_alloc ?_ _) | (with_reducible refine Kd.C_drewN ?_ _) | (with_reducible refine Kd.C_drew ?_))); (case side3 => exact HC1.out); rintro e w67 ⟨rfl, hb⟩; have n0_ := Aside0.mk (Kd.V_below (by (with_reducible repeat (first | apply Kd.V_alloc | apply Kd.V_drewN | apply Kd.V_drew)); exact HO_8.out) hb); have n1_ := Aside0.mk (Kd.S_below (by (with_reducible repeat (first | apply Kd.S_alloc | apply Kd.S_drewN | apply Kd.S_drew)); exact HO_10.out) hb); have n2_ := Aside0.mk (Kd.R_below (by (with_reducible repeat (first | apply Kd.R_alloc | apply Kd.R_drewN | apply Kd.R_drew)); exact HO_14.out) hb); have n3_ := Aside0.mk (Kd.R_below (by (with_reducible repeat (first | apply Kd.R_alloc | apply Kd.R_drewN | apply Kd.R_drew)); exact HO_238000.out) hb); have n4_ := Aside0.mk (Kd.R_below (by (with_reducible repeat (first | apply Kd.R_alloc | apply Kd.R_drewN | apply Kd.R_drew)); exact HO_238001.out) hb); have n5_ := Aside0.mk (Kd.S_below (by (with_reducible repeat (first | apply Kd.S_alloc | apply Kd.S_drewN | apply Kd.S_drew)); exact HO_238002.out) hb); have n6_ := Aside0.mk (blk_below (g := gb237) (o := .cells #[.slice Ao14 t228.length co14, .slice Ao16 t231.length co16, .slice Ao17 t234.length co17] 28 (0, 0)) (by (with_reducible repeat (first | refine blk_drewN ?_ _ | refine blk_drew ?_ | refine blk_alloc ?_ _)); exact BK237.out) hb); have n7_ := Aside0.mk (below_step (by repeat (first | (with_reducible first | exact HB.out | apply below_alloc | apply pw_below_drewN | apply below_drew1 | refine below_set ?_ GE237.out) | exact HB.out)) hb); clear HO_8; clear HO_10; clear HO_14; clear HO_238000; clear HO_238001; clear HO_238002; clear BK237; clear HB; have HO_8 := n0_; have HO_10 := n1_; have HO_14 := n2_; have HO_238000 := n3_; have HO_238001 := n4_; have HO_238002 := n5_; have BK237 := n6_; have HB := n7_; clear n0_ n1_ n2_ n3_ n4_ n5_ n6_ n7_; (try clear hb); (try clear hb2); (try clear hk); (try clear hi)) | (go_at_call 17; (with_reducible refine (auth_Over.calls k2 _ t238 _ _ l1 a2 (t242.length : Int) false _ ?side1 ?side2 ?side3 A62.out).mono ?_); (case side1 => repeat (first | exact (Kd.V_reads' HO_8.out).2.2 | (with_reducible refine Kd.C_alloc ?_ _) | (with_reducible refine Kd.C_drewN ?_ _) | (with_reducible refine Kd.C_drew ?_))); (case side2 => repeat (first | exact (Kd.C_below HR1.out HB.out) | (with_reducible refine Kd.C_alloc ?_ _) | (with_reducible refine Kd.C_drewN ?_ _) | (with_reducible refine Kd.C_drew ?_))); (case side3 => exact HC1.out); rintro e w68 ⟨rfl, hb⟩; have n0_ := Aside0.mk (Kd.V_below (by (with_reducible repeat (first | apply Kd.V_alloc | apply Kd.V_drewN | apply Kd.V_drew)); exact HO_8.out) hb); have n1_ := Aside0.mk (Kd.S_below (by (with_reducible repeat (first | apply Kd.S_alloc | apply Kd.S_drewN | apply Kd.S_drew)); exact HO_10.out) hb); have n2_ := Aside0.mk (Kd.R_below (by (with_reducible repeat (first | apply Kd.R_alloc | apply Kd.R_drewN | apply Kd.R_drew)); exact HO_14.out) hb); have n3_ := Aside0.mk (Kd.R_below (by (with_reducible repeat (first | apply Kd.R_alloc | apply Kd.R_drewN | apply Kd.R_drew)); exact HO_238000.out) hb); have n4_ := Aside0.mk (Kd.R_below (by (with_reducible repeat (first | apply Kd.R_alloc | apply Kd.R_drewN | apply Kd.R_drew)); exact HO_238001.out) hb); have n5_ := Aside0.mk (Kd.S_below (by (with_reducible repeat (first | apply Kd.S_alloc | apply Kd.S_drewN | apply Kd.S_drew)); exact HO_238002.out) hb); have n6_ := Aside0.mk (blk_below (g := gb237) (o := .cells #[.slice Ao14 t228.length co14, .slice Ao16 t231.length co16, .slice Ao17 t234.length co17] 28 (0, 0)) (by (with_reducible repeat (first | refine blk_drewN ?_ _ | refine blk_drew ?_ | refine blk_alloc ?_ _)); exact BK237.out) hb); have n7_ := Aside0.mk (below_step (by repeat (first | (with_reducible first | exact HB.out | apply below_alloc | apply pw_below_drewN | apply below_drew1 | refine below_set ?_ GE237.out) | exact HB.out)) hb); clear HO_8; clear HO_10; clear HO_14; clear HO_238000; clear HO_238001; clear HO_238002; clear BK237; clear HB; have HO_8 := n0_; have HO_10 := n1_; have HO_14 := n2_; have HO_238000 := n3_; have HO_238001 := n4_; have HO_238002 := n5_; have BK237 := n6_; have HB := n7_; clear n0_ n1_ n2_ n3_ n4_ n5_ n6_ n7_; (try clear hb); (try clear hb2); (try clear hk); (try clear hi)) | (go_at_call 8; (with_reducible refine (keyholelaw02_lives.calls k2  t253 _ A64.out).mono ?_); rintro e w69 ⟨rfl, hb⟩; have n0_ := Aside0.mk (Kd.V_below (by (with_reducible repeat (first | apply Kd.V_alloc | apply Kd.V_drewN | apply Kd.V_drew)); exact HO_8.out) hb); have n1_ := Aside0.mk (Kd.S_below (by (with_reducible repeat (first | apply Kd.S_alloc | apply Kd.S_drewN | apply Kd.S_drew)); exact HO_10.out) hb); have n2_ := Aside0.mk (Kd.R_below (by (with_reducible repeat (first | apply Kd.R_alloc | apply Kd.R_drewN | apply Kd.R_drew)); exact HO_14.out) hb); have n3_ := Aside0.mk (Kd.R_below (by (with_reducible repeat (first | apply Kd.R_alloc | apply Kd.R_drewN | apply Kd.R_drew)); exact HO_238000.out) hb); have n4_ := Aside0.mk (Kd.R_below (by (with_reducible repeat (first | apply Kd.R_alloc | apply Kd.R_drewN | apply Kd.R_drew)); exact HO_238001.out) hb); have n5_ := Aside0.mk (Kd.S_below (by (with_reducible repeat (first | apply Kd.S_alloc | apply Kd.S_drewN | apply Kd.S_drew)); exact HO_238002.out) hb); have n6_ := Aside0.mk (blk_below (g := gb237) (o := .cells #[.slice Ao14 t228.length co14, .slice Ao16 t231.length co16, .slice Ao17 t234.length co17] 28 (0, 0)) (by (with_reducible repeat (first | refine blk_drewN ?_ _ | refine blk_drew ?_ | refine blk_alloc ?_ _)); exact BK237.out) hb); have n7_ := Aside0.mk (below_step (by repeat (first | (with_reducible first | exact HB.out | apply below_alloc | apply pw_below_drewN | apply below_drew1 | refine below_set ?_ GE237.out) | exact HB.out)) hb); clear HO_8; clear HO_10; clear HO_14; clear HO_238000; clear HO_238001; clear HO_238002; clear BK237; clear HB; have HO_8 := n0_; have HO_10 := n1_; have HO_14 := n2_; have HO_238000 := n3_; have HO_238001 := n4_; have HO_238002 := n5_; have BK237 := n6_; have HB := n7_; clear n0_ n1_ n2_ n3_ n4_ n5_ n6_ n7_; (try clear hb); (try clear hb2); (try clear hk); (try clear hi)))
                      go_ret
                      exact ⟨by first | rfl | (simp [errW_none, errW_some] <;> rfl) | (simp [*, errW_none, errW_some] <;> rfl), by repeat (first | (with_reducible first | exact HB.out | apply below_alloc | apply pw_below_drewN | apply below_drew1 | refine below_set ?_ GE237.out) | exact HB.out)⟩
                · rw [if_neg c59] at H
                  exact absurd H (by simp)
  · replace c5 := Bool.eq_false_iff.mpr c5
    subst c5
    have H1 : ((keyholelaw02_lives.f k).bind fun t227 => (some t227)) = some r := by rw [if_neg (show ¬ (false = true) by decide)] at H; exact H
    clear H
    have H := H1
    clear H1
    replace H := Option.bind_eq_some_iff.mp H
    obtain ⟨t227, A700, H⟩ := H
    replace H : (some t227) = some r := H
    have A70 := Aside0.mk A700
    clear A700
    obtain rfl := Option.some.inj H
    go_enter Try.func4, Try.ntmps4
    go_wp2_with (first | ((with_reducible refine gate_callee (f := 7) rfl ?_); refine goesL_ (some 21) rfl rfl Try.func7 (by kernel_rfl) rfl #[.slice A1 l1.length c1] rfl (by (try simp only [List.map_toArray, List.map_cons, List.map_nil]); first | done | rfl | (simp only [List.length_drop, List.length_take]; rfl)) ?_; (with_reducible refine (keyholelaw02_light.calls k _ _ l1 false _ ?side1 ?side2 A4.out).mono ?_); (case side1 => repeat (first | exact HR1.out | (with_reducible refine Kd.C_alloc ?_ _) | (with_reducible refine Kd.C_drewN ?_ _) | (with_reducible refine Kd.C_drew ?_))); (case side2 => exact HC1.out); rintro e w' ⟨rfl, ⟨nd, rfl⟩⟩; refine ⟨_, rfl, ?_⟩) | ((with_reducible refine gate_callee (f := 8) rfl ?_); refine goesL_ (some 23) rfl rfl Try.func8 (by kernel_rfl) rfl #[] rfl (by (try simp only [List.map_toArray, List.map_cons, List.map_nil]); first | done | rfl | (simp only [List.length_drop, List.length_take]; rfl)) ?_; (with_reducible refine (keyholelaw02_lives.calls k  t227 _ A70.out).mono ?_); rintro e w71 ⟨rfl, hb⟩; refine ⟨_, rfl, ?_⟩; have n0_ := Aside0.mk (below_step (by repeat (first | (with_reducible first | exact HB.out | apply below_alloc | apply pw_below_drewN | apply below_drew1) | exact HB.out)) hb); clear HB; have HB := n0_; clear n0_; (try clear hb); (try clear hb2); (try clear hk); (try clear hi)))
    go_ret
    exact ⟨by first | rfl | (simp [errW_none, errW_some] <;> rfl) | (simp [*, errW_none, errW_some] <;> rfl), by repeat (first | (with_reducible first | exact HB.out | apply below_alloc | apply pw_below_drewN | apply below_drew1) | exact HB.out)⟩

end Go.Proofs.Yteeodnnabogheaa.X
