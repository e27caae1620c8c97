-- Written for this claim by a program of the session, out of the translation's print. Lean checks it.
import Derived.Test.YteeodnnabogheaaX0
import Derived.Test.YteeodnnabogheaaX1
import Derived.Test.YteeodnnabogheaaX4
import Derived.Test.YteeodnnabogheaaX5
import Derived.Test.YteeodnnabogheaaX6
namespace Go.Proofs.Yteeodnnabogheaa.X
open Go.RowKit Go.Proofs.YteeodnnabogheaaY Go.Proofs.YteeodnnabogheaaW.PrintWords Go.Proofs.YteeodnnabogheaaW.PrintLast Go.Proofs.YteeodnnabogheaaW.PrintMore
attribute [local go_sem] max2_int min2_int max_two min_two max_three min_three max_four min_four   -- for this text's walks alone
set_option linter.unusedVariables false
set_option linter.unusedSimpArgs false

/-! ### keyholelaw02_AuthChecks: function 3 -/
mutual
def keyholelaw02_AuthChecks.l0 : Nat → List (S36) → List (Lat) → Int → Int → List ByteArray → List (S52) → List (S36) → Option (Bool)
  | 0, _, _, _, _, _, _, _ => none
  | k + 1, x1, x6, x8, x9, x199000, x199001, x199002 => if x9 < (x1.length : Int) then (keyholelaw02_AuthChecks.l1 k x1 x6 x8 x9 0 x199000 x199001 x199002) else (keyholelaw02_AuthChecks.l2 k x1 x6 x8 0)
def keyholelaw02_AuthChecks.l1 : Nat → List (S36) → List (Lat) → Int → Int → Int → List ByteArray → List (S52) → List (S36) → Option (Bool)
  | 0, _, _, _, _, _, _, _, _ => none
  | k + 1, x1, x6, x8, x9, x10, x199000, x199001, x199002 => if 0 ≤ x9 then (if x9 < (x1.length : Int) then (if x10 < (((rd_T36 x1 x9).f1).length : Int) then (if 0 ≤ x10 then (if (rd ((rd_T36 x1 x9).f1) x10) < 0 then (keyholelaw02_AuthChecks.l1 k x1 x6 2 x9 (wrap64 (x10 + 1)) x199000 x199001 x199002) else (if (rd ((rd_T36 x1 x9).f1) x10) ≥ (x199000.length : Int) then (keyholelaw02_AuthChecks.l1 k x1 x6 2 x9 (wrap64 (x10 + 1)) x199000 x199001 x199002) else (if x10 > 0 then (if 0 ≤ (wrap64 (x10 - 1)) then (if (wrap64 (x10 - 1)) < (((rd_T36 x1 x9).f1).length : Int) then (if (rd ((rd_T36 x1 x9).f1) x10) ≤ (rd ((rd_T36 x1 x9).f1) (wrap64 (x10 - 1))) then (keyholelaw02_AuthChecks.l1 k x1 x6 2 x9 (wrap64 (x10 + 1)) x199000 x199001 x199002) else (keyholelaw02_AuthChecks.l1 k x1 x6 x8 x9 (wrap64 (x10 + 1)) x199000 x199001 x199002)) else (none)) else (none)) else (keyholelaw02_AuthChecks.l1 k x1 x6 x8 x9 (wrap64 (x10 + 1)) x199000 x199001 x199002)))) else (none)) else (keyholelaw02_AuthChecks.l0 k x1 x6 x8 (wrap64 (x9 + 1)) x199000 x199001 x199002)) else (none)) else (none)
def keyholelaw02_AuthChecks.l2 : Nat → List (S36) → List (Lat) → Int → Int → Option (Bool)
  | 0, _, _, _, _ => none
  | k + 1, x1, x6, x8, x12 => if x12 < (x1.length : Int) then (if (x1.length : Int) > 8 then (keyholelaw02_AuthChecks.l2 k x1 x6 10 (wrap64 (x12 + 1))) else (if 0 ≤ x12 then ((keyholeref01_Name.f k ((rd_T36 x1 x12).f0)).bind fun t211 => (if t211 = true then ((keyholelaw02_find.f k x1 ((rd_T36 x1 x12).f0)).bind fun t213 => (if t213 = x12 then (keyholelaw02_AuthChecks.l2 k x1 x6 x8 (wrap64 (x12 + 1))) else (keyholelaw02_AuthChecks.l2 k x1 x6 10 (wrap64 (x12 + 1))))) else (keyholelaw02_AuthChecks.l2 k x1 x6 10 (wrap64 (x12 + 1))))) else (none))) else ((auth_Check.f k x6 x1).bind fun t208 => (if t208 = x8 then ((keyholelaw02_lives.f k).bind fun t209 => (some t209)) else (none)))
end
def keyholelaw02_AuthChecks.f (k : Nat) (a0 : Int) (l1 : List (S36)) : Option (Bool) := (keyholelaw02_light.f k l1).bind fun t187 => (if t187 = true then ((keyholeref01_Sort.f a0).bind fun bt189 => ((level_New.f k bt189.1 bt189.2.1 bt189.2.2).bind fun bt199 => (keyholelaw02_AuthChecks.l0 k l1 bt199.1 0 0 bt189.1 bt189.2.1 bt189.2.2))) else ((keyholelaw02_lives.f k).bind fun t188 => (some t188)))
theorem keyholelaw02_AuthChecks.mono_l : ∀ k, (∀ y0 y1 y2 y3 y4 y5 y6, LeO (keyholelaw02_AuthChecks.l0 k y0 y1 y2 y3 y4 y5 y6) (keyholelaw02_AuthChecks.l0 (k + 1) y0 y1 y2 y3 y4 y5 y6)) ∧ (∀ y0 y1 y2 y3 y4 y5 y6 y7, LeO (keyholelaw02_AuthChecks.l1 k y0 y1 y2 y3 y4 y5 y6 y7) (keyholelaw02_AuthChecks.l1 (k + 1) y0 y1 y2 y3 y4 y5 y6 y7)) ∧ (∀ y0 y1 y2 y3, LeO (keyholelaw02_AuthChecks.l2 k y0 y1 y2 y3) (keyholelaw02_AuthChecks.l2 (k + 1) y0 y1 y2 y3))
  | 0 => ⟨fun _ _ _ _ _ _ _ r h => by simp [keyholelaw02_AuthChecks.l0] at h, fun _ _ _ _ _ _ _ _ r h => by simp [keyholelaw02_AuthChecks.l1] at h, fun _ _ _ _ r h => by simp [keyholelaw02_AuthChecks.l2] at h⟩
  | k + 1 => by
    obtain ⟨ih0, ih1, ih2⟩ := keyholelaw02_AuthChecks.mono_l k
    refine ⟨?_, ?_, ?_⟩
    · intro y0 y1 y2 y3 y4 y5 y6
      unfold keyholelaw02_AuthChecks.l0
      repeat' first
      | (with_reducible exact ih0 _ _ _ _ _ _ _)
      | (with_reducible exact ih1 _ _ _ _ _ _ _ _)
      | (with_reducible exact ih2 _ _ _ _)
      | (with_reducible exact auth_Check.mono _ _ _)
      | (with_reducible exact keyholelaw02_find.mono _ _ _)
      | (with_reducible exact keyholelaw02_light.mono _ _)
      | (with_reducible exact keyholelaw02_lives.mono _)
      | (with_reducible exact keyholeref01_Name.mono _ _)
      | (with_reducible exact level_New.mono _ _ _ _)
      | (with_reducible exact LeO.refl _)
      | (with_reducible exact LeO.none _)
      | (with_reducible refine LeO.ite ?_ ?_)
      | (with_reducible refine LeO.bind ?_ (fun _ => ?_))
      | exact ih0 _ _ _ _ _ _ _
      | exact ih1 _ _ _ _ _ _ _ _
      | exact ih2 _ _ _ _
      | exact auth_Check.mono _ _ _
      | exact keyholelaw02_find.mono _ _ _
      | exact keyholelaw02_light.mono _ _
      | exact keyholelaw02_lives.mono _
      | exact keyholeref01_Name.mono _ _
      | exact level_New.mono _ _ _ _
      | exact LeO.none _
      | refine LeO.ite ?_ ?_
      | refine LeO.bind ?_ (fun _ => ?_)
    · intro y0 y1 y2 y3 y4 y5 y6 y7
      unfold keyholelaw02_AuthChecks.l1
      repeat' first
      | (with_reducible exact ih0 _ _ _ _ _ _ _)
      | (with_reducible exact ih1 _ _ _ _ _ _ _ _)
      | (with_reducible exact ih2 _ _ _ _)
      | (with_reducible exact auth_Check.mono _ _ _)
      | (with_reducible exact keyholelaw02_find.mono _ _ _)
      | (with_reducible exact keyholelaw02_light.mono _ _)
      | (with_reducible exact keyholelaw02_lives.mono _)
      | (with_reducible exact keyholeref01_Name.mono _ _)
      | (with_reducible exact level_New.mono _ _ _ _)
      | (with_reducible exact LeO.refl _)
      | (with_reducible exact LeO.none _)
      | (with_reducible refine LeO.ite ?_ ?_)
      | (with_reducible refine LeO.bind ?_ (fun _ => ?_))
      | exact ih0 _ _ _ _ _ _ _
      | exact ih1 _ _ _ _ _ _ _ _
      | exact ih2 _ _ _ _
      | exact auth_Check.mono _ _ _
      | exact keyholelaw02_find.mono _ _ _
      | exact keyholelaw02_light.mono _ _
      | exact keyholelaw02_lives.mono _
      | exact keyholeref01_Name.mono _ _
      | exact level_New.mono _ _ _ _
      | exact LeO.none _
      | refine LeO.ite ?_ ?_
      | refine LeO.bind ?_ (fun _ => ?_)
    · intro y0 y1 y2 y3
      unfold keyholelaw02_AuthChecks.l2
      repeat' first
      | (with_reducible exact ih0 _ _ _ _ _ _ _)
      | (with_reducible exact ih1 _ _ _ _ _ _ _ _)
      | (with_reducible exact ih2 _ _ _ _)
      | (with_reducible exact auth_Check.mono _ _ _)
      | (with_reducible exact keyholelaw02_find.mono _ _ _)
      | (with_reducible exact keyholelaw02_light.mono _ _)
      | (with_reducible exact keyholelaw02_lives.mono _)
      | (with_reducible exact keyholeref01_Name.mono _ _)
      | (with_reducible exact level_New.mono _ _ _ _)
      | (with_reducible exact LeO.refl _)
      | (with_reducible exact LeO.none _)
      | (with_reducible refine LeO.ite ?_ ?_)
      | (with_reducible refine LeO.bind ?_ (fun _ => ?_))
      | exact ih0 _ _ _ _ _ _ _
      | exact ih1 _ _ _ _ _ _ _ _
      | exact ih2 _ _ _ _
      | exact auth_Check.mono _ _ _
      | exact keyholelaw02_find.mono _ _ _
      | exact keyholelaw02_light.mono _ _
      | exact keyholelaw02_lives.mono _
      | exact keyholeref01_Name.mono _ _
      | exact level_New.mono _ _ _ _
      | exact LeO.none _
      | refine LeO.ite ?_ ?_
      | refine LeO.bind ?_ (fun _ => ?_)
theorem keyholelaw02_AuthChecks.mono : ∀ a0 a1 k, LeO (keyholelaw02_AuthChecks.f k a0 a1) (keyholelaw02_AuthChecks.f (k + 1) a0 a1) := by
  intro a0 a1 k
  obtain ⟨ih0, ih1, ih2⟩ := keyholelaw02_AuthChecks.mono_l k
  unfold keyholelaw02_AuthChecks.f
  repeat' first
      | (with_reducible exact ih0 _ _ _ _ _ _ _)
      | (with_reducible exact ih1 _ _ _ _ _ _ _ _)
      | (with_reducible exact ih2 _ _ _ _)
      | (with_reducible exact auth_Check.mono _ _ _)
      | (with_reducible exact keyholelaw02_find.mono _ _ _)
      | (with_reducible exact keyholelaw02_light.mono _ _)
      | (with_reducible exact keyholelaw02_lives.mono _)
      | (with_reducible exact keyholeref01_Name.mono _ _)
      | (with_reducible exact level_New.mono _ _ _ _)
      | (with_reducible exact LeO.refl _)
      | (with_reducible exact LeO.none _)
      | (with_reducible refine LeO.ite ?_ ?_)
      | (with_reducible refine LeO.bind ?_ (fun _ => ?_))
      | exact ih0 _ _ _ _ _ _ _
      | exact ih1 _ _ _ _ _ _ _ _
      | exact ih2 _ _ _ _
      | exact auth_Check.mono _ _ _
      | exact keyholelaw02_find.mono _ _ _
      | exact keyholelaw02_light.mono _ _
      | exact keyholelaw02_lives.mono _
      | exact keyholeref01_Name.mono _ _
      | exact level_New.mono _ _ _ _
      | exact LeO.none _
      | refine LeO.ite ?_ ?_
      | refine LeO.bind ?_ (fun _ => ?_)
set_option maxHeartbeats 8000000 in
set_option maxRecDepth 100000 in
theorem keyholelaw02_AuthChecks.calls (k : Nat) (a0 : Int) (A1 : Option Addr) (c1 : Nat) (l1 : List (S36)) (r : Bool) (w : World) (hr1 : Kd.C k36 w A1 l1.length l1) (hc1 : l1.length ≤ c1) (h : keyholelaw02_AuthChecks.f k a0 l1 = some r) :
    Calls Try.prog 3 #[.int .i64 a0, .slice A1 l1.length c1] w fun e w' => e = .returned (.bool r) ∧ Below w.heap.size w w' := by
  have hu28 := Try.underlying28
  have HR1 := Aside0.mk hr1
  have HC1 := Aside0.mk hc1
  clear hr1 hc1
  have HB := Aside0.mk (Below.refl w.heap.size w)
  have H : ((keyholelaw02_light.f k l1).bind fun t187 => (if t187 = true then ((keyholeref01_Sort.f a0).bind fun bt189 => ((level_New.f k bt189.1 bt189.2.1 bt189.2.2).bind fun bt199 => (keyholelaw02_AuthChecks.l0 k l1 bt199.1 0 0 bt189.1 bt189.2.1 bt189.2.2))) else ((keyholelaw02_lives.f k).bind fun t188 => (some t188)))) = some r := h
  clear h
  replace H := Option.bind_eq_some_iff.mp H
  obtain ⟨t187, A30, H⟩ := H
  replace H : (if t187 = true then ((keyholeref01_Sort.f a0).bind fun bt189 => ((level_New.f k bt189.1 bt189.2.1 bt189.2.2).bind fun bt199 => (keyholelaw02_AuthChecks.l0 k l1 bt199.1 0 0 bt189.1 bt189.2.1 bt189.2.2))) else ((keyholelaw02_lives.f k).bind fun t188 => (some t188))) = some r := H
  have A3 := Aside0.mk A30
  clear A30
  by_cases c4 : t187 = true
  · subst c4
    have H1 : ((keyholeref01_Sort.f a0).bind fun bt189 => ((level_New.f k bt189.1 bt189.2.1 bt189.2.2).bind fun bt199 => (keyholelaw02_AuthChecks.l0 k l1 bt199.1 0 0 bt189.1 bt189.2.1 bt189.2.2))) = some r := by rw [if_pos rfl] at H; exact H
    clear H
    have H := H1
    clear H1
    replace H := Option.bind_eq_some_iff.mp H
    obtain ⟨⟨t189, t192, t195⟩, A50, H⟩ := H
    replace H : ((level_New.f k t189 t192 t195).bind fun bt199 => (keyholelaw02_AuthChecks.l0 k l1 bt199.1 0 0 t189 t192 t195)) = some r := H
    have A5 := Aside0.mk A50
    clear A50
    replace H := Option.bind_eq_some_iff.mp H
    obtain ⟨⟨t199, t202⟩, A60, H⟩ := H
    replace H : (keyholelaw02_AuthChecks.l0 k l1 t199 0 0 t189 t192 t195) = some r := H
    have A6 := Aside0.mk A60
    clear A60
    have H' := Aside0.mk H
    clear H
    go_enter Try.func3, Try.ntmps3
    go_wp2_with (first | ((with_reducible refine gate_callee (f := 7) rfl ?_); refine goesL_ (some 14) rfl rfl Try.func7 (by kernel_rfl) rfl #[.slice A1 l1.length c1] rfl (by (try simp only [List.map_toArray, List.map_cons, List.map_nil]); first | done | rfl | (simp only [List.length_drop, List.length_take]; rfl)) ?_; (with_reducible refine (keyholelaw02_light.calls k _ _ l1 true _ ?side1 ?side2 A3.out).mono ?_); (case side1 => repeat (first | exact HR1.out | (with_reducible refine Kd.C_alloc ?_ _) | (with_reducible refine Kd.C_drewN ?_ _) | (with_reducible refine Kd.C_drew ?_))); (case side2 => exact HC1.out); rintro e w' ⟨rfl, ⟨nd, rfl⟩⟩; refine ⟨_, rfl, ?_⟩) | ((with_reducible refine gate_callee (f := 9) rfl ?_); refine goesL_ (some 18) rfl rfl Try.func9 (by kernel_rfl) rfl #[.int .i64 a0] rfl (by (try simp only [List.map_toArray, List.map_cons, List.map_nil]); first | done | rfl | (simp only [List.length_drop, List.length_take]; rfl)) ?_; (with_reducible refine (keyholeref01_Sort.calls a0 t189 t192 t195 _ A5.out).mono ?_); rintro e w7 ⟨v190, v193, v196, rfl, ho0, ho1, ho2, hb⟩; refine ⟨_, rfl, ?_⟩; have n0_ := Aside0.mk (Kd.R_lower ho0 (below_size (by repeat (first | (with_reducible first | exact HB.out | apply below_alloc | apply pw_below_drewN | apply below_drew1) | exact HB.out)))); have n1_ := Aside0.mk (Kd.R_lower ho1 (below_size (by repeat (first | (with_reducible first | exact HB.out | apply below_alloc | apply pw_below_drewN | apply below_drew1) | exact HB.out)))); have n2_ := Aside0.mk (Kd.S_lower ho2 (below_size (by repeat (first | (with_reducible first | exact HB.out | apply below_alloc | apply pw_below_drewN | apply below_drew1) | exact HB.out)))); have n3_ := Aside0.mk (below_step (by repeat (first | (with_reducible first | exact HB.out | apply below_alloc | apply pw_below_drewN | apply below_drew1) | exact HB.out)) hb); clear HB; have HO191 := n0_; have HO194 := n1_; have HO197 := n2_; have HB := n3_; clear n0_ n1_ n2_ n3_; (try clear hb); (try clear hb2); (try clear hk); (try clear hi); (try clear ho0); (try clear ho1); (try clear ho2)) | ((with_reducible refine gate_dst (N := 5) rfl ?_); (try (refine gate_guard (by rfl) ?_; dsimp only)); refine box_event ?hg (N := 5) ?hd (cs := #[.slice none 0 0, .slice none 0 0, .slice none 0 0]) (t := 28) ?hr ?_; (case hd => rfl); (case hg => rfl); (case hr => first | (go_simp; done) | (go_simp; rfl)); intro gb198 hg w8 hbox hb; have n0_ := Aside0.mk (Kd.R_below (by (with_reducible repeat (first | apply Kd.R_alloc | apply Kd.R_drewN | apply Kd.R_drew)); exact HO191.out) hb); have n1_ := Aside0.mk (Kd.R_below (by (with_reducible repeat (first | apply Kd.R_alloc | apply Kd.R_drewN | apply Kd.R_drew)); exact HO194.out) hb); have n2_ := Aside0.mk (Kd.S_below (by (with_reducible repeat (first | apply Kd.S_alloc | apply Kd.S_drewN | apply Kd.S_drew)); exact HO197.out) hb); have n3_ := Aside0.mk (below_step (by repeat (first | (with_reducible first | exact HB.out | apply below_alloc | apply pw_below_drewN | apply below_drew1) | exact HB.out)) hb); have n4_ := Aside0.mk (hbox); have n5_ := Aside0.mk ((by rw [hg]; exact (below_size (by repeat (first | (with_reducible first | exact HB.out | apply below_alloc | apply pw_below_drewN | apply below_drew1) | exact HB.out))) : w.heap.size ≤ gb198)); have n6_ := Aside0.mk ((by rw [hg]; exact (below_size (by repeat (first | (with_reducible first | exact HB.out | apply below_alloc | apply pw_below_drewN | apply below_drew1) | exact HB.out))) : w.heap.size ≤ gb198)); clear HO191; clear HO194; clear HO197; clear HB; have HO191 := n0_; have HO194 := n1_; have HO197 := n2_; have HB := n3_; have BK198 := n4_; have GW198 := n5_; have GE198 := n6_; clear n0_ n1_ n2_ n3_ n4_ n5_ n6_; clear hb hbox hg; obtain ⟨Ao9, co9, eo9⟩ := Kd.R_slice HO191.out; subst eo9; have hcz10_0 : w8.cell? ⟨gb198, 0, none⟩ = some (.slice none 0 0) := (blk_cell BK198.out 0).trans rfl; have hcz10_1 : w8.cell? ⟨gb198, 1, none⟩ = some (.slice none 0 0) := (blk_cell BK198.out 1).trans rfl; have hcz10_2 : w8.cell? ⟨gb198, 2, none⟩ = some (.slice none 0 0) := (blk_cell BK198.out 2).trans rfl; have hfz10_0 := blk_frozen BK198.out 0; have hfz10_1 := blk_frozen BK198.out 1; have hfz10_2 := blk_frozen BK198.out 2; obtain ⟨Ao11, co11, eo11⟩ := Kd.R_slice HO194.out; subst eo11; obtain ⟨Ao12, co12, eo12⟩ := Kd.S_slice HO197.out; subst eo12) | ((with_reducible refine gate_callee (f := 10) rfl ?_); refine goesL_ (some 21) rfl rfl Try.func10 (by kernel_rfl) rfl #[.agg #[.slice Ao9 t189.length co9, .slice Ao11 t192.length co11, .slice Ao12 t195.length co12]] rfl (by (try simp only [List.map_toArray, List.map_cons, List.map_nil]); first | done | rfl | (simp only [List.length_drop, List.length_take]; rfl)) ?_; (with_reducible refine (level_New.calls k _ _ t189 _ _ t192 _ _ t195 t199 t202 _ ?side1 ?side2 ?side3 ?side4 ?side5 ?side6 A6.out).mono ?_); (case side1 => refine (Kd.R_reads' (e := 9) (base := w.heap.size) (ok := fun k_ => True) (n := t189.length) (c := co9) ?_).2.2; exact (by (with_reducible repeat (first | apply Kd.R_alloc | apply Kd.R_drewN | apply Kd.R_drew)); exact (Kd.R_mono (Kd.R_far (p := ⟨gb198, 2, none⟩) (Kd.R_far (p := ⟨gb198, 1, none⟩) (Kd.R_far (p := ⟨gb198, 0, none⟩) (Kd.R_types HO191.out BK198.out (by decide)) (fun _ hk => hk.2) (.slice Ao9 t189.length co9)) (fun _ hk => hk.2) (.slice Ao11 t192.length co11)) (fun _ hk => hk.2) (.slice Ao12 t195.length co12)) (fun _ h_ => h_.1)))); (case side2 => exact (Kd.R_reads' HO191.out).2.1); (case side3 => refine (Kd.R_reads' (e := 52) (base := w.heap.size) (ok := fun k_ => True) (n := t192.length) (c := co11) ?_).2.2; exact (by (with_reducible repeat (first | apply Kd.R_alloc | apply Kd.R_drewN | apply Kd.R_drew)); exact (Kd.R_mono (Kd.R_far (p := ⟨gb198, 2, none⟩) (Kd.R_far (p := ⟨gb198, 1, none⟩) (Kd.R_far (p := ⟨gb198, 0, none⟩) (Kd.R_types HO194.out BK198.out (by decide)) (fun _ hk => hk.2) (.slice Ao9 t189.length co9)) (fun _ hk => hk.2) (.slice Ao11 t192.length co11)) (fun _ hk => hk.2) (.slice Ao12 t195.length co12)) (fun _ h_ => h_.1)))); (case side4 => exact (Kd.R_reads' HO194.out).2.1); (case side5 => refine (Kd.S_reads' (e := 36) (base := w.heap.size) (ok := fun k_ => True) (n := t195.length) (c := co12) ?_).2.2; exact (by (with_reducible repeat (first | apply Kd.S_alloc | apply Kd.S_drewN | apply Kd.S_drew)); exact (Kd.S_mono (Kd.S_far (p := ⟨gb198, 2, none⟩) (Kd.S_far (p := ⟨gb198, 1, none⟩) (Kd.S_far (p := ⟨gb198, 0, none⟩) (Kd.S_types HO197.out BK198.out (by decide)) (fun _ hk => hk.2) (.slice Ao9 t189.length co9)) (fun _ hk => hk.2) (.slice Ao11 t192.length co11)) (fun _ hk => hk.2) (.slice Ao12 t195.length co12)) (fun _ h_ => h_.1)))); (case side6 => exact (Kd.S_reads' HO197.out).2.1); rintro e w13 ⟨v200, rfl, ho0, hb⟩; refine ⟨_, rfl, ?_⟩; have n0_ := Aside0.mk (Kd.R_below (by (with_reducible repeat (first | apply Kd.R_alloc | apply Kd.R_drewN | apply Kd.R_drew)); exact (Kd.R_mono (Kd.R_far (p := ⟨gb198, 2, none⟩) (Kd.R_far (p := ⟨gb198, 1, none⟩) (Kd.R_far (p := ⟨gb198, 0, none⟩) (Kd.R_types HO191.out BK198.out (by decide)) (fun _ hk => hk.2) (.slice Ao9 t189.length co9)) (fun _ hk => hk.2) (.slice Ao11 t192.length co11)) (fun _ hk => hk.2) (.slice Ao12 t195.length co12)) (fun _ h_ => h_.1))) hb); have n1_ := Aside0.mk (Kd.R_below (by (with_reducible repeat (first | apply Kd.R_alloc | apply Kd.R_drewN | apply Kd.R_drew)); exact (Kd.R_mono (Kd.R_far (p := ⟨gb198, 2, none⟩) (Kd.R_far (p := ⟨gb198, 1, none⟩) (Kd.R_far (p := ⟨gb198, 0, none⟩) (Kd.R_types HO194.out BK198.out (by decide)) (fun _ hk => hk.2) (.slice Ao9 t189.length co9)) (fun _ hk => hk.2) (.slice Ao11 t192.length co11)) (fun _ hk => hk.2) (.slice Ao12 t195.length co12)) (fun _ h_ => h_.1))) hb); have n2_ := Aside0.mk (Kd.S_below (by (with_reducible repeat (first | apply Kd.S_alloc | apply Kd.S_drewN | apply Kd.S_drew)); exact (Kd.S_mono (Kd.S_far (p := ⟨gb198, 2, none⟩) (Kd.S_far (p := ⟨gb198, 1, none⟩) (Kd.S_far (p := ⟨gb198, 0, none⟩) (Kd.S_types HO197.out BK198.out (by decide)) (fun _ hk => hk.2) (.slice Ao9 t189.length co9)) (fun _ hk => hk.2) (.slice Ao11 t192.length co11)) (fun _ hk => hk.2) (.slice Ao12 t195.length co12)) (fun _ h_ => h_.1))) hb); have n3_ := Aside0.mk (Kd.V_lower (Kd.V_mono (ok' := fun k_ => some k_ ≠ (.slice Ao9 t189.length co9 : Value).ownBlock ∧ some k_ ≠ (.slice Ao11 t192.length co11 : Value).ownBlock ∧ some k_ ≠ (.slice Ao12 t195.length co12 : Value).ownBlock ∧ k_ ≠ gb198) ho0 (fun k_ hk_ => ⟨(Kd.fresh' (Kd.R_lt (by (with_reducible repeat (first | apply Kd.R_alloc | apply Kd.R_drewN | apply Kd.R_drew)); exact (Kd.R_mono (Kd.R_far (p := ⟨gb198, 2, none⟩) (Kd.R_far (p := ⟨gb198, 1, none⟩) (Kd.R_far (p := ⟨gb198, 0, none⟩) (Kd.R_types HO191.out BK198.out (by decide)) (fun _ hk => hk.2) (.slice Ao9 t189.length co9)) (fun _ hk => hk.2) (.slice Ao11 t192.length co11)) (fun _ hk => hk.2) (.slice Ao12 t195.length co12)) (fun _ h_ => h_.1)))) k_ hk_), (Kd.fresh' (Kd.R_lt (by (with_reducible repeat (first | apply Kd.R_alloc | apply Kd.R_drewN | apply Kd.R_drew)); exact (Kd.R_mono (Kd.R_far (p := ⟨gb198, 2, none⟩) (Kd.R_far (p := ⟨gb198, 1, none⟩) (Kd.R_far (p := ⟨gb198, 0, none⟩) (Kd.R_types HO194.out BK198.out (by decide)) (fun _ hk => hk.2) (.slice Ao9 t189.length co9)) (fun _ hk => hk.2) (.slice Ao11 t192.length co11)) (fun _ hk => hk.2) (.slice Ao12 t195.length co12)) (fun _ h_ => h_.1)))) k_ hk_), (Kd.fresh' (Kd.S_lt (by (with_reducible repeat (first | apply Kd.S_alloc | apply Kd.S_drewN | apply Kd.S_drew)); exact (Kd.S_mono (Kd.S_far (p := ⟨gb198, 2, none⟩) (Kd.S_far (p := ⟨gb198, 1, none⟩) (Kd.S_far (p := ⟨gb198, 0, none⟩) (Kd.S_types HO197.out BK198.out (by decide)) (fun _ hk => hk.2) (.slice Ao9 t189.length co9)) (fun _ hk => hk.2) (.slice Ao11 t192.length co11)) (fun _ hk => hk.2) (.slice Ao12 t195.length co12)) (fun _ h_ => h_.1)))) k_ hk_), (Kd.freshB (g := gb198) (o := .cells #[.slice Ao9 t189.length co9, .slice Ao11 t192.length co11, .slice Ao12 t195.length co12] 28 (0, 0)) (by (with_reducible repeat (first | refine blk_drewN ?_ _ | refine blk_drew ?_ | refine blk_alloc ?_ _)); refine blk_put (cs := #[.slice Ao9 t189.length co9, .slice Ao11 t192.length co11, .slice none 0 0]) ?_ 2 _ rfl; (with_reducible repeat (first | refine blk_drewN ?_ _ | refine blk_drew ?_ | refine blk_alloc ?_ _)); refine blk_put (cs := #[.slice Ao9 t189.length co9, .slice none 0 0, .slice none 0 0]) ?_ 1 _ rfl; (with_reducible repeat (first | refine blk_drewN ?_ _ | refine blk_drew ?_ | refine blk_alloc ?_ _)); refine blk_put (cs := #[.slice none 0 0, .slice none 0 0, .slice none 0 0]) ?_ 0 _ rfl; (with_reducible repeat (first | refine blk_drewN ?_ _ | refine blk_drew ?_ | refine blk_alloc ?_ _)); exact BK198.out) k_ hk_)⟩)) (below_size (by repeat (first | (with_reducible first | exact HB.out | apply below_alloc | apply pw_below_drewN | apply below_drew1 | refine below_set ?_ GE198.out) | exact HB.out)))); have n4_ := Aside0.mk (blk_below (g := gb198) (o := .cells #[.slice Ao9 t189.length co9, .slice Ao11 t192.length co11, .slice Ao12 t195.length co12] 28 (0, 0)) (by (with_reducible repeat (first | refine blk_drewN ?_ _ | refine blk_drew ?_ | refine blk_alloc ?_ _)); refine blk_put (cs := #[.slice Ao9 t189.length co9, .slice Ao11 t192.length co11, .slice none 0 0]) ?_ 2 _ rfl; (with_reducible repeat (first | refine blk_drewN ?_ _ | refine blk_drew ?_ | refine blk_alloc ?_ _)); refine blk_put (cs := #[.slice Ao9 t189.length co9, .slice none 0 0, .slice none 0 0]) ?_ 1 _ rfl; (with_reducible repeat (first | refine blk_drewN ?_ _ | refine blk_drew ?_ | refine blk_alloc ?_ _)); refine blk_put (cs := #[.slice none 0 0, .slice none 0 0, .slice none 0 0]) ?_ 0 _ rfl; (with_reducible repeat (first | refine blk_drewN ?_ _ | refine blk_drew ?_ | refine blk_alloc ?_ _)); exact BK198.out) hb); have n5_ := Aside0.mk (below_step (by repeat (first | (with_reducible first | exact HB.out | apply below_alloc | apply pw_below_drewN | apply below_drew1 | refine below_set ?_ GE198.out) | exact HB.out)) hb); clear HO191; clear HO194; clear HO197; clear BK198; clear HB; have HO191 := n0_; have HO194 := n1_; have HO197 := n2_; have HO201 := n3_; have BK198 := n4_; have HB := n5_; clear n0_ n1_ n2_ n3_ n4_ n5_; (try clear hb); (try clear hb2); (try clear hk); (try clear hi); (try clear ho0)))
    go_loopg [8, 9] k (fun kq v8 v9 w' => ∃ (x8_1 : Int) (x9_1 : Int), v8 = .int .i64 x8_1 ∧ v9 = .int .i64 x9_1 ∧ Aside0 (keyholelaw02_AuthChecks.l0 kq l1 t199 x8_1 x9_1 t189 t192 t195 = some r) ∧ Aside0 (kq ≤ k) ∧ Aside0 (Kd.V klat 64 w' w.heap.size (fun k_ => some k_ ≠ ((.slice Ao9 t189.length co9) : Value).ownBlock ∧ some k_ ≠ ((.slice Ao11 t192.length co11) : Value).ownBlock ∧ some k_ ≠ ((.slice Ao12 t195.length co12) : Value).ownBlock ∧ k_ ≠ gb198) v200 t199) ∧ Aside0 (Kd.R Kd.string 9 w' w.heap.size (fun _ => True) (.slice Ao9 t189.length co9) t189) ∧ Aside0 (Kd.R k52 52 w' w.heap.size (fun _ => True) (.slice Ao11 t192.length co11) t192) ∧ Aside0 (Kd.S k36 36 w' w.heap.size (fun _ => True) (.slice Ao12 t195.length co12) t195) ∧ Aside0 (w'.heap[gb198]? = some (.cells #[(.slice Ao9 t189.length co9), (.slice Ao11 t192.length co11), (.slice Ao12 t195.length co12)] 28 (0, 0))) ∧ Aside0 (Below w.heap.size w w'))
    case atStart => exact ⟨(0), (0), (by first | rfl | (simp; done) | (simp [*]; done)), (by first | rfl | (simp; done) | (simp [*]; done)), H', ⟨Nat.le_refl _⟩, ⟨by (with_reducible repeat (first | apply Kd.V_alloc | apply Kd.V_drewN | apply Kd.V_drew)); exact HO201.out⟩, ⟨by (with_reducible repeat (first | apply Kd.R_alloc | apply Kd.R_drewN | apply Kd.R_drew)); exact HO191.out⟩, ⟨by (with_reducible repeat (first | apply Kd.R_alloc | apply Kd.R_drewN | apply Kd.R_drew)); exact HO194.out⟩, ⟨by (with_reducible repeat (first | apply Kd.S_alloc | apply Kd.S_drewN | apply Kd.S_drew)); exact HO197.out⟩, ⟨by (with_reducible repeat (first | refine blk_drewN ?_ _ | refine blk_drew ?_ | refine blk_alloc ?_ _)); exact BK198.out⟩, ⟨by repeat (first | (with_reducible first | exact HB.out | apply below_alloc | apply pw_below_drewN | apply below_drew1 | refine below_set ?_ GE198.out) | exact HB.out)⟩⟩
    case round =>
      clear H'
      try clear c1
      try clear p2
      try clear c3
      try clear c4
      try clear c7
      try clear c9
      try clear c10
      try clear hcz10_0
      try clear hcz10_1
      try clear hcz10_2
      try clear hfz10_0
      try clear hfz10_1
      try clear hfz10_2
      obtain ⟨x8_1, x9_1, rfl, rfl, HA, HK1, HO_6, HO_199000, HO_199001, HO_199002, BK198, HB⟩ := hrel
      cases gk with
      | zero => exact absurd HA.out (by simp [keyholelaw02_AuthChecks.l0])
      | succ k1 =>
        have H := HA.out
        clear HA
        simp only [keyholelaw02_AuthChecks.l0] at H
        by_cases c14 : x9_1 < (l1.length : Int)
        · rw [if_pos c14] at H
          have c14b0 : decide (x9_1 < (l1.length : Int)) = true := decide_eq_true c14
          clear c14
          have H' := Aside0.mk H
          clear H
          go_wp2
          go_loopg [8, 10] k1 (fun kq v8 v10 w' => ∃ (x8_2 : Int) (x10_2 : Int), v8 = .int .i64 x8_2 ∧ v10 = .int .i64 x10_2 ∧ Aside0 (keyholelaw02_AuthChecks.l1 kq l1 t199 x8_2 x9_1 x10_2 t189 t192 t195 = some r) ∧ Aside0 (kq ≤ k1) ∧ Aside0 (Kd.V klat 64 w' w.heap.size (fun k_ => some k_ ≠ ((.slice Ao9 t189.length co9) : Value).ownBlock ∧ some k_ ≠ ((.slice Ao11 t192.length co11) : Value).ownBlock ∧ some k_ ≠ ((.slice Ao12 t195.length co12) : Value).ownBlock ∧ k_ ≠ gb198) v200 t199) ∧ Aside0 (Kd.R Kd.string 9 w' w.heap.size (fun _ => True) (.slice Ao9 t189.length co9) t189) ∧ Aside0 (Kd.R k52 52 w' w.heap.size (fun _ => True) (.slice Ao11 t192.length co11) t192) ∧ Aside0 (Kd.S k36 36 w' w.heap.size (fun _ => True) (.slice Ao12 t195.length co12) t195) ∧ Aside0 (w'.heap[gb198]? = some (.cells #[(.slice Ao9 t189.length co9), (.slice Ao11 t192.length co11), (.slice Ao12 t195.length co12)] 28 (0, 0))) ∧ Aside0 (Below w.heap.size w w'))
          case atStart => exact ⟨(x8_1), (0), (by first | rfl | (simp; done) | (simp [*]; done)), (by first | rfl | (simp; done) | (simp [*]; done)), H', ⟨Nat.le_refl _⟩, ⟨by (with_reducible repeat (first | apply Kd.V_alloc | apply Kd.V_drewN | apply Kd.V_drew)); exact HO_6.out⟩, ⟨by (with_reducible repeat (first | apply Kd.R_alloc | apply Kd.R_drewN | apply Kd.R_drew)); exact HO_199000.out⟩, ⟨by (with_reducible repeat (first | apply Kd.R_alloc | apply Kd.R_drewN | apply Kd.R_drew)); exact HO_199001.out⟩, ⟨by (with_reducible repeat (first | apply Kd.S_alloc | apply Kd.S_drewN | apply Kd.S_drew)); exact HO_199002.out⟩, ⟨by (with_reducible repeat (first | refine blk_drewN ?_ _ | refine blk_drew ?_ | refine blk_alloc ?_ _)); exact BK198.out⟩, ⟨by repeat (first | (with_reducible first | exact HB.out | apply below_alloc | apply pw_below_drewN | apply below_drew1 | refine below_set ?_ GE198.out) | exact HB.out)⟩⟩
          case round =>
            clear H'
            try clear c1
            try clear p2
            try clear c3
            try clear c4
            try clear c7
            try clear c9
            try clear c10
            try clear c14
            try clear c14b0
            try clear hcz10_0
            try clear hcz10_1
            try clear hcz10_2
            try clear hfz10_0
            try clear hfz10_1
            try clear hfz10_2
            try clear p2
            obtain ⟨x8_2, x10_2, rfl, rfl, HA, HK2, HO_6, HO_199000, HO_199001, HO_199002, BK198, HB⟩ := hrel
            cases gk with
            | zero => exact absurd HA.out (by simp [keyholelaw02_AuthChecks.l1])
            | succ k2 =>
              have H := HA.out
              clear HA
              simp only [keyholelaw02_AuthChecks.l1] at H
              by_cases c15 : 0 ≤ x9_1
              · rw [if_pos c15] at H
                have c15b0 : decide (0 ≤ x9_1) = true := decide_eq_true c15
                clear c15
                by_cases c16 : x9_1 < (l1.length : Int)
                · rw [if_pos c16] at H
                  have c16b0 : decide (x9_1 < (l1.length : Int)) = true := decide_eq_true c16
                  clear c16
                  by_cases c17 : x10_2 < (((rd_T36 l1 x9_1).f1).length : Int)
                  · rw [if_pos c17] at H
                    have c17b0 : decide (x10_2 < (((rd_T36 l1 x9_1).f1).length : Int)) = true := decide_eq_true c17
                    clear c17
                    by_cases c18 : 0 ≤ x10_2
                    · rw [if_pos c18] at H
                      have c18b0 : decide (0 ≤ x10_2) = true := decide_eq_true c18
                      clear c18
                      by_cases c19 : (rd ((rd_T36 l1 x9_1).f1) x10_2) < 0
                      · rw [if_pos c19] at H
                        have c19b0 : decide ((rd ((rd_T36 l1 x9_1).f1) x10_2) < 0) = true := decide_eq_true c19
                        clear c19
                        have H' := Aside0.mk H
                        clear H
                        have p203 : 0 ≤ (x9_1 : Int) := of_decide_eq_true (by first | (with_reducible assumption) | assumption)
                        have q203 : x9_1 < (l1.length : Int) := of_decide_eq_true (by first | (with_reducible assumption) | assumption)
                        obtain ⟨ad203, A203_1, c203_1, e203, hx203_0, hx203_1, hl203_1, hi203_1⟩ := at_T36 HR1.out x9_1 p203 q203
                        cases e203
                        replace hx203_0 := (HB.out.cell (World.block_lt_of_cell? w _ hx203_0)).trans hx203_0
                        replace hx203_1 := (HB.out.cell (World.block_lt_of_cell? w _ hx203_1)).trans hx203_1
                        have HR203_1 := Aside0.mk hi203_1
                        have HC203_1 := Aside0.mk hl203_1
                        clear hi203_1 hl203_1
                        replace p203 := eq_true p203
                        replace q203 := eq_true q203
                        have p204 : 0 ≤ (x9_1 : Int) := of_decide_eq_true (by first | (with_reducible assumption) | assumption)
                        have q204 : x9_1 < (l1.length : Int) := of_decide_eq_true (by first | (with_reducible assumption) | assumption)
                        obtain ⟨ad204, A204_1, c204_1, e204, hx204_0, hx204_1, hl204_1, hi204_1⟩ := at_T36 HR1.out x9_1 p204 q204
                        obtain rfl : ad203 = ad204 := (by injection e204)
                        replace hx204_0 := (HB.out.cell (World.block_lt_of_cell? w _ hx204_0)).trans hx204_0
                        replace hx204_1 := (HB.out.cell (World.block_lt_of_cell? w _ hx204_1)).trans hx204_1
                        have HR204_1 := Aside0.mk hi204_1
                        have HC204_1 := Aside0.mk hl204_1
                        clear hi204_1 hl204_1
                        replace p204 := eq_true p204
                        replace q204 := eq_true q204
                        have ea_ := Option.some.inj (hx203_1.symm.trans hx204_1)
                        injection ea_ with ea_ en_ ec_
                        subst ea_
                        subst ec_
                        clear en_
                        have p205 : 0 ≤ (x10_2 : Int) := of_decide_eq_true (by first | (with_reducible assumption) | assumption)
                        have q205 : x10_2 < (((rd_T36 l1 x9_1).f1).length : Int) := of_decide_eq_true (by first | (with_reducible assumption) | assumption)
                        obtain ⟨ad205, e205, hx205_0⟩ := Kd.at_int HR204_1.out x10_2 p205 q205
                        cases e205
                        replace hx205_0 := (HB.out.cell (World.block_lt_of_cell? w _ hx205_0)).trans hx205_0
                        replace p205 := eq_true p205
                        replace q205 := eq_true q205
                        go_wp2
                        go_roundg k2
                        case measure => have := HK1.out; have := HK2.out; omega
                        case rel => exact ⟨(2), (wrap64 (x10_2 + 1)), (by first | rfl | (simp; done) | (simp [*]; done)), (by first | rfl | (simp; done) | (simp [*]; done)), H', ⟨by have := HK1.out; have := HK2.out; omega⟩, ⟨by (with_reducible repeat (first | apply Kd.V_alloc | apply Kd.V_drewN | apply Kd.V_drew)); exact HO_6.out⟩, ⟨by (with_reducible repeat (first | apply Kd.R_alloc | apply Kd.R_drewN | apply Kd.R_drew)); exact HO_199000.out⟩, ⟨by (with_reducible repeat (first | apply Kd.R_alloc | apply Kd.R_drewN | apply Kd.R_drew)); exact HO_199001.out⟩, ⟨by (with_reducible repeat (first | apply Kd.S_alloc | apply Kd.S_drewN | apply Kd.S_drew)); exact HO_199002.out⟩, ⟨by (with_reducible repeat (first | refine blk_drewN ?_ _ | refine blk_drew ?_ | refine blk_alloc ?_ _)); exact BK198.out⟩, ⟨by repeat (first | (with_reducible first | exact HB.out | apply below_alloc | apply pw_below_drewN | apply below_drew1 | refine below_set ?_ GE198.out) | exact HB.out)⟩⟩
                      · rw [if_neg c19] at H
                        have c19b0 : decide ((rd ((rd_T36 l1 x9_1).f1) x10_2) < 0) = false := decide_eq_false c19
                        clear c19
                        by_cases c20 : (rd ((rd_T36 l1 x9_1).f1) x10_2) ≥ (t189.length : Int)
                        · rw [if_pos c20] at H
                          have c20b0 : decide ((t189.length : Int) ≤ (rd ((rd_T36 l1 x9_1).f1) x10_2)) = true := decide_eq_true c20
                          clear c20
                          have H' := Aside0.mk H
                          clear H
                          have p203 : 0 ≤ (x9_1 : Int) := of_decide_eq_true (by first | (with_reducible assumption) | assumption)
                          have q203 : x9_1 < (l1.length : Int) := of_decide_eq_true (by first | (with_reducible assumption) | assumption)
                          obtain ⟨ad203, A203_1, c203_1, e203, hx203_0, hx203_1, hl203_1, hi203_1⟩ := at_T36 HR1.out x9_1 p203 q203
                          cases e203
                          replace hx203_0 := (HB.out.cell (World.block_lt_of_cell? w _ hx203_0)).trans hx203_0
                          replace hx203_1 := (HB.out.cell (World.block_lt_of_cell? w _ hx203_1)).trans hx203_1
                          have HR203_1 := Aside0.mk hi203_1
                          have HC203_1 := Aside0.mk hl203_1
                          clear hi203_1 hl203_1
                          replace p203 := eq_true p203
                          replace q203 := eq_true q203
                          have p204 : 0 ≤ (x9_1 : Int) := of_decide_eq_true (by first | (with_reducible assumption) | assumption)
                          have q204 : x9_1 < (l1.length : Int) := of_decide_eq_true (by first | (with_reducible assumption) | assumption)
                          obtain ⟨ad204, A204_1, c204_1, e204, hx204_0, hx204_1, hl204_1, hi204_1⟩ := at_T36 HR1.out x9_1 p204 q204
                          obtain rfl : ad203 = ad204 := (by injection e204)
                          replace hx204_0 := (HB.out.cell (World.block_lt_of_cell? w _ hx204_0)).trans hx204_0
                          replace hx204_1 := (HB.out.cell (World.block_lt_of_cell? w _ hx204_1)).trans hx204_1
                          have HR204_1 := Aside0.mk hi204_1
                          have HC204_1 := Aside0.mk hl204_1
                          clear hi204_1 hl204_1
                          replace p204 := eq_true p204
                          replace q204 := eq_true q204
                          have ea_ := Option.some.inj (hx203_1.symm.trans hx204_1)
                          injection ea_ with ea_ en_ ec_
                          subst ea_
                          subst ec_
                          clear en_
                          have p205 : 0 ≤ (x10_2 : Int) := of_decide_eq_true (by first | (with_reducible assumption) | assumption)
                          have q205 : x10_2 < (((rd_T36 l1 x9_1).f1).length : Int) := of_decide_eq_true (by first | (with_reducible assumption) | assumption)
                          obtain ⟨ad205, e205, hx205_0⟩ := Kd.at_int HR204_1.out x10_2 p205 q205
                          cases e205
                          replace hx205_0 := (HB.out.cell (World.block_lt_of_cell? w _ hx205_0)).trans hx205_0
                          replace p205 := eq_true p205
                          replace q205 := eq_true q205
                          have hcz21_0 : wr.cell? ⟨gb198, 0, none⟩ = some (.slice Ao9 t189.length co9) := (blk_cell BK198.out 0).trans rfl
                          have hcz21_1 : wr.cell? ⟨gb198, 1, none⟩ = some (.slice Ao11 t192.length co11) := (blk_cell BK198.out 1).trans rfl
                          have hcz21_2 : wr.cell? ⟨gb198, 2, none⟩ = some (.slice Ao12 t195.length co12) := (blk_cell BK198.out 2).trans rfl
                          have hfz21_0 := blk_frozen BK198.out 0
                          have hfz21_1 := blk_frozen BK198.out 1
                          have hfz21_2 := blk_frozen BK198.out 2
                          go_wp2
                          go_roundg k2
                          case measure => have := HK1.out; have := HK2.out; omega
                          case rel => exact ⟨(2), (wrap64 (x10_2 + 1)), (by first | rfl | (simp; done) | (simp [*]; done)), (by first | rfl | (simp; done) | (simp [*]; done)), H', ⟨by have := HK1.out; have := HK2.out; omega⟩, ⟨by (with_reducible repeat (first | apply Kd.V_alloc | apply Kd.V_drewN | apply Kd.V_drew)); exact HO_6.out⟩, ⟨by (with_reducible repeat (first | apply Kd.R_alloc | apply Kd.R_drewN | apply Kd.R_drew)); exact HO_199000.out⟩, ⟨by (with_reducible repeat (first | apply Kd.R_alloc | apply Kd.R_drewN | apply Kd.R_drew)); exact HO_199001.out⟩, ⟨by (with_reducible repeat (first | apply Kd.S_alloc | apply Kd.S_drewN | apply Kd.S_drew)); exact HO_199002.out⟩, ⟨by (with_reducible repeat (first | refine blk_drewN ?_ _ | refine blk_drew ?_ | refine blk_alloc ?_ _)); exact BK198.out⟩, ⟨by repeat (first | (with_reducible first | exact HB.out | apply below_alloc | apply pw_below_drewN | apply below_drew1 | refine below_set ?_ GE198.out) | exact HB.out)⟩⟩
                        · rw [if_neg c20] at H
                          have c20b0 : decide ((t189.length : Int) ≤ (rd ((rd_T36 l1 x9_1).f1) x10_2)) = false := decide_eq_false c20
                          clear c20
                          by_cases c22 : x10_2 > 0
                          · rw [if_pos c22] at H
                            have c22b0 : decide (0 < x10_2) = true := decide_eq_true c22
                            clear c22
                            obtain ⟨ji23, hji23⟩ : ∃ j_ : Int, (wrap64 (x10_2 - 1)) = j_ := ⟨_, rfl⟩
                            replace H : (if 0 ≤ (ji23) then (if (ji23) < (((rd_T36 l1 x9_1).f1).length : Int) then (if (rd ((rd_T36 l1 x9_1).f1) x10_2) ≤ (rd ((rd_T36 l1 x9_1).f1) (ji23)) then (keyholelaw02_AuthChecks.l1 k2 l1 t199 2 x9_1 (wrap64 (x10_2 + 1)) t189 t192 t195) else (keyholelaw02_AuthChecks.l1 k2 l1 t199 x8_2 x9_1 (wrap64 (x10_2 + 1)) t189 t192 t195)) else (none)) else (none)) = some r := by first | (rw [hji23] at H; exact H) | (simp only [hji23] at H ⊢; exact H)
                            have hji23w : (IntKind.i64.wrap (x10_2 - 1)) = ji23 := (i64_w _).trans hji23
                            by_cases c24 : 0 ≤ (ji23)
                            · rw [if_pos c24] at H
                              have c24b0 : decide (0 ≤ (ji23)) = true := decide_eq_true c24
                              clear c24
                              by_cases c25 : (ji23) < (((rd_T36 l1 x9_1).f1).length : Int)
                              · rw [if_pos c25] at H
                                have c25b0 : decide ((ji23) < (((rd_T36 l1 x9_1).f1).length : Int)) = true := decide_eq_true c25
                                clear c25
                                by_cases c26 : (rd ((rd_T36 l1 x9_1).f1) x10_2) ≤ (rd ((rd_T36 l1 x9_1).f1) (ji23))
                                · rw [if_pos c26] at H
                                  have c26b0 : decide ((rd ((rd_T36 l1 x9_1).f1) x10_2) ≤ (rd ((rd_T36 l1 x9_1).f1) (ji23))) = true := decide_eq_true c26
                                  clear c26
                                  have H' := Aside0.mk H
                                  clear H
                                  have p203 : 0 ≤ (x9_1 : Int) := of_decide_eq_true (by first | (with_reducible assumption) | assumption)
                                  have q203 : x9_1 < (l1.length : Int) := of_decide_eq_true (by first | (with_reducible assumption) | assumption)
                                  obtain ⟨ad203, A203_1, c203_1, e203, hx203_0, hx203_1, hl203_1, hi203_1⟩ := at_T36 HR1.out x9_1 p203 q203
                                  cases e203
                                  replace hx203_0 := (HB.out.cell (World.block_lt_of_cell? w _ hx203_0)).trans hx203_0
                                  replace hx203_1 := (HB.out.cell (World.block_lt_of_cell? w _ hx203_1)).trans hx203_1
                                  have HR203_1 := Aside0.mk hi203_1
                                  have HC203_1 := Aside0.mk hl203_1
                                  clear hi203_1 hl203_1
                                  replace p203 := eq_true p203
                                  replace q203 := eq_true q203
                                  have p204 : 0 ≤ (x9_1 : Int) := of_decide_eq_true (by first | (with_reducible assumption) | assumption)
                                  have q204 : x9_1 < (l1.length : Int) := of_decide_eq_true (by first | (with_reducible assumption) | assumption)
                                  obtain ⟨ad204, A204_1, c204_1, e204, hx204_0, hx204_1, hl204_1, hi204_1⟩ := at_T36 HR1.out x9_1 p204 q204
                                  obtain rfl : ad203 = ad204 := (by injection e204)
                                  replace hx204_0 := (HB.out.cell (World.block_lt_of_cell? w _ hx204_0)).trans hx204_0
                                  replace hx204_1 := (HB.out.cell (World.block_lt_of_cell? w _ hx204_1)).trans hx204_1
                                  have HR204_1 := Aside0.mk hi204_1
                                  have HC204_1 := Aside0.mk hl204_1
                                  clear hi204_1 hl204_1
                                  replace p204 := eq_true p204
                                  replace q204 := eq_true q204
                                  have ea_ := Option.some.inj (hx203_1.symm.trans hx204_1)
                                  injection ea_ with ea_ en_ ec_
                                  subst ea_
                                  subst ec_
                                  clear en_
                                  have p205 : 0 ≤ (x10_2 : Int) := of_decide_eq_true (by first | (with_reducible assumption) | assumption)
                                  have q205 : x10_2 < (((rd_T36 l1 x9_1).f1).length : Int) := of_decide_eq_true (by first | (with_reducible assumption) | assumption)
                                  obtain ⟨ad205, e205, hx205_0⟩ := Kd.at_int HR204_1.out x10_2 p205 q205
                                  cases e205
                                  replace hx205_0 := (HB.out.cell (World.block_lt_of_cell? w _ hx205_0)).trans hx205_0
                                  replace p205 := eq_true p205
                                  replace q205 := eq_true q205
                                  have hcz27_0 : wr.cell? ⟨gb198, 0, none⟩ = some (.slice Ao9 t189.length co9) := (blk_cell BK198.out 0).trans rfl
                                  have hcz27_1 : wr.cell? ⟨gb198, 1, none⟩ = some (.slice Ao11 t192.length co11) := (blk_cell BK198.out 1).trans rfl
                                  have hcz27_2 : wr.cell? ⟨gb198, 2, none⟩ = some (.slice Ao12 t195.length co12) := (blk_cell BK198.out 2).trans rfl
                                  have hfz27_0 := blk_frozen BK198.out 0
                                  have hfz27_1 := blk_frozen BK198.out 1
                                  have hfz27_2 := blk_frozen BK198.out 2
                                  have p206 : 0 ≤ (x9_1 : Int) := of_decide_eq_true (by first | (with_reducible assumption) | assumption)
                                  have q206 : x9_1 < (l1.length : Int) := of_decide_eq_true (by first | (with_reducible assumption) | assumption)
                                  obtain ⟨ad206, A206_1, c206_1, e206, hx206_0, hx206_1, hl206_1, hi206_1⟩ := at_T36 HR1.out x9_1 p206 q206
                                  obtain rfl : ad203 = ad206 := (by injection e206)
                                  replace hx206_0 := (HB.out.cell (World.block_lt_of_cell? w _ hx206_0)).trans hx206_0
                                  replace hx206_1 := (HB.out.cell (World.block_lt_of_cell? w _ hx206_1)).trans hx206_1
                                  have HR206_1 := Aside0.mk hi206_1
                                  have HC206_1 := Aside0.mk hl206_1
                                  clear hi206_1 hl206_1
                                  replace p206 := eq_true p206
                                  replace q206 := eq_true q206
                                  have ea_ := Option.some.inj (hx203_1.symm.trans hx206_1)
                                  injection ea_ with ea_ en_ ec_
                                  subst ea_
                                  subst ec_
                                  clear en_
                                  have p207 : 0 ≤ ((ji23) : Int) := of_decide_eq_true (by first | (with_reducible assumption) | assumption)
                                  have q207 : (ji23) < (((rd_T36 l1 x9_1).f1).length : Int) := of_decide_eq_true (by first | (with_reducible assumption) | assumption)
                                  obtain ⟨ad207, e207, hx207_0⟩ := Kd.at_int HR206_1.out (ji23) p207 q207
                                  cases e207
                                  replace hx207_0 := (HB.out.cell (World.block_lt_of_cell? w _ hx207_0)).trans hx207_0
                                  replace p207 := eq_true p207
                                  replace q207 := eq_true q207
                                  go_wp2
                                  go_roundg k2
                                  case measure => have := HK1.out; have := HK2.out; omega
                                  case rel => exact ⟨(2), (wrap64 (x10_2 + 1)), (by first | rfl | (simp; done) | (simp [*]; done)), (by first | rfl | (simp; done) | (simp [*]; done)), H', ⟨by have := HK1.out; have := HK2.out; omega⟩, ⟨by (with_reducible repeat (first | apply Kd.V_alloc | apply Kd.V_drewN | apply Kd.V_drew)); exact HO_6.out⟩, ⟨by (with_reducible repeat (first | apply Kd.R_alloc | apply Kd.R_drewN | apply Kd.R_drew)); exact HO_199000.out⟩, ⟨by (with_reducible repeat (first | apply Kd.R_alloc | apply Kd.R_drewN | apply Kd.R_drew)); exact HO_199001.out⟩, ⟨by (with_reducible repeat (first | apply Kd.S_alloc | apply Kd.S_drewN | apply Kd.S_drew)); exact HO_199002.out⟩, ⟨by (with_reducible repeat (first | refine blk_drewN ?_ _ | refine blk_drew ?_ | refine blk_alloc ?_ _)); exact BK198.out⟩, ⟨by repeat (first | (with_reducible first | exact HB.out | apply below_alloc | apply pw_below_drewN | apply below_drew1 | refine below_set ?_ GE198.out) | exact HB.out)⟩⟩
                                · rw [if_neg c26] at H
                                  have c26b0 : decide ((rd ((rd_T36 l1 x9_1).f1) x10_2) ≤ (rd ((rd_T36 l1 x9_1).f1) (ji23))) = false := decide_eq_false c26
                                  clear c26
                                  have H' := Aside0.mk H
                                  clear H
                                  have p203 : 0 ≤ (x9_1 : Int) := of_decide_eq_true (by first | (with_reducible assumption) | assumption)
                                  have q203 : x9_1 < (l1.length : Int) := of_decide_eq_true (by first | (with_reducible assumption) | assumption)
                                  obtain ⟨ad203, A203_1, c203_1, e203, hx203_0, hx203_1, hl203_1, hi203_1⟩ := at_T36 HR1.out x9_1 p203 q203
                                  cases e203
                                  replace hx203_0 := (HB.out.cell (World.block_lt_of_cell? w _ hx203_0)).trans hx203_0
                                  replace hx203_1 := (HB.out.cell (World.block_lt_of_cell? w _ hx203_1)).trans hx203_1
                                  have HR203_1 := Aside0.mk hi203_1
                                  have HC203_1 := Aside0.mk hl203_1
                                  clear hi203_1 hl203_1
                                  replace p203 := eq_true p203
                                  replace q203 := eq_true q203
                                  have p204 : 0 ≤ (x9_1 : Int) := of_decide_eq_true (by first | (with_reducible assumption) | assumption)
                                  have q204 : x9_1 < (l1.length : Int) := of_decide_eq_true (by first | (with_reducible assumption) | assumption)
                                  obtain ⟨ad204, A204_1, c204_1, e204, hx204_0, hx204_1, hl204_1, hi204_1⟩ := at_T36 HR1.out x9_1 p204 q204
                                  obtain rfl : ad203 = ad204 := (by injection e204)
                                  replace hx204_0 := (HB.out.cell (World.block_lt_of_cell? w _ hx204_0)).trans hx204_0
                                  replace hx204_1 := (HB.out.cell (World.block_lt_of_cell? w _ hx204_1)).trans hx204_1
                                  have HR204_1 := Aside0.mk hi204_1
                                  have HC204_1 := Aside0.mk hl204_1
                                  clear hi204_1 hl204_1
                                  replace p204 := eq_true p204
                                  replace q204 := eq_true q204
                                  have ea_ := Option.some.inj (hx203_1.symm.trans hx204_1)
                                  injection ea_ with ea_ en_ ec_
                                  subst ea_
                                  subst ec_
                                  clear en_
                                  have p205 : 0 ≤ (x10_2 : Int) := of_decide_eq_true (by first | (with_reducible assumption) | assumption)
                                  have q205 : x10_2 < (((rd_T36 l1 x9_1).f1).length : Int) := of_decide_eq_true (by first | (with_reducible assumption) | assumption)
                                  obtain ⟨ad205, e205, hx205_0⟩ := Kd.at_int HR204_1.out x10_2 p205 q205
                                  cases e205
                                  replace hx205_0 := (HB.out.cell (World.block_lt_of_cell? w _ hx205_0)).trans hx205_0
                                  replace p205 := eq_true p205
                                  replace q205 := eq_true q205
                                  have hcz28_0 : wr.cell? ⟨gb198, 0, none⟩ = some (.slice Ao9 t189.length co9) := (blk_cell BK198.out 0).trans rfl
                                  have hcz28_1 : wr.cell? ⟨gb198, 1, none⟩ = some (.slice Ao11 t192.length co11) := (blk_cell BK198.out 1).trans rfl
                                  have hcz28_2 : wr.cell? ⟨gb198, 2, none⟩ = some (.slice Ao12 t195.length co12) := (blk_cell BK198.out 2).trans rfl
                                  have hfz28_0 := blk_frozen BK198.out 0
                                  have hfz28_1 := blk_frozen BK198.out 1
                                  have hfz28_2 := blk_frozen BK198.out 2
                                  have p206 : 0 ≤ (x9_1 : Int) := of_decide_eq_true (by first | (with_reducible assumption) | assumption)
                                  have q206 : x9_1 < (l1.length : Int) := of_decide_eq_true (by first | (with_reducible assumption) | assumption)
                                  obtain ⟨ad206, A206_1, c206_1, e206, hx206_0, hx206_1, hl206_1, hi206_1⟩ := at_T36 HR1.out x9_1 p206 q206
                                  obtain rfl : ad203 = ad206 := (by injection e206)
                                  replace hx206_0 := (HB.out.cell (World.block_lt_of_cell? w _ hx206_0)).trans hx206_0
                                  replace hx206_1 := (HB.out.cell (World.block_lt_of_cell? w _ hx206_1)).trans hx206_1
                                  have HR206_1 := Aside0.mk hi206_1
                                  have HC206_1 := Aside0.mk hl206_1
                                  clear hi206_1 hl206_1
                                  replace p206 := eq_true p206
                                  replace q206 := eq_true q206
                                  have ea_ := Option.some.inj (hx203_1.symm.trans hx206_1)
                                  injection ea_ with ea_ en_ ec_
                                  subst ea_
                                  subst ec_
                                  clear en_
                                  have p207 : 0 ≤ ((ji23) : Int) := of_decide_eq_true (by first | (with_reducible assumption) | assumption)
                                  have q207 : (ji23) < (((rd_T36 l1 x9_1).f1).length : Int) := of_decide_eq_true (by first | (with_reducible assumption) | assumption)
                                  obtain ⟨ad207, e207, hx207_0⟩ := Kd.at_int HR206_1.out (ji23) p207 q207
                                  cases e207
                                  replace hx207_0 := (HB.out.cell (World.block_lt_of_cell? w _ hx207_0)).trans hx207_0
                                  replace p207 := eq_true p207
                                  replace q207 := eq_true q207
                                  go_wp2
                                  go_roundg k2
                                  case measure => have := HK1.out; have := HK2.out; omega
                                  case rel => exact ⟨(x8_2), (wrap64 (x10_2 + 1)), (by first | rfl | (simp; done) | (simp [*]; done)), (by first | rfl | (simp; done) | (simp [*]; done)), H', ⟨by have := HK1.out; have := HK2.out; omega⟩, ⟨by (with_reducible repeat (first | apply Kd.V_alloc | apply Kd.V_drewN | apply Kd.V_drew)); exact HO_6.out⟩, ⟨by (with_reducible repeat (first | apply Kd.R_alloc | apply Kd.R_drewN | apply Kd.R_drew)); exact HO_199000.out⟩, ⟨by (with_reducible repeat (first | apply Kd.R_alloc | apply Kd.R_drewN | apply Kd.R_drew)); exact HO_199001.out⟩, ⟨by (with_reducible repeat (first | apply Kd.S_alloc | apply Kd.S_drewN | apply Kd.S_drew)); exact HO_199002.out⟩, ⟨by (with_reducible repeat (first | refine blk_drewN ?_ _ | refine blk_drew ?_ | refine blk_alloc ?_ _)); exact BK198.out⟩, ⟨by repeat (first | (with_reducible first | exact HB.out | apply below_alloc | apply pw_below_drewN | apply below_drew1 | refine below_set ?_ GE198.out) | exact HB.out)⟩⟩
                              · rw [if_neg c25] at H
                                exact absurd H (by simp)
                            · rw [if_neg c24] at H
                              exact absurd H (by simp)
                          · rw [if_neg c22] at H
                            have c22b0 : decide (0 < x10_2) = false := decide_eq_false c22
                            clear c22
                            have H' := Aside0.mk H
                            clear H
                            have p203 : 0 ≤ (x9_1 : Int) := of_decide_eq_true (by first | (with_reducible assumption) | assumption)
                            have q203 : x9_1 < (l1.length : Int) := of_decide_eq_true (by first | (with_reducible assumption) | assumption)
                            obtain ⟨ad203, A203_1, c203_1, e203, hx203_0, hx203_1, hl203_1, hi203_1⟩ := at_T36 HR1.out x9_1 p203 q203
                            cases e203
                            replace hx203_0 := (HB.out.cell (World.block_lt_of_cell? w _ hx203_0)).trans hx203_0
                            replace hx203_1 := (HB.out.cell (World.block_lt_of_cell? w _ hx203_1)).trans hx203_1
                            have HR203_1 := Aside0.mk hi203_1
                            have HC203_1 := Aside0.mk hl203_1
                            clear hi203_1 hl203_1
                            replace p203 := eq_true p203
                            replace q203 := eq_true q203
                            have p204 : 0 ≤ (x9_1 : Int) := of_decide_eq_true (by first | (with_reducible assumption) | assumption)
                            have q204 : x9_1 < (l1.length : Int) := of_decide_eq_true (by first | (with_reducible assumption) | assumption)
                            obtain ⟨ad204, A204_1, c204_1, e204, hx204_0, hx204_1, hl204_1, hi204_1⟩ := at_T36 HR1.out x9_1 p204 q204
                            obtain rfl : ad203 = ad204 := (by injection e204)
                            replace hx204_0 := (HB.out.cell (World.block_lt_of_cell? w _ hx204_0)).trans hx204_0
                            replace hx204_1 := (HB.out.cell (World.block_lt_of_cell? w _ hx204_1)).trans hx204_1
                            have HR204_1 := Aside0.mk hi204_1
                            have HC204_1 := Aside0.mk hl204_1
                            clear hi204_1 hl204_1
                            replace p204 := eq_true p204
                            replace q204 := eq_true q204
                            have ea_ := Option.some.inj (hx203_1.symm.trans hx204_1)
                            injection ea_ with ea_ en_ ec_
                            subst ea_
                            subst ec_
                            clear en_
                            have p205 : 0 ≤ (x10_2 : Int) := of_decide_eq_true (by first | (with_reducible assumption) | assumption)
                            have q205 : x10_2 < (((rd_T36 l1 x9_1).f1).length : Int) := of_decide_eq_true (by first | (with_reducible assumption) | assumption)
                            obtain ⟨ad205, e205, hx205_0⟩ := Kd.at_int HR204_1.out x10_2 p205 q205
                            cases e205
                            replace hx205_0 := (HB.out.cell (World.block_lt_of_cell? w _ hx205_0)).trans hx205_0
                            replace p205 := eq_true p205
                            replace q205 := eq_true q205
                            have hcz29_0 : wr.cell? ⟨gb198, 0, none⟩ = some (.slice Ao9 t189.length co9) := (blk_cell BK198.out 0).trans rfl
                            have hcz29_1 : wr.cell? ⟨gb198, 1, none⟩ = some (.slice Ao11 t192.length co11) := (blk_cell BK198.out 1).trans rfl
                            have hcz29_2 : wr.cell? ⟨gb198, 2, none⟩ = some (.slice Ao12 t195.length co12) := (blk_cell BK198.out 2).trans rfl
                            have hfz29_0 := blk_frozen BK198.out 0
                            have hfz29_1 := blk_frozen BK198.out 1
                            have hfz29_2 := blk_frozen BK198.out 2
                            go_wp2
                            go_roundg k2
                            case measure => have := HK1.out; have := HK2.out; omega
                            case rel => exact ⟨(x8_2), (wrap64 (x10_2 + 1)), (by first | rfl | (simp; done) | (simp [*]; done)), (by first | rfl | (simp; done) | (simp [*]; done)), H', ⟨by have := HK1.out; have := HK2.out; omega⟩, ⟨by (with_reducible repeat (first | apply Kd.V_alloc | apply Kd.V_drewN | apply Kd.V_drew)); exact HO_6.out⟩, ⟨by (with_reducible repeat (first | apply Kd.R_alloc | apply Kd.R_drewN | apply Kd.R_drew)); exact HO_199000.out⟩, ⟨by (with_reducible repeat (first | apply Kd.R_alloc | apply Kd.R_drewN | apply Kd.R_drew)); exact HO_199001.out⟩, ⟨by (with_reducible repeat (first | apply Kd.S_alloc | apply Kd.S_drewN | apply Kd.S_drew)); exact HO_199002.out⟩, ⟨by (with_reducible repeat (first | refine blk_drewN ?_ _ | refine blk_drew ?_ | refine blk_alloc ?_ _)); exact BK198.out⟩, ⟨by repeat (first | (with_reducible first | exact HB.out | apply below_alloc | apply pw_below_drewN | apply below_drew1 | refine below_set ?_ GE198.out) | exact HB.out)⟩⟩
                    · rw [if_neg c18] at H
                      exact absurd H (by simp)
                  · rw [if_neg c17] at H
                    have c17b0 : decide (x10_2 < (((rd_T36 l1 x9_1).f1).length : Int)) = false := decide_eq_false c17
                    clear c17
                    have H' := Aside0.mk H
                    clear H
                    have p203 : 0 ≤ (x9_1 : Int) := of_decide_eq_true (by first | (with_reducible assumption) | assumption)
                    have q203 : x9_1 < (l1.length : Int) := of_decide_eq_true (by first | (with_reducible assumption) | assumption)
                    obtain ⟨ad203, A203_1, c203_1, e203, hx203_0, hx203_1, hl203_1, hi203_1⟩ := at_T36 HR1.out x9_1 p203 q203
                    cases e203
                    replace hx203_0 := (HB.out.cell (World.block_lt_of_cell? w _ hx203_0)).trans hx203_0
                    replace hx203_1 := (HB.out.cell (World.block_lt_of_cell? w _ hx203_1)).trans hx203_1
                    have HR203_1 := Aside0.mk hi203_1
                    have HC203_1 := Aside0.mk hl203_1
                    clear hi203_1 hl203_1
                    replace p203 := eq_true p203
                    replace q203 := eq_true q203
                    go_wp2
                    go_roundg k2
                    case measure => have := HK1.out; have := HK2.out; omega
                    case rel => exact ⟨(x8_2), (wrap64 (x9_1 + 1)), (by first | rfl | (simp; done) | (simp [*]; done)), (by first | rfl | (simp; done) | (simp [*]; done)), H', ⟨by have := HK1.out; have := HK2.out; omega⟩, ⟨by (with_reducible repeat (first | apply Kd.V_alloc | apply Kd.V_drewN | apply Kd.V_drew)); exact HO_6.out⟩, ⟨by (with_reducible repeat (first | apply Kd.R_alloc | apply Kd.R_drewN | apply Kd.R_drew)); exact HO_199000.out⟩, ⟨by (with_reducible repeat (first | apply Kd.R_alloc | apply Kd.R_drewN | apply Kd.R_drew)); exact HO_199001.out⟩, ⟨by (with_reducible repeat (first | apply Kd.S_alloc | apply Kd.S_drewN | apply Kd.S_drew)); exact HO_199002.out⟩, ⟨by (with_reducible repeat (first | refine blk_drewN ?_ _ | refine blk_drew ?_ | refine blk_alloc ?_ _)); exact BK198.out⟩, ⟨by repeat (first | (with_reducible first | exact HB.out | apply below_alloc | apply pw_below_drewN | apply below_drew1 | refine below_set ?_ GE198.out) | exact HB.out)⟩⟩
                · rw [if_neg c16] at H
                  exact absurd H (by simp)
              · rw [if_neg c15] at H
                exact absurd H (by simp)
        · rw [if_neg c14] at H
          have c14b0 : decide (x9_1 < (l1.length : Int)) = false := decide_eq_false c14
          clear c14
          have H' := Aside0.mk H
          clear H
          go_wp2
          go_loopg [8, 12] k1 (fun kq v8 v12 w' => ∃ (x8_2 : Int) (x12_2 : Int), v8 = .int .i64 x8_2 ∧ v12 = .int .i64 x12_2 ∧ Aside0 (keyholelaw02_AuthChecks.l2 kq l1 t199 x8_2 x12_2 = some r) ∧ Aside0 (kq ≤ k1) ∧ Aside0 (Kd.V klat 64 w' w.heap.size (fun k_ => some k_ ≠ ((.slice Ao9 t189.length co9) : Value).ownBlock ∧ some k_ ≠ ((.slice Ao11 t192.length co11) : Value).ownBlock ∧ some k_ ≠ ((.slice Ao12 t195.length co12) : Value).ownBlock ∧ k_ ≠ gb198) v200 t199) ∧ Aside0 (Kd.R Kd.string 9 w' w.heap.size (fun _ => True) (.slice Ao9 t189.length co9) t189) ∧ Aside0 (Kd.R k52 52 w' w.heap.size (fun _ => True) (.slice Ao11 t192.length co11) t192) ∧ Aside0 (Kd.S k36 36 w' w.heap.size (fun _ => True) (.slice Ao12 t195.length co12) t195) ∧ Aside0 (w'.heap[gb198]? = some (.cells #[(.slice Ao9 t189.length co9), (.slice Ao11 t192.length co11), (.slice Ao12 t195.length co12)] 28 (0, 0))) ∧ Aside0 (Below w.heap.size w w'))
          case atStart => exact ⟨(x8_1), (0), (by first | rfl | (simp; done) | (simp [*]; done)), (by first | rfl | (simp; done) | (simp [*]; done)), H', ⟨Nat.le_refl _⟩, ⟨by (with_reducible repeat (first | apply Kd.V_alloc | apply Kd.V_drewN | apply Kd.V_drew)); exact HO_6.out⟩, ⟨by (with_reducible repeat (first | apply Kd.R_alloc | apply Kd.R_drewN | apply Kd.R_drew)); exact HO_199000.out⟩, ⟨by (with_reducible repeat (first | apply Kd.R_alloc | apply Kd.R_drewN | apply Kd.R_drew)); exact HO_199001.out⟩, ⟨by (with_reducible repeat (first | apply Kd.S_alloc | apply Kd.S_drewN | apply Kd.S_drew)); exact HO_199002.out⟩, ⟨by (with_reducible repeat (first | refine blk_drewN ?_ _ | refine blk_drew ?_ | refine blk_alloc ?_ _)); exact BK198.out⟩, ⟨by repeat (first | (with_reducible first | exact HB.out | apply below_alloc | apply pw_below_drewN | apply below_drew1 | refine below_set ?_ GE198.out) | exact HB.out)⟩⟩
          case round =>
            clear H'
            try clear c1
            try clear c2
            try clear p2
            try clear q2
            try clear hx2
            try clear c3
            try clear c4
            try clear p6
            try clear c7
            try clear c9
            try clear c10
            try clear c14
            try clear c14b0
            try clear c15
            try clear c15b0
            try clear c16
            try clear c16b0
            try clear c17
            try clear c17b0
            try clear c18
            try clear c18b0
            try clear c19
            try clear c19b0
            try clear c20
            try clear c20b0
            try clear p20
            try clear q20
            try clear hx20
            try clear c22
            try clear c22b0
            try clear c24
            try clear c24b0
            try clear c25
            try clear c25b0
            try clear c26
            try clear c26b0
            try clear hcz10_0
            try clear hcz10_1
            try clear hcz10_2
            try clear hcz21_0
            try clear hcz21_1
            try clear hcz21_2
            try clear hcz27_0
            try clear hcz27_1
            try clear hcz27_2
            try clear hcz28_0
            try clear hcz28_1
            try clear hcz28_2
            try clear hcz29_0
            try clear hcz29_1
            try clear hcz29_2
            try clear hfz10_0
            try clear hfz10_1
            try clear hfz10_2
            try clear hfz21_0
            try clear hfz21_1
            try clear hfz21_2
            try clear hfz27_0
            try clear hfz27_1
            try clear hfz27_2
            try clear hfz28_0
            try clear hfz28_1
            try clear hfz28_2
            try clear hfz29_0
            try clear hfz29_1
            try clear hfz29_2
            try clear hx203_0
            try clear hx203_1
            try clear hx204_0
            try clear hx204_1
            try clear hx205_0
            try clear hx206_0
            try clear hx206_1
            try clear hx207_0
            try clear p2
            try clear p203
            try clear p204
            try clear p205
            try clear p206
            try clear p207
            try clear q203
            try clear q204
            try clear q205
            try clear q206
            try clear q207
            obtain ⟨x8_2, x12_2, rfl, rfl, HA, HK2, HO_6, HO_199000, HO_199001, HO_199002, BK198, HB⟩ := hrel
            cases gk with
            | zero => exact absurd HA.out (by simp [keyholelaw02_AuthChecks.l2])
            | succ k2 =>
              have H := HA.out
              clear HA
              simp only [keyholelaw02_AuthChecks.l2] at H
              by_cases c30 : x12_2 < (l1.length : Int)
              · rw [if_pos c30] at H
                have c30b0 : decide (x12_2 < (l1.length : Int)) = true := decide_eq_true c30
                clear c30
                by_cases c31 : (l1.length : Int) > 8
                · rw [if_pos c31] at H
                  have c31b0 : decide (8 < (l1.length : Int)) = true := decide_eq_true c31
                  have c31b1 : decide (8 < l1.length) = true := decide_eq_true (by omega)
                  clear c31
                  have H' := Aside0.mk H
                  clear H
                  go_wp2
                  go_roundg k2
                  case measure => have := HK1.out; have := HK2.out; omega
                  case rel => exact ⟨(10), (wrap64 (x12_2 + 1)), (by first | rfl | (simp; done) | (simp [*]; done)), (by first | rfl | (simp; done) | (simp [*]; done)), H', ⟨by have := HK1.out; have := HK2.out; omega⟩, ⟨by (with_reducible repeat (first | apply Kd.V_alloc | apply Kd.V_drewN | apply Kd.V_drew)); exact HO_6.out⟩, ⟨by (with_reducible repeat (first | apply Kd.R_alloc | apply Kd.R_drewN | apply Kd.R_drew)); exact HO_199000.out⟩, ⟨by (with_reducible repeat (first | apply Kd.R_alloc | apply Kd.R_drewN | apply Kd.R_drew)); exact HO_199001.out⟩, ⟨by (with_reducible repeat (first | apply Kd.S_alloc | apply Kd.S_drewN | apply Kd.S_drew)); exact HO_199002.out⟩, ⟨by (with_reducible repeat (first | refine blk_drewN ?_ _ | refine blk_drew ?_ | refine blk_alloc ?_ _)); exact BK198.out⟩, ⟨by repeat (first | (with_reducible first | exact HB.out | apply below_alloc | apply pw_below_drewN | apply below_drew1 | refine below_set ?_ GE198.out) | exact HB.out)⟩⟩
                · rw [if_neg c31] at H
                  have c31b0 : decide (8 < (l1.length : Int)) = false := decide_eq_false c31
                  have c31b1 : decide (8 < l1.length) = false := decide_eq_false (by omega)
                  clear c31
                  by_cases c32 : 0 ≤ x12_2
                  · rw [if_pos c32] at H
                    have c32b0 : decide (0 ≤ x12_2) = true := decide_eq_true c32
                    clear c32
                    replace H := Option.bind_eq_some_iff.mp H
                    obtain ⟨t211, A330, H⟩ := H
                    replace H : (if t211 = true then ((keyholelaw02_find.f k2 l1 ((rd_T36 l1 x12_2).f0)).bind fun t213 => (if t213 = x12_2 then (keyholelaw02_AuthChecks.l2 k2 l1 t199 x8_2 (wrap64 (x12_2 + 1))) else (keyholelaw02_AuthChecks.l2 k2 l1 t199 10 (wrap64 (x12_2 + 1))))) else (keyholelaw02_AuthChecks.l2 k2 l1 t199 10 (wrap64 (x12_2 + 1)))) = some r := H
                    have A33 := Aside0.mk A330
                    clear A330
                    by_cases c34 : t211 = true
                    · subst c34
                      have H1 : ((keyholelaw02_find.f k2 l1 ((rd_T36 l1 x12_2).f0)).bind fun t213 => (if t213 = x12_2 then (keyholelaw02_AuthChecks.l2 k2 l1 t199 x8_2 (wrap64 (x12_2 + 1))) else (keyholelaw02_AuthChecks.l2 k2 l1 t199 10 (wrap64 (x12_2 + 1))))) = some r := by rw [if_pos rfl] at H; exact H
                      clear H
                      have H := H1
                      clear H1
                      replace H := Option.bind_eq_some_iff.mp H
                      obtain ⟨t213, A350, H⟩ := H
                      replace H : (if t213 = x12_2 then (keyholelaw02_AuthChecks.l2 k2 l1 t199 x8_2 (wrap64 (x12_2 + 1))) else (keyholelaw02_AuthChecks.l2 k2 l1 t199 10 (wrap64 (x12_2 + 1)))) = some r := H
                      have A35 := Aside0.mk A350
                      clear A350
                      by_cases c36 : t213 = x12_2
                      · rw [if_pos c36] at H
                        have c36b0 : (t213 == x12_2) = true := beq_iff_eq.mpr c36
                        have c36b1 : (t213 != x12_2) = false := bne_eq_false_iff_eq.mpr c36
                        clear c36
                        have H' := Aside0.mk H
                        clear H
                        have p210 : 0 ≤ (x12_2 : Int) := of_decide_eq_true (by first | (with_reducible assumption) | assumption)
                        have q210 : x12_2 < (l1.length : Int) := of_decide_eq_true (by first | (with_reducible assumption) | assumption)
                        obtain ⟨ad210, A210_1, c210_1, e210, hx210_0, hx210_1, hl210_1, hi210_1⟩ := at_T36 HR1.out x12_2 p210 q210
                        cases e210
                        replace hx210_0 := (HB.out.cell (World.block_lt_of_cell? w _ hx210_0)).trans hx210_0
                        replace hx210_1 := (HB.out.cell (World.block_lt_of_cell? w _ hx210_1)).trans hx210_1
                        have HR210_1 := Aside0.mk hi210_1
                        have HC210_1 := Aside0.mk hl210_1
                        clear hi210_1 hl210_1
                        replace p210 := eq_true p210
                        replace q210 := eq_true q210
                        go_wp2_with (first | (go_at_call 11; (with_reducible refine (keyholeref01_Name.calls k2 ((rd_T36 l1 x12_2).f0) true _ A33.out).mono ?_); rintro e w' ⟨rfl, ⟨nd, rfl⟩⟩; have p212 : 0 ≤ (x12_2 : Int) := of_decide_eq_true (by first | (with_reducible assumption) | assumption); have q212 : x12_2 < (l1.length : Int) := of_decide_eq_true (by first | (with_reducible assumption) | assumption); obtain ⟨ad212, A212_1, c212_1, e212, hx212_0, hx212_1, hl212_1, hi212_1⟩ := at_T36 HR1.out x12_2 p212 q212; obtain rfl : ad210 = ad212 := (by injection e212); replace hx212_0 := (HB.out.cell (World.block_lt_of_cell? w _ hx212_0)).trans hx212_0; replace hx212_1 := (HB.out.cell (World.block_lt_of_cell? w _ hx212_1)).trans hx212_1; have HR212_1 := Aside0.mk hi212_1; have HC212_1 := Aside0.mk hl212_1; clear hi212_1 hl212_1; replace p212 := eq_true p212; replace q212 := eq_true q212; have ea_ := Option.some.inj (hx210_1.symm.trans hx212_1); injection ea_ with ea_ en_ ec_; subst ea_; subst ec_; clear en_) | (go_at_call 12; (with_reducible refine (keyholelaw02_find.calls k2 _ _ l1 ((rd_T36 l1 x12_2).f0) t213 _ ?side1 ?side2 A35.out).mono ?_); (case side1 => repeat (first | exact (Kd.C_below HR1.out (by repeat (first | (with_reducible first | exact HB.out | apply below_alloc | apply pw_below_drewN | apply below_drew1 | refine below_set ?_ GE198.out) | exact HB.out))) | (with_reducible refine Kd.C_alloc ?_ _) | (with_reducible refine Kd.C_drewN ?_ _) | (with_reducible refine Kd.C_drew ?_))); (case side2 => exact HC1.out); rintro e w' ⟨rfl, ⟨nd, rfl⟩⟩))
                        go_roundg k2
                        case measure => have := HK1.out; have := HK2.out; omega
                        case rel => exact ⟨(x8_2), (wrap64 (x12_2 + 1)), (by first | rfl | (simp; done) | (simp [*]; done)), (by first | rfl | (simp; done) | (simp [*]; done)), H', ⟨by have := HK1.out; have := HK2.out; omega⟩, ⟨by (with_reducible repeat (first | apply Kd.V_alloc | apply Kd.V_drewN | apply Kd.V_drew)); exact HO_6.out⟩, ⟨by (with_reducible repeat (first | apply Kd.R_alloc | apply Kd.R_drewN | apply Kd.R_drew)); exact HO_199000.out⟩, ⟨by (with_reducible repeat (first | apply Kd.R_alloc | apply Kd.R_drewN | apply Kd.R_drew)); exact HO_199001.out⟩, ⟨by (with_reducible repeat (first | apply Kd.S_alloc | apply Kd.S_drewN | apply Kd.S_drew)); exact HO_199002.out⟩, ⟨by (with_reducible repeat (first | refine blk_drewN ?_ _ | refine blk_drew ?_ | refine blk_alloc ?_ _)); exact BK198.out⟩, ⟨by repeat (first | (with_reducible first | exact HB.out | apply below_alloc | apply pw_below_drewN | apply below_drew1 | refine below_set ?_ GE198.out) | exact HB.out)⟩⟩
                      · rw [if_neg c36] at H
                        have c36b0 : (t213 == x12_2) = false := beq_eq_false_iff_ne.mpr c36
                        have c36b1 : (t213 != x12_2) = true := bne_iff_ne.mpr c36
                        have H' := Aside0.mk H
                        clear H
                        have p210 : 0 ≤ (x12_2 : Int) := of_decide_eq_true (by first | (with_reducible assumption) | assumption)
                        have q210 : x12_2 < (l1.length : Int) := of_decide_eq_true (by first | (with_reducible assumption) | assumption)
                        obtain ⟨ad210, A210_1, c210_1, e210, hx210_0, hx210_1, hl210_1, hi210_1⟩ := at_T36 HR1.out x12_2 p210 q210
                        cases e210
                        replace hx210_0 := (HB.out.cell (World.block_lt_of_cell? w _ hx210_0)).trans hx210_0
                        replace hx210_1 := (HB.out.cell (World.block_lt_of_cell? w _ hx210_1)).trans hx210_1
                        have HR210_1 := Aside0.mk hi210_1
                        have HC210_1 := Aside0.mk hl210_1
                        clear hi210_1 hl210_1
                        replace p210 := eq_true p210
                        replace q210 := eq_true q210
                        go_wp2_with (first | (go_at_call 11; (with_reducible refine (keyholeref01_Name.calls k2 ((rd_T36 l1 x12_2).f0) true _ A33.out).mono ?_); rintro e w' ⟨rfl, ⟨nd, rfl⟩⟩; have p212 : 0 ≤ (x12_2 : Int) := of_decide_eq_true (by first | (with_reducible assumption) | assumption); have q212 : x12_2 < (l1.length : Int) := of_decide_eq_true (by first | (with_reducible assumption) | assumption); obtain ⟨ad212, A212_1, c212_1, e212, hx212_0, hx212_1, hl212_1, hi212_1⟩ := at_T36 HR1.out x12_2 p212 q212; obtain rfl : ad210 = ad212 := (by injection e212); replace hx212_0 := (HB.out.cell (World.block_lt_of_cell? w _ hx212_0)).trans hx212_0; replace hx212_1 := (HB.out.cell (World.block_lt_of_cell? w _ hx212_1)).trans hx212_1; have HR212_1 := Aside0.mk hi212_1; have HC212_1 := Aside0.mk hl212_1; clear hi212_1 hl212_1; replace p212 := eq_true p212; replace q212 := eq_true q212; have ea_ := Option.some.inj (hx210_1.symm.trans hx212_1); injection ea_ with ea_ en_ ec_; subst ea_; subst ec_; clear en_) | (go_at_call 12; (with_reducible refine (keyholelaw02_find.calls k2 _ _ l1 ((rd_T36 l1 x12_2).f0) t213 _ ?side1 ?side2 A35.out).mono ?_); (case side1 => repeat (first | exact (Kd.C_below HR1.out (by repeat (first | (with_reducible first | exact HB.out | apply below_alloc | apply pw_below_drewN | apply below_drew1 | refine below_set ?_ GE198.out) | exact HB.out))) | (with_reducible refine Kd.C_alloc ?_ _) | (with_reducible refine Kd.C_drewN ?_ _) | (with_reducible refine Kd.C_drew ?_))); (case side2 => exact HC1.out); rintro e w' ⟨rfl, ⟨nd, rfl⟩⟩))
                        go_roundg k2
                        case measure => have := HK1.out; have := HK2.out; omega
                        case rel => exact ⟨(10), (wrap64 (x12_2 + 1)), (by first | rfl | (simp; done) | (simp [*]; done)), (by first | rfl | (simp; done) | (simp [*]; done)), H', ⟨by have := HK1.out; have := HK2.out; omega⟩, ⟨by (with_reducible repeat (first | apply Kd.V_alloc | apply Kd.V_drewN | apply Kd.V_drew)); exact HO_6.out⟩, ⟨by (with_reducible repeat (first | apply Kd.R_alloc | apply Kd.R_drewN | apply Kd.R_drew)); exact HO_199000.out⟩, ⟨by (with_reducible repeat (first | apply Kd.R_alloc | apply Kd.R_drewN | apply Kd.R_drew)); exact HO_199001.out⟩, ⟨by (with_reducible repeat (first | apply Kd.S_alloc | apply Kd.S_drewN | apply Kd.S_drew)); exact HO_199002.out⟩, ⟨by (with_reducible repeat (first | refine blk_drewN ?_ _ | refine blk_drew ?_ | refine blk_alloc ?_ _)); exact BK198.out⟩, ⟨by repeat (first | (with_reducible first | exact HB.out | apply below_alloc | apply pw_below_drewN | apply below_drew1 | refine below_set ?_ GE198.out) | exact HB.out)⟩⟩
                    · replace c34 := Bool.eq_false_iff.mpr c34
                      subst c34
                      have H1 : (keyholelaw02_AuthChecks.l2 k2 l1 t199 10 (wrap64 (x12_2 + 1))) = some r := by rw [if_neg (show ¬ (false = true) by decide)] at H; exact H
                      clear H
                      have H := H1
                      clear H1
                      have H' := Aside0.mk H
                      clear H
                      have p210 : 0 ≤ (x12_2 : Int) := of_decide_eq_true (by first | (with_reducible assumption) | assumption)
                      have q210 : x12_2 < (l1.length : Int) := of_decide_eq_true (by first | (with_reducible assumption) | assumption)
                      obtain ⟨ad210, A210_1, c210_1, e210, hx210_0, hx210_1, hl210_1, hi210_1⟩ := at_T36 HR1.out x12_2 p210 q210
                      cases e210
                      replace hx210_0 := (HB.out.cell (World.block_lt_of_cell? w _ hx210_0)).trans hx210_0
                      replace hx210_1 := (HB.out.cell (World.block_lt_of_cell? w _ hx210_1)).trans hx210_1
                      have HR210_1 := Aside0.mk hi210_1
                      have HC210_1 := Aside0.mk hl210_1
                      clear hi210_1 hl210_1
                      replace p210 := eq_true p210
                      replace q210 := eq_true q210
                      go_wp2_with (first | (go_at_call 11; (with_reducible refine (keyholeref01_Name.calls k2 ((rd_T36 l1 x12_2).f0) false _ A33.out).mono ?_); rintro e w' ⟨rfl, ⟨nd, rfl⟩⟩))
                      go_roundg k2
                      case measure => have := HK1.out; have := HK2.out; omega
                      case rel => exact ⟨(10), (wrap64 (x12_2 + 1)), (by first | rfl | (simp; done) | (simp [*]; done)), (by first | rfl | (simp; done) | (simp [*]; done)), H', ⟨by have := HK1.out; have := HK2.out; omega⟩, ⟨by (with_reducible repeat (first | apply Kd.V_alloc | apply Kd.V_drewN | apply Kd.V_drew)); exact HO_6.out⟩, ⟨by (with_reducible repeat (first | apply Kd.R_alloc | apply Kd.R_drewN | apply Kd.R_drew)); exact HO_199000.out⟩, ⟨by (with_reducible repeat (first | apply Kd.R_alloc | apply Kd.R_drewN | apply Kd.R_drew)); exact HO_199001.out⟩, ⟨by (with_reducible repeat (first | apply Kd.S_alloc | apply Kd.S_drewN | apply Kd.S_drew)); exact HO_199002.out⟩, ⟨by (with_reducible repeat (first | refine blk_drewN ?_ _ | refine blk_drew ?_ | refine blk_alloc ?_ _)); exact BK198.out⟩, ⟨by repeat (first | (with_reducible first | exact HB.out | apply below_alloc | apply pw_below_drewN | apply below_drew1 | refine below_set ?_ GE198.out) | exact HB.out)⟩⟩
                  · rw [if_neg c32] at H
                    exact absurd H (by simp)
              · rw [if_neg c30] at H
                have c30b0 : decide (x12_2 < (l1.length : Int)) = false := decide_eq_false c30
                clear c30
                replace H := Option.bind_eq_some_iff.mp H
                obtain ⟨t208, A370, H⟩ := H
                replace H : (if t208 = x8_2 then ((keyholelaw02_lives.f k2).bind fun t209 => (some t209)) else (none)) = some r := H
                have A37 := Aside0.mk A370
                clear A370
                by_cases c38 : t208 = x8_2
                · rw [if_pos c38] at H
                  have c38b0 : (t208 == x8_2) = true := beq_iff_eq.mpr c38
                  have c38b1 : (t208 != x8_2) = false := bne_eq_false_iff_eq.mpr c38
                  clear c38
                  replace H := Option.bind_eq_some_iff.mp H
                  obtain ⟨t209, A390, H⟩ := H
                  replace H : (some t209) = some r := H
                  have A39 := Aside0.mk A390
                  clear A390
                  obtain rfl := Option.some.inj H
                  obtain ⟨Ao40, co40, eo40⟩ := Kd.V_slice HO_6.out
                  subst eo40
                  go_wp2_with (first | ((with_reducible refine gate_callee (f := 13) rfl ?_); refine goesL_ (some 105) rfl rfl Try.func13 (by kernel_rfl) rfl #[.pointer Ao40, .slice A1 l1.length c1] rfl (by (try simp only [List.map_toArray, List.map_cons, List.map_nil]); first | done | rfl | (simp only [List.length_drop, List.length_take]; rfl)) ?_; (with_reducible refine (auth_Check.calls k2 _ t199 _ _ l1 t208 _ ?side1 ?side2 ?side3 A37.out).mono ?_); (case side1 => repeat (first | exact (Kd.V_reads' HO_6.out).2.2 | (with_reducible refine Kd.C_alloc ?_ _) | (with_reducible refine Kd.C_drewN ?_ _) | (with_reducible refine Kd.C_drew ?_))); (case side2 => repeat (first | exact (Kd.C_below HR1.out HB.out) | (with_reducible refine Kd.C_alloc ?_ _) | (with_reducible refine Kd.C_drewN ?_ _) | (with_reducible refine Kd.C_drew ?_))); (case side3 => exact HC1.out); rintro e w41 ⟨rfl, hb⟩; refine ⟨_, rfl, ?_⟩; have n0_ := Aside0.mk (Kd.V_below (by (with_reducible repeat (first | apply Kd.V_alloc | apply Kd.V_drewN | apply Kd.V_drew)); exact HO_6.out) hb); have n1_ := Aside0.mk (Kd.R_below (by (with_reducible repeat (first | apply Kd.R_alloc | apply Kd.R_drewN | apply Kd.R_drew)); exact HO_199000.out) hb); have n2_ := Aside0.mk (Kd.R_below (by (with_reducible repeat (first | apply Kd.R_alloc | apply Kd.R_drewN | apply Kd.R_drew)); exact HO_199001.out) hb); have n3_ := Aside0.mk (Kd.S_below (by (with_reducible repeat (first | apply Kd.S_alloc | apply Kd.S_drewN | apply Kd.S_drew)); exact HO_199002.out) hb); have n4_ := Aside0.mk (blk_below (g := gb198) (o := .cells #[.slice Ao9 t189.length co9, .slice Ao11 t192.length co11, .slice Ao12 t195.length co12] 28 (0, 0)) (by (with_reducible repeat (first | refine blk_drewN ?_ _ | refine blk_drew ?_ | refine blk_alloc ?_ _)); exact BK198.out) hb); have n5_ := Aside0.mk (below_step (by repeat (first | (with_reducible first | exact HB.out | apply below_alloc | apply pw_below_drewN | apply below_drew1 | refine below_set ?_ GE198.out) | exact HB.out)) hb); clear HO_6; clear HO_199000; clear HO_199001; clear HO_199002; clear BK198; clear HB; have HO_6 := n0_; have HO_199000 := n1_; have HO_199001 := n2_; have HO_199002 := n3_; have BK198 := n4_; have HB := n5_; clear n0_ n1_ n2_ n3_ n4_ n5_; (try clear hb); (try clear hb2); (try clear hk); (try clear hi)) | (go_at_call 8; (with_reducible refine (keyholelaw02_lives.calls k2  t209 _ A39.out).mono ?_); rintro e w42 ⟨rfl, hb⟩; have n0_ := Aside0.mk (Kd.V_below (by (with_reducible repeat (first | apply Kd.V_alloc | apply Kd.V_drewN | apply Kd.V_drew)); exact HO_6.out) hb); have n1_ := Aside0.mk (Kd.R_below (by (with_reducible repeat (first | apply Kd.R_alloc | apply Kd.R_drewN | apply Kd.R_drew)); exact HO_199000.out) hb); have n2_ := Aside0.mk (Kd.R_below (by (with_reducible repeat (first | apply Kd.R_alloc | apply Kd.R_drewN | apply Kd.R_drew)); exact HO_199001.out) hb); have n3_ := Aside0.mk (Kd.S_below (by (with_reducible repeat (first | apply Kd.S_alloc | apply Kd.S_drewN | apply Kd.S_drew)); exact HO_199002.out) hb); have n4_ := Aside0.mk (blk_below (g := gb198) (o := .cells #[.slice Ao9 t189.length co9, .slice Ao11 t192.length co11, .slice Ao12 t195.length co12] 28 (0, 0)) (by (with_reducible repeat (first | refine blk_drewN ?_ _ | refine blk_drew ?_ | refine blk_alloc ?_ _)); exact BK198.out) hb); have n5_ := Aside0.mk (below_step (by repeat (first | (with_reducible first | exact HB.out | apply below_alloc | apply pw_below_drewN | apply below_drew1 | refine below_set ?_ GE198.out) | exact HB.out)) hb); clear HO_6; clear HO_199000; clear HO_199001; clear HO_199002; clear BK198; clear HB; have HO_6 := n0_; have HO_199000 := n1_; have HO_199001 := n2_; have HO_199002 := n3_; have BK198 := n4_; have HB := n5_; clear n0_ n1_ n2_ n3_ n4_ n5_; (try clear hb); (try clear hb2); (try clear hk); (try clear hi)))
                  go_ret
                  exact ⟨by first | rfl | (simp [errW_none, errW_some] <;> rfl) | (simp [*, errW_none, errW_some] <;> rfl), by repeat (first | (with_reducible first | exact HB.out | apply below_alloc | apply pw_below_drewN | apply below_drew1 | refine below_set ?_ GE198.out) | exact HB.out)⟩
                · rw [if_neg c38] at H
                  exact absurd H (by simp)
  · replace c4 := Bool.eq_false_iff.mpr c4
    subst c4
    have H1 : ((keyholelaw02_lives.f k).bind fun t188 => (some t188)) = some r := by rw [if_neg (show ¬ (false = true) by decide)] at H; exact H
    clear H
    have H := H1
    clear H1
    replace H := Option.bind_eq_some_iff.mp H
    obtain ⟨t188, A430, H⟩ := H
    replace H : (some t188) = some r := H
    have A43 := Aside0.mk A430
    clear A430
    obtain rfl := Option.some.inj H
    go_enter Try.func3, Try.ntmps3
    go_wp2_with (first | ((with_reducible refine gate_callee (f := 7) rfl ?_); refine goesL_ (some 14) rfl rfl Try.func7 (by kernel_rfl) rfl #[.slice A1 l1.length c1] rfl (by (try simp only [List.map_toArray, List.map_cons, List.map_nil]); first | done | rfl | (simp only [List.length_drop, List.length_take]; rfl)) ?_; (with_reducible refine (keyholelaw02_light.calls k _ _ l1 false _ ?side1 ?side2 A3.out).mono ?_); (case side1 => repeat (first | exact HR1.out | (with_reducible refine Kd.C_alloc ?_ _) | (with_reducible refine Kd.C_drewN ?_ _) | (with_reducible refine Kd.C_drew ?_))); (case side2 => exact HC1.out); rintro e w' ⟨rfl, ⟨nd, rfl⟩⟩; refine ⟨_, rfl, ?_⟩) | ((with_reducible refine gate_callee (f := 8) rfl ?_); refine goesL_ (some 16) rfl rfl Try.func8 (by kernel_rfl) rfl #[] rfl (by (try simp only [List.map_toArray, List.map_cons, List.map_nil]); first | done | rfl | (simp only [List.length_drop, List.length_take]; rfl)) ?_; (with_reducible refine (keyholelaw02_lives.calls k  t188 _ A43.out).mono ?_); rintro e w44 ⟨rfl, hb⟩; refine ⟨_, rfl, ?_⟩; have n0_ := Aside0.mk (below_step (by repeat (first | (with_reducible first | exact HB.out | apply below_alloc | apply pw_below_drewN | apply below_drew1) | exact HB.out)) hb); clear HB; have HB := n0_; clear n0_; (try clear hb); (try clear hb2); (try clear hk); (try clear hi)))
    go_ret
    exact ⟨by first | rfl | (simp [errW_none, errW_some] <;> rfl) | (simp [*, errW_none, errW_some] <;> rfl), by repeat (first | (with_reducible first | exact HB.out | apply below_alloc | apply pw_below_drewN | apply below_drew1) | exact HB.out)⟩

end Go.Proofs.Yteeodnnabogheaa.X
