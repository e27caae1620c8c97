-- Written for this claim by a program of the session, out of the translation's print. Lean checks it.
import Derived.Test.YteeodnnabogheaaX0
import Derived.Test.YteeodnnabogheaaX1
namespace Go.Proofs.Yteeodnnabogheaa.X
open Go.RowKit Go.Proofs.YteeodnnabogheaaY Go.Proofs.YteeodnnabogheaaW.PrintWords Go.Proofs.YteeodnnabogheaaW.PrintLast Go.Proofs.YteeodnnabogheaaW.PrintMore
attribute [local go_sem] max2_int min2_int max_two min_two max_three min_three max_four min_four   -- for this text's walks alone
set_option linter.unusedVariables false
set_option linter.unusedSimpArgs false

/-! ### level_named: function 21 -/
mutual
def level_named.j0 : Nat → List ByteArray → Bool → Option (Bool)
  | 0, _, _ => none
  | k + 1, x0, x14 => if x14 = true then (some false) else (level_named.l0 k x0 x0 (x0.length : Int) 0)
def level_named.l0 : Nat → List ByteArray → List ByteArray → Int → Int → Option (Bool)
  | 0, _, _, _, _ => none
  | k + 1, x0, x15, x16, x17 => if x17 < x16 then (if 0 ≤ x17 then (if x17 < (x15.length : Int) then ((level_Name.f k (rdOf ByteArray.empty x15 x17)).bind fun t137 => (if t137 = true then (if x17 ≤ (x0.length : Int) then (level_named.l1 k x0 (rdOf ByteArray.empty x15 x17) x15 x16 x17 (x0.take (x17 : Int).toNat) ((x0.take (x17 : Int).toNat).length : Int) 0) else (none)) else (some false))) else (none)) else (none)) else (some true)
def level_named.l1 : Nat → List ByteArray → ByteArray → List ByteArray → Int → Int → List ByteArray → Int → Int → Option (Bool)
  | 0, _, _, _, _, _, _, _, _ => none
  | k + 1, x0, x4, x15, x16, x17, x27, x28, x29 => if x29 < x28 then (if 0 ≤ x29 then (if x29 < (x27.length : Int) then (if x4.toList = (rdOf ByteArray.empty x27 x29).toList then (some false) else (level_named.l1 k x0 x4 x15 x16 x17 x27 x28 (wrap64 (x29 + 1)))) else (none)) else (none)) else (level_named.l0 k x0 x15 x16 (wrap64 (x17 + 1)))
end
def level_named.f (k : Nat) (l0 : List ByteArray) : Option (Bool) := if (l0.length : Int) < 1 then (level_named.j0 k l0 true) else (level_named.j0 k l0 (decide ((l0.length : Int) > 8)))
theorem level_named.mono_l : ∀ k, (∀ y0 y1, LeO (level_named.j0 k y0 y1) (level_named.j0 (k + 1) y0 y1)) ∧ (∀ y0 y1 y2 y3, LeO (level_named.l0 k y0 y1 y2 y3) (level_named.l0 (k + 1) y0 y1 y2 y3)) ∧ (∀ y0 y1 y2 y3 y4 y5 y6 y7, LeO (level_named.l1 k y0 y1 y2 y3 y4 y5 y6 y7) (level_named.l1 (k + 1) y0 y1 y2 y3 y4 y5 y6 y7))
  | 0 => ⟨fun _ _ r h => by simp [level_named.j0] at h, fun _ _ _ _ r h => by simp [level_named.l0] at h, fun _ _ _ _ _ _ _ _ r h => by simp [level_named.l1] at h⟩
  | k + 1 => by
    obtain ⟨ih0, ih1, ih2⟩ := level_named.mono_l k
    refine ⟨?_, ?_, ?_⟩
    · intro y0 y1
      unfold level_named.j0
      repeat' first
      | (with_reducible exact ih0 _ _)
      | (with_reducible exact ih1 _ _ _ _)
      | (with_reducible exact ih2 _ _ _ _ _ _ _ _)
      | (with_reducible exact level_Name.mono _ _)
      | (with_reducible exact LeO.refl _)
      | (with_reducible exact LeO.none _)
      | (with_reducible refine LeO.ite ?_ ?_)
      | (with_reducible refine LeO.bind ?_ (fun _ => ?_))
      | exact ih0 _ _
      | exact ih1 _ _ _ _
      | exact ih2 _ _ _ _ _ _ _ _
      | exact level_Name.mono _ _
      | exact LeO.none _
      | refine LeO.ite ?_ ?_
      | refine LeO.bind ?_ (fun _ => ?_)
    · intro y0 y1 y2 y3
      unfold level_named.l0
      repeat' first
      | (with_reducible exact ih0 _ _)
      | (with_reducible exact ih1 _ _ _ _)
      | (with_reducible exact ih2 _ _ _ _ _ _ _ _)
      | (with_reducible exact level_Name.mono _ _)
      | (with_reducible exact LeO.refl _)
      | (with_reducible exact LeO.none _)
      | (with_reducible refine LeO.ite ?_ ?_)
      | (with_reducible refine LeO.bind ?_ (fun _ => ?_))
      | exact ih0 _ _
      | exact ih1 _ _ _ _
      | exact ih2 _ _ _ _ _ _ _ _
      | exact level_Name.mono _ _
      | exact LeO.none _
      | refine LeO.ite ?_ ?_
      | refine LeO.bind ?_ (fun _ => ?_)
    · intro y0 y1 y2 y3 y4 y5 y6 y7
      unfold level_named.l1
      repeat' first
      | (with_reducible exact ih0 _ _)
      | (with_reducible exact ih1 _ _ _ _)
      | (with_reducible exact ih2 _ _ _ _ _ _ _ _)
      | (with_reducible exact level_Name.mono _ _)
      | (with_reducible exact LeO.refl _)
      | (with_reducible exact LeO.none _)
      | (with_reducible refine LeO.ite ?_ ?_)
      | (with_reducible refine LeO.bind ?_ (fun _ => ?_))
      | exact ih0 _ _
      | exact ih1 _ _ _ _
      | exact ih2 _ _ _ _ _ _ _ _
      | exact level_Name.mono _ _
      | exact LeO.none _
      | refine LeO.ite ?_ ?_
      | refine LeO.bind ?_ (fun _ => ?_)
theorem level_named.mono : ∀ a0 k, LeO (level_named.f k a0) (level_named.f (k + 1) a0) := by
  intro a0 k
  obtain ⟨ih0, ih1, ih2⟩ := level_named.mono_l k
  unfold level_named.f
  repeat' first
      | (with_reducible exact ih0 _ _)
      | (with_reducible exact ih1 _ _ _ _)
      | (with_reducible exact ih2 _ _ _ _ _ _ _ _)
      | (with_reducible exact level_Name.mono _ _)
      | (with_reducible exact LeO.refl _)
      | (with_reducible exact LeO.none _)
      | (with_reducible refine LeO.ite ?_ ?_)
      | (with_reducible refine LeO.bind ?_ (fun _ => ?_))
      | exact ih0 _ _
      | exact ih1 _ _ _ _
      | exact ih2 _ _ _ _ _ _ _ _
      | exact level_Name.mono _ _
      | exact LeO.none _
      | refine LeO.ite ?_ ?_
      | refine LeO.bind ?_ (fun _ => ?_)
set_option maxHeartbeats 8000000 in
set_option maxRecDepth 100000 in
theorem level_named.calls (k : Nat) (A0 : Option Addr) (c0 : Nat) (l0 : List ByteArray) (r : Bool) (w : World) (hr0 : Kd.C Kd.string w A0 l0.length l0) (hc0 : l0.length ≤ c0) (h : level_named.f k l0 = some r) :
    Calls Try.prog 21 #[.slice A0 l0.length c0] w fun e w' => e = .returned (.bool r) ∧ Drawn0 w w' := by
  have HR0 := Aside0.mk hr0
  have HC0 := Aside0.mk hc0
  clear hr0 hc0
  have H : (if (l0.length : Int) < 1 then (level_named.j0 k l0 true) else (level_named.j0 k l0 (decide ((l0.length : Int) > 8)))) = some r := h
  clear h
  have HC2 := Aside0.mk H
  clear H
  go_enter Try.func21, Try.ntmps21
  go_upto_region 1 with (fail)
  go_cut [14] (fun v14 wc => ∃ (kq : Nat) (x14_1 : Bool), v14 = .bool x14_1 ∧ Aside0 (level_named.j0 kq l0 x14_1 = some r) ∧ Aside0 (kq ≤ k) ∧ Drawn0 w wc)
  case first =>
    have H := HC2.out
    clear HC2
    by_cases c3 : (l0.length : Int) < 1
    case neg =>
      rw [if_neg c3] at H
      have c3b0 : decide ((l0.length : Int) < 1) = false := decide_eq_false c3
      have c3b1 : decide (l0.length < 1) = false := decide_eq_false (by omega)
      clear c3
      (first | rw [c3b0] | (simp only [i64_w, i32_w]; rw [c3b0]) | skip)
      have H' := Aside0.mk H
      clear H
      go_wp2
      go_meet
      case rel => exact ⟨_, (decide ((l0.length : Int) > 8)), (by first | rfl | (simp; done) | (simp [*]; done)), H', ⟨by first | omega | exact Nat.le_refl _⟩, by repeat (first | exact Drawn0.refl _ | apply Drawn0.step)⟩
    rw [if_pos c3] at H
    have c3b0 : decide ((l0.length : Int) < 1) = true := decide_eq_true c3
    have c3b1 : decide (l0.length < 1) = true := decide_eq_true (by omega)
    clear c3
    (first | rw [c3b0] | (simp only [i64_w, i32_w]; rw [c3b0]) | skip)
    have H' := Aside0.mk H
    clear H
    go_wp2
    go_meet
    case rel => exact ⟨_, (true), (by first | rfl | (simp; done) | (simp [*]; done)), H', ⟨by first | omega | exact Nat.le_refl _⟩, by repeat (first | exact Drawn0.refl _ | apply Drawn0.step)⟩
  clear HC2
  try clear p2
  obtain ⟨kq, x14_1, rfl, HA, HJ1, ⟨mc1, rfl⟩⟩ := hcut
  rcases kq with _ | kj1
  · exact absurd HA.out (by simp [level_named.j0])
  have H := HA.out
  clear HA
  simp only [level_named.j0] at H
  by_cases c4 : x14_1 = true
  · subst c4
    have H1 : (some false) = some r := by rw [if_pos rfl] at H; exact H
    clear H
    have H := H1
    clear H1
    obtain rfl := Option.some.inj H
    go_wp2
    go_ret
    exact ⟨by first | rfl | (simp; done) | (simp [*]; done), by repeat (first | exact Drawn0.refl _ | apply Drawn0.step)⟩
  replace c4 := Bool.eq_false_iff.mpr c4
  subst c4
  have H1 : (level_named.l0 kj1 l0 l0 (l0.length : Int) 0) = some r := by rw [if_neg (show ¬ (false = true) by decide)] at H; exact H
  clear H
  have H := H1
  clear H1
  have H' := Aside0.mk H
  clear H
  go_wp2
  go_loopg [17] kj1 (fun kq v17 w' => ∃ (x17_2 : Int), v17 = .int .i64 x17_2 ∧ Aside0 (level_named.l0 kq l0 l0 (l0.length : Int) x17_2 = some r) ∧ Aside0 (kq ≤ kj1) ∧ Drawn0 w w')
  case atStart => exact ⟨(0), (by first | rfl | (simp; done) | (simp [*]; done)), H', ⟨Nat.le_refl _⟩, by repeat (first | exact Drawn0.refl _ | apply Drawn0.step)⟩
  clear H'
  try clear p2
  try clear p2
  obtain ⟨x17_2, rfl, HA, HK2, ⟨m2, rfl⟩⟩ := hrel
  rcases gk with _ | k2
  · exact absurd HA.out (by simp [level_named.l0])
  have H := HA.out
  clear HA
  simp only [level_named.l0] at H
  by_cases c5 : x17_2 < (l0.length : Int)
  case neg =>
    rw [if_neg c5] at H
    have c5b0 : decide (x17_2 < (l0.length : Int)) = false := decide_eq_false c5
    clear c5
    obtain rfl := Option.some.inj H
    go_wp2
    go_ret
    exact ⟨by first | rfl | (simp; done) | (simp [*]; done), by repeat (first | exact Drawn0.refl _ | apply Drawn0.step)⟩

  rw [if_pos c5] at H
  have c5b0 : decide (x17_2 < (l0.length : Int)) = true := decide_eq_true c5
  clear c5
  by_cases c6 : 0 ≤ x17_2
  case neg =>
    rw [if_neg c6] at H
    exact absurd H (by simp)
  rw [if_pos c6] at H
  have c6b0 : decide (0 ≤ x17_2) = true := decide_eq_true c6
  clear c6
  by_cases c7 : x17_2 < (l0.length : Int)
  case neg =>
    rw [if_neg c7] at H
    exact absurd H (by simp)
  rw [if_pos c7] at H
  have c7b0 : decide (x17_2 < (l0.length : Int)) = true := decide_eq_true c7
  clear c7
  replace H := Option.bind_eq_some_iff.mp H
  obtain ⟨t137, A80, H⟩ := H
  replace H : (if t137 = true then (if x17_2 ≤ (l0.length : Int) then (level_named.l1 k2 l0 (rdOf ByteArray.empty l0 x17_2) l0 (l0.length : Int) x17_2 (l0.take (x17_2 : Int).toNat) ((l0.take (x17_2 : Int).toNat).length : Int) 0) else (none)) else (some false)) = some r := H
  have A8 := Aside0.mk A80
  clear A80
  by_cases c9 : t137 = true
  case neg =>
    replace c9 := Bool.eq_false_iff.mpr c9
    subst c9
    have H1 : (some false) = some r := by rw [if_neg (show ¬ (false = true) by decide)] at H; exact H
    clear H
    have H := H1
    clear H1
    obtain rfl := Option.some.inj H
    have p136 : 0 ≤ (x17_2 : Int) := of_decide_eq_true (by first | (with_reducible assumption) | assumption)
    have q136 : x17_2 < (l0.length : Int) := of_decide_eq_true (by first | (with_reducible assumption) | assumption)
    obtain ⟨ad136, e136, hx136_0⟩ := Kd.at_string HR0.out x17_2 p136 q136
    cases e136
    replace p136 := eq_true p136
    replace q136 := eq_true q136
    go_wp2_with (first | ((with_reducible refine gate_callee (f := 26) rfl ?_); refine goesL_ (some 23) rfl rfl Try.func26 (by kernel_rfl) rfl #[.string (rdOf ByteArray.empty l0 x17_2)] rfl (by (try simp only [List.map_toArray, List.map_cons, List.map_nil]); first | done | rfl | (simp only [List.length_drop, List.length_take]; rfl)) ?_; (with_reducible refine (level_Name.calls k2 (rdOf ByteArray.empty l0 x17_2) false _ A8.out).mono ?_); rintro e w' ⟨rfl, ⟨nd, rfl⟩⟩; refine ⟨_, rfl, ?_⟩))
    go_ret
    exact ⟨by first | rfl | (simp; done) | (simp [*]; done), by repeat (first | exact Drawn0.refl _ | apply Drawn0.step)⟩
  subst c9
  have H1 : (if x17_2 ≤ (l0.length : Int) then (level_named.l1 k2 l0 (rdOf ByteArray.empty l0 x17_2) l0 (l0.length : Int) x17_2 (l0.take (x17_2 : Int).toNat) ((l0.take (x17_2 : Int).toNat).length : Int) 0) else (none)) = some r := by rw [if_pos rfl] at H; exact H
  clear H
  have H := H1
  clear H1
  have c10b0 := eq_true (of_decide_eq_true (by first | (with_reducible assumption) | assumption) : 0 ≤ x17_2)
  by_cases c11 : x17_2 ≤ (l0.length : Int)
  case neg =>
    rw [if_neg c11] at H
    exact absurd H (by simp)
  rw [if_pos c11] at H
  have c11b0 := eq_true c11
  have c11b1 : decide (x17_2 ≤ (l0.length : Int)) = true := decide_eq_true c11
  clear c11
  have H' := Aside0.mk H
  clear H
  have p136 : 0 ≤ (x17_2 : Int) := of_decide_eq_true (by first | (with_reducible assumption) | assumption)
  have q136 : x17_2 < (l0.length : Int) := of_decide_eq_true (by first | (with_reducible assumption) | assumption)
  obtain ⟨ad136, e136, hx136_0⟩ := Kd.at_string HR0.out x17_2 p136 q136
  cases e136
  replace p136 := eq_true p136
  replace q136 := eq_true q136
  go_wp2_with (first | ((with_reducible refine gate_callee (f := 26) rfl ?_); refine goesL_ (some 23) rfl rfl Try.func26 (by kernel_rfl) rfl #[.string (rdOf ByteArray.empty l0 x17_2)] rfl (by (try simp only [List.map_toArray, List.map_cons, List.map_nil]); first | done | rfl | (simp only [List.length_drop, List.length_take]; rfl)) ?_; (with_reducible refine (level_Name.calls k2 (rdOf ByteArray.empty l0 x17_2) true _ A8.out).mono ?_); rintro e w' ⟨rfl, ⟨nd, rfl⟩⟩; refine ⟨_, rfl, ?_⟩; obtain ⟨i012, hi012, _, hsz12, _⟩ := info_parts info9; obtain ⟨hcut12, hA12, hC12⟩ := print_take_of (P := Try.prog) Value.string (⟨#[]⟩ : ByteArray) 25 9 .i64 Try.underlying25 hi012 hsz12 (some ad136) c0 l0 x17_2 (of_decide_eq_true (by first | (with_reducible assumption) | assumption)) (of_decide_eq_true (by first | (with_reducible assumption) | assumption)) HC0.out; have HR138 := Aside0.mk (Kd.C_of_reads (h1 := fun _ => rfl) (hA12 _ (Kd.reads_of_C HR0.out))); have HC138 := Aside0.mk hC12; clear hA12 hC12 hi012 hsz12))
  go_loopg [29] k2 (fun kq v29 w' => ∃ (x29_3 : Int), v29 = .int .i64 x29_3 ∧ Aside0 (level_named.l1 kq l0 (rdOf ByteArray.empty l0 x17_2) l0 (l0.length : Int) x17_2 (l0.take (x17_2 : Int).toNat) ((l0.take (x17_2 : Int).toNat).length : Int) x29_3 = some r) ∧ Aside0 (kq ≤ k2) ∧ Drawn0 w w')
  case atStart => exact ⟨(0), (by first | rfl | (simp; done) | (simp [*]; done)), H', ⟨Nat.le_refl _⟩, by repeat (first | exact Drawn0.refl _ | apply Drawn0.step)⟩
  clear H'
  try clear p1
  try clear q1
  try clear hx1
  try clear p2
  try clear hx136_0
  try clear p136
  try clear p2
  try clear q136
  obtain ⟨x29_3, rfl, HA, HK3, ⟨m3, rfl⟩⟩ := hrel
  rcases gk with _ | k3
  · exact absurd HA.out (by simp [level_named.l1])
  have H := HA.out
  clear HA
  simp only [level_named.l1] at H
  by_cases c13 : x29_3 < ((l0.take (x17_2 : Int).toNat).length : Int)
  case neg =>
    rw [if_neg c13] at H
    have c13b0 : decide (x29_3 < ((l0.take (x17_2 : Int).toNat).length : Int)) = false := decide_eq_false c13
    (try (have c13b1 : decide (x29_3 < max x17_2 0) = false := decide_eq_false (by have h_ := c13; have h2_ : x17_2 ≤ (l0.length : Int) := of_decide_eq_true (by assumption); simp only [List.length_take] at h_; omega)))
    (try (have c13b2 : (x29_3 < max x17_2 0) = False := eq_false (by have h_ := c13; have h2_ : x17_2 ≤ (l0.length : Int) := of_decide_eq_true (by assumption); simp only [List.length_take] at h_; omega)))
    clear c13
    have H' := Aside0.mk H
    clear H
    go_wp2
    go_roundg k3
    case measure => have := HJ1.out; have := HK2.out; have := HK3.out; omega
    case rel => exact ⟨(wrap64 (x17_2 + 1)), (by first | rfl | (simp; done) | (simp [*]; done)), H', ⟨by have := HJ1.out; have := HK2.out; have := HK3.out; omega⟩, by repeat (first | exact Drawn0.refl _ | apply Drawn0.step)⟩
  rw [if_pos c13] at H
  have c13b0 : decide (x29_3 < ((l0.take (x17_2 : Int).toNat).length : Int)) = true := decide_eq_true c13
  (try (have c13b1 : decide (x29_3 < max x17_2 0) = true := decide_eq_true (by have h_ := c13; have h2_ : x17_2 ≤ (l0.length : Int) := of_decide_eq_true (by assumption); simp only [List.length_take] at h_; omega)))
  (try (have c13b2 : (x29_3 < max x17_2 0) = True := eq_true (by have h_ := c13; have h2_ : x17_2 ≤ (l0.length : Int) := of_decide_eq_true (by assumption); simp only [List.length_take] at h_; omega)))
  clear c13
  by_cases c14 : 0 ≤ x29_3
  case neg =>
    rw [if_neg c14] at H
    exact absurd H (by simp)
  rw [if_pos c14] at H
  have c14b0 : decide (0 ≤ x29_3) = true := decide_eq_true c14
  clear c14
  by_cases c15 : x29_3 < ((l0.take (x17_2 : Int).toNat).length : Int)
  case neg =>
    rw [if_neg c15] at H
    exact absurd H (by simp)
  rw [if_pos c15] at H
  have c15b0 : decide (x29_3 < ((l0.take (x17_2 : Int).toNat).length : Int)) = true := decide_eq_true c15
  (try (have c15b1 : decide (x29_3 < max x17_2 0) = true := decide_eq_true (by have h_ := c15; have h2_ : x17_2 ≤ (l0.length : Int) := of_decide_eq_true (by assumption); simp only [List.length_take] at h_; omega)))
  (try (have c15b2 : (x29_3 < max x17_2 0) = True := eq_true (by have h_ := c15; have h2_ : x17_2 ≤ (l0.length : Int) := of_decide_eq_true (by assumption); simp only [List.length_take] at h_; omega)))
  clear c15
  by_cases c16 : (rdOf ByteArray.empty l0 x17_2).toList = (rdOf ByteArray.empty (l0.take (x17_2 : Int).toNat) x29_3).toList
  · rw [if_pos c16] at H
    have c16b0 : ((rdOf ByteArray.empty l0 x17_2).toList == (rdOf ByteArray.empty (l0.take (x17_2 : Int).toNat) x29_3).toList) = true := beq_iff_eq.mpr c16
    have c16b1 : ((rdOf ByteArray.empty l0 x17_2).toList != (rdOf ByteArray.empty (l0.take (x17_2 : Int).toNat) x29_3).toList) = false := bne_eq_false_iff_eq.mpr c16
    clear c16
    obtain rfl := Option.some.inj H
    have p139 : 0 ≤ (x29_3 : Int) := of_decide_eq_true (by first | (with_reducible assumption) | assumption)
    have q139 : x29_3 < ((l0.take (x17_2 : Int).toNat).length : Int) := of_decide_eq_true (by first | (with_reducible assumption) | assumption)
    obtain ⟨ad139, e139, hx139_0⟩ := Kd.at_string HR138.out x29_3 p139 q139
    obtain rfl : ad136 = ad139 := (by injection e139)
    replace p139 := eq_true p139
    replace q139 := eq_true q139
    go_wp2
    go_ret
    exact ⟨by first | rfl | (simp; done) | (simp [*]; done), by repeat (first | exact Drawn0.refl _ | apply Drawn0.step)⟩
  rw [if_neg c16] at H
  have c16b0 : ((rdOf ByteArray.empty l0 x17_2).toList == (rdOf ByteArray.empty (l0.take (x17_2 : Int).toNat) x29_3).toList) = false := beq_eq_false_iff_ne.mpr c16
  have c16b1 : ((rdOf ByteArray.empty l0 x17_2).toList != (rdOf ByteArray.empty (l0.take (x17_2 : Int).toNat) x29_3).toList) = true := bne_iff_ne.mpr c16
  have H' := Aside0.mk H
  clear H
  have p139 : 0 ≤ (x29_3 : Int) := of_decide_eq_true (by first | (with_reducible assumption) | assumption)
  have q139 : x29_3 < ((l0.take (x17_2 : Int).toNat).length : Int) := of_decide_eq_true (by first | (with_reducible assumption) | assumption)
  obtain ⟨ad139, e139, hx139_0⟩ := Kd.at_string HR138.out x29_3 p139 q139
  obtain rfl : ad136 = ad139 := (by injection e139)
  replace p139 := eq_true p139
  replace q139 := eq_true q139
  go_wp2
  go_roundg k3
  case measure => have := HJ1.out; have := HK2.out; have := HK3.out; omega
  case rel => exact ⟨(wrap64 (x29_3 + 1)), (by first | rfl | (simp; done) | (simp [*]; done)), H', ⟨by have := HJ1.out; have := HK2.out; have := HK3.out; omega⟩, by repeat (first | exact Drawn0.refl _ | apply Drawn0.step)⟩
/-! ### level_laid: function 22 -/
def pairs2 (l : List S52) : List (Int × Int) := l.map fun p => (p.f0, p.f1)
theorem level_laid.boxes (w : World) (T : Nat) (z : Array Value) (W : World) (hW : (w.alloc (.cells z T)).alloc (.cells z T) = W) (hz : z = (bvals zeros64).toArray) :
    Below w.heap.size w W ∧ Box W w.heap.size zeros64 T ∧ Box W (w.heap.size + 1) zeros64 T := by
  subst hz
  subst hW
  have h0 : (w.alloc (.cells (bvals zeros64).toArray T)).heap[w.heap.size]? = some (.cells (bvals zeros64).toArray T (0, 0)) := heap_alloc_new w _
  have s1 : (w.alloc (.cells (bvals zeros64).toArray T)).heap.size = w.heap.size + 1 := by simp
  have h1 := heap_alloc_new (w.alloc (.cells (bvals zeros64).toArray T)) (.cells (bvals zeros64).toArray T)
  rw [s1] at h1
  exact ⟨below_alloc (below_alloc (Below.refl _ _) _) _, blk_alloc h0 _, h1⟩
set_option maxRecDepth 100000 in
set_option maxHeartbeats 2000000 in
theorem level_laid.calls (n : Nat) (hn : n ≤ 8) (A1 : Option Addr) (c1 : Nat) (l1 : List S52) (w : World) (hr1 : Kd.C k52 w A1 l1.length l1) (hc1 : l1.length ≤ c1) :
    Calls Try.prog 22 #[.int .i64 n, .slice A1 l1.length c1] w fun e w' => e = .returned (.tuple #[.agg (bvals (laidI n (pairs2 l1)).1).toArray, .bool (laidI n (pairs2 l1)).2]) ∧ Below w.heap.size w w' := by
  have HR1 := Aside0.mk hr1
  have HC1 := Aside0.mk hc1
  clear hr1 hc1
  have hlen : (pairs2 l1).length = l1.length := by simp [pairs2]
  by_cases h64 : l1.length > 64
  · have hfin : laidI n (pairs2 l1) = (zeros64, false) := by unfold laidI; rw [if_pos (by omega)]
    have HF := Aside0.mk hfin
    have hd : decide ((64 : Int) < (l1.length : Int)) = true := decide_eq_true (by omega)
    clear hfin hlen h64
    go_enter Try.func22, Try.ntmps22
    have hz : bvals_size zeros64 = bvals_size zeros64 := rfl
    go_wp2_with (first | (refine wpList_load_row rfl 57 (.tmp 6) rfl _ rfl 57 (bvals zeros64).toArray (0, 0) _ (level_laid.boxes w 57 _ _ rfl rfl).2.2 Try.underlying57 rfl (by kernel_rfl) ?_) | (refine wpList_store_row rfl 57 (.tmp 4) (.tmp 13) rfl w.heap.size _ rfl rfl 57 (bvals zeros64).toArray (level_laid.boxes w 57 _ _ rfl rfl).2.1 (by kernel_rfl) rfl (bvals_one _) ?_))
    refine bodyPost_ret (results_ct rfl _ _ w.heap.size 57 (bvals zeros64).toArray (0, 0) _ rfl (setRow_heap _ _ _ _ _ _ (level_laid.boxes w 57 _ _ rfl rfl).2.1) Try.underlying57 rfl (by kernel_rfl)) rfl ⟨?_, ?_⟩
    · rw [HF.out]; rfl
    · exact below_setRow (level_laid.boxes w 57 _ _ rfl rfl).1 (Nat.le_refl _) _
  have hd : decide ((64 : Int) < (l1.length : Int)) = false := decide_eq_false (by omega)
  have hle : l1.length ≤ 64 := by omega
  have hfin : laidI n (pairs2 l1) = laidPairs n (pairs2 l1) (diagI n) := by unfold laidI; rw [if_neg (by omega)]
  have HF := Aside0.mk hfin
  clear hfin hlen h64
  go_enter Try.func22, Try.ntmps22
  go_wp2
  generalize hw : (w.alloc _).alloc _ = w1
  obtain ⟨hB, hb1, hb2⟩ := level_laid.boxes w 57 _ w1 hw rfl
  clear hw
  have HB := Aside0.mk (And.intro hB (And.intro hb1 hb2))
  clear hB hb1 hb2
  go_loopg [15] (n + 1) (fun q v w' => ∃ i : Nat, v = .int .i64 i ∧ i ≤ n ∧ q = n + 1 - i ∧ Aside0 (Below w.heap.size w w' ∧ Box w' w.heap.size zeros64 57 ∧ Box w' (w.heap.size + 1) ((List.range i).foldl diagC zeros64) 57))
  case atStart => exact ⟨0, rfl, by omega, rfl, HB⟩
  clear HB
  obtain ⟨i, rfl, hi, rfl, HI⟩ := hrel
  by_cases hlt : i < n
  · have hlen : ((List.range i).foldl diagC zeros64).length = 64 := foldl_len diagC_len i _ zeros64_len
    have hc := HI.out.2.2.cell hlen i i (by omega) (by omega)
    have hfz := blk_frozen HI.out.2.2 (i * 8 + i)
    go_wp2
    go_roundg (n - i)
    case measure => omega
    case rel => exact ⟨i + 1, by go_num, by omega, by omega, ⟨HI.out.1.setCell (by show _ ≤ w.heap.size + 1; omega) _, blk_far HI.out.2.1 (by show w.heap.size ≠ w.heap.size + 1; omega) _, by rw [foldl_range_succ]; exact Box.put HI.out.2.2 (i * 8 + i) true⟩⟩
  obtain rfl : i = n := by omega
  go_wp2
  have HI2 := Aside0.mk (show (diagI i).length = 64 ∧ laidPairs i (pairs2 (l1.drop 0)) (diagI i) = laidI i (pairs2 l1) ∧ Below w.heap.size w wr ∧ Box wr w.heap.size zeros64 57 ∧ Box wr (w.heap.size + 1) (diagI i) 57 from ⟨diagI_len i, HF.out.symm, HI.out⟩)
  clear HI HF
  go_loopg [25] (l1.length + 1) (fun q v w' => ∃ (j : Nat) (t : List Bool), v = .int .i64 j ∧ j ≤ l1.length ∧ q = l1.length + 1 - j ∧ Aside0 (t.length = 64 ∧ laidPairs i (pairs2 (l1.drop j)) t = laidI i (pairs2 l1) ∧ Below w.heap.size w w' ∧ Box w' w.heap.size zeros64 57 ∧ Box w' (w.heap.size + 1) t 57))
  case atStart => exact ⟨0, diagI i, rfl, by omega, rfl, HI2⟩
  clear HI2
  obtain ⟨j, t, rfl, hj, rfl, HI⟩ := hrel
  by_cases hlt2 : j < l1.length
  case neg =>
    obtain rfl : j = l1.length := by omega
    have HL : laidPairs i (pairs2 (l1.drop l1.length)) t = laidI i (pairs2 l1) := HI.out.2.1
    rw [List.drop_length] at HL
    have HLL := Aside0.mk (show (t, true) = laidI i (pairs2 l1) from HL)
    clear HL
    have hs := bvals_size t
    rw [HI.out.1] at hs
    have HS := Aside0.mk hs
    clear hs
    go_wp2_with (first | (refine wpList_load_row rfl 57 (.tmp 6) rfl (w.heap.size + 1) rfl 57 (bvals t).toArray (0, 0) _ HI.out.2.2.2.2 Try.underlying57 rfl (by rw [HS.out]; kernel_rfl) ?_) | (refine wpList_store_row rfl 57 (.tmp 4) (.tmp 57) rfl w.heap.size _ rfl rfl 57 (bvals zeros64).toArray HI.out.2.2.2.1 (by rw [HS.out]; kernel_rfl) (by rw [HS.out]; rfl) (bvals_one _) ?_))
    refine bodyPost_ret (results_ct rfl _ _ w.heap.size 57 (bvals t).toArray (0, 0) _ rfl (setRow_heap _ _ _ _ _ _ HI.out.2.2.2.1) Try.underlying57 rfl (by rw [HS.out]; kernel_rfl)) rfl ⟨?_, ?_⟩
    · rw [← HLL.out]; rfl
    · exact below_setRow HI.out.2.2.1 (Nat.le_refl _) _

  obtain ⟨ad, e, hx0, hx1⟩ := at_T52 HR1.out j (by omega) (by omega)
  cases e
  have hn : pairs2 (l1.drop j) = ((rd_T52 l1 j).f0, (rd_T52 l1 j).f1) :: pairs2 (l1.drop (j + 1)) := by
    unfold pairs2 rd_T52
    rw [List.drop_eq_getElem_cons hlt2, List.map_cons]
    simp [List.getD_eq_getElem?_getD, hlt2]
  generalize rd_T52 l1 j = p at *
  have HL : laidPairs i (pairs2 (l1.drop j)) t = laidI i (pairs2 l1) := HI.out.2.1
  rw [hn] at HL
  unfold laidPairs at HL
  replace hx0 := (HI.out.2.2.1.cell (World.block_lt_of_cell? w _ hx0)).trans hx0
  replace hx1 := (HI.out.2.2.1.cell (World.block_lt_of_cell? w _ hx1)).trans hx1
  simp only [Int.toNat_natCast] at hx0 hx1
  clear hn
  have hs := bvals_size t
  rw [HI.out.1] at hs
  have HS := Aside0.mk hs
  clear hs
  have hfz := blk_frozen HI.out.2.2.2.2
  by_cases h1 : p.f0 < 0
  · rw [if_pos h1] at HL
    have HLL := Aside0.mk HL
    clear HL hfz
    go_wp2_with (first | (refine wpList_load_row rfl 57 (.tmp 6) rfl (w.heap.size + 1) rfl 57 (bvals t).toArray (0, 0) _ (blk_alloc HI.out.2.2.2.2 _) Try.underlying57 rfl (by rw [HS.out]; kernel_rfl) ?_) | (refine wpList_store_row rfl 57 (.tmp 4) (.tmp 49) rfl w.heap.size _ rfl rfl 57 (bvals zeros64).toArray (blk_alloc HI.out.2.2.2.1 _) (by rw [HS.out]; kernel_rfl) (by rw [HS.out]; rfl) (bvals_one _) ?_))
    refine bodyPost_ret (results_ct rfl _ _ w.heap.size 57 (bvals t).toArray (0, 0) _ rfl (setRow_heap _ _ _ _ _ _ (blk_alloc HI.out.2.2.2.1 _)) Try.underlying57 rfl (by rw [HS.out]; kernel_rfl)) rfl ⟨?_, ?_⟩
    · rw [← HLL.out]; rfl
    · exact below_setRow (below_alloc HI.out.2.2.1 _) (Nat.le_refl _) _
  rw [if_neg h1] at HL
  by_cases h2 : p.f0 ≥ (i : Int)
  · rw [if_pos h2] at HL
    have HLL := Aside0.mk HL
    clear HL hfz
    go_wp2_with (first | (refine wpList_load_row rfl 57 (.tmp 6) rfl (w.heap.size + 1) rfl 57 (bvals t).toArray (0, 0) _ (blk_alloc HI.out.2.2.2.2 _) Try.underlying57 rfl (by rw [HS.out]; kernel_rfl) ?_) | (refine wpList_store_row rfl 57 (.tmp 4) (.tmp 49) rfl w.heap.size _ rfl rfl 57 (bvals zeros64).toArray (blk_alloc HI.out.2.2.2.1 _) (by rw [HS.out]; kernel_rfl) (by rw [HS.out]; rfl) (bvals_one _) ?_))
    refine bodyPost_ret (results_ct rfl _ _ w.heap.size 57 (bvals t).toArray (0, 0) _ rfl (setRow_heap _ _ _ _ _ _ (blk_alloc HI.out.2.2.2.1 _)) Try.underlying57 rfl (by rw [HS.out]; kernel_rfl)) rfl ⟨?_, ?_⟩
    · rw [← HLL.out]; rfl
    · exact below_setRow (below_alloc HI.out.2.2.1 _) (Nat.le_refl _) _
  rw [if_neg h2] at HL
  by_cases h3 : p.f1 < 0
  · rw [if_pos h3] at HL
    have HLL := Aside0.mk HL
    clear HL hfz
    go_wp2_with (first | (refine wpList_load_row rfl 57 (.tmp 6) rfl (w.heap.size + 1) rfl 57 (bvals t).toArray (0, 0) _ (blk_alloc HI.out.2.2.2.2 _) Try.underlying57 rfl (by rw [HS.out]; kernel_rfl) ?_) | (refine wpList_store_row rfl 57 (.tmp 4) (.tmp 49) rfl w.heap.size _ rfl rfl 57 (bvals zeros64).toArray (blk_alloc HI.out.2.2.2.1 _) (by rw [HS.out]; kernel_rfl) (by rw [HS.out]; rfl) (bvals_one _) ?_))
    refine bodyPost_ret (results_ct rfl _ _ w.heap.size 57 (bvals t).toArray (0, 0) _ rfl (setRow_heap _ _ _ _ _ _ (blk_alloc HI.out.2.2.2.1 _)) Try.underlying57 rfl (by rw [HS.out]; kernel_rfl)) rfl ⟨?_, ?_⟩
    · rw [← HLL.out]; rfl
    · exact below_setRow (below_alloc HI.out.2.2.1 _) (Nat.le_refl _) _
  rw [if_neg h3] at HL
  by_cases h4 : p.f1 ≥ (i : Int)
  · rw [if_pos h4] at HL
    have HLL := Aside0.mk HL
    clear HL hfz
    go_wp2_with (first | (refine wpList_load_row rfl 57 (.tmp 6) rfl (w.heap.size + 1) rfl 57 (bvals t).toArray (0, 0) _ (blk_alloc HI.out.2.2.2.2 _) Try.underlying57 rfl (by rw [HS.out]; kernel_rfl) ?_) | (refine wpList_store_row rfl 57 (.tmp 4) (.tmp 49) rfl w.heap.size _ rfl rfl 57 (bvals zeros64).toArray (blk_alloc HI.out.2.2.2.1 _) (by rw [HS.out]; kernel_rfl) (by rw [HS.out]; rfl) (bvals_one _) ?_))
    refine bodyPost_ret (results_ct rfl _ _ w.heap.size 57 (bvals t).toArray (0, 0) _ rfl (setRow_heap _ _ _ _ _ _ (blk_alloc HI.out.2.2.2.1 _)) Try.underlying57 rfl (by rw [HS.out]; kernel_rfl)) rfl ⟨?_, ?_⟩
    · rw [← HLL.out]; rfl
    · exact below_setRow (below_alloc HI.out.2.2.1 _) (Nat.le_refl _) _
  rw [if_neg h4] at HL
  have HLL := Aside0.mk HL
  clear HL
  have hb0 : Below wr.heap.size wr (wr.alloc (.cells #[.int .i64 p.f0, .int .i64 p.f1] 52)) := below_alloc (Below.refl _ _) _
  have hc := (Box.cell HI.out.2.2.2.2 HI.out.1 p.f0.toNat p.f1.toNat (by omega) (by omega))
  have hbox := blk_alloc HI.out.2.2.2.2 (.cells #[.int .i64 p.f0, .int .i64 p.f1] 52)
  have hput := Box.put (show Box (wr.alloc (.cells #[.int .i64 p.f0, .int .i64 p.f1] 52)) (w.heap.size + 1) t 57 from hbox) (p.f0.toNat * 8 + p.f1.toNat) true
  have hlt3 : w.heap.size + 1 < wr.heap.size := blk_lt HI.out.2.2.2.2
  have HP := Aside0.mk (And.intro hput (And.intro hlt3 hlt2))
  have hc2 := (Box.cell (show Box (wr.alloc (.cells #[.int .i64 p.f0, .int .i64 p.f1] 52)) (w.heap.size + 1) t 57 from hbox) HI.out.1 p.f0.toNat p.f1.toNat (by omega) (by omega))
  have hfz2 := blk_frozen hbox (p.f0.toNat * 8 + p.f1.toNat)
  have b1 : p.f0 < 8 := by omega
  have b2 : 0 ≤ p.f0 := by omega
  have b3 : p.f1 < 8 := by omega
  have b4 : 0 ≤ p.f1 := by omega
  clear hput hbox hb0 hfz
  go_wp2
  go_region
  all_goals
    go_wp2
    go_roundg (l1.length - j)
    case measure => have := HP.out.2.2; omega
    case rel => exact ⟨j + 1, t.set (p.f0.toNat * 8 + p.f1.toNat) true, by go_num, by have := HP.out.2.2; omega, by have := HP.out.2.2; omega, ⟨by rw [List.length_set]; exact HI.out.1, HLL.out, (below_alloc (HI.out.2.2.1.setCell (by show _ ≤ w.heap.size + 1; omega) _) _).drew, blk_drew (blk_alloc (blk_far HI.out.2.2.2.1 (by show w.heap.size ≠ w.heap.size + 1; omega) _) _), blk_drew (blk_alloc (Box.put HI.out.2.2.2.2 _ true) _)⟩⟩
/-! ### level_closed: function 23 -/
theorem level_closed.eq (w : World) (t u : List Bool) (ht : t.length = 64) (hu : u.length = 64) : (Op.equalIn 10000 57 (.agg (bvals t).toArray) (.agg (bvals u).toArray)).run Try.prog w = .ok (decide (t = u)) w :=
  eq_table (U := 55) (B := 4) Try.underlying57 (by kernel_rfl) (by kernel_rfl) (by kernel_rfl) (by kernel_rfl) (by kernel_rfl) (by kernel_rfl) w t u ht hu
theorem level_closed.boxes (t : List Bool) (w : World) (T : Nat) (z : Array Value) (W : World) (hW : (w.alloc (.cells (bvals t).toArray T)).alloc (.cells z T) = W) (hz : z = (bvals (List.replicate 64 false)).toArray) :
    Below w.heap.size w W ∧ Box W w.heap.size t T ∧ Box W (w.heap.size + 1) (List.replicate 64 false) T := by
  subst hz
  subst hW
  have h0 : (w.alloc (.cells (bvals t).toArray T)).heap[w.heap.size]? = some (.cells (bvals t).toArray T (0, 0)) := heap_alloc_new w _
  have s1 : (w.alloc (.cells (bvals t).toArray T)).heap.size = w.heap.size + 1 := by simp
  have h1 := heap_alloc_new (w.alloc (.cells (bvals t).toArray T)) (.cells (bvals (List.replicate 64 false)).toArray T)
  rw [s1] at h1
  exact ⟨below_alloc (below_alloc (Below.refl _ _) _) _, blk_alloc h0 _, h1⟩
set_option maxRecDepth 100000 in
set_option maxHeartbeats 2000000 in
theorem level_closed.calls (k : Nat) (t : List Bool) (ht : t.length = 64) (n : Nat) (hn : n ≤ 8) (r : List Bool) (w : World) (h : closedI k t n = some r) :
    Calls Try.prog 23 #[.agg (bvals t).toArray, .int .i64 n] w fun e w' => e = .returned (.agg (bvals r).toArray) ∧ Below w.heap.size w w' := by
  have hsz : (bvals t).length = 64 := by simp [bvals, ht]
  have H := Aside0.mk h
  clear h
  go_enter Try.func23, Try.ntmps23
  go_wp2
  generalize hw : (w.alloc _).alloc _ = w1
  obtain ⟨hB, hb1, hb2⟩ := level_closed.boxes t w 57 _ w1 hw rfl
  clear hw hsz
  have HI0 := Aside0.mk (And.intro hB (And.intro hb1 hb2))
  clear hB hb1 hb2
  go_loopg [] k (fun q w' => ∃ u : List Bool, Aside0 (u.length = 64 ∧ closedI q u n = some r ∧ Below w.heap.size w w' ∧ Box w' w.heap.size u 57 ∧ Box w' (w.heap.size + 1) (List.replicate 64 false) 57))
  case atStart => exact ⟨t, ht, H.out, HI0.out.1, HI0.out.2.1, HI0.out.2.2⟩
  clear HI0 H
  obtain ⟨u, HI⟩ := hrel
  rcases gk with _ | gk
  · exact absurd HI.out.2.1 (by simp [closedI])
  have hL := bvals_size u
  rw [HI.out.1] at hL
  have HL := Aside0.mk hL
  clear hL
  go_wp2_with (first | (refine wpList_load_row rfl 57 (.tmp 2) rfl _ rfl 57 _ (0, 0) _ HI.out.2.2.2.1 Try.underlying57 rfl (by rw [HL.out]; kernel_rfl) ?_) | (refine wpList_store_row rfl 57 (.tmp 5) (.tmp 9) rfl _ _ rfl rfl 57 _ (heap_alloc_new _ _) (by rw [HL.out]; kernel_rfl) (by rw [HL.out]; rfl) (bvals_one _) ?_))
  generalize hw2 : (wr.alloc _).setRow wr.heap.size (bvals u).toArray = w2
  have hb : Below wr.heap.size wr w2 := by rw [← hw2]; exact below_setRow (below_alloc (Below.refl _ _) _) (Nat.le_refl _) _
  have h5 : Box w2 wr.heap.size u 57 := by rw [← hw2]; exact setRow_heap _ _ _ _ _ _ (heap_alloc_new _ _)
  have hlt0 : w.heap.size + 1 < wr.heap.size := by have := blk_lt HI.out.2.2.2.2; omega
  have HJ := Aside0.mk (show u.length = 64 ∧ closedI (gk + 1) u n = some r ∧ Below w.heap.size w w2 ∧ Box w2 w.heap.size ((List.range 0).foldl (closeA n) u) 57 ∧ Box w2 (w.heap.size + 1) (List.replicate 64 false) 57 ∧ Box w2 wr.heap.size u 57 from ⟨HI.out.1, HI.out.2.1, below_step HI.out.2.2.1 hb, blk_below HI.out.2.2.2.1 hb, blk_below HI.out.2.2.2.2 hb, h5⟩)
  have HG := Aside0.mk hlt0
  clear hw2 hb h5 HI hlt0
  generalize wr.heap.size = g5 at *
  go_loopg [11] (n + 1) (fun q v w' => ∃ a : Nat, v = .int .i64 a ∧ a ≤ n ∧ q = n + 1 - a ∧ Aside0 (u.length = 64 ∧ closedI (gk + 1) u n = some r ∧ Below w.heap.size w w' ∧ Box w' w.heap.size ((List.range a).foldl (closeA n) u) 57 ∧ Box w' (w.heap.size + 1) (List.replicate 64 false) 57 ∧ Box w' g5 u 57))
  case atStart => exact ⟨0, rfl, by omega, rfl, HJ⟩
  clear HJ
  obtain ⟨a, rfl, ha, rfl, HA⟩ := hrel
  by_cases hlta : a < n
  case neg =>
    obtain rfl : a = n := by omega
    have hE := fun (w' : World) (x y : List Bool) (hx : x.length = 64) (hy : y.length = 64) => level_closed.eq w' x y hx hy
    have hlen : (closeAll a u).length = 64 := closeAll_len a u HA.out.1
    have HC := Aside0.mk (show Box wr w.heap.size (closeAll a u) 57 from HA.out.2.2.2.1)
    have HE := Aside0.mk (level_closed.eq wr (closeAll a u) u hlen HA.out.1)
    have hK : (if closeAll a u = u then some u else closedI gk (closeAll a u) a) = some r := HA.out.2.1
    have hL2 := bvals_size (closeAll a u)
    rw [hlen] at hL2
    have HL2 := Aside0.mk (And.intro hL2 hlen)
    clear hlen hL2 hE
    generalize closeAll a u = v at *
    have HK := Aside0.mk hK
    have hE := HE.out
    have HR := Aside0.mk (show Below w.heap.size w wr ∧ Box wr (w.heap.size + 1) (List.replicate 64 false) 57 ∧ Box wr g5 u 57 from ⟨HA.out.2.2.1, HA.out.2.2.2.2⟩)
    clear hK HE HA
    by_cases e : v = u
    case neg =>
      rw [decide_eq_false e] at hE
      have HV := Aside0.mk e
      clear e
      go_wp2_with (first | (refine wpList_load_row rfl 57 (.tmp 2) rfl _ rfl 57 _ (0, 0) _ HC.out Try.underlying57 rfl (by rw [HL2.out.1]; kernel_rfl) ?_) | (refine wpList_load_row rfl 57 (.tmp 5) rfl _ rfl 57 _ (0, 0) _ HR.out.2.2 Try.underlying57 rfl (by rw [HL.out]; kernel_rfl) ?_))
      have hr := HK.out
      rw [if_neg HV.out] at hr
      go_roundg gk
      case measure => omega
      case rel => exact ⟨v, HL2.out.2, hr, HR.out.1, HC.out, HR.out.2.1⟩

    rw [decide_eq_true e] at hE
    have HV := Aside0.mk e
    clear e
    go_wp2_with (first | (refine wpList_load_row rfl 57 (.tmp 2) rfl _ rfl 57 _ (0, 0) _ HC.out Try.underlying57 rfl (by rw [HL2.out.1]; kernel_rfl) ?_) | (refine wpList_load_row rfl 57 (.tmp 5) rfl _ rfl 57 _ (0, 0) _ HR.out.2.2 Try.underlying57 rfl (by rw [HL.out]; kernel_rfl) ?_) | (refine wpList_store_row rfl 57 (.tmp 4) (.tmp 51) rfl _ _ rfl rfl 57 _ HR.out.2.1 (by rw [HL2.out.1]; kernel_rfl) (by rw [HL2.out.1]; rfl) (bvals_one _) ?_))
    have hr := HK.out
    rw [if_pos HV.out] at hr
    obtain rfl := Option.some.inj hr
    refine bodyPost_ret (results_cell_row rfl _ _ (w.heap.size + 1) 57 _ (0, 0) _ rfl (setRow_heap _ _ _ _ _ _ HR.out.2.1) Try.underlying57 rfl (by rw [HL2.out.1]; kernel_rfl)) rfl ⟨?_, ?_⟩
    · rw [HV.out]
    · exact below_setRow HR.out.1 (by omega) _
  go_wp2
  have HA1 := Aside0.mk (show ((List.range a).foldl (closeA n) u).length = 64 ∧ Below w.heap.size w wr ∧ Box wr w.heap.size ((List.range 0).foldl (closeB n a) ((List.range a).foldl (closeA n) u)) 57 ∧ Box wr (w.heap.size + 1) (List.replicate 64 false) 57 ∧ Box wr g5 u 57 from ⟨foldl_len (closeA_len n) a u HA.out.1, HA.out.2.2⟩)
  have HK := Aside0.mk (show u.length = 64 ∧ closedI (gk + 1) u n = some r from ⟨HA.out.1, HA.out.2.1⟩)
  clear HA
  have HS := Aside0.mk (foldl_range_succ (closeA n) u a)
  generalize (List.range a).foldl (closeA n) u = ua at *
  go_loopg [15] (n + 1) (fun q v w' => ∃ b : Nat, v = .int .i64 b ∧ b ≤ n ∧ q = n + 1 - b ∧ Aside0 (ua.length = 64 ∧ Below w.heap.size w w' ∧ Box w' w.heap.size ((List.range b).foldl (closeB n a) ua) 57 ∧ Box w' (w.heap.size + 1) (List.replicate 64 false) 57 ∧ Box w' g5 u 57))
  case atStart => exact ⟨0, rfl, by omega, rfl, HA1⟩
  clear HA1
  obtain ⟨b, rfl, hb, rfl, HB⟩ := hrel
  by_cases hltb : b < n
  case neg =>
    obtain rfl : b = n := by omega
    go_wp2
    go_roundg (b - a)
    case measure => omega
    case rel => exact ⟨a + 1, by go_num, by omega, by omega, ⟨HK.out.1, HK.out.2, HB.out.2.1, by rw [HS.out]; exact HB.out.2.2.1, HB.out.2.2.2⟩⟩
  go_wp2
  have HB1 := Aside0.mk (show ((List.range b).foldl (closeB n a) ua).length = 64 ∧ Below w.heap.size w wr ∧ Box wr w.heap.size ((List.range 0).foldl (closeC a b) ((List.range b).foldl (closeB n a) ua)) 57 ∧ Box wr (w.heap.size + 1) (List.replicate 64 false) 57 ∧ Box wr g5 u 57 from ⟨foldl_len (closeB_len n a) b ua HB.out.1, HB.out.2⟩)
  have HBL := Aside0.mk HB.out.1
  clear HB
  have HS2 := Aside0.mk (foldl_range_succ (closeB n a) ua b)
  generalize (List.range b).foldl (closeB n a) ua = ub at *
  go_loopg [19] (n + 1) (fun q v w' => ∃ c : Nat, v = .int .i64 c ∧ c ≤ n ∧ q = n + 1 - c ∧ Aside0 (ub.length = 64 ∧ Below w.heap.size w w' ∧ Box w' w.heap.size ((List.range c).foldl (closeC a b) ub) 57 ∧ Box w' (w.heap.size + 1) (List.replicate 64 false) 57 ∧ Box w' g5 u 57))
  case atStart => exact ⟨0, rfl, by omega, rfl, HB1⟩
  clear HB1
  obtain ⟨c, rfl, hc, rfl, HC⟩ := hrel
  by_cases hltc : c < n
  case neg =>
    obtain rfl : c = n := by omega
    go_wp2
    go_roundg (c - b)
    case measure => omega
    case rel => exact ⟨b + 1, by go_num, by omega, by omega, ⟨HBL.out, HC.out.2.1, by rw [HS2.out]; exact HC.out.2.2.1, HC.out.2.2.2⟩⟩
  have hlen : ((List.range c).foldl (closeC a b) ub).length = 64 := foldl_len (closeC_len a b) c ub HC.out.1
  have hac := HC.out.2.2.1.cell hlen a c (by omega) (by omega)
  have hab := HC.out.2.2.1.cell hlen a b (by omega) (by omega)
  have hbc := HC.out.2.2.1.cell hlen b c (by omega) (by omega)
  have hfz := blk_frozen HC.out.2.2.1 (a * 8 + c)
  have hs3 := foldl_range_succ (closeC a b) ub c
  have hput := fun v => Box.put HC.out.2.2.1 (a * 8 + c) v
  have HP := Aside0.mk hput
  have HS3 := Aside0.mk hs3
  have HC2 := Aside0.mk (show ub.length = 64 ∧ Below w.heap.size w wr ∧ Box wr (w.heap.size + 1) (List.replicate 64 false) 57 ∧ Box wr g5 u 57 from ⟨HC.out.1, HC.out.2.1, HC.out.2.2.2⟩)
  clear hput hs3 HC
  generalize (List.range c).foldl (closeC a b) ub = uc at *
  cases hx : tb uc a c <;> cases hy : tb uc a b <;> cases hz : tb uc b c
  all_goals
    rw [hx] at hac
    rw [hy] at hab
    rw [hz] at hbc
    have HX := Aside0.mk (And.intro hx (And.intro hy hz))
    clear hx hy hz
    go_wp2
    go_region
    all_goals
      go_wp2
      go_roundg (n - c)
      case measure => omega
      case rel =>
        refine ⟨c + 1, by go_num, by omega, by omega, ⟨HC2.out.1, (HC2.out.2.1.setCell (by show _ ≤ w.heap.size; omega) _).drew, ?_, blk_drew (blk_far HC2.out.2.2.1 (by show w.heap.size + 1 ≠ w.heap.size; omega) _), blk_drew (blk_far HC2.out.2.2.2 (by have := HG.out; show g5 ≠ w.heap.size; omega) _)⟩⟩
        rw [HS3.out]
        unfold closeC
        rw [HX.out.1, HX.out.2.1, HX.out.2.2]
        exact HP.out _
/-! ### level_twisted: function 24 -/
theorem level_twisted.calls (t : List Bool) (ht : t.length = 64) (n : Nat) (hn : n ≤ 8) (w : World) :
    Calls Try.prog 24 #[.agg (bvals t).toArray, .int .i64 n] w fun e w' => e = .returned (.bool (twistedI t n)) ∧ Below w.heap.size w w' := by
  have hsz : (bvals t).length = 64 := by simp [bvals, ht]
  go_enter Try.func24, Try.ntmps24
  go_wp2
  have hB : Below w.heap.size w (w.alloc (.cells (bvals t).toArray 57)) := (Below.refl _ _).alloc (Nat.le_refl _) _
  have hbox : Box (w.alloc (.cells (bvals t).toArray 57)) w.heap.size t 57 := by
    unfold Box; simpa using heap_alloc_new w _
  generalize w.alloc (.cells (bvals t).toArray 57) = w1 at hB hbox ⊢
  have HC := Aside0.mk (fun a b ha hb => Box.cell hbox ht a b ha hb)
  clear hbox hsz
  go_loop [8] (fun v => ∃ a : Nat, v = .int .i64 a ∧ a ≤ n ∧ Aside0 (((List.range a).any fun a => (List.range a).any fun b => tb t a b && tb t b a) = false)) (fun v => n - (intOf v).toNat)
  case atStart => exact ⟨0, rfl, by omega, ⟨rfl⟩⟩
  obtain ⟨a, rfl, ha, HI⟩ := hrel
  by_cases hlt : a < n
  case neg =>
    obtain rfl : a = n := by omega
    go_wp2
    go_ret
    exact ⟨by rw [show twistedI t a = false from HI.out]; rfl, hB⟩

  go_wp2
  go_loop [12] (fun v => ∃ b : Nat, v = .int .i64 b ∧ b ≤ a ∧ Aside0 (((List.range b).any fun b => tb t a b && tb t b a) = false)) (fun v => a - (intOf v).toNat)
  case atStart => exact ⟨0, rfl, by omega, ⟨rfl⟩⟩
  obtain ⟨b, rfl, hb, HI2⟩ := hrel
  by_cases hlt2 : b < a
  case neg =>
    obtain rfl : b = a := by omega
    go_wp2
    go_round
    case rel => exact ⟨b + 1, by go_num, by omega, ⟨by rw [range_any_succ, HI.out, HI2.out]; rfl⟩⟩
    case measure => simp [intOf]; omega
  have hab := HC.out a b (by omega) (by omega)
  have hba := HC.out b a (by omega) (by omega)
  cases hx1 : tb t a b with
  | false =>
    rw [hx1] at hab
    have HX := Aside0.mk hx1
    clear hx1
    go_wp2
    go_round
    case rel => exact ⟨b + 1, by go_num, by omega, ⟨by rw [range_any_succ, HI2.out, HX.out]; rfl⟩⟩
    case measure => simp [intOf]; omega
  | true =>
    rw [hx1] at hab
    have HX := Aside0.mk hx1
    clear hx1
    cases hx2 : tb t b a with
    | false =>
      rw [hx2] at hba
      have HX2 := Aside0.mk hx2
      clear hx2
      go_wp2
      go_round
      case rel => exact ⟨b + 1, by go_num, by omega, ⟨by rw [range_any_succ, HI2.out, HX.out, HX2.out]; rfl⟩⟩
      case measure => simp [intOf]; omega
    | true =>
      rw [hx2] at hba
      have HX2 := Aside0.mk hx2
      clear hx2
      have hfin : twistedI t n = true := by
        unfold twistedI
        rw [List.any_eq_true]
        refine ⟨a, List.mem_range.2 hlt, ?_⟩
        rw [List.any_eq_true]
        exact ⟨b, List.mem_range.2 hlt2, by rw [HX.out, HX2.out]; rfl⟩
      have HF := Aside0.mk hfin
      clear hfin
      go_wp2
      go_ret
      exact ⟨by rw [HF.out]; rfl, hB⟩
/-! ### level_turned: function 28 -/
theorem level_turned.boxes (t : List Bool) (w : World) (T : Nat) (z : Array Value) (W : World) (hW : ((w.alloc (.cells (bvals t).toArray T)).alloc (.cells z T)).alloc (.cells z T) = W) (hz : z = (bvals (turnedTo t 0)).toArray) :
    Below w.heap.size w W ∧ Box W w.heap.size t T ∧ Box W (w.heap.size + 1) (turnedTo t 0) T ∧ Box W (w.heap.size + 1 + 1) (turnedTo t 0) T := by
  subst hz
  subst hW
  have h0 : (w.alloc (.cells (bvals t).toArray T)).heap[w.heap.size]? = some (.cells (bvals t).toArray T (0, 0)) := heap_alloc_new w _
  have s1 : (w.alloc (.cells (bvals t).toArray T)).heap.size = w.heap.size + 1 := by simp
  have h1 := heap_alloc_new (w.alloc (.cells (bvals t).toArray T)) (.cells (bvals (turnedTo t 0)).toArray T)
  have s2 : ((w.alloc (.cells (bvals t).toArray T)).alloc (.cells (bvals (turnedTo t 0)).toArray T)).heap.size = w.heap.size + 1 + 1 := by simp
  have h2 := heap_alloc_new ((w.alloc (.cells (bvals t).toArray T)).alloc (.cells (bvals (turnedTo t 0)).toArray T)) (.cells (bvals (turnedTo t 0)).toArray T)
  rw [s1] at h1
  rw [s2] at h2
  exact ⟨below_alloc (below_alloc (below_alloc (Below.refl _ _) _) _) _, blk_alloc (blk_alloc h0 _) _, blk_alloc h1 _, h2⟩
set_option maxHeartbeats 1000000 in
theorem level_turned.calls (t : List Bool) (ht : t.length = 64) (w : World) :
    Calls Try.prog 28 #[.agg (bvals t).toArray] w fun e w' => e = .returned (.agg (bvals (turnedI t)).toArray) ∧ Below w.heap.size w w' := by
  have hsz : (bvals t).length = 64 := by simp [bvals, ht]
  go_enter Try.func28, Try.ntmps28
  go_wp2
  generalize hw : ((w.alloc _).alloc _).alloc _ = w1
  obtain ⟨hB, hb1, hb2, hb3⟩ := level_turned.boxes t w 57 _ w1 hw (by rw [turnedTo_zero]; rfl)
  clear hw
  have hne1 : w.heap.size ≠ w.heap.size + 1 + 1 := by omega
  have hne2 : w.heap.size + 1 ≠ w.heap.size + 1 + 1 := by omega
  clear hsz
  have HB := Aside0.mk hB
  have H1 := Aside0.mk hb1
  have H2 := Aside0.mk hb2
  have H3 := Aside0.mk hb3
  have HG := Aside0.mk (And.intro hne1 hne2)
  clear hB hb1 hb2 hb3 hne1 hne2
  go_loopg [6] 9 (fun k v w' => ∃ a : Nat, v = .int .i64 a ∧ a ≤ 8 ∧ k = 9 - a ∧ Aside0 (Below w.heap.size w w' ∧ Box w' w.heap.size t 57 ∧ Box w' (w.heap.size + 1) (turnedTo t 0) 57 ∧ Box w' (w.heap.size + 1 + 1) (turnedTo t (a * 8)) 57))
  case atStart => exact ⟨0, rfl, by omega, rfl, ⟨HB.out, H1.out, H2.out, H3.out⟩⟩
  clear HB H1 H2 H3
  obtain ⟨a, rfl, ha, rfl, HI⟩ := hrel
  by_cases hlt : a < 8
  case neg =>
    obtain rfl : a = 8 := by omega
    obtain ⟨i1, i2, i3, i4⟩ := HI.out
    have hl : (bvals (turnedTo t 64)).toArray.size = 64 := by simp [bvals, turnedTo_len]
    have hl0 : (bvals (turnedTo t 0)).toArray.size = 64 := by simp [bvals, turnedTo_len]
    have h1c : (bvals (turnedTo t 64)).toArray.all (·.oneCell') = true := by
      rw [Array.all_eq_true_iff_forall_mem]
      intro v hv
      simp only [bvals, List.mem_toArray, List.mem_map] at hv
      obtain ⟨x, _, rfl⟩ := hv
      rfl
    have I := Aside0.mk (And.intro i1 (And.intro i3 i4))
    have L := Aside0.mk (And.intro hl (And.intro hl0 h1c))
    clear i1 i2 i3 i4 hl hl0 h1c HI
    go_wp2_with (first | (refine wpList_load_row rfl 57 (.tmp 3) rfl _ rfl 57 _ (0, 0) _ I.out.2.2 Try.underlying57 rfl (by rw [L.out.1]; kernel_rfl) ?_) | (refine wpList_store_row rfl 57 (.tmp 2) (.tmp 23) rfl _ _ rfl rfl 57 _ I.out.2.1 (by rw [L.out.1]; kernel_rfl) (by rw [L.out.1, L.out.2.1]) L.out.2.2 ?_))
    refine bodyPost_ret (results_cell_row rfl _ _ (w.heap.size + 1) 57 _ (0, 0) _ rfl (setRow_heap _ _ _ _ _ _ I.out.2.1) Try.underlying57 rfl (by rw [L.out.1]; kernel_rfl)) rfl ⟨?_, ?_⟩
    · rw [turnedTo_full _ _ (by omega)]
    · exact below_setRow I.out.1 (by omega) _

  go_wp2
  go_loopg [9] 9 (fun k v w' => ∃ b : Nat, v = .int .i64 b ∧ b ≤ 8 ∧ k = 9 - b ∧ Aside0 (Below w.heap.size w w' ∧ Box w' w.heap.size t 57 ∧ Box w' (w.heap.size + 1) (turnedTo t 0) 57 ∧ Box w' (w.heap.size + 1 + 1) (turnedTo t (a * 8 + b)) 57))
  case atStart => exact ⟨0, rfl, by omega, rfl, HI⟩
  clear HI
  obtain ⟨b, rfl, hb, rfl, HI⟩ := hrel
  by_cases hlt2 : b < 8
  case neg =>
    obtain rfl : b = 8 := by omega
    go_wp2
    go_roundg (8 - a)
    case measure => omega
    case rel => exact ⟨a + 1, by go_num, by omega, by omega, ⟨by have hq := HI.out; rw [show (a + 1) * 8 = a * 8 + 8 by omega]; exact hq⟩⟩
  have hc := HI.out.2.1.cell ht a b hlt hlt2
  have hc3 := HI.out.2.2.2.cell (turnedTo_len _ _) b a hlt2 hlt
  have hf := blk_frozen HI.out.2.2.2 (b * 8 + a)
  go_wp2
  go_region
  all_goals
    go_wp2
    go_roundg (8 - b)
    case measure => omega
    case rel => exact ⟨b + 1, by go_num, by omega, by omega, ⟨(HI.out.1.setCell (by show _ ≤ w.heap.size + 1 + 1; omega) _).drew, blk_drew (blk_far HI.out.2.1 HG.out.1 _), blk_drew (blk_far HI.out.2.2.1 HG.out.2 _), by have hp := Box.put HI.out.2.2.2 (b * 8 + a) (tb t a b); rw [turnedTo_set t a b hlt hlt2] at hp; exact hp⟩⟩
/-! ### level_over: function 29 -/
theorem level_over.calls (t : List Bool) (ht : t.length = 64) (n a b : Nat) (hn : n ≤ 8) (ha : a < 8) (hb : b < 8) (w : World) :
    Calls Try.prog 29 #[.agg (bvals t).toArray, .int .i64 n, .int .i64 a, .int .i64 b] w fun e w' => e = .returned (.int .i64 (overI t n a b)) ∧ Below w.heap.size w w' := by
  have hsz : (bvals t).length = 64 := by simp [bvals, ht]
  have HOV := Aside0.mk (show overI t n a b = overFrom t n a b n 0 from rfl)
  go_enter Try.func29, Try.ntmps29
  go_wp2
  have hB : Below w.heap.size w (w.alloc (.cells (bvals t).toArray 57)) := (Below.refl _ _).alloc (Nat.le_refl _) _
  have hbox : Box (w.alloc (.cells (bvals t).toArray 57)) w.heap.size t 57 := by
    unfold Box; simpa using heap_alloc_new w _
  generalize w.alloc (.cells (bvals t).toArray 57) = w1 at hB hbox ⊢
  have HC := Aside0.mk (fun a b ha hb => Box.cell hbox ht a b ha hb)
  clear hbox hsz
  go_loop [13] (fun v => ∃ c : Nat, v = .int .i64 c ∧ c ≤ n ∧ Aside0 (overI t n a b = overFrom t n a b (n - c) c)) (fun v => n - (intOf v).toNat)
  case atStart => exact ⟨0, rfl, by omega, HOV⟩
  obtain ⟨c, rfl, hc, HI⟩ := hrel
  clear HOV
  by_cases hlt : c < n
  case neg =>
    obtain rfl : c = n := by omega
    go_wp2
    go_ret
    exact ⟨by have := HI.out; rw [Nat.sub_self] at this; simp only [overFrom] at this; rw [this]; rfl, hB⟩

  have hac := HC.out a c ha (by omega)
  have hbc := HC.out b c hb (by omega)
  have hI := HI.out
  rw [show n - c = (n - (c + 1)) + 1 by omega] at hI
  simp only [overFrom] at hI
  cases hxa : tb t a c with
  | false =>
    rw [hxa] at hac hI
    go_wp2
    go_round
    case rel => exact ⟨c + 1, by go_num, by omega, ⟨by simpa using hI⟩⟩
    case measure => simp [intOf]; omega
  | true =>
    rw [hxa] at hac hI
    cases hxb : tb t b c with
    | false =>
      rw [hxb] at hbc hI
      go_wp2
      go_round
      case rel => exact ⟨c + 1, by go_num, by omega, ⟨by simpa using hI⟩⟩
      case measure => simp [intOf]; omega
    | true =>
      rw [hxb] at hbc hI
      have HI2 := Aside0.mk hI
      have HX := Aside0.mk (And.intro hxa hxb)
      clear hI HI hxa hxb
      go_wp2
      go_loop [10, 31] (fun l v => ∃ d : Nat, v = .int .i64 d ∧ d ≤ n ∧ l = .bool ((List.range d).all fun d => !tb t a d || !tb t b d || tb t c d)) (fun _ v => n - (intOf v).toNat)
      case atStart => exact ⟨0, rfl, by omega, rfl⟩
      obtain ⟨d, rfl, hd, rfl⟩ := hrel
      by_cases hlt2 : d < n
      case neg =>
        obtain rfl : d = n := by omega
        generalize hov : (List.range d).all (fun d => !tb t a d || !tb t b d || tb t c d) = l0
        have HN := Aside0.mk hov
        clear hov
        cases l0 with
        | true =>
          go_wp2
          go_ret
          exact ⟨by have := HI2.out; simp only [overLeast, HN.out] at this; rw [this]; rfl, hB⟩
        | false =>
          go_wp2
          go_round
          case rel => exact ⟨c + 1, by go_num, by omega, ⟨by have := HI2.out; simp only [overLeast, HN.out] at this; simpa using this⟩⟩
          case measure => simp [intOf]; omega
      have had := HC.out a d ha (by omega)
      have hbd := HC.out b d hb (by omega)
      have hcd := HC.out c d (by omega) (by omega)
      have hs := range_all_succ (fun d => !tb t a d || !tb t b d || tb t c d) d
      generalize (List.range d).all (fun d => !tb t a d || !tb t b d || tb t c d) = l0 at hs ⊢
      generalize hnx : (List.range (d + 1)).all (fun d => !tb t a d || !tb t b d || tb t c d) = l1 at hs
      have HS := Aside0.mk hs
      have HN := Aside0.mk hnx
      clear hs hnx
      cases l0 <;> cases hx1 : tb t a d <;> cases hx2 : tb t b d <;> cases hx3 : tb t c d
      all_goals
        rw [hx1] at had
        rw [hx2] at hbd
        rw [hx3] at hcd
        have hS := HS.out
        simp only [hx1, hx2, hx3] at hS
        clear hx1 hx2 hx3
        go_wp2
        go_round
        case rel => exact ⟨d + 1, by go_num, by omega, by rw [HN.out, hS]; rfl⟩
        case measure => simp [intOf]; omega
end Go.Proofs.Yteeodnnabogheaa.X
