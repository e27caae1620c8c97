/- Erased nodes and swapped ones, plainly. -/
import Derived.Test.YtkfknjolpgaliaaSErase1
namespace Go.Ab
set_option linter.unusedVariables false
set_option linter.unusedSimpArgs false
set_option linter.unusedSectionVars false

theorem Lt.leqI_iff {L : Lt} {x a : Int} : L.leqI x a = true ↔ (L.is x = true ∧ L.is a = true ∧ L.leq x.toNat a.toNat = true) := by
  unfold Lt.leqI
  simp [Bool.and_eq_true]
theorem Lt.leqI_no {L : Lt} {x a : Int} (h : L.is a = false) : L.leqI x a = false := by
  unfold Lt.leqI
  simp [h]
theorem hole_lab {L : Lt} (O : L.Ok) : labB L (holeN L) = true ∧ rightB L (holeN L) = true := by
  have := O.top
  refine ⟨?_, ?_⟩
  · simp [holeN, labB_mk, labBs, Lt.is_nat, this]
  · simp [holeN, rightB_mk, rightBs, deepNs]
theorem und_lab {L : Lt} (O : L.Ok) {a : Int} {v : ND} (hv : v.Sm) : ∀ up : Nat, labB L (und L a up v) = true ∧ rightB L (und L a up v) = true := by
  induction hv with
  | @mk x d k c s t is ks hi hk ht hs h ih =>
    intro up
    rw [und_mk]
    split
    · have hlt := O.joinI_lt up x
      have h1 : labBs L (is.map (und L a (L.joinI up x))) = true := labBs_iff.2 fun y hy => by
        obtain ⟨z, hz, rfl⟩ := List.mem_map.1 hy; exact (ih z hz _).1
      have h2 : rightBs L (is.map (und L a (L.joinI up x))) = true := rightBs_iff.2 fun y hy => by
        obtain ⟨z, hz, rfl⟩ := List.mem_map.1 hy; exact (ih z hz _).2
      rw [labB_mk, rightB_mk, h1, h2, Int.toNat_natCast, deepP_eq O _ _ hlt h1 h2]
      simp [Lt.is_nat, hlt]
    · exact hole_lab O
theorem shapeBs_iff : ∀ {l : List JV}, shapeBs l = true ↔ ∀ v ∈ l, shapeB v = true
  | [] => by simp [shapeBs]
  | v :: r => by simp [shapeBs, shapeBs_iff (l := r)]
theorem may_raiseN {L : Lt} (O : L.Ok) {m : ND} (hm : mayB L m = true) {x : Int} (hx : L.is x = true) : mayB L (raiseN L x m) = true := by
  obtain ⟨a, d, k, c, s, t, is, ks⟩ := m
  have h := hm
  simp only [mayB, Bool.and_eq_true] at h
  obtain ⟨p, q, rfl, rfl, hp, hq, hpq⟩ := may_labels O h.1 h.2.1
  have hx' := Lt.is_iff.1 hx
  obtain ⟨y, rfl⟩ : ∃ y : Nat, x = y := ⟨x.toNat, by omega⟩
  have hy : y < L.n := by omega
  rw [raiseN, Lt.joinI_nat hp hy, Lt.joinI_nat hq hy]
  exact may_raise O hm hp hy
theorem swp_may {L : Lt} (O : L.Ok) {a : Int} {m : ND} (hm : mayB L m = true) {v : ND} (hv : v.Sm) : mayB L v = true → ∀ up : Nat, mayB L (swp L a m up v) = true := by
  induction hv with
  | @mk x d k c s t is ks hi hk ht hs h ih =>
    intro hmay up
    have hit := fun y hy => may_item hmay (v := y) hy
    rw [swp_mk]
    have hm' := hmay
    simp only [mayB, Bool.and_eq_true, labB_mk, strip_mk] at hm'
    split
    · obtain ⟨⟨h1, h2⟩, h3, h4⟩ := hm'
      have h5 : ∀ y ∈ is.map (swp L a m (L.joinI up x)), mayB L y = true := fun y hy => by
        obtain ⟨z, hz, rfl⟩ := List.mem_map.1 hy; exact ih z hz (hit z hz) _
      have hlen : (is.map (swp L a m (L.joinI up x))).length = is.length := by simp
      generalize is.map (swp L a m (L.joinI up x)) = js at h5 hlen ⊢
      have hx := Lt.is_iff.1 h1
      have g1 : labBs L js = true := labBs_iff.2 fun y hy => by
        have := h5 y hy; simp only [mayB, Bool.and_eq_true] at this; exact this.1
      have g2 : rightBs L js = true := rightBs_iff.2 fun y hy => by
        have := h5 y hy; simp only [mayB, Bool.and_eq_true] at this; exact this.2.1
      have g3 : shapeBs (js.map strip) = true := shapeBs_iff.2 fun y hy => by
        obtain ⟨z, hz, rfl⟩ := List.mem_map.1 hy
        have := h5 z hz; simp only [mayB, Bool.and_eq_true] at this; exact this.2.2
      rw [shapeB_mk, Bool.and_eq_true, Bool.and_eq_true] at h4
      simp only [mayB, labB_mk, rightB_mk, strip_mk, shapeB_mk, h1, g1, g2, g3, deepP_eq O js x.toNat (by omega) g1 g2, decide_true, Bool.and_true, Bool.true_and]
      rw [List.length_map] at h4 ⊢
      rw [hlen, h4.1, h4.2.1]; rfl
    · exact may_raiseN O hm hm'.1.1

theorem Lt.join_up {L : Lt} {x u : Nat} (O : L.Ok) (hx : x < L.n) (hu : u < L.n) (h : L.leq x u = true) : L.join x u = u :=
  O.join_eq hx hu hu h (O.refl _ hu) fun d hd _ x => x
/-- What is not seen may be another one. -/
theorem und_swp {L : Lt} (O : L.Ok) {a c : Nat} (ha : a < L.n) (hc : c < L.n) (hca : L.leq c a = true) {m : ND} (hm : labB L m = true) {v : ND} (hv : v.Sm) : labB L v = true → ∀ up : Nat, up < L.n → und L c up (swp L a m up v) = und L c up v := by
  induction hv with
  | @mk x d k cc s t is ks hi hk ht hs h ih =>
    intro hlab up hup
    rw [labB_mk, Bool.and_eq_true] at hlab
    have hx := Lt.is_iff.1 hlab.1
    obtain ⟨y, rfl⟩ : ∃ y : Nat, x = y := ⟨x.toNat, by omega⟩
    have hy : y < L.n := by omega
    have hu := O.join up y hup hy
    rw [swp_mk]
    split
    · rw [und_mk, und_mk]
      rw [Lt.joinI_nat hup hy]
      have : (is.map (swp L a m (L.join up y))).map (und L c (L.join up y)) = is.map (und L c (L.join up y)) := by
        rw [List.map_map]
        refine List.map_congr_left fun z hz => ?_
        exact ih z hz (labBs_iff.1 hlab.2 z hz) _ hu
      rw [this]
    · rename_i hno
      rw [Lt.joinI_nat hup hy, Lt.leqI_nat hu ha] at hno
      obtain ⟨p, dm, km, cm, sm, tm, im, om⟩ := m
      rw [labB_mk, Bool.and_eq_true] at hm
      have hp := Lt.is_iff.1 hm.1
      obtain ⟨q, rfl⟩ : ∃ q : Nat, p = q := ⟨p.toNat, by omega⟩
      have hq : q < L.n := by omega
      have hqy := O.join q y hq hy
      have hju := O.join up _ hup hqy
      rw [raiseN, und_mk, und_mk, Lt.joinI_nat hq hy, Lt.joinI_nat hup hqy, Lt.joinI_nat hup hy, Lt.leqI_nat hju hc, Lt.leqI_nat hu hc]
      have n1 : ¬ L.leq (L.join up y) c = true := fun hh => hno (O.trans _ _ _ hu hc ha hh hca)
      have n2 : ¬ L.leq (L.join up (L.join q y)) c = true := fun hh => n1 (O.trans _ _ _ hu hju hc (O.joinm up y _ hup hy hju (O.joinl up _ hup hqy) (O.trans _ _ _ hy hqy hju (O.joinr q y hq hy) (O.joinr up _ hup hqy))) hh)
      rw [if_neg n1, if_neg n2]
/-- What is erased at a level, and again at one above it, is the same. -/
theorem und_und {L : Lt} (O : L.Ok) {a b : Nat} (ha : a < L.n) (hb : b < L.n) (hab : L.leq a b = true) (hbt : b ≠ L.top) {v : ND} (hv : v.Sm) : ∀ up up' : Nat, up < L.n → up' < L.n → L.leq up' up = true → labB L v = true → und L b up' (und L a up v) = und L a up v := by
  induction hv with
  | @mk x d k cc s t is ks hi hk ht hs h ih =>
    intro up up' hup hup' hle hlab
    rw [labB_mk, Bool.and_eq_true] at hlab
    have hx := Lt.is_iff.1 hlab.1
    obtain ⟨y, rfl⟩ : ∃ y : Nat, x = y := ⟨x.toNat, by omega⟩
    have hy : y < L.n := by omega
    have hu := O.join up y hup hy
    rw [und_mk, Lt.joinI_nat hup hy, Lt.leqI_nat hu ha]
    split
    · rename_i hua
      have e : L.join up' (L.join up y) = L.join up y := Lt.join_up O hup' hu (O.trans _ _ _ hup' hup hu hle (O.joinl up y hup hy))
      rw [und_mk, Lt.joinI_nat hup' hu, e, Lt.leqI_nat hu hb, if_pos (O.trans _ _ _ hu ha hb hua hab)]
      have : (is.map (und L a (L.join up y))).map (und L b (L.join up y)) = is.map (und L a (L.join up y)) := by
        rw [List.map_map]
        refine List.map_congr_left fun z hz => ?_
        exact ih z hz _ _ hu hu (O.refl _ hu) (labBs_iff.1 hlab.2 z hz)
      rw [this]
    · have ht := O.top
      have e : L.join up' L.top = L.top := Lt.join_up O hup' ht (O.letop _ hup')
      have n : ¬ L.leq L.top b = true := fun hh => hbt (O.anti _ _ hb ht (O.letop _ hb) hh)
      rw [holeN, und_mk, Lt.joinI_nat hup' ht, e, Lt.leqI_nat ht hb, if_neg n, holeN]
mutual
theorem cou_mono {L : Lt} (O : L.Ok) {a b : Nat} (ha : a < L.n) (hb : b < L.n) (hab : L.leq a b = true) : ∀ (v : ND) (up : Nat), cou L a up v ≤ cou L b up v
  | .mk x d k c s t is ks, up => by
    have hu := O.joinI_lt up x
    rw [cou_mk, cou_mk, Lt.leqI_nat hu ha, Lt.leqI_nat hu hb]
    by_cases h : L.leq (L.joinI up x) a = true
    · rw [if_pos h, if_pos (O.trans _ _ _ hu ha hb h hab)]
      have := cous_mono O ha hb hab is (L.joinI up x)
      omega
    · rw [if_neg h]; omega
theorem cous_mono {L : Lt} (O : L.Ok) {a b : Nat} (ha : a < L.n) (hb : b < L.n) (hab : L.leq a b = true) : ∀ (l : List ND) (up : Nat), cous L a up l ≤ cous L b up l
  | [], up => by simp [cous]
  | v :: r, up => by
    have h1 := cou_mono O ha hb hab v up
    have h2 := cous_mono O ha hb hab r up
    simp only [cous]; omega
end
mutual
theorem cou_top {L : Lt} (O : L.Ok) : ∀ (v : ND) (up : Nat), cou L L.top up v = v.cnt
  | .mk x d k c s t is ks, up => by
    have hu := O.joinI_lt up x
    rw [cou_mk, Lt.leqI_nat hu O.top, if_pos (O.letop _ hu), cous_top O is, ND.cnt_mk]
theorem cous_top {L : Lt} (O : L.Ok) : ∀ (l : List ND) (up : Nat), cous L L.top up l = ND.cnts l
  | [], up => by simp [cous, ND.cnts]
  | v :: r, up => by rw [cous, ND.cnts, cou_top O v, cous_top O r]
end
theorem und_top {L : Lt} (O : L.Ok) {v : ND} (hv : v.Sm) : ∀ up : Nat, strip (und L L.top up v) = strip v := by
  induction hv with
  | @mk x d k cc s t is ks hi hk ht hs h ih =>
    intro up
    have hu := O.joinI_lt up x
    rw [und_mk, Lt.leqI_nat hu O.top, if_pos (O.letop _ hu), strip_mk, strip_mk, List.map_map]
    congr 1
    exact List.map_congr_left fun z hz => ih z hz _
theorem cou_no {L : Lt} {a : Int} (h : L.is a = false) (v : ND) (up : Nat) : cou L a up v = 0 := by
  obtain ⟨x, d, k, c, s, t, is, ks⟩ := v
  rw [cou_mk, Lt.leqI_no h]; rfl
theorem und_no {L : Lt} {a : Int} (h : L.is a = false) (v : ND) (up : Nat) : und L a up v = holeN L := by
  obtain ⟨x, d, k, c, s, t, is, ks⟩ := v
  rw [und_mk, Lt.leqI_no h]; rfl
/-! How many of an erased node are not holes. -/
mutual
def seeN : ND → Nat
  | .mk _ _ k _ _ _ is _ => if k = 8 then 0 else 1 + seeNs is
def seeNs : List ND → Nat
  | [] => 0
  | v :: r => seeN v + seeNs r
end
theorem seeN_mk (a d k c s : Int) (t : ByteArray) (is : List ND) (ks : List ByteArray) : seeN (.mk a d k c s t is ks) = if k = 8 then 0 else 1 + seeNs is := by simp [seeN]
theorem seeNs_drop {l : List ND} {i : Nat} (h : i < l.length) : seeNs (l.drop i) = seeN l[i] + seeNs (l.drop (i + 1)) := by
  rw [drop_cons h, seeNs]
theorem shape_kind {k c s : Int} {t : ByteArray} {is : List JV} {ks : List ByteArray} (h : shapeB (.mk k c s t is ks) = true) : k ≠ 8 := by
  rw [shapeB_mk, Bool.and_eq_true, Bool.and_eq_true] at h
  have h1 := h.2.1
  simp only [isR, Bool.and_eq_true, Bool.not_eq_true', decide_eq_false_iff_not] at h1
  omega
mutual
theorem see_und (L : Lt) (a : Int) : ∀ (v : ND) (up : Nat), shapeB (strip v) = true → seeN (und L a up v) = cou L a up v
  | .mk x d k c s t is ks, up, h => by
    rw [strip_mk] at h
    have hk := shape_kind h
    rw [shapeB_mk, Bool.and_eq_true, Bool.and_eq_true, ← strips_eq] at h
    have ih := see_unds L a is (L.joinI up x) h.2.2
    rw [unds_eq] at ih
    rw [und_mk, cou_mk]
    split
    · rw [seeN_mk, if_neg hk, ih]
    · rw [holeN, seeN_mk, if_pos rfl]
theorem see_unds (L : Lt) (a : Int) : ∀ (l : List ND) (up : Nat), shapeBs (strips l) = true → seeNs (unds L a up l) = cous L a up l
  | [], up, _ => by simp [unds, cous, seeNs]
  | v :: r, up, h => by
    rw [strips, shapeBs, Bool.and_eq_true] at h
    rw [unds, seeNs, cous, see_und L a v up h.1, see_unds L a r up h.2]
end
mutual
theorem see_le : ∀ v : ND, seeN v ≤ v.cnt
  | .mk x d k c s t is ks => by
    rw [seeN_mk, ND.cnt_mk]
    have := sees_le is
    split <;> omega
theorem sees_le : ∀ l : List ND, seeNs l ≤ ND.cnts l
  | [] => by simp [seeNs, ND.cnts]
  | v :: r => by
    have h1 := see_le v
    have h2 := sees_le r
    simp only [seeNs, ND.cnts]; omega
end
mutual
theorem und_cnt (L : Lt) (a : Int) : ∀ (v : ND) (up : Nat), (und L a up v).cnt ≤ v.cnt
  | .mk x d k c s t is ks, up => by
    have ih := unds_cnt L a is (L.joinI up x)
    rw [unds_eq] at ih
    rw [und_mk, ND.cnt_mk]
    split
    · rw [ND.cnt_mk]; omega
    · rw [holeN, ND.cnt_mk]; simp [ND.cnts]
theorem unds_cnt (L : Lt) (a : Int) : ∀ (l : List ND) (up : Nat), ND.cnts (unds L a up l) ≤ ND.cnts l
  | [], up => by simp [unds, ND.cnts]
  | v :: r, up => by
    have h1 := und_cnt L a v up
    have h2 := unds_cnt L a r up
    simp only [unds, ND.cnts]; omega
end
end Go.Ab
