/- Nodes that may be, plainly. -/
import Derived.Test.YtdpfpdejipkffaaSNode2
import Derived.Test.YtdpfpdejipkffaaSLatLaw
namespace Go.Ab
set_option linter.unusedVariables false
set_option linter.unusedSimpArgs false
set_option linter.unusedSectionVars false
theorem nd_cells (v : ND) : FV.isAg 8 v.enc = true ∧ FV.cell v.enc 0 = .int .i64 v.a ∧ FV.cell v.enc 1 = .int .i64 v.d ∧ FV.cell v.enc 2 = .int .i64 v.k ∧ FV.cell v.enc 6 = .sl (v.is.map ND.enc) := by
  obtain ⟨a, d, k, c, s, t, is, ks⟩ := v
  rw [ND.enc_mk]; exact ⟨rfl, rfl, rfl, rfl, rfl⟩
theorem deepNs_ge {L : Lt} (O : L.Ok) : ∀ (l : List ND) (acc : Nat), acc < L.n → labBs L l = true → L.leq acc (deepNs L acc l) = true
  | [], acc, h, _ => by simpa [deepNs] using O.refl acc h
  | v :: r, acc, h, hl => by
    simp only [labBs, Bool.and_eq_true] at hl
    have hd := deepN_lt O v hl.1
    have hj := O.join _ _ h hd
    rw [deepNs]
    exact O.trans _ _ _ h hj (deepNs_lt O r _ hj hl.2) (O.joinl _ _ h hd) (deepNs_ge O r _ hj hl.2)
/-- A node that may be: its labels are levels. -/
theorem may_labels {L : Lt} (O : L.Ok) {a d k c s : Int} {t : ByteArray} {is : List ND} {ks : List ByteArray} (h1 : labB L (.mk a d k c s t is ks) = true) (h2 : rightB L (.mk a d k c s t is ks) = true) : ∃ x y : Nat, a = x ∧ d = y ∧ x < L.n ∧ y < L.n ∧ L.leq x y = true := by
  rw [labB_mk, Bool.and_eq_true] at h1
  rw [rightB_mk, Bool.and_eq_true, decide_eq_true_eq] at h2
  have ha := Lt.is_iff.1 h1.1
  exact ⟨a.toNat, _, by omega, h2.1, by omega, deepNs_lt O is _ (by omega) h1.2, deepNs_ge O is _ (by omega) h1.2⟩
theorem deepNs_join {L : Lt} (O : L.Ok) {p : Nat} (hp : p < L.n) : ∀ (is : List ND) (acc : Nat), acc < L.n → labBs L is = true → deepNs L (L.join acc p) is = L.join (deepNs L acc is) p
  | [], acc, _, _ => by simp [deepNs]
  | v :: r, acc, h, hl => by
    simp only [labBs, Bool.and_eq_true] at hl
    have hd := deepN_lt O v hl.1
    rw [deepNs, deepNs]
    have e : L.join (L.join acc p) (deepN L v) = L.join (L.join acc (deepN L v)) p := by
      rw [← O.join_assoc h hp hd, O.join_comm hp hd, O.join_assoc h hd hp]
    rw [e]
    exact deepNs_join O hp r _ (O.join _ _ h hd) hl.2
/-- A node that may be, all told. -/
def mayB (L : Lt) (v : ND) : Bool := labB L v && (rightB L v && shapeB (strip v))
theorem may_raise {L : Lt} (O : L.Ok) {x y p : Nat} {k c s : Int} {t : ByteArray} {is : List ND} {ks : List ByteArray} (h : mayB L (.mk x y k c s t is ks) = true) (hx : x < L.n) (hp : p < L.n) : mayB L (.mk (L.join x p : Nat) (L.join y p : Nat) k c s t is ks) = true := by
  simp only [mayB, Bool.and_eq_true, labB_mk, rightB_mk, strip_mk, decide_eq_true_eq, Lt.is_iff] at h ⊢
  obtain ⟨⟨h1, h2⟩, ⟨h3, h4⟩, h5⟩ := h
  have hj := O.join x p hx hp
  refine ⟨⟨by omega, h2⟩, ⟨?_, h4⟩, h5⟩
  have h3' : y = deepNs L x is := by
    have : (y : Int) = (deepNs L x is : Nat) := by simpa using h3
    omega
  rw [Int.toNat_natCast, deepNs_join O hp is x hx h2, h3']
theorem may_item {L : Lt} {a d k c s : Int} {t : ByteArray} {is : List ND} {ks : List ByteArray} (h : mayB L (.mk a d k c s t is ks) = true) {v : ND} (hv : v ∈ is) : mayB L v = true := by
  simp only [mayB, Bool.and_eq_true, labB_mk, rightB_mk, strip_mk, shapeB_mk, labBs_iff, rightBs_iff] at h ⊢
  obtain ⟨⟨h1, h2⟩, ⟨h3, h4⟩, h5, h6, h7⟩ := h
  refine ⟨h2 v hv, h4 v hv, ?_⟩
  have : ∀ l : List JV, shapeBs l = true → ∀ x ∈ l, shapeB x = true := by
    intro l
    induction l with
    | nil => intro _ x hx; cases hx
    | cons y l ih =>
      intro hl x hx
      simp only [shapeBs, Bool.and_eq_true] at hl
      rcases List.mem_cons.1 hx with rfl | hx
      · exact hl.1
      · exact ih hl.2 x hx
  exact this _ h7 _ (List.mem_map_of_mem hv)
theorem may_kind {L : Lt} {a d k c s : Int} {t : ByteArray} {is : List ND} {ks : List ByteArray} (h : mayB L (.mk a d k c s t is ks) = true) (hi : 0 < is.length) : k = 5 ∨ k = 6 := by
  simp only [mayB, Bool.and_eq_true, strip_mk, shapeB_mk] at h
  have h5 := h.2.2.1
  simp only [preB, List.length_map, Bool.and_eq_true, Bool.not_eq_true', Bool.and_eq_false_iff] at h5
  rcases h5.2 with h | h | h
  · left; simpa using h
  · right; simpa using h
  · have := of_decide_eq_false h; omega
end Go.Ab
