/- Nodes that may be, plainly. -/
import Derived.Test.YtdpfpdejipkffaaSNode2
import Derived.Test.YtdpfpdejipkffaaSLatLaw
namespace Go.Ab
set_option linter.unusedVariables false
set_option linter.unusedSimpArgs false
set_option linter.unusedSectionVars false
theorem nd_cells (v : ND) : FV.isAg 8 v.enc = true ∧ FV.cell v.enc 0 = .int .i64 v.a ∧ FV.cell v.enc 1 = .int .i64 v.d ∧ FV.cell v.enc 2 = .int .i64 v.k ∧ FV.cell v.enc 6 = .sl (v.is.map ND.enc) := by
  obtain ⟨a, d, k, c, s, t, is, ks⟩ := v
  rw [ND.enc_mk]; exact ⟨rfl, rfl, rfl, rfl, rfl⟩
theorem deepNs_join {L : Lt} (O : L.Ok) {p : Nat} (hp : p < L.n) : ∀ (is : List ND) (acc : Nat), acc < L.n → labBs L is = true → deepNs L (L.join acc p) is = L.join (deepNs L acc is) p
  | [], acc, _, _ => by simp [deepNs]
  | v :: r, acc, h, hl => by
    simp only [labBs, Bool.and_eq_true] at hl
    have hd := deepN_lt O v hl.1
    rw [deepNs, deepNs]
    have e : L.join (L.join acc p) (deepN L v) = L.join (L.join acc (deepN L v)) p := by
      rw [← O.join_assoc h hp hd, O.join_comm hp hd, O.join_assoc h hd hp]
    rw [e]
    exact deepNs_join O hp r _ (O.join _ _ h hd) hl.2
/-- A node that may be, all told. -/
def mayB (L : Lt) (v : ND) : Bool := labB L v && (rightB L v && shapeB (strip v))
theorem may_item {L : Lt} {a d k c s : Int} {t : ByteArray} {is : List ND} {ks : List ByteArray} (h : mayB L (.mk a d k c s t is ks) = true) {v : ND} (hv : v ∈ is) : mayB L v = true := by
  simp only [mayB, Bool.and_eq_true, labB_mk, rightB_mk, strip_mk, shapeB_mk, labBs_iff, rightBs_iff] at h ⊢
  obtain ⟨⟨h1, h2⟩, ⟨h3, h4⟩, h5, h6, h7⟩ := h
  refine ⟨h2 v hv, h4 v hv, ?_⟩
  have : ∀ l : List JV, shapeBs l = true → ∀ x ∈ l, shapeB x = true := by
    intro l
    induction l with
    | nil => intro _ x hx; cases hx
    | cons y l ih =>
      intro hl x hx
      simp only [shapeBs, Bool.and_eq_true] at hl
      rcases List.mem_cons.1 hx with rfl | hx
      · exact hl.1
      · exact ih hl.2 x hx
  exact this _ h7 _ (List.mem_map_of_mem hv)
end Go.Ab
