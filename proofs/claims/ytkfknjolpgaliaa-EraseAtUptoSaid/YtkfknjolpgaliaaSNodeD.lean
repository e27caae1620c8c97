/- What is deep, by the program; nodes that may be. (For seats without node.Is.) -/
import Derived.Test.YtkfknjolpgaliaaSNodeP
namespace Go.Ab
set_option linter.unusedVariables false
set_option linter.unusedSimpArgs false
set_option linter.unusedSectionVars false
/-! What is deep, by the program. -/
def deepP (L : Lt) : Nat → List ND → Nat
  | acc, [] => acc
  | acc, v :: r => deepP L (L.joinI (L.joinI acc v.a) v.d) r
theorem join2_ok {e : FV} {L : Lt} (I : IsLat e L) (acc : Nat) (x y : Int) : Rt N_node_join [.fz (.pt 195 true e 0), .fz (.int .i64 acc), .fz (.sl [.int .i64 x, .int .i64 y])] = some ([.fz (.int .i64 (L.joinI (L.joinI acc x) y))], []) := by
  refine rt_call A_node_join rfl rfl 4 ?_
  have w0 : IntKind.wrap .i64 ((0 : Int) + 1) = 1 := by rw [wrap64 (by omega) (by omega)]; rfl
  have w1 : IntKind.wrap .i64 ((1 : Int) + 1) = 2 := by rw [wrap64 (by omega) (by omega)]; rfl
  rw [E_node_join, L_node_join_1_0_eq]
  have d1 : decide ((0 : Int) < (([FV.int .i64 x, .int .i64 y].length : Nat) : Int)) = true := rfl
  have d2 : decide ((1 : Int) < (([FV.int .i64 x, .int .i64 y].length : Nat) : Int)) = true := rfl
  have d3 : decide ((2 : Int) < (([FV.int .i64 x, .int .i64 y].length : Nat) : Int)) = false := rfl
  have z0 : decide ((0 : Int) ≤ 0) = true := rfl
  have z1 : decide ((0 : Int) ≤ 1) = true := rfl
  have g0 : ([FV.int .i64 x, .int .i64 y]).getD (0 : Int).toNat .nilp = .int .i64 x := rfl
  have g1 : ([FV.int .i64 x, .int .i64 y]).getD (1 : Int).toNat .nilp = .int .i64 y := rfl
  simp only [d1, z0, g0, ifB_true, Bool.and_true, when_true', fits_int, isInt_int, toInt_int, lat_Join I, onR_some, List.isEmpty_nil, allF_cons, allF_nil, List.getD_cons_zero, toF_fz, w0]
  rw [L_node_join_1_0_eq]
  simp only [d2, z1, g1, ifB_true, Bool.and_true, when_true', fits_int, isInt_int, toInt_int, lat_Join I, onR_some, List.isEmpty_nil, allF_cons, allF_nil, List.getD_cons_zero, toF_fz, w1]
  rw [L_node_join_1_0_eq]
  simp only [d3, ifB_false, onL_some, X_node_join_1_0_eq]
theorem nd_cells (v : ND) : FV.isAg 8 v.enc = true ∧ FV.cell v.enc 0 = .int .i64 v.a ∧ FV.cell v.enc 1 = .int .i64 v.d ∧ FV.cell v.enc 2 = .int .i64 v.k ∧ FV.cell v.enc 6 = .sl (v.is.map ND.enc) := by
  obtain ⟨a, d, k, c, s, t, is, ks⟩ := v
  rw [ND.enc_mk]; exact ⟨rfl, rfl, rfl, rfl, rfl⟩
theorem deepP_ok {e : FV} {L : Lt} (I : IsLat e L) (acc : Nat) (is : List ND) (hi : is.length ≤ 134217728) : Rt N_node_deep [.fz (.pt 195 true e 0), .fz (.int .i64 acc), .fz (.sl (is.map ND.enc))] = some ([.fz (.int .i64 (deepP L acc is))], []) := by
  have loop : ∀ (j : Nat) (i acc : Nat), i + j = is.length → L_node_deep_1_0 Rt (is.length + 1) true (j + 1) e acc (is.map ND.enc) is.length i = some (.exit 0, X_node_deep_1_0 (deepP L acc (is.drop i) : Nat)) := by
    intro j
    induction j with
    | zero =>
      intro i acc hij
      rw [L_node_deep_1_0_eq, List.drop_eq_nil_of_le (by omega)]
      simp [show ¬ ((i : Int) < (is.length : Int)) by omega, deepP]
    | succ j jh =>
      intro i acc hij
      have hl : i < is.length := by omega
      obtain ⟨n1, n2, n3, _⟩ := nd_cells is[i]
      have h1 := join2_ok I acc (is[i]).a (is[i]).d
      have h2 := jh (i + 1) (L.joinI (L.joinI acc (is[i]).a) (is[i]).d) (by omega)
      push_cast at h2
      have hw : IntKind.wrap .i64 ((i : Int) + 1) = (i : Int) + 1 := wrap64 (by omega) (by omega)
      rw [L_node_deep_1_0_eq, drop_cons hl, deepP]
      simp [show (i : Int) < (is.length : Int) by omega, List.getElem?_eq_getElem hl, n1, n2, n3, h1, onR_some, hw, h2]
  have l0 := loop is.length 0 acc (by omega)
  rw [show ((0 : Nat) : Int) = 0 from rfl, List.drop_zero] at l0
  refine rt_call A_node_deep rfl rfl (is.length + 1) ?_
  rw [E_node_deep, List.length_map, l0, onL_some, X_node_deep_1_0_eq]
theorem deepP_eq {L : Lt} (O : L.Ok) : ∀ (is : List ND) (acc : Nat), acc < L.n → labBs L is = true → rightBs L is = true → deepP L acc is = deepNs L acc is
  | [], acc, _, _, _ => by simp [deepP, deepNs]
  | v :: r, acc, h, hl, hr => by
    simp only [labBs, rightBs, Bool.and_eq_true] at hl hr
    obtain ⟨a, d, k, c, s, t, is, ks⟩ := v
    obtain ⟨x, y, rfl, rfl, hx, hy, hxy⟩ := may_labels O hl.1 hr.1
    have hd : deepN L (ND.mk x y k c s t is ks) = y := by
      have := hr.1
      rw [rightB_mk, Bool.and_eq_true, decide_eq_true_eq] at this
      rw [deepN_mk]; omega
    rw [deepP, deepNs, hd]
    show deepP L (L.joinI (L.joinI acc (x : Int)) (y : Int)) r = _
    have h1 := O.join acc x h hx
    rw [Lt.joinI_nat h hx, Lt.joinI_nat h1 hy]
    have e : L.join (L.join acc x) y = L.join acc y := by
      rw [← O.join_assoc h hx hy]
      have : L.join x y = y := by
        have := O.leq_join hx hy
        rw [hxy] at this
        simpa using this.symm
      rw [this]
    rw [e]
    exact deepP_eq O r _ (O.join acc y h hy) hl.2 hr.2
theorem deepNs_join {L : Lt} (O : L.Ok) {p : Nat} (hp : p < L.n) : ∀ (is : List ND) (acc : Nat), acc < L.n → labBs L is = true → deepNs L (L.join acc p) is = L.join (deepNs L acc is) p
  | [], acc, _, _ => by simp [deepNs]
  | v :: r, acc, h, hl => by
    simp only [labBs, Bool.and_eq_true] at hl
    have hd := deepN_lt O v hl.1
    rw [deepNs, deepNs]
    have e : L.join (L.join acc p) (deepN L v) = L.join (L.join acc (deepN L v)) p := by
      rw [← O.join_assoc h hp hd, O.join_comm hp hd, O.join_assoc h hd hp]
    rw [e]
    exact deepNs_join O hp r _ (O.join _ _ h hd) hl.2
/-- A node that may be, all told. -/
def mayB (L : Lt) (v : ND) : Bool := labB L v && (rightB L v && shapeB (strip v))
theorem may_raise {L : Lt} (O : L.Ok) {x y p : Nat} {k c s : Int} {t : ByteArray} {is : List ND} {ks : List ByteArray} (h : mayB L (.mk x y k c s t is ks) = true) (hx : x < L.n) (hp : p < L.n) : mayB L (.mk (L.join x p : Nat) (L.join y p : Nat) k c s t is ks) = true := by
  simp only [mayB, Bool.and_eq_true, labB_mk, rightB_mk, strip_mk, decide_eq_true_eq, Lt.is_iff] at h ⊢
  obtain ⟨⟨h1, h2⟩, ⟨h3, h4⟩, h5⟩ := h
  have hj := O.join x p hx hp
  refine ⟨⟨by omega, h2⟩, ⟨?_, h4⟩, h5⟩
  have h3' : y = deepNs L x is := by
    have : (y : Int) = (deepNs L x is : Nat) := by simpa using h3
    omega
  rw [Int.toNat_natCast, deepNs_join O hp is x hx h2, h3']
theorem may_item {L : Lt} {a d k c s : Int} {t : ByteArray} {is : List ND} {ks : List ByteArray} (h : mayB L (.mk a d k c s t is ks) = true) {v : ND} (hv : v ∈ is) : mayB L v = true := by
  simp only [mayB, Bool.and_eq_true, labB_mk, rightB_mk, strip_mk, shapeB_mk, labBs_iff, rightBs_iff] at h ⊢
  obtain ⟨⟨h1, h2⟩, ⟨h3, h4⟩, h5, h6, h7⟩ := h
  refine ⟨h2 v hv, h4 v hv, ?_⟩
  have : ∀ l : List JV, shapeBs l = true → ∀ x ∈ l, shapeB x = true := by
    intro l
    induction l with
    | nil => intro _ x hx; cases hx
    | cons y l ih =>
      intro hl x hx
      simp only [shapeBs, Bool.and_eq_true] at hl
      rcases List.mem_cons.1 hx with rfl | hx
      · exact hl.1
      · exact ih hl.2 x hx
  exact this _ h7 _ (List.mem_map_of_mem hv)
theorem may_kind {L : Lt} {a d k c s : Int} {t : ByteArray} {is : List ND} {ks : List ByteArray} (h : mayB L (.mk a d k c s t is ks) = true) (hi : 0 < is.length) : k = 5 ∨ k = 6 := by
  simp only [mayB, Bool.and_eq_true, strip_mk, shapeB_mk] at h
  have h5 := h.2.2.1
  simp only [preB, List.length_map, Bool.and_eq_true, Bool.not_eq_true', Bool.and_eq_false_iff] at h5
  rcases h5.2 with h | h | h
  · left; simpa using h
  · right; simpa using h
  · have := of_decide_eq_false h; omega
end Go.Ab
