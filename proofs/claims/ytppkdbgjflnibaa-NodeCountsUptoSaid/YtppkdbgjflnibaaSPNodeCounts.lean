/- NodeCounts: the plain law. -/
import Derived.Test.YtppkdbgjflnibaaSNodeI
import Derived.Test.YtppkdbgjflnibaaSNodeR
namespace Go.Ab
open Go.Proofs
set_option linter.unusedVariables false
set_option linter.unusedSimpArgs false

theorem idx_of (x : Int) {n : Nat} (h1 : 1 ≤ n) (h8 : n ≤ 134217728) : ∃ i : Nat, i < n ∧ Int.tmod (IntKind.wrap .i64 ((Int.tmod x n) + n)) n = (i : Int) := by
  have hn : (0 : Int) < (n : Int) := by omega
  have b1 := Int.lt_tmod_of_pos x hn
  have b2 := Int.tmod_lt_of_pos x hn
  rw [wrap64 (by omega) (by omega)]
  have hp : 0 ≤ x.tmod n + n := by omega
  have c1 := Int.tmod_nonneg (n : Int) hp
  have c2 := Int.tmod_lt_of_pos (x.tmod n + n) hn
  refine ⟨((x.tmod n + n).tmod n).toNat, by omega, by omega⟩
theorem deepNs_join {L : Lt} (O : L.Ok) {p : Nat} (hp : p < L.n) : ∀ (is : List ND) (acc : Nat), acc < L.n → labBs L is = true → deepNs L (L.join acc p) is = L.join (deepNs L acc is) p
  | [], acc, _, _ => by simp [deepNs]
  | v :: r, acc, h, hl => by
    simp only [labBs, Bool.and_eq_true] at hl
    have hd := deepN_lt O v hl.1
    rw [deepNs, deepNs]
    have e : L.join (L.join acc p) (deepN L v) = L.join (L.join acc (deepN L v)) p := by
      rw [← O.join_assoc h hp hd, O.join_comm hp hd, O.join_assoc h hd hp]
    rw [e]
    exact deepNs_join O hp r _ (O.join _ _ h hd) hl.2
/-- A node that may be, all told. -/
def mayB (L : Lt) (v : ND) : Bool := labB L v && (rightB L v && shapeB (strip v))
theorem may_raise {L : Lt} (O : L.Ok) {x y p : Nat} {k c s : Int} {t : ByteArray} {is : List ND} {ks : List ByteArray} (h : mayB L (.mk x y k c s t is ks) = true) (hx : x < L.n) (hp : p < L.n) : mayB L (.mk (L.join x p : Nat) (L.join y p : Nat) k c s t is ks) = true := by
  simp only [mayB, Bool.and_eq_true, labB_mk, rightB_mk, strip_mk, decide_eq_true_eq, Lt.is_iff] at h ⊢
  obtain ⟨⟨h1, h2⟩, ⟨h3, h4⟩, h5⟩ := h
  have hj := O.join x p hx hp
  refine ⟨⟨by omega, h2⟩, ⟨?_, h4⟩, h5⟩
  have h3' : y = deepNs L x is := by
    have : (y : Int) = (deepNs L x is : Nat) := by simpa using h3
    omega
  rw [Int.toNat_natCast, deepNs_join O hp is x hx h2, h3']
theorem may_item {L : Lt} {a d k c s : Int} {t : ByteArray} {is : List ND} {ks : List ByteArray} (h : mayB L (.mk a d k c s t is ks) = true) {v : ND} (hv : v ∈ is) : mayB L v = true := by
  simp only [mayB, Bool.and_eq_true, labB_mk, rightB_mk, strip_mk, shapeB_mk, labBs_iff, rightBs_iff] at h ⊢
  obtain ⟨⟨h1, h2⟩, ⟨h3, h4⟩, h5, h6, h7⟩ := h
  refine ⟨h2 v hv, h4 v hv, ?_⟩
  have : ∀ l : List JV, shapeBs l = true → ∀ x ∈ l, shapeB x = true := by
    intro l
    induction l with
    | nil => intro _ x hx; cases hx
    | cons y l ih =>
      intro hl x hx
      simp only [shapeBs, Bool.and_eq_true] at hl
      rcases List.mem_cons.1 hx with rfl | hx
      · exact hl.1
      · exact ih hl.2 x hx
  exact this _ h7 _ (List.mem_map_of_mem hv)
theorem may_kind {L : Lt} {a d k c s : Int} {t : ByteArray} {is : List ND} {ks : List ByteArray} (h : mayB L (.mk a d k c s t is ks) = true) (hi : 0 < is.length) : k = 5 ∨ k = 6 := by
  simp only [mayB, Bool.and_eq_true, strip_mk, shapeB_mk] at h
  have h5 := h.2.2.1
  simp only [preB, List.length_map, Bool.and_eq_true, Bool.not_eq_true', Bool.and_eq_false_iff] at h5
  rcases h5.2 with h | h | h
  · left; simpa using h
  · right; simpa using h
  · have := of_decide_eq_false h; omega
theorem item_ok {e : FV} {L : Lt} (I : IsLat e L) {a d k c s : Int} {t : ByteArray} {is : List ND} {ks : List ByteArray} (hk : k = 5 ∨ k = 6) {j : Nat} (hj : j < is.length) {xa xd xk xc xs : Int} {xt : ByteArray} {xi : List ND} {xks : List ByteArray} (hx : is[j] = .mk xa xd xk xc xs xt xi xks) :
    Rt N_node_Item [.fz (.pt 195 true e 0), .fz (ND.mk a d k c s t is ks).enc, .fz (.int .i64 j)] = some ([.fz (ND.mk (L.joinI xa a) (L.joinI xd a) xk xc xs xt xi xks).enc, .fz (.bool true)], []) := by
  have hE := E_node_Item Rt 0 true e a d k c s t (is.map ND.enc) (ks.map .str) j
  rw [← ND.enc_mk] at hE
  refine rt_call A_node_Item rfl rfl 0 (hE.trans ?_)
  have hr := raise_ok I xa xd xk xc xs xt xi xks a
  have hg : (is.map ND.enc).getD j .nilp = (ND.mk xa xd xk xc xs xt xi xks).enc := by rw [← hx]; simp [hj]
  have d1 : decide ((j : Int) < 0) = false := by simp
  have d2 : decide ((j : Int) ≥ (is.length : Int)) = false := by simp; omega
  have J : J_node_Item_1_0 Rt 0 true e j a d k c s t (is.map ND.enc) (ks.map .str) 0 0 0 0 0 (⟨#[]⟩ : ByteArray) = some ([.fz (ND.mk (L.joinI xa a) (L.joinI xd a) xk xc xs xt xi xks).enc, .fz (.bool true)], []) := by
    rw [J_node_Item_1_0_eq]
    simp only [List.length_map, decide_eq_true (show (j : Int) < (is.length : Int) by omega), decide_eq_true (show (0 : Int) ≤ (j : Int) by omega), Int.toNat_natCast, hg, ND.enc_fits, hr, onR_some, onL_some, List.isEmpty_nil, allF_cons, allF_nil, Bool.and_true, Bool.true_and, when_true', List.getD_cons_zero, List.getD_cons_succ, isF_fz, toF_fz, isBool_bool, toBool_bool, isInt_int, toInt_int, isStr_str, toStr_str, isSl_sl, toSl_sl, List.length_cons, List.length_nil, List.all_cons, List.all_nil, lisFz_fz, ltoFz_fz, beq_self_eq_true, jump_true, ifB_true, ifB_false, isF_pv, isPv_pv, toV_pv, isNil_nilp, isNil_pt, isPt_pt, toAg_ag, cell_ag, isAg_ag, fits_ag, Int.toNat_natCast, Bool.not_true, Bool.not_false, fits_int, fits_bool, fits_str, fits_sl]
  rcases hk with rfl | rfl
  · simp only [show ((5 : Int) != 5) = false from rfl, ifB_false, List.length_map, d1, d2, jump_true, J]
  · simp only [show ((6 : Int) != 5) = true from rfl, show ((6 : Int) != 6) = false from rfl, ifB_false, ifB_true, List.length_map, d1, d2, jump_true, J]

section
variable {e : FV} {L : Lt} {T9 : List FV} (I : IsLat e L) (T : IsTab T9 L) (way : List Int) (hway : way.length ≤ 50) {K : Nat}
include I T hway
theorem counts1 : ∀ (m i N : Nat) (la da ra rd : Nat) (k c s : Int) (t : ByteArray) (is : List ND) (ks : List ByteArray), i + m = way.length → m < N → la < L.n → (ND.mk la da k c s t is ks).Sm → mayB L (.mk la da k c s t is ks) = true →
    onL (L_law09_NodeCounts_1_1 Rt K true N (way.map (.int .i64)) (.pt 195 true e 0) (.sl T9) la i (ND.mk la da k c s t is ks).enc (ND.mk ra rd k c s t is ks).enc) (K_law09_NodeCounts_1 Rt K true) = some ([.fz (.bool true)], [])
  | m, i, 0, _, _, _, _, _, _, _, _, _, _, _, h, _, _, _ => by omega
  | m, i, N + 1, la, da, ra, rd, k, c, s, t, is, ks, him, hN, hla, hsm, hmay => by
    have O := I.ok
    have hl := lives09_ok
    have hIs := nodeIs_ok I hsm
    have hmay' := hmay
    unfold mayB at hmay'
    rw [hmay'] at hIs
    obtain ⟨n1, n2, n3, n4, n5⟩ := nd_cells (.mk ra rd k c s t is ks)
    simp only [ND.is] at n5
    have stop : onL (some (.exit 0, X_law09_NodeCounts_1_2 (.pt 195 true e 0) (ND.mk la da k c s t is ks).enc)) (K_law09_NodeCounts_1 Rt K true) = some ([.fz (.bool true)], []) := by
      simp only [onL_some, X_law09_NodeCounts_1_2_eq, hIs, hl, onR_some, onL_some, List.isEmpty_nil, allF_cons, allF_nil, Bool.and_true, Bool.true_and, when_true', List.getD_cons_zero, List.getD_cons_succ, isF_fz, toF_fz, isBool_bool, toBool_bool, isInt_int, toInt_int, isStr_str, toStr_str, isSl_sl, toSl_sl, List.length_cons, List.length_nil, List.all_cons, List.all_nil, lisFz_fz, ltoFz_fz, beq_self_eq_true, jump_true, ifB_true, ifB_false, isF_pv, isPv_pv, toV_pv, isNil_nilp, isNil_pt, isPt_pt, toAg_ag, cell_ag, isAg_ag, fits_ag, Int.toNat_natCast, Bool.not_true, Bool.not_false, fits_int, fits_bool, fits_str, fits_sl]
    rw [L_law09_NodeCounts_1_1_eq, n1, n5]
    simp only [List.length_map, isSl_sl, toSl_sl, when_true']
    cases m with
    | zero =>
      rw [decide_eq_false (show ¬ ((i : Int) < (way.length : Int)) by omega), ifB_false]
      exact stop
    | succ m =>
      rw [decide_eq_true (show (i : Int) < (way.length : Int) by omega), ifB_true]
      by_cases h0 : is.length = 0
      · rw [decide_eq_false (show ¬ ((is.length : Int) > 0) by omega), ifB_false]
        exact stop
      · rw [decide_eq_true (show (is.length : Int) > 0 by omega), ifB_true, jump_true]
        have hi : is.length ≤ 134217728 ∧ ∀ v ∈ is, v.Sm := by cases hsm with | mk hi _ _ _ h => exact ⟨hi, h⟩
        have hw : (way.map (FV.int .i64)).getD i .nilp = .int .i64 (way.getD i 0) := by simp [show i < way.length by omega]
        obtain ⟨j, hj, ej⟩ := idx_of (way.getD i 0) (show 1 ≤ is.length by omega) hi.1
        have hmem := List.getElem_mem hj
        have hxsm := hi.2 _ hmem
        have hxmay := may_item hmay hmem
        generalize hx : is[j] = x at hxsm hxmay
        obtain ⟨xa, xd, xk, xc, xs, xt, xi, xks⟩ := x
        have hxm := hxmay
        simp only [mayB, Bool.and_eq_true] at hxm
        obtain ⟨pa, pd, rfl, rfl, hpa, hpd, hle⟩ := may_labels O hxm.1 hxm.2.1
        have it := item_ok I (a := la) (d := da) (c := c) (s := s) (t := t) (ks := ks) (may_kind hmay (by omega)) hj hx
        rw [Lt.joinI_nat hpa hla, Lt.joinI_nat hpd hla] at it
        have j1 := join9_ok T O hla hpa
        have hj1 := O.join la pa hla hpa
        have j2 := join9_ok T O hj1 hpd
        have e1 : L.join pa la = L.join la pa := O.join_comm hpa hla
        have e2 : L.join pd la = L.join (L.join la pa) pd := by
          rw [← O.join_assoc hla hpa hpd]
          have : L.join pa pd = pd := by
            have := O.leq_join hpa hpd
            rw [hle] at this
            simpa using this.symm
          rw [this, O.join_comm hpd hla]
        rw [e1, e2] at it
        have hsm2 : (ND.mk (L.join la pa : Nat) (L.join (L.join la pa) pd : Nat) xk xc xs xt xi xks).Sm := by
          cases hxsm with | mk q1 q2 q3 q4 q5 => exact .mk q1 q2 q3 q4 q5
        have hmay2 : mayB L (.mk (L.join la pa : Nat) (L.join (L.join la pa) pd : Nat) xk xc xs xt xi xks) = true := by
          have := may_raise O hxmay hpa hla
          rwa [e1, e2] at this
        have hIs2 := nodeIs_ok I hsm2
        have hmay2' := hmay2
        unfold mayB at hmay2'
        rw [hmay2'] at hIs2
        have ih := counts1 m (i + 1) N (L.join la pa) (L.join (L.join la pa) pd) pa pd xk xc xs xt xi xks (by omega) (by omega) hj1 hsm2 hmay2
        have hg : (is.map ND.enc).getD j .nilp = (ND.mk pa pd xk xc xs xt xi xks).enc := by rw [← hx]; simp [hj]
        obtain ⟨m1, m2, m3, m4, m5⟩ := nd_cells (.mk pa pd xk xc xs xt xi xks)
        obtain ⟨o1, o2, o3, o4, o5⟩ := nd_cells (.mk (L.join la pa : Nat) (L.join (L.join la pa) pd : Nat) xk xc xs xt xi xks)
        simp only [ND.a, ND.d, ND.k] at m2 m3 m4 o2 o3 o4
        have hz : (!decide ((is.length : Int) = 0)) = true := by simp; intro h; rw [h] at h0; exact h0 rfl
        rw [J_law09_NodeCounts_1_1_eq, n1, n5]
        simp only [List.length_map, isSl_sl, toSl_sl, when_true', decide_eq_true (show (i : Int) < (way.length : Int) by omega), decide_eq_true (show (0 : Int) ≤ (i : Int) by omega), Int.toNat_natCast, hw, fits_int, isInt_int, toInt_int, Bool.and_true, hz, ej, it, onR_some, List.isEmpty_nil, allF_cons, allF_nil, List.getD_cons_zero, List.getD_cons_succ, toF_fz, isBool_bool, toBool_bool, ND.enc_fits, decide_eq_true (show (j : Int) < (is.length : Int) by omega), decide_eq_true (show (0 : Int) ≤ (j : Int) by omega), hg, m1, m2, m3, m4, o1, o2, o3, o4, j1, j2, Bool.not_true, ifB_false, bne_self_eq_false, hIs2, wrn (show i < 1152921504606846976 by omega), ih]
end
theorem pure_NodeCounts (f0 f1 f2 : FV) (h0 : WV Try.prog 40 134217728 3 f0) (h1 : WV Try.prog 40 134217728 27 f1) (h2 : WV Try.prog 40 134217728 42 f2) : Rt N_law09_NodeCounts [.fz f0, .fz f1, .fz f2] = some ([.fz (.bool true)], []) := by
  obtain ⟨kk, rfl, _⟩ := int_of (k := .i64) (by kernel_rfl) (by kernel_rfl) h0
  obtain ⟨v, rfl, hv⟩ := nd_of (t := 27) (ts := 9) (Nat.le_refl _) (by kernel_rfl) (by kernel_rfl) (by kernel_rfl) (by kernel_rfl) (by kernel_rfl) (by kernel_rfl) h1
  obtain ⟨way, rfl, _, _⟩ := wc_ints (ts := 3) (k := .i64) (by kernel_rfl) (by kernel_rfl) (slA_of (by kernel_rfl) (by kernel_rfl) h2)
  obtain ⟨e, T9, L, hof, I, T⟩ := of_ok kk
  have O := I.ok
  have hl := lives09_ok
  obtain ⟨b, hb, _⟩ := nlight_ok hv 300 (by omega) (by omega)
  have i2 := nis9_ok T O hv
  have i1 := nodeIs_ok I hv
  obtain ⟨a, d, k, c, s, t, is, ks⟩ := v
  have hE := E_law09_NodeCounts Rt 60 true kk a d k c s t (is.map ND.enc) (ks.map .str) (way.map (.int .i64))
  rw [← ND.enc_mk] at hE
  refine rt_call A_law09_NodeCounts rfl rfl 60 (hE.trans ?_)
  rw [hb]
  cases b with
  | false => simp only [onR_some, onL_some, List.isEmpty_nil, allF_cons, allF_nil, Bool.and_true, Bool.true_and, when_true', List.getD_cons_zero, List.getD_cons_succ, isF_fz, toF_fz, isBool_bool, toBool_bool, isInt_int, toInt_int, isStr_str, toStr_str, isSl_sl, toSl_sl, List.length_cons, List.length_nil, List.all_cons, List.all_nil, lisFz_fz, ltoFz_fz, beq_self_eq_true, jump_true, ifB_true, ifB_false, isF_pv, isPv_pv, toV_pv, isNil_nilp, isNil_pt, isPt_pt, toAg_ag, cell_ag, isAg_ag, fits_ag, Int.toNat_natCast, Bool.not_true, Bool.not_false, fits_int, fits_bool, fits_str, fits_sl, hl]
  | true =>
    by_cases h50 : (way.length : Int) > 50
    · simp only [onR_some, onL_some, List.isEmpty_nil, allF_cons, allF_nil, Bool.and_true, Bool.true_and, when_true', List.getD_cons_zero, List.getD_cons_succ, isF_fz, toF_fz, isBool_bool, toBool_bool, isInt_int, toInt_int, isStr_str, toStr_str, isSl_sl, toSl_sl, List.length_cons, List.length_nil, List.all_cons, List.all_nil, lisFz_fz, ltoFz_fz, beq_self_eq_true, jump_true, ifB_true, ifB_false, isF_pv, isPv_pv, toV_pv, isNil_nilp, isNil_pt, isPt_pt, toAg_ag, cell_ag, isAg_ag, fits_ag, Int.toNat_natCast, Bool.not_true, Bool.not_false, fits_int, fits_bool, fits_str, fits_sl, List.length_map, decide_eq_true h50, hl]
    simp only [onR_some, onL_some, List.isEmpty_nil, allF_cons, allF_nil, Bool.and_true, Bool.true_and, when_true', List.getD_cons_zero, List.getD_cons_succ, isF_fz, toF_fz, isBool_bool, toBool_bool, isInt_int, toInt_int, isStr_str, toStr_str, isSl_sl, toSl_sl, List.length_cons, List.length_nil, List.all_cons, List.all_nil, lisFz_fz, ltoFz_fz, beq_self_eq_true, jump_true, ifB_true, ifB_false, isF_pv, isPv_pv, toV_pv, isNil_nilp, isNil_pt, isPt_pt, toAg_ag, cell_ag, isAg_ag, fits_ag, Int.toNat_natCast, Bool.not_true, Bool.not_false, fits_int, fits_bool, fits_str, fits_sl, List.length_map, decide_eq_false h50]
    rw [J_law09_NodeCounts_3_0_eq, ← ND.enc_mk, hof]
    simp only [onR_some, onL_some, List.isEmpty_nil, allF_cons, allF_nil, Bool.and_true, Bool.true_and, when_true', List.getD_cons_zero, List.getD_cons_succ, isF_fz, toF_fz, isBool_bool, toBool_bool, isInt_int, toInt_int, isStr_str, toStr_str, isSl_sl, toSl_sl, List.length_cons, List.length_nil, List.all_cons, List.all_nil, lisFz_fz, ltoFz_fz, beq_self_eq_true, jump_true, ifB_true, ifB_false, isF_pv, isPv_pv, toV_pv, isNil_nilp, isNil_pt, isPt_pt, toAg_ag, cell_ag, isAg_ag, fits_ag, Int.toNat_natCast, Bool.not_true, Bool.not_false, fits_int, fits_bool, fits_str, fits_sl, i2]
    cases hq : (labB L (ND.mk a d k c s t is ks) && (rightB L (ND.mk a d k c s t is ks) && shapeB (strip (ND.mk a d k c s t is ks)))) with
    | false => simp only [onR_some, onL_some, List.isEmpty_nil, allF_cons, allF_nil, Bool.and_true, Bool.true_and, when_true', List.getD_cons_zero, List.getD_cons_succ, isF_fz, toF_fz, isBool_bool, toBool_bool, isInt_int, toInt_int, isStr_str, toStr_str, isSl_sl, toSl_sl, List.length_cons, List.length_nil, List.all_cons, List.all_nil, lisFz_fz, ltoFz_fz, beq_self_eq_true, jump_true, ifB_true, ifB_false, isF_pv, isPv_pv, toV_pv, isNil_nilp, isNil_pt, isPt_pt, toAg_ag, cell_ag, isAg_ag, fits_ag, Int.toNat_natCast, Bool.not_true, Bool.not_false, fits_int, fits_bool, fits_str, fits_sl, hl]
    | true =>
      have hmay : mayB L (ND.mk a d k c s t is ks) = true := hq
      rw [hq] at i1
      simp only [Bool.and_eq_true] at hq
      obtain ⟨la, de, rfl, rfl, hla, hde, hld⟩ := may_labels O hq.1 hq.2.1
      have stop : onL (some (.exit 0, X_law09_NodeCounts_1_0 (.pt 195 true e 0) la de k c s t (is.map ND.enc) (ks.map .str))) (K_law09_NodeCounts_1 Rt 60 true) = some ([.fz (.bool true)], []) := by
        simp only [onL_some, X_law09_NodeCounts_1_0_eq, ← ND.enc_mk, i1, hl, onR_some, onL_some, List.isEmpty_nil, allF_cons, allF_nil, Bool.and_true, Bool.true_and, when_true', List.getD_cons_zero, List.getD_cons_succ, isF_fz, toF_fz, isBool_bool, toBool_bool, isInt_int, toInt_int, isStr_str, toStr_str, isSl_sl, toSl_sl, List.length_cons, List.length_nil, List.all_cons, List.all_nil, lisFz_fz, ltoFz_fz, beq_self_eq_true, jump_true, ifB_true, ifB_false, isF_pv, isPv_pv, toV_pv, isNil_nilp, isNil_pt, isPt_pt, toAg_ag, cell_ag, isAg_ag, fits_ag, Int.toNat_natCast, Bool.not_true, Bool.not_false, fits_int, fits_bool, fits_str, fits_sl]
      simp only [onR_some, onL_some, List.isEmpty_nil, allF_cons, allF_nil, Bool.and_true, Bool.true_and, when_true', List.getD_cons_zero, List.getD_cons_succ, isF_fz, toF_fz, isBool_bool, toBool_bool, isInt_int, toInt_int, isStr_str, toStr_str, isSl_sl, toSl_sl, List.length_cons, List.length_nil, List.all_cons, List.all_nil, lisFz_fz, ltoFz_fz, beq_self_eq_true, jump_true, ifB_true, ifB_false, isF_pv, isPv_pv, toV_pv, isNil_nilp, isNil_pt, isPt_pt, toAg_ag, cell_ag, isAg_ag, fits_ag, Int.toNat_natCast, Bool.not_true, Bool.not_false, fits_int, fits_bool, fits_str, fits_sl]
      rw [L_law09_NodeCounts_1_0_eq, List.length_map, List.length_map]
      by_cases hw0 : way.length = 0
      · rw [decide_eq_false (show ¬ ((0 : Int) < (way.length : Int)) by omega), ifB_false]
        exact stop
      rw [decide_eq_true (show (0 : Int) < (way.length : Int) by omega), ifB_true]
      by_cases h0 : is.length = 0
      · rw [decide_eq_false (show ¬ ((is.length : Int) > 0) by omega), ifB_false]
        exact stop
      rw [decide_eq_true (show (is.length : Int) > 0 by omega), ifB_true, jump_true]
      have hi : is.length ≤ 134217728 ∧ ∀ v ∈ is, v.Sm := by cases hv with | mk hi _ _ _ h => exact ⟨hi, h⟩
      have hw : (way.map (FV.int .i64)).getD 0 .nilp = .int .i64 (way.getD 0 0) := by simp [show 0 < way.length by omega]
      obtain ⟨j, hj, ej⟩ := idx_of (way.getD 0 0) (show 1 ≤ is.length by omega) hi.1
      have hmem := List.getElem_mem hj
      have hxsm := hi.2 _ hmem
      have hxmay := may_item hmay hmem
      generalize hx : is[j] = x at hxsm hxmay
      obtain ⟨xa, xd, xk, xc, xs, xt, xi, xks⟩ := x
      have hxm := hxmay
      simp only [mayB, Bool.and_eq_true] at hxm
      obtain ⟨pa, pd, rfl, rfl, hpa, hpd, hle⟩ := may_labels O hxm.1 hxm.2.1
      have it := item_ok I (a := la) (d := de) (c := c) (s := s) (t := t) (ks := ks) (may_kind hmay (by omega)) hj hx
      rw [Lt.joinI_nat hpa hla, Lt.joinI_nat hpd hla] at it
      have j1 := join9_ok T O hla hpa
      have hj1 := O.join la pa hla hpa
      have j2 := join9_ok T O hj1 hpd
      have e1 : L.join pa la = L.join la pa := O.join_comm hpa hla
      have e2 : L.join pd la = L.join (L.join la pa) pd := by
        rw [← O.join_assoc hla hpa hpd]
        have : L.join pa pd = pd := by
          have := O.leq_join hpa hpd
          rw [hle] at this
          simpa using this.symm
        rw [this, O.join_comm hpd hla]
      rw [e1, e2] at it
      have hsm2 : (ND.mk (L.join la pa : Nat) (L.join (L.join la pa) pd : Nat) xk xc xs xt xi xks).Sm := by
        cases hxsm with | mk q1 q2 q3 q4 q5 => exact .mk q1 q2 q3 q4 q5
      have hmay2 : mayB L (.mk (L.join la pa : Nat) (L.join (L.join la pa) pd : Nat) xk xc xs xt xi xks) = true := by
        have := may_raise O hxmay hpa hla
        rwa [e1, e2] at this
      have hIs2 := nodeIs_ok I hsm2
      have hmay2' := hmay2
      unfold mayB at hmay2'
      rw [hmay2'] at hIs2
      have ih := counts1 I T way (by omega) (K := 60) (way.length - 1) 1 59 (L.join la pa) (L.join (L.join la pa) pd) pa pd xk xc xs xt xi xks (by omega) (by omega) hj1 hsm2 hmay2
      have hg : (is.map ND.enc).getD j .nilp = (ND.mk pa pd xk xc xs xt xi xks).enc := by rw [← hx]; simp [hj]
      obtain ⟨m1, m2, m3, m4, m5⟩ := nd_cells (.mk pa pd xk xc xs xt xi xks)
      obtain ⟨o1, o2, o3, o4, o5⟩ := nd_cells (.mk (L.join la pa : Nat) (L.join (L.join la pa) pd : Nat) xk xc xs xt xi xks)
      simp only [ND.a, ND.d, ND.k] at m2 m3 m4 o2 o3 o4
      have hz : (!decide ((is.length : Int) = 0)) = true := by simp; intro h; rw [h] at h0; exact h0 rfl
      have w1 : IntKind.wrap .i64 ((0 : Int) + 1) = ((1 : Nat) : Int) := by rw [wrap64 (by omega) (by omega)]; rfl
      have t0 : (0 : Int).toNat = 0 := rfl
      rw [J_law09_NodeCounts_1_0_eq, ← ND.enc_mk]
      simp only [List.length_map, isSl_sl, toSl_sl, when_true', decide_eq_true (show (0 : Int) < (way.length : Int) by omega), Int.le_refl, decide_true, t0, Int.toNat_natCast, hw, fits_int, isInt_int, toInt_int, Bool.and_true, hz, ej, it, onR_some, List.isEmpty_nil, allF_cons, allF_nil, List.getD_cons_zero, List.getD_cons_succ, toF_fz, isBool_bool, toBool_bool, ND.enc_fits, decide_eq_true (show (j : Int) < (is.length : Int) by omega), decide_eq_true (show (0 : Int) ≤ (j : Int) by omega), hg, m1, m2, m3, m4, o1, o2, o3, o4, j1, j2, Bool.not_true, ifB_false, bne_self_eq_false, hIs2, w1, ih]
end Go.Ab
