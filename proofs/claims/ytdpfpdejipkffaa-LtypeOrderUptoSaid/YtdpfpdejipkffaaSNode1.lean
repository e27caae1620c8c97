/- The reference's labels of nodes. -/
import Derived.Test.YtdpfpdejipkffaaSNode0
import Derived.Test.YtdpfpdejipkffaaSTab9J
namespace Go.Ab
set_option linter.unusedVariables false
set_option linter.unusedSimpArgs false

mutual
def labB (L : Lt) : ND → Bool
  | .mk a _ _ _ _ _ is _ => L.is a && labBs L is
def labBs (L : Lt) : List ND → Bool
  | [] => true
  | v :: r => labB L v && labBs L r
end
mutual
def deepN (L : Lt) : ND → Nat
  | .mk a _ _ _ _ _ is _ => deepNs L a.toNat is
def deepNs (L : Lt) : Nat → List ND → Nat
  | acc, [] => acc
  | acc, v :: r => deepNs L (L.join acc (deepN L v)) r
end
mutual
def rightB (L : Lt) : ND → Bool
  | .mk a d k c s t is ks => decide (d = (deepNs L a.toNat is : Int)) && rightBs L is
def rightBs (L : Lt) : List ND → Bool
  | [] => true
  | v :: r => rightB L v && rightBs L r
end
theorem labB_mk (L : Lt) (a d k c s : Int) (t : ByteArray) (is : List ND) (ks : List ByteArray) : labB L (.mk a d k c s t is ks) = (L.is a && labBs L is) := by simp [labB]
theorem labBs_iff {L : Lt} : ∀ {l : List ND}, labBs L l = true ↔ ∀ v ∈ l, labB L v = true
  | [] => by simp [labBs]
  | v :: r => by simp [labBs, labBs_iff (l := r)]
theorem rightBs_iff {L : Lt} : ∀ {l : List ND}, rightBs L l = true ↔ ∀ v ∈ l, rightB L v = true
  | [] => by simp [rightBs]
  | v :: r => by simp [rightBs, rightBs_iff (l := r)]
theorem deepN_mk (L : Lt) (a d k c s : Int) (t : ByteArray) (is : List ND) (ks : List ByteArray) : deepN L (.mk a d k c s t is ks) = deepNs L a.toNat is := by simp [deepN]
theorem rightB_mk (L : Lt) (a d k c s : Int) (t : ByteArray) (is : List ND) (ks : List ByteArray) : rightB L (.mk a d k c s t is ks) = (decide (d = (deepNs L a.toNat is : Int)) && rightBs L is) := by simp [rightB]
mutual
theorem deepN_lt {L : Lt} (O : L.Ok) : ∀ v : ND, labB L v = true → deepN L v < L.n
  | .mk a d k c s t is ks, h => by
    rw [labB_mk, Bool.and_eq_true] at h
    have := Lt.is_iff.1 h.1
    rw [deepN_mk]
    exact deepNs_lt O is a.toNat (by omega) h.2
theorem deepNs_lt {L : Lt} (O : L.Ok) : ∀ (l : List ND) (acc : Nat), acc < L.n → labBs L l = true → deepNs L acc l < L.n
  | [], acc, h, _ => h
  | v :: r, acc, h, hl => by
    simp only [labBs, Bool.and_eq_true] at hl
    exact deepNs_lt O r _ (O.join _ _ h (deepN_lt O v hl.1)) hl.2
end

theorem labels_ok {t9 : List FV} {L : Lt} (T : IsTab t9 L) {v : ND} (hv : v.Sm) : Rt N_ref09_Labels [.fz (.sl t9), .fz v.enc] = some ([.fz (.bool (labB L v))], []) := by
  induction hv with
  | @mk a d k c s t is ks hi hk ht hs h ih =>
    have loop : ∀ (j : Nat) (i : Nat), i + j = is.length → onL (L_ref09_Labels_1_0 Rt (is.length + 1) true (j + 1) t9 i a d k c s t (is.map ND.enc) (ks.map .str)) (K_ref09_Labels_1 Rt (is.length + 1) true) = some ([.fz (.bool (labBs L (is.drop i)))], []) := by
      intro j
      induction j with
      | zero =>
        intro i hij
        rw [L_ref09_Labels_1_0_eq, List.drop_eq_nil_of_le (by omega)]
        simp [show ¬ ((i : Int) < (is.length : Int)) by omega, onL_some, X_ref09_Labels_1_1_eq, labBs]
      | succ j jh =>
        intro i hij
        have hl : i < is.length := by omega
        have h1 := ih is[i] (List.getElem_mem hl)
        have h2 := jh (i + 1) (by omega)
        push_cast at h2
        have hw : IntKind.wrap .i64 ((i : Int) + 1) = (i : Int) + 1 := wrap64 (by omega) (by omega)
        rw [L_ref09_Labels_1_0_eq, drop_cons hl, labBs]
        cases hq : labB L is[i] with
        | true =>
          rw [hq] at h1
          simp [show (i : Int) < (is.length : Int) by omega, List.getElem?_eq_getElem hl, h1, onR_some, hw, h2]
        | false =>
          rw [hq] at h1
          simp [show (i : Int) < (is.length : Int) by omega, List.getElem?_eq_getElem hl, h1, onR_some, onL_some, X_ref09_Labels_1_0_eq]
    have l0 := loop is.length 0 (by omega)
    rw [show ((0 : Nat) : Int) = 0 from rfl, List.drop_zero] at l0
    refine rt_call A_ref09_Labels rfl rfl (is.length + 1) ?_
    rw [ND.enc_mk, E_ref09_Labels, T.len, labB_mk]
    unfold Lt.is
    by_cases h1 : a < 0
    · simp [h1]; omega
    · by_cases h2 : a ≥ L.n
      · simp [h1, h2]; omega
      · rw [decide_eq_false h1, decide_eq_false h2, ifB_false, ifB_false, jump_true, J_ref09_Labels_2_0_eq, l0, decide_eq_true (show 0 ≤ a by omega), decide_eq_true (show a < L.n by omega)]
        rfl
theorem deep9_ok {t9 : List FV} {L : Lt} (T : IsTab t9 L) (O : L.Ok) {v : ND} (hv : v.Sm) : labB L v = true → Rt N_ref09_Deep [.fz (.sl t9), .fz v.enc] = some ([.fz (.int .i64 (deepN L v))], []) := by
  induction hv with
  | @mk a d k c s t is ks hi hk ht hs h ih =>
    intro hlab
    rw [labB_mk, Bool.and_eq_true] at hlab
    have ha := Lt.is_iff.1 hlab.1
    have loop : ∀ (j : Nat) (i acc : Nat), acc < L.n → i + j = is.length → L_ref09_Deep_1_0 Rt (is.length + 1) true (j + 1) t9 acc i a d k c s t (is.map ND.enc) (ks.map .str) = some (.exit 0, X_ref09_Deep_1_0 (deepNs L acc (is.drop i) : Nat)) := by
      intro j
      induction j with
      | zero =>
        intro i acc hacc hij
        rw [L_ref09_Deep_1_0_eq, List.drop_eq_nil_of_le (by omega)]
        simp [show ¬ ((i : Int) < (is.length : Int)) by omega, deepNs]
      | succ j jh =>
        intro i acc hacc hij
        have hl : i < is.length := by omega
        have hli := labBs_iff.1 hlab.2 is[i] (List.getElem_mem hl)
        have h1 := ih is[i] (List.getElem_mem hl) hli
        have hd := deepN_lt O is[i] hli
        have hj := join9_ok T O hacc hd
        have h2 := jh (i + 1) (L.join acc (deepN L is[i])) (O.join _ _ hacc hd) (by omega)
        push_cast at h2
        have hw : IntKind.wrap .i64 ((i : Int) + 1) = (i : Int) + 1 := wrap64 (by omega) (by omega)
        rw [L_ref09_Deep_1_0_eq, drop_cons hl, deepNs]
        simp [show (i : Int) < (is.length : Int) by omega, List.getElem?_eq_getElem hl, h1, hj, onR_some, hw, h2]
    have l0 := loop is.length 0 a.toNat (by omega) (by omega)
    rw [show ((0 : Nat) : Int) = 0 from rfl, List.drop_zero, Int.toNat_of_nonneg ha.1] at l0
    refine rt_call A_ref09_Deep rfl rfl (is.length + 1) ?_
    rw [ND.enc_mk, E_ref09_Deep, l0, onL_some, X_ref09_Deep_1_0_eq, deepN_mk]
theorem right_ok {t9 : List FV} {L : Lt} (T : IsTab t9 L) (O : L.Ok) {v : ND} (hv : v.Sm) : labB L v = true → Rt N_ref09_right [.fz (.sl t9), .fz v.enc] = some ([.fz (.bool (rightB L v))], []) := by
  induction hv with
  | @mk a d k c s t is ks hi hk ht hs h ih =>
    intro hlab
    have hdeep := deep9_ok T O (ND.Sm.mk (a := a) (d := d) (k := k) (c := c) (s := s) hi hk ht hs h) hlab
    rw [labB_mk, Bool.and_eq_true] at hlab
    have loop : ∀ (j : Nat) (i : Nat), i + j = is.length → onL (L_ref09_right_1_0 Rt (is.length + 1) true (j + 1) t9 i a d k c s t (is.map ND.enc) (ks.map .str)) (K_ref09_right_1 Rt (is.length + 1) true) = some ([.fz (.bool (rightBs L (is.drop i)))], []) := by
      intro j
      induction j with
      | zero =>
        intro i hij
        rw [L_ref09_right_1_0_eq, List.drop_eq_nil_of_le (by omega)]
        simp [show ¬ ((i : Int) < (is.length : Int)) by omega, onL_some, X_ref09_right_1_1_eq, rightBs]
      | succ j jh =>
        intro i hij
        have hl : i < is.length := by omega
        have h1 := ih is[i] (List.getElem_mem hl) (labBs_iff.1 hlab.2 is[i] (List.getElem_mem hl))
        have h2 := jh (i + 1) (by omega)
        push_cast at h2
        have hw : IntKind.wrap .i64 ((i : Int) + 1) = (i : Int) + 1 := wrap64 (by omega) (by omega)
        rw [L_ref09_right_1_0_eq, drop_cons hl, rightBs]
        cases hq : rightB L is[i] with
        | true =>
          rw [hq] at h1
          simp [show (i : Int) < (is.length : Int) by omega, List.getElem?_eq_getElem hl, h1, onR_some, hw, h2]
        | false =>
          rw [hq] at h1
          simp [show (i : Int) < (is.length : Int) by omega, List.getElem?_eq_getElem hl, h1, onR_some, onL_some, X_ref09_right_1_0_eq]
    have l0 := loop is.length 0 (by omega)
    rw [show ((0 : Nat) : Int) = 0 from rfl, List.drop_zero] at l0
    rw [deepN_mk] at hdeep
    refine rt_call A_ref09_right rfl rfl (is.length + 1) ?_
    rw [ND.enc_mk] at hdeep ⊢
    rw [E_ref09_right, hdeep, rightB_mk]
    by_cases q : d = (deepNs L a.toNat is : Int)
    · have e : (d != (deepNs L a.toNat is : Int)) = false := by simp [q]
      simp only [onR_some, List.isEmpty_nil, allF_cons, allF_nil, Bool.and_true, when_true', List.getD_cons_zero, toF_fz, isInt_int, toInt_int, e, ifB_false, l0, decide_eq_true q, Bool.true_and]
    · have e : (d != (deepNs L a.toNat is : Int)) = true := by simpa using q
      simp only [onR_some, List.isEmpty_nil, allF_cons, allF_nil, Bool.and_true, when_true', List.getD_cons_zero, toF_fz, isInt_int, toInt_int, e, ifB_true, decide_eq_false q, Bool.false_and]
end Go.Ab
