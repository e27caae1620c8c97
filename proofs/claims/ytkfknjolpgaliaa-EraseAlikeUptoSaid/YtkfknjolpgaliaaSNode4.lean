/- Are two nodes the same? By the reference. -/
import Derived.Test.YtkfknjolpgaliaaSNode3
namespace Go.Ab
set_option linter.unusedVariables false
set_option linter.unusedSimpArgs false
theorem rsame_ok {u : ND} (hu : u.Sm) : ∀ b : ND, Rt N_ref09_Same [.fz u.enc, .fz b.enc] = some ([.fz (.bool (sameND u b))], []) := by
  induction hu with
  | @mk a d k c s t is ks hi hk ht hs h ih =>
    intro b
    obtain ⟨a', d', k', c', s', t', is', ks'⟩ := b
    have fin : ∀ (r : Bool), (r = sameND (.mk a d k c s t is ks) (.mk a' d' k' c' s' t' is' ks')) → callL Rt (is.length + ks.length + 1) true A_ref09_Same [.fz (ND.mk a d k c s t is ks).enc, .fz (ND.mk a' d' k' c' s' t' is' ks').enc] = some ([.fz (.bool r)], []) → Rt N_ref09_Same [.fz (ND.mk a d k c s t is ks).enc, .fz (ND.mk a' d' k' c' s' t' is' ks').enc] = some ([.fz (.bool (sameND (.mk a d k c s t is ks) (.mk a' d' k' c' s' t' is' ks')))], []) := fun r hr e => by
      rw [← hr]; exact rt_call A_ref09_Same rfl rfl _ e
    have loop2 : is.length = is'.length → ∀ (j : Nat) (i : Nat), i + j = is.length → onL (L_ref09_Same_2_0 Rt (is.length + ks.length + 1) true (j + ks.length + 1) i a d k c s t (is.map ND.enc) (ks.map .str) a' d' k' c' s' t' (is'.map ND.enc) (ks'.map .str)) (K_ref09_Same_2 Rt (is.length + ks.length + 1) true) = some ([.fz (.bool (sameNDs (is.drop i) (is'.drop i)))], []) := by
      intro hll j
      induction j with
      | zero =>
        intro i hij
        rw [L_ref09_Same_2_0_eq]
        simp [show ¬ ((i : Int) < (is.length : Int)) by omega, onL_some, X_ref09_Same_2_1_eq, List.drop_eq_nil_of_le (show is.length ≤ i by omega), List.drop_eq_nil_of_le (show is'.length ≤ i by omega), sameNDs]
      | succ j jh =>
        intro i hij
        have hl : i < is.length := by omega
        have hl' : i < is'.length := by omega
        have h1 := ih is[i] (List.getElem_mem hl) is'[i]
        have h2 := jh (i + 1) (by omega)
        push_cast at h2
        have hw : IntKind.wrap .i64 ((i : Int) + 1) = (i : Int) + 1 := wrap64 (by omega) (by omega)
        rw [show j + 1 + ks.length + 1 = (j + ks.length + 1) + 1 by omega, L_ref09_Same_2_0_eq]
        rw [drop_cons hl, drop_cons hl', sameNDs]
        cases hs : sameND is[i] is'[i] with
        | true =>
          rw [hs] at h1
          simp [show (i : Int) < (is.length : Int) by omega, show (i : Int) < (is'.length : Int) by omega, List.getElem?_eq_getElem hl, List.getElem?_eq_getElem hl', h1, onR_some, hw, h2]
        | false =>
          rw [hs] at h1
          simp [show (i : Int) < (is.length : Int) by omega, show (i : Int) < (is'.length : Int) by omega, List.getElem?_eq_getElem hl, List.getElem?_eq_getElem hl', h1, onR_some, onL_some, X_ref09_Same_2_0_eq]
    have loop1 : is.length = is'.length → ks.length = ks'.length → ∀ (j : Nat) (i : Nat), i + j = ks.length → onL (L_ref09_Same_1_0 Rt (is.length + ks.length + 1) true (j + is.length + 1) i a d k c s t (is.map ND.enc) (ks.map .str) a' d' k' c' s' t' (is'.map ND.enc) (ks'.map .str)) (K_ref09_Same_1 Rt (is.length + ks.length + 1) true) = some ([.fz (.bool (decide (ks.drop i = ks'.drop i) && sameNDs is is'))], []) := by
      intro hll hlk j
      induction j with
      | zero =>
        intro i hij
        rw [L_ref09_Same_1_0_eq]
        have h2 := loop2 hll is.length 0 (by omega)
        rw [show ((0 : Nat) : Int) = 0 from rfl, List.drop_zero, List.drop_zero] at h2
        simp [show ¬ ((i : Int) < (ks.length : Int)) by omega, onL_some, X_ref09_Same_1_1_eq, List.drop_eq_nil_of_le (show ks.length ≤ i by omega), List.drop_eq_nil_of_le (show ks'.length ≤ i by omega), h2]
      | succ j jh =>
        intro i hij
        have hl : i < ks.length := by omega
        have hl' : i < ks'.length := by omega
        have h2 := jh (i + 1) (by omega)
        push_cast at h2
        have hw : IntKind.wrap .i64 ((i : Int) + 1) = (i : Int) + 1 := wrap64 (by omega) (by omega)
        rw [show j + 1 + is.length + 1 = (j + is.length + 1) + 1 by omega, L_ref09_Same_1_0_eq]
        rw [drop_cons hl, drop_cons hl', decide_cons]
        have hbe := bytes_beq ks[i] ks'[i]
        by_cases hs : ks[i] = ks'[i]
        · rw [decide_eq_true hs] at hbe
          simp [show (i : Int) < (ks.length : Int) by omega, show (i : Int) < (ks'.length : Int) by omega, List.getElem?_eq_getElem hl, List.getElem?_eq_getElem hl', hbe, hw, h2, decide_eq_true hs]
        · rw [decide_eq_false hs] at hbe
          simp [show (i : Int) < (ks.length : Int) by omega, show (i : Int) < (ks'.length : Int) by omega, List.getElem?_eq_getElem hl, List.getElem?_eq_getElem hl', hbe, onL_some, X_ref09_Same_1_0_eq, decide_eq_false hs]
    have hne : ∀ {p : Prop}, ¬ p → ((ND.mk a d k c s t is ks) = (.mk a' d' k' c' s' t' is' ks') → p) → false = sameND (.mk a d k c s t is ks) (.mk a' d' k' c' s' t' is' ks') := fun h1 h2 => by
      simp [sameND]; intro e1 e2 e3 e4 e5 e6 e7 e8; exact h1 (h2 (by rw [e1, e2, e3, e4, e5, e6, e7, e8]))
    by_cases e7 : a = a'
    case neg =>
      have b7 : (a != a') = true := by simpa using e7
      exact fin false (hne e7 (fun e => by injection e)) (by rw [ND.enc_mk, ND.enc_mk, E_ref09_Same]; simp only [b7, ifB_true, ifB_false])
    have b7 : (a != a') = false := by simpa using e7
    by_cases e8 : d = d'
    case neg =>
      have b8 : (d != d') = true := by simpa using e8
      exact fin false (hne e8 (fun e => by injection e)) (by rw [ND.enc_mk, ND.enc_mk, E_ref09_Same]; simp only [b7, b8, ifB_true, ifB_false])
    have b8 : (d != d') = false := by simpa using e8
    by_cases e1 : k = k'
    case neg =>
      have b1 : (k != k') = true := by simpa using e1
      exact fin false (hne e1 (fun e => by injection e)) (by rw [ND.enc_mk, ND.enc_mk, E_ref09_Same]; simp only [b7, b8, b1, ifB_true, ifB_false])
    have b1 : (k != k') = false := by simpa using e1
    by_cases e2 : c = c' ∧ s = s'
    case neg =>
      refine fin false (hne e2 (fun e => by injection e with _ _ _ a b; exact ⟨a, b⟩)) ?_
      have b2 : (c == c' && (s == s' && true)) = false := by
        rcases Classical.not_and_iff_not_or_not.1 e2 with h0 | h0 <;> simp [h0]
      rw [ND.enc_mk, ND.enc_mk, E_ref09_Same]
      simp only [b7, b8, b1, b2, Bool.not_false, ifB_true, ifB_false]
    have b2 : (c == c' && (s == s' && true)) = true := by simp [e2]
    by_cases e3 : t = t'
    case neg =>
      refine fin false (hne e3 (fun e => by injection e)) ?_
      have b3 := bytes_beq t t'
      rw [decide_eq_false e3] at b3
      rw [ND.enc_mk, ND.enc_mk, E_ref09_Same]
      simp only [b7, b8, b1, b2, b3, Bool.not_false, Bool.not_true, ifB_true, ifB_false]
    have b3 := bytes_beq t t'
    rw [decide_eq_true e3] at b3
    by_cases e4 : is.length = is'.length
    case neg =>
      refine fin false (hne e4 (fun e => by injection e with _ _ _ _ _ _ a; rw [a])) ?_
      have b4 : ((is.length : Int) != is'.length) = true := by simp; omega
      rw [ND.enc_mk, ND.enc_mk, E_ref09_Same]
      simp only [List.length_map, b7, b8, b1, b2, b3, b4, Bool.not_true, ifB_true, ifB_false]
    have b4 : ((is.length : Int) != is'.length) = false := by simp; omega
    by_cases e5 : ks.length = ks'.length
    case neg =>
      refine fin false (hne e5 (fun e => by injection e with _ _ _ _ _ _ _ a; rw [a])) ?_
      have b5 : ((ks.length : Int) != ks'.length) = true := by simp; omega
      rw [ND.enc_mk, ND.enc_mk, E_ref09_Same]
      simp only [List.length_map, b7, b8, b1, b2, b3, b4, b5, Bool.not_true, ifB_true, ifB_false]
    have b5 : ((ks.length : Int) != ks'.length) = false := by simp; omega
    have h1 := loop1 e4 e5 ks.length 0 (by omega)
    rw [show ((0 : Nat) : Int) = 0 from rfl, List.drop_zero, List.drop_zero, Nat.add_comm ks.length is.length] at h1
    obtain ⟨e2, e2'⟩ := e2
    refine fin (decide (ks = ks') && sameNDs is is') ?_ ?_
    · rw [sameNDs_eq]
      by_cases A : ks = ks' <;> by_cases B : is = is' <;> simp [sameND, A, B, e1, e2, e2', e3, e7, e8]
    · rw [ND.enc_mk, ND.enc_mk, E_ref09_Same]
      simp only [List.length_map, b7, b8, b1, b2, b3, b4, b5, Bool.not_true, jump_true, J_ref09_Same_3_0_eq, ifB_true, ifB_false]
      exact h1
end Go.Ab
