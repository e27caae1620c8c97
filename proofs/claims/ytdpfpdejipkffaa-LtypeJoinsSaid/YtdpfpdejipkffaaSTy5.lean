/- The least type that a node fits: by the reference, and by the program. -/
import Derived.Test.YtdpfpdejipkffaaSTy4
namespace Go.Ab
set_option linter.unusedVariables false
set_option linter.unusedSimpArgs false
set_option linter.unusedSectionVars false
theorem take_snoc {α : Type} {l : List α} {i : Nat} (h : i < l.length) : l.take (i + 1) = l.take i ++ [l[i]] := by
  rw [List.take_add_one, List.getElem?_eq_getElem h]; rfl
theorem tsame_ok {v : TY} (hv : v.Sm) : Rt N_ref25_Same [.fz v.enc, .fz v.enc] = some ([.fz (.bool true)], []) := by
  induction hv with
  | @mk a r ks us hk hu h ih =>
    have loop2 : ∀ (j i N : Nat), i + j = us.length → j < N → onL (L_ref25_Same_2_0 Rt (us.length + ks.length + 1) true N i a (ks.map .str) (us.map TY.enc) r a (ks.map .str) (us.map TY.enc) r) (K_ref25_Same_2 Rt (us.length + ks.length + 1) true) = some ([.fz (.bool true)], []) := by
      intro j
      induction j with
      | zero =>
        intro i N hij hN
        obtain ⟨N, rfl⟩ : ∃ M, N = M + 1 := ⟨N - 1, by omega⟩
        rw [L_ref25_Same_2_0_eq]
        simp only [List.length_map, decide_eq_false (show ¬ ((i : Int) < (us.length : Int)) by omega), ifB_false, onL_some, X_ref25_Same_2_1_eq]
      | succ j jh =>
        intro i N hij hN
        obtain ⟨N, rfl⟩ : ∃ M, N = M + 1 := ⟨N - 1, by omega⟩
        have hl : i < us.length := by omega
        have h1 := ih us[i] (List.getElem_mem hl)
        have h2 := jh (i + 1) N (by omega) (by omega)
        have hw : IntKind.wrap .i64 ((i : Int) + 1) = ((i + 1 : Nat) : Int) := by rw [wrap64 (by omega) (by omega)]; simp
        have hg : (us.map TY.enc).getD i .nilp = (us[i]).enc := by simp [hl]
        rw [L_ref25_Same_2_0_eq]
        simp only [List.length_map, decide_eq_true (show (i : Int) < (us.length : Int) by omega), decide_eq_true (show (0 : Int) ≤ (i : Int) by omega), ifB_true, ifB_false, Bool.and_true, when_true', Int.toNat_natCast, hg, TY.enc_fits, h1, onR_some, List.isEmpty_nil, allF_cons, allF_nil, List.getD_cons_zero, toF_fz, isBool_bool, toBool_bool, Bool.not_true, hw]
        exact h2
    have loop1 : ∀ (j i N : Nat), i + j = ks.length → j < N → onL (L_ref25_Same_1_0 Rt (us.length + ks.length + 1) true N i a (ks.map .str) (us.map TY.enc) r a (ks.map .str) (us.map TY.enc) r) (K_ref25_Same_1 Rt (us.length + ks.length + 1) true) = some ([.fz (.bool true)], []) := by
      intro j
      induction j with
      | zero =>
        intro i N hij hN
        obtain ⟨N, rfl⟩ : ∃ M, N = M + 1 := ⟨N - 1, by omega⟩
        have l2 := loop2 us.length 0 (us.length + ks.length + 1) (by omega) (by omega)
        simp only [Int.natCast_zero] at l2
        rw [L_ref25_Same_1_0_eq]
        simp only [List.length_map, decide_eq_false (show ¬ ((i : Int) < (ks.length : Int)) by omega), ifB_false, onL_some, X_ref25_Same_1_1_eq]
        exact l2
      | succ j jh =>
        intro i N hij hN
        obtain ⟨N, rfl⟩ : ∃ M, N = M + 1 := ⟨N - 1, by omega⟩
        have hl : i < ks.length := by omega
        have h2 := jh (i + 1) N (by omega) (by omega)
        have hw : IntKind.wrap .i64 ((i : Int) + 1) = ((i + 1 : Nat) : Int) := by rw [wrap64 (by omega) (by omega)]; simp
        rw [L_ref25_Same_1_0_eq]
        simp only [List.length_map, decide_eq_true (show (i : Int) < (ks.length : Int) by omega), decide_eq_true (show (0 : Int) ≤ (i : Int) by omega), ifB_true, ifB_false, Bool.and_true, when_true', Int.toNat_natCast, getD_str' ks hl, fits_str, isStr_str, toStr_str, eq_beqO, decide_true, Bool.not_true, hw]
        exact h2
    have l1 := loop1 ks.length 0 (us.length + ks.length + 1) (by omega) (by omega)
    simp only [Int.natCast_zero] at l1
    refine rt_call A_ref25_Same rfl rfl (us.length + ks.length + 1) ?_
    rw [TY.enc_mk, E_ref25_Same]
    have n1 : ∀ x : Int, (x != x) = false := fun x => by simp
    simp only [n1, ifB_false, jump_true]
    rw [J_ref25_Same_3_0_eq]
    exact l1
end Go.Ab
