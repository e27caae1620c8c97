/- The program's own test of a value is the reference's. -/
import Derived.Test.YtjkdheebgmnpmaaSJvIs
namespace Go.Ab
set_option linter.unusedVariables false
set_option linter.unusedSimpArgs false
set_option linter.unusedSectionVars false

theorem text_nil {t : ByteArray} (h : (t.toList == (⟨#[]⟩ : ByteArray).toList) = true) : textB t = true := by
  rw [ByteArray.toList_eq, ByteArray.toList_eq] at h
  have h0 : t.data.toList = [] := by simpa using h
  unfold textB
  rw [h0]
  rfl
theorem keys_nil {ks : List ByteArray} (h : ((ks.length : Int) == 0) = true) : keysOk none ks = true := by
  have h0 : ks = [] := by
    have : (ks.length : Int) = 0 := by simpa using h
    exact List.length_eq_zero_iff.1 (by omega)
  rw [h0]; rfl
theorem items_nil {is : List JV} {d : Int} (h : ((is.length : Int) == 0) = true) : isRs is d = true := by
  have h0 : is = [] := by
    have : (is.length : Int) = 0 := by simpa using h
    exact List.length_eq_zero_iff.1 (by omega)
  rw [h0, isRs]

theorem jis_ok {v : JV} (hv : v.Sm) : v.Short → ∀ d : Int, Rt N_jval_is [.fz v.enc, .fz (.int .i64 d)] = some ([.fz (.bool (isR v d))], []) := by
  induction hv with
  | @mk k c s t is ks hi hk hsm ih =>
    intro hsh d
    cases hsh with
    | mk ht hs hsh =>
    have hI := items_ok is (by omega) (IntKind.wrap .i64 (d + 1)) (fun v hv => ih v hv (hsh v hv) _)
    have hR := rising_ok ks hs (by omega)
    have hN := numIs_ok c s
    have hV : Rt N_utf_Valid [.fz (.str t)] = some ([.fz (.bool (textB t))], []) := valid_ok t (by omega)
    have hB := bare_ok k c s t is ks
    have f1 := @text_nil t
    have f2 := @keys_nil ks
    have f3 := @items_nil is (IntKind.wrap .i64 (d + 1))
    refine rt_call A_jval_is rfl rfl 0 ?_
    rw [JV.enc_mk, E_jval_is, isR]
    cases hd : decide (d > 32) with
    | true =>
      simp only [ifB_true, Bool.not_true, Bool.false_and, Bool.and_false]
    | false =>
    generalize isRs is (IntKind.wrap .i64 (d + 1)) = ri at hI f3 ⊢
    generalize keysOk none ks = rk at hR f2 ⊢
    generalize num4B c s = rn at hN ⊢
    generalize textB t = rt at hV f1 ⊢
    unfold zeroB
    have hbare : ∀ a1 a2 a3 a4, bareB a1 a2 a3 a4 c s t is.length ks.length = ((a1 || ((c == 0) && (s == 0))) && ((a2 || (t.toList == (⟨#[]⟩ : ByteArray).toList)) && ((a3 || ((is.length : Int) == 0)) && (a4 || ((ks.length : Int) == 0))))) := fun _ _ _ _ => rfl
    simp only [hbare] at hB
    clear hbare
    have hbne : ((ks.length : Int) != is.length) = !((ks.length : Int) == is.length) := rfl
    have hc : (c != 0) = !(c == 0) := rfl
    have hs' : (s != 0) = !(s == 0) := rfl
    rw [hbne, hc, hs']
    have J1 : ∀ x : Bool, J_jval_is_1_0 Rt 0 true d k x k c s t (is.map JV.enc) (ks.map .str) = _ := fun x => J_jval_is_1_0_eq ..
    have J2 : ∀ x : Bool, J_jval_is_2_0 Rt 0 true d k x k c s t (is.map JV.enc) (ks.map .str) = _ := fun x => J_jval_is_2_0_eq ..
    simp only [hB, hI, hR, hN, hV, onR_some, List.isEmpty_nil, allF_cons, allF_nil, Bool.and_true, when_true', List.getD_cons_zero, toF_fz, isBool_bool, toBool_bool, List.length_map] at J1 J2
    simp only [ifB_false, jump_true, J2, J1, Bool.not_false, Bool.true_and]
    clear hB hI hR hN hV J1 J2 hbne hc hs' ih hi hk hsm ht hs hsh hd
    generalize ((ks.length : Int) == is.length) = b5
    generalize (c == 0) = b1
    generalize (s == 0) = b2
    generalize (t.toList == (⟨#[]⟩ : ByteArray).toList) = b3 at f1 ⊢
    generalize ((is.length : Int) == 0) = b4 at f3 ⊢
    generalize ((ks.length : Int) == 0) = b6 at f2 ⊢
    by_cases hk0 : k < 0
    · have a0 : (k == 0) = false := by simp; omega
      have a1 : (k == 1) = false := by simp; omega
      have a2 : (k == 2) = false := by simp; omega
      have a3 : (k == 3) = false := by simp; omega
      have a4 : (k == 4) = false := by simp; omega
      have a5 : (k == 5) = false := by simp; omega
      have a6 : (k == 6) = false := by simp; omega
      have a7 : (k == 7) = false := by simp; omega
      simp only [a0, a1, a2, a3, a4, a5, a6, a7, decide_eq_true hk0, ifB_false, Bool.not_true, Bool.false_and]
    by_cases hk7 : k > 7
    · have a0 : (k == 0) = false := by simp; omega
      have a1 : (k == 1) = false := by simp; omega
      have a2 : (k == 2) = false := by simp; omega
      have a3 : (k == 3) = false := by simp; omega
      have a4 : (k == 4) = false := by simp; omega
      have a5 : (k == 5) = false := by simp; omega
      have a6 : (k == 6) = false := by simp; omega
      have a7 : (k == 7) = false := by simp; omega
      simp only [a0, a1, a2, a3, a4, a5, a6, a7, decide_eq_true hk7, ifB_false, Bool.not_true, Bool.false_and, Bool.and_false]
    have hkk : k = 0 ∨ k = 1 ∨ k = 2 ∨ k = 3 ∨ k = 4 ∨ k = 5 ∨ k = 6 ∨ k = 7 := by omega
    rcases hkk with rfl | rfl | rfl | rfl | rfl | rfl | rfl | rfl
    all_goals simp only [show ((0 : Int) == 0) = true from rfl, Int.reduceBEq, Int.reduceBNe, Int.reduceLT, Int.reduceGT, decide_false, decide_true, Bool.not_false, Bool.not_true, Bool.true_and, Bool.false_and, Bool.and_true, Bool.true_or, Bool.false_or, Bool.or_true, Bool.or_false, ifB_true, ifB_false, ifB_and]
    all_goals refine sb ?_
    all_goals (cases b3 <;> cases b4 <;> cases b6 <;> first | (have := f1 rfl) | skip)
    all_goals (first | (have := f2 rfl) | skip)
    all_goals (first | (have := f3 rfl) | skip)
    all_goals subst_vars
    all_goals (cases b1 <;> cases b2 <;> cases b5 <;> simp)
end Go.Ab
