/- Types that are gone through: how great they may be, how deep. -/
import Derived.Test.YtdpfpdejipkffaaSCutT
namespace Go.Ab
open Go.Proofs
set_option linter.unusedVariables false
set_option linter.unusedSimpArgs false
set_option linter.unusedSectionVars false
theorem cnts_mem : ∀ {us : List TY} {u : TY}, u ∈ us → u.cnt ≤ TY.cnts us
  | v :: us, u, h => by
    rw [TY.cnts]
    rcases List.mem_cons.1 h with rfl | h
    · omega
    · have := cnts_mem h; omega
theorem cnts_len : ∀ (us : List TY), us.length ≤ TY.cnts us
  | [] => by simp [TY.cnts]
  | v :: us => by
    have := cnts_len us
    obtain ⟨a, ks, vs, r⟩ := v
    rw [TY.cnts, TY.cnt_mk, List.length_cons]; omega
theorem MayT.bd {L : Lt} {v : TY} (h : MayT L v) {m : Nat} : v.cnt ≤ m → v.Bd m := by
  induction h with
  | @mk a r ks us ha hr hl hp h ih =>
    intro hc
    rw [TY.cnt_mk] at hc
    have := cnts_len us
    exact .mk (by omega) (by omega) fun u hu => ih u hu (by have := cnts_mem hu; omega)
theorem isT_dp {L : Lt} : ∀ (n : Nat) {v : TY}, isT L v (3 - (n : Int)) = true → n ≤ 3 → v.Dp n
  | 0, .mk a ks us r, h, _ => by
    cases us with
    | nil => rfl
    | cons u us =>
      exfalso
      rw [isT, isTs_cons] at h
      simp only [Bool.and_eq_true] at h
      have := h.2.2.2.2.2.1
      obtain ⟨a', ks', us', r'⟩ := u
      have w : IntKind.wrap .i64 ((3 : Int) - ((0 : Nat) : Int) + 1) = 4 := by rw [wrap64 (by omega) (by omega)]; rfl
      rw [w, isT] at this
      simp at this
  | n + 1, .mk a ks us r, h, hn => fun u hu => by
    have hm := isT_may _ _ h
    rw [isT] at h
    simp only [Bool.and_eq_true] at h
    cases hm with
    | mk ha hr hl hp hh =>
    have h5 := (isTs_may us none ks _ hl h.2.2.2.2).2.2 u hu
    have w : IntKind.wrap .i64 ((3 : Int) - ((n + 1 : Nat) : Int) + 1) = 3 - (n : Int) := by rw [wrap64 (by omega) (by omega)]; omega
    rw [w] at h5
    exact isT_dp n h5 (by omega)
theorem may1c_ok {t9 : List FV} {L : Lt} (T : IsTab t9 L) {v : TY} (hv : v.Sm) : ∃ b : Bool, Rt N_law25_may [.fz (.sl t9), .fz (.sl [v.enc])] = some ([.fz (.bool b)], []) ∧ (b = true → isT L v 0 = true ∧ v.cnt ≤ 200) := by
  obtain ⟨b1, h1, hc⟩ := tlight_ok hv 200 (by omega) (by omega)
  have h2 := ty9_ok T hv 0
  have w0 : IntKind.wrap .i64 ((0 : Int) + 1) = 1 := by rw [wrap64 (by omega) (by omega)]; rfl
  have d0 : decide ((0 : Int) < (([v.enc].length : Nat) : Int)) = true := rfl
  have d1 : decide ((1 : Int) < (([v.enc].length : Nat) : Int)) = false := rfl
  have d2 : decide ((0 : Int) < 5) = true := rfl
  have d3 : decide ((0 : Int) ≤ 0) = true := rfl
  have d4 : decide ((([v.enc].length : Nat) : Int) ≤ 4) = true := rfl
  have g0 : [v.enc].getD (0 : Int).toNat .nilp = v.enc := rfl
  cases b1 with
  | false =>
    refine ⟨false, rt_call A_law25_may rfl rfl 3 ?_, fun h => by cases h⟩
    rw [E_law25_may, L_law25_may_1_0_eq]
    simp only [d0, d2, ifB_true, jump_true]
    rw [J_law25_may_1_0_eq]
    simp only [d0, d3, g0, TY.enc_fits, h1, onR_some, List.isEmpty_nil, allF_cons, allF_nil, Bool.and_true, when_true', List.getD_cons_zero, toF_fz, isBool_bool, toBool_bool, Bool.not_true, Bool.not_false, ifB_true, ifB_false, onL_some, X_law25_may_1_1_eq]
  | true =>
    cases hq : isT L v 0 with
    | false =>
      rw [hq] at h2
      refine ⟨false, rt_call A_law25_may rfl rfl 3 ?_, fun h => by cases h⟩
      rw [E_law25_may, L_law25_may_1_0_eq]
      simp only [d0, d2, ifB_true, jump_true]
      rw [J_law25_may_1_0_eq]
      simp only [d0, d3, g0, TY.enc_fits, h1, h2, onR_some, List.isEmpty_nil, allF_cons, allF_nil, Bool.and_true, when_true', List.getD_cons_zero, toF_fz, isBool_bool, toBool_bool, Bool.not_true, Bool.not_false, ifB_true, ifB_false, onL_some, X_law25_may_1_1_eq]
    | true =>
      rw [hq] at h2
      refine ⟨true, rt_call A_law25_may rfl rfl 3 ?_, fun _ => ⟨rfl, by have := (hc rfl).1; omega⟩⟩
      rw [E_law25_may, L_law25_may_1_0_eq]
      simp only [d0, d2, ifB_true, jump_true]
      rw [J_law25_may_1_0_eq]
      simp only [d0, d3, g0, TY.enc_fits, h1, h2, onR_some, List.isEmpty_nil, allF_cons, allF_nil, Bool.and_true, when_true', List.getD_cons_zero, toF_fz, isBool_bool, toBool_bool, Bool.not_true, ifB_false, w0]
      rw [L_law25_may_1_0_eq]
      simp only [d1, ifB_false, onL_some, X_law25_may_1_0_eq, d4]
end Go.Ab
