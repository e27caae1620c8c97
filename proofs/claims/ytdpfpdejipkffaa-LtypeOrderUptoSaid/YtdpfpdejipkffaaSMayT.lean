/- Types that are gone through: how great they may be, how deep. -/
import Derived.Test.YtdpfpdejipkffaaSCutT
namespace Go.Ab
open Go.Proofs
set_option linter.unusedVariables false
set_option linter.unusedSimpArgs false
set_option linter.unusedSectionVars false
theorem cnts_mem : ∀ {us : List TY} {u : TY}, u ∈ us → u.cnt ≤ TY.cnts us
  | v :: us, u, h => by
    rw [TY.cnts]
    rcases List.mem_cons.1 h with rfl | h
    · omega
    · have := cnts_mem h; omega
theorem cnts_len : ∀ (us : List TY), us.length ≤ TY.cnts us
  | [] => by simp [TY.cnts]
  | v :: us => by
    have := cnts_len us
    obtain ⟨a, ks, vs, r⟩ := v
    rw [TY.cnts, TY.cnt_mk, List.length_cons]; omega
theorem MayT.bd {L : Lt} {v : TY} (h : MayT L v) {m : Nat} : v.cnt ≤ m → v.Bd m := by
  induction h with
  | @mk a r ks us ha hr hl hp h ih =>
    intro hc
    rw [TY.cnt_mk] at hc
    have := cnts_len us
    exact .mk (by omega) (by omega) fun u hu => ih u hu (by have := cnts_mem hu; omega)
theorem isT_dp {L : Lt} : ∀ (n : Nat) {v : TY}, isT L v (3 - (n : Int)) = true → n ≤ 3 → v.Dp n
  | 0, .mk a ks us r, h, _ => by
    cases us with
    | nil => rfl
    | cons u us =>
      exfalso
      rw [isT, isTs_cons] at h
      simp only [Bool.and_eq_true] at h
      have := h.2.2.2.2.2.1
      obtain ⟨a', ks', us', r'⟩ := u
      have w : IntKind.wrap .i64 ((3 : Int) - ((0 : Nat) : Int) + 1) = 4 := by rw [wrap64 (by omega) (by omega)]; rfl
      rw [w, isT] at this
      simp at this
  | n + 1, .mk a ks us r, h, hn => fun u hu => by
    have hm := isT_may _ _ h
    rw [isT] at h
    simp only [Bool.and_eq_true] at h
    cases hm with
    | mk ha hr hl hp hh =>
    have h5 := (isTs_may us none ks _ hl h.2.2.2.2).2.2 u hu
    have w : IntKind.wrap .i64 ((3 : Int) - ((n + 1 : Nat) : Int) + 1) = 3 - (n : Int) := by rw [wrap64 (by omega) (by omega)]; omega
    rw [w] at h5
    exact isT_dp n h5 (by omega)
end Go.Ab
