/- JvalIs: the plain law. -/
import Derived.Test.YtjkdheebgmnpmaaSLives5
import Derived.Test.YtjkdheebgmnpmaaSRead1
import Derived.Test.YtjkdheebgmnpmaaSJvSame
namespace Go.Ab
open Go.Proofs
set_option linter.unusedVariables false
set_option linter.unusedSimpArgs false

theorem pure_JvalIs (f0 f1 : FV) (h0 : WV Try.prog 40 134217728 27 f0) (h1 : WV Try.prog 40 134217728 27 f1) : Rt N_law05_JvalIs [.fz f0, .fz f1] = some ([.fz (.bool true)], []) := by
  obtain ⟨v, rfl, hv⟩ := jv_of (t := 27) (ts := 9) (by kernel_rfl) (by kernel_rfl) (by kernel_rfl) (by kernel_rfl) (by kernel_rfl) (by kernel_rfl) h0
  obtain ⟨u, rfl, hu⟩ := jv_of (t := 27) (ts := 9) (by kernel_rfl) (by kernel_rfl) (by kernel_rfl) (by kernel_rfl) (by kernel_rfl) (by kernel_rfl) h1
  have hB : (134217728 : Nat) ≤ 140737488351232 := by omega
  have hB2 : (134217728 : Nat) ≤ 8796093022208 := by omega
  have hvsm := hv.sm hB
  have husm := hu.sm hB
  obtain ⟨b1, hL1⟩ := light_tot hvsm 500
  obtain ⟨b2, hL2⟩ := light_tot husm 500
  have hI := is_ok hvsm (hv.short hB2) 0
  have hJ := jIs_ok hvsm (hv.short hB2)
  have hS := same_ok hvsm u
  have hS2 := jsame_ok hvsm u
  have hS3 := jsame_ok hvsm v
  rw [sameB_self] at hS3
  generalize isR v 0 = b3 at hI hJ
  generalize sameB v u = b4 at hS hS2
  obtain ⟨k, c, s, t, is, ks⟩ := v
  obtain ⟨vk, vc, vs, vt, vis, vks⟩ := u
  rw [JV.enc_mk] at hL1 hL2 hI hJ hS3
  rw [JV.enc_mk, JV.enc_mk] at hS hS2
  refine rt_call A_law05_JvalIs rfl rfl 0 ?_
  rw [JV.enc_mk, JV.enc_mk, E_law05_JvalIs]
  have e3 : (b3 == b3) = true := by cases b3 <;> rfl
  have e4 : (b4 == b4) = true := by cases b4 <;> rfl
  cases b1 with
  | false => simp only [hL1, onR_some, List.isEmpty_nil, allF_cons, allF_nil, Bool.and_true, when_true', List.getD_cons_zero, toF_fz, isBool_bool, toBool_bool, Bool.not_false, ifB_true, lives5_ok]
  | true =>
  cases b2 with
  | false => simp only [hL1, hL2, onR_some, List.isEmpty_nil, allF_cons, allF_nil, Bool.and_true, when_true', List.getD_cons_zero, toF_fz, isBool_bool, toBool_bool, Bool.not_false, Bool.not_true, ifB_true, ifB_false, lives5_ok]
  | true =>
    simp only [hL1, hL2, hI, hJ, hS, hS2, hS3, e3, e4, onR_some, List.isEmpty_nil, allF_cons, allF_nil, Bool.and_true, when_true', List.getD_cons_zero, toF_fz, isBool_bool, toBool_bool, Bool.not_false, Bool.not_true, ifB_true, ifB_false, jump_true, J_law05_JvalIs_1_0_eq, lives5_ok]
end Go.Ab
