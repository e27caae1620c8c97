/- JvalSimple: the plain law. -/
import Derived.Test.YtjkdheebgmnpmaaSLives5
import Derived.Test.YtjkdheebgmnpmaaSRead1
import Derived.Test.YtjkdheebgmnpmaaSJvSim
namespace Go.Ab
open Go.Proofs
set_option linter.unusedVariables false
set_option linter.unusedSimpArgs false

theorem leaf_sm (k c s : Int) (t : ByteArray) : (JV.mk k c s t [] []).Sm := .mk (by simp) (by simp) (fun v h => by cases h)
theorem simple2 (K : Nat) (a0 : Int) (s : ByteArray) (x : JV) : J_law05_JvalSimple_2_0 Rt K true a0 s (nameT a0) x.enc = some ([.fz (.bool true)], []) := by
  have hT := jText_ok s
  have hU := jWrong_ok s
  have hL := jList2_ok x (.mk 4 0 0 s [] [])
  have hS := same_ok (leaf_sm 4 0 0 s) (.mk 4 0 0 s [] [])
  rw [sameB_self] at hS
  have hx := x.enc_fits
  have ft := (JV.mk 4 0 0 s [] []).enc_fits
  have fu := (JV.mk 7 0 0 s [] []).enc_fits
  have fl := (JV.mk 5 0 0 nilT [x, .mk 4 0 0 s [] []] []).enc_fits
  have gt : FV.isAg 6 (JV.mk 4 0 0 s [] []).enc = true := ft
  have gu : FV.isAg 6 (JV.mk 7 0 0 s [] []).enc = true := fu
  have gl : FV.isAg 6 (JV.mk 5 0 0 nilT [x, .mk 4 0 0 s [] []] []).enc = true := fl
  have g2 : FV.isAg 6 (JV.mk 2 0 0 nilT [] []).enc = true := (JV.mk 2 0 0 nilT [] []).enc_fits
  have g1 : FV.isAg 6 (JV.mk 1 0 0 nilT [] []).enc = true := (JV.mk 1 0 0 nilT [] []).enc_fits
  have g0 : FV.isAg 6 (JV.mk 5 0 0 nilT [] []).enc = true := (JV.mk 5 0 0 nilT [] []).enc_fits
  have cl0 : FV.cell (JV.mk 5 0 0 nilT [x, .mk 4 0 0 s [] []] []).enc 0 = .int .i64 5 := by rw [JV.enc_mk]; rfl
  have cl4 : FV.cell (JV.mk 5 0 0 nilT [x, .mk 4 0 0 s [] []] []).enc 4 = .sl [x.enc, (JV.mk 4 0 0 s [] []).enc] := by rw [JV.enc_mk]; rfl
  have ct0 : FV.cell (JV.mk 4 0 0 s [] []).enc 0 = .int .i64 4 := by rw [JV.enc_mk]; rfl
  have ct3 : FV.cell (JV.mk 4 0 0 s [] []).enc 3 = .str s := by rw [JV.enc_mk]; rfl
  have cu0 : FV.cell (JV.mk 7 0 0 s [] []).enc 0 = .int .i64 7 := by rw [JV.enc_mk]; rfl
  have cu3 : FV.cell (JV.mk 7 0 0 s [] []).enc 3 = .str s := by rw [JV.enc_mk]; rfl
  have c20 : FV.cell (JV.mk 2 0 0 nilT [] []).enc 0 = .int .i64 2 := by rw [JV.enc_mk]; rfl
  have c10 : FV.cell (JV.mk 1 0 0 nilT [] []).enc 0 = .int .i64 1 := by rw [JV.enc_mk]; rfl
  have c04 : FV.cell (JV.mk 5 0 0 nilT [] []).enc 4 = .sl [] := by rw [JV.enc_mk]; rfl
  have h2 := jTrue_ok
  have h1 := jFalse_ok
  have h0 := jList0_ok
  have hN := jName_ok a0
  have bs : (s.toList == s.toList) = true := by simp
  have bn : ((nameT a0).toList == (nameT a0).toList) = true := by simp
  generalize (JV.mk 5 0 0 nilT [x, .mk 4 0 0 s [] []] []).enc = L at *
  generalize (JV.mk 4 0 0 s [] []).enc = T at *
  generalize (JV.mk 7 0 0 s [] []).enc = U at *
  generalize (JV.mk 2 0 0 nilT [] []).enc = V2 at *
  generalize (JV.mk 1 0 0 nilT [] []).enc = V1 at *
  generalize (JV.mk 5 0 0 nilT [] []).enc = V0 at *
  generalize x.enc = X at *
  rw [J_law05_JvalSimple_2_0_eq]
  have isl : ∀ l, FV.isSl (.sl l) = true := fun _ => rfl
  have tsl : ∀ l, FV.toSl (.sl l) = l := fun _ => rfl
  simp only [hT, hU, hL, hS, hx, ft, fu, fl, gt, gu, gl, g2, g1, g0, cl0, cl4, ct0, ct3, cu0, cu3, c20, c10, c04, h2, h1, h0, hN, bs, bn, isl, tsl, onR_some, List.isEmpty_nil, allF_cons, allF_nil, Bool.and_true, Bool.true_and, when_true', List.getD_cons_zero, List.getD_cons_succ, toF_fz, isBool_bool, toBool_bool, isInt_int, toInt_int, isStr_str, toStr_str, List.length_cons, List.length_nil, ifB_true, show ((4 : Int) == 4) = true from rfl, show ((7 : Int) == 7) = true from rfl, show ((2 : Int) == 2) = true from rfl, show ((1 : Int) == 1) = true from rfl, show ((5 : Int) == 5) = true from rfl, show (((0 + 1 + 1 : Nat) : Int) == 2) = true from rfl, show (((0 : Nat) : Int) == 0) = true from rfl, show decide ((1 : Int) < ((0 + 1 + 1 : Nat) : Int)) = true from rfl, lives5_ok]

theorem simple4 (K : Nat) (a0 c : Int) (s : ByteArray) : J_law05_JvalSimple_4_0 Rt K true a0 c s (nameT a0) = some ([.fz (.bool true)], []) := by
  have hI := jInt_ok c
  have e : num4B c 0 = (decide (c < 1000000000000000) && decide (c > (-1000000000000000))) := by
    unfold num4B
    by_cases h1 : c ≥ 1000000000000000
    · have a1 : decide (c ≥ 1000000000000000) = true := by simpa using h1
      have a2 : decide (c < 1000000000000000) = false := by simp; omega
      simp only [a1, a2]; rfl
    · have a1 : decide (c ≥ 1000000000000000) = false := by simpa using h1
      have a2 : decide (c < 1000000000000000) = true := by simp; omega
      by_cases h3 : c ≤ -1000000000000000
      · have a3 : decide (c ≤ (-1000000000000000)) = true := by simpa using h3
        have a4 : decide (c > (-1000000000000000)) = false := by simp; omega
        simp only [a1, a2, a3, a4]; rfl
      · have a3 : decide (c ≤ (-1000000000000000)) = false := by simpa using h3
        have a4 : decide (c > (-1000000000000000)) = true := by simp; omega
        simp only [a1, a2, a3, a4]; rfl
  have g3 : FV.isAg 6 (JV.mk 3 c 0 nilT [] []).enc = true := (JV.mk 3 c 0 nilT [] []).enc_fits
  have g7 : FV.isAg 6 (JV.mk 7 0 0 numT [] []).enc = true := (JV.mk 7 0 0 numT [] []).enc_fits
  have f3 := (JV.mk 3 c 0 nilT [] []).enc_fits
  have f7 := (JV.mk 7 0 0 numT [] []).enc_fits
  have c30 : FV.cell (JV.mk 3 c 0 nilT [] []).enc 0 = .int .i64 3 := by rw [JV.enc_mk]; rfl
  have c31 : FV.cell (JV.mk 3 c 0 nilT [] []).enc 1 = .int .i64 c := by rw [JV.enc_mk]; rfl
  have c32 : FV.cell (JV.mk 3 c 0 nilT [] []).enc 2 = .int .i64 0 := by rw [JV.enc_mk]; rfl
  have c70 : FV.cell (JV.mk 7 0 0 numT [] []).enc 0 = .int .i64 7 := by rw [JV.enc_mk]; rfl
  have c73 : FV.cell (JV.mk 7 0 0 numT [] []).enc 3 = .str numT := by rw [JV.enc_mk]; rfl
  have bc : (c == c) = true := by simp
  have bn : (numT.toList == (⟨#[110, 117, 109, 98, 101, 114]⟩ : ByteArray).toList) = true := by unfold numT; simp
  have s3 := simple2 K a0 s (.mk 3 c 0 nilT [] [])
  have s7 := simple2 K a0 s (.mk 7 0 0 numT [] [])
  generalize (JV.mk 3 c 0 nilT [] []).enc = X at *
  generalize (JV.mk 7 0 0 numT [] []).enc = Y at *
  rw [e] at hI
  rw [J_law05_JvalSimple_4_0_eq]
  cases b1 : decide (c < 1000000000000000) with
  | false =>
    rw [b1] at hI
    simp only [Bool.false_and] at hI
    simp only [hI, f7, g7, c70, c73, bn, s7, onR_some, List.isEmpty_nil, allF_cons, allF_nil, Bool.and_true, when_true', List.getD_cons_zero, toF_fz, ifB_false, ifB_true, jump_true, J_law05_JvalSimple_3_0_eq, isInt_int, toInt_int, isStr_str, toStr_str, Bool.not_false, Bool.not_true, show ((7 : Int) != 7) = false from rfl]
  | true =>
    rw [b1] at hI
    cases b2 : decide (c > (-1000000000000000)) with
    | false =>
      rw [b2] at hI
      simp only [Bool.and_false] at hI
      simp only [hI, f7, g7, c70, c73, bn, s7, onR_some, List.isEmpty_nil, allF_cons, allF_nil, Bool.and_true, when_true', List.getD_cons_zero, toF_fz, ifB_false, ifB_true, jump_true, J_law05_JvalSimple_3_0_eq, isInt_int, toInt_int, isStr_str, toStr_str, Bool.not_false, Bool.not_true, show ((7 : Int) != 7) = false from rfl]
    | true =>
      rw [b2] at hI
      simp only [Bool.and_true] at hI
      simp only [hI, f3, g3, c30, c31, c32, bc, s3, onR_some, List.isEmpty_nil, allF_cons, allF_nil, Bool.and_true, when_true', List.getD_cons_zero, toF_fz, ifB_false, ifB_true, jump_true, J_law05_JvalSimple_3_0_eq, isInt_int, toInt_int, isStr_str, toStr_str, Bool.not_false, Bool.not_true, show ((3 : Int) != 3) = false from rfl, show ((0 : Int) == 0) = true from rfl]

def names8 : List FV := [(FV.str (⟨#[110, 117, 108, 108]⟩ : ByteArray)), (FV.str (⟨#[98, 111, 111, 108, 101, 97, 110]⟩ : ByteArray)), (FV.str (⟨#[98, 111, 111, 108, 101, 97, 110]⟩ : ByteArray)), (FV.str (⟨#[110, 117, 109, 98, 101, 114]⟩ : ByteArray)), (FV.str (⟨#[115, 116, 114, 105, 110, 103]⟩ : ByteArray)), (FV.str (⟨#[97, 114, 114, 97, 121]⟩ : ByteArray)), (FV.str (⟨#[111, 98, 106, 101, 99, 116]⟩ : ByteArray)), (FV.str (⟨#[101, 114, 114, 111, 114]⟩ : ByteArray))]
theorem hg8 : [(FV.str (⟨#[110, 117, 108, 108]⟩ : ByteArray)), (FV.str (⟨#[98, 111, 111, 108, 101, 97, 110]⟩ : ByteArray)), (FV.str (⟨#[98, 111, 111, 108, 101, 97, 110]⟩ : ByteArray)), (FV.str (⟨#[110, 117, 109, 98, 101, 114]⟩ : ByteArray)), (FV.str (⟨#[115, 116, 114, 105, 110, 103]⟩ : ByteArray)), (FV.str (⟨#[97, 114, 114, 97, 121]⟩ : ByteArray)), (FV.str (⟨#[111, 98, 106, 101, 99, 116]⟩ : ByteArray)), (FV.str (⟨#[101, 114, 114, 111, 114]⟩ : ByteArray))] = names8 := (rfl)

theorem pure_JvalSimple (f0 f1 f2 : FV) (h0 : WV Try.prog 40 140737488351232 3 f0) (h1 : WV Try.prog 40 140737488351232 3 f1) (h2 : WV Try.prog 40 140737488351232 9 f2) : Rt N_law05_JvalSimple [.fz f0, .fz f1, .fz f2] = some ([.fz (.bool true)], []) := by
  obtain ⟨k, rfl, _⟩ := int_of (k := .i64) (by kernel_rfl) (by kernel_rfl) h0
  obtain ⟨c, rfl, _⟩ := int_of (k := .i64) (by kernel_rfl) (by kernel_rfl) h1
  obtain ⟨s, rfl, _⟩ := str_of (by kernel_rfl) (by kernel_rfl) h2
  refine rt_call A_law05_JvalSimple rfl rfl 0 ?_
  have h4 := simple4 0 k c s
  rw [E_law05_JvalSimple]
  by_cases hk : k ≥ 0
  case neg =>
    have a1 : decide (k ≥ 0) = false := by simpa using hk
    have hn : nameT k = (⟨#[]⟩ : ByteArray) := by
      unfold nameT
      rw [if_neg (by omega), if_neg (by omega), if_neg (by omega), if_neg (by omega), if_neg (by omega), if_neg (by omega), if_neg (by omega)]
    rw [hn] at h4
    simp only [a1, ifB_false, jump_true, J_law05_JvalSimple_1_0_eq, h4]
  case pos =>
    have a1 : decide (k ≥ 0) = true := by simpa using hk
    by_cases h8 : k < 8
    case neg =>
      have a2 : decide (k < 8) = false := by simpa using h8
      have hn : nameT k = (⟨#[]⟩ : ByteArray) := by
        unfold nameT
        rw [if_neg (by omega), if_neg (by omega), if_neg (by omega), if_neg (by omega), if_neg (by omega), if_neg (by omega), if_neg (by omega)]
      rw [hn] at h4
      simp only [a1, a2, ifB_true, ifB_false, jump_true, J_law05_JvalSimple_1_0_eq, h4]
    case pos =>
      have a2 : decide (k < 8) = true := by simpa using h8
      have hkk : k = 0 ∨ k = 1 ∨ k = 2 ∨ k = 3 ∨ k = 4 ∨ k = 5 ∨ k = 6 ∨ k = 7 := by omega
      have hg : List.getD names8 k.toNat FV.nilp = .str (nameT k) := by
        rcases hkk with rfl | rfl | rfl | rfl | rfl | rfl | rfl | rfl <;> rfl
      have hlen : names8.length = 8 := rfl
      have hb : Nat.blt k.toNat 8 = true := by rw [Nat.blt_eq]; omega
      have a3 : decide (0 ≤ k) = true := by simpa using hk
      have a4 : decide (k < ((8 : Nat) : Int)) = true := a2
      simp only [a1, a2, ifB_true, ifB_false, jump_true, J_law05_JvalSimple_1_0_eq, hg8]
      simp only [hlen, a3, a4, hb, hg, Bool.and_true, when_true', isStr_str, toStr_str, ifB_true, jump_true, h4]
end Go.Ab
