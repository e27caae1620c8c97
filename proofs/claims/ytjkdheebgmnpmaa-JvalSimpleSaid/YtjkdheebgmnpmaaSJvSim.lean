/- The program's own makers of values. -/
import Derived.Test.YtjkdheebgmnpmaaSJvSame
namespace Go.Ab
set_option linter.unusedVariables false
set_option linter.unusedSimpArgs false

theorem numMake_ok (c : Int) : Rt N_num_Make [.fz (.int .i64 c), .fz (.int .i64 0)] = some (match num4B c 0 with
    | true => ([.fz (.ag [.int .i64 c, .int .i64 0]), .fz (.int .i64 0)], [])
    | false => ([.fz (.ag [.int .i64 0, .int .i64 0]), .fz (.int .i64 8)], [])) := by
  have h := numIs_ok c 0
  refine rt_call A_num_Make rfl rfl 1 ?_
  rw [E_num_Make]
  simp only [show decide ((0 : Int) < 0) = false from rfl, show decide ((0 : Int) > 30) = false from rfl, show decide ((0 : Int) > 0) = false from rfl, ifB_false, jump_true, J_num_Make_3_0_eq, L_num_Make_1_0_eq, onL_some, X_num_Make_1_0_eq, h, onR_some, List.isEmpty_nil, allF_cons, allF_nil, Bool.and_true, when_true', List.getD_cons_zero, toF_fz, isBool_bool, toBool_bool]
  cases num4B c 0 with
  | true => simp only [Bool.not_true, ifB_false]
  | false => simp only [Bool.not_false, ifB_true]

theorem numInt_ok (c : Int) : Rt N_num_Int [.fz (.int .i64 c)] = some (match num4B c 0 with
    | true => ([.fz (.ag [.int .i64 c, .int .i64 0]), .fz (.int .i64 0)], [])
    | false => ([.fz (.ag [.int .i64 0, .int .i64 0]), .fz (.int .i64 8)], [])) := by
  have h := numMake_ok c
  refine rt_call A_num_Int rfl rfl 0 ?_
  rw [E_num_Int]
  have fa : ∀ a b : Int, FV.fits 2 true (.ag [.int .i64 a, .int .i64 b]) = true := fun _ _ => rfl
  cases hb : num4B c 0 with
  | true =>
    rw [hb] at h
    simp only [h, fa, onR_some, List.isEmpty_nil, allF_cons, allF_nil, Bool.and_true, when_true', List.getD_cons_zero, List.getD_cons_succ, toF_fz, isInt_int, toInt_int]
  | false =>
    rw [hb] at h
    simp only [h, fa, onR_some, List.isEmpty_nil, allF_cons, allF_nil, Bool.and_true, when_true', List.getD_cons_zero, List.getD_cons_succ, toF_fz, isInt_int, toInt_int]

def numT : ByteArray := ⟨#[110, 117, 109, 98, 101, 114]⟩
def nilT : ByteArray := ⟨#[]⟩
theorem jText_ok (s : ByteArray) : Rt N_jval_Text [.fz (.str s)] = some ([.fz (JV.mk 4 0 0 s [] []).enc], []) := by
  refine rt_call A_jval_Text rfl rfl 0 ?_
  rw [E_jval_Text, JV.enc_mk]; exact Eq.refl _
theorem jWrong_ok (s : ByteArray) : Rt N_jval_Wrong [.fz (.str s)] = some ([.fz (JV.mk 7 0 0 s [] []).enc], []) := by
  refine rt_call A_jval_Wrong rfl rfl 0 ?_
  rw [E_jval_Wrong, JV.enc_mk]; exact Eq.refl _
theorem jTrue_ok : Rt N_jval_Truth [.fz (.bool true)] = some ([.fz (JV.mk 2 0 0 nilT [] []).enc], []) := by
  refine rt_call A_jval_Truth rfl rfl 0 ?_
  rw [E_jval_Truth, JV.enc_mk]; exact Eq.refl _
theorem jFalse_ok : Rt N_jval_Truth [.fz (.bool false)] = some ([.fz (JV.mk 1 0 0 nilT [] []).enc], []) := by
  refine rt_call A_jval_Truth rfl rfl 0 ?_
  rw [E_jval_Truth, JV.enc_mk]; exact Eq.refl _
theorem jList2_ok (x y : JV) : Rt N_jval_List [.fz (.sl [x.enc, y.enc])] = some ([.fz (JV.mk 5 0 0 nilT [x, y] []).enc], []) := by
  refine rt_call A_jval_List rfl rfl 0 ?_
  have hx := x.enc_fits
  have hy := y.enc_fits
  have e1 : (List.all [x.enc, y.enc] (FV.fits 6 true)) = true := by rw [List.all_cons, List.all_cons, hx, hy]; rfl
  have e2 : (decide ((0 + (2 : Nat)) * 88 ≤ roomy) && decide (0 + (2 : Nat) ≤ roomy)) = true := by kernel_rfl
  rw [E_jval_List, JV.enc_mk]
  simp only [e1, when_true', show [x.enc, y.enc].length = 2 from rfl, e2]
  exact Eq.refl _
theorem jList0_ok : Rt N_jval_List [.fz (.sl [])] = some ([.fz (JV.mk 5 0 0 nilT [] []).enc], []) := by
  refine rt_call A_jval_List rfl rfl 0 ?_
  have e1 : (List.all ([] : List FV) (FV.fits 6 true)) = true := rfl
  have e2 : (decide ((0 + (0 : Nat)) * 88 ≤ roomy) && decide (0 + (0 : Nat) ≤ roomy)) = true := by kernel_rfl
  rw [E_jval_List, JV.enc_mk]
  simp only [e1, when_true', show ([] : List FV).length = 0 from rfl, e2]
  exact Eq.refl _
theorem jInt_ok (c : Int) : Rt N_jval_Int [.fz (.int .i64 c)] = some (match num4B c 0 with
    | true => ([.fz (JV.mk 3 c 0 nilT [] []).enc], [])
    | false => ([.fz (JV.mk 7 0 0 numT [] []).enc], [])) := by
  have h := numInt_ok c
  have hW := jWrong_ok numT
  have hf := (JV.mk 7 0 0 numT [] []).enc_fits
  refine rt_call A_jval_Int rfl rfl 0 ?_
  rw [E_jval_Int]
  have fa : ∀ a b : Int, FV.fits 2 true (.ag [.int .i64 a, .int .i64 b]) = true := fun _ _ => rfl
  have fb : ∀ a b : Int, FV.isAg 2 (.ag [.int .i64 a, .int .i64 b]) = true := fun _ _ => rfl
  have fc : ∀ a b : Int, FV.cell (.ag [.int .i64 a, .int .i64 b]) 0 = .int .i64 a := fun _ _ => rfl
  have fd : ∀ a b : Int, FV.cell (.ag [.int .i64 a, .int .i64 b]) 1 = .int .i64 b := fun _ _ => rfl
  unfold numT at hW hf
  cases hb : num4B c 0 with
  | true =>
    rw [hb] at h
    rw [JV.enc_mk]
    simp only [h, fa, fb, fc, fd, onR_some, List.isEmpty_nil, allF_cons, allF_nil, Bool.and_true, when_true', List.getD_cons_zero, List.getD_cons_succ, toF_fz, isInt_int, toInt_int, show ((0 : Int) != 0) = false from rfl, ifB_false]
    exact Eq.refl _
  | false =>
    rw [hb] at h
    simp only [h, hW, hf, fa, fb, fc, fd, onR_some, List.isEmpty_nil, allF_cons, allF_nil, Bool.and_true, when_true', List.getD_cons_zero, List.getD_cons_succ, toF_fz, isInt_int, toInt_int, show ((8 : Int) != 0) = true from rfl, ifB_true]
    exact Eq.refl _

def nameT (k : Int) : ByteArray := if k = 0 then ⟨#[110, 117, 108, 108]⟩ else if k = 1 ∨ k = 2 then ⟨#[98, 111, 111, 108, 101, 97, 110]⟩ else if k = 3 then ⟨#[110, 117, 109, 98, 101, 114]⟩
  else if k = 4 then ⟨#[115, 116, 114, 105, 110, 103]⟩ else if k = 5 then ⟨#[97, 114, 114, 97, 121]⟩ else if k = 6 then ⟨#[111, 98, 106, 101, 99, 116]⟩ else if k = 7 then ⟨#[101, 114, 114, 111, 114]⟩ else ⟨#[]⟩
theorem jName_ok (k : Int) : Rt N_jval_Name [.fz (.int .i64 k)] = some ([.fz (.str (nameT k))], []) := by
  refine rt_call A_jval_Name rfl rfl 0 ?_
  rw [E_jval_Name]
  unfold nameT
  by_cases h0 : k = 0
  · subst h0; exact Eq.refl _
  by_cases h1 : k = 1
  · subst h1; simp only [show ((1 : Int) == 0) = false from rfl, show ((1 : Int) == 1) = true from rfl, ifB_true, ifB_false, jump_true, J_jval_Name_1_0_eq]; exact Eq.refl _
  by_cases h2 : k = 2
  · subst h2; simp only [show ((2 : Int) == 0) = false from rfl, show ((2 : Int) == 1) = false from rfl, show ((2 : Int) == 2) = true from rfl, ifB_true, ifB_false, jump_true, J_jval_Name_1_0_eq]; exact Eq.refl _
  have a0 : (k == 0) = false := by simpa using h0
  have a1 : (k == 1) = false := by simpa using h1
  have a2 : (k == 2) = false := by simpa using h2
  have o : ¬ (k = 1 ∨ k = 2) := by omega
  simp only [a0, a1, a2, ifB_false, jump_true, J_jval_Name_1_0_eq, if_neg h0, if_neg o]
  by_cases h3 : k = 3
  · subst h3; exact Eq.refl _
  have a3 : (k == 3) = false := by simpa using h3
  simp only [a3, ifB_false, if_neg h3]
  by_cases h4 : k = 4
  · subst h4; exact Eq.refl _
  have a4 : (k == 4) = false := by simpa using h4
  simp only [a4, ifB_false, if_neg h4]
  by_cases h5 : k = 5
  · subst h5; exact Eq.refl _
  have a5 : (k == 5) = false := by simpa using h5
  simp only [a5, ifB_false, if_neg h5]
  by_cases h6 : k = 6
  · subst h6; exact Eq.refl _
  have a6 : (k == 6) = false := by simpa using h6
  simp only [a6, ifB_false, if_neg h6]
  by_cases h7 : k = 7
  · subst h7; exact Eq.refl _
  have a7 : (k == 7) = false := by simpa using h7
  simp only [a7, ifB_false, if_neg h7]
end Go.Ab
