/- How the reference reads a string of JSON. -/
import Derived.Test.YtjmpjkalmhoomaaSUnq0
namespace Go.Ab
set_option linter.unusedVariables false
set_option linter.unusedSimpArgs false
set_option linter.unusedSectionVars false
def failA : Ans := ([.fz (.str (⟨#[]⟩ : ByteArray)), .fz (.int .i64 3)], [])
def unqFin : Option (List UInt8 × Bool) → Ans
  | none => failA
  | some p => if p.2 = true ∨ (signsL p.1).isSome = false then ([.fz (.str (⟨#[]⟩ : ByteArray)), .fz (.int .i64 7)], []) else ([.fz (.str (qB p.1)), .fz (.int .i64 0)], [])
section
variable (s : ByteArray) (hs : s.size ≤ 1099511627776) (K n : Nat)
noncomputable def UL (sh : Bool) (b : Bool) (c : Int) (out : List UInt8) : Option Ans := onL (bif sh then L_ref03_Unquote_1_1 Rt0 K true n s b c (cells out) else L_ref03_Unquote_1_0 Rt0 K true n s b c) (K_ref03_Unquote_1 Rt0 K true)
noncomputable def UJ3 (sh : Bool) (b : Bool) (c d : Int) (out : List UInt8) : Option Ans := onL (bif sh then J_ref03_Unquote_3_1 Rt0 K true n s b c d (cells out) else J_ref03_Unquote_3_0 Rt0 K true n s b c d) (K_ref03_Unquote_1 Rt0 K true)
noncomputable def UJ4 (sh : Bool) (b : Bool) (c d : Int) (out : List UInt8) : Option Ans := onL (bif sh then J_ref03_Unquote_4_1 Rt0 K true n s b c d (cells out) else J_ref03_Unquote_4_0 Rt0 K true n s b c d) (K_ref03_Unquote_1 Rt0 K true)
noncomputable def UJ1 (sh : Bool) (b : Bool) (c d e : Int) (f : Bool) (out : List UInt8) : Option Ans := onL (bif sh then J_ref03_Unquote_1_1 Rt0 K true n s b c d e f (cells out) else J_ref03_Unquote_1_0 Rt0 K true n s b c d e f) (K_ref03_Unquote_1 Rt0 K true)
noncomputable def UJ2 (sh : Bool) (b : Bool) (c d : Int) (e : Bool) (out : List UInt8) : Option Ans := onL (bif sh then J_ref03_Unquote_2_1 Rt0 K true n s b c d e (cells out) else J_ref03_Unquote_2_0 Rt0 K true n s b c d e) (K_ref03_Unquote_1 Rt0 K true)
noncomputable def UJ6 (sh : Bool) (b : Bool) (c d : Int) (out : List UInt8) : Option Ans := onL (bif sh then J_ref03_Unquote_6_1 Rt0 K true n s b c d (cells out) else J_ref03_Unquote_6_0 Rt0 K true n s b c d) (K_ref03_Unquote_1 Rt0 K true)
variable {sh : Bool} {out : List UInt8} (hsh : sh = false → out = []) (hol : out.length ≤ 1099511627776) (b : Bool)
theorem put_len {c : Int} : 1 ≤ (toB (putB c)).length ∧ (toB (putB c)).length ≤ 4 := by
  rw [toB_len, putB_len]
  repeat' split
  all_goals omega
theorem cells_ne {l : List UInt8} (h : 1 ≤ l.length) : (cells l).isEmpty = false := by
  rw [List.isEmpty_eq_false_iff]
  intro e
  have := congrArg List.length e
  rw [cells_len] at this
  simp at this
  rw [this] at h; simp at h
include hsh hol
theorem uj3 (c d : Int) (h0 : 0 ≤ d) (h1 : d ≤ 1114111) (h2 : ¬ (55296 ≤ d ∧ d < 57344)) : UJ3 s K n sh b c d out = UL s K n true b c (out ++ encL d) := by
  have hp := @put_len d
  have he : encL d = toB (putB d) := enc_put h0 h1 h2
  unfold UJ3 UL
  rw [he]
  cases sh with
  | false =>
    rw [hsh rfl]
    simp only [cond_false, cond_true, List.nil_append]
    rw [J_ref03_Unquote_3_0_eq, put3_ok h0 h1, put_cells h0 h1]
    simp only [onR_some, onL_some, List.isEmpty_nil, allF_cons, allF_nil, Bool.and_true, Bool.true_and, when_true', List.getD_cons_zero, List.getD_cons_succ, isF_fz, toF_fz, isBool_bool, toBool_bool, isInt_int, toInt_int, isStr_str, toStr_str, isSl_sl, toSl_sl, List.length_cons, List.length_nil, List.all_cons, List.all_nil, lisFz_fz, ltoFz_fz, beq_self_eq_true, jump_true, ifB_true, ifB_false, isF_pv, isPv_pv, toV_pv, isNil_nilp, isNil_pt, isPt_pt, toAg_ag, cell_ag, isAg_ag, fits_ag, Int.toNat_natCast, Bool.not_true, Bool.not_false, fits_int, fits_bool, fits_str, fits_sl, cells_fits, cells_len]
    rw [room_ok (by omega), when_true', cells_ne hp.1, ifB_false]
  | true =>
    simp only [cond_true]
    rw [J_ref03_Unquote_3_1_eq, put3_ok h0 h1, put_cells h0 h1]
    simp only [onR_some, onL_some, List.isEmpty_nil, allF_cons, allF_nil, Bool.and_true, Bool.true_and, when_true', List.getD_cons_zero, List.getD_cons_succ, isF_fz, toF_fz, isBool_bool, toBool_bool, isInt_int, toInt_int, isStr_str, toStr_str, isSl_sl, toSl_sl, List.length_cons, List.length_nil, List.all_cons, List.all_nil, lisFz_fz, ltoFz_fz, beq_self_eq_true, jump_true, ifB_true, ifB_false, isF_pv, isPv_pv, toV_pv, isNil_nilp, isNil_pt, isPt_pt, toAg_ag, cell_ag, isAg_ag, fits_ag, Int.toNat_natCast, Bool.not_true, Bool.not_false, fits_int, fits_bool, fits_str, fits_sl, cells_fits, cells_len]
    rw [room_ok (by omega), when_true', cells_app]
theorem uj4 (c d : Int) (h0 : 0 ≤ d) (h1 : d ≤ 65535) : UJ4 s K n sh b c d out = if 55296 ≤ d ∧ d < 57344 then UL s K n sh true c out else UL s K n true b c (out ++ encL d) := by
  have e : ∀ x : Bool, UJ4 s K n sh b c d out = if 55296 ≤ d ∧ d < 57344 then UL s K n sh true c out else UJ3 s K n sh b c d out := by
    intro _
    unfold UJ4 UL UJ3
    cases sh with
    | false =>
      simp only [cond_false]
      rw [J_ref03_Unquote_4_0_eq, jump_true]
      by_cases g : 55296 ≤ d
      · rw [decide_eq_true (by omega), ifB_true]
        by_cases g2 : d < 57344
        · rw [decide_eq_true g2, ifB_true, if_pos ⟨g, g2⟩]
        · rw [decide_eq_false g2, ifB_false, if_neg (by omega)]
      · rw [decide_eq_false (by omega), ifB_false, if_neg (by omega)]
    | true =>
      simp only [cond_true]
      rw [J_ref03_Unquote_4_1_eq, jump_true]
      by_cases g : 55296 ≤ d
      · rw [decide_eq_true (by omega), ifB_true]
        by_cases g2 : d < 57344
        · rw [decide_eq_true g2, ifB_true, if_pos ⟨g, g2⟩]
        · rw [decide_eq_false g2, ifB_false, if_neg (by omega)]
      · rw [decide_eq_false (by omega), ifB_false, if_neg (by omega)]
  rw [e true]
  by_cases g : 55296 ≤ d ∧ d < 57344
  · rw [if_pos g, if_pos g]
  · rw [if_neg g, if_neg g, uj3 s K n hsh hol b c d h0 (by omega) g]
theorem uj1 (j : Nat) (hj : j ≤ 1099511627790) (d e : Int) (f : Bool) (h0 : 55296 ≤ d) (h1 : d < 56320) (e0 : f = true → 56320 ≤ e ∧ e < 57344) : UJ1 s K n sh b (j : Int) d e f out = if f then UL s K n true b ((j + 6 : Nat) : Int) (out ++ encL (65536 + (d - 55296) * 1024 + (e - 56320))) else UL s K n sh true (j : Int) out := by
  have hu : UJ4 s K n sh b (j : Int) d out = UL s K n sh true (j : Int) out := by rw [uj4 s K n hsh hol b _ d (by omega) (by omega), if_pos ⟨h0, by omega⟩]
  cases f with
  | false =>
    rw [if_neg (by simp), ← hu]
    unfold UJ1 UJ4
    cases sh with
    | false => simp only [cond_false]; rw [J_ref03_Unquote_1_0_eq, ifB_false, jump_true]
    | true => simp only [cond_true]; rw [J_ref03_Unquote_1_1_eq, ifB_false, jump_true]
  | true =>
    obtain ⟨e1, e2⟩ := e0 rfl
    rw [if_pos rfl]
    have w1 : IntKind.wrap .i64 (d - 55296) = d - 55296 := by rw [wrap64 (by omega) (by omega)]
    have w2 : IntKind.wrap .i64 (1024 * (d - 55296)) = 1024 * (d - 55296) := by rw [wrap64 (by omega) (by omega)]
    have w3 : IntKind.wrap .i64 (65536 + 1024 * (d - 55296)) = 65536 + 1024 * (d - 55296) := by rw [wrap64 (by omega) (by omega)]
    have w4 : IntKind.wrap .i64 (65536 + 1024 * (d - 55296) + e) = 65536 + 1024 * (d - 55296) + e := by rw [wrap64 (by omega) (by omega)]
    have w5 : IntKind.wrap .i64 (65536 + 1024 * (d - 55296) + e - 56320) = 65536 + (d - 55296) * 1024 + (e - 56320) := by rw [wrap64 (by omega) (by omega)]; omega
    have w6 : IntKind.wrap .i64 ((j : Int) + 6) = ((j + 6 : Nat) : Int) := by rw [wrap64 (by omega) (by omega)]; simp
    have g0 : (0 : Int) ≤ 65536 + (d - 55296) * 1024 + (e - 56320) := by omega
    have g1 : 65536 + (d - 55296) * 1024 + (e - 56320) ≤ (1114111 : Int) := by omega
    have g2 : ¬ ((55296 : Int) ≤ 65536 + (d - 55296) * 1024 + (e - 56320) ∧ 65536 + (d - 55296) * 1024 + (e - 56320) < (57344 : Int)) := by omega
    have hp := @put_len (65536 + (d - 55296) * 1024 + (e - 56320))
    have he : encL (65536 + (d - 55296) * 1024 + (e - 56320)) = toB (putB (65536 + (d - 55296) * 1024 + (e - 56320))) := enc_put g0 g1 g2
    rw [he]
    unfold UJ1 UL
    cases sh with
    | false =>
      rw [hsh rfl]
      simp only [cond_false, cond_true, List.nil_append]
      rw [J_ref03_Unquote_1_0_eq, ifB_true, w1, w2, w3, w4, w5, w6, put3_ok g0 g1, put_cells g0 g1]
      simp only [onR_some, onL_some, List.isEmpty_nil, allF_cons, allF_nil, Bool.and_true, Bool.true_and, when_true', List.getD_cons_zero, List.getD_cons_succ, isF_fz, toF_fz, isBool_bool, toBool_bool, isInt_int, toInt_int, isStr_str, toStr_str, isSl_sl, toSl_sl, List.length_cons, List.length_nil, List.all_cons, List.all_nil, lisFz_fz, ltoFz_fz, beq_self_eq_true, jump_true, ifB_true, ifB_false, isF_pv, isPv_pv, toV_pv, isNil_nilp, isNil_pt, isPt_pt, toAg_ag, cell_ag, isAg_ag, fits_ag, Int.toNat_natCast, Bool.not_true, Bool.not_false, fits_int, fits_bool, fits_str, fits_sl, cells_fits, cells_len]
      rw [room_ok (by omega), when_true', cells_ne hp.1, ifB_false]
    | true =>
      simp only [cond_true]
      rw [J_ref03_Unquote_1_1_eq, ifB_true, w1, w2, w3, w4, w5, w6, put3_ok g0 g1, put_cells g0 g1]
      simp only [onR_some, onL_some, List.isEmpty_nil, allF_cons, allF_nil, Bool.and_true, Bool.true_and, when_true', List.getD_cons_zero, List.getD_cons_succ, isF_fz, toF_fz, isBool_bool, toBool_bool, isInt_int, toInt_int, isStr_str, toStr_str, isSl_sl, toSl_sl, List.length_cons, List.length_nil, List.all_cons, List.all_nil, lisFz_fz, ltoFz_fz, beq_self_eq_true, jump_true, ifB_true, ifB_false, isF_pv, isPv_pv, toV_pv, isNil_nilp, isNil_pt, isPt_pt, toAg_ag, cell_ag, isAg_ag, fits_ag, Int.toNat_natCast, Bool.not_true, Bool.not_false, fits_int, fits_bool, fits_str, fits_sl, cells_fits, cells_len]
      rw [room_ok (by omega), when_true', cells_app]
include hs
theorem uj2 (j : Nat) (hj : j ≤ s.size) (d : Int) (e : Bool) (h0 : 0 ≤ d) (h1 : d ≤ 65535) (he : e = true → 55296 ≤ d ∧ d < 56320) : UJ2 s K n sh b (j : Int) d e out =
    if e then (match fourL (s.data.toList.drop (j + 2)) with
      | none => some failA
      | some m => if 56320 ≤ m ∧ m < 57344 then UL s K n true b ((j + 6 : Nat) : Int) (out ++ encL (65536 + (d - 55296) * 1024 + (m - 56320))) else UL s K n sh true (j : Int) out)
    else if 55296 ≤ d ∧ d < 57344 then UL s K n sh true (j : Int) out else UL s K n true b (j : Int) (out ++ encL d) := by
  cases e with
  | false =>
    rw [if_neg (by simp), ← uj4 s K n hsh hol b _ d h0 h1]
    unfold UJ2 UJ4
    cases sh with
    | false => simp only [cond_false]; rw [J_ref03_Unquote_2_0_eq, ifB_false, jump_true]
    | true => simp only [cond_true]; rw [J_ref03_Unquote_2_1_eq, ifB_false, jump_true]
  | true =>
    obtain ⟨d0, d1⟩ := he rfl
    rw [if_pos rfl]
    have w6 : IntKind.wrap .i64 ((j : Int) + 2) = ((j + 2 : Nat) : Int) := by rw [wrap64 (by omega) (by omega)]; simp
    have hfo := four_ok s hs (j + 2) (by omega)
    unfold fourI at hfo
    cases hf : fourL (s.data.toList.drop (j + 2)) with
    | none =>
      rw [hf] at hfo
      have z : decide ((-1 : Int) < 0) = true := rfl
      unfold UJ2
      cases sh with
      | false => simp only [cond_false]; rw [J_ref03_Unquote_2_0_eq, ifB_true, w6, hfo]; simp only [onR_some, onL_some, List.isEmpty_nil, allF_cons, allF_nil, Bool.and_true, Bool.true_and, when_true', List.getD_cons_zero, List.getD_cons_succ, isF_fz, toF_fz, isBool_bool, toBool_bool, isInt_int, toInt_int, isStr_str, toStr_str, isSl_sl, toSl_sl, List.length_cons, List.length_nil, List.all_cons, List.all_nil, lisFz_fz, ltoFz_fz, beq_self_eq_true, jump_true, ifB_true, ifB_false, isF_pv, isPv_pv, toV_pv, isNil_nilp, isNil_pt, isPt_pt, toAg_ag, cell_ag, isAg_ag, fits_ag, Int.toNat_natCast, Bool.not_true, Bool.not_false, fits_int, fits_bool, fits_str, fits_sl]; rw [z, ifB_true, onL_some, X_ref03_Unquote_1_0_eq]; rfl
      | true => simp only [cond_true]; rw [J_ref03_Unquote_2_1_eq, ifB_true, w6, hfo]; simp only [onR_some, onL_some, List.isEmpty_nil, allF_cons, allF_nil, Bool.and_true, Bool.true_and, when_true', List.getD_cons_zero, List.getD_cons_succ, isF_fz, toF_fz, isBool_bool, toBool_bool, isInt_int, toInt_int, isStr_str, toStr_str, isSl_sl, toSl_sl, List.length_cons, List.length_nil, List.all_cons, List.all_nil, lisFz_fz, ltoFz_fz, beq_self_eq_true, jump_true, ifB_true, ifB_false, isF_pv, isPv_pv, toV_pv, isNil_nilp, isNil_pt, isPt_pt, toAg_ag, cell_ag, isAg_ag, fits_ag, Int.toNat_natCast, Bool.not_true, Bool.not_false, fits_int, fits_bool, fits_str, fits_sl]; rw [z, ifB_true, onL_some, X_ref03_Unquote_1_2_eq]; rfl
    | some m =>
      rw [hf] at hfo
      obtain ⟨m0, m1, _⟩ := fourL_range hf
      simp only at hfo ⊢
      have key : ∀ f : Bool, f = decide (56320 ≤ m ∧ m < 57344) → UJ1 s K n sh b (j : Int) d m f out = if 56320 ≤ m ∧ m < 57344 then UL s K n true b ((j + 6 : Nat) : Int) (out ++ encL (65536 + (d - 55296) * 1024 + (m - 56320))) else UL s K n sh true (j : Int) out := by
        intro f hf
        rw [uj1 s K n hsh hol b j (by omega) d m f d0 d1 (fun h => by rw [hf] at h; exact of_decide_eq_true h), hf]
        by_cases g : 56320 ≤ m ∧ m < 57344
        · rw [if_pos g, decide_eq_true g, if_pos rfl]
        · rw [if_neg g, decide_eq_false g, if_neg (by simp)]
      by_cases g1 : 56320 ≤ m
      · rw [← key (decide (m < 57344)) (by simp [g1])]
        unfold UJ2 UJ1
        cases sh with
        | false => simp only [cond_false]; rw [J_ref03_Unquote_2_0_eq, ifB_true, w6, hfo]; simp only [onR_some, onL_some, List.isEmpty_nil, allF_cons, allF_nil, Bool.and_true, Bool.true_and, when_true', List.getD_cons_zero, List.getD_cons_succ, isF_fz, toF_fz, isBool_bool, toBool_bool, isInt_int, toInt_int, isStr_str, toStr_str, isSl_sl, toSl_sl, List.length_cons, List.length_nil, List.all_cons, List.all_nil, lisFz_fz, ltoFz_fz, beq_self_eq_true, jump_true, ifB_true, ifB_false, isF_pv, isPv_pv, toV_pv, isNil_nilp, isNil_pt, isPt_pt, toAg_ag, cell_ag, isAg_ag, fits_ag, Int.toNat_natCast, Bool.not_true, Bool.not_false, fits_int, fits_bool, fits_str, fits_sl]; rw [decide_eq_false (by omega), ifB_false, decide_eq_true (show m ≥ 56320 from g1), ifB_true]
        | true => simp only [cond_true]; rw [J_ref03_Unquote_2_1_eq, ifB_true, w6, hfo]; simp only [onR_some, onL_some, List.isEmpty_nil, allF_cons, allF_nil, Bool.and_true, Bool.true_and, when_true', List.getD_cons_zero, List.getD_cons_succ, isF_fz, toF_fz, isBool_bool, toBool_bool, isInt_int, toInt_int, isStr_str, toStr_str, isSl_sl, toSl_sl, List.length_cons, List.length_nil, List.all_cons, List.all_nil, lisFz_fz, ltoFz_fz, beq_self_eq_true, jump_true, ifB_true, ifB_false, isF_pv, isPv_pv, toV_pv, isNil_nilp, isNil_pt, isPt_pt, toAg_ag, cell_ag, isAg_ag, fits_ag, Int.toNat_natCast, Bool.not_true, Bool.not_false, fits_int, fits_bool, fits_str, fits_sl]; rw [decide_eq_false (by omega), ifB_false, decide_eq_true (show m ≥ 56320 from g1), ifB_true]
      · rw [← key false (by simp [g1])]
        unfold UJ2 UJ1
        cases sh with
        | false => simp only [cond_false]; rw [J_ref03_Unquote_2_0_eq, ifB_true, w6, hfo]; simp only [onR_some, onL_some, List.isEmpty_nil, allF_cons, allF_nil, Bool.and_true, Bool.true_and, when_true', List.getD_cons_zero, List.getD_cons_succ, isF_fz, toF_fz, isBool_bool, toBool_bool, isInt_int, toInt_int, isStr_str, toStr_str, isSl_sl, toSl_sl, List.length_cons, List.length_nil, List.all_cons, List.all_nil, lisFz_fz, ltoFz_fz, beq_self_eq_true, jump_true, ifB_true, ifB_false, isF_pv, isPv_pv, toV_pv, isNil_nilp, isNil_pt, isPt_pt, toAg_ag, cell_ag, isAg_ag, fits_ag, Int.toNat_natCast, Bool.not_true, Bool.not_false, fits_int, fits_bool, fits_str, fits_sl]; rw [decide_eq_false (by omega), ifB_false, decide_eq_false (show ¬ m ≥ 56320 from g1), ifB_false]
        | true => simp only [cond_true]; rw [J_ref03_Unquote_2_1_eq, ifB_true, w6, hfo]; simp only [onR_some, onL_some, List.isEmpty_nil, allF_cons, allF_nil, Bool.and_true, Bool.true_and, when_true', List.getD_cons_zero, List.getD_cons_succ, isF_fz, toF_fz, isBool_bool, toBool_bool, isInt_int, toInt_int, isStr_str, toStr_str, isSl_sl, toSl_sl, List.length_cons, List.length_nil, List.all_cons, List.all_nil, lisFz_fz, ltoFz_fz, beq_self_eq_true, jump_true, ifB_true, ifB_false, isF_pv, isPv_pv, toV_pv, isNil_nilp, isNil_pt, isPt_pt, toAg_ag, cell_ag, isAg_ag, fits_ag, Int.toNat_natCast, Bool.not_true, Bool.not_false, fits_int, fits_bool, fits_str, fits_sl]; rw [decide_eq_false (by omega), ifB_false, decide_eq_false (show ¬ m ≥ 56320 from g1), ifB_false]
end
end Go.Ab
