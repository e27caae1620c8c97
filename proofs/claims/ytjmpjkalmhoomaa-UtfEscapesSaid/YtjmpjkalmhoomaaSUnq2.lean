/- What keyholeref03.Unquote answers. -/
import Derived.Test.YtjmpjkalmhoomaaSUnq1
namespace Go.Ab
set_option linter.unusedVariables false
set_option linter.unusedSimpArgs false
set_option linter.unusedSectionVars false
theorem pre2 (a b : UInt8) (r : List UInt8) : Lib.hasPrefix (a :: b :: r) [92, 117] = (decide ((a.toNat : Int) = 92) && decide ((b.toNat : Int) = 117)) := by
  have ha : (92 == a) = decide ((a.toNat : Int) = 92) := by
    rw [Bool.eq_iff_iff, beq_iff_eq, decide_eq_true_iff]
    constructor
    · rintro rfl; rfl
    · intro h; exact (UInt8.toNat_inj.1 (by show a.toNat = 92; omega)).symm
  have hb : (117 == b) = decide ((b.toNat : Int) = 117) := by
    rw [Bool.eq_iff_iff, beq_iff_eq, decide_eq_true_iff]
    constructor
    · rintro rfl; rfl
    · intro h; exact (UInt8.toNat_inj.1 (by show b.toNat = 117; omega)).symm
  show ((92 : UInt8) == a && ((117 : UInt8) == b && true)) = _
  rw [ha, hb, Bool.and_true]
theorem pre1 (a : UInt8) : Lib.hasPrefix [a] [92, 117] = false := by
  show ((92 : UInt8) == a && false) = _
  simp
theorem pre0 : Lib.hasPrefix [] [92, 117] = false := rfl
section
variable (s : ByteArray) (hs : s.size ≤ 1099511627776) (K n : Nat)
variable {sh : Bool} {out : List UInt8} (hsh : sh = false → out = []) (hol : out.length ≤ 1099511627776) (b : Bool)
include hsh hol hs
theorem uj6_plain (i : Nat) (x : UInt8) (r : List UInt8) (hd : s.data.toList.drop i = x :: r) (hx : ¬ x = 92) : UJ6 s K n sh b (i : Int) ((x.toNat : Nat) : Int) out = UL s K n true b ((i + 1 : Nat) : Int) (out ++ [x]) := by
  obtain ⟨g1, g2, g3⟩ := at_drop hd
  have w1 : IntKind.wrap .i64 ((i : Int) + 1) = ((i + 1 : Nat) : Int) := by rw [wrap64 (by omega) (by omega)]; simp
  have e : [FV.int .u8 ((x.toNat : Nat) : Int)] = cells [x] := rfl
  have hx' : ((((x.toNat : Nat) : Int)) != 92) = true := by rw [bne_iff_ne]; intro h; exact hx (UInt8.toNat_inj.1 (by show x.toNat = 92; omega))
  unfold UJ6 UL
  cases sh with
  | false =>
    rw [hsh rfl]
    simp only [cond_false, cond_true, List.nil_append]
    rw [J_ref03_Unquote_6_0_eq, hx', ifB_true, e, cells_len, room_ok (by simp), when_true', w1]
  | true =>
    simp only [cond_true]
    rw [J_ref03_Unquote_6_1_eq, hx', ifB_true, e, cells_len, cells_len, room_ok (by simp; omega), when_true', w1, cells_app]
theorem uj6_end (i : Nat) (hd : s.data.toList.drop i = [92]) : UJ6 s K n sh b (i : Int) 92 out = some failA := by
  obtain ⟨g1, g2, g3⟩ := at_drop hd
  have g4 := drop_end g3
  have w1 : IntKind.wrap .i64 ((i : Int) + 1) = ((i + 1 : Nat) : Int) := by rw [wrap64 (by omega) (by omega)]; simp
  have z : ((92 : Int) != 92) = false := rfl
  unfold UJ6
  cases sh with
  | false => simp only [cond_false]; rw [J_ref03_Unquote_6_0_eq, z, ifB_false, w1, decide_eq_true (by omega), ifB_true, onL_some, X_ref03_Unquote_1_0_eq]; rfl
  | true => simp only [cond_true]; rw [J_ref03_Unquote_6_1_eq, z, ifB_false, w1, decide_eq_true (by omega), ifB_true, onL_some, X_ref03_Unquote_1_2_eq]; rfl
theorem uj6_simple (i : Nat) (y : UInt8) (r : List UInt8) (hd : s.data.toList.drop i = 92 :: y :: r) (hy : ¬ y = 117) : UJ6 s K n sh b (i : Int) 92 out =
    if Lib.indexByte escI y < 0 then some failA else UL s K n true b ((i + 2 : Nat) : Int) (out ++ [escO.getD (Lib.indexByte escI y).toNat 0]) := by
  obtain ⟨g1, g2, g3⟩ := at_drop hd
  obtain ⟨g4, g5, g6⟩ := at_drop g3
  have w1 : IntKind.wrap .i64 ((i : Int) + 1) = ((i + 1 : Nat) : Int) := by rw [wrap64 (by omega) (by omega)]; simp
  have w2 : IntKind.wrap .i64 ((i : Int) + 2) = ((i + 2 : Nat) : Int) := by rw [wrap64 (by omega) (by omega)]; simp
  have z : ((92 : Int) != 92) = false := rfl
  have hy' : ((((y.toNat : Nat) : Int)) != 117) = true := by rw [bne_iff_ne]; intro h; exact hy (UInt8.toNat_inj.1 (by show y.toNat = 117; omega))
  have hsi := simple_ok y
  have hv : simV y = if Lib.indexByte escI y < 0 then -1 else ((escO.getD (Lib.indexByte escI y).toNat 0).toNat : Int) := rfl
  have A1 : decide (((i + 1 : Nat) : Int) ≥ (s.size : Int)) = false := decide_eq_false (by omega)
  have A2 : (decide ((0 : Int) ≤ ((i + 1 : Nat) : Int)) && decide (((i + 1 : Nat) : Int) < (s.size : Int))) = true := by rw [Bool.and_eq_true, decide_eq_true_eq, decide_eq_true_eq]; omega
  by_cases g : Lib.indexByte escI y < 0
  · rw [if_pos g]
    rw [if_pos g] at hv
    rw [hv] at hsi
    have z1 : decide ((-1 : Int) < 0) = true := rfl
    unfold UJ6
    cases sh with
    | false => simp only [cond_false]; rw [J_ref03_Unquote_6_0_eq, z, ifB_false, w1, A1, ifB_false, A2, when_true', Int.toNat_natCast, g4, hy', ifB_true, when_true', hsi]; simp only [onR_some, onL_some, List.isEmpty_nil, allF_cons, allF_nil, Bool.and_true, Bool.true_and, when_true', List.getD_cons_zero, List.getD_cons_succ, isF_fz, toF_fz, isBool_bool, toBool_bool, isInt_int, toInt_int, isStr_str, toStr_str, isSl_sl, toSl_sl, List.length_cons, List.length_nil, List.all_cons, List.all_nil, lisFz_fz, ltoFz_fz, beq_self_eq_true, jump_true, ifB_true, ifB_false, isF_pv, isPv_pv, toV_pv, isNil_nilp, isNil_pt, isPt_pt, toAg_ag, cell_ag, isAg_ag, fits_ag, Int.toNat_natCast, Bool.not_true, Bool.not_false, fits_int, fits_bool, fits_str, fits_sl]; rw [z1, ifB_true, onL_some, X_ref03_Unquote_1_0_eq]; rfl
    | true => simp only [cond_true]; rw [J_ref03_Unquote_6_1_eq, z, ifB_false, w1, A1, ifB_false, A2, when_true', Int.toNat_natCast, g4, hy', ifB_true, when_true', hsi]; simp only [onR_some, onL_some, List.isEmpty_nil, allF_cons, allF_nil, Bool.and_true, Bool.true_and, when_true', List.getD_cons_zero, List.getD_cons_succ, isF_fz, toF_fz, isBool_bool, toBool_bool, isInt_int, toInt_int, isStr_str, toStr_str, isSl_sl, toSl_sl, List.length_cons, List.length_nil, List.all_cons, List.all_nil, lisFz_fz, ltoFz_fz, beq_self_eq_true, jump_true, ifB_true, ifB_false, isF_pv, isPv_pv, toV_pv, isNil_nilp, isNil_pt, isPt_pt, toAg_ag, cell_ag, isAg_ag, fits_ag, Int.toNat_natCast, Bool.not_true, Bool.not_false, fits_int, fits_bool, fits_str, fits_sl]; rw [z1, ifB_true, onL_some, X_ref03_Unquote_1_2_eq]; rfl
  · rw [if_neg g]
    rw [if_neg g] at hv
    rw [hv] at hsi
    generalize escO.getD (Lib.indexByte escI y).toNat 0 = v at hsi
    have hvl := v.toNat_lt
    have z1 : decide (((v.toNat : Nat) : Int) < 0) = false := decide_eq_false (by omega)
    have w3 : IntKind.wrap .u8 ((v.toNat : Nat) : Int) = ((v.toNat : Nat) : Int) := by
      show ((v.toNat : Nat) : Int) % 256 = _
      omega
    have e : [FV.int .u8 ((v.toNat : Nat) : Int)] = cells [v] := rfl
    unfold UJ6 UL
    cases sh with
    | false =>
      rw [hsh rfl]
      simp only [cond_false, cond_true, List.nil_append]; rw [J_ref03_Unquote_6_0_eq, z, ifB_false, w1, A1, ifB_false, A2, when_true', Int.toNat_natCast, g4, hy', ifB_true, when_true', hsi]; simp only [onR_some, List.isEmpty_nil, allF_cons, allF_nil, Bool.and_true, Bool.true_and, when_true', List.getD_cons_zero, isF_fz, toF_fz, isInt_int, toInt_int, beq_self_eq_true]; rw [z1, ifB_false, w3, e, cells_len, room_ok (by simp), when_true', w2]
    | true => simp only [cond_true]; rw [J_ref03_Unquote_6_1_eq, z, ifB_false, w1, A1, ifB_false, A2, when_true', Int.toNat_natCast, g4, hy', ifB_true, when_true', hsi]; simp only [onR_some, List.isEmpty_nil, allF_cons, allF_nil, Bool.and_true, Bool.true_and, when_true', List.getD_cons_zero, isF_fz, toF_fz, isInt_int, toInt_int, beq_self_eq_true]; rw [z1, ifB_false, w3, e, cells_len, cells_len, room_ok (by simp; omega), when_true', w2, cells_app]
theorem uj6_u (i : Nat) (r : List UInt8) (hd : s.data.toList.drop i = 92 :: 117 :: r) : UJ6 s K n sh b (i : Int) 92 out =
    match fourL r with
    | none => some failA
    | some m => UJ2 s K n sh b ((i + 6 : Nat) : Int) m (decide (55296 ≤ m ∧ m < 56320) && Lib.hasPrefix (r.drop 4) [92, 117]) out := by
  obtain ⟨g1, g2, g3⟩ := at_drop hd
  obtain ⟨g4, g5, g6⟩ := at_drop g3
  have w1 : IntKind.wrap .i64 ((i : Int) + 1) = ((i + 1 : Nat) : Int) := by rw [wrap64 (by omega) (by omega)]; simp
  have w2 : IntKind.wrap .i64 ((i : Int) + 2) = ((i + 2 : Nat) : Int) := by rw [wrap64 (by omega) (by omega)]; simp
  have w6 : IntKind.wrap .i64 ((i : Int) + 6) = ((i + 6 : Nat) : Int) := by rw [wrap64 (by omega) (by omega)]; simp
  have w7 : IntKind.wrap .i64 (((i + 6 : Nat) : Int) + 1) = ((i + 7 : Nat) : Int) := by rw [wrap64 (by omega) (by omega)]; omega
  have z : ((92 : Int) != 92) = false := rfl
  have hy' : (((((117 : UInt8).toNat : Nat) : Int)) != 117) = false := rfl
  have A1 : decide (((i + 1 : Nat) : Int) ≥ (s.size : Int)) = false := decide_eq_false (by omega)
  have A2 : (decide ((0 : Int) ≤ ((i + 1 : Nat) : Int)) && decide (((i + 1 : Nat) : Int) < (s.size : Int))) = true := by rw [Bool.and_eq_true, decide_eq_true_eq, decide_eq_true_eq]; omega
  have hfo := four_ok s hs (i + 2) (by omega)
  have hr2 : s.data.toList.drop (i + 2) = r := g6
  rw [hr2] at hfo
  unfold fourI at hfo
  cases hf : fourL r with
  | none =>
    rw [hf] at hfo
    have z1 : decide ((-1 : Int) < 0) = true := rfl
    unfold UJ6
    cases sh with
    | false => simp only [cond_false]; rw [J_ref03_Unquote_6_0_eq, z, ifB_false, w1, A1, ifB_false, A2, when_true', Int.toNat_natCast, g4, hy', ifB_false, w2, hfo]; simp only [onR_some, onL_some, List.isEmpty_nil, allF_cons, allF_nil, Bool.and_true, Bool.true_and, when_true', List.getD_cons_zero, List.getD_cons_succ, isF_fz, toF_fz, isBool_bool, toBool_bool, isInt_int, toInt_int, isStr_str, toStr_str, isSl_sl, toSl_sl, List.length_cons, List.length_nil, List.all_cons, List.all_nil, lisFz_fz, ltoFz_fz, beq_self_eq_true, jump_true, ifB_true, ifB_false, isF_pv, isPv_pv, toV_pv, isNil_nilp, isNil_pt, isPt_pt, toAg_ag, cell_ag, isAg_ag, fits_ag, Int.toNat_natCast, Bool.not_true, Bool.not_false, fits_int, fits_bool, fits_str, fits_sl]; rw [z1, ifB_true, onL_some, X_ref03_Unquote_1_0_eq]; rfl
    | true => simp only [cond_true]; rw [J_ref03_Unquote_6_1_eq, z, ifB_false, w1, A1, ifB_false, A2, when_true', Int.toNat_natCast, g4, hy', ifB_false, w2, hfo]; simp only [onR_some, onL_some, List.isEmpty_nil, allF_cons, allF_nil, Bool.and_true, Bool.true_and, when_true', List.getD_cons_zero, List.getD_cons_succ, isF_fz, toF_fz, isBool_bool, toBool_bool, isInt_int, toInt_int, isStr_str, toStr_str, isSl_sl, toSl_sl, List.length_cons, List.length_nil, List.all_cons, List.all_nil, lisFz_fz, ltoFz_fz, beq_self_eq_true, jump_true, ifB_true, ifB_false, isF_pv, isPv_pv, toV_pv, isNil_nilp, isNil_pt, isPt_pt, toAg_ag, cell_ag, isAg_ag, fits_ag, Int.toNat_natCast, Bool.not_true, Bool.not_false, fits_int, fits_bool, fits_str, fits_sl]; rw [z1, ifB_true, onL_some, X_ref03_Unquote_1_2_eq]; rfl
  | some m =>
    rw [hf] at hfo
    obtain ⟨m0, m1, m4⟩ := fourL_range hf
    simp only at hfo ⊢
    have z1 : decide (m < 0) = false := decide_eq_false (by omega)
    have hr4 : s.data.toList.drop (i + 6) = r.drop 4 := by rw [← hr2, List.drop_drop]
    have hlen : i + 6 ≤ s.size := by
      have := congrArg List.length hr2
      rw [List.length_drop, Array.length_toList] at this
      have e2 : s.data.size = s.size := rfl
      omega
    by_cases c1 : 55296 ≤ m
    · by_cases c2 : m < 56320
      · have B1 : decide (m ≥ 55296) = true := decide_eq_true c1
        have B2 : decide (m < 56320) = true := decide_eq_true c2
        rw [decide_eq_true (show 55296 ≤ m ∧ m < 56320 from ⟨c1, c2⟩), Bool.true_and]
        match hq : r.drop 4 with
        | [] =>
          rw [hq] at hr4
          have := drop_end hr4
          have B3 : decide (((i + 7 : Nat) : Int) < (s.size : Int)) = false := decide_eq_false (by omega)
          rw [pre0]
          unfold UJ6 UJ2
          cases sh with
          | false => simp only [cond_false]; rw [J_ref03_Unquote_6_0_eq, z, ifB_false, w1, A1, ifB_false, A2, when_true', Int.toNat_natCast, g4, hy', ifB_false, w2, hfo]; simp only [onR_some, onL_some, List.isEmpty_nil, allF_cons, allF_nil, Bool.and_true, Bool.true_and, when_true', List.getD_cons_zero, List.getD_cons_succ, isF_fz, toF_fz, isBool_bool, toBool_bool, isInt_int, toInt_int, isStr_str, toStr_str, isSl_sl, toSl_sl, List.length_cons, List.length_nil, List.all_cons, List.all_nil, lisFz_fz, ltoFz_fz, beq_self_eq_true, jump_true, ifB_true, ifB_false, isF_pv, isPv_pv, toV_pv, isNil_nilp, isNil_pt, isPt_pt, toAg_ag, cell_ag, isAg_ag, fits_ag, Int.toNat_natCast, Bool.not_true, Bool.not_false, fits_int, fits_bool, fits_str, fits_sl]; rw [z1, ifB_false, B1, ifB_true, B2, ifB_true, w6, w7, B3, ifB_false]
          | true => simp only [cond_true]; rw [J_ref03_Unquote_6_1_eq, z, ifB_false, w1, A1, ifB_false, A2, when_true', Int.toNat_natCast, g4, hy', ifB_false, w2, hfo]; simp only [onR_some, onL_some, List.isEmpty_nil, allF_cons, allF_nil, Bool.and_true, Bool.true_and, when_true', List.getD_cons_zero, List.getD_cons_succ, isF_fz, toF_fz, isBool_bool, toBool_bool, isInt_int, toInt_int, isStr_str, toStr_str, isSl_sl, toSl_sl, List.length_cons, List.length_nil, List.all_cons, List.all_nil, lisFz_fz, ltoFz_fz, beq_self_eq_true, jump_true, ifB_true, ifB_false, isF_pv, isPv_pv, toV_pv, isNil_nilp, isNil_pt, isPt_pt, toAg_ag, cell_ag, isAg_ag, fits_ag, Int.toNat_natCast, Bool.not_true, Bool.not_false, fits_int, fits_bool, fits_str, fits_sl]; rw [z1, ifB_false, B1, ifB_true, B2, ifB_true, w6, w7, B3, ifB_false]
        | [a] =>
          rw [hq] at hr4
          obtain ⟨_, _, h3⟩ := at_drop hr4
          have := drop_end h3
          have B3 : decide (((i + 7 : Nat) : Int) < (s.size : Int)) = false := decide_eq_false (by omega)
          rw [pre1]
          unfold UJ6 UJ2
          cases sh with
          | false => simp only [cond_false]; rw [J_ref03_Unquote_6_0_eq, z, ifB_false, w1, A1, ifB_false, A2, when_true', Int.toNat_natCast, g4, hy', ifB_false, w2, hfo]; simp only [onR_some, onL_some, List.isEmpty_nil, allF_cons, allF_nil, Bool.and_true, Bool.true_and, when_true', List.getD_cons_zero, List.getD_cons_succ, isF_fz, toF_fz, isBool_bool, toBool_bool, isInt_int, toInt_int, isStr_str, toStr_str, isSl_sl, toSl_sl, List.length_cons, List.length_nil, List.all_cons, List.all_nil, lisFz_fz, ltoFz_fz, beq_self_eq_true, jump_true, ifB_true, ifB_false, isF_pv, isPv_pv, toV_pv, isNil_nilp, isNil_pt, isPt_pt, toAg_ag, cell_ag, isAg_ag, fits_ag, Int.toNat_natCast, Bool.not_true, Bool.not_false, fits_int, fits_bool, fits_str, fits_sl]; rw [z1, ifB_false, B1, ifB_true, B2, ifB_true, w6, w7, B3, ifB_false]
          | true => simp only [cond_true]; rw [J_ref03_Unquote_6_1_eq, z, ifB_false, w1, A1, ifB_false, A2, when_true', Int.toNat_natCast, g4, hy', ifB_false, w2, hfo]; simp only [onR_some, onL_some, List.isEmpty_nil, allF_cons, allF_nil, Bool.and_true, Bool.true_and, when_true', List.getD_cons_zero, List.getD_cons_succ, isF_fz, toF_fz, isBool_bool, toBool_bool, isInt_int, toInt_int, isStr_str, toStr_str, isSl_sl, toSl_sl, List.length_cons, List.length_nil, List.all_cons, List.all_nil, lisFz_fz, ltoFz_fz, beq_self_eq_true, jump_true, ifB_true, ifB_false, isF_pv, isPv_pv, toV_pv, isNil_nilp, isNil_pt, isPt_pt, toAg_ag, cell_ag, isAg_ag, fits_ag, Int.toNat_natCast, Bool.not_true, Bool.not_false, fits_int, fits_bool, fits_str, fits_sl]; rw [z1, ifB_false, B1, ifB_true, B2, ifB_true, w6, w7, B3, ifB_false]
        | a :: a2 :: q =>
          rw [hq] at hr4
          obtain ⟨h1, h2, h3⟩ := at_drop hr4
          obtain ⟨k1, k2, k3⟩ := at_drop h3
          have k1' : Array.getD s.data (i + 7) 0 = a2 := k1
          have B3 : decide (((i + 7 : Nat) : Int) < (s.size : Int)) = true := decide_eq_true (by omega)
          have B4 : (decide ((0 : Int) ≤ ((i + 6 : Nat) : Int)) && decide (((i + 6 : Nat) : Int) < (s.size : Int))) = true := by rw [Bool.and_eq_true, decide_eq_true_eq, decide_eq_true_eq]; omega
          have B5 : (decide ((0 : Int) ≤ ((i + 7 : Nat) : Int)) && true) = true := by rw [Bool.and_true]; exact decide_eq_true (by omega)
          rw [pre2]
          have eqd : ∀ v u : Int, (v == u) = decide (v = u) := fun v u => rfl
          by_cases c3 : ((a.toNat : Nat) : Int) = 92
          · have D1 : (((a.toNat : Nat) : Int) == 92) = true := by rw [eqd]; exact decide_eq_true c3
            rw [decide_eq_true c3, Bool.true_and]
            unfold UJ6 UJ2
            cases sh with
            | false => simp only [cond_false]; rw [J_ref03_Unquote_6_0_eq, z, ifB_false, w1, A1, ifB_false, A2, when_true', Int.toNat_natCast, g4, hy', ifB_false, w2, hfo]; simp only [onR_some, onL_some, List.isEmpty_nil, allF_cons, allF_nil, Bool.and_true, Bool.true_and, when_true', List.getD_cons_zero, List.getD_cons_succ, isF_fz, toF_fz, isBool_bool, toBool_bool, isInt_int, toInt_int, isStr_str, toStr_str, isSl_sl, toSl_sl, List.length_cons, List.length_nil, List.all_cons, List.all_nil, lisFz_fz, ltoFz_fz, beq_self_eq_true, jump_true, ifB_true, ifB_false, isF_pv, isPv_pv, toV_pv, isNil_nilp, isNil_pt, isPt_pt, toAg_ag, cell_ag, isAg_ag, fits_ag, Int.toNat_natCast, Bool.not_true, Bool.not_false, fits_int, fits_bool, fits_str, fits_sl]; rw [z1, ifB_false, B1, ifB_true, B2, ifB_true, w6, w7, B3, ifB_true, B4, when_true', Int.toNat_natCast, h1, D1, ifB_true, B5, when_true', Int.toNat_natCast, k1', eqd]
            | true => simp only [cond_true]; rw [J_ref03_Unquote_6_1_eq, z, ifB_false, w1, A1, ifB_false, A2, when_true', Int.toNat_natCast, g4, hy', ifB_false, w2, hfo]; simp only [onR_some, onL_some, List.isEmpty_nil, allF_cons, allF_nil, Bool.and_true, Bool.true_and, when_true', List.getD_cons_zero, List.getD_cons_succ, isF_fz, toF_fz, isBool_bool, toBool_bool, isInt_int, toInt_int, isStr_str, toStr_str, isSl_sl, toSl_sl, List.length_cons, List.length_nil, List.all_cons, List.all_nil, lisFz_fz, ltoFz_fz, beq_self_eq_true, jump_true, ifB_true, ifB_false, isF_pv, isPv_pv, toV_pv, isNil_nilp, isNil_pt, isPt_pt, toAg_ag, cell_ag, isAg_ag, fits_ag, Int.toNat_natCast, Bool.not_true, Bool.not_false, fits_int, fits_bool, fits_str, fits_sl]; rw [z1, ifB_false, B1, ifB_true, B2, ifB_true, w6, w7, B3, ifB_true, B4, when_true', Int.toNat_natCast, h1, D1, ifB_true, B5, when_true', Int.toNat_natCast, k1', eqd]
          · have D1 : (((a.toNat : Nat) : Int) == 92) = false := by rw [eqd]; exact decide_eq_false c3
            rw [decide_eq_false c3, Bool.false_and]
            unfold UJ6 UJ2
            cases sh with
            | false => simp only [cond_false]; rw [J_ref03_Unquote_6_0_eq, z, ifB_false, w1, A1, ifB_false, A2, when_true', Int.toNat_natCast, g4, hy', ifB_false, w2, hfo]; simp only [onR_some, onL_some, List.isEmpty_nil, allF_cons, allF_nil, Bool.and_true, Bool.true_and, when_true', List.getD_cons_zero, List.getD_cons_succ, isF_fz, toF_fz, isBool_bool, toBool_bool, isInt_int, toInt_int, isStr_str, toStr_str, isSl_sl, toSl_sl, List.length_cons, List.length_nil, List.all_cons, List.all_nil, lisFz_fz, ltoFz_fz, beq_self_eq_true, jump_true, ifB_true, ifB_false, isF_pv, isPv_pv, toV_pv, isNil_nilp, isNil_pt, isPt_pt, toAg_ag, cell_ag, isAg_ag, fits_ag, Int.toNat_natCast, Bool.not_true, Bool.not_false, fits_int, fits_bool, fits_str, fits_sl]; rw [z1, ifB_false, B1, ifB_true, B2, ifB_true, w6, w7, B3, ifB_true, B4, when_true', Int.toNat_natCast, h1, D1, ifB_false]
            | true => simp only [cond_true]; rw [J_ref03_Unquote_6_1_eq, z, ifB_false, w1, A1, ifB_false, A2, when_true', Int.toNat_natCast, g4, hy', ifB_false, w2, hfo]; simp only [onR_some, onL_some, List.isEmpty_nil, allF_cons, allF_nil, Bool.and_true, Bool.true_and, when_true', List.getD_cons_zero, List.getD_cons_succ, isF_fz, toF_fz, isBool_bool, toBool_bool, isInt_int, toInt_int, isStr_str, toStr_str, isSl_sl, toSl_sl, List.length_cons, List.length_nil, List.all_cons, List.all_nil, lisFz_fz, ltoFz_fz, beq_self_eq_true, jump_true, ifB_true, ifB_false, isF_pv, isPv_pv, toV_pv, isNil_nilp, isNil_pt, isPt_pt, toAg_ag, cell_ag, isAg_ag, fits_ag, Int.toNat_natCast, Bool.not_true, Bool.not_false, fits_int, fits_bool, fits_str, fits_sl]; rw [z1, ifB_false, B1, ifB_true, B2, ifB_true, w6, w7, B3, ifB_true, B4, when_true', Int.toNat_natCast, h1, D1, ifB_false]
      · have B1 : decide (m ≥ 55296) = true := decide_eq_true c1
        have B2 : decide (m < 56320) = false := decide_eq_false c2
        rw [decide_eq_false (show ¬ (55296 ≤ m ∧ m < 56320) from fun h => c2 h.2), Bool.false_and]
        unfold UJ6 UJ2
        cases sh with
        | false => simp only [cond_false]; rw [J_ref03_Unquote_6_0_eq, z, ifB_false, w1, A1, ifB_false, A2, when_true', Int.toNat_natCast, g4, hy', ifB_false, w2, hfo]; simp only [onR_some, onL_some, List.isEmpty_nil, allF_cons, allF_nil, Bool.and_true, Bool.true_and, when_true', List.getD_cons_zero, List.getD_cons_succ, isF_fz, toF_fz, isBool_bool, toBool_bool, isInt_int, toInt_int, isStr_str, toStr_str, isSl_sl, toSl_sl, List.length_cons, List.length_nil, List.all_cons, List.all_nil, lisFz_fz, ltoFz_fz, beq_self_eq_true, jump_true, ifB_true, ifB_false, isF_pv, isPv_pv, toV_pv, isNil_nilp, isNil_pt, isPt_pt, toAg_ag, cell_ag, isAg_ag, fits_ag, Int.toNat_natCast, Bool.not_true, Bool.not_false, fits_int, fits_bool, fits_str, fits_sl]; rw [z1, ifB_false, B1, ifB_true, B2, ifB_false, w6]
        | true => simp only [cond_true]; rw [J_ref03_Unquote_6_1_eq, z, ifB_false, w1, A1, ifB_false, A2, when_true', Int.toNat_natCast, g4, hy', ifB_false, w2, hfo]; simp only [onR_some, onL_some, List.isEmpty_nil, allF_cons, allF_nil, Bool.and_true, Bool.true_and, when_true', List.getD_cons_zero, List.getD_cons_succ, isF_fz, toF_fz, isBool_bool, toBool_bool, isInt_int, toInt_int, isStr_str, toStr_str, isSl_sl, toSl_sl, List.length_cons, List.length_nil, List.all_cons, List.all_nil, lisFz_fz, ltoFz_fz, beq_self_eq_true, jump_true, ifB_true, ifB_false, isF_pv, isPv_pv, toV_pv, isNil_nilp, isNil_pt, isPt_pt, toAg_ag, cell_ag, isAg_ag, fits_ag, Int.toNat_natCast, Bool.not_true, Bool.not_false, fits_int, fits_bool, fits_str, fits_sl]; rw [z1, ifB_false, B1, ifB_true, B2, ifB_false, w6]
    · have B1 : decide (m ≥ 55296) = false := decide_eq_false c1
      rw [decide_eq_false (show ¬ (55296 ≤ m ∧ m < 56320) from fun h => c1 h.1), Bool.false_and]
      unfold UJ6 UJ2
      cases sh with
      | false => simp only [cond_false]; rw [J_ref03_Unquote_6_0_eq, z, ifB_false, w1, A1, ifB_false, A2, when_true', Int.toNat_natCast, g4, hy', ifB_false, w2, hfo]; simp only [onR_some, onL_some, List.isEmpty_nil, allF_cons, allF_nil, Bool.and_true, Bool.true_and, when_true', List.getD_cons_zero, List.getD_cons_succ, isF_fz, toF_fz, isBool_bool, toBool_bool, isInt_int, toInt_int, isStr_str, toStr_str, isSl_sl, toSl_sl, List.length_cons, List.length_nil, List.all_cons, List.all_nil, lisFz_fz, ltoFz_fz, beq_self_eq_true, jump_true, ifB_true, ifB_false, isF_pv, isPv_pv, toV_pv, isNil_nilp, isNil_pt, isPt_pt, toAg_ag, cell_ag, isAg_ag, fits_ag, Int.toNat_natCast, Bool.not_true, Bool.not_false, fits_int, fits_bool, fits_str, fits_sl]; rw [z1, ifB_false, B1, ifB_false, w6]
      | true => simp only [cond_true]; rw [J_ref03_Unquote_6_1_eq, z, ifB_false, w1, A1, ifB_false, A2, when_true', Int.toNat_natCast, g4, hy', ifB_false, w2, hfo]; simp only [onR_some, onL_some, List.isEmpty_nil, allF_cons, allF_nil, Bool.and_true, Bool.true_and, when_true', List.getD_cons_zero, List.getD_cons_succ, isF_fz, toF_fz, isBool_bool, toBool_bool, isInt_int, toInt_int, isStr_str, toStr_str, isSl_sl, toSl_sl, List.length_cons, List.length_nil, List.all_cons, List.all_nil, lisFz_fz, ltoFz_fz, beq_self_eq_true, jump_true, ifB_true, ifB_false, isF_pv, isPv_pv, toV_pv, isNil_nilp, isNil_pt, isPt_pt, toAg_ag, cell_ag, isAg_ag, fits_ag, Int.toNat_natCast, Bool.not_true, Bool.not_false, fits_int, fits_bool, fits_str, fits_sl]; rw [z1, ifB_false, B1, ifB_false, w6]
end
end Go.Ab
