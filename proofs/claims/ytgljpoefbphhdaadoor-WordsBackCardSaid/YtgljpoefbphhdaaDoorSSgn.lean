/- How many signs a text has; its first ones. -/
import Derived.Test.YtgljpoefbphhdaaDoorSDec
namespace Go.Ab
set_option linter.unusedVariables false
set_option linter.unusedSimpArgs false
set_option linter.unusedSectionVars false
def cells (l : List UInt8) : List FV := l.map fun b => .int .u8 ((b.toNat : Nat) : Int)
theorem cells_len (a : List UInt8) : (cells a).length = a.length := by simp [cells]
theorem cells_all (a : List UInt8) : List.all (cells a) (FV.isInt .u8) = true := by simp [cells]
theorem cells_back (a : List UInt8) : (⟨(List.map (fun e => UInt8.ofNat (FV.toInt e).toNat) (cells a)).toArray⟩ : ByteArray) = qB a := by
  have : List.map (fun e => UInt8.ofNat (FV.toInt e).toNat) (cells a) = a := by
    unfold cells
    rw [List.map_map]
    conv => rhs; rw [← List.map_id a]
    exact List.map_congr_left fun b _ => by simp
  rw [this]; rfl
/-- utf.Signs. -/
theorem nsigns_ok {s : ByteArray} (hs : s.size ≤ 1099511627776) : Rt N_utf_Signs [.fz (.str s)] = some ([.fz (.int .i64 (match signsL s.data.toList with | some cs => (cs.length : Int) | none => 0))], []) := by
  have loop : ∀ (pos : Nat) (cs : List Int), SgAt s pos cs → ∀ (K a n : Nat), cs.length < n → a + cs.length ≤ 1099511627776 → L_utf_Signs_1_0 Rt K true n (a : Int) s pos = some (.exit 0, X_utf_Signs_1_0 ((a + cs.length : Nat) : Int)) := by
    intro pos cs h
    induction h with
    | nil pos h =>
      intro K a n hn ha
      obtain ⟨n, rfl⟩ : ∃ q, n = q + 1 := ⟨n - 1, by omega⟩
      rw [L_utf_Signs_1_0_eq, show Nat.blt pos s.size = false by rw [Bool.eq_false_iff]; intro e; have := Nat.le_of_ble_eq_true e; omega, ifB_false]
      simp
    | cons pos k c cs hd h hk hk2 h0 h1 h2 hb r ih =>
      intro K a n hn ha
      obtain ⟨n, rfl⟩ : ∃ q, n = q + 1 := ⟨n - 1, by omega⟩
      simp only [List.length_cons] at hn ha
      have hw : IntKind.wrap .i64 ((a : Int) + 1) = ((a + 1 : Nat) : Int) := by rw [wrap64 (by omega) (by omega)]; simp
      rw [L_utf_Signs_1_0_eq, show Nat.blt pos s.size = true from Nat.ble_eq_true_of_le h, ifB_true, hd, hw, ih K (a + 1) n (by omega) (by omega)]
      simp only [List.length_cons]
      rw [show a + 1 + cs.length = a + (cs.length + 1) by omega]
  refine rt_call A_utf_Signs rfl rfl (s.size + 1) ?_
  rw [E_utf_Signs, valid_ok s (by omega)]
  cases hv : signsL s.data.toList with
  | none => simp only [Option.isSome_none, onR_some, onL_some, List.isEmpty_nil, allF_cons, allF_nil, Bool.and_true, Bool.true_and, when_true', List.getD_cons_zero, List.getD_cons_succ, isF_fz, toF_fz, isBool_bool, toBool_bool, isInt_int, toInt_int, isStr_str, toStr_str, isSl_sl, toSl_sl, List.length_cons, List.length_nil, List.all_cons, List.all_nil, lisFz_fz, ltoFz_fz, beq_self_eq_true, jump_true, ifB_true, ifB_false, isF_pv, isPv_pv, toV_pv, isNil_nilp, isNil_pt, isPt_pt, toAg_ag, cell_ag, isAg_ag, fits_ag, Int.toNat_natCast, Bool.not_true, Bool.not_false, fits_int, fits_bool, fits_str, fits_sl]
  | some cs =>
    have hS := sgAt_start hv
    have hle := hS.len (Nat.zero_le _)
    have h := loop 0 cs hS (s.size + 1) 0 (s.size + 1) (by omega) (by omega)
    simp only [Int.natCast_zero, Nat.zero_add] at h
    simp only [Option.isSome_some, onR_some, onL_some, List.isEmpty_nil, allF_cons, allF_nil, Bool.and_true, Bool.true_and, when_true', List.getD_cons_zero, List.getD_cons_succ, isF_fz, toF_fz, isBool_bool, toBool_bool, isInt_int, toInt_int, isStr_str, toStr_str, isSl_sl, toSl_sl, List.length_cons, List.length_nil, List.all_cons, List.all_nil, lisFz_fz, ltoFz_fz, beq_self_eq_true, jump_true, ifB_true, ifB_false, isF_pv, isPv_pv, toV_pv, isNil_nilp, isNil_pt, isPt_pt, toAg_ag, cell_ag, isAg_ag, fits_ag, Int.toNat_natCast, Bool.not_true, Bool.not_false, fits_int, fits_bool, fits_str, fits_sl, h, X_utf_Signs_1_0_eq]
/-- utf.First. -/
theorem first_ok {s : ByteArray} (hs : s.size ≤ 1099511627776) (b : Int) : Rt N_utf_First [.fz (.str s), .fz (.int .i64 b)] = some ([.fz (.str (qB (match signsL s.data.toList with | some cs => toB ((cs.take b.toNat).flatMap putB) | none => [])))], []) := by
  have loop : ∀ (pos : Nat) (cs : List Int), SgAt s pos cs → ∀ (K a n m : Nat), cs.length < n → a + cs.length ≤ 1099511627776 → b = ((a + m : Nat) : Int) → pos ≤ s.size →
      onL (L_utf_First_1_0 Rt K true n s b (a : Int) s pos) (K_utf_First_1 Rt K true) = some ([.fz (.str (qB (s.data.toList.take pos ++ toB ((cs.take m).flatMap putB))))], []) := by
    intro pos cs h
    induction h with
    | nil pos h =>
      intro K a n m hn ha hb hp
      obtain ⟨n, rfl⟩ : ∃ q, n = q + 1 := ⟨n - 1, by omega⟩
      rw [L_utf_First_1_0_eq, show Nat.blt pos s.size = false by rw [Bool.eq_false_iff]; intro e; have := Nat.le_of_ble_eq_true e; omega, ifB_false, onL_some, X_utf_First_1_1_eq]
      rw [List.take_of_length_le (by rw [bytes_size]; exact h)]
      simp [toB, qB_self]
    | cons pos k c cs hd h hk hk2 h0 h1 h2 hb0 r ih =>
      intro K a n m hn ha hb hp
      obtain ⟨n, rfl⟩ : ∃ q, n = q + 1 := ⟨n - 1, by omega⟩
      simp only [List.length_cons] at hn ha
      rw [L_utf_First_1_0_eq, show Nat.blt pos s.size = true from Nat.ble_eq_true_of_le h, ifB_true]
      cases m with
      | zero =>
        rw [show ((a : Int) == b) = true by simp [hb], ifB_true, decide_eq_true (show (0 : Int) ≤ (pos : Int) by omega), decide_eq_true (show (pos : Int) ≤ (s.size : Int) by omega)]
        simp only [Bool.and_true, when_true', decide_true, onL_some, X_utf_First_1_0_eq, Int.toNat_natCast]
        have e := extract_list s 0 pos
        rw [List.drop_zero] at e
        have e2 : ByteArray.extract s 0 pos = qB (s.data.toList.take pos) := by
          rw [← qB_self (ByteArray.extract s 0 pos), ← e, ByteArray.toList_eq]
        have z : ∀ x : Option (AExit × St), when (decide ((0 : Nat) ≤ 0)) x = x := fun x => rfl
        rw [e2, z, onL_some, X_utf_First_1_0_eq]
        simp [toB]
      | succ m =>
        have hw : IntKind.wrap .i64 ((a : Int) + 1) = ((a + 1 : Nat) : Int) := by rw [wrap64 (by omega) (by omega)]; simp
        rw [show ((a : Int) == b) = false by rw [beq_eq_false_iff_ne]; omega, ifB_false, hd, hw, ih K (a + 1) n m (by omega) (by omega) (by omega) hk2]
        rw [List.take_succ_cons, List.flatMap_cons, show toB (putB c ++ (cs.take m).flatMap putB) = toB (putB c) ++ toB ((cs.take m).flatMap putB) by simp [toB], hb0, List.take_add, List.append_assoc]
  refine rt_call A_utf_First rfl rfl (s.size + 1) ?_
  rw [E_utf_First]
  by_cases g : b < 1
  · rw [decide_eq_true g, ifB_true, show b.toNat = 0 by omega]
    cases signsL s.data.toList with
    | none => rfl
    | some cs => rfl
  · rw [decide_eq_false g, ifB_false, valid_ok s (by omega)]
    cases hv : signsL s.data.toList with
    | none =>
      simp only [Option.isSome_none, onR_some, onL_some, List.isEmpty_nil, allF_cons, allF_nil, Bool.and_true, Bool.true_and, when_true', List.getD_cons_zero, List.getD_cons_succ, isF_fz, toF_fz, isBool_bool, toBool_bool, isInt_int, toInt_int, isStr_str, toStr_str, isSl_sl, toSl_sl, List.length_cons, List.length_nil, List.all_cons, List.all_nil, lisFz_fz, ltoFz_fz, beq_self_eq_true, jump_true, ifB_true, ifB_false, isF_pv, isPv_pv, toV_pv, isNil_nilp, isNil_pt, isPt_pt, toAg_ag, cell_ag, isAg_ag, fits_ag, Int.toNat_natCast, Bool.not_true, Bool.not_false, fits_int, fits_bool, fits_str, fits_sl]
      rfl
    | some cs =>
      have hS := sgAt_start hv
      have hle := hS.len (Nat.zero_le _)
      have h := loop 0 cs hS (s.size + 1) 0 (s.size + 1) b.toNat (by omega) (by omega) (by omega) (Nat.zero_le _)
      simp only [Int.natCast_zero, List.take_zero, List.nil_append] at h
      simp only [Option.isSome_some, onR_some, onL_some, List.isEmpty_nil, allF_cons, allF_nil, Bool.and_true, Bool.true_and, when_true', List.getD_cons_zero, List.getD_cons_succ, isF_fz, toF_fz, isBool_bool, toBool_bool, isInt_int, toInt_int, isStr_str, toStr_str, isSl_sl, toSl_sl, List.length_cons, List.length_nil, List.all_cons, List.all_nil, lisFz_fz, ltoFz_fz, beq_self_eq_true, jump_true, ifB_true, ifB_false, isF_pv, isPv_pv, toV_pv, isNil_nilp, isNil_pt, isPt_pt, toAg_ag, cell_ag, isAg_ag, fits_ag, Int.toNat_natCast, Bool.not_true, Bool.not_false, fits_int, fits_bool, fits_str, fits_sl, J_utf_First_2_0_eq, h]
end Go.Ab
