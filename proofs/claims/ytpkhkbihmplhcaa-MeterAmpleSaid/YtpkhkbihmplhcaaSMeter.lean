/- Meters told. -/
import Derived.Test.YtpkhkbihmplhcaaSOf
import Derived.Test.YtpkhkbihmplhcaaSTab9
namespace Go.Ab
set_option linter.unusedVariables false
set_option linter.unusedSimpArgs false

structure Mt where
  B : Int
  G : Int
  W : Bool
  e : FV
  spent : Int
  label : Nat
  told : Int
  fin : Int
def Mt.enc (m : Mt) : FV := .ag [.int .i64 m.B, .int .i64 m.G, .bool m.W, .pt 195 true m.e 0, .int .i64 m.spent, .int .i64 m.label, .int .i64 m.told, .int .i64 m.fin]
abbrev Mt.tv (m : Mt) : TV := .pv 8 true (.fz m.enc)
/-- An answer that hands the meter back. -/
abbrev mAns (v : FV) (m : Mt) : Option Ans := some ([.fz v], [.fz m.enc])

def Mt.stop (m : Mt) (x : Int) : Mt := { m with fin := x }
def Mt.spend (m : Mt) (n : Int) : Bool × Mt := if m.fin = 0 then (if n < 0 ∨ n > m.B - m.spent then (false, m.stop 1) else (true, { m with spent := m.spent + n })) else (false, m)
def Mt.raise (L : Lt) (m : Mt) (a : Int) : Bool × Mt := if m.fin = 0 then (if m.W = true ∧ L.leqI (L.joinI m.label a) m.G = false then (false, { m with label := L.joinI m.label a, fin := 2 }) else (true, { m with label := L.joinI m.label a })) else (false, m)
def Mt.tell (m : Mt) : Bool × Mt := if m.fin = 0 then (if m.told ≥ 512 then (false, m.stop 3) else (true, { m with told := m.told + 1 })) else (false, m)

structure Mt.Ok (m : Mt) (L : Lt) : Prop where
  lat : IsLat m.e L
  s0 : 0 ≤ m.spent
  s1 : m.spent ≤ m.B
  b : m.B ≤ 20000
  lab : m.label < L.n
  t0 : 0 ≤ m.told
  t1 : m.told ≤ 512

theorem m_done (m : Mt) : Rt N_meter_Meter_done [m.tv] = mAns (.bool (m.fin != 0)) m := rt_call A_meter_Meter_done rfl rfl 0 (E_meter_Meter_done Rt 0 true _ _ _ _ _ _ _ _)
theorem m_done0 : Rt N_meter_Meter_done [.fz .nilp] = some ([.fz (.bool true)], []) := rt_call A_meter_Meter_done rfl rfl 0 (E_meter_Meter_done_v1 Rt 0 true)
theorem m_stop (m : Mt) (x : Int) : Rt N_meter_Meter_stop [m.tv, .fz (.int .i64 x)] = mAns (.bool false) (m.stop x) := rt_call A_meter_Meter_stop rfl rfl 0 (E_meter_Meter_stop Rt 0 true _ _ _ _ _ _ _ _ _)
theorem m_End (m : Mt) : Rt N_meter_Meter_End [m.tv] = mAns (.int .i64 m.fin) m := rt_call A_meter_Meter_End rfl rfl 0 (E_meter_Meter_End Rt 0 true _ _ _ _ _ _ _ _)
theorem m_End0 : Rt N_meter_Meter_End [.fz .nilp] = some ([.fz (.int .i64 0)], []) := rt_call A_meter_Meter_End rfl rfl 0 (E_meter_Meter_End_v1 Rt 0 true)
theorem m_Label (m : Mt) : Rt N_meter_Meter_Label [m.tv] = mAns (.int .i64 m.label) m := rt_call A_meter_Meter_Label rfl rfl 0 (E_meter_Meter_Label Rt 0 true _ _ _ _ _ _ _ _)
theorem m_Label0 : Rt N_meter_Meter_Label [.fz .nilp] = some ([.fz (.int .i64 0)], []) := rt_call A_meter_Meter_Label rfl rfl 0 (E_meter_Meter_Label_v1 Rt 0 true)
theorem m_Left {m : Mt} {L : Lt} (O : m.Ok L) : Rt N_meter_Meter_Left [m.tv] = mAns (.int .i64 (m.B - m.spent)) m := by
  refine rt_call A_meter_Meter_Left rfl rfl 0 ((E_meter_Meter_Left Rt 0 true _ _ _ _ _ _ _ _).trans ?_)
  have := O.s0; have := O.s1; have := O.b
  rw [wrap64 (by omega) (by omega)]; rfl
theorem m_Left0 : Rt N_meter_Meter_Left [.fz .nilp] = some ([.fz (.int .i64 0)], []) := rt_call A_meter_Meter_Left rfl rfl 0 (E_meter_Meter_Left_v1 Rt 0 true)
theorem m_Spend0 (n : Int) : Rt N_meter_Meter_Spend [.fz .nilp, .fz (.int .i64 n)] = some ([.fz (.bool false)], []) := by
  refine rt_call A_meter_Meter_Spend rfl rfl 0 ((E_meter_Meter_Spend_v1 Rt 0 true _).trans ?_)
  simp only [m_done0, onR_some, onL_some, List.isEmpty_nil, allF_cons, allF_nil, Bool.and_true, Bool.true_and, when_true', List.getD_cons_zero, List.getD_cons_succ, isF_fz, toF_fz, isBool_bool, toBool_bool, isInt_int, toInt_int, isStr_str, toStr_str, isSl_sl, toSl_sl, List.length_cons, List.length_nil, List.all_cons, List.all_nil, lisFz_fz, ltoFz_fz, beq_self_eq_true, jump_true, ifB_true, ifB_false, isF_pv, isPv_pv, toV_pv, isNil_nilp, isNil_pt, isPt_pt, toAg_ag, cell_ag, isAg_ag, fits_ag, Int.toNat_natCast, Bool.not_true, Bool.not_false, fits_int, fits_bool, fits_str, fits_sl]
theorem m_Raise0 (n : Int) : Rt N_meter_Meter_Raise [.fz .nilp, .fz (.int .i64 n)] = some ([.fz (.bool false)], []) := by
  refine rt_call A_meter_Meter_Raise rfl rfl 0 ((E_meter_Meter_Raise_v1 Rt 0 true _).trans ?_)
  simp only [m_done0, onR_some, onL_some, List.isEmpty_nil, allF_cons, allF_nil, Bool.and_true, Bool.true_and, when_true', List.getD_cons_zero, List.getD_cons_succ, isF_fz, toF_fz, isBool_bool, toBool_bool, isInt_int, toInt_int, isStr_str, toStr_str, isSl_sl, toSl_sl, List.length_cons, List.length_nil, List.all_cons, List.all_nil, lisFz_fz, ltoFz_fz, beq_self_eq_true, jump_true, ifB_true, ifB_false, isF_pv, isPv_pv, toV_pv, isNil_nilp, isNil_pt, isPt_pt, toAg_ag, cell_ag, isAg_ag, fits_ag, Int.toNat_natCast, Bool.not_true, Bool.not_false, fits_int, fits_bool, fits_str, fits_sl]
theorem m_Tell0 : Rt N_meter_Meter_Tell [.fz .nilp] = some ([.fz (.bool false)], []) := by
  refine rt_call A_meter_Meter_Tell rfl rfl 0 ((E_meter_Meter_Tell_v1 Rt 0 true).trans ?_)
  simp only [m_done0, onR_some, onL_some, List.isEmpty_nil, allF_cons, allF_nil, Bool.and_true, Bool.true_and, when_true', List.getD_cons_zero, List.getD_cons_succ, isF_fz, toF_fz, isBool_bool, toBool_bool, isInt_int, toInt_int, isStr_str, toStr_str, isSl_sl, toSl_sl, List.length_cons, List.length_nil, List.all_cons, List.all_nil, lisFz_fz, ltoFz_fz, beq_self_eq_true, jump_true, ifB_true, ifB_false, isF_pv, isPv_pv, toV_pv, isNil_nilp, isNil_pt, isPt_pt, toAg_ag, cell_ag, isAg_ag, fits_ag, Int.toNat_natCast, Bool.not_true, Bool.not_false, fits_int, fits_bool, fits_str, fits_sl]
theorem enc_ag (m : Mt) : FV.isAg 8 m.enc = true := rfl
theorem enc_0 (m : Mt) : FV.cell m.enc 0 = .int .i64 m.B := rfl
theorem enc_1 (m : Mt) : FV.cell m.enc 1 = .int .i64 m.G := rfl
theorem enc_2 (m : Mt) : FV.cell m.enc 2 = .bool m.W := rfl
theorem enc_3 (m : Mt) : FV.cell m.enc 3 = .pt 195 true m.e 0 := rfl
theorem enc_4 (m : Mt) : FV.cell m.enc 4 = .int .i64 m.spent := rfl
theorem enc_5 (m : Mt) : FV.cell m.enc 5 = .int .i64 m.label := rfl
theorem enc_6 (m : Mt) : FV.cell m.enc 6 = .int .i64 m.told := rfl
theorem enc_s4 (m : Mt) (x : Int) : FV.ag (List.set (FV.toAg m.enc) 4 (.int .i64 x)) = ({ m with spent := x } : Mt).enc := rfl
theorem enc_s5 (m : Mt) (x : Nat) : FV.ag (List.set (FV.toAg m.enc) 5 (.int .i64 (x : Int))) = ({ m with label := x } : Mt).enc := rfl
theorem enc_s6 (m : Mt) (x : Int) : FV.ag (List.set (FV.toAg m.enc) 6 (.int .i64 x)) = ({ m with told := x } : Mt).enc := rfl

theorem m_Spend {m : Mt} {L : Lt} (O : m.Ok L) (n : Int) : Rt N_meter_Meter_Spend [m.tv, .fz (.int .i64 n)] = mAns (.bool (m.spend n).1) (m.spend n).2 := by
  have := O.s0; have := O.s1; have := O.b
  refine rt_call A_meter_Meter_Spend rfl rfl 0 ((E_meter_Meter_Spend Rt 0 true _ _ _ _ _ _ _ _ _).trans ?_)
  have hd := m_done m
  have hs := m_stop m 1
  simp only [Mt.tv, Mt.enc] at hd
  rw [hd]
  have hw : IntKind.wrap .i64 (m.B - m.spent) = m.B - m.spent := wrap64 (by omega) (by omega)
  unfold Mt.spend
  by_cases h0 : m.fin = 0
  · rw [if_pos h0]
    have e0 : (m.fin != 0) = false := by simp [h0]
    by_cases h1 : n < 0
    · rw [if_pos (.inl h1)]
      have e1 : decide (n < 0) = true := by simpa using h1
      simp only [e0, e1, hs, onR_some, onL_some, List.isEmpty_nil, allF_cons, allF_nil, Bool.and_true, Bool.true_and, when_true', List.getD_cons_zero, List.getD_cons_succ, isF_fz, toF_fz, isBool_bool, toBool_bool, isInt_int, toInt_int, isStr_str, toStr_str, isSl_sl, toSl_sl, List.length_cons, List.length_nil, List.all_cons, List.all_nil, lisFz_fz, ltoFz_fz, beq_self_eq_true, jump_true, ifB_true, ifB_false, isF_pv, isPv_pv, toV_pv, isNil_nilp, isNil_pt, isPt_pt, toAg_ag, cell_ag, isAg_ag, fits_ag, Int.toNat_natCast, Bool.not_true, Bool.not_false, fits_int, fits_bool, fits_str, fits_sl]
    · have e1 : decide (n < 0) = false := by simpa using h1
      by_cases h2 : n > m.B - m.spent
      · rw [if_pos (.inr h2)]
        have e2 : decide (n > m.B - m.spent) = true := by simpa using h2
        simp only [e0, e1, onR_some, List.length_cons, List.length_nil, List.all_cons, List.all_nil, lisFz_fz, ltoFz_fz, beq_self_eq_true, Bool.and_true, when_true', List.getD_cons_zero, isF_fz, toF_fz, isBool_bool, toBool_bool, ifB_false, enc_ag, enc_0, enc_4, isInt_int, toInt_int, hw, e2, ifB_true, hs]
      · rw [if_neg (by omega)]
        have e2 : decide (n > m.B - m.spent) = false := by simpa using h2
        have hw2 : IntKind.wrap .i64 (m.spent + n) = m.spent + n := wrap64 (by omega) (by omega)
        simp only [e0, e1, onR_some, List.length_cons, List.length_nil, List.all_cons, List.all_nil, lisFz_fz, ltoFz_fz, beq_self_eq_true, Bool.and_true, when_true', List.getD_cons_zero, isF_fz, toF_fz, isBool_bool, toBool_bool, ifB_false, enc_ag, enc_0, enc_4, isInt_int, toInt_int, hw, e2, jump_true, J_meter_Meter_Spend_1_0_eq, hw2, enc_s4]
  · rw [if_neg h0]
    have e0 : (m.fin != 0) = true := by simp [h0]
    simp only [e0, onR_some, onL_some, List.isEmpty_nil, allF_cons, allF_nil, Bool.and_true, Bool.true_and, when_true', List.getD_cons_zero, List.getD_cons_succ, isF_fz, toF_fz, isBool_bool, toBool_bool, isInt_int, toInt_int, isStr_str, toStr_str, isSl_sl, toSl_sl, List.length_cons, List.length_nil, List.all_cons, List.all_nil, lisFz_fz, ltoFz_fz, beq_self_eq_true, jump_true, ifB_true, ifB_false, isF_pv, isPv_pv, toV_pv, isNil_nilp, isNil_pt, isPt_pt, toAg_ag, cell_ag, isAg_ag, fits_ag, Int.toNat_natCast, Bool.not_true, Bool.not_false, fits_int, fits_bool, fits_str, fits_sl]

theorem m_over {e : FV} {L : Lt} (I : IsLat e L) (B G : Int) (W : Bool) (x : Int) : Rt N_meter_asked_over [.fz (.ag [.int .i64 B, .int .i64 G, .bool W]), .fz (.pt 195 true e 0), .fz (.int .i64 x)] = some ([.fz (.bool (W && !L.leqI x G))], []) := by
  refine rt_call A_meter_asked_over rfl rfl 0 ((E_meter_asked_over Rt 0 true _ _ _ _ _).trans ?_)
  rw [lat_Leq I]
  cases W <;> simp only [onR_some, onL_some, List.isEmpty_nil, allF_cons, allF_nil, Bool.and_true, Bool.true_and, when_true', List.getD_cons_zero, List.getD_cons_succ, isF_fz, toF_fz, isBool_bool, toBool_bool, isInt_int, toInt_int, isStr_str, toStr_str, isSl_sl, toSl_sl, List.length_cons, List.length_nil, List.all_cons, List.all_nil, lisFz_fz, ltoFz_fz, beq_self_eq_true, jump_true, ifB_true, ifB_false, isF_pv, isPv_pv, toV_pv, isNil_nilp, isNil_pt, isPt_pt, toAg_ag, cell_ag, isAg_ag, fits_ag, Int.toNat_natCast, Bool.not_true, Bool.not_false, fits_int, fits_bool, fits_str, fits_sl, Bool.false_and]

theorem m_Raise {m : Mt} {L : Lt} (O : m.Ok L) (a : Int) : Rt N_meter_Meter_Raise [m.tv, .fz (.int .i64 a)] = mAns (.bool (m.raise L a).1) (m.raise L a).2 := by
  refine rt_call A_meter_Meter_Raise rfl rfl 0 ((E_meter_Meter_Raise Rt 0 true _ _ _ _ _ _ _ _ _).trans ?_)
  have hd := m_done m
  simp only [Mt.tv, Mt.enc] at hd
  rw [hd]
  unfold Mt.raise
  by_cases h0 : m.fin = 0
  · rw [if_pos h0]
    have e0 : (m.fin != 0) = false := by simp [h0]
    have hs := m_stop { m with label := L.joinI m.label a } 2
    have hj := lat_Join O.lat m.label a
    have ho := m_over O.lat m.B m.G m.W (L.joinI m.label a)
    simp only [e0, onR_some, List.length_cons, List.length_nil, List.all_cons, List.all_nil, lisFz_fz, ltoFz_fz, beq_self_eq_true, Bool.and_true, when_true', List.getD_cons_zero, isF_fz, toF_fz, isBool_bool, toBool_bool, ifB_false, enc_ag, enc_0, enc_1, enc_2, enc_3, enc_5, isInt_int, toInt_int, hj, List.isEmpty_nil, allF_cons, allF_nil, enc_s5, ho, hs]
    cases hW : m.W with
    | false => rw [if_neg (by simp)]; simp only [Bool.false_and, ifB_false]
    | true =>
      cases hl : L.leqI (L.joinI m.label a) m.G with
      | true => rw [if_neg (by simp)]; simp only [Bool.not_true, Bool.true_and, ifB_false]
      | false => rw [if_pos (by simp)]; simp only [Bool.not_false, Bool.true_and, ifB_true]; rfl
  · rw [if_neg h0]
    have e0 : (m.fin != 0) = true := by simp [h0]
    simp only [e0, onR_some, onL_some, List.isEmpty_nil, allF_cons, allF_nil, Bool.and_true, Bool.true_and, when_true', List.getD_cons_zero, List.getD_cons_succ, isF_fz, toF_fz, isBool_bool, toBool_bool, isInt_int, toInt_int, isStr_str, toStr_str, isSl_sl, toSl_sl, List.length_cons, List.length_nil, List.all_cons, List.all_nil, lisFz_fz, ltoFz_fz, beq_self_eq_true, jump_true, ifB_true, ifB_false, isF_pv, isPv_pv, toV_pv, isNil_nilp, isNil_pt, isPt_pt, toAg_ag, cell_ag, isAg_ag, fits_ag, Int.toNat_natCast, Bool.not_true, Bool.not_false, fits_int, fits_bool, fits_str, fits_sl]

theorem m_Tell {m : Mt} {L : Lt} (O : m.Ok L) : Rt N_meter_Meter_Tell [m.tv] = mAns (.bool m.tell.1) m.tell.2 := by
  have := O.t0; have := O.t1
  refine rt_call A_meter_Meter_Tell rfl rfl 0 ((E_meter_Meter_Tell Rt 0 true _ _ _ _ _ _ _ _).trans ?_)
  have hd := m_done m
  have hs := m_stop m 3
  simp only [Mt.tv, Mt.enc] at hd
  rw [hd]
  unfold Mt.tell
  by_cases h0 : m.fin = 0
  · rw [if_pos h0]
    have e0 : (m.fin != 0) = false := by simp [h0]
    by_cases h2 : m.told ≥ 512
    · rw [if_pos h2]
      have e2 : decide (m.told ≥ 512) = true := by simpa using h2
      simp only [e0, onR_some, List.length_cons, List.length_nil, List.all_cons, List.all_nil, lisFz_fz, ltoFz_fz, beq_self_eq_true, Bool.and_true, when_true', List.getD_cons_zero, isF_fz, toF_fz, isBool_bool, toBool_bool, ifB_false, enc_ag, enc_6, isInt_int, toInt_int, e2, ifB_true, hs]
    · rw [if_neg h2]
      have e2 : decide (m.told ≥ 512) = false := by simpa using h2
      have hw2 : IntKind.wrap .i64 (m.told + 1) = m.told + 1 := wrap64 (by omega) (by omega)
      simp only [e0, onR_some, List.length_cons, List.length_nil, List.all_cons, List.all_nil, lisFz_fz, ltoFz_fz, beq_self_eq_true, Bool.and_true, when_true', List.getD_cons_zero, isF_fz, toF_fz, isBool_bool, toBool_bool, ifB_false, enc_ag, enc_6, isInt_int, toInt_int, e2, hw2, enc_s6]
  · rw [if_neg h0]
    have e0 : (m.fin != 0) = true := by simp [h0]
    simp only [e0, onR_some, onL_some, List.isEmpty_nil, allF_cons, allF_nil, Bool.and_true, Bool.true_and, when_true', List.getD_cons_zero, List.getD_cons_succ, isF_fz, toF_fz, isBool_bool, toBool_bool, isInt_int, toInt_int, isStr_str, toStr_str, isSl_sl, toSl_sl, List.length_cons, List.length_nil, List.all_cons, List.all_nil, lisFz_fz, ltoFz_fz, beq_self_eq_true, jump_true, ifB_true, ifB_false, isF_pv, isPv_pv, toV_pv, isNil_nilp, isNil_pt, isPt_pt, toAg_ag, cell_ag, isAg_ag, fits_ag, Int.toNat_natCast, Bool.not_true, Bool.not_false, fits_int, fits_bool, fits_str, fits_sl]

def askE (B G : Int) (W : Bool) : FV := .ag [.int .i64 B, .int .i64 G, .bool W]
def newM (e : FV) (L : Lt) (B G : Int) (W : Bool) : Mt := ⟨B, G, W, e, 0, L.bot, 0, 0⟩
def newK (L : Lt) (B G : Int) : Int := if B < 0 ∨ B > 20000 then 2 else if L.is G = false then 11 else 0
theorem m_New {e : FV} {L : Lt} (I : IsLat e L) (B G : Int) (W : Bool) : Rt N_meter_New [.fz (.pt 195 true e 0), .fz (askE B G W)] = some (match newK L B G with | 0 => ([(newM e L B G W).tv, .fz (.int .i64 0)], []) | c => ([.fz .nilp, .fz (.int .i64 c)], [])) := by
  refine rt_call A_meter_New rfl rfl 0 ((E_meter_New Rt 0 true _ _ _ _).trans ?_)
  unfold newK
  have hi := lat_Is I G
  have hb := lat_Bottom I
  by_cases h1 : B < 0
  · rw [if_pos (.inl h1)]
    have e1 : decide (B < 0) = true := by simpa using h1
    simp only [e1, J_meter_New_1_0_eq, onR_some, onL_some, List.isEmpty_nil, allF_cons, allF_nil, Bool.and_true, Bool.true_and, when_true', List.getD_cons_zero, List.getD_cons_succ, isF_fz, toF_fz, isBool_bool, toBool_bool, isInt_int, toInt_int, isStr_str, toStr_str, isSl_sl, toSl_sl, List.length_cons, List.length_nil, List.all_cons, List.all_nil, lisFz_fz, ltoFz_fz, beq_self_eq_true, jump_true, ifB_true, ifB_false, isF_pv, isPv_pv, toV_pv, isNil_nilp, isNil_pt, isPt_pt, toAg_ag, cell_ag, isAg_ag, fits_ag, Int.toNat_natCast, Bool.not_true, Bool.not_false, fits_int, fits_bool, fits_str, fits_sl]
  · have e1 : decide (B < 0) = false := by simpa using h1
    by_cases h2 : B > 20000
    · rw [if_pos (.inr h2)]
      have e2 : decide (B > 20000) = true := by simpa using h2
      simp only [e1, e2, J_meter_New_1_0_eq, onR_some, onL_some, List.isEmpty_nil, allF_cons, allF_nil, Bool.and_true, Bool.true_and, when_true', List.getD_cons_zero, List.getD_cons_succ, isF_fz, toF_fz, isBool_bool, toBool_bool, isInt_int, toInt_int, isStr_str, toStr_str, isSl_sl, toSl_sl, List.length_cons, List.length_nil, List.all_cons, List.all_nil, lisFz_fz, ltoFz_fz, beq_self_eq_true, jump_true, ifB_true, ifB_false, isF_pv, isPv_pv, toV_pv, isNil_nilp, isNil_pt, isPt_pt, toAg_ag, cell_ag, isAg_ag, fits_ag, Int.toNat_natCast, Bool.not_true, Bool.not_false, fits_int, fits_bool, fits_str, fits_sl]
    · rw [if_neg (by omega)]
      have e2 : decide (B > 20000) = false := by simpa using h2
      cases hG : L.is G with
      | false =>
        rw [hG] at hi
        simp only [e1, e2, J_meter_New_1_0_eq, hi, onR_some, onL_some, List.isEmpty_nil, allF_cons, allF_nil, Bool.and_true, Bool.true_and, when_true', List.getD_cons_zero, List.getD_cons_succ, isF_fz, toF_fz, isBool_bool, toBool_bool, isInt_int, toInt_int, isStr_str, toStr_str, isSl_sl, toSl_sl, List.length_cons, List.length_nil, List.all_cons, List.all_nil, lisFz_fz, ltoFz_fz, beq_self_eq_true, jump_true, ifB_true, ifB_false, isF_pv, isPv_pv, toV_pv, isNil_nilp, isNil_pt, isPt_pt, toAg_ag, cell_ag, isAg_ag, fits_ag, Int.toNat_natCast, Bool.not_true, Bool.not_false, fits_int, fits_bool, fits_str, fits_sl, if_true]
      | true =>
        rw [hG] at hi
        simp only [e1, e2, J_meter_New_1_0_eq, J_meter_New_2_0_eq, hi, hb, onR_some, onL_some, List.isEmpty_nil, allF_cons, allF_nil, Bool.and_true, Bool.true_and, when_true', List.getD_cons_zero, List.getD_cons_succ, isF_fz, toF_fz, isBool_bool, toBool_bool, isInt_int, toInt_int, isStr_str, toStr_str, isSl_sl, toSl_sl, List.length_cons, List.length_nil, List.all_cons, List.all_nil, lisFz_fz, ltoFz_fz, beq_self_eq_true, jump_true, ifB_true, ifB_false, isF_pv, isPv_pv, toV_pv, isNil_nilp, isNil_pt, isPt_pt, toAg_ag, cell_ag, isAg_ag, fits_ag, Int.toNat_natCast, Bool.not_true, Bool.not_false, fits_int, fits_bool, fits_str, fits_sl, Bool.true_eq_false, if_false]
        rfl
theorem m_New0 (B G : Int) (W : Bool) : Rt N_meter_New [.fz .nilp, .fz (askE B G W)] = some ([.fz .nilp, .fz (.int .i64 1)], []) := rt_call A_meter_New rfl rfl 0 (E_meter_New_v1 Rt 0 true _ _ _)
theorem newM_ok {e : FV} {L : Lt} (I : IsLat e L) {B G : Int} (W : Bool) (h : newK L B G = 0) : (newM e L B G W).Ok L ∧ L.is G = true := by
  unfold newK at h
  split at h
  · cases h
  · split at h
    · cases h
    · rename_i h1 h2
      refine ⟨⟨I, ?_, ?_, ?_, I.ok.bot, ?_, ?_⟩, by simpa using h2⟩ <;> simp [newM] <;> omega
theorem spend_ok {m : Mt} {L : Lt} (O : m.Ok L) (n : Int) : (m.spend n).2.Ok L := by
  unfold Mt.spend
  obtain ⟨a, b, c, d, e, f, g⟩ := O
  split
  · split
    · exact ⟨a, b, c, d, e, f, g⟩
    · rename_i h
      have h1 : ¬ n < 0 := fun q => h (.inl q)
      have h2 : ¬ n > m.B - m.spent := fun q => h (.inr q)
      exact ⟨a, by show 0 ≤ m.spent + n; omega, by show m.spent + n ≤ m.B; omega, d, e, f, g⟩
  · exact ⟨a, b, c, d, e, f, g⟩
theorem raise_ok {m : Mt} {L : Lt} (O : m.Ok L) (n : Int) : (m.raise L n).2.Ok L := by
  unfold Mt.raise
  obtain ⟨a, b, c, d, e, f, g⟩ := O
  have := a.ok.joinI_lt m.label n
  split
  · split
    · exact ⟨a, b, c, d, this, f, g⟩
    · exact ⟨a, b, c, d, this, f, g⟩
  · exact ⟨a, b, c, d, e, f, g⟩
theorem tell_ok {m : Mt} {L : Lt} (O : m.Ok L) : m.tell.2.Ok L := by
  unfold Mt.tell
  obtain ⟨a, b, c, d, e, f, g⟩ := O
  split
  · split
    · exact ⟨a, b, c, d, e, f, g⟩
    · rename_i h
      exact ⟨a, b, c, d, e, by show 0 ≤ m.told + 1; omega, by show m.told + 1 ≤ 512; omega⟩
  · exact ⟨a, b, c, d, e, f, g⟩

theorem lives23_ok : Rt N_law23_lives [] = some ([.fz (.bool true)], []) := by
  have h0 := Pol.new pol0_ok
  have hs : Rt N_ref01_Sort [.fz (.int .i64 0)] = some ([.fz pol0.e], []) := rt_call A_ref01_Sort rfl rfl 0 (by rw [E_ref01_Sort]; rfl)
  have I := Pol.lat pol0_ok
  have hn := m_New I 3 0 false
  have hk : newK (ltR pol0.names.length pol0.g) 3 0 = 0 := rfl
  rw [hk] at hn
  obtain ⟨O, _⟩ := newM_ok I false hk
  have s1 := m_Spend O 2
  have O1 := spend_ok O 2
  have s2 := m_Spend O1 2
  have O2 := spend_ok O1 2
  have s3 := m_End (((newM (latR pol0.names pol0.g) (ltR pol0.names.length pol0.g) 3 0 false).spend 2).2.spend 2).2
  have s4 := m_Left O2
  refine rt_call A_law23_lives rfl rfl 0 ((E_law23_lives Rt 0 true).trans ?_)
  simp only [askE] at hn
  simp only [hs, h0, hn, onR_some, onL_some, List.isEmpty_nil, allF_cons, allF_nil, Bool.and_true, Bool.true_and, when_true', List.getD_cons_zero, List.getD_cons_succ, isF_fz, toF_fz, isBool_bool, toBool_bool, isInt_int, toInt_int, isStr_str, toStr_str, isSl_sl, toSl_sl, List.length_cons, List.length_nil, List.all_cons, List.all_nil, lisFz_fz, ltoFz_fz, beq_self_eq_true, jump_true, ifB_true, ifB_false, isF_pv, isPv_pv, toV_pv, isNil_nilp, isNil_pt, isPt_pt, toAg_ag, cell_ag, isAg_ag, fits_ag, Int.toNat_natCast, Bool.not_true, Bool.not_false, fits_int, fits_bool, fits_str, fits_sl, s1, s2, s3, s4]
  rfl
end Go.Ab
