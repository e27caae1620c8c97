/- MeterAmple: the plain law. -/
import Derived.Test.YtpkhkbihmplhcaaSPMeterNew
namespace Go.Ab
open Go.Proofs
set_option linter.unusedVariables false
set_option linter.unusedSimpArgs false

theorem amp1 {L : Lt} {B by_ : Int} {q : Nat} (hB : 0 ≤ B ∧ B ≤ 20000) (hb : 1 ≤ by_ ∧ by_ ≤ 20000) (hq : Int.tdiv B by_ = (q : Int)) {K : Nat} : ∀ (k i N : Nat) (m : Mt), m.Ok L → m.B = B → m.fin = 0 → m.spent = by_ * i → i + k = q → k < N →
    ∃ m' : Mt, L_law23_MeterAmple_1_1 Rt K true N B by_ i m.enc = some (.exit 0, X_law23_MeterAmple_1_3 B by_ m'.enc) ∧ m'.Ok L ∧ m'.B = B ∧ m'.fin = 0 ∧ m'.spent = by_ * q
  | k, i, 0, m, _, _, _, _, _, h => by omega
  | 0, i, N + 1, m, O, h1, h2, h3, h, _ => by
    have h0 : (!decide (by_ = 0)) = true := by simp; omega
    have hq2 : q ≤ 20000 := by
      have := Int.tdiv_le_self by_ (show 0 ≤ B by omega)
      omega
    have hw : IntKind.wrap .i64 (q : Int) = q := wrap64 (by omega) (by omega)
    rw [L_law23_MeterAmple_1_1_eq, hq, hw, h0]
    have hlt : decide ((i : Int) < (q : Int)) = false := by simp; omega
    simp only [hlt, onR_some, onL_some, List.isEmpty_nil, allF_cons, allF_nil, Bool.and_true, Bool.true_and, when_true', List.getD_cons_zero, List.getD_cons_succ, isF_fz, toF_fz, isBool_bool, toBool_bool, isInt_int, toInt_int, isStr_str, toStr_str, isSl_sl, toSl_sl, List.length_cons, List.length_nil, List.all_cons, List.all_nil, lisFz_fz, ltoFz_fz, beq_self_eq_true, jump_true, ifB_true, ifB_false, isF_pv, isPv_pv, toV_pv, isNil_nilp, isNil_pt, isPt_pt, toAg_ag, cell_ag, isAg_ag, fits_ag, Int.toNat_natCast, Bool.not_true, Bool.not_false, fits_int, fits_bool, fits_str, fits_sl]
    exact ⟨m, rfl, O, h1, h2, by rw [h3, show i = q by omega]⟩
  | k + 1, i, N + 1, m, O, h1, h2, h3, h, hN => by
    have h0 : (!decide (by_ = 0)) = true := by simp; omega
    have hq2 : q ≤ 20000 := by
      have := Int.tdiv_le_self by_ (show 0 ≤ B by omega)
      omega
    have hqm : by_ * q ≤ B := by
      have h1 := Int.mul_tdiv_add_tmod B by_
      have h2 := Int.tmod_nonneg by_ hB.1
      rw [hq] at h1; omega
    have hmul : by_ * ((i : Int) + 1) ≤ by_ * q := Int.mul_le_mul_of_nonneg_left (by omega) (by omega)
    have hexp : by_ * ((i : Int) + 1) = by_ * i + by_ := by rw [Int.mul_add, Int.mul_one]
    have hnn : 0 ≤ by_ * ((i : Int) + 1) := Int.mul_nonneg (by omega) (by omega)
    have hw : IntKind.wrap .i64 (q : Int) = q := wrap64 (by omega) (by omega)
    have hlt : decide ((i : Int) < (q : Int)) = true := by simp; omega
    have c1 := m_Spend O by_
    have hs : m.spend by_ = (true, { m with spent := m.spent + by_ }) := by
      unfold Mt.spend
      rw [if_pos h2, if_neg (by rw [h1, h3]; omega)]
    have O' := spend_ok O by_
    rw [hs] at c1 O'
    have c2 := m_Left O'
    simp only [Mt.tv, mAns] at c1 c2
    obtain ⟨m', e1, e2⟩ := amp1 hB hb hq (K := K) k (i + 1) N { m with spent := m.spent + by_ } O' h1 h2 (by show m.spent + by_ = by_ * ((i + 1 : Nat) : Int); rw [h3]; push_cast; omega) (by omega) (by omega)
    refine ⟨m', ?_, e2⟩
    have w1 : IntKind.wrap .i64 ((i : Int) + 1) = ((i + 1 : Nat) : Int) := wrn (by omega)
    have w2 : IntKind.wrap .i64 (by_ * ((i + 1 : Nat) : Int)) = by_ * ((i + 1 : Nat) : Int) := by push_cast; exact wrap64 (by omega) (by omega)
    have w3 : IntKind.wrap .i64 (B - by_ * ((i + 1 : Nat) : Int)) = B - by_ * ((i + 1 : Nat) : Int) := by push_cast; exact wrap64 (by omega) (by omega)
    have e0 : ((m.B - (m.spent + by_)) != B - by_ * ((i + 1 : Nat) : Int)) = false := by
      rw [h1, h3]; push_cast; rw [hexp]; simp
    rw [L_law23_MeterAmple_1_1_eq, hq, hw, h0]
    simp only [hlt, onR_some, onL_some, List.isEmpty_nil, allF_cons, allF_nil, Bool.and_true, Bool.true_and, when_true', List.getD_cons_zero, List.getD_cons_succ, isF_fz, toF_fz, isBool_bool, toBool_bool, isInt_int, toInt_int, isStr_str, toStr_str, isSl_sl, toSl_sl, List.length_cons, List.length_nil, List.all_cons, List.all_nil, lisFz_fz, ltoFz_fz, beq_self_eq_true, jump_true, ifB_true, ifB_false, isF_pv, isPv_pv, toV_pv, isNil_nilp, isNil_pt, isPt_pt, toAg_ag, cell_ag, isAg_ag, fits_ag, Int.toNat_natCast, Bool.not_true, Bool.not_false, fits_int, fits_bool, fits_str, fits_sl, c1, c2, w1, w2, w3, e0, e1]
theorem pure_MeterAmple (f0 f1 f2 : FV) (h0 : WV Try.prog 40 140737488351232 3 f0) (h1 : WV Try.prog 40 140737488351232 3 f1) (h2 : WV Try.prog 40 140737488351232 3 f2) : Rt N_law23_MeterAmple [.fz f0, .fz f1, .fz f2] = some ([.fz (.bool true)], []) := by
  obtain ⟨k, rfl, _⟩ := int_of (k := .i64) (by kernel_rfl) (by kernel_rfl) h0
  obtain ⟨B, rfl, _⟩ := int_of (k := .i64) (by kernel_rfl) (by kernel_rfl) h1
  obtain ⟨by_, rfl, _⟩ := int_of (k := .i64) (by kernel_rfl) (by kernel_rfl) h2
  obtain ⟨e, t, L, hof, I, T⟩ := of_ok k
  have hl := lives23_ok
  refine rt_call A_law23_MeterAmple rfl rfl 3005 ((E_law23_MeterAmple Rt 3005 true _ _ _).trans ?_)
  rw [hof]
  by_cases b1 : B < 0
  · simp only [decide_eq_true b1, onR_some, onL_some, List.isEmpty_nil, allF_cons, allF_nil, Bool.and_true, Bool.true_and, when_true', List.getD_cons_zero, List.getD_cons_succ, isF_fz, toF_fz, isBool_bool, toBool_bool, isInt_int, toInt_int, isStr_str, toStr_str, isSl_sl, toSl_sl, List.length_cons, List.length_nil, List.all_cons, List.all_nil, lisFz_fz, ltoFz_fz, beq_self_eq_true, jump_true, ifB_true, ifB_false, isF_pv, isPv_pv, toV_pv, isNil_nilp, isNil_pt, isPt_pt, toAg_ag, cell_ag, isAg_ag, fits_ag, Int.toNat_natCast, Bool.not_true, Bool.not_false, fits_int, fits_bool, fits_str, fits_sl, hl]
  by_cases b2 : B > 20000
  · simp only [decide_eq_false b1, decide_eq_true b2, onR_some, onL_some, List.isEmpty_nil, allF_cons, allF_nil, Bool.and_true, Bool.true_and, when_true', List.getD_cons_zero, List.getD_cons_succ, isF_fz, toF_fz, isBool_bool, toBool_bool, isInt_int, toInt_int, isStr_str, toStr_str, isSl_sl, toSl_sl, List.length_cons, List.length_nil, List.all_cons, List.all_nil, lisFz_fz, ltoFz_fz, beq_self_eq_true, jump_true, ifB_true, ifB_false, isF_pv, isPv_pv, toV_pv, isNil_nilp, isNil_pt, isPt_pt, toAg_ag, cell_ag, isAg_ag, fits_ag, Int.toNat_natCast, Bool.not_true, Bool.not_false, fits_int, fits_bool, fits_str, fits_sl, hl]
  by_cases b3 : by_ < 1
  · simp only [decide_eq_false b1, decide_eq_false b2, decide_eq_true b3, onR_some, onL_some, List.isEmpty_nil, allF_cons, allF_nil, Bool.and_true, Bool.true_and, when_true', List.getD_cons_zero, List.getD_cons_succ, isF_fz, toF_fz, isBool_bool, toBool_bool, isInt_int, toInt_int, isStr_str, toStr_str, isSl_sl, toSl_sl, List.length_cons, List.length_nil, List.all_cons, List.all_nil, lisFz_fz, ltoFz_fz, beq_self_eq_true, jump_true, ifB_true, ifB_false, isF_pv, isPv_pv, toV_pv, isNil_nilp, isNil_pt, isPt_pt, toAg_ag, cell_ag, isAg_ag, fits_ag, Int.toNat_natCast, Bool.not_true, Bool.not_false, fits_int, fits_bool, fits_str, fits_sl, hl]
  by_cases b4 : by_ > 20000
  · simp only [decide_eq_false b1, decide_eq_false b2, decide_eq_false b3, decide_eq_true b4, onR_some, onL_some, List.isEmpty_nil, allF_cons, allF_nil, Bool.and_true, Bool.true_and, when_true', List.getD_cons_zero, List.getD_cons_succ, isF_fz, toF_fz, isBool_bool, toBool_bool, isInt_int, toInt_int, isStr_str, toStr_str, isSl_sl, toSl_sl, List.length_cons, List.length_nil, List.all_cons, List.all_nil, lisFz_fz, ltoFz_fz, beq_self_eq_true, jump_true, ifB_true, ifB_false, isF_pv, isPv_pv, toV_pv, isNil_nilp, isNil_pt, isPt_pt, toAg_ag, cell_ag, isAg_ag, fits_ag, Int.toNat_natCast, Bool.not_true, Bool.not_false, fits_int, fits_bool, fits_str, fits_sl, hl]
  have hz : (!decide (by_ = 0)) = true := by simp; omega
  have hq0 : 0 ≤ Int.tdiv B by_ := Int.tdiv_nonneg (by omega) (by omega)
  obtain ⟨q, hq⟩ : ∃ q : Nat, Int.tdiv B by_ = (q : Int) := ⟨(Int.tdiv B by_).toNat, by omega⟩
  have hq2 : (q : Int) ≤ 20000 := by
    have := Int.tdiv_le_self by_ (show 0 ≤ B by omega)
    omega
  have hw : IntKind.wrap .i64 (q : Int) = q := wrap64 (by omega) (by omega)
  by_cases b5 : (q : Int) > 3000
  · simp only [decide_eq_false b1, decide_eq_false b2, decide_eq_false b3, decide_eq_false b4, onR_some, onL_some, List.isEmpty_nil, allF_cons, allF_nil, Bool.and_true, Bool.true_and, when_true', List.getD_cons_zero, List.getD_cons_succ, isF_fz, toF_fz, isBool_bool, toBool_bool, isInt_int, toInt_int, isStr_str, toStr_str, isSl_sl, toSl_sl, List.length_cons, List.length_nil, List.all_cons, List.all_nil, lisFz_fz, ltoFz_fz, beq_self_eq_true, jump_true, ifB_true, ifB_false, isF_pv, isPv_pv, toV_pv, isNil_nilp, isNil_pt, isPt_pt, toAg_ag, cell_ag, isAg_ag, fits_ag, Int.toNat_natCast, Bool.not_true, Bool.not_false, fits_int, fits_bool, fits_str, fits_sl, hz, hq, hw, decide_eq_true b5, hl]
  have h1 := I.ok.n1
  have h8 := I.ok.n8
  have hG : IntKind.wrap .i64 ((t.length : Int) - 1) = (L.n : Int) - 1 := by rw [T.len]; exact wrap64 (by omega) (by omega)
  have hk : newK L B ((L.n : Int) - 1) = 0 := by
    unfold newK
    rw [if_neg (by omega), Lt.is_iff.2 ⟨by omega, by omega⟩, if_neg (by simp)]
  have hn := m_New I B ((L.n : Int) - 1) false
  rw [hk] at hn
  obtain ⟨O, _⟩ := newM_ok I false hk
  obtain ⟨m, e1, O1, m1, m2, m3⟩ := amp1 (L := L) (B := B) (by_ := by_) (by omega) (by omega) hq (K := 3005) q 0 3005 (newM e L B ((L.n : Int) - 1) false) O rfl rfl (by simp [newM]) (by omega) (by omega)
  have hmod := Int.mul_tdiv_add_tmod B by_
  rw [hq] at hmod
  have hm0 := Int.tmod_nonneg by_ (show 0 ≤ B by omega)
  have s1 : m.spend (Int.tmod B by_) = (true, { m with spent := m.spent + Int.tmod B by_ }) := by
    unfold Mt.spend
    rw [if_pos m2, if_neg (by rw [m1, m3]; omega)]
  have c1 := m_Spend O1 (Int.tmod B by_)
  have O2 := spend_ok O1 (Int.tmod B by_)
  rw [s1] at c1 O2
  generalize hmm : ({ m with spent := m.spent + Int.tmod B by_ } : Mt) = M at c1 O2
  have M1 : M.B = B := by rw [← hmm]; exact m1
  have M2 : M.fin = 0 := by rw [← hmm]; exact m2
  have M3 : M.spent = B := by rw [← hmm]; show m.spent + _ = B; rw [m3]; omega
  have c2 := m_Left O2
  have c3 := m_Spend O2 0
  have s3 : M.spend 0 = (true, { M with spent := M.spent + 0 }) := by
    unfold Mt.spend
    rw [if_pos M2, if_neg (by rw [M1, M3]; omega)]
  have hM : ({ M with spent := M.spent + 0 } : Mt) = M := by simp
  rw [s3, hM] at c3
  have c4 := m_End M
  have c5 := m_Spend O2 1
  have s5 : M.spend 1 = (false, M.stop 1) := by
    unfold Mt.spend
    rw [if_pos M2, if_pos (by rw [M1, M3]; omega)]
  have O3 := spend_ok O2 1
  rw [s5] at c5 O3
  have c6 := m_End (M.stop 1)
  have c7 := m_Spend O3 0
  have s7 : (M.stop 1).spend 0 = (false, M.stop 1) := by
    unfold Mt.spend Mt.stop
    rw [if_neg (by show ¬ (1 : Int) = 0; decide)]
  rw [s7] at c7
  have f1 : ((M.B - M.spent) == 0) = true := by rw [M1, M3]; simp
  have f2 : (M.fin == 0) = true := by rw [M2]; rfl
  have f3 : ((M.stop 1).fin == 1) = true := rfl
  simp only [askE] at hn
  simp only [Mt.tv, mAns] at c1 c2 c3 c4 c5 c6 c7 hn
  simp only [Int.natCast_zero] at e1
  simp only [decide_eq_false b1, decide_eq_false b2, decide_eq_false b3, decide_eq_false b4, onR_some, onL_some, List.isEmpty_nil, allF_cons, allF_nil, Bool.and_true, Bool.true_and, when_true', List.getD_cons_zero, List.getD_cons_succ, isF_fz, toF_fz, isBool_bool, toBool_bool, isInt_int, toInt_int, isStr_str, toStr_str, isSl_sl, toSl_sl, List.length_cons, List.length_nil, List.all_cons, List.all_nil, lisFz_fz, ltoFz_fz, beq_self_eq_true, jump_true, ifB_true, ifB_false, isF_pv, isPv_pv, toV_pv, isNil_nilp, isNil_pt, isPt_pt, toAg_ag, cell_ag, isAg_ag, fits_ag, Int.toNat_natCast, Bool.not_true, Bool.not_false, fits_int, fits_bool, fits_str, fits_sl, hz, hq, hw, decide_eq_false b5, Bool.true_or, J_law23_MeterAmple_2_0_eq, hG, hn, bne_self_eq_false, e1, X_law23_MeterAmple_1_3_eq, c1, c2, c3, c4, c5, c6, c7, f1, f2, f3, hl]
end Go.Ab
