/- MeterNew: the plain law. -/
import Derived.Test.YtpkhkbihmplhcaaSMeter
import Derived.Test.YtpkhkbihmplhcaaSReadB
namespace Go.Ab
open Go.Proofs
set_option linter.unusedVariables false
set_option linter.unusedSimpArgs false

theorem ask_of {P : Program} {D B t : Nat} (hft : flat P D t = [.int .i64, .int .i64, .bool]) (hst : szOf P t = some (3, true)) {f : FV} (h : WV P D B t f) : ∃ (b g : Int) (w : Bool), f = askE b g w ∧ (Lit.int .i64 b).wf = true ∧ (Lit.int .i64 g).wf = true := by
  obtain ⟨cs, rfl, hl, H⟩ := cells_of hst h
  obtain ⟨a, b, c, rfl⟩ := len3 hl
  rw [hft] at H
  obtain ⟨a, rfl, ha⟩ := wc_int (H 0 a _ rfl rfl)
  obtain ⟨b, rfl, hb⟩ := wc_int (H 1 b _ rfl rfl)
  obtain ⟨c, rfl⟩ := wc_bool (H 2 c _ rfl rfl)
  exact ⟨a, b, c, rfl, ha, hb⟩

theorem pure_MeterNew (f0 f1 : FV) (h0 : WV Try.prog 40 140737488351232 3 f0) (h1 : WV Try.prog 40 140737488351232 32 f1) : Rt N_law23_MeterNew [.fz f0, .fz f1] = some ([.fz (.bool true)], []) := by
  obtain ⟨k, rfl, _⟩ := int_of (k := .i64) (by kernel_rfl) (by kernel_rfl) h0
  obtain ⟨B, G, W, rfl, _, _⟩ := ask_of (by kernel_rfl) (by kernel_rfl) h1
  obtain ⟨e, t, L, hof, I, T⟩ := of_ok k
  have O := I.ok
  refine rt_call A_law23_MeterNew rfl rfl 0 ?_
  have hn := m_New I B G W
  have hn0 := m_New0 B G W
  have hb9 := bottom9_ok T O
  have hE := E_law23_MeterNew Rt 0 true k B G W
  refine hE.trans ?_
  have hl := lives23_ok
  simp only [askE] at hn hn0
  rw [hof]
  unfold newK at hn
  have hlen := T.len
  by_cases hB : B < 0 ∨ B > 20000
  · rw [if_pos hB] at hn
    have s3 : ∀ c : Int, J_law23_MeterNew_3_0 Rt 0 true (.sl t) 2 1 c B G W = some ([.fz (.bool true)], []) := fun c => by
      have h2 : J_law23_MeterNew_2_0 Rt 0 true (.sl t) 2 1 2 B G W = some ([.fz (.bool true)], []) := by
        rw [J_law23_MeterNew_2_0_eq]
        simp only [m_Spend0, m_Raise0, m_Tell0, m_End0, m_Label0, m_Left0, onR_some, onL_some, List.isEmpty_nil, allF_cons, allF_nil, Bool.and_true, Bool.true_and, when_true', List.getD_cons_zero, List.getD_cons_succ, isF_fz, toF_fz, isBool_bool, toBool_bool, isInt_int, toInt_int, isStr_str, toStr_str, isSl_sl, toSl_sl, List.length_cons, List.length_nil, List.all_cons, List.all_nil, lisFz_fz, ltoFz_fz, beq_self_eq_true, jump_true, ifB_true, ifB_false, isF_pv, isPv_pv, toV_pv, isNil_nilp, isNil_pt, isPt_pt, toAg_ag, cell_ag, isAg_ag, fits_ag, Int.toNat_natCast, Bool.not_true, Bool.not_false, fits_int, fits_bool, fits_str, fits_sl, bne_self_eq_false, J_law23_MeterNew_1_0_eq, show ((2 : Int) != 0) = true from rfl, hl]
      rw [J_law23_MeterNew_3_0_eq]
      by_cases q : B < 0
      · rw [show decide (B < 0) = true by simpa using q]; simp only [ifB_true, jump_true, h2]
      · rw [show decide (B < 0) = false by simpa using q, show decide (B > 20000) = true by simp; omega]; simp only [ifB_true, ifB_false, jump_true, h2]
    simp only [hn, hn0, onR_some, onL_some, List.isEmpty_nil, allF_cons, allF_nil, Bool.and_true, Bool.true_and, when_true', List.getD_cons_zero, List.getD_cons_succ, isF_fz, toF_fz, isBool_bool, toBool_bool, isInt_int, toInt_int, isStr_str, toStr_str, isSl_sl, toSl_sl, List.length_cons, List.length_nil, List.all_cons, List.all_nil, lisFz_fz, ltoFz_fz, beq_self_eq_true, jump_true, ifB_true, ifB_false, isF_pv, isPv_pv, toV_pv, isNil_nilp, isNil_pt, isPt_pt, toAg_ag, cell_ag, isAg_ag, fits_ag, Int.toNat_natCast, Bool.not_true, Bool.not_false, fits_int, fits_bool, fits_str, fits_sl, s3]
    cases decide (G < 0) <;> simp only [ifB_true, ifB_false]
    cases decide (G ≥ (t.length : Int)) <;> simp only [ifB_true, ifB_false]
  · rw [if_neg hB] at hn
    have d1 : decide (B < 0) = false := by simp; omega
    have d2 : decide (B > 20000) = false := by simp; omega
    cases hG : L.is G with
    | false =>
      rw [hG, if_pos rfl] at hn
      have s3 : J_law23_MeterNew_3_0 Rt 0 true (.sl t) 11 1 11 B G W = some ([.fz (.bool true)], []) := by
        have h2 : J_law23_MeterNew_2_0 Rt 0 true (.sl t) 11 1 11 B G W = some ([.fz (.bool true)], []) := by
          rw [J_law23_MeterNew_2_0_eq]
          simp only [m_Spend0, m_Raise0, m_Tell0, m_End0, m_Label0, m_Left0, onR_some, onL_some, List.isEmpty_nil, allF_cons, allF_nil, Bool.and_true, Bool.true_and, when_true', List.getD_cons_zero, List.getD_cons_succ, isF_fz, toF_fz, isBool_bool, toBool_bool, isInt_int, toInt_int, isStr_str, toStr_str, isSl_sl, toSl_sl, List.length_cons, List.length_nil, List.all_cons, List.all_nil, lisFz_fz, ltoFz_fz, beq_self_eq_true, jump_true, ifB_true, ifB_false, isF_pv, isPv_pv, toV_pv, isNil_nilp, isNil_pt, isPt_pt, toAg_ag, cell_ag, isAg_ag, fits_ag, Int.toNat_natCast, Bool.not_true, Bool.not_false, fits_int, fits_bool, fits_str, fits_sl, bne_self_eq_false, J_law23_MeterNew_1_0_eq, show ((11 : Int) != 0) = true from rfl, hl]
        rw [J_law23_MeterNew_3_0_eq, d1, d2]
        simp only [ifB_false, jump_true, h2]
      have hg : ¬ (0 ≤ G ∧ G < L.n) := fun q => by rw [Lt.is_iff.2 q] at hG; cases hG
      simp only [hn, hn0, onR_some, onL_some, List.isEmpty_nil, allF_cons, allF_nil, Bool.and_true, Bool.true_and, when_true', List.getD_cons_zero, List.getD_cons_succ, isF_fz, toF_fz, isBool_bool, toBool_bool, isInt_int, toInt_int, isStr_str, toStr_str, isSl_sl, toSl_sl, List.length_cons, List.length_nil, List.all_cons, List.all_nil, lisFz_fz, ltoFz_fz, beq_self_eq_true, jump_true, ifB_true, ifB_false, isF_pv, isPv_pv, toV_pv, isNil_nilp, isNil_pt, isPt_pt, toAg_ag, cell_ag, isAg_ag, fits_ag, Int.toNat_natCast, Bool.not_true, Bool.not_false, fits_int, fits_bool, fits_str, fits_sl, s3]
      by_cases g1 : G < 0
      · rw [show decide (G < 0) = true by simpa using g1]; simp only [ifB_true]
      · rw [show decide (G < 0) = false by simpa using g1, show decide (G ≥ (t.length : Int)) = true by simp; omega]; simp only [ifB_true, ifB_false]
    | true =>
      rw [hG, if_neg (by simp)] at hn
      have hg := Lt.is_iff.1 hG
      have hk : newK L B G = 0 := by unfold newK; rw [if_neg hB, hG, if_neg (by simp)]
      obtain ⟨MO, _⟩ := newM_ok I W hk
      have s1 := m_End (newM e L B G W)
      have s2 := m_Left MO
      have s4 := m_Label (newM e L B G W)
      have hleft : (newM e L B G W).B - (newM e L B G W).spent = B := by simp [newM]
      rw [hleft] at s2
      have h1 : J_law23_MeterNew_1_1 Rt 0 true (.sl t) 0 B G W (newM e L B G W).enc = some ([.fz (.bool true)], []) := by
        rw [J_law23_MeterNew_1_1_eq]
        have hf : ((newM e L B G W).fin == 0) = true := rfl
        have hlab : ((newM e L B G W).label : Int) = (L.bot : Int) := rfl
        simp only [show ((0 : Int) != 0) = false from rfl, onR_some, onL_some, List.isEmpty_nil, allF_cons, allF_nil, Bool.and_true, Bool.true_and, when_true', List.getD_cons_zero, List.getD_cons_succ, isF_fz, toF_fz, isBool_bool, toBool_bool, isInt_int, toInt_int, isStr_str, toStr_str, isSl_sl, toSl_sl, List.length_cons, List.length_nil, List.all_cons, List.all_nil, lisFz_fz, ltoFz_fz, beq_self_eq_true, jump_true, ifB_true, ifB_false, isF_pv, isPv_pv, toV_pv, isNil_nilp, isNil_pt, isPt_pt, toAg_ag, cell_ag, isAg_ag, fits_ag, Int.toNat_natCast, Bool.not_true, Bool.not_false, fits_int, fits_bool, fits_str, fits_sl, s1, s2, s4, hf, hlab, hb9, hl]
      have s3 : J_law23_MeterNew_3_1 Rt 0 true (.sl t) 0 1 0 B G W (newM e L B G W).enc = some ([.fz (.bool true)], []) := by
        have h2 : J_law23_MeterNew_2_1 Rt 0 true (.sl t) 0 1 0 B G W (newM e L B G W).enc = some ([.fz (.bool true)], []) := by
          rw [J_law23_MeterNew_2_1_eq]
          simp only [m_Spend0, m_Raise0, m_Tell0, m_End0, m_Label0, m_Left0, onR_some, onL_some, List.isEmpty_nil, allF_cons, allF_nil, Bool.and_true, Bool.true_and, when_true', List.getD_cons_zero, List.getD_cons_succ, isF_fz, toF_fz, isBool_bool, toBool_bool, isInt_int, toInt_int, isStr_str, toStr_str, isSl_sl, toSl_sl, List.length_cons, List.length_nil, List.all_cons, List.all_nil, lisFz_fz, ltoFz_fz, beq_self_eq_true, jump_true, ifB_true, ifB_false, isF_pv, isPv_pv, toV_pv, isNil_nilp, isNil_pt, isPt_pt, toAg_ag, cell_ag, isAg_ag, fits_ag, Int.toNat_natCast, Bool.not_true, Bool.not_false, fits_int, fits_bool, fits_str, fits_sl, bne_self_eq_false, h1]
        rw [J_law23_MeterNew_3_1_eq, d1, d2]
        simp only [ifB_false, jump_true, h2]
      simp only [hn, hn0, onR_some, onL_some, List.isEmpty_nil, allF_cons, allF_nil, Bool.and_true, Bool.true_and, when_true', List.getD_cons_zero, List.getD_cons_succ, isF_fz, toF_fz, isBool_bool, toBool_bool, isInt_int, toInt_int, isStr_str, toStr_str, isSl_sl, toSl_sl, List.length_cons, List.length_nil, List.all_cons, List.all_nil, lisFz_fz, ltoFz_fz, beq_self_eq_true, jump_true, ifB_true, ifB_false, isF_pv, isPv_pv, toV_pv, isNil_nilp, isNil_pt, isPt_pt, toAg_ag, cell_ag, isAg_ag, fits_ag, Int.toNat_natCast, Bool.not_true, Bool.not_false, fits_int, fits_bool, fits_str, fits_sl, s3, Mt.tv]
      rw [show decide (G < 0) = false by simp; omega, show decide (G ≥ (t.length : Int)) = false by simp; omega]; simp only [ifB_false]
end Go.Ab
