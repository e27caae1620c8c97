/- MeterRuns: the plain law. -/
import Derived.Test.YtpkhkbihmplhcaaSPMeterRises
namespace Go.Ab
open Go.Proofs
set_option linter.unusedVariables false
set_option linter.unusedSimpArgs false

section
variable {e : FV} {t : List FV} {L : Lt} (T : IsTab t L) (ops : List Op3) (i : Nat) (o : Op3) {K : Nat}

theorem run6 {m : Mt} (O : m.Ok L) (N x17 : Nat) (hx : x17 < 1000) (b : Bool) (B G : Int) (W : Bool) {lab left told fin : Int} (h1 : (m.label : Int) = lab) (h2 : m.B - m.spent = left) (h3 : m.told = told) (h4 : m.fin = fin) :
    J_law23_MeterRuns_6_1 Rt K true N (opsE ops) (.sl t) lab left told fin i x17 b b B G W m.enc (opE o) = L_law23_MeterRuns_1_1 Rt K true N (opsE ops) (.sl t) lab left told fin i ((x17 + 1 : Nat) : Int) B G W m.enc (opE o) := by
  have s1 := m_End m
  have s2 := m_Label m
  have s3 := m_Left O
  simp only [Mt.tv, mAns, h1, h2, h4] at s1 s2 s3
  have eb : (!(b == b)) = false := by simp
  rw [J_law23_MeterRuns_6_1_eq]
  simp only [eb, onR_some, onL_some, List.isEmpty_nil, allF_cons, allF_nil, Bool.and_true, Bool.true_and, when_true', List.getD_cons_zero, List.getD_cons_succ, isF_fz, toF_fz, isBool_bool, toBool_bool, isInt_int, toInt_int, isStr_str, toStr_str, isSl_sl, toSl_sl, List.length_cons, List.length_nil, List.all_cons, List.all_nil, lisFz_fz, ltoFz_fz, beq_self_eq_true, jump_true, ifB_true, ifB_false, isF_pv, isPv_pv, toV_pv, isNil_nilp, isNil_pt, isPt_pt, toAg_ag, cell_ag, isAg_ag, fits_ag, Int.toNat_natCast, Bool.not_true, Bool.not_false, fits_int, fits_bool, fits_str, fits_sl, s1, s2, s3, bne_self_eq_false, wrn (show x17 < 1152921504606846976 by omega)]
include T
theorem run3 {M : Mt} (O : M.Ok L) (N x17 : Nat) (hx : x17 < 1000) {G : Int} (hG : L.is G = true) (B : Int) (W b : Bool) {lab : Nat} (hl : lab < L.n) {left told : Int} (m1 : M.label = lab) (m2 : M.B - M.spent = left) (m3 : M.told = told) (m4 : M.fin = if W = true ∧ L.leqI lab G = false then 2 else 0) (hb : b = !decide (W = true ∧ L.leqI lab G = false)) :
    J_law23_MeterRuns_3_1 Rt K true N (opsE ops) (.sl t) lab left told 0 i x17 true b B G W M.enc (opE o) = L_law23_MeterRuns_1_1 Rt K true N (opsE ops) (.sl t) lab left told M.fin i ((x17 + 1 : Nat) : Int) B G W M.enc (opE o) := by
  have hGr := Lt.is_iff.1 hG
  obtain ⟨g, hGn⟩ : ∃ g : Nat, G = (g : Int) := ⟨G.toNat, by omega⟩
  have hGl : g < L.n := by omega
  have hlq : L.leqI lab G = L.leq lab g := by
    unfold Lt.leqI
    rw [Lt.is_iff.2 ⟨by omega, by omega⟩, hG, hGn]
    simp
  rw [J_law23_MeterRuns_3_1_eq]
  cases W with
  | false =>
    rw [if_neg (by simp)] at m4
    have hb' : b = true := by rw [hb]; simp
    rw [hb', m4]
    simp only [ifB_false, jump_true]
    exact run6 ops i o O N x17 hx true B G false (by rw [m1]) m2 m3 m4
  | true =>
    simp only [isSl_sl, toSl_sl, when_true', ifB_true, hGn, T.len, dlt hl, dlt hGl, Int.toNat_natCast, T.fits _ hl, T.sl _ hl, T.rlen _ hl, T.cell _ g hl hGl, fits_bool, isBool_bool, toBool_bool]
    rw [hlq] at m4 hb
    cases hq : L.leq lab g with
    | true =>
      rw [hq, if_neg (by simp)] at m4
      have hb' : b = true := by rw [hb, hq]; simp
      rw [hb', m4]
      simp only [Bool.not_true, ifB_false, jump_true]
      exact run6 ops i o O N x17 hx true B g true (by rw [m1]) m2 m3 m4
    | false =>
      rw [hq, if_pos ⟨rfl, rfl⟩] at m4
      have hb' : b = false := by rw [hb, hq]; simp
      rw [hb', m4]
      simp only [Bool.not_false, ifB_true, jump_true]
      exact run6 ops i o O N x17 hx false B g true (by rw [m1]) m2 m3 m4
theorem run9 {m : Mt} (O : m.Ok L) (hG : L.is m.G = true) (N x17 : Nat) (hx : x17 < 1000) :
    ∃ M : Mt, opM L m o = ((opM L m o).1, M) ∧ J_law23_MeterRuns_9_1 Rt K true N (opsE ops) (.sl t) m.label (m.B - m.spent) m.told m.fin i x17 m.B m.G m.W m.enc (opE o) = L_law23_MeterRuns_1_1 Rt K true N (opsE ops) (.sl t) M.label (M.B - M.spent) M.told M.fin i ((x17 + 1 : Nat) : Int) m.B m.G m.W M.enc (opE o) := by
  have LO := O.lat.ok
  have h0 := O.s0; have h1 := O.s1; have hb := O.b; have ht0 := O.t0; have ht1 := O.t1
  have O' := opM_ok O o
  have F := opF O o
  refine ⟨(opM L m o).2, rfl, ?_⟩
  rw [J_law23_MeterRuns_9_1_eq]
  simp only [op_ag, op_0, op_1, isInt_int, toInt_int, when_true']
  by_cases k0 : o.1 = 0
  · have e0 : (o.1 == 0) = true := beq_iff_eq.2 k0
    have c1 := m_Spend O o.2.1
    simp only [Mt.tv, mAns] at c1
    have hop : opM L m o = m.spend o.2.1 := by unfold opM; rw [if_pos k0]
    rw [e0, ifB_true]
    rw [hop] at O' ⊢
    generalize hr : m.spend o.2.1 = r at *
    obtain ⟨b, M⟩ := r
    simp only [] at O' c1 ⊢
    simp only [c1, onR_some, onL_some, List.isEmpty_nil, allF_cons, allF_nil, Bool.and_true, Bool.true_and, when_true', List.getD_cons_zero, List.getD_cons_succ, isF_fz, toF_fz, isBool_bool, toBool_bool, isInt_int, toInt_int, isStr_str, toStr_str, isSl_sl, toSl_sl, List.length_cons, List.length_nil, List.all_cons, List.all_nil, lisFz_fz, ltoFz_fz, beq_self_eq_true, jump_true, ifB_true, ifB_false, isF_pv, isPv_pv, toV_pv, isNil_nilp, isNil_pt, isPt_pt, toAg_ag, cell_ag, isAg_ag, fits_ag, Int.toNat_natCast, Bool.not_true, Bool.not_false, fits_int, fits_bool, fits_str, fits_sl]
    unfold Mt.spend at hr
    by_cases hf : m.fin = 0
    · have ef : (m.fin == 0) = true := beq_iff_eq.2 hf
      rw [if_pos hf] at hr
      rw [ef, ifB_true]
      by_cases q1 : o.2.1 < 0 ∨ o.2.1 > m.B - m.spent
      · rw [if_pos q1] at hr
        cases hr
        have r6 := run6 (t := t) ops i o (K := K) O' N x17 hx false m.B m.G m.W (lab := m.label) (left := m.B - m.spent) (told := m.told) (fin := 1) rfl rfl rfl rfl
        by_cases q2 : o.2.1 < 0
        · simp only [decide_eq_true q2, ifB_true, J_law23_MeterRuns_1_1_eq, jump_true, r6]
          rfl
        · have q3 : o.2.1 > m.B - m.spent := by omega
          simp only [decide_eq_false q2, decide_eq_true q3, ifB_true, ifB_false, J_law23_MeterRuns_1_1_eq, jump_true, r6]
          rfl
      · rw [if_neg q1] at hr
        cases hr
        have q2 : ¬ o.2.1 < 0 := fun h => q1 (.inl h)
        have q3 : ¬ o.2.1 > m.B - m.spent := fun h => q1 (.inr h)
        have hw : IntKind.wrap .i64 (m.B - m.spent - o.2.1) = m.B - (m.spent + o.2.1) := by rw [wrap64 (by omega) (by omega)]; omega
        have r6 := run6 (t := t) ops i o (K := K) O' N x17 hx true m.B m.G m.W (lab := m.label) (left := m.B - (m.spent + o.2.1)) (told := m.told) (fin := m.fin) rfl rfl rfl rfl
        simp only [decide_eq_false q2, decide_eq_false q3, ifB_true, ifB_false, J_law23_MeterRuns_1_1_eq, jump_true, op_ag, op_1, isInt_int, toInt_int, when_true', hw, r6]
    · have ef : (m.fin == 0) = false := beq_eq_false_iff_ne.2 hf
      rw [if_neg hf] at hr
      cases hr
      have r6 := run6 (t := t) ops i o (K := K) O N x17 hx false m.B m.G m.W (lab := m.label) (left := m.B - m.spent) (told := m.told) (fin := m.fin) rfl rfl rfl rfl
      simp only [ef, ifB_false, J_law23_MeterRuns_1_1_eq, jump_true, r6]
  · have e0 : (o.1 == 0) = false := beq_eq_false_iff_ne.2 k0
    by_cases k1 : o.1 = 1
    · have e1 : (o.1 == 1) = true := beq_iff_eq.2 k1
      have c1 := m_Raise O o.2.1
      simp only [Mt.tv, mAns] at c1
      have hop : opM L m o = m.raise L o.2.1 := by unfold opM; rw [if_neg k0, if_pos k1]
      rw [e0, e1, ifB_true, ifB_false]
      rw [hop] at O' ⊢
      have hjn := LO.joinI_lt m.label o.2.1
      by_cases hf : m.fin = 0
      · have ef : (m.fin == 0) = true := beq_iff_eq.2 hf
        have hr : m.raise L o.2.1 = (!decide (m.W = true ∧ L.leqI (L.joinI m.label o.2.1) m.G = false), { m with label := L.joinI m.label o.2.1, fin := if m.W = true ∧ L.leqI (L.joinI m.label o.2.1) m.G = false then 2 else 0 }) := by
          unfold Mt.raise
          rw [if_pos hf]
          by_cases q : m.W = true ∧ L.leqI (L.joinI m.label o.2.1) m.G = false
          · rw [if_pos q, if_pos q, decide_eq_true q]; rfl
          · rw [if_neg q, if_neg q, decide_eq_false q]
            have : (0 : Int) = m.fin := hf.symm
            rw [this]; rfl
        rw [hr] at O' c1 ⊢
        simp only [] at O' c1
        have r3 := run3 T ops i o (K := K) O' N x17 hx hG m.B m.W _ hjn (left := m.B - m.spent) (told := m.told) rfl rfl rfl rfl rfl
        have top := top9_ok T LO
        simp only [c1, onR_some, onL_some, List.isEmpty_nil, allF_cons, allF_nil, Bool.and_true, Bool.true_and, when_true', List.getD_cons_zero, List.getD_cons_succ, isF_fz, toF_fz, isBool_bool, toBool_bool, isInt_int, toInt_int, isStr_str, toStr_str, isSl_sl, toSl_sl, List.length_cons, List.length_nil, List.all_cons, List.all_nil, lisFz_fz, ltoFz_fz, beq_self_eq_true, jump_true, ifB_true, ifB_false, isF_pv, isPv_pv, toV_pv, isNil_nilp, isNil_pt, isPt_pt, toAg_ag, cell_ag, isAg_ag, fits_ag, Int.toNat_natCast, Bool.not_true, Bool.not_false, fits_int, fits_bool, fits_str, fits_sl, hf]
        by_cases q1 : o.2.1 < 0
        · have hj : L.joinI m.label o.2.1 = L.top := by
            unfold Lt.joinI
            rw [if_neg (by rintro ⟨_, h⟩; have := Lt.is_iff.1 h; omega)]
          rw [hj] at r3
          rw [hj]
          simp only [decide_eq_true q1, ifB_true, J_law23_MeterRuns_2_1_eq, top, onR_some, onL_some, List.isEmpty_nil, allF_cons, allF_nil, Bool.and_true, Bool.true_and, when_true', List.getD_cons_zero, List.getD_cons_succ, isF_fz, toF_fz, isBool_bool, toBool_bool, isInt_int, toInt_int, isStr_str, toStr_str, isSl_sl, toSl_sl, List.length_cons, List.length_nil, List.all_cons, List.all_nil, lisFz_fz, ltoFz_fz, beq_self_eq_true, jump_true, ifB_true, ifB_false, isF_pv, isPv_pv, toV_pv, isNil_nilp, isNil_pt, isPt_pt, toAg_ag, cell_ag, isAg_ag, fits_ag, Int.toNat_natCast, Bool.not_true, Bool.not_false, fits_int, fits_bool, fits_str, fits_sl, r3]
        · rw [decide_eq_false q1, ifB_false]
          by_cases q2 : o.2.1 ≥ L.n
          · have hj : L.joinI m.label o.2.1 = L.top := by
              unfold Lt.joinI
              rw [if_neg (by rintro ⟨_, h⟩; have := Lt.is_iff.1 h; omega)]
            rw [hj] at r3
            rw [hj]
            simp only [T.len, decide_eq_true q2, ifB_true, J_law23_MeterRuns_2_1_eq, top, onR_some, onL_some, List.isEmpty_nil, allF_cons, allF_nil, Bool.and_true, Bool.true_and, when_true', List.getD_cons_zero, List.getD_cons_succ, isF_fz, toF_fz, isBool_bool, toBool_bool, isInt_int, toInt_int, isStr_str, toStr_str, isSl_sl, toSl_sl, List.length_cons, List.length_nil, List.all_cons, List.all_nil, lisFz_fz, ltoFz_fz, beq_self_eq_true, jump_true, ifB_true, ifB_false, isF_pv, isPv_pv, toV_pv, isNil_nilp, isNil_pt, isPt_pt, toAg_ag, cell_ag, isAg_ag, fits_ag, Int.toNat_natCast, Bool.not_true, Bool.not_false, fits_int, fits_bool, fits_str, fits_sl, r3]
          · obtain ⟨a, ha⟩ : ∃ a : Nat, o.2.1 = (a : Int) := ⟨o.2.1.toNat, by omega⟩
            have hal : a < L.n := by omega
            have hj : L.joinI m.label o.2.1 = L.join m.label a := by
              unfold Lt.joinI
              rw [if_pos ⟨Lt.is_iff.2 ⟨by omega, by have := O.lab; omega⟩, Lt.is_iff.2 ⟨by omega, by omega⟩⟩, ha]
              simp
            have jn := join9_ok T LO O.lab hal
            rw [← ha] at jn
            rw [hj] at r3
            rw [hj]
            simp only [T.len, decide_eq_false q2, ifB_false, J_law23_MeterRuns_2_1_eq, op_ag, op_1, jn, onR_some, onL_some, List.isEmpty_nil, allF_cons, allF_nil, Bool.and_true, Bool.true_and, when_true', List.getD_cons_zero, List.getD_cons_succ, isF_fz, toF_fz, isBool_bool, toBool_bool, isInt_int, toInt_int, isStr_str, toStr_str, isSl_sl, toSl_sl, List.length_cons, List.length_nil, List.all_cons, List.all_nil, lisFz_fz, ltoFz_fz, beq_self_eq_true, jump_true, ifB_true, ifB_false, isF_pv, isPv_pv, toV_pv, isNil_nilp, isNil_pt, isPt_pt, toAg_ag, cell_ag, isAg_ag, fits_ag, Int.toNat_natCast, Bool.not_true, Bool.not_false, fits_int, fits_bool, fits_str, fits_sl, r3]
      · have ef : (m.fin == 0) = false := beq_eq_false_iff_ne.2 hf
        have hr : m.raise L o.2.1 = (false, m) := by unfold Mt.raise; rw [if_neg hf]
        rw [hr] at O' c1 ⊢
        simp only [] at O' c1
        have r6 := run6 (t := t) ops i o (K := K) O N x17 hx false m.B m.G m.W (lab := m.label) (left := m.B - m.spent) (told := m.told) (fin := m.fin) rfl rfl rfl rfl
        simp only [c1, onR_some, onL_some, List.isEmpty_nil, allF_cons, allF_nil, Bool.and_true, Bool.true_and, when_true', List.getD_cons_zero, List.getD_cons_succ, isF_fz, toF_fz, isBool_bool, toBool_bool, isInt_int, toInt_int, isStr_str, toStr_str, isSl_sl, toSl_sl, List.length_cons, List.length_nil, List.all_cons, List.all_nil, lisFz_fz, ltoFz_fz, beq_self_eq_true, jump_true, ifB_true, ifB_false, isF_pv, isPv_pv, toV_pv, isNil_nilp, isNil_pt, isPt_pt, toAg_ag, cell_ag, isAg_ag, fits_ag, Int.toNat_natCast, Bool.not_true, Bool.not_false, fits_int, fits_bool, fits_str, fits_sl, ef, ifB_false, r6]
    · have e1 : (o.1 == 1) = false := beq_eq_false_iff_ne.2 k1
      have c1 := m_Tell O
      simp only [Mt.tv, mAns] at c1
      have hop : opM L m o = m.tell := by unfold opM; rw [if_neg k0, if_neg k1]
      rw [e0, e1, ifB_false, ifB_false]
      rw [hop] at O' ⊢
      generalize hr : m.tell = r at *
      obtain ⟨b, M⟩ := r
      simp only [] at O' c1 ⊢
      simp only [c1, onR_some, onL_some, List.isEmpty_nil, allF_cons, allF_nil, Bool.and_true, Bool.true_and, when_true', List.getD_cons_zero, List.getD_cons_succ, isF_fz, toF_fz, isBool_bool, toBool_bool, isInt_int, toInt_int, isStr_str, toStr_str, isSl_sl, toSl_sl, List.length_cons, List.length_nil, List.all_cons, List.all_nil, lisFz_fz, ltoFz_fz, beq_self_eq_true, jump_true, ifB_true, ifB_false, isF_pv, isPv_pv, toV_pv, isNil_nilp, isNil_pt, isPt_pt, toAg_ag, cell_ag, isAg_ag, fits_ag, Int.toNat_natCast, Bool.not_true, Bool.not_false, fits_int, fits_bool, fits_str, fits_sl]
      unfold Mt.tell at hr
      by_cases hf : m.fin = 0
      · have ef : (m.fin == 0) = true := beq_iff_eq.2 hf
        rw [if_pos hf] at hr
        rw [ef, ifB_true]
        by_cases q1 : m.told ≥ 512
        · rw [if_pos q1] at hr
          cases hr
          have r6 := run6 (t := t) ops i o (K := K) O' N x17 hx false m.B m.G m.W (lab := m.label) (left := m.B - m.spent) (told := m.told) (fin := 3) rfl rfl rfl rfl
          have e5 : (m.told == 512) = true := beq_iff_eq.2 (by omega)
          simp only [e5, ifB_true, J_law23_MeterRuns_5_1_eq, jump_true, r6]
          rfl
        · rw [if_neg q1] at hr
          cases hr
          have e5 : (m.told == 512) = false := beq_eq_false_iff_ne.2 (by omega)
          have hw : IntKind.wrap .i64 (m.told + 1) = m.told + 1 := wrap64 (by omega) (by omega)
          have r6 := run6 (t := t) ops i o (K := K) O' N x17 hx true m.B m.G m.W (lab := m.label) (left := m.B - m.spent) (told := m.told + 1) (fin := m.fin) rfl rfl rfl rfl
          simp only [e5, ifB_true, ifB_false, J_law23_MeterRuns_5_1_eq, jump_true, hw, r6]
      · have ef : (m.fin == 0) = false := beq_eq_false_iff_ne.2 hf
        rw [if_neg hf] at hr
        cases hr
        have r6 := run6 (t := t) ops i o (K := K) O N x17 hx false m.B m.G m.W (lab := m.label) (left := m.B - m.spent) (told := m.told) (fin := m.fin) rfl rfl rfl rfl
        simp only [ef, ifB_false, J_law23_MeterRuns_5_1_eq, jump_true, r6]

theorem run1 : ∀ (k x17 N : Nat) (m : Mt), m.Ok L → L.is m.G = true → 601 ≤ x17 + k → x17 ≤ 600 → k < N →
    ∃ m' : Mt, m'.Ok L ∧ m'.B = m.B ∧ m'.G = m.G ∧ m'.W = m.W ∧ L_law23_MeterRuns_1_1 Rt K true N (opsE ops) (.sl t) m.label (m.B - m.spent) m.told m.fin i x17 m.B m.G m.W m.enc (opE o) = some (.exit 2, X_law23_MeterRuns_1_1 (opsE ops) (.sl t) m'.label (m'.B - m'.spent) m'.told m'.fin i m'.B m'.G m'.W m'.enc)
  | k, x17, 0, _, _, _, _, _, h => by omega
  | 0, x17, N + 1, _, _, _, h, h2, _ => by omega
  | k + 1, x17, N + 1, m, O, hG, h, h2, hN => by
    have O' := opM_ok O o
    have F := opF O o
    obtain ⟨M9, hM9, r9⟩ := run9 T ops i o (K := K) O hG N x17 (by omega)
    have hM9' : (opM L m o).2 = M9 := by rw [hM9]
    rw [← hM9'] at r9
    clear hM9
    have stop : L_law23_MeterRuns_1_1 Rt K true (N + 1) (opsE ops) (.sl t) m.label (m.B - m.spent) m.told m.fin i x17 m.B m.G m.W m.enc (opE o) = some (.exit 2, X_law23_MeterRuns_1_1 (opsE ops) (.sl t) m.label (m.B - m.spent) m.told m.fin i m.B m.G m.W m.enc) →
        ∃ m' : Mt, m'.Ok L ∧ m'.B = m.B ∧ m'.G = m.G ∧ m'.W = m.W ∧ L_law23_MeterRuns_1_1 Rt K true (N + 1) (opsE ops) (.sl t) m.label (m.B - m.spent) m.told m.fin i x17 m.B m.G m.W m.enc (opE o) = some (.exit 2, X_law23_MeterRuns_1_1 (opsE ops) (.sl t) m'.label (m'.B - m'.spent) m'.told m'.fin i m'.B m'.G m'.W m'.enc) := fun h => ⟨m, O, rfl, rfl, rfl, h⟩
    have next : x17 < 600 → L_law23_MeterRuns_1_1 Rt K true (N + 1) (opsE ops) (.sl t) m.label (m.B - m.spent) m.told m.fin i x17 m.B m.G m.W m.enc (opE o) = J_law23_MeterRuns_9_1 Rt K true N (opsE ops) (.sl t) m.label (m.B - m.spent) m.told m.fin i x17 m.B m.G m.W m.enc (opE o) →
        ∃ m' : Mt, m'.Ok L ∧ m'.B = m.B ∧ m'.G = m.G ∧ m'.W = m.W ∧ L_law23_MeterRuns_1_1 Rt K true (N + 1) (opsE ops) (.sl t) m.label (m.B - m.spent) m.told m.fin i x17 m.B m.G m.W m.enc (opE o) = some (.exit 2, X_law23_MeterRuns_1_1 (opsE ops) (.sl t) m'.label (m'.B - m'.spent) m'.told m'.fin i m'.B m'.G m'.W m'.enc) := fun hx h => by
      obtain ⟨m', q1, q2, q3, q4, q5⟩ := run1 k (x17 + 1) N (opM L m o).2 O' (by rw [F.G]; exact hG) (by omega) (by omega) (by omega)
      refine ⟨m', q1, q2.trans F.B, q3.trans F.G, q4.trans F.W, ?_⟩
      rw [h, r9]
      have q5' := q5
      rw [F.G, F.W] at q5'
      have hB2 : (opM L m o).2.B = m.B := F.B
      rw [hB2] at q5' ⊢
      exact q5'
    by_cases x0 : x17 = 0
    · subst x0
      exact next (by omega) (by rw [L_law23_MeterRuns_1_1_eq]; simp only [show (((0 : Nat) : Int) == 0) = true from rfl, ifB_true, jump_true])
    · have e0 : ((x17 : Int) == 0) = false := beq_eq_false_iff_ne.2 (by omega)
      by_cases q1 : (x17 : Int) < o.2.2
      · by_cases q2 : (x17 : Int) < 600
        · exact next (by omega) (by rw [L_law23_MeterRuns_1_1_eq]; simp only [e0, op_ag, op_2, onR_some, onL_some, List.isEmpty_nil, allF_cons, allF_nil, Bool.and_true, Bool.true_and, when_true', List.getD_cons_zero, List.getD_cons_succ, isF_fz, toF_fz, isBool_bool, toBool_bool, isInt_int, toInt_int, isStr_str, toStr_str, isSl_sl, toSl_sl, List.length_cons, List.length_nil, List.all_cons, List.all_nil, lisFz_fz, ltoFz_fz, beq_self_eq_true, jump_true, ifB_true, ifB_false, isF_pv, isPv_pv, toV_pv, isNil_nilp, isNil_pt, isPt_pt, toAg_ag, cell_ag, isAg_ag, fits_ag, Int.toNat_natCast, Bool.not_true, Bool.not_false, fits_int, fits_bool, fits_str, fits_sl, decide_eq_true q1, decide_eq_true q2])
        · exact stop (by rw [L_law23_MeterRuns_1_1_eq]; simp only [e0, op_ag, op_2, onR_some, onL_some, List.isEmpty_nil, allF_cons, allF_nil, Bool.and_true, Bool.true_and, when_true', List.getD_cons_zero, List.getD_cons_succ, isF_fz, toF_fz, isBool_bool, toBool_bool, isInt_int, toInt_int, isStr_str, toStr_str, isSl_sl, toSl_sl, List.length_cons, List.length_nil, List.all_cons, List.all_nil, lisFz_fz, ltoFz_fz, beq_self_eq_true, jump_true, ifB_true, ifB_false, isF_pv, isPv_pv, toV_pv, isNil_nilp, isNil_pt, isPt_pt, toAg_ag, cell_ag, isAg_ag, fits_ag, Int.toNat_natCast, Bool.not_true, Bool.not_false, fits_int, fits_bool, fits_str, fits_sl, decide_eq_true q1, decide_eq_false q2])
      · exact stop (by rw [L_law23_MeterRuns_1_1_eq]; simp only [e0, op_ag, op_2, onR_some, onL_some, List.isEmpty_nil, allF_cons, allF_nil, Bool.and_true, Bool.true_and, when_true', List.getD_cons_zero, List.getD_cons_succ, isF_fz, toF_fz, isBool_bool, toBool_bool, isInt_int, toInt_int, isStr_str, toStr_str, isSl_sl, toSl_sl, List.length_cons, List.length_nil, List.all_cons, List.all_nil, lisFz_fz, ltoFz_fz, beq_self_eq_true, jump_true, ifB_true, ifB_false, isF_pv, isPv_pv, toV_pv, isNil_nilp, isNil_pt, isPt_pt, toAg_ag, cell_ag, isAg_ag, fits_ag, Int.toNat_natCast, Bool.not_true, Bool.not_false, fits_int, fits_bool, fits_str, fits_sl, decide_eq_false q1])
end

theorem run2 {t : List FV} {L : Lt} (T : IsTab t L) (ops : List Op3) (h40 : ops.length ≤ 40) {K : Nat} (hK : 700 ≤ K) : ∀ (k i N : Nat) (m : Mt), m.Ok L → L.is m.G = true → i + k = ops.length → k < N →
    onL (L_law23_MeterRuns_2_1 Rt K true N (opsE ops) (.sl t) m.label (m.B - m.spent) m.told m.fin i m.B m.G m.W m.enc) (K_law23_MeterRuns_2 Rt K true) = some ([.fz (.bool true)], [])
  | k, i, 0, m, _, _, _, h => by omega
  | 0, i, N + 1, m, O, hG, h, _ => by
    have hl := lives23_ok
    rw [L_law23_MeterRuns_2_1_eq]
    have hlt : decide ((i : Int) < ((opsE ops).length : Int)) = false := by simp; omega
    simp only [hlt, onR_some, onL_some, List.isEmpty_nil, allF_cons, allF_nil, Bool.and_true, Bool.true_and, when_true', List.getD_cons_zero, List.getD_cons_succ, isF_fz, toF_fz, isBool_bool, toBool_bool, isInt_int, toInt_int, isStr_str, toStr_str, isSl_sl, toSl_sl, List.length_cons, List.length_nil, List.all_cons, List.all_nil, lisFz_fz, ltoFz_fz, beq_self_eq_true, jump_true, ifB_true, ifB_false, isF_pv, isPv_pv, toV_pv, isNil_nilp, isNil_pt, isPt_pt, toAg_ag, cell_ag, isAg_ag, fits_ag, Int.toNat_natCast, Bool.not_true, Bool.not_false, fits_int, fits_bool, fits_str, fits_sl, X_law23_MeterRuns_2_0_eq, hl]
  | k + 1, i, N + 1, m, O, hG, h, hN => by
    have hi : i < ops.length := by omega
    obtain ⟨m', q1, q2, q3, q4, q5⟩ := run1 T ops i (ops.getD i (0, 0, 0)) (K := K) 601 0 K m O hG (by omega) (by omega) (by omega)
    have ih := run2 T ops h40 hK k (i + 1) N m' q1 (by rw [q3]; exact hG) (by omega) (by omega)
    simp only [Int.natCast_zero] at q5
    have hlt : decide ((i : Int) < (ops.length : Int)) = true := by simp; omega
    rw [L_law23_MeterRuns_2_1_eq]
    simp only [opsE_len, dlt hi, opsE_get hi, op_fits, when_true', Int.toNat_natCast, q5, onL_some, X_law23_MeterRuns_1_1_eq, wrn (show i < 1152921504606846976 by omega)]
    rw [hlt, ifB_true]
    exact ih
theorem pure_MeterRuns (f0 f1 f2 : FV) (h0 : WV Try.prog 40 140737488351232 3 f0) (h1 : WV Try.prog 40 140737488351232 32 f1) (h2 : WV Try.prog 40 140737488351232 38 f2) : Rt N_law23_MeterRuns [.fz f0, .fz f1, .fz f2] = some ([.fz (.bool true)], []) := by
  obtain ⟨k, rfl, _⟩ := int_of (k := .i64) (by kernel_rfl) (by kernel_rfl) h0
  obtain ⟨B, G, W, rfl, _, _⟩ := ask_of (by kernel_rfl) (by kernel_rfl) h1
  obtain ⟨ops, rfl, _⟩ := ops_of (e := 40) (by kernel_rfl) (by kernel_rfl) (by kernel_rfl) (by kernel_rfl) h2
  obtain ⟨e, t, L, hof, I, T⟩ := of_ok k
  have hn := m_New I B G W
  have hl := lives23_ok
  refine rt_call A_law23_MeterRuns rfl rfl 700 ((E_law23_MeterRuns Rt 700 true _ _ _ _ _).trans ?_)
  simp only [askE] at hn
  rw [hof]
  by_cases hk : newK L B G = 0
  · rw [hk] at hn
    obtain ⟨O, hG⟩ := newM_ok I W hk
    by_cases h4 : (ops.length : Int) > 40
    · have hd : decide (((opsE ops).length : Int) > 40) = true := by simp; omega
      simp only [hn, onR_some, onL_some, List.isEmpty_nil, allF_cons, allF_nil, Bool.and_true, Bool.true_and, when_true', List.getD_cons_zero, List.getD_cons_succ, isF_fz, toF_fz, isBool_bool, toBool_bool, isInt_int, toInt_int, isStr_str, toStr_str, isSl_sl, toSl_sl, List.length_cons, List.length_nil, List.all_cons, List.all_nil, lisFz_fz, ltoFz_fz, beq_self_eq_true, jump_true, ifB_true, ifB_false, isF_pv, isPv_pv, toV_pv, isNil_nilp, isNil_pt, isPt_pt, toAg_ag, cell_ag, isAg_ag, fits_ag, Int.toNat_natCast, Bool.not_true, Bool.not_false, fits_int, fits_bool, fits_str, fits_sl, Mt.tv, bne_self_eq_false, hd, hl]
    · have hd : decide (((opsE ops).length : Int) > 40) = false := by simp; omega
      have r3 := run2 T ops (by omega) (K := 700) (by omega) ops.length 0 700 (newM e L B G W) O hG (by omega) (by omega)
      simp only [Int.natCast_zero] at r3
      have hB : (newM e L B G W).B - (newM e L B G W).spent = B := by simp [newM]
      rw [hB] at r3
      have r3' : onL (L_law23_MeterRuns_2_1 Rt 700 true 700 (opsE ops) (.sl t) (L.bot : Int) B 0 0 0 B G W (newM e L B G W).enc) (K_law23_MeterRuns_2 Rt 700 true) = some ([.fz (.bool true)], []) := r3
      have hb9 := bottom9_ok T I.ok
      simp only [hn, onR_some, onL_some, List.isEmpty_nil, allF_cons, allF_nil, Bool.and_true, Bool.true_and, when_true', List.getD_cons_zero, List.getD_cons_succ, isF_fz, toF_fz, isBool_bool, toBool_bool, isInt_int, toInt_int, isStr_str, toStr_str, isSl_sl, toSl_sl, List.length_cons, List.length_nil, List.all_cons, List.all_nil, lisFz_fz, ltoFz_fz, beq_self_eq_true, jump_true, ifB_true, ifB_false, isF_pv, isPv_pv, toV_pv, isNil_nilp, isNil_pt, isPt_pt, toAg_ag, cell_ag, isAg_ag, fits_ag, Int.toNat_natCast, Bool.not_true, Bool.not_false, fits_int, fits_bool, fits_str, fits_sl, Mt.tv, bne_self_eq_false, hd, J_law23_MeterRuns_12_1_eq, hb9, r3']
  · have hm : (match newK L B G with | 0 => (([(newM e L B G W).tv, .fz (.int .i64 0)], []) : Ans) | c => ([.fz .nilp, .fz (.int .i64 c)], [])) = ([.fz .nilp, .fz (.int .i64 (newK L B G))], []) := by
      split
      · contradiction
      · rfl
    have hn2 : Rt N_meter_New [.fz (.pt 195 true e 0), .fz (.ag [.int .i64 B, .int .i64 G, .bool W])] = some ([.fz .nilp, .fz (.int .i64 (newK L B G))], []) := hn.trans (congrArg some hm)
    have e0 : (newK L B G != 0) = true := by simpa using hk
    simp only [hn2, onR_some, onL_some, List.isEmpty_nil, allF_cons, allF_nil, Bool.and_true, Bool.true_and, when_true', List.getD_cons_zero, List.getD_cons_succ, isF_fz, toF_fz, isBool_bool, toBool_bool, isInt_int, toInt_int, isStr_str, toStr_str, isSl_sl, toSl_sl, List.length_cons, List.length_nil, List.all_cons, List.all_nil, lisFz_fz, ltoFz_fz, beq_self_eq_true, jump_true, ifB_true, ifB_false, isF_pv, isPv_pv, toV_pv, isNil_nilp, isNil_pt, isPt_pt, toAg_ag, cell_ag, isAg_ag, fits_ag, Int.toNat_natCast, Bool.not_true, Bool.not_false, fits_int, fits_bool, fits_str, fits_sl, e0, hl]
end Go.Ab
