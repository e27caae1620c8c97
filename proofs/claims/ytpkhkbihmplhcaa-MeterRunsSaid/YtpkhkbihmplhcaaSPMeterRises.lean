/- MeterRises: the plain law. -/
import Derived.Test.YtpkhkbihmplhcaaSPMeterNew
namespace Go.Ab
open Go.Proofs
set_option linter.unusedVariables false
set_option linter.unusedSimpArgs false

abbrev Op3 := Int × Int × Int
def opE (o : Op3) : FV := .ag [.int .i64 o.1, .int .i64 o.2.1, .int .i64 o.2.2]
def opsE (l : List Op3) : List FV := l.map opE
@[simp] theorem opsE_len (l : List Op3) : (opsE l).length = l.length := by simp [opsE]
theorem opsE_get {l : List Op3} {i : Nat} (h : i < l.length) : (opsE l).getD i .nilp = opE (l.getD i (0, 0, 0)) := by simp [opsE, h]
theorem op_fits (o : Op3) : FV.fits 3 true (opE o) = true := rfl
theorem op_ag (o : Op3) : FV.isAg 3 (opE o) = true := rfl
theorem op_0 (o : Op3) : FV.cell (opE o) 0 = .int .i64 o.1 := rfl
theorem op_1 (o : Op3) : FV.cell (opE o) 1 = .int .i64 o.2.1 := rfl
theorem op_2 (o : Op3) : FV.cell (opE o) 2 = .int .i64 o.2.2 := rfl
def opM (L : Lt) (m : Mt) (o : Op3) : Bool × Mt := if o.1 = 0 then m.spend o.2.1 else if o.1 = 1 then m.raise L o.2.1 else m.tell
theorem opM_ok {m : Mt} {L : Lt} (O : m.Ok L) (o : Op3) : (opM L m o).2.Ok L := by
  unfold opM
  split
  · exact spend_ok O _
  · split
    · exact raise_ok O _
    · exact tell_ok O
structure OpF (L : Lt) (m : Mt) (o : Op3) (m' : Mt) : Prop where
  B : m'.B = m.B
  G : m'.G = m.G
  W : m'.W = m.W
  e : m'.e = m.e
  lab : L.leq m.label m'.label = true
  sp : m.spent ≤ m'.spent
  fin : m.fin ≠ 0 → m' = m
  inv : m.W = false → m.fin ≠ 2 → m'.fin ≠ 2
  ris : o.1 = 1 → m.W = true → m'.fin = 0 → L.leqI m'.label m.G = true
theorem opF {m : Mt} {L : Lt} (O : m.Ok L) (o : Op3) : OpF L m o (opM L m o).2 := by
  have hr := O.lat.ok.refl m.label O.lab
  have hj : L.leq m.label (L.joinI m.label o.2.1) = true := by
    unfold Lt.joinI
    split
    · rename_i h
      have h2 := Lt.is_iff.1 h.2
      have := O.lat.ok.joinl m.label o.2.1.toNat O.lab (by omega)
      simpa using this
    · exact O.lat.ok.letop _ O.lab
  have h0 := O.s0
  unfold opM
  split
  · rename_i h
    unfold Mt.spend Mt.stop
    split
    · rename_i h1
      split
      · exact ⟨rfl, rfl, rfl, rfl, hr, Int.le_refl _, fun x => absurd h1 x, fun _ _ => by show (1 : Int) ≠ 2; decide, fun x => by rw [h] at x; cases x⟩
      · rename_i h2
        have q : ¬ o.2.1 < 0 := fun q => h2 (.inl q)
        exact ⟨rfl, rfl, rfl, rfl, hr, by show m.spent ≤ m.spent + o.2.1; omega, fun x => absurd h1 x, fun _ x => x, fun x => by rw [h] at x; cases x⟩
    · rename_i h1
      exact ⟨rfl, rfl, rfl, rfl, hr, Int.le_refl _, fun _ => rfl, fun _ x => x, fun x => by rw [h] at x; cases x⟩
  · split
    · unfold Mt.raise
      split
      · rename_i h1
        split
        · rename_i h2
          exact ⟨rfl, rfl, rfl, rfl, hj, Int.le_refl _, fun x => absurd h1 x, fun x _ => (by rw [h2.1] at x; cases x), fun _ _ x => (by have x' : (2 : Int) = 0 := x; omega)⟩
        · rename_i h2
          refine ⟨rfl, rfl, rfl, rfl, hj, Int.le_refl _, fun x => absurd h1 x, fun _ x => x, fun _ x _ => ?_⟩
          cases q : L.leqI (L.joinI m.label o.2.1) m.G with
          | true => rfl
          | false => exact absurd ⟨x, q⟩ h2
      · rename_i h1
        exact ⟨rfl, rfl, rfl, rfl, hr, Int.le_refl _, fun _ => rfl, fun _ x => x, fun _ _ x => absurd x h1⟩
    · rename_i h
      unfold Mt.tell Mt.stop
      split
      · rename_i h1
        split
        · exact ⟨rfl, rfl, rfl, rfl, hr, Int.le_refl _, fun x => absurd h1 x, fun _ _ => by show (3 : Int) ≠ 2; decide, fun x => absurd x h⟩
        · exact ⟨rfl, rfl, rfl, rfl, hr, Int.le_refl _, fun x => absurd h1 x, fun _ x => x, fun x => absurd x h⟩
      · exact ⟨rfl, rfl, rfl, rfl, hr, Int.le_refl _, fun _ => rfl, fun _ x => x, fun x => absurd x h⟩

theorem ris1 {e : FV} {L : Lt} (I : IsLat e L) {m : Mt} (O : m.Ok L) (ops : List Op3) (h40 : ops.length ≤ 40) (B G : Int) (W : Bool) (i N K : Nat) (hi : i < ops.length) (hW : W = false → m.fin ≠ 2) (hk : (ops.getD i (0, 0, 0)).1 = 1 → W = true → m.fin = 0 → L.leqI m.label G = true) :
    J_law23_MeterRises_1_1 Rt K true N (opsE ops) (.pt 195 true e 0) i B G W m.enc = L_law23_MeterRises_1_1 Rt K true N (opsE ops) (.pt 195 true e 0) ((i + 1 : Nat) : Int) B G W m.enc := by
  have w := wrn (show i < 1152921504606846976 by omega)
  have s1 := m_End m
  have s2 := m_Label m
  have s3 := lat_Leq I m.label G
  simp only [Mt.tv, mAns] at s1 s2
  rw [J_law23_MeterRises_1_1_eq]
  cases W with
  | false =>
    have hf : (m.fin == 2) = false := by simpa using hW rfl
    simp only [onR_some, onL_some, List.isEmpty_nil, allF_cons, allF_nil, Bool.and_true, Bool.true_and, when_true', List.getD_cons_zero, List.getD_cons_succ, isF_fz, toF_fz, isBool_bool, toBool_bool, isInt_int, toInt_int, isStr_str, toStr_str, isSl_sl, toSl_sl, List.length_cons, List.length_nil, List.all_cons, List.all_nil, lisFz_fz, ltoFz_fz, beq_self_eq_true, jump_true, ifB_true, ifB_false, isF_pv, isPv_pv, toV_pv, isNil_nilp, isNil_pt, isPt_pt, toAg_ag, cell_ag, isAg_ag, fits_ag, Int.toNat_natCast, Bool.not_true, Bool.not_false, fits_int, fits_bool, fits_str, fits_sl, s1, hf, w]
  | true =>
    simp only [onR_some, onL_some, List.isEmpty_nil, allF_cons, allF_nil, Bool.and_true, Bool.true_and, when_true', List.getD_cons_zero, List.getD_cons_succ, isF_fz, toF_fz, isBool_bool, toBool_bool, isInt_int, toInt_int, isStr_str, toStr_str, isSl_sl, toSl_sl, List.length_cons, List.length_nil, List.all_cons, List.all_nil, lisFz_fz, ltoFz_fz, beq_self_eq_true, jump_true, ifB_true, ifB_false, isF_pv, isPv_pv, toV_pv, isNil_nilp, isNil_pt, isPt_pt, toAg_ag, cell_ag, isAg_ag, fits_ag, Int.toNat_natCast, Bool.not_true, Bool.not_false, fits_int, fits_bool, fits_str, fits_sl, s1]
    by_cases h0 : m.fin = 0
    · have e0 : (m.fin == 0) = true := by simp [h0]
      simp only [e0, onR_some, onL_some, List.isEmpty_nil, allF_cons, allF_nil, Bool.and_true, Bool.true_and, when_true', List.getD_cons_zero, List.getD_cons_succ, isF_fz, toF_fz, isBool_bool, toBool_bool, isInt_int, toInt_int, isStr_str, toStr_str, isSl_sl, toSl_sl, List.length_cons, List.length_nil, List.all_cons, List.all_nil, lisFz_fz, ltoFz_fz, beq_self_eq_true, jump_true, ifB_true, ifB_false, isF_pv, isPv_pv, toV_pv, isNil_nilp, isNil_pt, isPt_pt, toAg_ag, cell_ag, isAg_ag, fits_ag, Int.toNat_natCast, Bool.not_true, Bool.not_false, fits_int, fits_bool, fits_str, fits_sl, s2, s3]
      cases hq : L.leqI m.label G with
      | true => simp only [onR_some, onL_some, List.isEmpty_nil, allF_cons, allF_nil, Bool.and_true, Bool.true_and, when_true', List.getD_cons_zero, List.getD_cons_succ, isF_fz, toF_fz, isBool_bool, toBool_bool, isInt_int, toInt_int, isStr_str, toStr_str, isSl_sl, toSl_sl, List.length_cons, List.length_nil, List.all_cons, List.all_nil, lisFz_fz, ltoFz_fz, beq_self_eq_true, jump_true, ifB_true, ifB_false, isF_pv, isPv_pv, toV_pv, isNil_nilp, isNil_pt, isPt_pt, toAg_ag, cell_ag, isAg_ag, fits_ag, Int.toNat_natCast, Bool.not_true, Bool.not_false, fits_int, fits_bool, fits_str, fits_sl, w]
      | false =>
        simp only [onR_some, onL_some, List.isEmpty_nil, allF_cons, allF_nil, Bool.and_true, Bool.true_and, when_true', List.getD_cons_zero, List.getD_cons_succ, isF_fz, toF_fz, isBool_bool, toBool_bool, isInt_int, toInt_int, isStr_str, toStr_str, isSl_sl, toSl_sl, List.length_cons, List.length_nil, List.all_cons, List.all_nil, lisFz_fz, ltoFz_fz, beq_self_eq_true, jump_true, ifB_true, ifB_false, isF_pv, isPv_pv, toV_pv, isNil_nilp, isNil_pt, isPt_pt, toAg_ag, cell_ag, isAg_ag, fits_ag, Int.toNat_natCast, Bool.not_true, Bool.not_false, fits_int, fits_bool, fits_str, fits_sl, opsE_len, dlt hi, opsE_get hi, op_fits, op_ag, op_0, w]
        by_cases hp : (i : Int) > 0
        · rw [decide_eq_true hp, ifB_true]
          have e1 : ((ops.getD i (0, 0, 0)).1 == 1) = false := by
            cases h1 : ((ops.getD i (0, 0, 0)).1 == 1) with
            | false => rfl
            | true =>
              have := hk (beq_iff_eq.1 h1) rfl h0
              rw [hq] at this; cases this
          rw [e1, ifB_false]
        · rw [decide_eq_false hp, ifB_false]
    · have e0 : (m.fin == 0) = false := by simpa using h0
      simp only [e0, onR_some, onL_some, List.isEmpty_nil, allF_cons, allF_nil, Bool.and_true, Bool.true_and, when_true', List.getD_cons_zero, List.getD_cons_succ, isF_fz, toF_fz, isBool_bool, toBool_bool, isInt_int, toInt_int, isStr_str, toStr_str, isSl_sl, toSl_sl, List.length_cons, List.length_nil, List.all_cons, List.all_nil, lisFz_fz, ltoFz_fz, beq_self_eq_true, jump_true, ifB_true, ifB_false, isF_pv, isPv_pv, toV_pv, isNil_nilp, isNil_pt, isPt_pt, toAg_ag, cell_ag, isAg_ag, fits_ag, Int.toNat_natCast, Bool.not_true, Bool.not_false, fits_int, fits_bool, fits_str, fits_sl, w]

theorem ris2 {e : FV} {L : Lt} (I : IsLat e L) {m m' : Mt} (O : m.Ok L) (O' : m'.Ok L) (ops : List Op3) (h40 : ops.length ≤ 40) (i N K : Nat) (hi : i < ops.length) (F : OpF L m (ops.getD i (0, 0, 0)) m') (hW : m.W = false → m.fin ≠ 2) :
    J_law23_MeterRises_2_1 Rt K true N (opsE ops) (.pt 195 true e 0) i m.label (m.B - m.spent) m.fin m.B m.G m.W m'.enc = L_law23_MeterRises_1_1 Rt K true N (opsE ops) (.pt 195 true e 0) ((i + 1 : Nat) : Int) m.B m.G m.W m'.enc := by
  have s1 := m_End m'
  have s2 := m_Label m'
  have s3 := m_Left O'
  have s4 := lat_Leq I m.label m'.label
  have hlq : L.leqI m.label m'.label = true := by
    unfold Lt.leqI
    rw [Lt.is_iff.2 ⟨by omega, by have := O.lab; omega⟩, Lt.is_iff.2 ⟨by omega, by have := O'.lab; omega⟩]
    simpa using F.lab
  have r1 := ris1 I O' ops h40 m.B m.G m.W i N K hi (fun h => F.inv h (hW h)) (fun h1 h2 h3 => F.ris h1 h2 h3)
  simp only [Mt.tv, mAns] at s1 s2 s3
  have d1 : decide (m'.B - m'.spent > m.B - m.spent) = false := by
    have := F.B; have := F.sp; simp; omega
  have d2 : decide (m'.B - m'.spent < 0) = false := by
    have := O'.s1; simp; omega
  rw [J_law23_MeterRises_2_1_eq]
  by_cases h0 : m.fin = 0
  · have e0 : (m.fin != 0) = false := by simp [h0]
    simp only [s1, s2, s3, s4, hlq, onR_some, onL_some, List.isEmpty_nil, allF_cons, allF_nil, Bool.and_true, Bool.true_and, when_true', List.getD_cons_zero, List.getD_cons_succ, isF_fz, toF_fz, isBool_bool, toBool_bool, isInt_int, toInt_int, isStr_str, toStr_str, isSl_sl, toSl_sl, List.length_cons, List.length_nil, List.all_cons, List.all_nil, lisFz_fz, ltoFz_fz, beq_self_eq_true, jump_true, ifB_true, ifB_false, isF_pv, isPv_pv, toV_pv, isNil_nilp, isNil_pt, isPt_pt, toAg_ag, cell_ag, isAg_ag, fits_ag, Int.toNat_natCast, Bool.not_true, Bool.not_false, fits_int, fits_bool, fits_str, fits_sl, d1, d2, e0, r1]
  · have e0 : (m.fin != 0) = true := by simpa using h0
    have hm := F.fin h0
    subst hm
    simp only [s1, s2, s3, s4, hlq, onR_some, onL_some, List.isEmpty_nil, allF_cons, allF_nil, Bool.and_true, Bool.true_and, when_true', List.getD_cons_zero, List.getD_cons_succ, isF_fz, toF_fz, isBool_bool, toBool_bool, isInt_int, toInt_int, isStr_str, toStr_str, isSl_sl, toSl_sl, List.length_cons, List.length_nil, List.all_cons, List.all_nil, lisFz_fz, ltoFz_fz, beq_self_eq_true, jump_true, ifB_true, ifB_false, isF_pv, isPv_pv, toV_pv, isNil_nilp, isNil_pt, isPt_pt, toAg_ag, cell_ag, isAg_ag, fits_ag, Int.toNat_natCast, Bool.not_true, Bool.not_false, fits_int, fits_bool, fits_str, fits_sl, d1, d2, e0, bne_self_eq_false, r1]

theorem ris3 {e : FV} {L : Lt} (I : IsLat e L) (ops : List Op3) (h40 : ops.length ≤ 40) {K : Nat} : ∀ (k i N : Nat) (m : Mt), m.Ok L → (m.W = false → m.fin ≠ 2) → i + k = ops.length → k < N →
    onL (L_law23_MeterRises_1_1 Rt K true N (opsE ops) (.pt 195 true e 0) i m.B m.G m.W m.enc) (K_law23_MeterRises_1 Rt K true) = some ([.fz (.bool true)], [])
  | k, i, 0, m, _, _, _, h => by omega
  | 0, i, N + 1, m, O, hW, h, _ => by
    have hl := lives23_ok
    rw [L_law23_MeterRises_1_1_eq]
    have hlt : decide ((i : Int) < ((opsE ops).length : Int)) = false := by simp; omega
    simp only [hlt, onR_some, onL_some, List.isEmpty_nil, allF_cons, allF_nil, Bool.and_true, Bool.true_and, when_true', List.getD_cons_zero, List.getD_cons_succ, isF_fz, toF_fz, isBool_bool, toBool_bool, isInt_int, toInt_int, isStr_str, toStr_str, isSl_sl, toSl_sl, List.length_cons, List.length_nil, List.all_cons, List.all_nil, lisFz_fz, ltoFz_fz, beq_self_eq_true, jump_true, ifB_true, ifB_false, isF_pv, isPv_pv, toV_pv, isNil_nilp, isNil_pt, isPt_pt, toAg_ag, cell_ag, isAg_ag, fits_ag, Int.toNat_natCast, Bool.not_true, Bool.not_false, fits_int, fits_bool, fits_str, fits_sl, X_law23_MeterRises_1_0_eq, hl]
  | k + 1, i, N + 1, m, O, hW, h, hN => by
    have hi : i < ops.length := by omega
    have F := opF O (ops.getD i (0, 0, 0))
    have O' := opM_ok O (ops.getD i (0, 0, 0))
    have r2 := ris2 I O O' ops h40 i N K hi F hW
    have ih := ris3 I ops h40 (K := K) k (i + 1) N (opM L m (ops.getD i (0, 0, 0))).2 O' (fun h => by rw [F.W] at h; exact F.inv h (hW h)) (by omega) (by omega)
    rw [F.B, F.G, F.W] at ih
    have s1 := m_End m
    have s2 := m_Label m
    have s3 := m_Left O
    have c1 := m_Spend O (ops.getD i (0, 0, 0)).2.1
    have c2 := m_Raise O (ops.getD i (0, 0, 0)).2.1
    have c3 := m_Tell O
    simp only [Mt.tv, mAns] at s1 s2 s3 c1 c2 c3
    have hlt : decide ((i : Int) < (ops.length : Int)) = true := by simp; omega
    rw [L_law23_MeterRises_1_1_eq]
    have go : (L_law23_MeterRises_1_1 Rt K true (N + 1) (opsE ops) (.pt 195 true e 0) i m.B m.G m.W m.enc) = J_law23_MeterRises_2_1 Rt K true N (opsE ops) (.pt 195 true e 0) i m.label (m.B - m.spent) m.fin m.B m.G m.W (opM L m (ops.getD i (0, 0, 0))).2.enc := by
      rw [L_law23_MeterRises_1_1_eq]
      simp only [s1, s2, s3, onR_some, onL_some, List.isEmpty_nil, allF_cons, allF_nil, Bool.and_true, Bool.true_and, when_true', List.getD_cons_zero, List.getD_cons_succ, isF_fz, toF_fz, isBool_bool, toBool_bool, isInt_int, toInt_int, isStr_str, toStr_str, isSl_sl, toSl_sl, List.length_cons, List.length_nil, List.all_cons, List.all_nil, lisFz_fz, ltoFz_fz, beq_self_eq_true, jump_true, ifB_true, ifB_false, isF_pv, isPv_pv, toV_pv, isNil_nilp, isNil_pt, isPt_pt, toAg_ag, cell_ag, isAg_ag, fits_ag, Int.toNat_natCast, Bool.not_true, Bool.not_false, fits_int, fits_bool, fits_str, fits_sl, opsE_len, dlt hi, opsE_get hi, op_fits, op_ag, op_0, op_1, c1, c2, c3]
      rw [hlt, ifB_true]
      unfold opM
      by_cases h0 : (ops.getD i (0, 0, 0)).1 = 0
      · have e0 : ((ops.getD i (0, 0, 0)).1 == 0) = true := beq_iff_eq.2 h0
        rw [if_pos h0, e0, ifB_true]
      · have e0 : ((ops.getD i (0, 0, 0)).1 == 0) = false := beq_eq_false_iff_ne.2 h0
        rw [if_neg h0, e0, ifB_false]
        by_cases h1 : (ops.getD i (0, 0, 0)).1 = 1
        · have e1 : ((ops.getD i (0, 0, 0)).1 == 1) = true := beq_iff_eq.2 h1
          rw [if_pos h1, e1, ifB_true]
        · have e1 : ((ops.getD i (0, 0, 0)).1 == 1) = false := beq_eq_false_iff_ne.2 h1
          rw [if_neg h1, e1, ifB_false]
    rw [← L_law23_MeterRises_1_1_eq, go, r2, ih]
theorem ops_of {P : Program} {D B t e : Nat} (hft : flat P D t = [.sl e]) (hst : szOf P t = some (1, false)) (hfe : flat P D e = [.int .i64, .int .i64, .int .i64]) (hse : szOf P e = some (3, true)) {f : FV} (h : WV P D B t f) : ∃ l : List Op3, f = .sl (opsE l) ∧ ∀ o ∈ l, (Lit.int .i64 o.1).wf = true ∧ (Lit.int .i64 o.2.1).wf = true ∧ (Lit.int .i64 o.2.2).wf = true := by
  obtain ⟨l, rfl, h1, _⟩ := sl_of opE (fun o => (Lit.int .i64 o.1).wf = true ∧ (Lit.int .i64 o.2.1).wf = true ∧ (Lit.int .i64 o.2.2).wf = true) (fun f hf => by
    obtain ⟨a, b, c, rfl, h⟩ := int3_of hfe hse hf
    exact ⟨(a, b, c), rfl, h⟩) (slA_of hft hst h)
  exact ⟨l, rfl, h1⟩

theorem pure_MeterRises (f0 f1 f2 : FV) (h0 : WV Try.prog 40 140737488351232 3 f0) (h1 : WV Try.prog 40 140737488351232 32 f1) (h2 : WV Try.prog 40 140737488351232 38 f2) : Rt N_law23_MeterRises [.fz f0, .fz f1, .fz f2] = some ([.fz (.bool true)], []) := by
  obtain ⟨k, rfl, _⟩ := int_of (k := .i64) (by kernel_rfl) (by kernel_rfl) h0
  obtain ⟨B, G, W, rfl, _, _⟩ := ask_of (by kernel_rfl) (by kernel_rfl) h1
  obtain ⟨ops, rfl, _⟩ := ops_of (e := 40) (by kernel_rfl) (by kernel_rfl) (by kernel_rfl) (by kernel_rfl) h2
  obtain ⟨e, t, L, hof, I, T⟩ := of_ok k
  have hn := m_New I B G W
  have hl := lives23_ok
  refine rt_call A_law23_MeterRises rfl rfl 50 ((E_law23_MeterRises Rt 50 true _ _ _ _ _).trans ?_)
  simp only [askE] at hn
  rw [hof]
  by_cases hk : newK L B G = 0
  · rw [hk] at hn
    obtain ⟨O, _⟩ := newM_ok I W hk
    by_cases h4 : (ops.length : Int) > 40
    · have hd : decide (((opsE ops).length : Int) > 40) = true := by simp; omega
      simp only [hn, onR_some, onL_some, List.isEmpty_nil, allF_cons, allF_nil, Bool.and_true, Bool.true_and, when_true', List.getD_cons_zero, List.getD_cons_succ, isF_fz, toF_fz, isBool_bool, toBool_bool, isInt_int, toInt_int, isStr_str, toStr_str, isSl_sl, toSl_sl, List.length_cons, List.length_nil, List.all_cons, List.all_nil, lisFz_fz, ltoFz_fz, beq_self_eq_true, jump_true, ifB_true, ifB_false, isF_pv, isPv_pv, toV_pv, isNil_nilp, isNil_pt, isPt_pt, toAg_ag, cell_ag, isAg_ag, fits_ag, Int.toNat_natCast, Bool.not_true, Bool.not_false, fits_int, fits_bool, fits_str, fits_sl, Mt.tv, bne_self_eq_false, hd, hl]
    · have hd : decide (((opsE ops).length : Int) > 40) = false := by simp; omega
      have r3 := ris3 I ops (by omega) (K := 50) ops.length 0 50 (newM e L B G W) O (fun _ => by show (0 : Int) ≠ 2; decide) (by omega) (by omega)
      simp only [Int.natCast_zero] at r3
      have r3' : onL (L_law23_MeterRises_1_1 Rt 50 true 50 (opsE ops) (.pt 195 true e 0) 0 B G W (newM e L B G W).enc) (K_law23_MeterRises_1 Rt 50 true) = some ([.fz (.bool true)], []) := r3
      simp only [hn, onR_some, onL_some, List.isEmpty_nil, allF_cons, allF_nil, Bool.and_true, Bool.true_and, when_true', List.getD_cons_zero, List.getD_cons_succ, isF_fz, toF_fz, isBool_bool, toBool_bool, isInt_int, toInt_int, isStr_str, toStr_str, isSl_sl, toSl_sl, List.length_cons, List.length_nil, List.all_cons, List.all_nil, lisFz_fz, ltoFz_fz, beq_self_eq_true, jump_true, ifB_true, ifB_false, isF_pv, isPv_pv, toV_pv, isNil_nilp, isNil_pt, isPt_pt, toAg_ag, cell_ag, isAg_ag, fits_ag, Int.toNat_natCast, Bool.not_true, Bool.not_false, fits_int, fits_bool, fits_str, fits_sl, Mt.tv, bne_self_eq_false, hd, Bool.true_or, J_law23_MeterRises_5_1_eq, r3']
  · have hm : (match newK L B G with | 0 => (([(newM e L B G W).tv, .fz (.int .i64 0)], []) : Ans) | c => ([.fz .nilp, .fz (.int .i64 c)], [])) = ([.fz .nilp, .fz (.int .i64 (newK L B G))], []) := by
      split
      · contradiction
      · rfl
    have hn2 : Rt N_meter_New [.fz (.pt 195 true e 0), .fz (.ag [.int .i64 B, .int .i64 G, .bool W])] = some ([.fz .nilp, .fz (.int .i64 (newK L B G))], []) := hn.trans (congrArg some hm)
    have e0 : (newK L B G != 0) = true := by simpa using hk
    simp only [hn2, onR_some, onL_some, List.isEmpty_nil, allF_cons, allF_nil, Bool.and_true, Bool.true_and, when_true', List.getD_cons_zero, List.getD_cons_succ, isF_fz, toF_fz, isBool_bool, toBool_bool, isInt_int, toInt_int, isStr_str, toStr_str, isSl_sl, toSl_sl, List.length_cons, List.length_nil, List.all_cons, List.all_nil, lisFz_fz, ltoFz_fz, beq_self_eq_true, jump_true, ifB_true, ifB_false, isF_pv, isPv_pv, toV_pv, isNil_nilp, isNil_pt, isPt_pt, toAg_ag, cell_ag, isAg_ag, fits_ag, Int.toNat_natCast, Bool.not_true, Bool.not_false, fits_int, fits_bool, fits_str, fits_sl, e0, hl]
end Go.Ab
