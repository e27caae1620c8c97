/- Erased nodes, by the reference. -/
import Derived.Test.YtkfknjolpgaliaaSErase2
import Derived.Test.YtkfknjolpgaliaaSTab9
namespace Go.Ab
set_option linter.unusedVariables false
set_option linter.unusedSimpArgs false
set_option linter.unusedSectionVars false

section
variable {t9 : List FV} {L : Lt} (T : IsTab t9 L)
include T
theorem sees_ok (x a : Int) : Rt N_ref11_sees [.fz (.sl t9), .fz (.int .i64 x), .fz (.int .i64 a)] = some ([.fz (.bool (L.leqI x a))], []) := by
  refine rt_call A_ref11_sees rfl rfl 0 ?_
  rw [E_ref11_sees, T.len]
  unfold Lt.leqI Lt.is
  by_cases h1 : 0 ≤ a
  · by_cases h2 : a < L.n
    · by_cases h3 : 0 ≤ x
      · by_cases h4 : x < L.n
        · have g1 := T.fits x.toNat (by omega)
          have g2 := T.sl x.toNat (by omega)
          have g3 := T.rlen x.toNat (by omega)
          have g4 := T.cell x.toNat a.toNat (by omega) (by omega)
          simp only [ge_iff_le, decide_eq_true h1, decide_eq_true h2, decide_eq_true h3, decide_eq_true h4, ifB_true, Bool.and_true, when_true', g1, g2, g3, g4, fits_bool, isBool_bool, toBool_bool, Bool.true_and]
        · simp only [ge_iff_le, decide_eq_true h1, decide_eq_true h2, decide_eq_true h3, decide_eq_false h4, ifB_true, ifB_false, Bool.and_false, Bool.false_and]
      · simp only [ge_iff_le, decide_eq_true h1, decide_eq_true h2, decide_eq_false h3, ifB_true, ifB_false, Bool.false_and]
    · simp only [ge_iff_le, decide_eq_true h1, decide_eq_false h2, ifB_true, ifB_false, Bool.and_false, Bool.false_and]
  · simp only [ge_iff_le, decide_eq_false h1, ifB_false, Bool.false_and, Bool.and_false]
theorem rat_ok (O : L.Ok) (a : Int) {v : ND} (hv : v.Sm) : ∀ up : Nat, up < L.n → labB L v = true → Rt N_ref11_At [.fz (.sl t9), .fz v.enc, .fz (.int .i64 up), .fz (.int .i64 a)] = some ([.fz (und L a up v).enc], []) := by
  have hroom : roomy = 140737488355328 := rfl
  induction hv with
  | @mk x d k c s t is ks hi hk ht hs h ih =>
    intro up hup hlab
    rw [labB_mk, Bool.and_eq_true] at hlab
    have hx := Lt.is_iff.1 hlab.1
    obtain ⟨y, rfl⟩ : ∃ y : Nat, x = y := ⟨x.toNat, by omega⟩
    have hy : y < L.n := by omega
    have hu := O.join up y hup hy
    have hj := join9_ok T O hup hy
    have hq := sees_ok T (L.join up y) a
    have htop := top9_ok T O
    refine rt_call A_ref11_At rfl rfl (is.length + 1) ?_
    rw [ND.enc_mk, E_ref11_At, hj, und_mk, Lt.joinI_nat hup hy]
    have hull := und_lab (L := L) O (a := a) (ND.Sm.mk (a := y) (d := d) (k := k) (c := c) (s := s) hi hk ht hs h) up
    rw [und_mk, Lt.joinI_nat hup hy] at hull
    generalize hgu : L.join up y = u at hj hq hu hull
    simp only [onR_some, onL_some, List.isEmpty_nil, allF_cons, allF_nil, Bool.and_true, Bool.true_and, when_true', List.getD_cons_zero, List.getD_cons_succ, isF_fz, toF_fz, isBool_bool, toBool_bool, isInt_int, toInt_int, isStr_str, toStr_str, isSl_sl, toSl_sl, List.length_cons, List.length_nil, List.all_cons, List.all_nil, lisFz_fz, ltoFz_fz, beq_self_eq_true, jump_true, ifB_true, ifB_false, isF_pv, isPv_pv, toV_pv, isNil_nilp, isNil_pt, isPt_pt, toAg_ag, cell_ag, isAg_ag, fits_ag, Int.toNat_natCast, Bool.not_true, Bool.not_false, fits_int, fits_bool, fits_str, fits_sl, hq]
    cases hlq : L.leqI u a with
    | false => simp only [onR_some, onL_some, List.isEmpty_nil, allF_cons, allF_nil, Bool.and_true, Bool.true_and, when_true', List.getD_cons_zero, List.getD_cons_succ, isF_fz, toF_fz, isBool_bool, toBool_bool, isInt_int, toInt_int, isStr_str, toStr_str, isSl_sl, toSl_sl, List.length_cons, List.length_nil, List.all_cons, List.all_nil, lisFz_fz, ltoFz_fz, beq_self_eq_true, jump_true, ifB_true, ifB_false, isF_pv, isPv_pv, toV_pv, isNil_nilp, isNil_pt, isPt_pt, toAg_ag, cell_ag, isAg_ag, fits_ag, Int.toNat_natCast, Bool.not_true, Bool.not_false, fits_int, fits_bool, fits_str, fits_sl, htop, holeN, ND.enc_mk, List.map_nil, Bool.false_eq_true, if_false]
    | true =>
      rw [hlq, if_pos rfl] at hull
      rw [if_pos rfl]
      simp only [onR_some, onL_some, List.isEmpty_nil, allF_cons, allF_nil, Bool.and_true, Bool.true_and, when_true', List.getD_cons_zero, List.getD_cons_succ, isF_fz, toF_fz, isBool_bool, toBool_bool, isInt_int, toInt_int, isStr_str, toStr_str, isSl_sl, toSl_sl, List.length_cons, List.length_nil, List.all_cons, List.all_nil, lisFz_fz, ltoFz_fz, beq_self_eq_true, jump_true, ifB_true, ifB_false, isF_pv, isPv_pv, toV_pv, isNil_nilp, isNil_pt, isPt_pt, toAg_ag, cell_ag, isAg_ag, fits_ag, Int.toNat_natCast, Bool.not_true, Bool.not_false, fits_int, fits_bool, fits_str, fits_sl]
      have hsm : (ND.mk (u : Int) d k c s t (is.map (und L a u)) ks).Sm := .mk (by simpa using hi) hk ht hs (fun v hv => by obtain ⟨y, hy, rfl⟩ := List.mem_map.1 hv; exact und_sm (h y hy) _)
      have hlab' : labB L (ND.mk (u : Int) d k c s t (is.map (und L a u)) ks) = true := by
        have := hull.1
        rw [labB_mk] at this ⊢; exact this
      have hdeep := deep9_ok T O hsm hlab'
      have hdp : (deepN L (ND.mk (u : Int) d k c s t (is.map (und L a u)) ks) : Int) = deepP L u (is.map (und L a u)) := by
        have := hull.2
        rw [rightB_mk, Bool.and_eq_true, decide_eq_true_eq] at this
        rw [deepN_mk]; exact this.1.symm
      rw [hdp] at hdeep
      have z : ∀ (z0 z1 z2 z3 z4 : Int) (z5 : ByteArray) (j i : Nat) (acc : List ND), i + j = is.length → acc.length = i → onL (L_ref11_At_1_1 Rt (is.length + 1) true (j + 1) t9 a u i y d k c s t (is.map ND.enc) (ks.map .str) z0 z1 z2 z3 z4 z5 u d k c s t (ks.map .str) (acc.map ND.enc)) (K_ref11_At_1 Rt (is.length + 1) true) =
          onL (some (.exit 0, X_ref11_At_1_1 t9 z0 z1 z2 z3 z4 z5 u d k c s t (ks.map .str) ((acc ++ (is.drop i).map (und L a u)).map ND.enc))) (K_ref11_At_1 Rt (is.length + 1) true) := by
        intro z0 z1 z2 z3 z4 z5 j
        induction j with
        | zero =>
          intro i acc hij hac
          rw [L_ref11_At_1_1_eq, List.drop_eq_nil_of_le (by omega)]
          simp only [List.length_map, decide_eq_false (show ¬ ((i : Int) < (is.length : Int)) by omega), ifB_false, List.map_nil, List.append_nil]
        | succ j jh =>
          intro i acc hij hac
          have hl : i < is.length := by omega
          have h1 := ih is[i] (List.getElem_mem hl) u hu (labBs_iff.1 hlab.2 _ (List.getElem_mem hl))
          have h2 := jh (i + 1) (acc ++ [und L a u is[i]]) (by omega) (by simp; omega)
          push_cast at h2
          rw [List.map_append, List.map_singleton, List.append_assoc, List.singleton_append] at h2
          have hw : IntKind.wrap .i64 ((i : Int) + 1) = (i : Int) + 1 := wrap64 (by omega) (by omega)
          have hro : (decide (((acc.map ND.enc).length + [(und L a u is[i]).enc].length) * 104 ≤ roomy) && decide ((acc.map ND.enc).length + [(und L a u is[i]).enc].length ≤ roomy)) = true := by simp; omega
          rw [L_ref11_At_1_1_eq, drop_cons hl, List.map_cons]
          have hg : (is.map ND.enc).getD i .nilp = (is[i]).enc := by simp [hl]
          simp only [List.length_map, decide_eq_true (show (i : Int) < (is.length : Int) by omega), decide_eq_true (show (0 : Int) ≤ (i : Int) by omega), ifB_true, Bool.and_true, when_true', Int.toNat_natCast, hg, ND.enc_fits, h1, onR_some, List.isEmpty_nil, allF_cons, allF_nil, List.getD_cons_zero, toF_fz, hw] at hro ⊢
          simp only [hro, when_true', h2]
      have fin : ∀ z0 z1 z2 z3 z4 z5, onL (some (.exit 0, X_ref11_At_1_1 t9 z0 z1 z2 z3 z4 z5 u d k c s t (ks.map .str) ((is.map (und L a u)).map ND.enc))) (K_ref11_At_1 Rt (is.length + 1) true) = some ([.fz (ND.mk u (deepP L u (is.map (und L a u))) k c s t (is.map (und L a u)) ks).enc], []) := by
        intro z0 z1 z2 z3 z4 z5
        rw [onL_some, X_ref11_At_1_1_eq, ← ND.enc_mk, hdeep]
        simp only [onR_some, onL_some, List.isEmpty_nil, allF_cons, allF_nil, Bool.and_true, Bool.true_and, when_true', List.getD_cons_zero, List.getD_cons_succ, isF_fz, toF_fz, isBool_bool, toBool_bool, isInt_int, toInt_int, isStr_str, toStr_str, isSl_sl, toSl_sl, List.length_cons, List.length_nil, List.all_cons, List.all_nil, lisFz_fz, ltoFz_fz, beq_self_eq_true, jump_true, ifB_true, ifB_false, isF_pv, isPv_pv, toV_pv, isNil_nilp, isNil_pt, isPt_pt, toAg_ag, cell_ag, isAg_ag, fits_ag, Int.toNat_natCast, Bool.not_true, Bool.not_false, fits_int, fits_bool, fits_str, fits_sl, ND.enc_mk]
      rw [L_ref11_At_1_0_eq]
      cases is with
      | nil =>
        simp only [List.length_map, List.length_nil, List.map_nil, decide_eq_false (show ¬ ((0 : Int) < ((0 : Nat) : Int)) by omega), ifB_false, onL_some, X_ref11_At_1_0_eq]
        rw [List.map_nil, ND.enc_mk, List.map_nil] at hdeep
        rw [hdeep]
        simp only [onR_some, onL_some, List.isEmpty_nil, allF_cons, allF_nil, Bool.and_true, Bool.true_and, when_true', List.getD_cons_zero, List.getD_cons_succ, isF_fz, toF_fz, isBool_bool, toBool_bool, isInt_int, toInt_int, isStr_str, toStr_str, isSl_sl, toSl_sl, List.length_cons, List.length_nil, List.all_cons, List.all_nil, lisFz_fz, ltoFz_fz, beq_self_eq_true, jump_true, ifB_true, ifB_false, isF_pv, isPv_pv, toV_pv, isNil_nilp, isNil_pt, isPt_pt, toAg_ag, cell_ag, isAg_ag, fits_ag, Int.toNat_natCast, Bool.not_true, Bool.not_false, fits_int, fits_bool, fits_str, fits_sl, ND.enc_mk, List.map_nil]
      | cons v0 vs =>
        have h1 := ih v0 (List.mem_cons_self ..) u hu (labBs_iff.1 hlab.2 _ (List.mem_cons_self ..))
        have h2 := z 0 0 0 0 0 (⟨#[]⟩ : ByteArray) (vs.length - 0) 1 [und L a u v0] (by simp; omega) rfl
        have hz : ∀ x : ND, (decide (((0 : Nat) + [x.enc].length) * 104 ≤ roomy) && decide ((0 : Nat) + [x.enc].length ≤ roomy)) = true := fun x => rfl
        have hz := hz (und L a u v0)
        have w0 : IntKind.wrap .i64 ((0 : Int) + 1) = ((1 : Nat) : Int) := by rw [wrap64 (by omega) (by omega)]; rfl
        have d0 : decide ((0 : Int) ≤ 0) = true := by decide
        have t0 : (0 : Int).toNat = 0 := rfl
        have hfin := fin 0 0 0 0 0 (⟨#[]⟩ : ByteArray)
        simp only [List.map_cons, List.map_nil, List.length_cons, List.length_map, decide_eq_true (show (0 : Int) < ((vs.length + 1 : Nat) : Int) by omega), d0, t0, ifB_true, Bool.and_true, when_true', List.getD_cons_zero, ND.enc_fits, h1, onR_some, List.isEmpty_nil, allF_cons, allF_nil, toF_fz, w0, Nat.sub_zero, List.drop_succ_cons, List.drop_zero, List.singleton_append] at h2 hz hfin ⊢
        simp only [hz, when_true']
        exact h2.trans hfin
theorem erase_ok (O : L.Ok) (a : Int) {v : ND} (hv : v.Sm) (hl : labB L v = true) : Rt N_ref11_Erase [.fz (.sl t9), .fz v.enc, .fz (.int .i64 a)] = some ([.fz (und L a L.bot v).enc], []) := by
  have h := rat_ok T O a hv L.bot O.bot hl
  have hf := (und L a L.bot v).enc_fits
  have hb := bottom9_ok T O
  obtain ⟨x, d, k, c, s, t, is, ks⟩ := v
  have hE := E_ref11_Erase Rt 0 true t9 x d k c s t (is.map ND.enc) (ks.map .str) a
  rw [← ND.enc_mk] at hE
  refine rt_call A_ref11_Erase rfl rfl 0 (hE.trans ?_)
  simp only [hb, onR_some, onL_some, List.isEmpty_nil, allF_cons, allF_nil, Bool.and_true, Bool.true_and, when_true', List.getD_cons_zero, List.getD_cons_succ, isF_fz, toF_fz, isBool_bool, toBool_bool, isInt_int, toInt_int, isStr_str, toStr_str, isSl_sl, toSl_sl, List.length_cons, List.length_nil, List.all_cons, List.all_nil, lisFz_fz, ltoFz_fz, beq_self_eq_true, jump_true, ifB_true, ifB_false, isF_pv, isPv_pv, toV_pv, isNil_nilp, isNil_pt, isPt_pt, toAg_ag, cell_ag, isAg_ag, fits_ag, Int.toNat_natCast, Bool.not_true, Bool.not_false, fits_int, fits_bool, fits_str, fits_sl, h, hf]
omit T in
theorem rseen_ok {v : ND} (hv : v.Sm) : v.cnt ≤ 100000 → Rt N_ref11_Seen [.fz v.enc] = some ([.fz (.int .i64 (seeN v))], []) := by
  induction hv with
  | @mk x d k c s t is ks hi hk ht hs h ih =>
    intro hcnt
    rw [ND.cnt_mk] at hcnt
    refine rt_call A_ref11_Seen rfl rfl (is.length + 1) ?_
    rw [ND.enc_mk, E_ref11_Seen, seeN_mk]
    by_cases hk8 : k = 8
    · simp [hk8]
    · have hb : (k == 8) = false := by simpa using hk8
      rw [hb, ifB_false, if_neg hk8]
      have loop : ∀ (j i acc : Nat), i + j = is.length → acc + ND.cnts (is.drop i) ≤ 100000 → L_ref11_Seen_1_0 Rt (is.length + 1) true (j + 1) acc i x d k c s t (is.map ND.enc) (ks.map .str) =
          some (.exit 0, X_ref11_Seen_1_0 ((acc + seeNs (is.drop i) : Nat) : Int)) := by
        intro j
        induction j with
        | zero =>
          intro i acc hij hacc
          rw [L_ref11_Seen_1_0_eq, List.drop_eq_nil_of_le (by omega)]
          simp [show ¬ ((i : Int) < (is.length : Int)) by omega, seeNs]
        | succ j jh =>
          intro i acc hij hacc
          have hl : i < is.length := by omega
          rw [ND.cnts_drop hl] at hacc
          have h1 := ih is[i] (List.getElem_mem hl) (by omega)
          have hle := see_le is[i]
          have h2 := jh (i + 1) (acc + seeN is[i]) (by omega) (by omega)
          have hw : IntKind.wrap .i64 ((i : Int) + 1) = ((i + 1 : Nat) : Int) := by rw [wrap64 (by omega) (by omega)]; simp
          have hw2 : IntKind.wrap .i64 ((acc : Int) + (seeN is[i] : Int)) = ((acc + seeN is[i] : Nat) : Int) := by rw [wrap64 (by omega) (by omega)]; simp
          have hg : (is.map ND.enc).getD i .nilp = (is[i]).enc := by simp [hl]
          rw [L_ref11_Seen_1_0_eq, seeNs_drop hl]
          simp only [List.length_map, decide_eq_true (show (i : Int) < (is.length : Int) by omega), decide_eq_true (show (0 : Int) ≤ (i : Int) by omega), ifB_true, Bool.and_true, when_true', Int.toNat_natCast, hg, ND.enc_fits, h1, onR_some, List.isEmpty_nil, allF_cons, allF_nil, List.getD_cons_zero, toF_fz, isInt_int, toInt_int, hw, hw2, h2, Nat.add_assoc]
      have l0 := loop is.length 0 1 (by omega) (by rw [List.drop_zero]; omega)
      rw [List.drop_zero] at l0
      simp only [Int.natCast_zero, Int.natCast_one] at l0
      simp only [l0, onL_some, X_ref11_Seen_1_0_eq]
end
end Go.Ab
