/- Swapped nodes, by the reference. -/
import Derived.Test.YtkfknjolpgaliaaSErase3
namespace Go.Ab
set_option linter.unusedVariables false
set_option linter.unusedSimpArgs false
set_option linter.unusedSectionVars false
theorem swp_parts {L : Lt} (O : L.Ok) {a : Int} {m : ND} (hm : mayB L m = true) {v : ND} (hv : v.Sm) (hmay : mayB L v = true) (up : Nat) : labB L (swp L a m up v) = true ∧ rightB L (swp L a m up v) = true := by
  have := swp_may O (a := a) hm hv hmay up
  simp only [mayB, Bool.and_eq_true] at this
  exact ⟨this.1, this.2.1⟩
theorem rswap_ok {t9 : List FV} {L : Lt} (T : IsTab t9 L) (O : L.Ok) (a : Int) {m : ND} (hm : m.Sm) (hmm : mayB L m = true) {v : ND} (hv : v.Sm) : ∀ up : Nat, up < L.n → mayB L v = true → Rt N_ref11_Swap [.fz (.sl t9), .fz v.enc, .fz m.enc, .fz (.int .i64 up), .fz (.int .i64 a)] = some ([.fz (swp L a m up v).enc], []) := by
  have hroom : roomy = 140737488355328 := rfl
  induction hv with
  | @mk x d k c s t is ks hi hk ht hs h ih =>
    intro up hup hmay
    have hlab : labB L (ND.mk x d k c s t is ks) = true := by simp only [mayB, Bool.and_eq_true] at hmay; exact hmay.1
    rw [labB_mk, Bool.and_eq_true] at hlab
    have hx := Lt.is_iff.1 hlab.1
    obtain ⟨y, rfl⟩ : ∃ y : Nat, x = y := ⟨x.toNat, by omega⟩
    have hy : y < L.n := by omega
    have hu := O.join up y hup hy
    have hj := join9_ok T O hup hy
    have hq := sees_ok T (L.join up y) a
    have hparts := swp_parts O (a := a) hmm (ND.Sm.mk (a := y) (d := d) (k := k) (c := c) (s := s) hi hk ht hs h) hmay up
    have hswsm := swp_sm (L := L) (a := a) hm (ND.Sm.mk (a := y) (d := d) (k := k) (c := c) (s := s) hi hk ht hs h) up
    have hdeep := deep9_ok T O hswsm hparts.1
    obtain ⟨xm, dm, km, cm, sm, tm, im, om⟩ := m
    have hme : (ND.mk xm dm km cm sm tm im om).enc = .ag [.int .i64 xm, .int .i64 dm, .int .i64 km, .int .i64 cm, .int .i64 sm, .str tm, .sl (im.map ND.enc), .sl (om.map .str)] := ND.enc_mk ..
    refine rt_call A_ref11_Swap rfl rfl (is.length + 1) ?_
    rw [ND.enc_mk y, hme, E_ref11_Swap, hj]
    rw [swp_mk, Lt.joinI_nat hup hy] at hdeep hparts hswsm ⊢
    generalize hgu : L.join up y = u at hj hq hu hdeep hparts hswsm
    simp only [onR_some, onL_some, List.isEmpty_nil, allF_cons, allF_nil, Bool.and_true, Bool.true_and, when_true', List.getD_cons_zero, List.getD_cons_succ, isF_fz, toF_fz, isBool_bool, toBool_bool, isInt_int, toInt_int, isStr_str, toStr_str, isSl_sl, toSl_sl, List.length_cons, List.length_nil, List.all_cons, List.all_nil, lisFz_fz, ltoFz_fz, beq_self_eq_true, jump_true, ifB_true, ifB_false, isF_pv, isPv_pv, toV_pv, isNil_nilp, isNil_pt, isPt_pt, toAg_ag, cell_ag, isAg_ag, fits_ag, Int.toNat_natCast, Bool.not_true, Bool.not_false, fits_int, fits_bool, fits_str, fits_sl, hq]
    cases hlq : L.leqI u a with
    | false =>
      rw [hlq] at hdeep hparts
      simp only [Bool.false_eq_true, if_false, raiseN] at hdeep hparts ⊢
      have hmm' := hmm
      simp only [mayB, Bool.and_eq_true] at hmm'
      obtain ⟨p, q, rfl, rfl, hp, hqn, hpq⟩ := may_labels O hmm'.1 hmm'.2.1
      have hj2 := join9_ok T O hp hy
      have hjpy := O.join p y hp hy
      have hmsm : (ND.mk (L.join p y : Nat) (q : Int) km cm sm tm im om).Sm := by cases hm with | mk hi hk ht hs h => exact .mk hi hk ht hs h
      have hl2 := hmm'.1
      rw [labB_mk, Bool.and_eq_true] at hl2
      have hlm : labB L (ND.mk (L.join p y : Nat) (q : Int) km cm sm tm im om) = true := by
        rw [labB_mk, hl2.2, Bool.and_true, Lt.is_nat]; simp [hjpy]
      have hd2 := deep9_ok T O hmsm hlm
      have hr2 := hmm'.2.1
      rw [rightB_mk, Bool.and_eq_true, decide_eq_true_eq, Int.toNat_natCast] at hr2
      have e2 : deepN L (ND.mk (L.join p y : Nat) (q : Int) km cm sm tm im om) = L.join q y := by
        rw [deepN_mk, Int.toNat_natCast, deepNs_join O hy im p hp hl2.2]
        congr 1; omega
      rw [e2, ND.enc_mk] at hd2
      rw [Lt.joinI_nat hp hy, Lt.joinI_nat hqn hy, ND.enc_mk]
      simp only [onR_some, onL_some, List.isEmpty_nil, allF_cons, allF_nil, Bool.and_true, Bool.true_and, when_true', List.getD_cons_zero, List.getD_cons_succ, isF_fz, toF_fz, isBool_bool, toBool_bool, isInt_int, toInt_int, isStr_str, toStr_str, isSl_sl, toSl_sl, List.length_cons, List.length_nil, List.all_cons, List.all_nil, lisFz_fz, ltoFz_fz, beq_self_eq_true, jump_true, ifB_true, ifB_false, isF_pv, isPv_pv, toV_pv, isNil_nilp, isNil_pt, isPt_pt, toAg_ag, cell_ag, isAg_ag, fits_ag, Int.toNat_natCast, Bool.not_true, Bool.not_false, fits_int, fits_bool, fits_str, fits_sl, hj2, hd2]
    | true =>
      rw [hlq, if_pos rfl] at hparts hswsm
      rw [if_pos rfl]
      simp only [onR_some, onL_some, List.isEmpty_nil, allF_cons, allF_nil, Bool.and_true, Bool.true_and, when_true', List.getD_cons_zero, List.getD_cons_succ, isF_fz, toF_fz, isBool_bool, toBool_bool, isInt_int, toInt_int, isStr_str, toStr_str, isSl_sl, toSl_sl, List.length_cons, List.length_nil, List.all_cons, List.all_nil, lisFz_fz, ltoFz_fz, beq_self_eq_true, jump_true, ifB_true, ifB_false, isF_pv, isPv_pv, toV_pv, isNil_nilp, isNil_pt, isPt_pt, toAg_ag, cell_ag, isAg_ag, fits_ag, Int.toNat_natCast, Bool.not_true, Bool.not_false, fits_int, fits_bool, fits_str, fits_sl]
      generalize hM : ND.mk xm dm km cm sm tm im om = M at ih hme hm hmm hparts hswsm ⊢
      have hsm : (ND.mk (y : Int) d k c s t (is.map (swp L a M u)) ks).Sm := by cases hswsm with | mk hi hk ht hs h => exact .mk hi hk ht hs h
      have hlab' : labB L (ND.mk (y : Int) d k c s t (is.map (swp L a M u)) ks) = true := by
        have := hparts.1
        rw [labB_mk] at this ⊢; exact this
      have hdeep := deep9_ok T O hsm hlab'
      have hdp : (deepN L (ND.mk (y : Int) d k c s t (is.map (swp L a M u)) ks) : Int) = deepP L y (is.map (swp L a M u)) := by
        have := hparts.2
        rw [rightB_mk, Bool.and_eq_true, decide_eq_true_eq, Int.toNat_natCast] at this
        rw [deepN_mk]; exact this.1.symm
      rw [hdp] at hdeep
      have z : ∀ (z0 z1 z2 z3 z4 : Int) (z5 : ByteArray) (j i : Nat) (acc : List ND), i + j = is.length → acc.length = i → onL (L_ref11_Swap_1_1 Rt (is.length + 1) true (j + 1) t9 a u i y d k c s t (is.map ND.enc) (ks.map .str) xm dm km cm sm tm (im.map ND.enc) (om.map .str) z0 z1 z2 z3 z4 z5 y d k c s t (ks.map .str) (acc.map ND.enc)) (K_ref11_Swap_1 Rt (is.length + 1) true) =
          onL (some (.exit 0, X_ref11_Swap_1_1 t9 z0 z1 z2 z3 z4 z5 y d k c s t (ks.map .str) ((acc ++ (is.drop i).map (swp L a M u)).map ND.enc))) (K_ref11_Swap_1 Rt (is.length + 1) true) := by
        intro z0 z1 z2 z3 z4 z5 j
        induction j with
        | zero =>
          intro i acc hij hac
          rw [L_ref11_Swap_1_1_eq, List.drop_eq_nil_of_le (by omega)]
          simp only [List.length_map, decide_eq_false (show ¬ ((i : Int) < (is.length : Int)) by omega), ifB_false, List.map_nil, List.append_nil]
        | succ j jh =>
          intro i acc hij hac
          have hl : i < is.length := by omega
          have h1 := ih is[i] (List.getElem_mem hl) u hu (may_item hmay (List.getElem_mem hl))
          have h2 := jh (i + 1) (acc ++ [swp L a M u is[i]]) (by omega) (by simp; omega)
          push_cast at h2
          rw [List.map_append, List.map_singleton, List.append_assoc, List.singleton_append] at h2
          have hw : IntKind.wrap .i64 ((i : Int) + 1) = (i : Int) + 1 := wrap64 (by omega) (by omega)
          have hro : (decide (((acc.map ND.enc).length + [(swp L a M u is[i]).enc].length) * 104 ≤ roomy) && decide ((acc.map ND.enc).length + [(swp L a M u is[i]).enc].length ≤ roomy)) = true := by simp; omega
          rw [L_ref11_Swap_1_1_eq, drop_cons hl, List.map_cons, ← hme]
          have hg : (is.map ND.enc).getD i .nilp = (is[i]).enc := by simp [hl]
          simp only [List.length_map, decide_eq_true (show (i : Int) < (is.length : Int) by omega), decide_eq_true (show (0 : Int) ≤ (i : Int) by omega), ifB_true, Bool.and_true, when_true', Int.toNat_natCast, hg, ND.enc_fits, h1, onR_some, List.isEmpty_nil, allF_cons, allF_nil, List.getD_cons_zero, toF_fz, hw] at hro ⊢
          simp only [hro, when_true', h2]
      have fin : ∀ z0 z1 z2 z3 z4 z5, onL (some (.exit 0, X_ref11_Swap_1_1 t9 z0 z1 z2 z3 z4 z5 y d k c s t (ks.map .str) ((is.map (swp L a M u)).map ND.enc))) (K_ref11_Swap_1 Rt (is.length + 1) true) = some ([.fz (ND.mk y (deepP L y (is.map (swp L a M u))) k c s t (is.map (swp L a M u)) ks).enc], []) := by
        intro z0 z1 z2 z3 z4 z5
        rw [onL_some, X_ref11_Swap_1_1_eq, ← ND.enc_mk, hdeep]
        simp only [onR_some, onL_some, List.isEmpty_nil, allF_cons, allF_nil, Bool.and_true, Bool.true_and, when_true', List.getD_cons_zero, List.getD_cons_succ, isF_fz, toF_fz, isBool_bool, toBool_bool, isInt_int, toInt_int, isStr_str, toStr_str, isSl_sl, toSl_sl, List.length_cons, List.length_nil, List.all_cons, List.all_nil, lisFz_fz, ltoFz_fz, beq_self_eq_true, jump_true, ifB_true, ifB_false, isF_pv, isPv_pv, toV_pv, isNil_nilp, isNil_pt, isPt_pt, toAg_ag, cell_ag, isAg_ag, fits_ag, Int.toNat_natCast, Bool.not_true, Bool.not_false, fits_int, fits_bool, fits_str, fits_sl, ND.enc_mk]
      rw [L_ref11_Swap_1_0_eq]
      cases is with
      | nil =>
        simp only [List.length_map, List.length_nil, List.map_nil, decide_eq_false (show ¬ ((0 : Int) < ((0 : Nat) : Int)) by omega), ifB_false, onL_some, X_ref11_Swap_1_0_eq]
        rw [List.map_nil, ND.enc_mk, List.map_nil] at hdeep
        rw [hdeep]
        simp only [onR_some, onL_some, List.isEmpty_nil, allF_cons, allF_nil, Bool.and_true, Bool.true_and, when_true', List.getD_cons_zero, List.getD_cons_succ, isF_fz, toF_fz, isBool_bool, toBool_bool, isInt_int, toInt_int, isStr_str, toStr_str, isSl_sl, toSl_sl, List.length_cons, List.length_nil, List.all_cons, List.all_nil, lisFz_fz, ltoFz_fz, beq_self_eq_true, jump_true, ifB_true, ifB_false, isF_pv, isPv_pv, toV_pv, isNil_nilp, isNil_pt, isPt_pt, toAg_ag, cell_ag, isAg_ag, fits_ag, Int.toNat_natCast, Bool.not_true, Bool.not_false, fits_int, fits_bool, fits_str, fits_sl, ND.enc_mk, List.map_nil]
      | cons v0 vs =>
        have h1 := ih v0 (List.mem_cons_self ..) u hu (may_item hmay (List.mem_cons_self ..))
        have h2 := z 0 0 0 0 0 (⟨#[]⟩ : ByteArray) (vs.length - 0) 1 [swp L a M u v0] (by simp; omega) rfl
        have hz : ∀ x : ND, (decide (((0 : Nat) + [x.enc].length) * 104 ≤ roomy) && decide ((0 : Nat) + [x.enc].length ≤ roomy)) = true := fun x => rfl
        have hz := hz (swp L a M u v0)
        have w0 : IntKind.wrap .i64 ((0 : Int) + 1) = ((1 : Nat) : Int) := by rw [wrap64 (by omega) (by omega)]; rfl
        have d0 : decide ((0 : Int) ≤ 0) = true := by decide
        have t0 : (0 : Int).toNat = 0 := rfl
        have hfin := fin 0 0 0 0 0 (⟨#[]⟩ : ByteArray)
        rw [← hme]
        simp only [List.map_cons, List.map_nil, List.length_cons, List.length_map, decide_eq_true (show (0 : Int) < ((vs.length + 1 : Nat) : Int) by omega), d0, t0, ifB_true, Bool.and_true, when_true', List.getD_cons_zero, ND.enc_fits, h1, onR_some, List.isEmpty_nil, allF_cons, allF_nil, toF_fz, w0, Nat.sub_zero, List.drop_succ_cons, List.drop_zero, List.singleton_append] at h2 hz hfin ⊢
        simp only [hz, when_true']
        exact h2.trans hfin
end Go.Ab
