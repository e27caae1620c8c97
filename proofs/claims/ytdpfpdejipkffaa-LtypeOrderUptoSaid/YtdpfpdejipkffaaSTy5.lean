/- The least type that a node fits: by the reference, and by the program. -/
import Derived.Test.YtdpfpdejipkffaaSTy4
namespace Go.Ab
set_option linter.unusedVariables false
set_option linter.unusedSimpArgs false
set_option linter.unusedSectionVars false
theorem take_snoc {α : Type} {l : List α} {i : Nat} (h : i < l.length) : l.take (i + 1) = l.take i ++ [l[i]] := by
  rw [List.take_add_one, List.getElem?_eq_getElem h]; rfl
theorem clone_ok (ks : List ByteArray) (h : ks.length ≤ 134217728) : Rt N_slices_Clone___string_string_ [.fz (.sl (ks.map .str))] = some ([.fz (.sl (ks.map .str))], []) := by
  refine rt_prim (af := A_clone) (p := cloneP) rfl rfl ?_
  have h1 : ((ks.map FV.str).all FV.isStr && Nat.ble ((ks.map FV.str).length * 16) 140737488355328) = true := by
    rw [Bool.and_eq_true]
    refine ⟨List.all_eq_true.2 fun x hx => ?_, Nat.ble_eq_true_of_le (by simp; omega)⟩
    obtain ⟨s, _, rfl⟩ := List.mem_map.1 hx; rfl
  show when ((ks.map FV.str).all FV.isStr && Nat.ble ((ks.map FV.str).length * 16) 140737488355328) _ = _
  rw [h1, when_true']
theorem least_ok {e : FV} {L : Lt} (I : IsLat e L) {v : ND} (hv : v.Sm) : mayB L v = true → ∀ m : Nat, m ≤ 1000 → Rt N_ltype_least [.fz (.pt 195 true e 0), .fz v.enc, .fz (.int .i64 m)] = some ([.fz (leastN L m v).enc], []) := by
  have hroom : roomy = 140737488355328 := rfl
  have O := I.ok
  induction hv with
  | @mk a d k c s t is ks hi hk ht hs h ih =>
    intro hmay m hm
    have hb := lat_Bottom I
    have hlabs : labBs L is = true := by
      have := hmay
      simp only [mayB, Bool.and_eq_true, labB_mk] at this
      exact this.1.2
    -- what is no object, or is deep: the join
    have flat : (k == 6 && decide ((m : Int) > 0)) = false → onL (L_ltype_least_1_0 Rt (is.length + 1) true (is.length + 1) e m (is.map ND.enc) is.length 0 a d k c s t (is.map ND.enc) (ks.map .str) 0 0 a L.bot) (K_ltype_least_1 Rt (is.length + 1) true) = some ([.fz (TY.mk a [] [] (deepNs L L.bot is)).enc], []) := by
      intro hf
      have z : ∀ (z0 z1 : Int) (j i acc : Nat), acc < L.n → i + j = is.length → onL (L_ltype_least_1_0 Rt (is.length + 1) true (j + 1) e m (is.map ND.enc) is.length i a d k c s t (is.map ND.enc) (ks.map .str) z0 z1 a acc) (K_ltype_least_1 Rt (is.length + 1) true) = some ([.fz (TY.mk a [] [] (deepNs L acc (is.drop i))).enc], []) := by
        intro z0 z1 j
        induction j with
        | zero =>
          intro i acc hacc hij
          rw [L_ltype_least_1_0_eq, List.drop_eq_nil_of_le (by omega), TY.enc_mk]
          simp only [List.length_map, decide_eq_false (show ¬ ((i : Int) < (is.length : Int)) by omega), ifB_false, onL_some, X_ltype_least_1_0_eq, deepNs, List.map_nil]
        | succ j jh =>
          intro i acc hacc hij
          have hl : i < is.length := by omega
          obtain ⟨n1, n2, n3, _⟩ := nd_cells is[i]
          obtain ⟨e1, e2⟩ := may_d O (may_item hmay (List.getElem_mem hl))
          have hj := lat_Join I acc (deepN L is[i])
          rw [Lt.joinI_nat hacc e2] at hj
          have h2 := jh (i + 1) (L.join acc (deepN L is[i])) (O.join _ _ hacc e2) (by omega)
          have hw : IntKind.wrap .i64 ((i : Int) + 1) = ((i + 1 : Nat) : Int) := by rw [wrap64 (by omega) (by omega)]; simp
          have hg : (is.map ND.enc).getD i .nilp = (is[i]).enc := by simp [hl]
          have J2 : J_ltype_least_2_0 Rt (is.length + 1) true (j + 1) e m (is.map ND.enc) is.length i a d k c s t (is.map ND.enc) (ks.map .str) z0 z1 a acc (is[i]).enc = L_ltype_least_1_0 Rt (is.length + 1) true (j + 1) e m (is.map ND.enc) is.length (i + 1 : Nat) a d k c s t (is.map ND.enc) (ks.map .str) z0 z1 a (L.join acc (deepN L is[i]) : Nat) := by
            rw [J_ltype_least_2_0_eq]
            simp only [n1, n3, e1, onR_some, onL_some, List.isEmpty_nil, allF_cons, allF_nil, Bool.and_true, Bool.true_and, when_true', List.getD_cons_zero, List.getD_cons_succ, isF_fz, toF_fz, isBool_bool, toBool_bool, isInt_int, toInt_int, isStr_str, toStr_str, isSl_sl, toSl_sl, List.length_cons, List.length_nil, List.all_cons, List.all_nil, lisFz_fz, ltoFz_fz, beq_self_eq_true, jump_true, ifB_true, ifB_false, isF_pv, isPv_pv, toV_pv, isNil_nilp, isNil_pt, isPt_pt, toAg_ag, cell_ag, isAg_ag, fits_ag, Int.toNat_natCast, Bool.not_true, Bool.not_false, fits_int, fits_bool, fits_str, fits_sl, hj, hw]
          have J1 : J_ltype_least_1_0 Rt (is.length + 1) true (j + 1) e m (is.map ND.enc) is.length i false a d k c s t (is.map ND.enc) (ks.map .str) z0 z1 a acc (is[i]).enc = L_ltype_least_1_0 Rt (is.length + 1) true (j + 1) e m (is.map ND.enc) is.length (i + 1 : Nat) a d k c s t (is.map ND.enc) (ks.map .str) z0 z1 a (L.join acc (deepN L is[i]) : Nat) := by
            rw [J_ltype_least_1_0_eq, ifB_false, jump_true, J2]
          rw [L_ltype_least_1_0_eq, drop_cons hl, deepNs]
          simp only [List.length_map, decide_eq_true (show (i : Int) < (is.length : Int) by omega), decide_eq_true (show (0 : Int) ≤ (i : Int) by omega), ifB_true, Bool.and_true, when_true', Int.toNat_natCast, hg, ND.enc_fits, jump_true]
          cases hk6 : (k == 6) with
          | false => rw [ifB_false, J1]; exact h2
          | true =>
            rw [hk6, Bool.true_and] at hf
            rw [ifB_true, hf, J1]; exact h2
      have l0 := z 0 0 is.length 0 L.bot O.bot (by omega)
      rw [List.drop_zero] at l0
      exact l0
    refine rt_call A_ltype_least rfl rfl (is.length + 1) ?_
    rw [ND.enc_mk, E_ltype_least, hb]
    simp only [onR_some, onL_some, List.isEmpty_nil, allF_cons, allF_nil, Bool.and_true, Bool.true_and, when_true', List.getD_cons_zero, List.getD_cons_succ, isF_fz, toF_fz, isBool_bool, toBool_bool, isInt_int, toInt_int, isStr_str, toStr_str, isSl_sl, toSl_sl, List.length_cons, List.length_nil, List.all_cons, List.all_nil, lisFz_fz, ltoFz_fz, beq_self_eq_true, jump_true, ifB_true, ifB_false, isF_pv, isPv_pv, toV_pv, isNil_nilp, isNil_pt, isPt_pt, toAg_ag, cell_ag, isAg_ag, fits_ag, Int.toNat_natCast, Bool.not_true, Bool.not_false, fits_int, fits_bool, fits_str, fits_sl, List.length_map]
    cases m with
    | zero =>
      rw [leastN]
      exact flat (by simp)
    | succ m =>
      rw [leastN]
      by_cases hk6 : k = 6
      · have hb6 : (k == 6) = true := by simpa using hk6
        have hkl := may_keys hmay hk6
        have hm1 : IntKind.wrap .i64 (((m + 1 : Nat) : Int) - 1) = (m : Int) := by rw [wrap64 (by omega) (by omega)]; omega
        have hm0 : decide (((m + 1 : Nat) : Int) > 0) = true := decide_eq_true (by omega)
        rw [if_pos hk6]
        have z : ∀ (z0 z1 : Int) (j i : Nat), 0 < i → i + j = is.length → onL (L_ltype_least_1_1 Rt (is.length + 1) true (j + 1) e (m + 1 : Nat) (is.map ND.enc) is.length i a d k c s t (is.map ND.enc) (ks.map .str) z0 z1 a L.bot (((is.map (leastN L m)).take i).map TY.enc)) (K_ltype_least_1 Rt (is.length + 1) true) = some ([.fz (TY.mk a ks (is.map (leastN L m)) L.bot).enc], []) := by
          intro z0 z1 j
          induction j with
          | zero =>
            intro i h0 hij
            have hcl := clone_ok ks hk
            rw [L_ltype_least_1_1_eq, List.take_of_length_le (show (is.map (leastN L m)).length ≤ i by simp; omega), TY.enc_mk]
            simp only [List.length_map, decide_eq_false (show ¬ ((i : Int) < (is.length : Int)) by omega), ifB_false, onL_some, X_ltype_least_1_1_eq, decide_eq_true (show (is.length : Int) > 0 by omega), ifB_true, hcl, onR_some, onL_some, List.isEmpty_nil, allF_cons, allF_nil, Bool.and_true, Bool.true_and, when_true', List.getD_cons_zero, List.getD_cons_succ, isF_fz, toF_fz, isBool_bool, toBool_bool, isInt_int, toInt_int, isStr_str, toStr_str, isSl_sl, toSl_sl, List.length_cons, List.length_nil, List.all_cons, List.all_nil, lisFz_fz, ltoFz_fz, beq_self_eq_true, jump_true, ifB_true, ifB_false, isF_pv, isPv_pv, toV_pv, isNil_nilp, isNil_pt, isPt_pt, toAg_ag, cell_ag, isAg_ag, fits_ag, Int.toNat_natCast, Bool.not_true, Bool.not_false, fits_int, fits_bool, fits_str, fits_sl]
          | succ j jh =>
            intro i h0 hij
            have hl : i < is.length := by omega
            have h1 := ih is[i] (List.getElem_mem hl) (may_item hmay (List.getElem_mem hl)) m (by omega)
            have h2 := jh (i + 1) (by omega) (by omega)
            rw [take_snoc (l := is.map (leastN L m)) (i := i) (by simpa using hl), List.map_append, List.map_singleton, List.getElem_map] at h2
            have hw : IntKind.wrap .i64 ((i : Int) + 1) = ((i + 1 : Nat) : Int) := by rw [wrap64 (by omega) (by omega)]; simp
            have hg : (is.map ND.enc).getD i .nilp = (is[i]).enc := by simp [hl]
            have hro := roomT i (leastN L m is[i]).enc (((is.map (leastN L m)).take i).map TY.enc) (by simp; omega) (by omega)
            rw [L_ltype_least_1_1_eq, hb6, ifB_true]
            simp only [List.length_map, decide_eq_true (show (i : Int) < (is.length : Int) by omega), decide_eq_true (show (0 : Int) ≤ (i : Int) by omega), ifB_true, Bool.and_true, when_true', Int.toNat_natCast, hg, ND.enc_fits, jump_true, hm0]
            rw [J_ltype_least_1_1_eq, ifB_true]
            simp only [hm1, h1, List.length_map, TY.enc_fits, Bool.and_true, when_true', onR_some, List.isEmpty_nil, allF_cons, allF_nil, List.getD_cons_zero, toF_fz, hw] at hro ⊢
            simp only [hro, when_true']
            exact h2
        rw [L_ltype_least_1_0_eq, hb6]
        by_cases he : is.length = 0
        · have e1 : is = [] := List.eq_nil_of_length_eq_zero he
          have e2 : ks = [] := List.eq_nil_of_length_eq_zero (by omega)
          subst e1; subst e2
          simp only [List.map_nil, List.length_nil, decide_eq_false (show ¬ ((0 : Int) < ((0 : Nat) : Int)) by omega), ifB_false, onL_some, X_ltype_least_1_0_eq, TY.enc_mk]
        · have hl : 0 < is.length := by omega
          have h1 := ih is[0] (List.getElem_mem hl) (may_item hmay (List.getElem_mem hl)) m (by omega)
          have h2 := z 0 0 (is.length - 1) 1 (by omega) (by omega)
          rw [show is.length - 1 + 1 = is.length by omega, take_snoc (l := is.map (leastN L m)) (i := 0) (by simpa using hl), List.take_zero, List.nil_append, List.map_singleton, List.getElem_map] at h2
          have w0 : IntKind.wrap .i64 ((0 : Int) + 1) = ((1 : Nat) : Int) := by rw [wrap64 (by omega) (by omega)]; rfl
          have d0 : decide ((0 : Int) ≤ 0) = true := by decide
          have t0 : (0 : Int).toNat = 0 := rfl
          have hg : (is.map ND.enc).getD 0 .nilp = (is[0]).enc := by simp [hl]
          have hro := roomT0 (leastN L m is[0]).enc
          simp only [List.length_map, decide_eq_true (show (0 : Int) < (is.length : Int) by omega), d0, t0, ifB_true, Bool.and_true, when_true', hg, ND.enc_fits, jump_true, hm0]
          rw [J_ltype_least_1_0_eq, ifB_true]
          simp only [hm1, h1, TY.enc_fits, Bool.and_true, when_true', onR_some, List.isEmpty_nil, allF_cons, allF_nil, List.getD_cons_zero, toF_fz, w0] at hro ⊢
          simp only [hro, when_true']
          exact h2
      · rw [if_neg hk6]
        exact flat (by simp [hk6])
end Go.Ab
