/- Whether a node fits a type. -/
import Derived.Test.YtdpfpdejipkffaaSTy2
namespace Go.Ab
set_option linter.unusedVariables false
set_option linter.unusedSimpArgs false
set_option linter.unusedSectionVars false
mutual
def fitsN (L : Lt) : ND → TY → Bool
  | .mk a d k c s t is ks, x => L.leqI a x.a && fitsNs L is k ks x
def fitsNs (L : Lt) : List ND → Int → List ByteArray → TY → Bool
  | [], _, _, _ => true
  | v :: r, k, ks, x => (match ks with
    | key :: _ => if k = 6 then fitsN L v (ofT x key) else L.leqI v.d x.r
    | [] => L.leqI v.d x.r) && fitsNs L r k ks.tail x
end
theorem fitsN_mk (L : Lt) (a d k c s : Int) (t : ByteArray) (is : List ND) (ks : List ByteArray) (x : TY) : fitsN L (.mk a d k c s t is ks) x = (L.leqI a x.a && fitsNs L is k ks x) := by simp [fitsN]
theorem fitsNs_cons (L : Lt) (v : ND) (r : List ND) (k : Int) (ks : List ByteArray) (x : TY) : fitsNs L (v :: r) k ks x = ((match ks with
    | key :: _ => if k = 6 then fitsN L v (ofT x key) else L.leqI v.d x.r
    | [] => L.leqI v.d x.r) && fitsNs L r k ks.tail x) := by
  cases ks <;> simp [fitsNs]
theorem fitsP_ok {e : FV} {L : Lt} (I : IsLat e L) {v : ND} (hv : v.Sm) : ∀ x : TY, MayT L x → x.Sm → Rt N_ltype_Fits [.fz (.pt 195 true e 0), .fz x.enc, .fz v.enc] = some ([.fz (.bool (fitsN L v x))], []) := by
  induction hv with
  | @mk a d k c s t is ks hi hk ht hs h ih =>
    intro x hx hxs
    have items : Rt N_ltype_items [.fz (.pt 195 true e 0), .fz x.enc, .fz (ND.mk a d k c s t is ks).enc] = some ([.fz (.bool (fitsNs L is k ks x))], []) := by
      obtain ⟨xa, xk, xu, xr⟩ := x
      have loop : ∀ (j i : Nat), i + j = is.length → onL (L_ltype_items_1_0 Rt (is.length + 1) true (j + 1) e (is.map ND.enc) is.length i xa (xk.map .str) (xu.map TY.enc) xr a d k c s t (is.map ND.enc) (ks.map .str)) (K_ltype_items_1 Rt (is.length + 1) true) = some ([.fz (.bool (fitsNs L (is.drop i) k (ks.drop i) (.mk xa xk xu xr)))], []) := by
        intro j
        induction j with
        | zero =>
          intro i hij
          rw [L_ltype_items_1_0_eq, List.drop_eq_nil_of_le (show is.length ≤ i by omega)]
          simp only [decide_eq_false (show ¬ ((i : Int) < (is.length : Int)) by omega), ifB_false, onL_some, X_ltype_items_1_0_eq, fitsNs]
        | succ j jh =>
          intro i hij
          have hl : i < is.length := by omega
          obtain ⟨n1, n2, n3, _⟩ := nd_cells is[i]
          have h2 := jh (i + 1) (by omega)
          have hw : IntKind.wrap .i64 ((i : Int) + 1) = ((i + 1 : Nat) : Int) := by rw [wrap64 (by omega) (by omega)]; simp
          have hg : (is.map ND.enc).getD i .nilp = (is[i]).enc := by simp [hl]
          have J2 : J_ltype_items_2_0 Rt (is.length + 1) true (j + 1) e (is.map ND.enc) is.length i xa (xk.map .str) (xu.map TY.enc) xr a d k c s t (is.map ND.enc) (ks.map .str) (is[i]).enc = (match L.leqI (is[i]).d xr with | true => L_ltype_items_1_0 Rt (is.length + 1) true (j + 1) e (is.map ND.enc) is.length (i + 1 : Nat) xa (xk.map .str) (xu.map TY.enc) xr a d k c s t (is.map ND.enc) (ks.map .str) | false => some (.ret, X_ltype_items_1_1 false)) := by
            rw [J_ltype_items_2_0_eq]
            simp only [n1, n3, onR_some, onL_some, List.isEmpty_nil, allF_cons, allF_nil, Bool.and_true, Bool.true_and, when_true', List.getD_cons_zero, List.getD_cons_succ, isF_fz, toF_fz, isBool_bool, toBool_bool, isInt_int, toInt_int, isStr_str, toStr_str, isSl_sl, toSl_sl, List.length_cons, List.length_nil, List.all_cons, List.all_nil, lisFz_fz, ltoFz_fz, beq_self_eq_true, jump_true, ifB_true, ifB_false, isF_pv, isPv_pv, toV_pv, isNil_nilp, isNil_pt, isPt_pt, toAg_ag, cell_ag, isAg_ag, fits_ag, Int.toNat_natCast, Bool.not_true, Bool.not_false, fits_int, fits_bool, fits_str, fits_sl, lat_Leq I, hw]
            cases L.leqI (is[i]).d xr <;> simp only [onR_some, onL_some, List.isEmpty_nil, allF_cons, allF_nil, Bool.and_true, Bool.true_and, when_true', List.getD_cons_zero, List.getD_cons_succ, isF_fz, toF_fz, isBool_bool, toBool_bool, isInt_int, toInt_int, isStr_str, toStr_str, isSl_sl, toSl_sl, List.length_cons, List.length_nil, List.all_cons, List.all_nil, lisFz_fz, ltoFz_fz, beq_self_eq_true, jump_true, ifB_true, ifB_false, isF_pv, isPv_pv, toV_pv, isNil_nilp, isNil_pt, isPt_pt, toAg_ag, cell_ag, isAg_ag, fits_ag, Int.toNat_natCast, Bool.not_true, Bool.not_false, fits_int, fits_bool, fits_str, fits_sl]
          have J1f : J_ltype_items_1_0 Rt (is.length + 1) true (j + 1) e i (is.map ND.enc) is.length i false xa (xk.map .str) (xu.map TY.enc) xr a d k c s t (is.map ND.enc) (ks.map .str) (is[i]).enc = (match L.leqI (is[i]).d xr with | true => L_ltype_items_1_0 Rt (is.length + 1) true (j + 1) e (is.map ND.enc) is.length (i + 1 : Nat) xa (xk.map .str) (xu.map TY.enc) xr a d k c s t (is.map ND.enc) (ks.map .str) | false => some (.ret, X_ltype_items_1_1 false)) := by
            rw [J_ltype_items_1_0_eq, ifB_false, jump_true, J2]
          have fin : ∀ b : Bool, onL (match b with | true => L_ltype_items_1_0 Rt (is.length + 1) true (j + 1) e (is.map ND.enc) is.length (i + 1 : Nat) xa (xk.map .str) (xu.map TY.enc) xr a d k c s t (is.map ND.enc) (ks.map .str) | false => some (.ret, X_ltype_items_1_1 false)) (K_ltype_items_1 Rt (is.length + 1) true) = some ([.fz (.bool (b && fitsNs L (is.drop (i + 1)) k (ks.drop (i + 1)) (.mk xa xk xu xr)))], []) := fun b => by
            cases b with
            | true => rw [Bool.true_and]; exact h2
            | false => simp only [onL_some, X_ltype_items_1_1_eq, Bool.false_and]
          rw [L_ltype_items_1_0_eq, drop_cons hl, fitsNs_cons, List.tail_drop]
          simp only [List.length_map, decide_eq_true (show (i : Int) < (is.length : Int) by omega), decide_eq_true (show (0 : Int) ≤ (i : Int) by omega), ifB_true, Bool.and_true, when_true', Int.toNat_natCast, hg, ND.enc_fits, jump_true]
          by_cases hk6 : k = 6
          · have hb6 : (k == 6) = true := by simpa using hk6
            rw [hb6, ifB_true]
            by_cases hik : i < ks.length
            · rw [decide_eq_true (show (i : Int) < (ks.length : Int) by omega), drop_cons hik]
              have h1 := ih is[i] (List.getElem_mem hl) (ofT (.mk xa xk xu xr) ks[i]) (ofT_may hx _) (ofT_sm hxs _)
              have ho := of_ok' hx hxs ks[i]
              rw [TY.enc_mk] at ho
              dsimp only
              rw [if_pos hk6]
              rw [← fin, J_ltype_items_1_0_eq, ifB_true]
              simp only [List.length_map, decide_eq_true (show (i : Int) < (ks.length : Int) by omega), decide_eq_true (show (0 : Int) ≤ (i : Int) by omega), Bool.and_true, when_true', Int.toNat_natCast, getD_str' ks hik, fits_str, isStr_str, toStr_str, ho, h1, onR_some, List.isEmpty_nil, allF_cons, allF_nil, List.getD_cons_zero, toF_fz, isBool_bool, toBool_bool, hw]
              cases fitsN L is[i] (ofT (.mk xa xk xu xr) ks[i]) <;> simp only [Bool.not_true, Bool.not_false, ifB_true, ifB_false]
            · rw [decide_eq_false (show ¬ ((i : Int) < (ks.length : Int)) by omega), J1f, List.drop_eq_nil_of_le (show ks.length ≤ i by omega), fin, List.drop_eq_nil_of_le (show ks.length ≤ i + 1 by omega)]
              rfl
          · have hb6 : (k == 6) = false := by simpa using hk6
            rw [hb6, ifB_false, J1f, fin]
            cases hkd : ks.drop i with
            | nil => rfl
            | cons y ys => dsimp only; rw [if_neg hk6]; rfl
      have l0 := loop is.length 0 (by omega)
      rw [List.drop_zero, List.drop_zero] at l0
      simp only [Int.natCast_zero] at l0
      refine rt_call A_ltype_items rfl rfl (is.length + 1) ?_
      rw [TY.enc_mk, ND.enc_mk, E_ltype_items, List.length_map]
      exact l0
    obtain ⟨xa, xk, xu, xr⟩ := x
    have hE := E_ltype_Fits Rt 0 true e xa (xk.map .str) (xu.map TY.enc) xr a d k c s t (is.map ND.enc) (ks.map .str)
    rw [← TY.enc_mk, ← ND.enc_mk, items] at hE
    refine rt_call A_ltype_Fits rfl rfl 0 (hE.trans ?_)
    rw [fitsN_mk]
    simp only [onR_some, onL_some, List.isEmpty_nil, allF_cons, allF_nil, Bool.and_true, Bool.true_and, when_true', List.getD_cons_zero, List.getD_cons_succ, isF_fz, toF_fz, isBool_bool, toBool_bool, isInt_int, toInt_int, isStr_str, toStr_str, isSl_sl, toSl_sl, List.length_cons, List.length_nil, List.all_cons, List.all_nil, lisFz_fz, ltoFz_fz, beq_self_eq_true, jump_true, ifB_true, ifB_false, isF_pv, isPv_pv, toV_pv, isNil_nilp, isNil_pt, isPt_pt, toAg_ag, cell_ag, isAg_ag, fits_ag, Int.toNat_natCast, Bool.not_true, Bool.not_false, fits_int, fits_bool, fits_str, fits_sl, lat_Leq I]
    show ifB (L.leqI a xa) _ _ = some ([TV.fz (FV.bool (L.leqI a xa && _))], [])
    cases L.leqI a xa <;> simp only [onR_some, onL_some, List.isEmpty_nil, allF_cons, allF_nil, Bool.and_true, Bool.true_and, when_true', List.getD_cons_zero, List.getD_cons_succ, isF_fz, toF_fz, isBool_bool, toBool_bool, isInt_int, toInt_int, isStr_str, toStr_str, isSl_sl, toSl_sl, List.length_cons, List.length_nil, List.all_cons, List.all_nil, lisFz_fz, ltoFz_fz, beq_self_eq_true, jump_true, ifB_true, ifB_false, isF_pv, isPv_pv, toV_pv, isNil_nilp, isNil_pt, isPt_pt, toAg_ag, cell_ag, isAg_ag, fits_ag, Int.toNat_natCast, Bool.not_true, Bool.not_false, fits_int, fits_bool, fits_str, fits_sl, Bool.false_and]
theorem may_keys {L : Lt} {a d k c s : Int} {t : ByteArray} {is : List ND} {ks : List ByteArray} (h : mayB L (.mk a d k c s t is ks) = true) (h6 : k = 6) : ks.length = is.length := by
  simp only [mayB, Bool.and_eq_true, strip_mk, shapeB_mk] at h
  have h5 := h.2.2.1
  simp only [preB, List.length_map, Bool.and_eq_true, Bool.not_eq_true', Bool.and_eq_false_iff, h6, beq_self_eq_true, Bool.true_eq_false, false_or] at h5
  have h5 := h5.1
  simp at h5
  omega
theorem may_d {L : Lt} (O : L.Ok) {v : ND} (h : mayB L v = true) : v.d = (deepN L v : Int) ∧ deepN L v < L.n := by
  obtain ⟨a, d, k, c, s, t, is, ks⟩ := v
  simp only [mayB, Bool.and_eq_true] at h
  have h1 := h.2.1
  rw [rightB_mk, Bool.and_eq_true, decide_eq_true_eq] at h1
  exact ⟨by rw [deepN_mk]; exact h1.1, deepN_lt O _ h.1⟩
end Go.Ab
