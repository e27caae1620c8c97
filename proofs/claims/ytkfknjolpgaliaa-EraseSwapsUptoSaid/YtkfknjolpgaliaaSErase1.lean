/- Nodes in which what is not seen is another one, by the program. -/
import Derived.Test.YtkfknjolpgaliaaSErase0
import Derived.Test.YtkfknjolpgaliaaSNode4
namespace Go.Ab
set_option linter.unusedVariables false
set_option linter.unusedSimpArgs false
set_option linter.unusedSectionVars false

def raiseN (L : Lt) (x : Int) : ND → ND
  | .mk a d k c s t is ks => .mk (L.joinI a x) (L.joinI d x) k c s t is ks
mutual
def swp (L : Lt) (a : Int) (m : ND) : Nat → ND → ND
  | up, .mk x d k c s t is ks => if L.leqI (L.joinI up x) a = true then .mk x (deepP L x.toNat (swps L a m (L.joinI up x) is)) k c s t (swps L a m (L.joinI up x) is) ks else raiseN L x m
def swps (L : Lt) (a : Int) (m : ND) : Nat → List ND → List ND
  | _, [] => []
  | up, v :: r => swp L a m up v :: swps L a m up r
end
theorem swps_eq (L : Lt) (a : Int) (m : ND) (up : Nat) : ∀ l : List ND, swps L a m up l = l.map (swp L a m up)
  | [] => by simp [swps]
  | v :: r => by simp [swps, swps_eq L a m up r]
theorem swp_mk (L : Lt) (a : Int) (m : ND) (up : Nat) (x d k c s : Int) (t : ByteArray) (is : List ND) (ks : List ByteArray) : swp L a m up (.mk x d k c s t is ks) = if L.leqI (L.joinI up x) a = true then .mk x (deepP L x.toNat (is.map (swp L a m (L.joinI up x)))) k c s t (is.map (swp L a m (L.joinI up x))) ks else raiseN L x m := by
  simp [swp, swps_eq]
theorem raise_sm {L : Lt} {m : ND} (hm : m.Sm) (x : Int) : (raiseN L x m).Sm := by
  cases hm with
  | mk hi hk ht hs h => exact .mk hi hk ht hs h
theorem swp_sm {L : Lt} {a : Int} {m v : ND} (hm : m.Sm) (hv : v.Sm) : ∀ up : Nat, (swp L a m up v).Sm := by
  induction hv with
  | @mk x d k c s t is ks hi hk ht hs h ih =>
    intro up
    rw [swp_mk]
    split
    · exact .mk (by simpa using hi) hk ht hs (fun v hv => by obtain ⟨y, hy, rfl⟩ := List.mem_map.1 hv; exact ih y hy _)
    · exact raise_sm hm x
theorem swap_ok {e : FV} {L : Lt} (I : IsLat e L) (a : Int) {m : ND} (hm : m.Sm) {v : ND} (hv : v.Sm) : labB L v = true → ∀ up : Nat, Rt N_erase_swap [.fz (.pt 195 true e 0), .fz v.enc, .fz m.enc, .fz (.int .i64 up), .fz (.int .i64 a)] = some ([.fz (swp L a m up v).enc], []) := by
  induction hv with
  | @mk x d k c s t is ks hi hk ht hs h ih =>
    intro hlab up
    rw [labB_mk, Bool.and_eq_true] at hlab
    have hx := Lt.is_iff.1 hlab.1
    have hj := lat_Join I up x
    have hq := lat_Leq I (L.joinI up x) a
    generalize hu : L.joinI up x = u at hj hq
    obtain ⟨xm, dm, km, cm, sm, tm, im, om⟩ := m
    have hr := raise_ok I xm dm km cm sm tm im om x
    have hme : (ND.mk xm dm km cm sm tm im om).enc = .ag [.int .i64 xm, .int .i64 dm, .int .i64 km, .int .i64 cm, .int .i64 sm, .str tm, .sl (im.map ND.enc), .sl (om.map .str)] := ND.enc_mk ..
    refine rt_call A_erase_swap rfl rfl (is.length + 1) ?_
    rw [ND.enc_mk x, hme, E_erase_swap, hj, swp_mk, hu, ← hme]
    simp only [onR_some, onL_some, List.isEmpty_nil, allF_cons, allF_nil, Bool.and_true, Bool.true_and, when_true', List.getD_cons_zero, List.getD_cons_succ, isF_fz, toF_fz, isBool_bool, toBool_bool, isInt_int, toInt_int, isStr_str, toStr_str, isSl_sl, toSl_sl, List.length_cons, List.length_nil, List.all_cons, List.all_nil, lisFz_fz, ltoFz_fz, beq_self_eq_true, jump_true, ifB_true, ifB_false, isF_pv, isPv_pv, toV_pv, isNil_nilp, isNil_pt, isPt_pt, toAg_ag, cell_ag, isAg_ag, fits_ag, Int.toNat_natCast, Bool.not_true, Bool.not_false, fits_int, fits_bool, fits_str, fits_sl, hq]
    cases hlq : L.leqI u a with
    | false => simp only [onR_some, onL_some, List.isEmpty_nil, allF_cons, allF_nil, Bool.and_true, Bool.true_and, when_true', List.getD_cons_zero, List.getD_cons_succ, isF_fz, toF_fz, isBool_bool, toBool_bool, isInt_int, toInt_int, isStr_str, toStr_str, isSl_sl, toSl_sl, List.length_cons, List.length_nil, List.all_cons, List.all_nil, lisFz_fz, ltoFz_fz, beq_self_eq_true, jump_true, ifB_true, ifB_false, isF_pv, isPv_pv, toV_pv, isNil_nilp, isNil_pt, isPt_pt, toAg_ag, cell_ag, isAg_ag, fits_ag, Int.toNat_natCast, Bool.not_true, Bool.not_false, fits_int, fits_bool, fits_str, fits_sl, hr, ND.enc_fits, Bool.false_eq_true, if_false, raiseN]
    | true =>
      rw [if_pos rfl]
      generalize hM : ND.mk xm dm km cm sm tm im om = M at ih hme hr hm ⊢
      have loop : ∀ (j i : Nat), i + j = is.length → L_erase_swap_1_0 Rt (is.length + 1) true (j + 1) e u a is.length i x d k c s t (is.map ND.enc) (ks.map .str) xm dm km cm sm tm (im.map ND.enc) (om.map .str) 0 0 0 0 0 ⟨#[]⟩ (((is.map (swp L a M u)).map ND.enc).take i ++ List.replicate (is.length - i) ND.z0.enc) =
          some (.exit 0, X_erase_swap_1_0 e x d k c s t (is.map ND.enc) (ks.map .str) 0 0 0 0 0 ⟨#[]⟩ ((is.map (swp L a M u)).map ND.enc)) := by
        intro j
        induction j with
        | zero =>
          intro i hij
          rw [L_erase_swap_1_0_eq]
          have : ((is.map (swp L a M u)).map ND.enc).take i ++ List.replicate (is.length - i) ND.z0.enc = (is.map (swp L a M u)).map ND.enc := by
            rw [show is.length - i = 0 by omega, List.replicate_zero, List.append_nil, List.take_of_length_le (by simp; omega)]
          rw [this, decide_eq_false (show ¬ ((i : Int) < (is.length : Int)) by omega), ifB_false]
        | succ j jh =>
          intro i hij
          have hl : i < is.length := by omega
          have h1 := ih is[i] (List.getElem_mem hl) (labBs_iff.1 hlab.2 _ (List.getElem_mem hl)) u
          have h2 := jh (i + 1) (by omega)
          push_cast at h2
          have hw : IntKind.wrap .i64 ((i : Int) + 1) = (i : Int) + 1 := wrap64 (by omega) (by omega)
          have hg : (is.map ND.enc).getD i .nilp = (is[i]).enc := by simp [hl]
          have hlen : (((is.map (swp L a M u)).map ND.enc).take i ++ List.replicate (is.length - i) ND.z0.enc).length = is.length := by simp; omega
          have hset := set_mix (l := (is.map (swp L a M u)).map ND.enc) (z := ND.z0.enc) (n := is.length) (i := i) (by simp) hl
          have hget : ((is.map (swp L a M u)).map ND.enc)[i]'(by simp; omega) = (swp L a M u is[i]).enc := by simp
          rw [hget] at hset
          have hbl : Nat.blt i is.length = true := by rw [Nat.blt_eq]; omega
          rw [L_erase_swap_1_0_eq, ← hme]
          simp only [List.length_map, hlen, decide_eq_true (show (i : Int) < (is.length : Int) by omega), decide_eq_true (show (0 : Int) ≤ (i : Int) by omega), ifB_true, Bool.and_true, when_true', Int.toNat_natCast, hg, ND.enc_fits, h1, onR_some, List.isEmpty_nil, allF_cons, allF_nil, List.getD_cons_zero, toF_fz, hbl, hset, hw, h2]
      have l0 := loop is.length 0 (by omega)
      rw [List.take_zero, List.nil_append, Nat.sub_zero] at l0
      simp only [Int.natCast_zero] at l0
      have ha := array_ok I x.toNat (is.map (swp L a M u)) (by simpa using hi)
      rw [Int.toNat_of_nonneg hx.1] at ha
      have roomN' := roomN hi
      simp only [onR_some, onL_some, List.isEmpty_nil, allF_cons, allF_nil, Bool.and_true, Bool.true_and, when_true', List.getD_cons_zero, List.getD_cons_succ, isF_fz, toF_fz, isBool_bool, toBool_bool, isInt_int, toInt_int, isStr_str, toStr_str, isSl_sl, toSl_sl, List.length_cons, List.length_nil, List.all_cons, List.all_nil, lisFz_fz, ltoFz_fz, beq_self_eq_true, jump_true, ifB_true, ifB_false, isF_pv, isPv_pv, toV_pv, isNil_nilp, isNil_pt, isPt_pt, toAg_ag, cell_ag, isAg_ag, fits_ag, Int.toNat_natCast, Bool.not_true, Bool.not_false, fits_int, fits_bool, fits_str, fits_sl, List.length_map, roomN', nz0, l0, X_erase_swap_1_0_eq, ha, ND.enc_fits, all_fits_str]
      have hr := roomK ks hk
      rw [List.length_map] at hr
      rw [hr, when_true', ND.enc_mk, ND.enc_mk]
      simp only [onR_some, onL_some, List.isEmpty_nil, allF_cons, allF_nil, Bool.and_true, Bool.true_and, when_true', List.getD_cons_zero, List.getD_cons_succ, isF_fz, toF_fz, isBool_bool, toBool_bool, isInt_int, toInt_int, isStr_str, toStr_str, isSl_sl, toSl_sl, List.length_cons, List.length_nil, List.all_cons, List.all_nil, lisFz_fz, ltoFz_fz, beq_self_eq_true, jump_true, ifB_true, ifB_false, isF_pv, isPv_pv, toV_pv, isNil_nilp, isNil_pt, isPt_pt, toAg_ag, cell_ag, isAg_ag, fits_ag, Int.toNat_natCast, Bool.not_true, Bool.not_false, fits_int, fits_bool, fits_str, fits_sl, List.set_cons_succ, List.set_cons_zero]
theorem Swap_ok {e : FV} {L : Lt} (I : IsLat e L) (a : Int) {m : ND} (hm : m.Sm) {v : ND} (hv : v.Sm) (hl : labB L v = true) : Rt N_erase_Swap [.fz (.pt 195 true e 0), .fz v.enc, .fz m.enc, .fz (.int .i64 a)] = some ([.fz (swp L a m L.bot v).enc], []) := by
  have h := swap_ok I a hm hv hl L.bot
  have hf := (swp L a m L.bot v).enc_fits
  obtain ⟨x, d, k, c, s, t, is, ks⟩ := v
  obtain ⟨x', d', k', c', s', t', is', ks'⟩ := m
  have hE := E_erase_Swap Rt 0 true e x d k c s t (is.map ND.enc) (ks.map .str) x' d' k' c' s' t' (is'.map ND.enc) (ks'.map .str) a
  rw [← ND.enc_mk, ← ND.enc_mk] at hE
  refine rt_call A_erase_Swap rfl rfl 0 (hE.trans ?_)
  simp only [lat_Bottom I, onR_some, onL_some, List.isEmpty_nil, allF_cons, allF_nil, Bool.and_true, Bool.true_and, when_true', List.getD_cons_zero, List.getD_cons_succ, isF_fz, toF_fz, isBool_bool, toBool_bool, isInt_int, toInt_int, isStr_str, toStr_str, isSl_sl, toSl_sl, List.length_cons, List.length_nil, List.all_cons, List.all_nil, lisFz_fz, ltoFz_fz, beq_self_eq_true, jump_true, ifB_true, ifB_false, isF_pv, isPv_pv, toV_pv, isNil_nilp, isNil_pt, isPt_pt, toAg_ag, cell_ag, isAg_ag, fits_ag, Int.toNat_natCast, Bool.not_true, Bool.not_false, fits_int, fits_bool, fits_str, fits_sl, h, hf]
theorem alike_ok {e : FV} {L : Lt} (I : IsLat e L) (a : Int) {v m : ND} (hv : v.Sm) (hm : m.Sm) : Rt N_erase_Alike [.fz (.pt 195 true e 0), .fz v.enc, .fz m.enc, .fz (.int .i64 a)] = some ([.fz (.bool (sameND (und L a L.bot v) (und L a L.bot m)))], []) := by
  have h1 := at_ok I a hv
  have h2 := at_ok I a hm
  have hs := nsame_ok (und_sm (L := L) (a := a) hv L.bot) (und L a L.bot m)
  obtain ⟨x, d, k, c, s, t, is, ks⟩ := v
  obtain ⟨x', d', k', c', s', t', is', ks'⟩ := m
  have hE := E_erase_Alike Rt 0 true e x d k c s t (is.map ND.enc) (ks.map .str) x' d' k' c' s' t' (is'.map ND.enc) (ks'.map .str) a
  rw [← ND.enc_mk, ← ND.enc_mk] at hE
  refine rt_call A_erase_Alike rfl rfl 0 (hE.trans ?_)
  simp only [onR_some, onL_some, List.isEmpty_nil, allF_cons, allF_nil, Bool.and_true, Bool.true_and, when_true', List.getD_cons_zero, List.getD_cons_succ, isF_fz, toF_fz, isBool_bool, toBool_bool, isInt_int, toInt_int, isStr_str, toStr_str, isSl_sl, toSl_sl, List.length_cons, List.length_nil, List.all_cons, List.all_nil, lisFz_fz, ltoFz_fz, beq_self_eq_true, jump_true, ifB_true, ifB_false, isF_pv, isPv_pv, toV_pv, isNil_nilp, isNil_pt, isPt_pt, toAg_ag, cell_ag, isAg_ag, fits_ag, Int.toNat_natCast, Bool.not_true, Bool.not_false, fits_int, fits_bool, fits_str, fits_sl, h1, h2, hs]
end Go.Ab
