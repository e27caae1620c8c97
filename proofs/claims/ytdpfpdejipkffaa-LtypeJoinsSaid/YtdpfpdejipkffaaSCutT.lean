/- All labels of a type; cutting one; what one says of any item. -/
import Derived.Test.YtdpfpdejipkffaaSJoinT
namespace Go.Ab
open Go.Proofs
set_option linter.unusedVariables false
set_option linter.unusedSimpArgs false
set_option linter.unusedSectionVars false
theorem allTs_join {L : Lt} (O : L.Ok) {p : Nat} (hp : p < L.n) : ∀ (us : List TY) (q : Nat), q < L.n → allTs L (L.join p q) us = L.join p (allTs L q us)
  | [], q, hq => by simp [allTs]
  | u :: us, q, hq => by
    have hu := allT_lt O u
    rw [allTs, allTs, ← O.join_assoc hp hq hu, allTs_join O hp us _ (O.join _ _ hq hu)]
/-- All labels below a type. -/
def belT (L : Lt) (v : TY) : Nat := allTs L (L.joinI v.r v.r) v.us
theorem belowP_ok {e : FV} {L : Lt} (I : IsLat e L) {v : TY} (hv : v.Sm) : MayT L v → Rt N_ltype_Below [.fz (.pt 195 true e 0), .fz v.enc] = some ([.fz (.int .i64 (belT L v))], []) ∧ Rt N_ltype_All [.fz (.pt 195 true e 0), .fz v.enc] = some ([.fz (.int .i64 (allT L v))], []) := by
  have O := I.ok
  induction hv with
  | @mk a r ks us hk hu h ih =>
    intro hm
    cases hm with
    | mk ha hr hll hpp hm =>
    obtain ⟨a0, a1⟩ := Lt.is_iff.1 ha
    obtain ⟨r0, r1⟩ := Lt.is_iff.1 hr
    obtain ⟨p, rfl⟩ : ∃ p : Nat, a = p := ⟨a.toNat, by omega⟩
    obtain ⟨q, rfl⟩ : ∃ q : Nat, r = q := ⟨r.toNat, by omega⟩
    have hp : p < L.n := by omega
    have hq : q < L.n := by omega
    have loop : ∀ (j i acc : Nat), acc < L.n → i + j = us.length → L_ltype_Below_1_0 Rt (us.length + 1) true (j + 1) e acc (us.map TY.enc) us.length i = some (.exit 0, X_ltype_Below_1_0 (allTs L acc (us.drop i) : Nat)) := by
      intro j
      induction j with
      | zero =>
        intro i acc hacc hij
        rw [L_ltype_Below_1_0_eq, List.drop_eq_nil_of_le (by omega)]
        simp [show ¬ ((i : Int) < (us.length : Int)) by omega, allTs]
      | succ j jh =>
        intro i acc hacc hij
        have hl : i < us.length := by omega
        have h1 := (ih us[i] (List.getElem_mem hl) (hm us[i] (List.getElem_mem hl))).2
        have hd := allT_lt O us[i]
        have hj := lat_Join I acc (allT L us[i])
        rw [Lt.joinI_nat hacc hd] at hj
        have h2 := jh (i + 1) (L.join acc (allT L us[i])) (O.join _ _ hacc hd) (by omega)
        have hw : IntKind.wrap .i64 ((i : Int) + 1) = ((i + 1 : Nat) : Int) := by rw [wrap64 (by omega) (by omega)]; simp
        have hg : (us.map TY.enc).getD i .nilp = (us[i]).enc := by simp [hl]
        rw [L_ltype_Below_1_0_eq, drop_cons hl, allTs]
        simp only [List.length_map, decide_eq_true (show (i : Int) < (us.length : Int) by omega), decide_eq_true (show (0 : Int) ≤ (i : Int) by omega), ifB_true, Bool.and_true, when_true', Int.toNat_natCast, hg, TY.enc_fits, h1, hj, onR_some, List.isEmpty_nil, allF_cons, allF_nil, List.getD_cons_zero, toF_fz, isInt_int, toInt_int, hw, h2]
    have l0 := loop us.length 0 q hq (by omega)
    rw [List.drop_zero] at l0
    simp only [Int.natCast_zero] at l0
    have hself : L.joinI q q = q := by rw [Lt.joinI_nat hq hq, join_self O hq]
    have hB : Rt N_ltype_Below [.fz (.pt 195 true e 0), .fz (TY.mk p ks us q).enc] = some ([.fz (.int .i64 (allTs L q us))], []) := by
      refine rt_call A_ltype_Below rfl rfl (us.length + 1) ?_
      rw [TY.enc_mk, E_ltype_Below, List.length_map, l0, onL_some, X_ltype_Below_1_0_eq]
    refine ⟨by unfold belT; simp only [TY.r, TY.us, hself]; exact hB, rt_call A_ltype_All rfl rfl 0 ?_⟩
    have hlt := allTs_lt O us q hq
    have hj := lat_Join I p (allTs L q us)
    rw [Lt.joinI_nat hp hlt] at hj
    rw [allT_mk, Lt.joinI_nat hp hq, allTs_join O hp us q hq]
    rw [TY.enc_mk] at hB ⊢
    rw [E_ltype_All, hB]
    simp only [onR_some, onL_some, List.isEmpty_nil, allF_cons, allF_nil, Bool.and_true, Bool.true_and, when_true', List.getD_cons_zero, List.getD_cons_succ, isF_fz, toF_fz, isBool_bool, toBool_bool, isInt_int, toInt_int, isStr_str, toStr_str, isSl_sl, toSl_sl, List.length_cons, List.length_nil, List.all_cons, List.all_nil, lisFz_fz, ltoFz_fz, beq_self_eq_true, jump_true, ifB_true, ifB_false, isF_pv, isPv_pv, toV_pv, isNil_nilp, isNil_pt, isPt_pt, toAg_ag, cell_ag, isAg_ag, fits_ag, Int.toNat_natCast, Bool.not_true, Bool.not_false, fits_int, fits_bool, fits_str, fits_sl, hj]
theorem below9_ok {t9 : List FV} {L : Lt} (T : IsTab t9 L) (O : L.Ok) {v : TY} (hsm : v.Sm) (hm : MayT L v) : Rt N_ref25_Below [.fz (.sl t9), .fz v.enc] = some ([.fz (.int .i64 (belT L v))], []) := by
  obtain ⟨a, ks, us, r⟩ := v
  cases hm with
  | mk ha hr hl hp h =>
  have hal := all9_ok T O (v := .mk r ks us r) (by cases hsm with | mk hk hu h => exact .mk hk hu h) hr hr h
  refine rt_call A_ref25_Below rfl rfl 0 ?_
  rw [allT_mk] at hal
  rw [TY.enc_mk] at hal ⊢
  rw [E_ref25_Below, hal]
  simp only [onR_some, onL_some, List.isEmpty_nil, allF_cons, allF_nil, Bool.and_true, Bool.true_and, when_true', List.getD_cons_zero, List.getD_cons_succ, isF_fz, toF_fz, isBool_bool, toBool_bool, isInt_int, toInt_int, isStr_str, toStr_str, isSl_sl, toSl_sl, List.length_cons, List.length_nil, List.all_cons, List.all_nil, lisFz_fz, ltoFz_fz, beq_self_eq_true, jump_true, ifB_true, ifB_false, isF_pv, isPv_pv, toV_pv, isNil_nilp, isNil_pt, isPt_pt, toAg_ag, cell_ag, isAg_ag, fits_ag, Int.toNat_natCast, Bool.not_true, Bool.not_false, fits_int, fits_bool, fits_str, fits_sl]
  rfl
end Go.Ab
