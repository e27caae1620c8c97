/- All labels of a type; cutting one; what one says of any item. -/
import Derived.Test.YtdpfpdejipkffaaSJoinT
namespace Go.Ab
open Go.Proofs
set_option linter.unusedVariables false
set_option linter.unusedSimpArgs false
set_option linter.unusedSectionVars false
theorem allTs_join {L : Lt} (O : L.Ok) {p : Nat} (hp : p < L.n) : ∀ (us : List TY) (q : Nat), q < L.n → allTs L (L.join p q) us = L.join p (allTs L q us)
  | [], q, hq => by simp [allTs]
  | u :: us, q, hq => by
    have hu := allT_lt O u
    rw [allTs, allTs, ← O.join_assoc hp hq hu, allTs_join O hp us _ (O.join _ _ hq hu)]
/-- All labels below a type. -/
def belT (L : Lt) (v : TY) : Nat := allTs L (L.joinI v.r v.r) v.us
theorem belT_lt {L : Lt} (O : L.Ok) (v : TY) : belT L v < L.n := allTs_lt O _ _ (O.joinI_lt _ _)
theorem belowP_ok {e : FV} {L : Lt} (I : IsLat e L) {v : TY} (hv : v.Sm) : MayT L v → Rt N_ltype_Below [.fz (.pt 195 true e 0), .fz v.enc] = some ([.fz (.int .i64 (belT L v))], []) ∧ Rt N_ltype_All [.fz (.pt 195 true e 0), .fz v.enc] = some ([.fz (.int .i64 (allT L v))], []) := by
  have O := I.ok
  induction hv with
  | @mk a r ks us hk hu h ih =>
    intro hm
    cases hm with
    | mk ha hr hll hpp hm =>
    obtain ⟨a0, a1⟩ := Lt.is_iff.1 ha
    obtain ⟨r0, r1⟩ := Lt.is_iff.1 hr
    obtain ⟨p, rfl⟩ : ∃ p : Nat, a = p := ⟨a.toNat, by omega⟩
    obtain ⟨q, rfl⟩ : ∃ q : Nat, r = q := ⟨r.toNat, by omega⟩
    have hp : p < L.n := by omega
    have hq : q < L.n := by omega
    have loop : ∀ (j i acc : Nat), acc < L.n → i + j = us.length → L_ltype_Below_1_0 Rt (us.length + 1) true (j + 1) e acc (us.map TY.enc) us.length i = some (.exit 0, X_ltype_Below_1_0 (allTs L acc (us.drop i) : Nat)) := by
      intro j
      induction j with
      | zero =>
        intro i acc hacc hij
        rw [L_ltype_Below_1_0_eq, List.drop_eq_nil_of_le (by omega)]
        simp [show ¬ ((i : Int) < (us.length : Int)) by omega, allTs]
      | succ j jh =>
        intro i acc hacc hij
        have hl : i < us.length := by omega
        have h1 := (ih us[i] (List.getElem_mem hl) (hm us[i] (List.getElem_mem hl))).2
        have hd := allT_lt O us[i]
        have hj := lat_Join I acc (allT L us[i])
        rw [Lt.joinI_nat hacc hd] at hj
        have h2 := jh (i + 1) (L.join acc (allT L us[i])) (O.join _ _ hacc hd) (by omega)
        have hw : IntKind.wrap .i64 ((i : Int) + 1) = ((i + 1 : Nat) : Int) := by rw [wrap64 (by omega) (by omega)]; simp
        have hg : (us.map TY.enc).getD i .nilp = (us[i]).enc := by simp [hl]
        rw [L_ltype_Below_1_0_eq, drop_cons hl, allTs]
        simp only [List.length_map, decide_eq_true (show (i : Int) < (us.length : Int) by omega), decide_eq_true (show (0 : Int) ≤ (i : Int) by omega), ifB_true, Bool.and_true, when_true', Int.toNat_natCast, hg, TY.enc_fits, h1, hj, onR_some, List.isEmpty_nil, allF_cons, allF_nil, List.getD_cons_zero, toF_fz, isInt_int, toInt_int, hw, h2]
    have l0 := loop us.length 0 q hq (by omega)
    rw [List.drop_zero] at l0
    simp only [Int.natCast_zero] at l0
    have hself : L.joinI q q = q := by rw [Lt.joinI_nat hq hq, join_self O hq]
    have hB : Rt N_ltype_Below [.fz (.pt 195 true e 0), .fz (TY.mk p ks us q).enc] = some ([.fz (.int .i64 (allTs L q us))], []) := by
      refine rt_call A_ltype_Below rfl rfl (us.length + 1) ?_
      rw [TY.enc_mk, E_ltype_Below, List.length_map, l0, onL_some, X_ltype_Below_1_0_eq]
    refine ⟨by unfold belT; simp only [TY.r, TY.us, hself]; exact hB, rt_call A_ltype_All rfl rfl 0 ?_⟩
    have hlt := allTs_lt O us q hq
    have hj := lat_Join I p (allTs L q us)
    rw [Lt.joinI_nat hp hlt] at hj
    rw [allT_mk, Lt.joinI_nat hp hq, allTs_join O hp us q hq]
    rw [TY.enc_mk] at hB ⊢
    rw [E_ltype_All, hB]
    simp only [onR_some, onL_some, List.isEmpty_nil, allF_cons, allF_nil, Bool.and_true, Bool.true_and, when_true', List.getD_cons_zero, List.getD_cons_succ, isF_fz, toF_fz, isBool_bool, toBool_bool, isInt_int, toInt_int, isStr_str, toStr_str, isSl_sl, toSl_sl, List.length_cons, List.length_nil, List.all_cons, List.all_nil, lisFz_fz, ltoFz_fz, beq_self_eq_true, jump_true, ifB_true, ifB_false, isF_pv, isPv_pv, toV_pv, isNil_nilp, isNil_pt, isPt_pt, toAg_ag, cell_ag, isAg_ag, fits_ag, Int.toNat_natCast, Bool.not_true, Bool.not_false, fits_int, fits_bool, fits_str, fits_sl, hj]
theorem cut0 (L : Lt) (v : TY) : cutT L 0 v = .mk v.a [] [] (belT L v) := by obtain ⟨a, ks, us, r⟩ := v; rfl
theorem cutS (L : Lt) (d : Nat) (a : Int) (ks : List ByteArray) (us : List TY) (r : Int) : cutT L (d + 1) (.mk a ks us r) = .mk a ks (us.map (cutT L d)) r := rfl
theorem cutP_ok {e : FV} {L : Lt} (I : IsLat e L) : ∀ (d : Nat) (di : Int), di.toNat = d → -9223372036854775808 ≤ di → di ≤ 9223372036854775807 → ∀ {v : TY}, v.Ti → MayT L v → Rt N_ltype_Cut [.fz (.pt 195 true e 0), .fz v.enc, .fz (.int .i64 di)] = some ([.fz (cutT L d v).enc], []) := by
  intro d
  induction d with
  | zero =>
    intro di hdi hlo hhi v hv hm
    have hb := (belowP_ok I hv.sm hm).1
    refine rt_call A_ltype_Cut rfl rfl 0 ?_
    rw [cut0]
    obtain ⟨a, ks, us, r⟩ := v
    rw [TY.enc_mk] at hb ⊢
    rw [E_ltype_Cut, hb, TY.enc_mk, decide_eq_true (show di ≤ 0 by omega)]
    simp only [onR_some, onL_some, List.isEmpty_nil, allF_cons, allF_nil, Bool.and_true, Bool.true_and, when_true', List.getD_cons_zero, List.getD_cons_succ, isF_fz, toF_fz, isBool_bool, toBool_bool, isInt_int, toInt_int, isStr_str, toStr_str, isSl_sl, toSl_sl, List.length_cons, List.length_nil, List.all_cons, List.all_nil, lisFz_fz, ltoFz_fz, beq_self_eq_true, jump_true, ifB_true, ifB_false, isF_pv, isPv_pv, toV_pv, isNil_nilp, isNil_pt, isPt_pt, toAg_ag, cell_ag, isAg_ag, fits_ag, Int.toNat_natCast, Bool.not_true, Bool.not_false, fits_int, fits_bool, fits_str, fits_sl, List.map_nil, TY.a]
  | succ d ih =>
    intro di hdi hlo hhi v hv hm
    obtain ⟨a, ks, us, r⟩ := v
    cases hv with
    | mk hk hu hti =>
    cases hm with
    | mk ha hr hl hp h =>
    have hw1 : IntKind.wrap .i64 (di - 1) = di - 1 := by rw [wrap64 (by omega) (by omega)]
    have hc := clone_ok ks hk
    have z : ∀ (z0 z1 : Int) (j i : Nat), i + j = us.length → onL (L_ltype_Cut_1_1 Rt (us.length + 1) true (j + 1) e di (us.map TY.enc) us.length i z0 z1 a (.sl (ks.map .str)) r (((us.map (cutT L d)).take i).map TY.enc)) (K_ltype_Cut_1 Rt (us.length + 1) true) = some ([.fz (TY.mk a ks (us.map (cutT L d)) r).enc], []) := by
      intro z0 z1 j
      induction j with
      | zero =>
        intro i hij
        rw [L_ltype_Cut_1_1_eq, List.take_of_length_le (show (us.map (cutT L d)).length ≤ i by simp; omega), TY.enc_mk]
        simp only [decide_eq_false (show ¬ ((i : Int) < (us.length : Int)) by omega), ifB_false, onL_some, X_ltype_Cut_1_1_eq]
      | succ j jh =>
        intro i hij
        have hl' : i < us.length := by omega
        have h1 := ih (di - 1) (by omega) (by omega) (by omega) (hti us[i] (List.getElem_mem hl')) (h us[i] (List.getElem_mem hl'))
        have h2 := jh (i + 1) (by omega)
        rw [take_snoc (l := us.map (cutT L d)) (i := i) (by simpa using hl'), List.map_append, List.map_singleton, List.getElem_map] at h2
        have hw : IntKind.wrap .i64 ((i : Int) + 1) = ((i + 1 : Nat) : Int) := by rw [wrap64 (by omega) (by omega)]; simp
        have hro : (decide (((((us.map (cutT L d)).take i).map TY.enc).length + [(cutT L d us[i]).enc].length) * 64 ≤ roomy) && decide ((((us.map (cutT L d)).take i).map TY.enc).length + [(cutT L d us[i]).enc].length ≤ roomy)) = true := by
          have : roomy = 140737488355328 := rfl
          simp; omega
        have hg : (us.map TY.enc).getD i .nilp = (us[i]).enc := by simp [hl']
        rw [L_ltype_Cut_1_1_eq]
        simp only [List.length_map, decide_eq_true (show (i : Int) < (us.length : Int) by omega), decide_eq_true (show (0 : Int) ≤ (i : Int) by omega), ifB_true, Bool.and_true, when_true', Int.toNat_natCast, hg, TY.enc_fits, hw1, h1, onR_some, List.isEmpty_nil, allF_cons, allF_nil, List.getD_cons_zero, toF_fz, hw] at hro ⊢
        simp only [hro, when_true']
        exact h2
    refine rt_call A_ltype_Cut rfl rfl (us.length + 1) ?_
    rw [TY.enc_mk, E_ltype_Cut, cutS, decide_eq_false (show ¬ (di ≤ 0) by omega), ifB_false, hc]
    simp only [onR_some, List.isEmpty_nil, allF_cons, allF_nil, Bool.and_true, when_true', List.getD_cons_zero, toF_fz, fits_sl, List.length_map]
    rw [L_ltype_Cut_1_0_eq]
    cases us with
    | nil =>
      simp only [List.map_nil, List.length_nil, decide_eq_false (show ¬ ((0 : Int) < ((0 : Nat) : Int)) by omega), ifB_false, onL_some, X_ltype_Cut_1_0_eq, TY.enc_mk]
    | cons u us =>
      have h1 := ih (di - 1) (by omega) (by omega) (by omega) (hti u (List.mem_cons_self ..)) (h u (List.mem_cons_self ..))
      have h2 := z 0 0 us.length 1 (by simp; omega)
      rw [show ((u :: us).map (cutT L d)).take 1 = [cutT L d u] from rfl, List.map_singleton] at h2
      have w0 : IntKind.wrap .i64 ((0 : Int) + 1) = ((1 : Nat) : Int) := by rw [wrap64 (by omega) (by omega)]; rfl
      have d0 : decide ((0 : Int) ≤ 0) = true := by decide
      have t0 : (0 : Int).toNat = 0 := rfl
      have hro0 := roomT0 (cutT L d u).enc
      simp only [List.map_cons, List.length_cons, List.length_map, decide_eq_true (show (0 : Int) < ((us.length + 1 : Nat) : Int) by omega), d0, t0, ifB_true, Bool.and_true, when_true', List.getD_cons_zero, TY.enc_fits, hw1, h1, onR_some, List.isEmpty_nil, allF_cons, allF_nil, toF_fz, w0] at h2 hro0 ⊢
      simp only [hro0, when_true']
      exact h2
end Go.Ab
