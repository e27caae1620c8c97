/- The least type that a node fits; types that are cut. -/
import Derived.Test.YtdpfpdejipkffaaSTy3
import Derived.Test.YtdpfpdejipkffaaSBot9
namespace Go.Ab
set_option linter.unusedVariables false
set_option linter.unusedSimpArgs false
set_option linter.unusedSectionVars false
theorem MayT.ha {L : Lt} {v : TY} (h : MayT L v) : L.is v.a = true := by cases h with | mk ha _ _ _ _ => exact ha
theorem MayT.hr {L : Lt} {v : TY} (h : MayT L v) : L.is v.r = true := by cases h with | mk _ hr _ _ _ => exact hr
theorem MayT.hu {L : Lt} {v : TY} (h : MayT L v) : ∀ u ∈ v.us, MayT L u := by cases h with | mk _ _ _ _ h => exact h
/-- No list in it is great. -/
inductive TY.Ti : TY → Prop where
  | mk {a r : Int} {ks : List ByteArray} {us : List TY} (hk : ks.length ≤ 134217728) (hu : us.length ≤ 134217728) (h : ∀ v ∈ us, v.Ti) : (TY.mk a ks us r).Ti
theorem TY.Ti.sm {v : TY} (h : v.Ti) : v.Sm := by
  induction h with
  | mk hk hu h ih => exact .mk (by omega) (by omega) ih
mutual
def allT (L : Lt) : TY → Nat
  | .mk a ks us r => allTs L (L.joinI a r) us
def allTs (L : Lt) : Nat → List TY → Nat
  | acc, [] => acc
  | acc, u :: us => allTs L (L.join acc (allT L u)) us
end
theorem allT_mk (L : Lt) (a : Int) (ks : List ByteArray) (us : List TY) (r : Int) : allT L (.mk a ks us r) = allTs L (L.joinI a r) us := by simp [allT]
mutual
theorem allT_lt {L : Lt} (O : L.Ok) : ∀ v : TY, allT L v < L.n
  | .mk a ks us r => by rw [allT_mk]; exact allTs_lt O us _ (O.joinI_lt a r)
theorem allTs_lt {L : Lt} (O : L.Ok) : ∀ (us : List TY) (acc : Nat), acc < L.n → allTs L acc us < L.n
  | [], acc, h => by simpa [allTs] using h
  | u :: us, acc, h => by rw [allTs]; exact allTs_lt O us _ (O.join _ _ h (allT_lt O u))
end
def cutT (L : Lt) : Nat → TY → TY
  | 0, .mk a ks us r => .mk a [] [] (allTs L (L.joinI r r) us)
  | d + 1, .mk a ks us r => .mk a ks (us.map (cutT L d)) r
mutual
def wholeN (L : Lt) : ND → TY
  | .mk a d k c s t is ks => if k = 6 then .mk a ks (wholeNs L is) L.bot else .mk a [] [] (deepNs L L.bot is)
def wholeNs (L : Lt) : List ND → List TY
  | [] => []
  | v :: r => wholeN L v :: wholeNs L r
end
theorem wholeNs_eq (L : Lt) : ∀ l : List ND, wholeNs L l = l.map (wholeN L)
  | [] => by simp [wholeNs]
  | v :: r => by simp [wholeNs, wholeNs_eq L r]
theorem wholeN_mk (L : Lt) (a d k c s : Int) (t : ByteArray) (is : List ND) (ks : List ByteArray) : wholeN L (.mk a d k c s t is ks) = if k = 6 then .mk a ks (is.map (wholeN L)) L.bot else .mk a [] [] (deepNs L L.bot is) := by simp [wholeN, wholeNs_eq]
def leastN (L : Lt) : Nat → ND → TY
  | 0, .mk a d k c s t is ks => .mk a [] [] (deepNs L L.bot is)
  | m + 1, .mk a d k c s t is ks => if k = 6 then .mk a ks (is.map (leastN L m)) L.bot else .mk a [] [] (deepNs L L.bot is)
theorem all9_ok {t9 : List FV} {L : Lt} (T : IsTab t9 L) (O : L.Ok) {v : TY} (hv : v.Sm) : L.is v.a = true → L.is v.r = true → (∀ u ∈ v.us, MayT L u) → Rt N_ref25_All [.fz (.sl t9), .fz v.enc] = some ([.fz (.int .i64 (allT L v))], []) := by
  induction hv with
  | @mk a r ks us hk hu h ih =>
    intro ha hr hm
    obtain ⟨a0, a1⟩ := Lt.is_iff.1 ha
    obtain ⟨r0, r1⟩ := Lt.is_iff.1 hr
    obtain ⟨p, rfl⟩ : ∃ p : Nat, a = p := ⟨a.toNat, by simp only [TY.a] at a0; omega⟩
    obtain ⟨q, rfl⟩ : ∃ q : Nat, r = q := ⟨r.toNat, by simp only [TY.r] at r0; omega⟩
    have hp : p < L.n := by simp only [TY.a] at a1; omega
    have hq : q < L.n := by simp only [TY.r] at r1; omega
    have loop : ∀ (j i acc : Nat), acc < L.n → i + j = us.length → L_ref25_All_1_0 Rt (us.length + 1) true (j + 1) t9 acc i p (ks.map .str) (us.map TY.enc) q = some (.exit 0, X_ref25_All_1_0 (allTs L acc (us.drop i) : Nat)) := by
      intro j
      induction j with
      | zero =>
        intro i acc hacc hij
        rw [L_ref25_All_1_0_eq, List.drop_eq_nil_of_le (by omega)]
        simp [show ¬ ((i : Int) < (us.length : Int)) by omega, allTs]
      | succ j jh =>
        intro i acc hacc hij
        have hl : i < us.length := by omega
        have hmi := hm us[i] (List.getElem_mem hl)
        have h1 : Rt N_ref25_All [.fz (.sl t9), .fz (us[i]).enc] = some ([.fz (.int .i64 (allT L us[i]))], []) := by
          exact ih us[i] (List.getElem_mem hl) hmi.ha hmi.hr hmi.hu
        have hd := allT_lt O us[i]
        have hj := join9_ok T O hacc hd
        have h2 := jh (i + 1) (L.join acc (allT L us[i])) (O.join _ _ hacc hd) (by omega)
        have hw : IntKind.wrap .i64 ((i : Int) + 1) = ((i + 1 : Nat) : Int) := by rw [wrap64 (by omega) (by omega)]; simp
        have hg : (us.map TY.enc).getD i .nilp = (us[i]).enc := by simp [hl]
        rw [L_ref25_All_1_0_eq, drop_cons hl, allTs]
        simp only [List.length_map, decide_eq_true (show (i : Int) < (us.length : Int) by omega), decide_eq_true (show (0 : Int) ≤ (i : Int) by omega), ifB_true, Bool.and_true, when_true', Int.toNat_natCast, hg, TY.enc_fits, h1, hj, onR_some, List.isEmpty_nil, allF_cons, allF_nil, List.getD_cons_zero, toF_fz, isInt_int, toInt_int, hw, h2]
    have l0 := loop us.length 0 (L.join p q) (O.join _ _ hp hq) (by omega)
    rw [List.drop_zero] at l0
    simp only [Int.natCast_zero] at l0
    refine rt_call A_ref25_All rfl rfl (us.length + 1) ?_
    rw [TY.enc_mk, E_ref25_All, join9_ok T O hp hq, allT_mk, Lt.joinI_nat hp hq]
    simp only [onR_some, onL_some, List.isEmpty_nil, allF_cons, allF_nil, Bool.and_true, Bool.true_and, when_true', List.getD_cons_zero, List.getD_cons_succ, isF_fz, toF_fz, isBool_bool, toBool_bool, isInt_int, toInt_int, isStr_str, toStr_str, isSl_sl, toSl_sl, List.length_cons, List.length_nil, List.all_cons, List.all_nil, lisFz_fz, ltoFz_fz, beq_self_eq_true, jump_true, ifB_true, ifB_false, isF_pv, isPv_pv, toV_pv, isNil_nilp, isNil_pt, isPt_pt, toAg_ag, cell_ag, isAg_ag, fits_ag, Int.toNat_natCast, Bool.not_true, Bool.not_false, fits_int, fits_bool, fits_str, fits_sl, l0, X_ref25_All_1_0_eq]
theorem roomT (n : Nat) (x : FV) (l : List FV) (h : l.length = n) (hn : n < 134217728) : (decide ((l.length + [x].length) * 64 ≤ roomy) && decide (l.length + [x].length ≤ roomy)) = true := by
  have : roomy = 140737488355328 := rfl
  simp; omega
theorem roomT0 (x : FV) : (decide (((0 : Nat) + [x].length) * 64 ≤ roomy) && decide ((0 : Nat) + [x].length ≤ roomy)) = true := rfl
theorem cut9_ok {t9 : List FV} {L : Lt} (T : IsTab t9 L) (O : L.Ok) : ∀ (d : Nat), d ≤ 1000 → ∀ {v : TY}, v.Ti → MayT L v → Rt N_ref25_Cut [.fz (.sl t9), .fz v.enc, .fz (.int .i64 d)] = some ([.fz (cutT L d v).enc], []) := by
  intro d
  induction d with
  | zero =>
    intro _ v hv hm
    have hsm := hv.sm
    obtain ⟨a, ks, us, r⟩ := v
    cases hm with
    | mk ha hr hl hp h =>
    have hal := all9_ok T O (v := .mk r ks us r) (by cases hsm with | mk hk hu h => exact .mk hk hu h) hr hr h
    have hb : Rt N_ref25_Below [.fz (.sl t9), .fz (TY.mk a ks us r).enc] = some ([.fz (.int .i64 (allTs L (L.joinI r r) us))], []) := by
      refine rt_call A_ref25_Below rfl rfl 0 ?_
      rw [allT_mk] at hal
      rw [TY.enc_mk] at hal ⊢
      rw [E_ref25_Below, hal]
      simp only [onR_some, onL_some, List.isEmpty_nil, allF_cons, allF_nil, Bool.and_true, Bool.true_and, when_true', List.getD_cons_zero, List.getD_cons_succ, isF_fz, toF_fz, isBool_bool, toBool_bool, isInt_int, toInt_int, isStr_str, toStr_str, isSl_sl, toSl_sl, List.length_cons, List.length_nil, List.all_cons, List.all_nil, lisFz_fz, ltoFz_fz, beq_self_eq_true, jump_true, ifB_true, ifB_false, isF_pv, isPv_pv, toV_pv, isNil_nilp, isNil_pt, isPt_pt, toAg_ag, cell_ag, isAg_ag, fits_ag, Int.toNat_natCast, Bool.not_true, Bool.not_false, fits_int, fits_bool, fits_str, fits_sl]
    refine rt_call A_ref25_Cut rfl rfl 0 ?_
    rw [TY.enc_mk] at hb ⊢
    rw [E_ref25_Cut, hb, cutT, TY.enc_mk]
    simp only [onR_some, onL_some, List.isEmpty_nil, allF_cons, allF_nil, Bool.and_true, Bool.true_and, when_true', List.getD_cons_zero, List.getD_cons_succ, isF_fz, toF_fz, isBool_bool, toBool_bool, isInt_int, toInt_int, isStr_str, toStr_str, isSl_sl, toSl_sl, List.length_cons, List.length_nil, List.all_cons, List.all_nil, lisFz_fz, ltoFz_fz, beq_self_eq_true, jump_true, ifB_true, ifB_false, isF_pv, isPv_pv, toV_pv, isNil_nilp, isNil_pt, isPt_pt, toAg_ag, cell_ag, isAg_ag, fits_ag, Int.toNat_natCast, Bool.not_true, Bool.not_false, fits_int, fits_bool, fits_str, fits_sl, show decide (((0 : Nat) : Int) < 1) = true from rfl, List.map_nil]
  | succ d ih =>
    intro hd v hv hm
    obtain ⟨a, ks, us, r⟩ := v
    cases hv with
    | mk hk hu hti =>
    cases hm with
    | mk ha hr hl hp h =>
    have hw1 : IntKind.wrap .i64 (((d + 1 : Nat) : Int) - 1) = (d : Int) := by rw [wrap64 (by omega) (by omega)]; omega
    have z : ∀ (z0 z1 : Int) (j i : Nat) (acc : List TY), i + j = us.length → acc.length = i → onL (L_ref25_Cut_1_1 Rt (us.length + 1) true (j + 1) t9 (d + 1 : Nat) i a (ks.map .str) (us.map TY.enc) r z0 z1 a (ks.map .str) r (acc.map TY.enc)) (K_ref25_Cut_1 Rt (us.length + 1) true) = some ([.fz (TY.mk a ks (acc ++ (us.drop i).map (cutT L d)) r).enc], []) := by
      intro z0 z1 j
      induction j with
      | zero =>
        intro i acc hij hac
        rw [L_ref25_Cut_1_1_eq, List.drop_eq_nil_of_le (by omega), TY.enc_mk]
        simp only [List.length_map, decide_eq_false (show ¬ ((i : Int) < (us.length : Int)) by omega), ifB_false, onL_some, X_ref25_Cut_1_1_eq, List.map_nil, List.append_nil]
      | succ j jh =>
        intro i acc hij hac
        have hl : i < us.length := by omega
        have h1 := ih (by omega) (hti us[i] (List.getElem_mem hl)) (h us[i] (List.getElem_mem hl))
        have h2 := jh (i + 1) (acc ++ [cutT L d us[i]]) (by omega) (by simp; omega)
        rw [List.map_append, List.map_singleton, List.append_assoc, List.singleton_append] at h2
        have hw : IntKind.wrap .i64 ((i : Int) + 1) = ((i + 1 : Nat) : Int) := by rw [wrap64 (by omega) (by omega)]; simp
        have hro := roomT i (cutT L d us[i]).enc (acc.map TY.enc) (by simpa using hac) (by omega)
        have hg : (us.map TY.enc).getD i .nilp = (us[i]).enc := by simp [hl]
        rw [L_ref25_Cut_1_1_eq, drop_cons hl, List.map_cons]
        simp only [List.length_map, decide_eq_true (show (i : Int) < (us.length : Int) by omega), decide_eq_true (show (0 : Int) ≤ (i : Int) by omega), ifB_true, Bool.and_true, when_true', Int.toNat_natCast, hg, TY.enc_fits, hw1, h1, onR_some, List.isEmpty_nil, allF_cons, allF_nil, List.getD_cons_zero, toF_fz, hw] at hro ⊢
        simp only [hro, when_true']
        exact h2
    refine rt_call A_ref25_Cut rfl rfl (us.length + 1) ?_
    rw [TY.enc_mk, E_ref25_Cut, cutT]
    rw [decide_eq_false (show ¬ (((d + 1 : Nat) : Int) < 1) by omega), ifB_false, L_ref25_Cut_1_0_eq]
    cases us with
    | nil =>
      simp only [List.map_nil, List.length_nil, decide_eq_false (show ¬ ((0 : Int) < ((0 : Nat) : Int)) by omega), ifB_false, onL_some, X_ref25_Cut_1_0_eq, TY.enc_mk]
    | cons u us =>
      have h1 := ih (by omega) (hti u (List.mem_cons_self ..)) (h u (List.mem_cons_self ..))
      have h2 := z 0 0 (us.length - 0) 1 [cutT L d u] (by simp; omega) rfl
      have w0 : IntKind.wrap .i64 ((0 : Int) + 1) = ((1 : Nat) : Int) := by rw [wrap64 (by omega) (by omega)]; rfl
      have d0 : decide ((0 : Int) ≤ 0) = true := by decide
      have t0 : (0 : Int).toNat = 0 := rfl
      have hro0 := roomT0 (cutT L d u).enc
      simp only [List.map_cons, List.map_nil, List.length_cons, List.length_nil, List.length_map, decide_eq_true (show (0 : Int) < ((us.length + 1 : Nat) : Int) by omega), d0, t0, ifB_true, Bool.and_true, when_true', List.getD_cons_zero, TY.enc_fits, hw1, h1, onR_some, List.isEmpty_nil, allF_cons, allF_nil, toF_fz, w0, Nat.sub_zero, List.drop_succ_cons, List.drop_zero, List.singleton_append] at h2 hro0 ⊢
      simp only [hro0, when_true']
      exact h2
end Go.Ab
