/- The least type that a node fits; types that are cut. -/
import Derived.Test.YtdpfpdejipkffaaSTy3
import Derived.Test.YtdpfpdejipkffaaSBot9
namespace Go.Ab
set_option linter.unusedVariables false
set_option linter.unusedSimpArgs false
set_option linter.unusedSectionVars false
theorem MayT.ha {L : Lt} {v : TY} (h : MayT L v) : L.is v.a = true := by cases h with | mk ha _ _ _ _ => exact ha
theorem MayT.hr {L : Lt} {v : TY} (h : MayT L v) : L.is v.r = true := by cases h with | mk _ hr _ _ _ => exact hr
theorem MayT.hu {L : Lt} {v : TY} (h : MayT L v) : ∀ u ∈ v.us, MayT L u := by cases h with | mk _ _ _ _ h => exact h
/-- No list in it is great. -/
inductive TY.Ti : TY → Prop where
  | mk {a r : Int} {ks : List ByteArray} {us : List TY} (hk : ks.length ≤ 134217728) (hu : us.length ≤ 134217728) (h : ∀ v ∈ us, v.Ti) : (TY.mk a ks us r).Ti
theorem TY.Ti.sm {v : TY} (h : v.Ti) : v.Sm := by
  induction h with
  | mk hk hu h ih => exact .mk (by omega) (by omega) ih
mutual
def allT (L : Lt) : TY → Nat
  | .mk a ks us r => allTs L (L.joinI a r) us
def allTs (L : Lt) : Nat → List TY → Nat
  | acc, [] => acc
  | acc, u :: us => allTs L (L.join acc (allT L u)) us
end
theorem allT_mk (L : Lt) (a : Int) (ks : List ByteArray) (us : List TY) (r : Int) : allT L (.mk a ks us r) = allTs L (L.joinI a r) us := by simp [allT]
mutual
theorem allT_lt {L : Lt} (O : L.Ok) : ∀ v : TY, allT L v < L.n
  | .mk a ks us r => by rw [allT_mk]; exact allTs_lt O us _ (O.joinI_lt a r)
theorem allTs_lt {L : Lt} (O : L.Ok) : ∀ (us : List TY) (acc : Nat), acc < L.n → allTs L acc us < L.n
  | [], acc, h => by simpa [allTs] using h
  | u :: us, acc, h => by rw [allTs]; exact allTs_lt O us _ (O.join _ _ h (allT_lt O u))
end
mutual
def wholeN (L : Lt) : ND → TY
  | .mk a d k c s t is ks => if k = 6 then .mk a ks (wholeNs L is) L.bot else .mk a [] [] (deepNs L L.bot is)
def wholeNs (L : Lt) : List ND → List TY
  | [] => []
  | v :: r => wholeN L v :: wholeNs L r
end
theorem all9_ok {t9 : List FV} {L : Lt} (T : IsTab t9 L) (O : L.Ok) {v : TY} (hv : v.Sm) : L.is v.a = true → L.is v.r = true → (∀ u ∈ v.us, MayT L u) → Rt N_ref25_All [.fz (.sl t9), .fz v.enc] = some ([.fz (.int .i64 (allT L v))], []) := by
  induction hv with
  | @mk a r ks us hk hu h ih =>
    intro ha hr hm
    obtain ⟨a0, a1⟩ := Lt.is_iff.1 ha
    obtain ⟨r0, r1⟩ := Lt.is_iff.1 hr
    obtain ⟨p, rfl⟩ : ∃ p : Nat, a = p := ⟨a.toNat, by simp only [TY.a] at a0; omega⟩
    obtain ⟨q, rfl⟩ : ∃ q : Nat, r = q := ⟨r.toNat, by simp only [TY.r] at r0; omega⟩
    have hp : p < L.n := by simp only [TY.a] at a1; omega
    have hq : q < L.n := by simp only [TY.r] at r1; omega
    have loop : ∀ (j i acc : Nat), acc < L.n → i + j = us.length → L_ref25_All_1_0 Rt (us.length + 1) true (j + 1) t9 acc i p (ks.map .str) (us.map TY.enc) q = some (.exit 0, X_ref25_All_1_0 (allTs L acc (us.drop i) : Nat)) := by
      intro j
      induction j with
      | zero =>
        intro i acc hacc hij
        rw [L_ref25_All_1_0_eq, List.drop_eq_nil_of_le (by omega)]
        simp [show ¬ ((i : Int) < (us.length : Int)) by omega, allTs]
      | succ j jh =>
        intro i acc hacc hij
        have hl : i < us.length := by omega
        have hmi := hm us[i] (List.getElem_mem hl)
        have h1 : Rt N_ref25_All [.fz (.sl t9), .fz (us[i]).enc] = some ([.fz (.int .i64 (allT L us[i]))], []) := by
          exact ih us[i] (List.getElem_mem hl) hmi.ha hmi.hr hmi.hu
        have hd := allT_lt O us[i]
        have hj := join9_ok T O hacc hd
        have h2 := jh (i + 1) (L.join acc (allT L us[i])) (O.join _ _ hacc hd) (by omega)
        have hw : IntKind.wrap .i64 ((i : Int) + 1) = ((i + 1 : Nat) : Int) := by rw [wrap64 (by omega) (by omega)]; simp
        have hg : (us.map TY.enc).getD i .nilp = (us[i]).enc := by simp [hl]
        rw [L_ref25_All_1_0_eq, drop_cons hl, allTs]
        simp only [List.length_map, decide_eq_true (show (i : Int) < (us.length : Int) by omega), decide_eq_true (show (0 : Int) ≤ (i : Int) by omega), ifB_true, Bool.and_true, when_true', Int.toNat_natCast, hg, TY.enc_fits, h1, hj, onR_some, List.isEmpty_nil, allF_cons, allF_nil, List.getD_cons_zero, toF_fz, isInt_int, toInt_int, hw, h2]
    have l0 := loop us.length 0 (L.join p q) (O.join _ _ hp hq) (by omega)
    rw [List.drop_zero] at l0
    simp only [Int.natCast_zero] at l0
    refine rt_call A_ref25_All rfl rfl (us.length + 1) ?_
    rw [TY.enc_mk, E_ref25_All, join9_ok T O hp hq, allT_mk, Lt.joinI_nat hp hq]
    simp only [onR_some, onL_some, List.isEmpty_nil, allF_cons, allF_nil, Bool.and_true, Bool.true_and, when_true', List.getD_cons_zero, List.getD_cons_succ, isF_fz, toF_fz, isBool_bool, toBool_bool, isInt_int, toInt_int, isStr_str, toStr_str, isSl_sl, toSl_sl, List.length_cons, List.length_nil, List.all_cons, List.all_nil, lisFz_fz, ltoFz_fz, beq_self_eq_true, jump_true, ifB_true, ifB_false, isF_pv, isPv_pv, toV_pv, isNil_nilp, isNil_pt, isPt_pt, toAg_ag, cell_ag, isAg_ag, fits_ag, Int.toNat_natCast, Bool.not_true, Bool.not_false, fits_int, fits_bool, fits_str, fits_sl, l0, X_ref25_All_1_0_eq]
theorem roomT (n : Nat) (x : FV) (l : List FV) (h : l.length = n) (hn : n < 134217728) : (decide ((l.length + [x].length) * 64 ≤ roomy) && decide (l.length + [x].length ≤ roomy)) = true := by
  have : roomy = 140737488355328 := rfl
  simp; omega
theorem roomT0 (x : FV) : (decide (((0 : Nat) + [x].length) * 64 ≤ roomy) && decide ((0 : Nat) + [x].length ≤ roomy)) = true := rfl
end Go.Ab
