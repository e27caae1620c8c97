/- Types, told; whether one may be. -/
import Derived.Test.YtdpfpdejipkffaaSJvB
import Derived.Test.YtdpfpdejipkffaaSLat0
import Derived.Test.YtdpfpdejipkffaaSReadB
namespace Go.Ab
set_option linter.unusedVariables false
set_option linter.unusedSimpArgs false
set_option linter.unusedSectionVars false

inductive TY where
  | mk (a : Int) (ks : List ByteArray) (us : List TY) (r : Int)
  deriving Inhabited
mutual
def TY.enc : TY → FV
  | .mk a ks us r => .ag [.int .i64 a, .sl (ks.map .str), .sl (TY.encs us), .int .i64 r]
def TY.encs : List TY → List FV
  | [] => []
  | v :: r => v.enc :: TY.encs r
end
theorem TY.encs_eq : ∀ l : List TY, TY.encs l = l.map TY.enc
  | [] => by simp [TY.encs]
  | v :: r => by simp [TY.encs, TY.encs_eq r]
theorem TY.enc_mk (a : Int) (ks : List ByteArray) (us : List TY) (r : Int) : (TY.mk a ks us r).enc = .ag [.int .i64 a, .sl (ks.map .str), .sl (us.map TY.enc), .int .i64 r] := by
  simp [TY.enc, TY.encs_eq]
@[simp] theorem TY.enc_fits (v : TY) : v.enc.fits 4 true = true := by
  obtain ⟨a, ks, us, r⟩ := v
  simp [TY.enc]
@[simp] theorem TY.all_fits (l : List TY) : (l.map TY.enc).all (FV.fits 4 true) = true := Ab.all_fits _ (fun v => v.enc_fits) l
def TY.a : TY → Int | .mk a _ _ _ => a
def TY.ks : TY → List ByteArray | .mk _ ks _ _ => ks
def TY.us : TY → List TY | .mk _ _ us _ => us
def TY.r : TY → Int | .mk _ _ _ r => r
/-- No list in it is so long that a place in it is no whole number of the machine. -/
inductive TY.Sm : TY → Prop where
  | mk {a r : Int} {ks : List ByteArray} {us : List TY} (hk : ks.length ≤ 1152921504606846976) (hu : us.length ≤ 1152921504606846976) (h : ∀ v ∈ us, v.Sm) : (TY.mk a ks us r).Sm
mutual
def TY.cnt : TY → Nat
  | .mk _ _ us _ => 1 + TY.cnts us
def TY.cnts : List TY → Nat
  | [] => 0
  | v :: r => v.cnt + TY.cnts r
end
theorem TY.cnt_mk (a : Int) (ks : List ByteArray) (us : List TY) (r : Int) : (TY.mk a ks us r).cnt = 1 + TY.cnts us := by simp [TY.cnt]
theorem TY.cnts_drop {l : List TY} {i : Nat} (h : i < l.length) : TY.cnts (l.drop i) = (l[i]).cnt + TY.cnts (l.drop (i + 1)) := by
  rw [Ab.drop_cons h, TY.cnts]
def lebB (a b : ByteArray) : Bool := Op.bytesLess a.toList b.toList || a.toList == b.toList
mutual
def isT (L : Lt) : TY → Int → Bool
  | .mk a ks us r, d => !(decide (d > 3)) && (L.is a && (L.is r && (!((ks.length : Int) != (us.length : Int)) && isTs L none ks us (IntKind.wrap .i64 (d + 1)))))
def isTs (L : Lt) : Option ByteArray → List ByteArray → List TY → Int → Bool
  | _, _, [], _ => true
  | p, ks, u :: us, d => !(match p with | none => false | some q => lebB (ks.headD ⟨#[]⟩) q) && (isT L u d && isTs L (some (ks.headD ⟨#[]⟩)) ks.tail us d)
end
theorem isTs_cons (L : Lt) (p : Option ByteArray) (ks : List ByteArray) (u : TY) (us : List TY) (d : Int) : isTs L p ks (u :: us) d = (!(match p with | none => false | some q => lebB (ks.headD ⟨#[]⟩) q) && (isT L u d && isTs L (some (ks.headD ⟨#[]⟩)) ks.tail us d)) := by
  cases p <;> simp [isTs]
def prevT (ks : List ByteArray) (i : Nat) : Option ByteArray := if i = 0 then none else some (ks.getD (i - 1) ⟨#[]⟩)
theorem prevT_succ (ks : List ByteArray) (i : Nat) : prevT ks (i + 1) = some (ks.getD i ⟨#[]⟩) := by simp [prevT]
theorem headD_drop (ks : List ByteArray) (i : Nat) : (ks.drop i).headD ⟨#[]⟩ = ks.getD i ⟨#[]⟩ := by
  rw [List.headD_eq_head?_getD, List.head?_drop]; simp
theorem getD_str (ks : List ByteArray) {i : Nat} (h : i < ks.length) : (ks.map FV.str).getD i .nilp = .str (ks.getD i ⟨#[]⟩) := by
  simp [List.getD, List.getElem?_eq_getElem h]
theorem wrapm {i : Nat} (h : i ≤ 1152921504606846976) (h0 : 0 < i) : IntKind.wrap .i64 ((i : Int) - 1) = ((i - 1 : Nat) : Int) := by
  rw [wrap64 (by omega) (by omega)]; omega
theorem tyIs_ok {e : FV} {L : Lt} (I : IsLat e L) {v : TY} (hv : v.Sm) : ∀ d : Int, Rt N_ltype_is [.fz (.pt 195 true e 0), .fz v.enc, .fz (.int .i64 d)] = some ([.fz (.bool (isT L v d))], []) := by
  induction hv with
  | @mk a r ks us hk hu h ih =>
    intro d
    refine rt_call A_ltype_is rfl rfl (us.length + 1) ?_
    rw [TY.enc_mk, E_ltype_is, isT]
    by_cases hd : d > 3
    · rw [decide_eq_true hd, ifB_true]; rfl
    rw [decide_eq_false hd, ifB_false, lat_Is I a]
    cases ha : L.is a with
    | false => simp only [onR_some, onL_some, List.isEmpty_nil, allF_cons, allF_nil, Bool.and_true, Bool.true_and, when_true', List.getD_cons_zero, List.getD_cons_succ, isF_fz, toF_fz, isBool_bool, toBool_bool, isInt_int, toInt_int, isStr_str, toStr_str, isSl_sl, toSl_sl, List.length_cons, List.length_nil, List.all_cons, List.all_nil, lisFz_fz, ltoFz_fz, beq_self_eq_true, jump_true, ifB_true, ifB_false, isF_pv, isPv_pv, toV_pv, isNil_nilp, isNil_pt, isPt_pt, toAg_ag, cell_ag, isAg_ag, fits_ag, Int.toNat_natCast, Bool.not_true, Bool.not_false, fits_int, fits_bool, fits_str, fits_sl, Bool.false_and, Bool.and_false]
    | true =>
    simp only [onR_some, onL_some, List.isEmpty_nil, allF_cons, allF_nil, Bool.and_true, Bool.true_and, when_true', List.getD_cons_zero, List.getD_cons_succ, isF_fz, toF_fz, isBool_bool, toBool_bool, isInt_int, toInt_int, isStr_str, toStr_str, isSl_sl, toSl_sl, List.length_cons, List.length_nil, List.all_cons, List.all_nil, lisFz_fz, ltoFz_fz, beq_self_eq_true, jump_true, ifB_true, ifB_false, isF_pv, isPv_pv, toV_pv, isNil_nilp, isNil_pt, isPt_pt, toAg_ag, cell_ag, isAg_ag, fits_ag, Int.toNat_natCast, Bool.not_true, Bool.not_false, fits_int, fits_bool, fits_str, fits_sl, lat_Is I r]
    cases hr : L.is r with
    | false => simp only [onR_some, onL_some, List.isEmpty_nil, allF_cons, allF_nil, Bool.and_true, Bool.true_and, when_true', List.getD_cons_zero, List.getD_cons_succ, isF_fz, toF_fz, isBool_bool, toBool_bool, isInt_int, toInt_int, isStr_str, toStr_str, isSl_sl, toSl_sl, List.length_cons, List.length_nil, List.all_cons, List.all_nil, lisFz_fz, ltoFz_fz, beq_self_eq_true, jump_true, ifB_true, ifB_false, isF_pv, isPv_pv, toV_pv, isNil_nilp, isNil_pt, isPt_pt, toAg_ag, cell_ag, isAg_ag, fits_ag, Int.toNat_natCast, Bool.not_true, Bool.not_false, fits_int, fits_bool, fits_str, fits_sl, Bool.false_and, Bool.and_false]
    | true =>
    simp only [onR_some, onL_some, List.isEmpty_nil, allF_cons, allF_nil, Bool.and_true, Bool.true_and, when_true', List.getD_cons_zero, List.getD_cons_succ, isF_fz, toF_fz, isBool_bool, toBool_bool, isInt_int, toInt_int, isStr_str, toStr_str, isSl_sl, toSl_sl, List.length_cons, List.length_nil, List.all_cons, List.all_nil, lisFz_fz, ltoFz_fz, beq_self_eq_true, jump_true, ifB_true, ifB_false, isF_pv, isPv_pv, toV_pv, isNil_nilp, isNil_pt, isPt_pt, toAg_ag, cell_ag, isAg_ag, fits_ag, Int.toNat_natCast, Bool.not_true, Bool.not_false, fits_int, fits_bool, fits_str, fits_sl, List.length_map]
    cases hl : ((ks.length : Int) != (us.length : Int)) with
    | true => simp only [onR_some, onL_some, List.isEmpty_nil, allF_cons, allF_nil, Bool.and_true, Bool.true_and, when_true', List.getD_cons_zero, List.getD_cons_succ, isF_fz, toF_fz, isBool_bool, toBool_bool, isInt_int, toInt_int, isStr_str, toStr_str, isSl_sl, toSl_sl, List.length_cons, List.length_nil, List.all_cons, List.all_nil, lisFz_fz, ltoFz_fz, beq_self_eq_true, jump_true, ifB_true, ifB_false, isF_pv, isPv_pv, toV_pv, isNil_nilp, isNil_pt, isPt_pt, toAg_ag, cell_ag, isAg_ag, fits_ag, Int.toNat_natCast, Bool.not_true, Bool.not_false, fits_int, fits_bool, fits_str, fits_sl, Bool.false_and, Bool.and_false]
    | false =>
    have hlen : ks.length = us.length := by
      have : (ks.length : Int) = us.length := by simpa using hl
      omega
    have loop : ∀ (j i : Nat), i + j = us.length → onL (L_ltype_is_1_0 Rt (us.length + 1) true (j + 1) e d (us.map TY.enc) us.length i a (ks.map .str) (us.map TY.enc) r) (K_ltype_is_1 Rt (us.length + 1) true) = some ([.fz (.bool (isTs L (prevT ks i) (ks.drop i) (us.drop i) (IntKind.wrap .i64 (d + 1))))], []) := by
      intro j
      induction j with
      | zero =>
        intro i hij
        rw [L_ltype_is_1_0_eq, List.drop_eq_nil_of_le (show us.length ≤ i by omega)]
        simp only [decide_eq_false (show ¬ ((i : Int) < (us.length : Int)) by omega), ifB_false, onL_some, X_ltype_is_1_1_eq, isTs]
      | succ j jh =>
        intro i hij
        have hl : i < us.length := by omega
        have hlk : i < ks.length := by omega
        have h1 := ih us[i] (List.getElem_mem hl) (IntKind.wrap .i64 (d + 1))
        have h2 := jh (i + 1) (by omega)
        have hw : IntKind.wrap .i64 ((i : Int) + 1) = ((i + 1 : Nat) : Int) := by rw [wrap64 (by omega) (by omega)]; simp
        have hg : (us.map TY.enc).getD i .nilp = (us[i]).enc := by simp [hl]
        have hk1 := getD_str ks hlk
        rw [L_ltype_is_1_0_eq, drop_cons hl, isTs_cons, headD_drop, ← prevT_succ, List.tail_drop]
        by_cases hi : i = 0
        · have h0 : prevT ks i = none := by simp [prevT, hi]
          simp only [List.length_map, decide_eq_true (show (i : Int) < (us.length : Int) by omega), decide_eq_true (show (0 : Int) ≤ (i : Int) by omega), ifB_true, Bool.and_true, when_true', Int.toNat_natCast, hg, TY.enc_fits, decide_eq_false (show ¬ ((i : Int) > 0) by omega), ifB_false, h1, onR_some, List.isEmpty_nil, allF_cons, allF_nil, List.getD_cons_zero, toF_fz, isBool_bool, toBool_bool, h0, Bool.not_false, Bool.true_and, hw]
          cases isT L us[i] (IntKind.wrap .i64 (d + 1)) with
          | true => simp only [Bool.not_true, ifB_false, Bool.true_and]; exact h2
          | false => simp only [Bool.not_false, ifB_true, onL_some, X_ltype_is_1_0_eq, Bool.false_and]
        · have h0 : prevT ks i = some (ks.getD (i - 1) ⟨#[]⟩) := by simp [prevT, hi]
          have hk2 := getD_str ks (show i - 1 < ks.length by omega)
          have hwm := wrapm (i := i) (by omega) (by omega)
          simp only [List.length_map, decide_eq_true (show (i : Int) < (us.length : Int) by omega), decide_eq_true (show (i : Int) < (ks.length : Int) by omega), decide_eq_true (show ((i - 1 : Nat) : Int) < (ks.length : Int) by omega), decide_eq_true (show (0 : Int) ≤ ((i - 1 : Nat) : Int) by omega), decide_eq_true (show (0 : Int) ≤ (i : Int) by omega), ifB_true, Bool.and_true, when_true', Int.toNat_natCast, hg, hk1, hk2, hwm, fits_str, isStr_str, toStr_str, TY.enc_fits, decide_eq_true (show ((i : Int) > 0) by omega), h0]
          have hle : (Op.bytesLess (ks.getD i ⟨#[]⟩).toList (ks.getD (i - 1) ⟨#[]⟩).toList || (ks.getD i ⟨#[]⟩).toList == (ks.getD (i - 1) ⟨#[]⟩).toList) = lebB (ks.getD i ⟨#[]⟩) (ks.getD (i - 1) ⟨#[]⟩) := rfl
          rw [hle]
          cases lebB (ks.getD i ⟨#[]⟩) (ks.getD (i - 1) ⟨#[]⟩) with
          | true => simp only [ifB_true, onL_some, X_ltype_is_1_0_eq, Bool.not_true, Bool.false_and]
          | false =>
            simp only [ifB_false, h1, onR_some, List.isEmpty_nil, allF_cons, allF_nil, List.getD_cons_zero, toF_fz, isBool_bool, toBool_bool, when_true', Bool.and_true, Bool.not_false, Bool.true_and, hw]
            cases isT L us[i] (IntKind.wrap .i64 (d + 1)) with
            | true => simp only [Bool.not_true, ifB_false, Bool.true_and]; exact h2
            | false => simp only [Bool.not_false, ifB_true, onL_some, X_ltype_is_1_0_eq, Bool.false_and]
    have l0 := loop us.length 0 (by omega)
    rw [List.drop_zero, List.drop_zero] at l0
    simp only [Int.natCast_zero] at l0
    simp only [onR_some, onL_some, List.isEmpty_nil, allF_cons, allF_nil, Bool.and_true, Bool.true_and, when_true', List.getD_cons_zero, List.getD_cons_succ, isF_fz, toF_fz, isBool_bool, toBool_bool, isInt_int, toInt_int, isStr_str, toStr_str, isSl_sl, toSl_sl, List.length_cons, List.length_nil, List.all_cons, List.all_nil, lisFz_fz, ltoFz_fz, beq_self_eq_true, jump_true, ifB_true, ifB_false, isF_pv, isPv_pv, toV_pv, isNil_nilp, isNil_pt, isPt_pt, toAg_ag, cell_ag, isAg_ag, fits_ag, Int.toNat_natCast, Bool.not_true, Bool.not_false, fits_int, fits_bool, fits_str, fits_sl]
    rw [J_ltype_is_2_0_eq]
    simp only [List.length_map]
    exact l0
theorem tyIsP_ok {e : FV} {L : Lt} (I : IsLat e L) {v : TY} (hv : v.Sm) : Rt N_ltype_Is [.fz (.pt 195 true e 0), .fz v.enc] = some ([.fz (.bool (isT L v 0))], []) := by
  have h := tyIs_ok I hv 0
  obtain ⟨a, ks, us, r⟩ := v
  have hE := E_ltype_Is Rt 0 true e a (ks.map .str) (us.map TY.enc) r
  rw [← TY.enc_mk] at hE
  refine rt_call A_ltype_Is rfl rfl 0 (hE.trans ?_)
  simp only [h, onR_some, onL_some, List.isEmpty_nil, allF_cons, allF_nil, Bool.and_true, Bool.true_and, when_true', List.getD_cons_zero, List.getD_cons_succ, isF_fz, toF_fz, isBool_bool, toBool_bool, isInt_int, toInt_int, isStr_str, toStr_str, isSl_sl, toSl_sl, List.length_cons, List.length_nil, List.all_cons, List.all_nil, lisFz_fz, ltoFz_fz, beq_self_eq_true, jump_true, ifB_true, ifB_false, isF_pv, isPv_pv, toV_pv, isNil_nilp, isNil_pt, isPt_pt, toAg_ag, cell_ag, isAg_ag, fits_ag, Int.toNat_natCast, Bool.not_true, Bool.not_false, fits_int, fits_bool, fits_str, fits_sl]
end Go.Ab
