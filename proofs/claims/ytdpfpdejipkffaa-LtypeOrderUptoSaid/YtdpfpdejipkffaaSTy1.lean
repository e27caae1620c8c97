/- Types: the reference's word on whether one may be; how great one is. -/
import Derived.Test.YtdpfpdejipkffaaSTy0
import Derived.Test.YtdpfpdejipkffaaSNode0
namespace Go.Ab
set_option linter.unusedVariables false
set_option linter.unusedSimpArgs false
set_option linter.unusedSectionVars false
theorem ty9_ok {t9 : List FV} {L : Lt} (T : IsTab t9 L) {v : TY} (hv : v.Sm) : ∀ d : Int, Rt N_ref25_Is [.fz (.sl t9), .fz v.enc, .fz (.int .i64 d)] = some ([.fz (.bool (isT L v d))], []) := by
  induction hv with
  | @mk a r ks us hk hu h ih =>
    intro d
    refine rt_call A_ref25_Is rfl rfl (us.length + 1) ?_
    rw [TY.enc_mk, E_ref25_Is, isT, T.len]
    by_cases hd : d > 3
    · rw [decide_eq_true hd, ifB_true]; rfl
    rw [decide_eq_false hd, ifB_false]
    unfold Lt.is
    by_cases a1 : a < 0
    · rw [decide_eq_true a1, ifB_true, decide_eq_false (show ¬ (0 ≤ a) by omega)]; rfl
    rw [decide_eq_false a1, ifB_false, decide_eq_true (show 0 ≤ a by omega)]
    by_cases a2 : a ≥ L.n
    · rw [decide_eq_true a2, ifB_true, decide_eq_false (show ¬ (a < L.n) by omega)]; rfl
    rw [decide_eq_false a2, ifB_false, decide_eq_true (show a < L.n by omega)]
    by_cases r1 : r < 0
    · rw [decide_eq_true r1, ifB_true, decide_eq_false (show ¬ (0 ≤ r) by omega)]; rfl
    rw [decide_eq_false r1, ifB_false, decide_eq_true (show 0 ≤ r by omega)]
    by_cases r2 : r ≥ L.n
    · rw [decide_eq_true r2, ifB_true, decide_eq_false (show ¬ (r < L.n) by omega)]; rfl
    rw [decide_eq_false r2, ifB_false, decide_eq_true (show r < L.n by omega)]
    simp only [List.length_map]
    cases hl : ((ks.length : Int) != (us.length : Int)) with
    | true => simp only [ifB_true, Bool.true_and, Bool.not_false, Bool.not_true, Bool.false_and]
    | false =>
    have hlen : ks.length = us.length := by
      have : (ks.length : Int) = us.length := by simpa using hl
      omega
    have loop : ∀ (j i : Nat), i + j = us.length → onL (L_ref25_Is_1_0 Rt (us.length + 1) true (j + 1) t9 d i a (ks.map .str) (us.map TY.enc) r) (K_ref25_Is_1 Rt (us.length + 1) true) = some ([.fz (.bool (isTs L (prevT ks i) (ks.drop i) (us.drop i) (IntKind.wrap .i64 (d + 1))))], []) := by
      intro j
      induction j with
      | zero =>
        intro i hij
        rw [L_ref25_Is_1_0_eq, List.drop_eq_nil_of_le (show us.length ≤ i by omega)]
        simp only [List.length_map, decide_eq_false (show ¬ ((i : Int) < (ks.length : Int)) by omega), ifB_false, onL_some, X_ref25_Is_1_1_eq, isTs]
      | succ j jh =>
        intro i hij
        have hl : i < us.length := by omega
        have hlk : i < ks.length := by omega
        have h1 := ih us[i] (List.getElem_mem hl) (IntKind.wrap .i64 (d + 1))
        have h2 := jh (i + 1) (by omega)
        have hw : IntKind.wrap .i64 ((i : Int) + 1) = ((i + 1 : Nat) : Int) := by rw [wrap64 (by omega) (by omega)]; simp
        have hg : (us.map TY.enc).getD i .nilp = (us[i]).enc := by simp [hl]
        have hk1 := getD_str ks hlk
        have J : J_ref25_Is_1_0 Rt (us.length + 1) true (j + 1) t9 d i a (ks.map .str) (us.map TY.enc) r = (match isT L us[i] (IntKind.wrap .i64 (d + 1)) with | true => L_ref25_Is_1_0 Rt (us.length + 1) true (j + 1) t9 d (i + 1 : Nat) a (ks.map .str) (us.map TY.enc) r | false => some (.ret, X_ref25_Is_1_0 false)) := by
          rw [J_ref25_Is_1_0_eq]
          simp only [List.length_map, decide_eq_true (show (i : Int) < (us.length : Int) by omega), decide_eq_true (show (0 : Int) ≤ (i : Int) by omega), Bool.and_true, when_true', Int.toNat_natCast, hg, TY.enc_fits, h1, onR_some, List.isEmpty_nil, allF_cons, allF_nil, List.getD_cons_zero, toF_fz, isBool_bool, toBool_bool, hw]
          cases isT L us[i] (IntKind.wrap .i64 (d + 1)) with
          | true => simp only [Bool.not_true, ifB_false]
          | false => simp only [Bool.not_false, ifB_true]
        rw [L_ref25_Is_1_0_eq, drop_cons hl, isTs_cons, headD_drop, ← prevT_succ, List.tail_drop]
        by_cases hi : i = 0
        · have h0 : prevT ks i = none := by simp [prevT, hi]
          simp only [List.length_map, decide_eq_true (show (i : Int) < (ks.length : Int) by omega), ifB_true, decide_eq_false (show ¬ ((i : Int) > 0) by omega), ifB_false, h0, Bool.not_false, Bool.true_and, jump_true, J]
          cases isT L us[i] (IntKind.wrap .i64 (d + 1)) with
          | true => simp only [Bool.true_and]; exact h2
          | false => simp only [onL_some, X_ref25_Is_1_0_eq, Bool.false_and]
        · have h0 : prevT ks i = some (ks.getD (i - 1) ⟨#[]⟩) := by simp [prevT, hi]
          have hk2 := getD_str ks (show i - 1 < ks.length by omega)
          have hwm := wrapm (i := i) (by omega) (by omega)
          simp only [List.length_map, decide_eq_true (show (i : Int) < (ks.length : Int) by omega), decide_eq_true (show ((i - 1 : Nat) : Int) < (ks.length : Int) by omega), decide_eq_true (show (0 : Int) ≤ ((i - 1 : Nat) : Int) by omega), decide_eq_true (show (0 : Int) ≤ (i : Int) by omega), ifB_true, Bool.and_true, when_true', Int.toNat_natCast, hk1, hk2, hwm, fits_str, isStr_str, toStr_str, decide_eq_true (show ((i : Int) > 0) by omega), h0, jump_true, J]
          have hle : (Op.bytesLess (ks.getD i ⟨#[]⟩).toList (ks.getD (i - 1) ⟨#[]⟩).toList || (ks.getD i ⟨#[]⟩).toList == (ks.getD (i - 1) ⟨#[]⟩).toList) = lebB (ks.getD i ⟨#[]⟩) (ks.getD (i - 1) ⟨#[]⟩) := rfl
          rw [hle]
          cases lebB (ks.getD i ⟨#[]⟩) (ks.getD (i - 1) ⟨#[]⟩) with
          | true => simp only [ifB_true, onL_some, X_ref25_Is_1_0_eq, Bool.not_true, Bool.false_and]
          | false =>
            simp only [ifB_false, Bool.not_false, Bool.true_and]
            cases isT L us[i] (IntKind.wrap .i64 (d + 1)) with
            | true => simp only [Bool.true_and]; exact h2
            | false => simp only [onL_some, X_ref25_Is_1_0_eq, Bool.false_and]
    have l0 := loop us.length 0 (by omega)
    rw [List.drop_zero, List.drop_zero] at l0
    simp only [Int.natCast_zero] at l0
    simp only [jump_true, ifB_false, Bool.true_and, Bool.not_false]
    rw [J_ref25_Is_4_0_eq]
    exact l0
theorem tsize_ok {v : TY} (hv : v.Sm) : ∀ n m : Int, 0 ≤ n → m ≤ 100000 → Rt N_ref25_Size [.fz v.enc, .fz (.int .i64 n), .fz (.int .i64 m)] = some ([.fz (.int .i64 (capN n v.cnt m))], []) := by
  induction hv with
  | @mk a r ks us hk hu h ih =>
    intro n m hn hm
    have loop : ∀ (j : Nat) (x : Int) (i : Nat), 0 ≤ x → x ≤ m → i + j = us.length → L_ref25_Size_1_0 Rt (us.length + 1) true (j + 1) x m i a (ks.map .str) (us.map TY.enc) r = some (.exit 0, X_ref25_Size_1_0 (capN x (TY.cnts (us.drop i)) m)) := by
      intro j
      induction j with
      | zero =>
        intro x i hx hxm hij
        rw [L_ref25_Size_1_0_eq, List.drop_eq_nil_of_le (by omega)]
        have e : capN x ((TY.cnts [] : Nat) : Int) m = x := by simpa [TY.cnts] using capN_zero hxm
        rw [e]
        simp [show ¬ ((i : Int) < (us.length : Int)) by omega]
      | succ j jh =>
        intro x i hx hxm hij
        have hl : i < us.length := by omega
        have h1 := ih us[i] (List.getElem_mem hl) x m hx hm
        have hc := capN_le (us[i]).cnt hxm hx
        have h2 := jh (capN x (us[i]).cnt m) (i + 1) hc.1 hc.2 (by omega)
        have e : capN (capN x (us[i]).cnt m) ((TY.cnts (us.drop (i + 1)) : Nat) : Int) m = capN x ((TY.cnts (us.drop i) : Nat) : Int) m := by
          rw [TY.cnts_drop hl]; exact capN_add _ _
        rw [e] at h2
        push_cast at h2
        rw [L_ref25_Size_1_0_eq]
        have hw : IntKind.wrap .i64 ((i : Int) + 1) = (i : Int) + 1 := wrap64 (by omega) (by omega)
        simp [show (i : Int) < (us.length : Int) by omega, List.getElem?_eq_getElem hl, h1, onR_some, hw, h2]
    by_cases hnm : n ≥ m
    · have e : capN n ((TY.mk a ks us r).cnt : Int) m = n := by unfold capN; rw [if_pos hnm]
      rw [e]
      refine rt_call A_ref25_Size rfl rfl 0 ?_
      rw [TY.enc_mk, E_ref25_Size]
      simp [hnm]
    · have hr := loop us.length (IntKind.wrap .i64 (n + 1)) 0 (by rw [wrap64 (by omega) (by omega)]; omega) (by rw [wrap64 (by omega) (by omega)]; omega) (by omega)
      have e : capN (n + 1) ((TY.cnts (us.drop 0) : Nat) : Int) m = capN n ((TY.mk a ks us r).cnt : Int) m := by
        rw [TY.cnt_mk, List.drop_zero]; exact capN_one _ hnm
      rw [show ((0 : Nat) : Int) = 0 from rfl] at hr
      refine rt_call A_ref25_Size rfl rfl (us.length + 1) ?_
      rw [TY.enc_mk, E_ref25_Size]
      simp only [show decide (n ≥ m) = false by simpa using hnm, ifB_false]
      rw [hr, onL_some, X_ref25_Size_1_0_eq, wrap64 (by omega) (by omega), e]
theorem tflat_tot {v : TY} (hv : v.Sm) : ∀ n : Int, ∃ b : Bool, Rt N_ref25_flat [.fz v.enc, .fz (.int .i64 n)] = some ([.fz (.bool b)], []) := by
  induction hv with
  | @mk a r ks us hk hu h ih =>
    intro n
    have loop : ∀ (j : Nat) (i : Nat), i + j = us.length → ∃ b : Bool, onL (L_ref25_flat_1_0 Rt (us.length + 1) true (j + 1) n i a (ks.map .str) (us.map TY.enc) r) (K_ref25_flat_1 Rt (us.length + 1) true) = some ([.fz (.bool b)], []) := by
      intro j
      induction j with
      | zero =>
        intro i hij
        refine ⟨true, ?_⟩
        rw [L_ref25_flat_1_0_eq]
        simp [show ¬ ((i : Int) < (us.length : Int)) by omega, onL_some, X_ref25_flat_1_1_eq]
      | succ j jh =>
        intro i hij
        have hl : i < us.length := by omega
        obtain ⟨b1, h1⟩ := ih us[i] (List.getElem_mem hl) (IntKind.wrap .i64 (n - 1))
        obtain ⟨b, h2⟩ := jh (i + 1) (by omega)
        push_cast at h2
        have hw : IntKind.wrap .i64 ((i : Int) + 1) = (i : Int) + 1 := wrap64 (by omega) (by omega)
        rw [L_ref25_flat_1_0_eq]
        cases b1 with
        | true => exact ⟨b, by simp [show (i : Int) < (us.length : Int) by omega, List.getElem?_eq_getElem hl, h1, onR_some, hw, h2]⟩
        | false => exact ⟨false, by simp [show (i : Int) < (us.length : Int) by omega, List.getElem?_eq_getElem hl, h1, onR_some, onL_some, X_ref25_flat_1_0_eq]⟩
    by_cases hn : n < 0
    · refine ⟨false, rt_call A_ref25_flat rfl rfl 0 ?_⟩
      rw [TY.enc_mk, E_ref25_flat]
      simp [hn]
    · obtain ⟨b, hb⟩ := loop us.length 0 (by omega)
      refine ⟨b, rt_call A_ref25_flat rfl rfl (us.length + 1) ?_⟩
      rw [TY.enc_mk, E_ref25_flat]
      rw [show decide (n < 0) = false by simpa using hn, ifB_false]
      exact hb
theorem tlight_ok {v : TY} (hv : v.Sm) (n : Int) (h0 : 0 ≤ n) (h1 : n ≤ 9999) : ∃ b : Bool, Rt N_ref25_Light [.fz v.enc, .fz (.int .i64 n)] = some ([.fz (.bool b)], []) ∧ (b = true → (v.cnt : Int) ≤ n ∧ v.ks.length ≤ 500) := by
  have hsz := tsize_ok hv 0 (n + 1) (by omega) (by omega)
  obtain ⟨b, hb⟩ := tflat_tot hv 20
  obtain ⟨a, ks, us, r⟩ := v
  have hE := E_ref25_Light Rt 0 true a (ks.map .str) (us.map TY.enc) r n
  rw [wrap64 (show -9223372036854775808 ≤ n + 1 by omega) (by omega), ← TY.enc_mk, hsz, hb] at hE
  by_cases q : capN 0 (TY.mk a ks us r).cnt (n + 1) ≤ n
  · refine ⟨b && decide ((ks.length : Int) ≤ 500), rt_call A_ref25_Light rfl rfl 0 (hE.trans ?_), fun hh => ?_⟩
    · cases b with
      | true => simp only [onR_some, onL_some, List.isEmpty_nil, allF_cons, allF_nil, Bool.and_true, Bool.true_and, when_true', List.getD_cons_zero, List.getD_cons_succ, isF_fz, toF_fz, isBool_bool, toBool_bool, isInt_int, toInt_int, isStr_str, toStr_str, isSl_sl, toSl_sl, List.length_cons, List.length_nil, List.all_cons, List.all_nil, lisFz_fz, ltoFz_fz, beq_self_eq_true, jump_true, ifB_true, ifB_false, isF_pv, isPv_pv, toV_pv, isNil_nilp, isNil_pt, isPt_pt, toAg_ag, cell_ag, isAg_ag, fits_ag, Int.toNat_natCast, Bool.not_true, Bool.not_false, fits_int, fits_bool, fits_str, fits_sl, List.length_map, decide_eq_true q]
      | false => simp only [onR_some, onL_some, List.isEmpty_nil, allF_cons, allF_nil, Bool.and_true, Bool.true_and, when_true', List.getD_cons_zero, List.getD_cons_succ, isF_fz, toF_fz, isBool_bool, toBool_bool, isInt_int, toInt_int, isStr_str, toStr_str, isSl_sl, toSl_sl, List.length_cons, List.length_nil, List.all_cons, List.all_nil, lisFz_fz, ltoFz_fz, beq_self_eq_true, jump_true, ifB_true, ifB_false, isF_pv, isPv_pv, toV_pv, isNil_nilp, isNil_pt, isPt_pt, toAg_ag, cell_ag, isAg_ag, fits_ag, Int.toNat_natCast, Bool.not_true, Bool.not_false, fits_int, fits_bool, fits_str, fits_sl, decide_eq_true q, Bool.false_and]
    · rw [Bool.and_eq_true, decide_eq_true_eq] at hh
      refine ⟨?_, by have := hh.2; show ks.length ≤ 500; omega⟩
      unfold capN at q
      split at q
      · omega
      · split at q <;> omega
  · refine ⟨false, rt_call A_ref25_Light rfl rfl 0 (hE.trans ?_), fun h => by cases h⟩
    simp only [onR_some, onL_some, List.isEmpty_nil, allF_cons, allF_nil, Bool.and_true, Bool.true_and, when_true', List.getD_cons_zero, List.getD_cons_succ, isF_fz, toF_fz, isBool_bool, toBool_bool, isInt_int, toInt_int, isStr_str, toStr_str, isSl_sl, toSl_sl, List.length_cons, List.length_nil, List.all_cons, List.all_nil, lisFz_fz, ltoFz_fz, beq_self_eq_true, jump_true, ifB_true, ifB_false, isF_pv, isPv_pv, toV_pv, isNil_nilp, isNil_pt, isPt_pt, toAg_ag, cell_ag, isAg_ag, fits_ag, Int.toNat_natCast, Bool.not_true, Bool.not_false, fits_int, fits_bool, fits_str, fits_sl, decide_eq_false q]
/-! Types as arguments. -/
theorem len4 {α : Type} {l : List α} (h : l.length = 4) : ∃ a b c d, l = [a, b, c, d] := by
  match l, h with
  | [a, b, c, d], _ => exact ⟨a, b, c, d, rfl⟩
section
variable {P : Program} {D B : Nat} {t ts : Nat} (hB : B ≤ 281474976710656) (hft : flat P D t = [.int .i64, .sl ts, .sl t, .int .i64]) (hfs : flat P D ts = [.str]) (hst : szOf P t = some (4, true)) (hss : szOf P ts = some (1, false)) (hb : P.bytesOf t = 64) (hbs : P.bytesOf ts = 16)
include hB hft hfs hst hss hb hbs
theorem ty_four {a k u r : FV} (h0 : WC P D B (.int .i64) a) (h1 : WC P D B (.sl ts) k) (h2 : ∃ l : List TY, u = .sl (l.map TY.enc) ∧ (∀ v ∈ l, v.Sm) ∧ l.length * 64 ≤ B) (h3 : WC P D B (.int .i64) r) : ∃ v : TY, FV.ag [a, k, u, r] = v.enc ∧ v.Sm := by
  obtain ⟨a, rfl, _⟩ := wc_int h0
  obtain ⟨r, rfl, _⟩ := wc_int h3
  obtain ⟨m, rfl, hm, hbm⟩ := wc_strs hfs hss h1
  obtain ⟨l, rfl, hl, hb'⟩ := h2
  rw [hbs] at hbm
  exact ⟨.mk a m l r, (TY.enc_mk ..).symm, .mk (by omega) (by omega) hl⟩
theorem tys_of {c : CT} {f : FV} (h : WC P D B c f) : c = .sl t → ∃ l : List TY, f = .sl (l.map TY.enc) ∧ (∀ v ∈ l, v.Sm) ∧ l.length * 64 ≤ B := by
  induction h with
  | int k n h => intro e; cases e
  | bool b => intro e; cases e
  | str s h => intro e; cases e
  | sl e es hl hb' hf h ih =>
    intro he
    cases he
    obtain ⟨m, rfl, hm⟩ := choose_list (f := TY.enc) (p := TY.Sm) (l := es) fun x hx => by
      obtain ⟨n, agg, hs, hfit⟩ := hf x hx
      rw [hst] at hs; cases hs
      obtain ⟨cs, rfl, hcs⟩ := fits_agg hfit
      obtain ⟨c0, c1, c2, c3, rfl⟩ := len4 hcs
      have H := fun j y c => h _ hx j y c
      have I := fun j y c => ih _ hx j y c
      simp only [FV.cells, hft] at H I
      exact ty_four hB hft hfs hst hss hb hbs (H 0 c0 _ rfl rfl) (H 1 c1 _ rfl rfl) (I 2 c2 _ rfl rfl rfl) (H 3 c3 _ rfl rfl)
    exact ⟨m, rfl, hm, by rw [hb] at hb'; simpa using hb'⟩
end
theorem plain_ok (a : Int) : Rt N_ltype_Plain [.fz (.int .i64 a)] = some ([.fz (TY.mk a [] [] a).enc], []) := by
  refine rt_call A_ltype_Plain rfl rfl 0 ?_
  rw [E_ltype_Plain, TY.enc_mk]; rfl
end Go.Ab
