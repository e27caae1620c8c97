/- Whether a type is below another one: the program's word, and the order. -/
import Derived.Test.YtdpfpdejipkffaaSCutT
namespace Go.Ab
open Go.Proofs
set_option linter.unusedVariables false
set_option linter.unusedSimpArgs false
set_option linter.unusedSectionVars false
theorem isFn_fn (f : Nat) (cs : List FV) : FV.isFn (.fn f cs) = true := rfl
theorem fnN_fn (f : Nat) (cs : List FV) : FV.fnN (.fn f cs) = f := rfl
theorem fnC_fn (f : Nat) (cs : List FV) : FV.fnC (.fn f cs) = cs := rfl
theorem app1 (x : FV) (cs : List FV) : List.map TV.fz ([x] ++ cs) = .fz x :: cs.map .fz := rfl
theorem indexFunc_ok {ks : List ByteArray} (hk : ks.length ≤ 1152921504606846976) (g : Nat) (caps : List FV) (p : ByteArray → Bool) (hp : ∀ k ∈ ks, Rt g (.fz (.str k) :: caps.map .fz) = some ([.fz (.bool (p k))], [])) :
    ∃ i : Int, Rt N_slices_IndexFunc___string_string_ [.fz (.sl (ks.map .str)), .fz (.fn g caps)] = some ([.fz (.int .i64 i)], []) ∧ decide (i ≥ 0) = ks.any p := by
  have loop : ∀ (j i : Nat), i + j = ks.length → ∃ r : Int, onL (L_slices_IndexFunc___string_string__1_0 Rt (ks.length + 1) true (j + 1) (ks.map .str) (.fn g caps) ks.length i) (K_slices_IndexFunc___string_string__1 Rt (ks.length + 1) true) = some ([.fz (.int .i64 r)], []) ∧ decide (r ≥ 0) = (ks.drop i).any p := by
    intro j
    induction j with
    | zero =>
      intro i hij
      refine ⟨-1, ?_, ?_⟩
      · rw [L_slices_IndexFunc___string_string__1_0_eq]
        simp only [decide_eq_false (show ¬ ((i : Int) < (ks.length : Int)) by omega), ifB_false, onL_some, X_slices_IndexFunc___string_string__1_1_eq]
      · rw [List.drop_eq_nil_of_le (by omega)]; rfl
    | succ j jh =>
      intro i hij
      have hl : i < ks.length := by omega
      have h1 := hp ks[i] (List.getElem_mem hl)
      have hw : IntKind.wrap .i64 ((i : Int) + 1) = ((i + 1 : Nat) : Int) := by rw [wrap64 (by omega) (by omega)]; simp
      rw [L_slices_IndexFunc___string_string__1_0_eq, drop_cons hl, List.any_cons]
      simp only [List.length_map, decide_eq_true (show (i : Int) < (ks.length : Int) by omega), decide_eq_true (show (0 : Int) ≤ (i : Int) by omega), ifB_true, Bool.and_true, when_true', Int.toNat_natCast, getD_str' ks hl, fits_str, isStr_str, toStr_str, isFn_fn, fnN_fn, fnC_fn, app1, h1, onR_some, List.isEmpty_nil, allF_cons, allF_nil, List.getD_cons_zero, toF_fz, isBool_bool, toBool_bool, hw]
      cases p ks[i] with
      | true =>
        refine ⟨i, ?_, ?_⟩
        · simp only [ifB_true, onL_some, X_slices_IndexFunc___string_string__1_0_eq]
        · rw [Bool.true_or]; exact decide_eq_true (by omega)
      | false =>
        simp only [ifB_false, Bool.false_or]
        exact jh (i + 1) (by omega)
  obtain ⟨r, l0, hr⟩ := loop ks.length 0 (by omega)
  simp only [Int.natCast_zero] at l0
  refine ⟨r, rt_call A_slices_IndexFunc___string_string_ rfl rfl (ks.length + 1) ?_, by rw [hr, List.drop_zero]⟩
  rw [E_slices_IndexFunc___string_string_, List.length_map]
  exact l0
theorem containsFunc_ok {ks : List ByteArray} (hk : ks.length ≤ 1152921504606846976) (g : Nat) (caps : List FV) (p : ByteArray → Bool) (hp : ∀ k ∈ ks, Rt g (.fz (.str k) :: caps.map .fz) = some ([.fz (.bool (p k))], [])) :
    Rt N_slices_ContainsFunc___string_string_ [.fz (.sl (ks.map .str)), .fz (.fn g caps)] = some ([.fz (.bool (ks.any p))], []) := by
  obtain ⟨i, h1, h2⟩ := indexFunc_ok hk g caps p hp
  refine rt_call A_slices_ContainsFunc___string_string_ rfl rfl 0 ?_
  rw [E_slices_ContainsFunc___string_string_, h1]
  simp only [onR_some, onL_some, List.isEmpty_nil, allF_cons, allF_nil, Bool.and_true, Bool.true_and, when_true', List.getD_cons_zero, List.getD_cons_succ, isF_fz, toF_fz, isBool_bool, toBool_bool, isInt_int, toInt_int, isStr_str, toStr_str, isSl_sl, toSl_sl, List.length_cons, List.length_nil, List.all_cons, List.all_nil, lisFz_fz, ltoFz_fz, beq_self_eq_true, jump_true, ifB_true, ifB_false, isF_pv, isPv_pv, toV_pv, isNil_nilp, isNil_pt, isPt_pt, toAg_ag, cell_ag, isAg_ag, fits_ag, Int.toNat_natCast, Bool.not_true, Bool.not_false, fits_int, fits_bool, fits_str, fits_sl, h2]
theorem leqP_step {e : FV} {L : Lt} (I : IsLat e L) {x y : TY} (hx : MayT L x) (hy : MayT L y) (sx : x.Sm) (sy : y.Sm) (bx : x.ks.length ≤ 50000000) (by' : y.ks.length ≤ 50000000) (b : ByteArray → Bool)
    (hb : ∀ k ∈ mrg x.ks y.ks, Rt N_ltype_Leq [.fz (.pt 195 true e 0), .fz (ofT x k).enc, .fz (ofT y k).enc] = some ([.fz (.bool (b k))], [])) :
    Rt N_ltype_Leq [.fz (.pt 195 true e 0), .fz x.enc, .fz y.enc] = some ([.fz (.bool (L.leqI x.a y.a && (L.leqI x.r y.r && (mrg x.ks y.ks).all b)))], []) := by
  have ox := of_ok' hx sx
  have oy := of_ok' hy sy
  have hkk := fun (a r a' r' : Int) us us' => keysP_ok a r a' r' us us' hx.rise hy.rise (by omega) (by omega)
  have hl : (mrg x.ks y.ks).length ≤ 100000000 := by have := mrg_len x.ks y.ks; omega
  obtain ⟨xa, xk, xu, xr⟩ := x
  obtain ⟨ya, yk, yu, yr⟩ := y
  simp only [TY.ks, TY.a, TY.r] at hkk hb hl ⊢
  simp only [TY.enc_mk] at ox oy
  generalize mrg xk yk = ks at hkk hb hl ⊢
  have clos : ∀ k ∈ ks, Rt N_ltype_Leq_1 (.fz (.str k) :: [FV.pt 1 false (.pt 195 true e 0) 0, FV.pt 4 true (.ag [.int .i64 xa, .sl (xk.map .str), .sl (xu.map TY.enc), .int .i64 xr]) 0, FV.pt 4 true (.ag [.int .i64 ya, .sl (yk.map .str), .sl (yu.map TY.enc), .int .i64 yr]) 0].map .fz) = some ([.fz (.bool (!(b k)))], []) := by
    intro k hk
    simp only [List.map_cons, List.map_nil]
    refine rt_call A_ltype_Leq_1 rfl rfl 0 ?_
    rw [E_ltype_Leq_1, ox, oy]
    simp only [onR_some, onL_some, List.isEmpty_nil, allF_cons, allF_nil, Bool.and_true, Bool.true_and, when_true', List.getD_cons_zero, List.getD_cons_succ, isF_fz, toF_fz, isBool_bool, toBool_bool, isInt_int, toInt_int, isStr_str, toStr_str, isSl_sl, toSl_sl, List.length_cons, List.length_nil, List.all_cons, List.all_nil, lisFz_fz, ltoFz_fz, beq_self_eq_true, jump_true, ifB_true, ifB_false, isF_pv, isPv_pv, toV_pv, isNil_nilp, isNil_pt, isPt_pt, toAg_ag, cell_ag, isAg_ag, fits_ag, Int.toNat_natCast, Bool.not_true, Bool.not_false, fits_int, fits_bool, fits_str, fits_sl, hb k hk]
  have hc := containsFunc_ok (by omega) N_ltype_Leq_1 _ _ clos
  refine rt_call A_ltype_Leq rfl rfl 0 ?_
  rw [TY.enc_mk, TY.enc_mk, E_ltype_Leq]
  simp only [onR_some, onL_some, List.isEmpty_nil, allF_cons, allF_nil, Bool.and_true, Bool.true_and, when_true', List.getD_cons_zero, List.getD_cons_succ, isF_fz, toF_fz, isBool_bool, toBool_bool, isInt_int, toInt_int, isStr_str, toStr_str, isSl_sl, toSl_sl, List.length_cons, List.length_nil, List.all_cons, List.all_nil, lisFz_fz, ltoFz_fz, beq_self_eq_true, jump_true, ifB_true, ifB_false, isF_pv, isPv_pv, toV_pv, isNil_nilp, isNil_pt, isPt_pt, toAg_ag, cell_ag, isAg_ag, fits_ag, Int.toNat_natCast, Bool.not_true, Bool.not_false, fits_int, fits_bool, fits_str, fits_sl, lat_Leq I]
  cases L.leqI xa ya with
  | false => simp only [onR_some, onL_some, List.isEmpty_nil, allF_cons, allF_nil, Bool.and_true, Bool.true_and, when_true', List.getD_cons_zero, List.getD_cons_succ, isF_fz, toF_fz, isBool_bool, toBool_bool, isInt_int, toInt_int, isStr_str, toStr_str, isSl_sl, toSl_sl, List.length_cons, List.length_nil, List.all_cons, List.all_nil, lisFz_fz, ltoFz_fz, beq_self_eq_true, jump_true, ifB_true, ifB_false, isF_pv, isPv_pv, toV_pv, isNil_nilp, isNil_pt, isPt_pt, toAg_ag, cell_ag, isAg_ag, fits_ag, Int.toNat_natCast, Bool.not_true, Bool.not_false, fits_int, fits_bool, fits_str, fits_sl, Bool.false_and]
  | true =>
    simp only [onR_some, onL_some, List.isEmpty_nil, allF_cons, allF_nil, Bool.and_true, Bool.true_and, when_true', List.getD_cons_zero, List.getD_cons_succ, isF_fz, toF_fz, isBool_bool, toBool_bool, isInt_int, toInt_int, isStr_str, toStr_str, isSl_sl, toSl_sl, List.length_cons, List.length_nil, List.all_cons, List.all_nil, lisFz_fz, ltoFz_fz, beq_self_eq_true, jump_true, ifB_true, ifB_false, isF_pv, isPv_pv, toV_pv, isNil_nilp, isNil_pt, isPt_pt, toAg_ag, cell_ag, isAg_ag, fits_ag, Int.toNat_natCast, Bool.not_true, Bool.not_false, fits_int, fits_bool, fits_str, fits_sl]
    cases L.leqI xr yr with
    | false => simp only [onR_some, onL_some, List.isEmpty_nil, allF_cons, allF_nil, Bool.and_true, Bool.true_and, when_true', List.getD_cons_zero, List.getD_cons_succ, isF_fz, toF_fz, isBool_bool, toBool_bool, isInt_int, toInt_int, isStr_str, toStr_str, isSl_sl, toSl_sl, List.length_cons, List.length_nil, List.all_cons, List.all_nil, lisFz_fz, ltoFz_fz, beq_self_eq_true, jump_true, ifB_true, ifB_false, isF_pv, isPv_pv, toV_pv, isNil_nilp, isNil_pt, isPt_pt, toAg_ag, cell_ag, isAg_ag, fits_ag, Int.toNat_natCast, Bool.not_true, Bool.not_false, fits_int, fits_bool, fits_str, fits_sl, Bool.false_and]
    | true =>
      simp only [onR_some, onL_some, List.isEmpty_nil, allF_cons, allF_nil, Bool.and_true, Bool.true_and, when_true', List.getD_cons_zero, List.getD_cons_succ, isF_fz, toF_fz, isBool_bool, toBool_bool, isInt_int, toInt_int, isStr_str, toStr_str, isSl_sl, toSl_sl, List.length_cons, List.length_nil, List.all_cons, List.all_nil, lisFz_fz, ltoFz_fz, beq_self_eq_true, jump_true, ifB_true, ifB_false, isF_pv, isPv_pv, toV_pv, isNil_nilp, isNil_pt, isPt_pt, toAg_ag, cell_ag, isAg_ag, fits_ag, Int.toNat_natCast, Bool.not_true, Bool.not_false, fits_int, fits_bool, fits_str, fits_sl]
      rw [J_ltype_Leq_1_0_eq, hkk]
      simp only [onR_some, onL_some, List.isEmpty_nil, allF_cons, allF_nil, Bool.and_true, Bool.true_and, when_true', List.getD_cons_zero, List.getD_cons_succ, isF_fz, toF_fz, isBool_bool, toBool_bool, isInt_int, toInt_int, isStr_str, toStr_str, isSl_sl, toSl_sl, List.length_cons, List.length_nil, List.all_cons, List.all_nil, lisFz_fz, ltoFz_fz, beq_self_eq_true, jump_true, ifB_true, ifB_false, isF_pv, isPv_pv, toV_pv, isNil_nilp, isNil_pt, isPt_pt, toAg_ag, cell_ag, isAg_ag, fits_ag, Int.toNat_natCast, Bool.not_true, Bool.not_false, fits_int, fits_bool, fits_str, fits_sl, hc]
      rw [List.all_eq_not_any_not]
def leqT (L : Lt) : Nat → TY → TY → Bool
  | 0, x, y => L.leqI x.a y.a && L.leqI x.r y.r
  | n + 1, x, y => L.leqI x.a y.a && (L.leqI x.r y.r && (mrg x.ks y.ks).all fun k => leqT L n (ofT x k) (ofT y k))
theorem leqP_ok {e : FV} {L : Lt} (I : IsLat e L) : ∀ (n : Nat) {x y : TY}, MayT L x → MayT L y → x.Dp n → y.Dp n → x.Bd 50000000 → y.Bd 50000000 → Rt N_ltype_Leq [.fz (.pt 195 true e 0), .fz x.enc, .fz y.enc] = some ([.fz (.bool (leqT L n x y))], [])
  | 0, x, y, hx, hy, dx, dy, bx, by' => by
    have e1 : mrg x.ks y.ks = [] := by rw [hx.ks0 dx, hy.ks0 dy, mrg_nil]
    have h := leqP_step I hx hy (bx.sm (by omega)) (by'.sm (by omega)) (by cases bx with | mk hk _ _ => exact hk) (by cases by' with | mk hk _ _ => exact hk) (fun _ => true) (fun k hk => by rw [e1] at hk; cases hk)
    rw [e1, List.all_nil, Bool.and_true] at h
    exact h
  | n + 1, x, y, hx, hy, dx, dy, bx, by' =>
    leqP_step I hx hy (bx.sm (by omega)) (by'.sm (by omega)) (by cases bx with | mk hk _ _ => exact hk) (by cases by' with | mk hk _ _ => exact hk) (fun k => leqT L n (ofT x k) (ofT y k)) (fun k _ => leqP_ok I n (ofT_may hx k) (ofT_may hy k) (ofT_dp dx k) (ofT_dp dy k) (ofT_bd bx k) (ofT_bd by' k))
/-! The order, of all keys. -/
end Go.Ab
