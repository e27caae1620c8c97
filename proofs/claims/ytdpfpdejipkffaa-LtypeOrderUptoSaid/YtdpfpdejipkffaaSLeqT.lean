/- Whether a type is below another one: the program's word, and the order. -/
import Derived.Test.YtdpfpdejipkffaaSCutT
namespace Go.Ab
open Go.Proofs
set_option linter.unusedVariables false
set_option linter.unusedSimpArgs false
set_option linter.unusedSectionVars false
theorem isFn_fn (f : Nat) (cs : List FV) : FV.isFn (.fn f cs) = true := rfl
theorem fnN_fn (f : Nat) (cs : List FV) : FV.fnN (.fn f cs) = f := rfl
theorem fnC_fn (f : Nat) (cs : List FV) : FV.fnC (.fn f cs) = cs := rfl
theorem app1 (x : FV) (cs : List FV) : List.map TV.fz ([x] ++ cs) = .fz x :: cs.map .fz := rfl
theorem indexFunc_ok {ks : List ByteArray} (hk : ks.length ≤ 1152921504606846976) (g : Nat) (caps : List FV) (p : ByteArray → Bool) (hp : ∀ k ∈ ks, Rt g (.fz (.str k) :: caps.map .fz) = some ([.fz (.bool (p k))], [])) :
    ∃ i : Int, Rt N_slices_IndexFunc___string_string_ [.fz (.sl (ks.map .str)), .fz (.fn g caps)] = some ([.fz (.int .i64 i)], []) ∧ decide (i ≥ 0) = ks.any p := by
  have loop : ∀ (j i : Nat), i + j = ks.length → ∃ r : Int, onL (L_slices_IndexFunc___string_string__1_0 Rt (ks.length + 1) true (j + 1) (ks.map .str) (.fn g caps) ks.length i) (K_slices_IndexFunc___string_string__1 Rt (ks.length + 1) true) = some ([.fz (.int .i64 r)], []) ∧ decide (r ≥ 0) = (ks.drop i).any p := by
    intro j
    induction j with
    | zero =>
      intro i hij
      refine ⟨-1, ?_, ?_⟩
      · rw [L_slices_IndexFunc___string_string__1_0_eq]
        simp only [decide_eq_false (show ¬ ((i : Int) < (ks.length : Int)) by omega), ifB_false, onL_some, X_slices_IndexFunc___string_string__1_1_eq]
      · rw [List.drop_eq_nil_of_le (by omega)]; rfl
    | succ j jh =>
      intro i hij
      have hl : i < ks.length := by omega
      have h1 := hp ks[i] (List.getElem_mem hl)
      have hw : IntKind.wrap .i64 ((i : Int) + 1) = ((i + 1 : Nat) : Int) := by rw [wrap64 (by omega) (by omega)]; simp
      rw [L_slices_IndexFunc___string_string__1_0_eq, drop_cons hl, List.any_cons]
      simp only [List.length_map, decide_eq_true (show (i : Int) < (ks.length : Int) by omega), decide_eq_true (show (0 : Int) ≤ (i : Int) by omega), ifB_true, Bool.and_true, when_true', Int.toNat_natCast, getD_str' ks hl, fits_str, isStr_str, toStr_str, isFn_fn, fnN_fn, fnC_fn, app1, h1, onR_some, List.isEmpty_nil, allF_cons, allF_nil, List.getD_cons_zero, toF_fz, isBool_bool, toBool_bool, hw]
      cases p ks[i] with
      | true =>
        refine ⟨i, ?_, ?_⟩
        · simp only [ifB_true, onL_some, X_slices_IndexFunc___string_string__1_0_eq]
        · rw [Bool.true_or]; exact decide_eq_true (by omega)
      | false =>
        simp only [ifB_false, Bool.false_or]
        exact jh (i + 1) (by omega)
  obtain ⟨r, l0, hr⟩ := loop ks.length 0 (by omega)
  simp only [Int.natCast_zero] at l0
  refine ⟨r, rt_call A_slices_IndexFunc___string_string_ rfl rfl (ks.length + 1) ?_, by rw [hr, List.drop_zero]⟩
  rw [E_slices_IndexFunc___string_string_, List.length_map]
  exact l0
theorem containsFunc_ok {ks : List ByteArray} (hk : ks.length ≤ 1152921504606846976) (g : Nat) (caps : List FV) (p : ByteArray → Bool) (hp : ∀ k ∈ ks, Rt g (.fz (.str k) :: caps.map .fz) = some ([.fz (.bool (p k))], [])) :
    Rt N_slices_ContainsFunc___string_string_ [.fz (.sl (ks.map .str)), .fz (.fn g caps)] = some ([.fz (.bool (ks.any p))], []) := by
  obtain ⟨i, h1, h2⟩ := indexFunc_ok hk g caps p hp
  refine rt_call A_slices_ContainsFunc___string_string_ rfl rfl 0 ?_
  rw [E_slices_ContainsFunc___string_string_, h1]
  simp only [onR_some, onL_some, List.isEmpty_nil, allF_cons, allF_nil, Bool.and_true, Bool.true_and, when_true', List.getD_cons_zero, List.getD_cons_succ, isF_fz, toF_fz, isBool_bool, toBool_bool, isInt_int, toInt_int, isStr_str, toStr_str, isSl_sl, toSl_sl, List.length_cons, List.length_nil, List.all_cons, List.all_nil, lisFz_fz, ltoFz_fz, beq_self_eq_true, jump_true, ifB_true, ifB_false, isF_pv, isPv_pv, toV_pv, isNil_nilp, isNil_pt, isPt_pt, toAg_ag, cell_ag, isAg_ag, fits_ag, Int.toNat_natCast, Bool.not_true, Bool.not_false, fits_int, fits_bool, fits_str, fits_sl, h2]
theorem leqP_step {e : FV} {L : Lt} (I : IsLat e L) {x y : TY} (hx : MayT L x) (hy : MayT L y) (sx : x.Sm) (sy : y.Sm) (bx : x.ks.length ≤ 50000000) (by' : y.ks.length ≤ 50000000) (b : ByteArray → Bool)
    (hb : ∀ k ∈ mrg x.ks y.ks, Rt N_ltype_Leq [.fz (.pt 195 true e 0), .fz (ofT x k).enc, .fz (ofT y k).enc] = some ([.fz (.bool (b k))], [])) :
    Rt N_ltype_Leq [.fz (.pt 195 true e 0), .fz x.enc, .fz y.enc] = some ([.fz (.bool (L.leqI x.a y.a && (L.leqI x.r y.r && (mrg x.ks y.ks).all b)))], []) := by
  have ox := of_ok' hx sx
  have oy := of_ok' hy sy
  have hkk := fun (a r a' r' : Int) us us' => keysP_ok a r a' r' us us' hx.rise hy.rise (by omega) (by omega)
  have hl : (mrg x.ks y.ks).length ≤ 100000000 := by have := mrg_len x.ks y.ks; omega
  obtain ⟨xa, xk, xu, xr⟩ := x
  obtain ⟨ya, yk, yu, yr⟩ := y
  simp only [TY.ks, TY.a, TY.r] at hkk hb hl ⊢
  simp only [TY.enc_mk] at ox oy
  generalize mrg xk yk = ks at hkk hb hl ⊢
  have clos : ∀ k ∈ ks, Rt N_ltype_Leq_1 (.fz (.str k) :: [FV.pt 1 false (.pt 195 true e 0) 0, FV.pt 4 true (.ag [.int .i64 xa, .sl (xk.map .str), .sl (xu.map TY.enc), .int .i64 xr]) 0, FV.pt 4 true (.ag [.int .i64 ya, .sl (yk.map .str), .sl (yu.map TY.enc), .int .i64 yr]) 0].map .fz) = some ([.fz (.bool (!(b k)))], []) := by
    intro k hk
    simp only [List.map_cons, List.map_nil]
    refine rt_call A_ltype_Leq_1 rfl rfl 0 ?_
    rw [E_ltype_Leq_1, ox, oy]
    simp only [onR_some, onL_some, List.isEmpty_nil, allF_cons, allF_nil, Bool.and_true, Bool.true_and, when_true', List.getD_cons_zero, List.getD_cons_succ, isF_fz, toF_fz, isBool_bool, toBool_bool, isInt_int, toInt_int, isStr_str, toStr_str, isSl_sl, toSl_sl, List.length_cons, List.length_nil, List.all_cons, List.all_nil, lisFz_fz, ltoFz_fz, beq_self_eq_true, jump_true, ifB_true, ifB_false, isF_pv, isPv_pv, toV_pv, isNil_nilp, isNil_pt, isPt_pt, toAg_ag, cell_ag, isAg_ag, fits_ag, Int.toNat_natCast, Bool.not_true, Bool.not_false, fits_int, fits_bool, fits_str, fits_sl, hb k hk]
  have hc := containsFunc_ok (by omega) N_ltype_Leq_1 _ _ clos
  refine rt_call A_ltype_Leq rfl rfl 0 ?_
  rw [TY.enc_mk, TY.enc_mk, E_ltype_Leq]
  simp only [onR_some, onL_some, List.isEmpty_nil, allF_cons, allF_nil, Bool.and_true, Bool.true_and, when_true', List.getD_cons_zero, List.getD_cons_succ, isF_fz, toF_fz, isBool_bool, toBool_bool, isInt_int, toInt_int, isStr_str, toStr_str, isSl_sl, toSl_sl, List.length_cons, List.length_nil, List.all_cons, List.all_nil, lisFz_fz, ltoFz_fz, beq_self_eq_true, jump_true, ifB_true, ifB_false, isF_pv, isPv_pv, toV_pv, isNil_nilp, isNil_pt, isPt_pt, toAg_ag, cell_ag, isAg_ag, fits_ag, Int.toNat_natCast, Bool.not_true, Bool.not_false, fits_int, fits_bool, fits_str, fits_sl, lat_Leq I]
  cases L.leqI xa ya with
  | false => simp only [onR_some, onL_some, List.isEmpty_nil, allF_cons, allF_nil, Bool.and_true, Bool.true_and, when_true', List.getD_cons_zero, List.getD_cons_succ, isF_fz, toF_fz, isBool_bool, toBool_bool, isInt_int, toInt_int, isStr_str, toStr_str, isSl_sl, toSl_sl, List.length_cons, List.length_nil, List.all_cons, List.all_nil, lisFz_fz, ltoFz_fz, beq_self_eq_true, jump_true, ifB_true, ifB_false, isF_pv, isPv_pv, toV_pv, isNil_nilp, isNil_pt, isPt_pt, toAg_ag, cell_ag, isAg_ag, fits_ag, Int.toNat_natCast, Bool.not_true, Bool.not_false, fits_int, fits_bool, fits_str, fits_sl, Bool.false_and]
  | true =>
    simp only [onR_some, onL_some, List.isEmpty_nil, allF_cons, allF_nil, Bool.and_true, Bool.true_and, when_true', List.getD_cons_zero, List.getD_cons_succ, isF_fz, toF_fz, isBool_bool, toBool_bool, isInt_int, toInt_int, isStr_str, toStr_str, isSl_sl, toSl_sl, List.length_cons, List.length_nil, List.all_cons, List.all_nil, lisFz_fz, ltoFz_fz, beq_self_eq_true, jump_true, ifB_true, ifB_false, isF_pv, isPv_pv, toV_pv, isNil_nilp, isNil_pt, isPt_pt, toAg_ag, cell_ag, isAg_ag, fits_ag, Int.toNat_natCast, Bool.not_true, Bool.not_false, fits_int, fits_bool, fits_str, fits_sl]
    cases L.leqI xr yr with
    | false => simp only [onR_some, onL_some, List.isEmpty_nil, allF_cons, allF_nil, Bool.and_true, Bool.true_and, when_true', List.getD_cons_zero, List.getD_cons_succ, isF_fz, toF_fz, isBool_bool, toBool_bool, isInt_int, toInt_int, isStr_str, toStr_str, isSl_sl, toSl_sl, List.length_cons, List.length_nil, List.all_cons, List.all_nil, lisFz_fz, ltoFz_fz, beq_self_eq_true, jump_true, ifB_true, ifB_false, isF_pv, isPv_pv, toV_pv, isNil_nilp, isNil_pt, isPt_pt, toAg_ag, cell_ag, isAg_ag, fits_ag, Int.toNat_natCast, Bool.not_true, Bool.not_false, fits_int, fits_bool, fits_str, fits_sl, Bool.false_and]
    | true =>
      simp only [onR_some, onL_some, List.isEmpty_nil, allF_cons, allF_nil, Bool.and_true, Bool.true_and, when_true', List.getD_cons_zero, List.getD_cons_succ, isF_fz, toF_fz, isBool_bool, toBool_bool, isInt_int, toInt_int, isStr_str, toStr_str, isSl_sl, toSl_sl, List.length_cons, List.length_nil, List.all_cons, List.all_nil, lisFz_fz, ltoFz_fz, beq_self_eq_true, jump_true, ifB_true, ifB_false, isF_pv, isPv_pv, toV_pv, isNil_nilp, isNil_pt, isPt_pt, toAg_ag, cell_ag, isAg_ag, fits_ag, Int.toNat_natCast, Bool.not_true, Bool.not_false, fits_int, fits_bool, fits_str, fits_sl]
      rw [J_ltype_Leq_1_0_eq, hkk]
      simp only [onR_some, onL_some, List.isEmpty_nil, allF_cons, allF_nil, Bool.and_true, Bool.true_and, when_true', List.getD_cons_zero, List.getD_cons_succ, isF_fz, toF_fz, isBool_bool, toBool_bool, isInt_int, toInt_int, isStr_str, toStr_str, isSl_sl, toSl_sl, List.length_cons, List.length_nil, List.all_cons, List.all_nil, lisFz_fz, ltoFz_fz, beq_self_eq_true, jump_true, ifB_true, ifB_false, isF_pv, isPv_pv, toV_pv, isNil_nilp, isNil_pt, isPt_pt, toAg_ag, cell_ag, isAg_ag, fits_ag, Int.toNat_natCast, Bool.not_true, Bool.not_false, fits_int, fits_bool, fits_str, fits_sl, hc]
      rw [List.all_eq_not_any_not]
def leqT (L : Lt) : Nat → TY → TY → Bool
  | 0, x, y => L.leqI x.a y.a && L.leqI x.r y.r
  | n + 1, x, y => L.leqI x.a y.a && (L.leqI x.r y.r && (mrg x.ks y.ks).all fun k => leqT L n (ofT x k) (ofT y k))
theorem leqP_ok {e : FV} {L : Lt} (I : IsLat e L) : ∀ (n : Nat) {x y : TY}, MayT L x → MayT L y → x.Dp n → y.Dp n → x.Bd 50000000 → y.Bd 50000000 → Rt N_ltype_Leq [.fz (.pt 195 true e 0), .fz x.enc, .fz y.enc] = some ([.fz (.bool (leqT L n x y))], [])
  | 0, x, y, hx, hy, dx, dy, bx, by' => by
    have e1 : mrg x.ks y.ks = [] := by rw [hx.ks0 dx, hy.ks0 dy, mrg_nil]
    have h := leqP_step I hx hy (bx.sm (by omega)) (by'.sm (by omega)) (by cases bx with | mk hk _ _ => exact hk) (by cases by' with | mk hk _ _ => exact hk) (fun _ => true) (fun k hk => by rw [e1] at hk; cases hk)
    rw [e1, List.all_nil, Bool.and_true] at h
    exact h
  | n + 1, x, y, hx, hy, dx, dy, bx, by' =>
    leqP_step I hx hy (bx.sm (by omega)) (by'.sm (by omega)) (by cases bx with | mk hk _ _ => exact hk) (by cases by' with | mk hk _ _ => exact hk) (fun k => leqT L n (ofT x k) (ofT y k)) (fun k _ => leqP_ok I n (ofT_may hx k) (ofT_may hy k) (ofT_dp dx k) (ofT_dp dy k) (ofT_bd bx k) (ofT_bd by' k))
/-! The order, of all keys. -/
def leqA (L : Lt) : Nat → TY → TY → Prop
  | 0, x, y => L.leqI x.a y.a = true ∧ L.leqI x.r y.r = true
  | n + 1, x, y => L.leqI x.a y.a = true ∧ L.leqI x.r y.r = true ∧ ∀ k, leqA L n (ofT x k) (ofT y k)
theorem ofT_plain (r : Int) (k : ByteArray) : ofT (.mk r [] [] r) k = .mk r [] [] r := by simp [ofT, ofL, TY.ks, TY.us, TY.r]
theorem leqA_plain {L : Lt} {r s : Int} (h : L.leqI r s = true) : ∀ n, leqA L n (.mk r [] [] r) (.mk s [] [] s)
  | 0 => ⟨h, h⟩
  | n + 1 => ⟨h, h, fun k => by rw [ofT_plain, ofT_plain]; exact leqA_plain h n⟩
theorem ofT_no {x : TY} {k : ByteArray} (h : k ∉ x.ks) : ofT x k = .mk x.r [] [] x.r := ofL_no _ _ _ _ h
theorem leqT_iff {L : Lt} : ∀ (n : Nat) (x y : TY), leqT L n x y = true ↔ leqA L n x y
  | 0, x, y => by rw [leqT, leqA, Bool.and_eq_true]
  | n + 1, x, y => by
    rw [leqT, leqA, Bool.and_eq_true, Bool.and_eq_true, List.all_eq_true]
    refine ⟨fun ⟨h1, h2, h3⟩ => ⟨h1, h2, fun k => ?_⟩, fun ⟨h1, h2, h3⟩ => ⟨h1, h2, fun k _ => (leqT_iff n _ _).2 (h3 k)⟩⟩
    by_cases hk : k ∈ mrg x.ks y.ks
    · exact (leqT_iff n _ _).1 (h3 k hk)
    · have hk := not_or.1 fun hh => hk ((mrg_mem ..).2 hh)
      rw [ofT_no hk.1, ofT_no hk.2]
      exact leqA_plain h2 n
theorem leqI_refl {L : Lt} (O : L.Ok) {a : Int} (h : L.is a = true) : L.leqI a a = true := by
  have h' := Lt.is_iff.1 h
  simp only [Lt.leqI, h, Bool.true_and]
  exact O.refl _ (by omega)
theorem leqI_is {L : Lt} {a b : Int} (h : L.leqI a b = true) : L.is a = true ∧ L.is b = true := by
  simp only [Lt.leqI, Bool.and_eq_true] at h
  exact ⟨h.1, h.2.1⟩
theorem leqI_trans {L : Lt} (O : L.Ok) {a b c : Int} (h1 : L.leqI a b = true) (h2 : L.leqI b c = true) : L.leqI a c = true := by
  obtain ⟨i1, i2⟩ := leqI_is h1
  obtain ⟨_, i3⟩ := leqI_is h2
  have a1 := Lt.is_iff.1 i1
  have a2 := Lt.is_iff.1 i2
  have a3 := Lt.is_iff.1 i3
  simp only [Lt.leqI, i1, i2, i3, Bool.true_and] at h1 h2 ⊢
  exact O.trans _ _ _ (by omega) (by omega) (by omega) h1 h2
theorem leqI_join {L : Lt} (O : L.Ok) {a b : Int} (ha : L.is a = true) (hb : L.is b = true) : L.leqI a (L.joinI a b : Nat) = true ∧ L.leqI b (L.joinI a b : Nat) = true ∧ ∀ c, L.leqI a c = true → L.leqI b c = true → L.leqI (L.joinI a b : Nat) c = true := by
  obtain ⟨a0, a1⟩ := Lt.is_iff.1 ha
  obtain ⟨b0, b1⟩ := Lt.is_iff.1 hb
  obtain ⟨p, rfl⟩ : ∃ p : Nat, a = p := ⟨a.toNat, by omega⟩
  obtain ⟨q, rfl⟩ : ∃ q : Nat, b = q := ⟨b.toNat, by omega⟩
  have hp : p < L.n := by omega
  have hq : q < L.n := by omega
  rw [Lt.joinI_nat hp hq]
  have hj := O.join p q hp hq
  refine ⟨by rw [Lt.leqI_nat hp hj]; exact O.joinl p q hp hq, by rw [Lt.leqI_nat hq hj]; exact O.joinr p q hp hq, fun c h1 h2 => ?_⟩
  obtain ⟨_, hc⟩ := leqI_is h1
  obtain ⟨c0, c1⟩ := Lt.is_iff.1 hc
  obtain ⟨s, rfl⟩ : ∃ s : Nat, c = s := ⟨c.toNat, by omega⟩
  have hs : s < L.n := by omega
  rw [Lt.leqI_nat hp hs] at h1
  rw [Lt.leqI_nat hq hs] at h2
  rw [Lt.leqI_nat hj hs]
  exact O.joinm p q s hp hq hs h1 h2
theorem leqA_refl {L : Lt} (O : L.Ok) : ∀ (n : Nat) {x : TY}, MayT L x → leqA L n x x
  | 0, x, h => ⟨leqI_refl O h.ha, leqI_refl O h.hr⟩
  | n + 1, x, h => ⟨leqI_refl O h.ha, leqI_refl O h.hr, fun k => leqA_refl O n (ofT_may h k)⟩
theorem leqA_trans {L : Lt} (O : L.Ok) : ∀ (n : Nat) {x y z : TY}, leqA L n x y → leqA L n y z → leqA L n x z
  | 0, x, y, z, h1, h2 => ⟨leqI_trans O h1.1 h2.1, leqI_trans O h1.2 h2.2⟩
  | n + 1, x, y, z, h1, h2 => ⟨leqI_trans O h1.1 h2.1, leqI_trans O h1.2.1 h2.2.1, fun k => leqA_trans O n (h1.2.2 k) (h2.2.2 k)⟩
theorem ofL_map {ks : List ByteArray} (hp : ks.Pairwise BLt) (g : ByteArray → TY) (r : Int) {k : ByteArray} (hk : k ∈ ks) : ofL ks (ks.map g) k r = g k := by
  obtain ⟨i, hi, rfl⟩ := List.mem_iff_getElem.1 hk
  rw [ofL_at ks (ks.map g) r i hi (by simpa using hi) hp, List.getElem_map]
theorem joinT_plain (L : Lt) (r s : Int) : ∀ n, joinT L n (.mk r [] [] r) (.mk s [] [] s) = .mk (L.joinI r s) [] [] (L.joinI r s)
  | 0 => rfl
  | n + 1 => by simp [joinT, TY.a, TY.ks, TY.r, mrg_nil]
theorem ofT_join {L : Lt} (n : Nat) {x y : TY} (hx : MayT L x) (hy : MayT L y) (k : ByteArray) : ofT (joinT L (n + 1) x y) k = joinT L n (ofT x k) (ofT y k) := by
  by_cases hk : k ∈ mrg x.ks y.ks
  · exact ofL_map (mrg_rise _ _ hx.rise hy.rise) (fun k => joinT L n (ofT x k) (ofT y k)) _ hk
  · have hk' := not_or.1 fun hh => hk ((mrg_mem ..).2 hh)
    rw [ofT_no hk'.1, ofT_no hk'.2, joinT_plain]
    exact ofT_no hk
theorem leqA_join {L : Lt} (O : L.Ok) : ∀ (n : Nat) {x y : TY}, MayT L x → MayT L y → leqA L n x (joinT L n x y) ∧ leqA L n y (joinT L n x y) ∧ ∀ z, leqA L n x z → leqA L n y z → leqA L n (joinT L n x y) z
  | 0, x, y, hx, hy => by
    obtain ⟨a1, a2, a3⟩ := leqI_join O hx.ha hy.ha
    obtain ⟨r1, r2, r3⟩ := leqI_join O hx.hr hy.hr
    exact ⟨⟨a1, r1⟩, ⟨a2, r2⟩, fun z h1 h2 => ⟨a3 _ h1.1 h2.1, r3 _ h1.2 h2.2⟩⟩
  | n + 1, x, y, hx, hy => by
    obtain ⟨a1, a2, a3⟩ := leqI_join O hx.ha hy.ha
    obtain ⟨r1, r2, r3⟩ := leqI_join O hx.hr hy.hr
    have ih := fun k => leqA_join O n (ofT_may hx k) (ofT_may hy k)
    exact ⟨⟨a1, r1, fun k => by rw [ofT_join n hx hy]; exact (ih k).1⟩, ⟨a2, r2, fun k => by rw [ofT_join n hx hy]; exact (ih k).2.1⟩, fun z h1 h2 => ⟨a3 _ h1.1 h2.1, r3 _ h1.2.1 h2.2.1, fun k => by rw [ofT_join n hx hy]; exact (ih k).2.2 _ (h1.2.2 k) (h2.2.2 k)⟩⟩
theorem map_ofL {ks : List ByteArray} {us : List TY} (hl : ks.length = us.length) (hp : ks.Pairwise BLt) (r : Int) : ks.map (fun k => ofL ks us k r) = us := by
  apply List.ext_getElem
  · simpa using hl
  · intro i h1 h2
    rw [List.getElem_map]
    exact ofL_at ks us r i (by simpa using h1) h2 hp
theorem leq_joinN {L : Lt} (O : L.Ok) {a b c : Nat} (ha : a < L.n) (hb : b < L.n) (hc : c < L.n) : L.leq (L.join a b) c = (L.leq a c && L.leq b c) := by
  rw [Bool.eq_iff_iff, Bool.and_eq_true]
  have hj := O.join a b ha hb
  exact ⟨fun h => ⟨O.trans _ _ _ ha hj hc (O.joinl a b ha hb) h, O.trans _ _ _ hb hj hc (O.joinr a b ha hb) h⟩, fun h => O.joinm a b c ha hb hc h.1 h.2⟩
theorem leq_allTs {L : Lt} (O : L.Ok) {c : Nat} (hc : c < L.n) : ∀ (us : List TY) (acc : Nat), acc < L.n → L.leq (allTs L acc us) c = (L.leq acc c && us.all fun u => L.leq (allT L u) c)
  | [], acc, h => by simp [allTs]
  | u :: us, acc, h => by
    have hu := allT_lt O u
    rw [allTs, leq_allTs O hc us _ (O.join _ _ h hu), leq_joinN O h hu hc, List.all_cons, Bool.and_assoc]
/-- A type is below one level everywhere just if all its labels are. -/
theorem leqT_plain {L : Lt} (O : L.Ok) {c : Nat} (hc : c < L.n) : ∀ (n : Nat) {x : TY}, MayT L x → x.Dp n → leqT L n x (.mk c [] [] c) = L.leq (allT L x) c
  | n, .mk a ks us r, hm, hd => by
    have hm' := hm
    cases hm with
    | mk ha hr hl hp h =>
    obtain ⟨a0, a1⟩ := Lt.is_iff.1 ha
    obtain ⟨r0, r1⟩ := Lt.is_iff.1 hr
    obtain ⟨p, rfl⟩ : ∃ p : Nat, a = p := ⟨a.toNat, by omega⟩
    obtain ⟨q, rfl⟩ : ∃ q : Nat, r = q := ⟨r.toNat, by omega⟩
    have hpn : p < L.n := by omega
    have hqn : q < L.n := by omega
    rw [allT_mk, Lt.joinI_nat hpn hqn, leq_allTs O hc us _ (O.join _ _ hpn hqn), leq_joinN O hpn hqn hc]
    cases n with
    | zero =>
      have h0 : us = [] := hd
      subst h0
      simp only [leqT, TY.a, TY.r, Lt.leqI_nat hpn hc, Lt.leqI_nat hqn hc, List.all_nil, Bool.and_true]
    | succ n =>
      simp only [leqT, TY.a, TY.r, TY.ks, Lt.leqI_nat hpn hc, Lt.leqI_nat hqn hc, mrg_nilR, ofT_plain, ← Bool.and_assoc]
      congr 1
      have e1 : (ks.all fun k => leqT L n (ofT (.mk p ks us q) k) (.mk c [] [] c)) = us.all fun u => leqT L n u (.mk c [] [] c) := by
        conv => rhs; rw [← map_ofL hl hp (q : Int)]
        rw [List.all_map]; rfl
      rw [e1, Bool.eq_iff_iff, List.all_eq_true, List.all_eq_true]
      exact ⟨fun hh u hu => (leqT_plain O hc n (h u hu) (hd u hu)) ▸ hh u hu, fun hh u hu => (leqT_plain O hc n (h u hu) (hd u hu)).symm ▸ hh u hu⟩
end Go.Ab
