/- Arrays of types; whether all of some types may be; the reference's word on whether a type is below another one. -/
import Derived.Test.YtdpfpdejipkffaaSMayT
import Derived.Test.YtdpfpdejipkffaaSLeqT
namespace Go.Ab
open Go.Proofs
set_option linter.unusedVariables false
set_option linter.unusedSimpArgs false
set_option linter.unusedSectionVars false
theorem len8T {α : Type} {l : List α} (h : l.length = 8) : ∃ a b c d e f g i, l = [a, b, c, d, e, f, g, i] := by
  match l, h with
  | [a, b, c, d, e, f, g, i], _ => exact ⟨a, b, c, d, e, f, g, i, rfl⟩
def TY.cs (v : TY) : List FV := [.int .i64 v.a, .sl (v.ks.map .str), .sl (v.us.map TY.enc), .int .i64 v.r]
theorem TY.cs_enc (v : TY) : FV.ag v.cs = v.enc := by obtain ⟨a, ks, us, r⟩ := v; exact (TY.enc_mk ..).symm
section
variable {P : Program} {D B : Nat} {t ts : Nat} (hB : B ≤ 281474976710656) (hft : flat P D t = [.int .i64, .sl ts, .sl t, .int .i64]) (hfs : flat P D ts = [.str]) (hst : szOf P t = some (4, true)) (hss : szOf P ts = some (1, false)) (hb : P.bytesOf t = 64) (hbs : P.bytesOf ts = 16)
include hB hft hfs hst hss hb hbs
theorem ty_fourC {a k u r : FV} (h0 : WC P D B (.int .i64) a) (h1 : WC P D B (.sl ts) k) (h2 : WC P D B (.sl t) u) (h3 : WC P D B (.int .i64) r) : ∃ v : TY, a = .int .i64 v.a ∧ k = .sl (v.ks.map .str) ∧ u = .sl (v.us.map TY.enc) ∧ r = .int .i64 v.r ∧ v.Sm := by
  obtain ⟨a, rfl, _⟩ := wc_int h0
  obtain ⟨r, rfl, _⟩ := wc_int h3
  obtain ⟨m, rfl, hm, hbm⟩ := wc_strs hfs hss h1
  obtain ⟨l, rfl, hl, hb'⟩ := tys_of hB hft hfs hst hss hb hbs h2 rfl
  rw [hbs] at hbm
  exact ⟨.mk a m l r, rfl, rfl, rfl, rfl, .mk (by omega) (by omega) hl⟩
theorem ty2_of {t2 : Nat} (h2 : flat P D t2 = [.int .i64, .sl ts, .sl t, .int .i64, .int .i64, .sl ts, .sl t, .int .i64]) (hs2 : szOf P t2 = some (8, true)) {f : FV} (h : WV P D B t2 f) : ∃ v w : TY, f = .ag (v.cs ++ w.cs) ∧ v.Sm ∧ w.Sm := by
  obtain ⟨⟨n, agg, hs, hfit⟩, H⟩ := h
  rw [hs2] at hs; cases hs
  obtain ⟨cs, rfl, hcs⟩ := fits_agg hfit
  obtain ⟨c0, c1, c2, c3, c4, c5, c6, c7, rfl⟩ := len8T hcs
  simp only [FV.cells, h2] at H
  obtain ⟨v, rfl, rfl, rfl, rfl, hv⟩ := ty_fourC hB hft hfs hst hss hb hbs (H 0 c0 _ rfl rfl) (H 1 c1 _ rfl rfl) (H 2 c2 _ rfl rfl) (H 3 c3 _ rfl rfl)
  obtain ⟨w, rfl, rfl, rfl, rfl, hw⟩ := ty_fourC hB hft hfs hst hss hb hbs (H 4 c4 _ rfl rfl) (H 5 c5 _ rfl rfl) (H 6 c6 _ rfl rfl) (H 7 c7 _ rfl rfl)
  exact ⟨v, w, rfl, hv, hw⟩
end
theorem mayL_ok {t9 : List FV} {L : Lt} (T : IsTab t9 L) (vs : List TY) (h4 : vs.length ≤ 4) (hv : ∀ v ∈ vs, v.Sm) : ∃ b : Bool, Rt N_law25_may [.fz (.sl t9), .fz (.sl (vs.map TY.enc))] = some ([.fz (.bool b)], []) ∧ (b = true → ∀ v ∈ vs, isT L v 0 = true ∧ v.cnt ≤ 200) := by
  have loop : ∀ (j i N : Nat), i + j = vs.length → j < N → ∃ b : Bool, onL (L_law25_may_1_0 Rt 9 true N t9 (vs.map TY.enc) i) (K_law25_may_1 Rt 9 true) = some ([.fz (.bool b)], []) ∧ (b = true → ∀ v ∈ vs.drop i, isT L v 0 = true ∧ v.cnt ≤ 200) := by
    intro j
    induction j with
    | zero =>
      intro i N hij hN
      obtain ⟨N, rfl⟩ : ∃ M, N = M + 1 := ⟨N - 1, by omega⟩
      refine ⟨true, ?_, fun _ v hv => by rw [List.drop_eq_nil_of_le (by omega)] at hv; cases hv⟩
      rw [L_law25_may_1_0_eq]
      simp only [List.length_map, decide_eq_false (show ¬ ((i : Int) < (vs.length : Int)) by omega), ifB_false, onL_some, X_law25_may_1_0_eq, decide_eq_true (show (vs.length : Int) ≤ 4 by omega)]
    | succ j jh =>
      intro i N hij hN
      obtain ⟨N, rfl⟩ : ∃ M, N = M + 1 := ⟨N - 1, by omega⟩
      have hl : i < vs.length := by omega
      have hs := hv vs[i] (List.getElem_mem hl)
      obtain ⟨b1, h1, hc⟩ := tlight_ok hs 200 (by omega) (by omega)
      have h2 := ty9_ok T hs 0
      obtain ⟨b2, l2, q2⟩ := jh (i + 1) N (by omega) (by omega)
      have hw : IntKind.wrap .i64 ((i : Int) + 1) = ((i + 1 : Nat) : Int) := by rw [wrap64 (by omega) (by omega)]; simp
      have hg : (vs.map TY.enc).getD i .nilp = (vs[i]).enc := by simp [hl]
      rw [L_law25_may_1_0_eq, drop_cons hl]
      simp only [List.length_map, decide_eq_true (show (i : Int) < (vs.length : Int) by omega), decide_eq_true (show (i : Int) < 5 by omega), ifB_true, jump_true, J_law25_may_1_0_eq, decide_eq_true (show (0 : Int) ≤ (i : Int) by omega), Bool.and_true, when_true', Int.toNat_natCast, hg, TY.enc_fits, h1, onR_some, List.isEmpty_nil, allF_cons, allF_nil, List.getD_cons_zero, toF_fz, isBool_bool, toBool_bool]
      cases b1 with
      | false => exact ⟨false, by simp only [Bool.not_false, ifB_true, onL_some, X_law25_may_1_1_eq], fun h => by cases h⟩
      | true =>
        simp only [Bool.not_true, ifB_false, h2, onR_some, List.isEmpty_nil, allF_cons, allF_nil, List.getD_cons_zero, toF_fz, isBool_bool, toBool_bool, Bool.and_true, when_true']
        cases hq : isT L vs[i] 0 with
        | false => exact ⟨false, by simp only [Bool.not_false, ifB_true, onL_some, X_law25_may_1_1_eq], fun h => by cases h⟩
        | true =>
          simp only [Bool.not_true, ifB_false, hw]
          refine ⟨b2, l2, fun hb v hv => ?_⟩
          rcases List.mem_cons.1 hv with rfl | hv
          · exact ⟨hq, by have := (hc rfl).1; omega⟩
          · exact q2 hb v hv
  obtain ⟨b, l0, q⟩ := loop vs.length 0 9 (by omega) (by omega)
  simp only [Int.natCast_zero] at l0
  refine ⟨b, rt_call A_law25_may rfl rfl 9 ?_, q⟩
  rw [E_law25_may]
  exact l0
theorem leq9_step {t9 : List FV} {L : Lt} (T : IsTab t9 L) (O : L.Ok) {x y : TY} (hx : MayT L x) (hy : MayT L y) (sx : x.Sm) (sy : y.Sm) (bx : x.ks.length ≤ 50000000) (by' : y.ks.length ≤ 50000000) (b : ByteArray → Bool)
    (hb : ∀ k ∈ mrg x.ks y.ks, Rt N_ref25_Leq [.fz (.sl t9), .fz (ofT x k).enc, .fz (ofT y k).enc] = some ([.fz (.bool (b k))], [])) :
    Rt N_ref25_Leq [.fz (.sl t9), .fz x.enc, .fz y.enc] = some ([.fz (.bool (L.leqI x.a y.a && (L.leqI x.r y.r && (mrg x.ks y.ks).all b)))], []) := by
  have ox := of9_ok hx sx
  have oy := of9_ok hy sy
  have hkk := fun (a r a' r' : Int) us us' => keys9_ok a r a' r' us us' (xs := x.ks) (ys := y.ks) (by omega) (by omega)
  have hl : (mrg x.ks y.ks).length ≤ 100000000 := by have := mrg_len x.ks y.ks; omega
  have xa1 := Lt.is_iff.1 hx.ha
  have xr1 := Lt.is_iff.1 hx.hr
  have ya1 := Lt.is_iff.1 hy.ha
  have yr1 := Lt.is_iff.1 hy.hr
  obtain ⟨xa, xk, xu, xr⟩ := x
  obtain ⟨ya, yk, yu, yr⟩ := y
  simp only [TY.ks, TY.a, TY.r] at hkk hb hl xa1 xr1 ya1 yr1 ⊢
  simp only [TY.enc_mk] at ox oy
  generalize mrg xk yk = ks at hkk hb hl ⊢
  obtain ⟨p, rfl⟩ : ∃ p : Nat, xa = p := ⟨xa.toNat, by omega⟩
  obtain ⟨q, rfl⟩ : ∃ q : Nat, xr = q := ⟨xr.toNat, by omega⟩
  obtain ⟨p', rfl⟩ : ∃ p : Nat, ya = p := ⟨ya.toNat, by omega⟩
  obtain ⟨q', rfl⟩ : ∃ q : Nat, yr = q := ⟨yr.toNat, by omega⟩
  have p1 : p < L.n := by omega
  have q1 : q < L.n := by omega
  have p2 : p' < L.n := by omega
  have q2 : q' < L.n := by omega
  rw [Lt.leqI_nat p1 p2, Lt.leqI_nat q1 q2]
  have loop : ∀ (j i : Nat) (c : Bool), i + j = ks.length → onL (L_ref25_Leq_1_0 Rt (ks.length + 1) true (j + 1) t9 c (.sl (ks.map .str)) i p (xk.map .str) (xu.map TY.enc) q p' (yk.map .str) (yu.map TY.enc) q') (K_ref25_Leq_1 Rt (ks.length + 1) true) = some ([.fz (.bool (c && (ks.drop i).all b))], []) := by
    intro j
    induction j with
    | zero =>
      intro i c hij
      rw [L_ref25_Leq_1_0_eq, List.drop_eq_nil_of_le (by omega)]
      simp only [isSl_sl, toSl_sl, List.length_map, when_true', decide_eq_false (show ¬ ((i : Int) < (ks.length : Int)) by omega), ifB_false, onL_some, X_ref25_Leq_1_0_eq, List.all_nil, Bool.and_true]
    | succ j jh =>
      intro i c hij
      have hl' : i < ks.length := by omega
      have h1 := hb ks[i] (List.getElem_mem hl')
      have hw : IntKind.wrap .i64 ((i : Int) + 1) = ((i + 1 : Nat) : Int) := by rw [wrap64 (by omega) (by omega)]; simp
      rw [L_ref25_Leq_1_0_eq, drop_cons hl', List.all_cons]
      simp only [isSl_sl, toSl_sl, List.length_map, decide_eq_true (show (i : Int) < (ks.length : Int) by omega), decide_eq_true (show (0 : Int) ≤ (i : Int) by omega), ifB_true, Bool.and_true, when_true', Int.toNat_natCast, getD_str' ks hl', fits_str, isStr_str, toStr_str, ox, oy, h1, onR_some, List.isEmpty_nil, allF_cons, allF_nil, List.getD_cons_zero, toF_fz, isBool_bool, toBool_bool, hw]
      cases c with
      | false =>
        rw [ifB_false, jh (i + 1) false (by omega)]
        simp only [Bool.false_and]
      | true =>
        rw [ifB_true, jh (i + 1) (b ks[i]) (by omega)]
        simp only [Bool.true_and]
  have J : ∀ c : Bool, J_ref25_Leq_2_0 Rt (ks.length + 1) true t9 c p (xk.map .str) (xu.map TY.enc) q p' (yk.map .str) (yu.map TY.enc) q' = some ([.fz (.bool (c && ks.all b))], []) := fun c => by
    have l0 := loop ks.length 0 c (by omega)
    rw [List.drop_zero] at l0
    simp only [Int.natCast_zero] at l0
    rw [J_ref25_Leq_2_0_eq, hkk]
    simp only [onR_some, List.isEmpty_nil, allF_cons, allF_nil, Bool.and_true, when_true', List.getD_cons_zero, toF_fz]
    exact l0
  refine rt_call A_ref25_Leq rfl rfl (ks.length + 1) ?_
  rw [TY.enc_mk, TY.enc_mk, E_ref25_Leq]
  simp only [T.len, decide_eq_true (show (0 : Int) ≤ (p : Int) by omega), decide_eq_true (show (0 : Int) ≤ (q : Int) by omega), decide_eq_true (show (0 : Int) ≤ (p' : Int) by omega), decide_eq_true (show (0 : Int) ≤ (q' : Int) by omega), decide_eq_true (show (p : Int) < (L.n : Int) by omega), decide_eq_true (show (q : Int) < (L.n : Int) by omega), decide_eq_true (show (p' : Int) < (L.n : Int) by omega), decide_eq_true (show (q' : Int) < (L.n : Int) by omega), Int.toNat_natCast, T.fits p p1, T.fits q q1, T.sl p p1, T.sl q q1, T.rlen p p1, T.rlen q q1, T.cell p p' p1 p2, T.cell q q' q1 q2, fits_bool, isBool_bool, toBool_bool, Bool.and_true, when_true', jump_true, J]
  cases L.leq p p' with
  | true => simp only [ifB_true, Bool.true_and]
  | false => simp only [ifB_false, Bool.false_and]
theorem leq9T_ok {t9 : List FV} {L : Lt} (T : IsTab t9 L) (O : L.Ok) : ∀ (n : Nat) {x y : TY}, MayT L x → MayT L y → x.Dp n → y.Dp n → x.Bd 50000000 → y.Bd 50000000 → Rt N_ref25_Leq [.fz (.sl t9), .fz x.enc, .fz y.enc] = some ([.fz (.bool (leqT L n x y))], [])
  | 0, x, y, hx, hy, dx, dy, bx, by' => by
    have e1 : mrg x.ks y.ks = [] := by rw [hx.ks0 dx, hy.ks0 dy, mrg_nil]
    have h := leq9_step T O hx hy (bx.sm (by omega)) (by'.sm (by omega)) (by cases bx with | mk hk _ _ => exact hk) (by cases by' with | mk hk _ _ => exact hk) (fun _ => true) (fun k hk => by rw [e1] at hk; cases hk)
    rw [e1, List.all_nil, Bool.and_true] at h
    exact h
  | n + 1, x, y, hx, hy, dx, dy, bx, by' =>
    leq9_step T O hx hy (bx.sm (by omega)) (by'.sm (by omega)) (by cases bx with | mk hk _ _ => exact hk) (by cases by' with | mk hk _ _ => exact hk) (fun k => leqT L n (ofT x k) (ofT y k)) (fun k _ => leq9T_ok T O n (ofT_may hx k) (ofT_may hy k) (ofT_dp dx k) (ofT_dp dy k) (ofT_bd bx k) (ofT_bd by' k))
end Go.Ab
