/- Arrays of types; whether all of some types may be; the reference's word on whether a type is below another one. -/
import Derived.Test.YtdpfpdejipkffaaSMayT
import Derived.Test.YtdpfpdejipkffaaSLeqT
namespace Go.Ab
open Go.Proofs
set_option linter.unusedVariables false
set_option linter.unusedSimpArgs false
set_option linter.unusedSectionVars false
theorem len12T {α : Type} {l : List α} (h : l.length = 12) : ∃ a b c d e f g i j k m n, l = [a, b, c, d, e, f, g, i, j, k, m, n] := by
  match l, h with
  | [a, b, c, d, e, f, g, i, j, k, m, n], _ => exact ⟨a, b, c, d, e, f, g, i, j, k, m, n, rfl⟩
def TY.cs (v : TY) : List FV := [.int .i64 v.a, .sl (v.ks.map .str), .sl (v.us.map TY.enc), .int .i64 v.r]
theorem TY.cs_enc (v : TY) : FV.ag v.cs = v.enc := by obtain ⟨a, ks, us, r⟩ := v; exact (TY.enc_mk ..).symm
section
variable {P : Program} {D B : Nat} {t ts : Nat} (hB : B ≤ 281474976710656) (hft : flat P D t = [.int .i64, .sl ts, .sl t, .int .i64]) (hfs : flat P D ts = [.str]) (hst : szOf P t = some (4, true)) (hss : szOf P ts = some (1, false)) (hb : P.bytesOf t = 64) (hbs : P.bytesOf ts = 16)
include hB hft hfs hst hss hb hbs
theorem ty_fourC {a k u r : FV} (h0 : WC P D B (.int .i64) a) (h1 : WC P D B (.sl ts) k) (h2 : WC P D B (.sl t) u) (h3 : WC P D B (.int .i64) r) : ∃ v : TY, a = .int .i64 v.a ∧ k = .sl (v.ks.map .str) ∧ u = .sl (v.us.map TY.enc) ∧ r = .int .i64 v.r ∧ v.Sm := by
  obtain ⟨a, rfl, _⟩ := wc_int h0
  obtain ⟨r, rfl, _⟩ := wc_int h3
  obtain ⟨m, rfl, hm, hbm⟩ := wc_strs hfs hss h1
  obtain ⟨l, rfl, hl, hb'⟩ := tys_of hB hft hfs hst hss hb hbs h2 rfl
  rw [hbs] at hbm
  exact ⟨.mk a m l r, rfl, rfl, rfl, rfl, .mk (by omega) (by omega) hl⟩
theorem ty3_of {t3 : Nat} (h3 : flat P D t3 = [.int .i64, .sl ts, .sl t, .int .i64, .int .i64, .sl ts, .sl t, .int .i64, .int .i64, .sl ts, .sl t, .int .i64]) (hs3 : szOf P t3 = some (12, true)) {f : FV} (h : WV P D B t3 f) : ∃ v w x : TY, f = .ag (v.cs ++ (w.cs ++ x.cs)) ∧ v.Sm ∧ w.Sm ∧ x.Sm := by
  obtain ⟨⟨n, agg, hs, hfit⟩, H⟩ := h
  rw [hs3] at hs; cases hs
  obtain ⟨cs, rfl, hcs⟩ := fits_agg hfit
  obtain ⟨c0, c1, c2, c3, c4, c5, c6, c7, c8, c9, c10, c11, rfl⟩ := len12T hcs
  simp only [FV.cells, h3] at H
  obtain ⟨v, rfl, rfl, rfl, rfl, hv⟩ := ty_fourC hB hft hfs hst hss hb hbs (H 0 c0 _ rfl rfl) (H 1 c1 _ rfl rfl) (H 2 c2 _ rfl rfl) (H 3 c3 _ rfl rfl)
  obtain ⟨w, rfl, rfl, rfl, rfl, hw⟩ := ty_fourC hB hft hfs hst hss hb hbs (H 4 c4 _ rfl rfl) (H 5 c5 _ rfl rfl) (H 6 c6 _ rfl rfl) (H 7 c7 _ rfl rfl)
  obtain ⟨x, rfl, rfl, rfl, rfl, hx⟩ := ty_fourC hB hft hfs hst hss hb hbs (H 8 c8 _ rfl rfl) (H 9 c9 _ rfl rfl) (H 10 c10 _ rfl rfl) (H 11 c11 _ rfl rfl)
  exact ⟨v, w, x, rfl, hv, hw, hx⟩
end
theorem mayL_ok {t9 : List FV} {L : Lt} (T : IsTab t9 L) (vs : List TY) (h4 : vs.length ≤ 4) (hv : ∀ v ∈ vs, v.Sm) : ∃ b : Bool, Rt N_law25_may [.fz (.sl t9), .fz (.sl (vs.map TY.enc))] = some ([.fz (.bool b)], []) ∧ (b = true → ∀ v ∈ vs, isT L v 0 = true ∧ v.cnt ≤ 200) := by
  have loop : ∀ (j i N : Nat), i + j = vs.length → j < N → ∃ b : Bool, onL (L_law25_may_1_0 Rt 9 true N t9 (vs.map TY.enc) i) (K_law25_may_1 Rt 9 true) = some ([.fz (.bool b)], []) ∧ (b = true → ∀ v ∈ vs.drop i, isT L v 0 = true ∧ v.cnt ≤ 200) := by
    intro j
    induction j with
    | zero =>
      intro i N hij hN
      obtain ⟨N, rfl⟩ : ∃ M, N = M + 1 := ⟨N - 1, by omega⟩
      refine ⟨true, ?_, fun _ v hv => by rw [List.drop_eq_nil_of_le (by omega)] at hv; cases hv⟩
      rw [L_law25_may_1_0_eq]
      simp only [List.length_map, decide_eq_false (show ¬ ((i : Int) < (vs.length : Int)) by omega), ifB_false, onL_some, X_law25_may_1_0_eq, decide_eq_true (show (vs.length : Int) ≤ 4 by omega)]
    | succ j jh =>
      intro i N hij hN
      obtain ⟨N, rfl⟩ : ∃ M, N = M + 1 := ⟨N - 1, by omega⟩
      have hl : i < vs.length := by omega
      have hs := hv vs[i] (List.getElem_mem hl)
      obtain ⟨b1, h1, hc⟩ := tlight_ok hs 200 (by omega) (by omega)
      have h2 := ty9_ok T hs 0
      obtain ⟨b2, l2, q2⟩ := jh (i + 1) N (by omega) (by omega)
      have hw : IntKind.wrap .i64 ((i : Int) + 1) = ((i + 1 : Nat) : Int) := by rw [wrap64 (by omega) (by omega)]; simp
      have hg : (vs.map TY.enc).getD i .nilp = (vs[i]).enc := by simp [hl]
      rw [L_law25_may_1_0_eq, drop_cons hl]
      simp only [List.length_map, decide_eq_true (show (i : Int) < (vs.length : Int) by omega), decide_eq_true (show (i : Int) < 5 by omega), ifB_true, jump_true, J_law25_may_1_0_eq, decide_eq_true (show (0 : Int) ≤ (i : Int) by omega), Bool.and_true, when_true', Int.toNat_natCast, hg, TY.enc_fits, h1, onR_some, List.isEmpty_nil, allF_cons, allF_nil, List.getD_cons_zero, toF_fz, isBool_bool, toBool_bool]
      cases b1 with
      | false => exact ⟨false, by simp only [Bool.not_false, ifB_true, onL_some, X_law25_may_1_1_eq], fun h => by cases h⟩
      | true =>
        simp only [Bool.not_true, ifB_false, h2, onR_some, List.isEmpty_nil, allF_cons, allF_nil, List.getD_cons_zero, toF_fz, isBool_bool, toBool_bool, Bool.and_true, when_true']
        cases hq : isT L vs[i] 0 with
        | false => exact ⟨false, by simp only [Bool.not_false, ifB_true, onL_some, X_law25_may_1_1_eq], fun h => by cases h⟩
        | true =>
          simp only [Bool.not_true, ifB_false, hw]
          refine ⟨b2, l2, fun hb v hv => ?_⟩
          rcases List.mem_cons.1 hv with rfl | hv
          · exact ⟨hq, by have := (hc rfl).1; omega⟩
          · exact q2 hb v hv
  obtain ⟨b, l0, q⟩ := loop vs.length 0 9 (by omega) (by omega)
  simp only [Int.natCast_zero] at l0
  refine ⟨b, rt_call A_law25_may rfl rfl 9 ?_, q⟩
  rw [E_law25_may]
  exact l0
end Go.Ab
