/- Two nodes as an argument; are they light, and may they be? -/
import Derived.Test.YtkfknjolpgaliaaSErase2
import Derived.Test.YtkfknjolpgaliaaSNodeR
namespace Go.Ab
set_option linter.unusedVariables false
set_option linter.unusedSimpArgs false
set_option linter.unusedSectionVars false
theorem len16 {α : Type} {l : List α} (h : l.length = 16) : ∃ a b c d e f g i a' b' c' d' e' f' g' i', l = [a, b, c, d, e, f, g, i, a', b', c', d', e', f', g', i'] := by
  match l, h with
  | [a, b, c, d, e, f, g, i, a', b', c', d', e', f', g', i'], _ => exact ⟨a, b, c, d, e, f, g, i, a', b', c', d', e', f', g', i', rfl⟩
section
variable {P : Program} {D B : Nat} {t ts t2 : Nat} (hB : B ≤ 134217728) (hft : flat P D t = [.int .i64, .int .i64, .int .i64, .int .i64, .int .i64, .str, .sl t, .sl ts]) (hfs : flat P D ts = [.str]) (hst : szOf P t = some (8, true)) (hss : szOf P ts = some (1, false)) (hb : P.bytesOf t = 104) (hbs : P.bytesOf ts = 16)
include hB hft hfs hst hss hb hbs
theorem nd2_of (hf2 : flat P D t2 = [.int .i64, .int .i64, .int .i64, .int .i64, .int .i64, .str, .sl t, .sl ts, .int .i64, .int .i64, .int .i64, .int .i64, .int .i64, .str, .sl t, .sl ts]) (hs2 : szOf P t2 = some (16, true)) {f : FV} (h : WV P D B t2 f) : ∃ (a d k c s : Int) (t : ByteArray) (is : List ND) (ks : List ByteArray) (a' d' k' c' s' : Int) (t' : ByteArray) (is' : List ND) (ks' : List ByteArray), f = .ag [.int .i64 a, .int .i64 d, .int .i64 k, .int .i64 c, .int .i64 s, .str t, .sl (is.map ND.enc), .sl (ks.map .str), .int .i64 a', .int .i64 d', .int .i64 k', .int .i64 c', .int .i64 s', .str t', .sl (is'.map ND.enc), .sl (ks'.map .str)] ∧ (ND.mk a d k c s t is ks).Sm ∧ (ND.mk a' d' k' c' s' t' is' ks').Sm := by
  obtain ⟨cs, rfl, hl, H⟩ := cells_of hs2 h
  obtain ⟨c0, c1, c2, c3, c4, c5, c6, c7, d0, d1, d2, d3, d4, d5, d6, d7, rfl⟩ := len16 hl
  rw [hf2] at H
  obtain ⟨v, hv, hvs⟩ := nd_eight hB hft hfs hst hss hb hbs (H 0 c0 _ rfl rfl) (H 1 c1 _ rfl rfl) (H 2 c2 _ rfl rfl) (H 3 c3 _ rfl rfl) (H 4 c4 _ rfl rfl) (H 5 c5 _ rfl rfl) (nds_of hB hft hfs hst hss hb hbs (H 6 c6 _ rfl rfl) rfl) (H 7 c7 _ rfl rfl)
  obtain ⟨u, hu, hus⟩ := nd_eight hB hft hfs hst hss hb hbs (H 8 d0 _ rfl rfl) (H 9 d1 _ rfl rfl) (H 10 d2 _ rfl rfl) (H 11 d3 _ rfl rfl) (H 12 d4 _ rfl rfl) (H 13 d5 _ rfl rfl) (nds_of hB hft hfs hst hss hb hbs (H 14 d6 _ rfl rfl) rfl) (H 15 d7 _ rfl rfl)
  obtain ⟨a, d, k, c, s, t, is, ks⟩ := v
  obtain ⟨a', d', k', c', s', t', is', ks'⟩ := u
  rw [ND.enc_mk] at hv hu
  injection hv with hv
  injection hu with hu
  simp only [List.cons.injEq, and_true] at hv hu
  obtain ⟨rfl, rfl, rfl, rfl, rfl, rfl, rfl, rfl⟩ := hv
  obtain ⟨rfl, rfl, rfl, rfl, rfl, rfl, rfl, rfl⟩ := hu
  exact ⟨_, _, _, _, _, _, _, _, _, _, _, _, _, _, _, _, rfl, hvs, hus⟩
end
theorem light_ok {t9 : List FV} {L : Lt} (T : IsTab t9 L) (O : L.Ok) {v u : ND} (hv : v.Sm) (hu : u.Sm) : ∃ b : Bool, Rt N_law11_light [.fz (.sl t9), .fz v.enc, .fz u.enc] = some ([.fz (.bool b)], []) ∧ (b = true → v.cnt ≤ 200 ∧ u.cnt ≤ 200 ∧ mayB L v = true ∧ mayB L u = true) := by
  obtain ⟨b1, h1, c1⟩ := nlight_ok hv 200 (by omega) (by omega)
  obtain ⟨b2, h2, c2⟩ := nlight_ok hu 200 (by omega) (by omega)
  have i1 := nis9_ok T O hv
  have i2 := nis9_ok T O hu
  have e : ∀ v : ND, (labB L v && (rightB L v && shapeB (strip v))) = mayB L v := fun _ => rfl
  rw [e] at i1 i2
  obtain ⟨a, d, k, c, s, t, is, ks⟩ := v
  obtain ⟨a', d', k', c', s', t', is', ks'⟩ := u
  have hE := E_law11_light Rt 0 true t9 a d k c s t (is.map ND.enc) (ks.map .str) a' d' k' c' s' t' (is'.map ND.enc) (ks'.map .str)
  rw [← ND.enc_mk, ← ND.enc_mk, h1, h2, i1, i2] at hE
  cases b1 with
  | false => exact ⟨false, rt_call A_law11_light rfl rfl 0 (hE.trans (by simp only [onR_some, onL_some, List.isEmpty_nil, allF_cons, allF_nil, Bool.and_true, Bool.true_and, when_true', List.getD_cons_zero, List.getD_cons_succ, isF_fz, toF_fz, isBool_bool, toBool_bool, isInt_int, toInt_int, isStr_str, toStr_str, isSl_sl, toSl_sl, List.length_cons, List.length_nil, List.all_cons, List.all_nil, lisFz_fz, ltoFz_fz, beq_self_eq_true, jump_true, ifB_true, ifB_false, isF_pv, isPv_pv, toV_pv, isNil_nilp, isNil_pt, isPt_pt, toAg_ag, cell_ag, isAg_ag, fits_ag, Int.toNat_natCast, Bool.not_true, Bool.not_false, fits_int, fits_bool, fits_str, fits_sl])), fun h => by cases h⟩
  | true =>
    cases b2 with
    | false => exact ⟨false, rt_call A_law11_light rfl rfl 0 (hE.trans (by simp only [onR_some, onL_some, List.isEmpty_nil, allF_cons, allF_nil, Bool.and_true, Bool.true_and, when_true', List.getD_cons_zero, List.getD_cons_succ, isF_fz, toF_fz, isBool_bool, toBool_bool, isInt_int, toInt_int, isStr_str, toStr_str, isSl_sl, toSl_sl, List.length_cons, List.length_nil, List.all_cons, List.all_nil, lisFz_fz, ltoFz_fz, beq_self_eq_true, jump_true, ifB_true, ifB_false, isF_pv, isPv_pv, toV_pv, isNil_nilp, isNil_pt, isPt_pt, toAg_ag, cell_ag, isAg_ag, fits_ag, Int.toNat_natCast, Bool.not_true, Bool.not_false, fits_int, fits_bool, fits_str, fits_sl])), fun h => by cases h⟩
    | true =>
      cases h3 : mayB L (ND.mk a d k c s t is ks) with
      | false =>
        rw [h3] at hE
        exact ⟨false, rt_call A_law11_light rfl rfl 0 (hE.trans (by simp only [onR_some, onL_some, List.isEmpty_nil, allF_cons, allF_nil, Bool.and_true, Bool.true_and, when_true', List.getD_cons_zero, List.getD_cons_succ, isF_fz, toF_fz, isBool_bool, toBool_bool, isInt_int, toInt_int, isStr_str, toStr_str, isSl_sl, toSl_sl, List.length_cons, List.length_nil, List.all_cons, List.all_nil, lisFz_fz, ltoFz_fz, beq_self_eq_true, jump_true, ifB_true, ifB_false, isF_pv, isPv_pv, toV_pv, isNil_nilp, isNil_pt, isPt_pt, toAg_ag, cell_ag, isAg_ag, fits_ag, Int.toNat_natCast, Bool.not_true, Bool.not_false, fits_int, fits_bool, fits_str, fits_sl])), fun h => by cases h⟩
      | true =>
        rw [h3] at hE
        refine ⟨mayB L (ND.mk a' d' k' c' s' t' is' ks'), rt_call A_law11_light rfl rfl 0 (hE.trans (by simp only [onR_some, onL_some, List.isEmpty_nil, allF_cons, allF_nil, Bool.and_true, Bool.true_and, when_true', List.getD_cons_zero, List.getD_cons_succ, isF_fz, toF_fz, isBool_bool, toBool_bool, isInt_int, toInt_int, isStr_str, toStr_str, isSl_sl, toSl_sl, List.length_cons, List.length_nil, List.all_cons, List.all_nil, lisFz_fz, ltoFz_fz, beq_self_eq_true, jump_true, ifB_true, ifB_false, isF_pv, isPv_pv, toV_pv, isNil_nilp, isNil_pt, isPt_pt, toAg_ag, cell_ag, isAg_ag, fits_ag, Int.toNat_natCast, Bool.not_true, Bool.not_false, fits_int, fits_bool, fits_str, fits_sl])), fun h => ?_⟩
        have := c1 rfl
        have := c2 rfl
        exact ⟨by omega, by omega, rfl, h⟩
end Go.Ab
