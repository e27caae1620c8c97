/- Package 01: the fixed answer, a policy as an argument, texts of levels. -/
import Derived.Test.YtpgngeagdphhfaaSSix
import Derived.Test.YtpgngeagdphhfaaSLatM
import Derived.Test.YtpgngeagdphhfaaSLatLaw
import Derived.Test.YtpgngeagdphhfaaSReadB
namespace Go.Ab
open Go.Proofs
set_option linter.unusedVariables false
set_option linter.unusedSimpArgs false

theorem lat_Text {names : List ByteArray} {g : Tb} (N : Nice names.length g) (a : Int) : Rt N_level_Lattice_Text [.fz (.pt 195 true (latR names g) 0), .fz (.int .i64 a)] = some ([.fz (.str (if 0 ≤ a ∧ a < names.length then names.getD a.toNat ByteArray.empty else ByteArray.empty))], []) := by
  have I := latR_is N
  refine rt_call A_level_Lattice_Text rfl rfl 0 ?_
  have hi := lat_Is I a
  rw [E_level_Lattice_Text, hi]
  have h0 : FV.cell (latR names g) 0 = .sl (strs names) := latE_0 ..
  by_cases h : 0 ≤ a ∧ a < names.length
  · have e : (ltR names.length g).is a = true := Lt.is_iff.2 h
    have hd : (decide (0 ≤ a) && decide (a < (names.length : Int))) = true := by simp; exact h
    rw [if_pos h]
    simp only [e, onR_some, onL_some, List.isEmpty_nil, allF_cons, allF_nil, Bool.and_true, Bool.true_and, when_true', List.getD_cons_zero, List.getD_cons_succ, isF_fz, toF_fz, isBool_bool, toBool_bool, isInt_int, toInt_int, isStr_str, toStr_str, isSl_sl, toSl_sl, List.length_cons, List.length_nil, List.all_cons, List.all_nil, lisFz_fz, ltoFz_fz, beq_self_eq_true, jump_true, ifB_true, ifB_false, isF_pv, isPv_pv, toV_pv, isNil_nilp, isNil_pt, isPt_pt, toAg_ag, cell_ag, isAg_ag, fits_ag, Int.toNat_natCast, Bool.not_true, Bool.not_false, fits_int, fits_bool, fits_str, fits_sl, I.ag, h0, strs_len, hd, strs_get (show a.toNat < names.length by omega)]
  · have e : (ltR names.length g).is a = false := by
      cases q : (ltR names.length g).is a with
      | false => rfl
      | true => exact absurd (Lt.is_iff.1 q) h
    rw [if_neg h]
    simp only [e, onR_some, onL_some, List.isEmpty_nil, allF_cons, allF_nil, Bool.and_true, Bool.true_and, when_true', List.getD_cons_zero, List.getD_cons_succ, isF_fz, toF_fz, isBool_bool, toBool_bool, isInt_int, toInt_int, isStr_str, toStr_str, isSl_sl, toSl_sl, List.length_cons, List.length_nil, List.all_cons, List.all_nil, lisFz_fz, ltoFz_fz, beq_self_eq_true, jump_true, ifB_true, ifB_false, isF_pv, isPv_pv, toV_pv, isNil_nilp, isNil_pt, isPt_pt, toAg_ag, cell_ag, isAg_ag, fits_ag, Int.toNat_natCast, Bool.not_true, Bool.not_false, fits_int, fits_bool, fits_str, fits_sl]
    rfl
theorem lives01_ok : Rt N_law01_lives [] = some ([.fz (.bool true)], []) := by
  have h0 := Pol.new pol0_ok
  have hs : Rt N_ref01_Sort [.fz (.int .i64 0)] = some ([.fz pol0.e], []) := rt_call A_ref01_Sort rfl rfl 0 (by rw [E_ref01_Sort]; rfl)
  have I := Pol.lat pol0_ok
  have hj := lat_Join I 0 1
  have hb := lat_Bottom I
  have ht := lat_Top I
  have hx := lat_Text (Pol.nice pol0_ok) 1
  refine rt_call A_law01_lives rfl rfl 0 ((E_law01_lives Rt 0 true).trans ?_)
  have e1 : (((ltR pol0.names.length pol0.g).joinI 0 1 : Int) == 1) = true := by decide +kernel
  have e2 : (((ltR pol0.names.length pol0.g).bot : Int) == 0) = true := by decide +kernel
  have e3 : (((ltR pol0.names.length pol0.g).top : Int) == 1) = true := by decide +kernel
  have e4 : ((if (0 : Int) ≤ 1 ∧ (1 : Int) < pol0.names.length then pol0.names.getD (1 : Int).toNat ByteArray.empty else ByteArray.empty).toList == (⟨#[104, 105, 103, 104]⟩ : ByteArray).toList) = true := by decide +kernel
  simp only [hs, h0, onR_some, onL_some, List.isEmpty_nil, allF_cons, allF_nil, Bool.and_true, Bool.true_and, when_true', List.getD_cons_zero, List.getD_cons_succ, isF_fz, toF_fz, isBool_bool, toBool_bool, isInt_int, toInt_int, isStr_str, toStr_str, isSl_sl, toSl_sl, List.length_cons, List.length_nil, List.all_cons, List.all_nil, lisFz_fz, ltoFz_fz, beq_self_eq_true, jump_true, ifB_true, ifB_false, isF_pv, isPv_pv, toV_pv, isNil_nilp, isNil_pt, isPt_pt, toAg_ag, cell_ag, isAg_ag, fits_ag, Int.toNat_natCast, Bool.not_true, Bool.not_false, fits_int, fits_bool, fits_str, fits_sl, hj, hb, ht, hx, e1, e2, e3, e4]
/-- A policy as an argument. -/
theorem pol_of {P : Program} {D B t tn tp tpp : Nat} (hft : flat P D t = [.sl tn, .sl tp, .sl tpp]) (hst : szOf P t = some (3, true)) (hfn : flat P D tn = [.str]) (hsn : szOf P tn = some (1, false)) (hfp : flat P D tp = [.int .i64, .int .i64]) (hsp : szOf P tp = some (2, true))
    {f : FV} (h : WV P D B t f) : ∃ names pairs pp, f = polE names pairs pp ∧ (∀ s ∈ names, s.size ≤ B) ∧ (∀ p ∈ pairs, (Lit.int .i64 p.1).wf = true ∧ (Lit.int .i64 p.2).wf = true) ∧ names.length * P.bytesOf tn ≤ B ∧ pairs.length * P.bytesOf tp ≤ B := by
  obtain ⟨cs, rfl, hl, H⟩ := cells_of hst h
  obtain ⟨a, b, c, rfl⟩ := len3 hl
  rw [hft] at H
  obtain ⟨names, rfl, h1, h2⟩ := wc_strs hfn hsn (H 0 a _ rfl rfl)
  obtain ⟨pairs, rfl, h3, h4⟩ := sl_of (fun p : Int × Int => .ag [.int .i64 p.1, .int .i64 p.2]) (fun p => (Lit.int .i64 p.1).wf = true ∧ (Lit.int .i64 p.2).wf = true) (fun f hf => by
    obtain ⟨a, b, rfl, ha, hb⟩ := int2_of hfp hsp hf
    exact ⟨(a, b), rfl, ha, hb⟩) (H 1 b _ rfl rfl)
  have : ∃ pp, c = .sl pp := by
    have := H 2 c _ rfl rfl
    cases this
    exact ⟨_, rfl⟩
  obtain ⟨pp, rfl⟩ := this
  exact ⟨names, pairs, pp, rfl, h1, h3, h2, h4⟩
end Go.Ab
