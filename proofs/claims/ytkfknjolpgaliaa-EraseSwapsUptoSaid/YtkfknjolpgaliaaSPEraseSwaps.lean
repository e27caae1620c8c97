/- EraseSwaps: the plain law. -/
import Derived.Test.YtkfknjolpgaliaaSErase4
import Derived.Test.YtkfknjolpgaliaaSErLaw
namespace Go.Ab
open Go.Proofs
set_option linter.unusedVariables false
set_option linter.unusedSimpArgs false
theorem pure_EraseSwaps (f0 f1 f2 : FV) (h0 : WV Try.prog 40 134217728 3 f0) (h1 : WV Try.prog 40 134217728 44 f1) (h2 : WV Try.prog 40 134217728 3 f2) : Rt N_law11_EraseSwaps [.fz f0, .fz f1, .fz f2] = some ([.fz (.bool true)], []) := by
  obtain ⟨kk, rfl, _⟩ := int_of (k := .i64) (by kernel_rfl) (by kernel_rfl) h0
  obtain ⟨aa, rfl, _⟩ := int_of (k := .i64) (by kernel_rfl) (by kernel_rfl) h2
  obtain ⟨a, d, k, c, s, t, is, ks, a', d', k', c', s', t', is', ks', rfl, hv, hu⟩ := nd2_of (t := 27) (ts := 9) (Nat.le_refl _) (by kernel_rfl) (by kernel_rfl) (by kernel_rfl) (by kernel_rfl) (by kernel_rfl) (by kernel_rfl) (by kernel_rfl) (by kernel_rfl) h1
  obtain ⟨e, T9, L, hof, I, T⟩ := of_ok kk
  have O := I.ok
  have hl := lives11_ok
  obtain ⟨b, hb, hlt⟩ := light_ok T O hv hu
  have hE := E_law11_EraseSwaps Rt 0 true kk a d k c s t (is.map ND.enc) (ks.map .str) a' d' k' c' s' t' (is'.map ND.enc) (ks'.map .str) aa
  simp only [← ND.enc_mk] at hE
  refine rt_call A_law11_EraseSwaps rfl rfl 0 (hE.trans ?_)
  simp only [hof, onR_some, onL_some, List.isEmpty_nil, allF_cons, allF_nil, Bool.and_true, Bool.true_and, when_true', List.getD_cons_zero, List.getD_cons_succ, isF_fz, toF_fz, isBool_bool, toBool_bool, isInt_int, toInt_int, isStr_str, toStr_str, isSl_sl, toSl_sl, List.length_cons, List.length_nil, List.all_cons, List.all_nil, lisFz_fz, ltoFz_fz, beq_self_eq_true, jump_true, ifB_true, ifB_false, isF_pv, isPv_pv, toV_pv, isNil_nilp, isNil_pt, isPt_pt, toAg_ag, cell_ag, isAg_ag, fits_ag, Int.toNat_natCast, Bool.not_true, Bool.not_false, fits_int, fits_bool, fits_str, fits_sl, hb]
  cases b with
  | false => simp only [onR_some, onL_some, List.isEmpty_nil, allF_cons, allF_nil, Bool.and_true, Bool.true_and, when_true', List.getD_cons_zero, List.getD_cons_succ, isF_fz, toF_fz, isBool_bool, toBool_bool, isInt_int, toInt_int, isStr_str, toStr_str, isSl_sl, toSl_sl, List.length_cons, List.length_nil, List.all_cons, List.all_nil, lisFz_fz, ltoFz_fz, beq_self_eq_true, jump_true, ifB_true, ifB_false, isF_pv, isPv_pv, toV_pv, isNil_nilp, isNil_pt, isPt_pt, toAg_ag, cell_ag, isAg_ag, fits_ag, Int.toNat_natCast, Bool.not_true, Bool.not_false, fits_int, fits_bool, fits_str, fits_sl, hl]
  | true =>
    obtain ⟨c1, c2, m1, m2⟩ := hlt rfl
    have l1 : labB L (ND.mk a d k c s t is ks) = true := by simp only [mayB, Bool.and_eq_true] at m1; exact m1.1
    have p1 := Swap_ok I aa hu hv l1
    have b9 := bottom9_ok T O
    have r1 := rswap_ok T O aa hu m2 hv L.bot O.bot m1
    have q1 := rsame_ok (swp_sm (L := L) (a := aa) hu hv L.bot) (swp L aa (ND.mk a' d' k' c' s' t' is' ks') L.bot (ND.mk a d k c s t is ks))
    rw [sameND_self] at q1
    have i1 := nis9_ok T O (swp_sm (L := L) (a := aa) hu hv L.bot)
    have mm := swp_may O (a := aa) m2 hv m1 L.bot
    unfold mayB at mm
    rw [mm] at i1
    simp only [onR_some, onL_some, List.isEmpty_nil, allF_cons, allF_nil, Bool.and_true, Bool.true_and, when_true', List.getD_cons_zero, List.getD_cons_succ, isF_fz, toF_fz, isBool_bool, toBool_bool, isInt_int, toInt_int, isStr_str, toStr_str, isSl_sl, toSl_sl, List.length_cons, List.length_nil, List.all_cons, List.all_nil, lisFz_fz, ltoFz_fz, beq_self_eq_true, jump_true, ifB_true, ifB_false, isF_pv, isPv_pv, toV_pv, isNil_nilp, isNil_pt, isPt_pt, toAg_ag, cell_ag, isAg_ag, fits_ag, Int.toNat_natCast, Bool.not_true, Bool.not_false, fits_int, fits_bool, fits_str, fits_sl, p1, ND.enc_fits, b9, r1, q1, i1, hl]
end Go.Ab
