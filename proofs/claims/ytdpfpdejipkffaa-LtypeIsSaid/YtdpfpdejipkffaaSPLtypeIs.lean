/- LtypeIs: the plain law. -/
import Derived.Test.YtdpfpdejipkffaaSTy1
import Derived.Test.YtdpfpdejipkffaaSNodeR
namespace Go.Ab
open Go.Proofs
set_option linter.unusedVariables false
set_option linter.unusedSimpArgs false
theorem pure_LtypeIs (f0 f1 f2 : FV) (h0 : WV Try.prog 40 reachBytes 3 f0) (h1 : WV Try.prog 40 reachBytes 25 f1) (h2 : WV Try.prog 40 reachBytes 3 f2) : Rt N_law25_LtypeIs [.fz f0, .fz f1, .fz f2] = some ([.fz (.bool true)], []) := by
  obtain ⟨kk, rfl, _⟩ := int_of (k := .i64) (by kernel_rfl) (by kernel_rfl) h0
  obtain ⟨aa, rfl, _⟩ := int_of (k := .i64) (by kernel_rfl) (by kernel_rfl) h2
  obtain ⟨v, rfl, hv⟩ := ty_of (t := 25) (ts := 9) (by decide) (by kernel_rfl) (by kernel_rfl) (by kernel_rfl) (by kernel_rfl) (by kernel_rfl) (by kernel_rfl) h1
  obtain ⟨e, T9, L, hof, I, T⟩ := of_ok kk
  have hl := lives25_ok
  obtain ⟨b, hb, _⟩ := tlight_ok hv 300 (by omega) (by omega)
  have i1 := tyIsP_ok I hv
  have i2 := ty9_ok T hv 0
  have hpl := plain_ok aa
  have hps : (TY.mk aa [] [] aa).Sm := .mk (by simp) (by simp) (fun v h => by cases h)
  have i3 := tyIsP_ok I hps
  rw [plainT] at i3
  obtain ⟨a, ks, us, r⟩ := v
  have hE := E_law25_LtypeIs Rt 0 true kk a (ks.map .str) (us.map TY.enc) r aa
  rw [← TY.enc_mk] at hE
  refine rt_call A_law25_LtypeIs rfl rfl 0 (hE.trans ?_)
  rw [hb]
  cases b with
  | false => simp only [onR_some, onL_some, List.isEmpty_nil, allF_cons, allF_nil, Bool.and_true, Bool.true_and, when_true', List.getD_cons_zero, List.getD_cons_succ, isF_fz, toF_fz, isBool_bool, toBool_bool, isInt_int, toInt_int, isStr_str, toStr_str, isSl_sl, toSl_sl, List.length_cons, List.length_nil, List.all_cons, List.all_nil, lisFz_fz, ltoFz_fz, beq_self_eq_true, jump_true, ifB_true, ifB_false, isF_pv, isPv_pv, toV_pv, isNil_nilp, isNil_pt, isPt_pt, toAg_ag, cell_ag, isAg_ag, fits_ag, Int.toNat_natCast, Bool.not_true, Bool.not_false, fits_int, fits_bool, fits_str, fits_sl, hl]
  | true =>
    have z : ∀ x : Bool, (x == x) = true := fun x => by simp
    have z2 : ∀ x : Int, (x == x) = true := fun x => by simp
    have pe : (TY.mk aa [] [] aa).enc = .ag [.int .i64 aa, .sl [], .sl [], .int .i64 aa] := by rw [TY.enc_mk]; rfl
    simp only [onR_some, onL_some, List.isEmpty_nil, allF_cons, allF_nil, Bool.and_true, Bool.true_and, when_true', List.getD_cons_zero, List.getD_cons_succ, isF_fz, toF_fz, isBool_bool, toBool_bool, isInt_int, toInt_int, isStr_str, toStr_str, isSl_sl, toSl_sl, List.length_cons, List.length_nil, List.all_cons, List.all_nil, lisFz_fz, ltoFz_fz, beq_self_eq_true, jump_true, ifB_true, ifB_false, isF_pv, isPv_pv, toV_pv, isNil_nilp, isNil_pt, isPt_pt, toAg_ag, cell_ag, isAg_ag, fits_ag, Int.toNat_natCast, Bool.not_true, Bool.not_false, fits_int, fits_bool, fits_str, fits_sl, hof, hpl, TY.enc_fits, i1, i2, z]
    simp only [pe] at i3 ⊢
    simp only [onR_some, onL_some, List.isEmpty_nil, allF_cons, allF_nil, Bool.and_true, Bool.true_and, when_true', List.getD_cons_zero, List.getD_cons_succ, isF_fz, toF_fz, isBool_bool, toBool_bool, isInt_int, toInt_int, isStr_str, toStr_str, isSl_sl, toSl_sl, List.length_cons, List.length_nil, List.all_cons, List.all_nil, lisFz_fz, ltoFz_fz, beq_self_eq_true, jump_true, ifB_true, ifB_false, isF_pv, isPv_pv, toV_pv, isNil_nilp, isNil_pt, isPt_pt, toAg_ag, cell_ag, isAg_ag, fits_ag, Int.toNat_natCast, Bool.not_true, Bool.not_false, fits_int, fits_bool, fits_str, fits_sl, i3, List.getD_cons_zero, List.getD_cons_succ, FV.isAg, FV.cell, z2, T.len]
    have q0 : ((0 : Nat) : Int) == 0 := rfl
    unfold Lt.is
    by_cases g1 : 0 ≤ aa
    · simp [g1, hl, onR_some]
    · simp [g1, hl, onR_some]
end Go.Ab
