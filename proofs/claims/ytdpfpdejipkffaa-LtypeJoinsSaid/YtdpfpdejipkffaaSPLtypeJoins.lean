/- LtypeJoins: the plain law. -/
import Derived.Test.YtdpfpdejipkffaaSMayL
import Derived.Test.YtdpfpdejipkffaaSNodeR
namespace Go.Ab
open Go.Proofs
set_option linter.unusedVariables false
set_option linter.unusedSimpArgs false
theorem pure_LtypeJoins (f0 f1 : FV) (h0 : WV Try.prog 40 reachBytes 3 f0) (h1 : WV Try.prog 40 reachBytes 51 f1) : Rt N_law25_LtypeJoins [.fz f0, .fz f1] = some ([.fz (.bool true)], []) := by
  obtain ⟨kk, rfl, _⟩ := int_of (k := .i64) (by kernel_rfl) (by kernel_rfl) h0
  obtain ⟨x, y, rfl, hx, hy⟩ := ty2_of (t := 25) (ts := 9) (by decide) (by kernel_rfl) (by kernel_rfl) (by kernel_rfl) (by kernel_rfl) (by kernel_rfl) (by kernel_rfl) (by kernel_rfl) (by kernel_rfl) h1
  obtain ⟨e, T9, L, hof, I, T⟩ := of_ok kk
  have O := I.ok
  have hl := lives25_ok
  obtain ⟨b, hb, hbt⟩ := mayL_ok T [x, y] (by simp) (fun v hv => by
    rcases List.mem_cons.1 hv with rfl | hv
    · exact hx
    · rw [List.mem_singleton.1 hv]; exact hy)
  have hE := E_law25_LtypeJoins Rt 0 true kk x.a (x.ks.map .str) (x.us.map TY.enc) x.r y.a (y.ks.map .str) (y.us.map TY.enc) y.r
  have xx : FV.ag [.int .i64 x.a, .sl (x.ks.map .str), .sl (x.us.map TY.enc), .int .i64 x.r] = x.enc := x.cs_enc
  have yy : FV.ag [.int .i64 y.a, .sl (y.ks.map .str), .sl (y.us.map TY.enc), .int .i64 y.r] = y.enc := y.cs_enc
  rw [xx, yy] at hE
  have hb' : Rt N_law25_may [.fz (.sl T9), .fz (.sl [x.enc, y.enc])] = some ([.fz (.bool b)], []) := hb
  refine rt_call A_law25_LtypeJoins rfl rfl 0 (hE.trans ?_)
  rw [hof]
  simp only [onR_some, onL_some, List.isEmpty_nil, allF_cons, allF_nil, Bool.and_true, Bool.true_and, when_true', List.getD_cons_zero, List.getD_cons_succ, isF_fz, toF_fz, isBool_bool, toBool_bool, isInt_int, toInt_int, isStr_str, toStr_str, isSl_sl, toSl_sl, List.length_cons, List.length_nil, List.all_cons, List.all_nil, lisFz_fz, ltoFz_fz, beq_self_eq_true, jump_true, ifB_true, ifB_false, isF_pv, isPv_pv, toV_pv, isNil_nilp, isNil_pt, isPt_pt, toAg_ag, cell_ag, isAg_ag, fits_ag, Int.toNat_natCast, Bool.not_true, Bool.not_false, fits_int, fits_bool, fits_str, fits_sl, hb']
  cases b with
  | false => simp only [onR_some, onL_some, List.isEmpty_nil, allF_cons, allF_nil, Bool.and_true, Bool.true_and, when_true', List.getD_cons_zero, List.getD_cons_succ, isF_fz, toF_fz, isBool_bool, toBool_bool, isInt_int, toInt_int, isStr_str, toStr_str, isSl_sl, toSl_sl, List.length_cons, List.length_nil, List.all_cons, List.all_nil, lisFz_fz, ltoFz_fz, beq_self_eq_true, jump_true, ifB_true, ifB_false, isF_pv, isPv_pv, toV_pv, isNil_nilp, isNil_pt, isPt_pt, toAg_ag, cell_ag, isAg_ag, fits_ag, Int.toNat_natCast, Bool.not_true, Bool.not_false, fits_int, fits_bool, fits_str, fits_sl, hl]
  | true =>
    obtain ⟨ix, cx⟩ := hbt rfl x (List.mem_cons_self ..)
    obtain ⟨iy, cy⟩ := hbt rfl y (List.mem_cons_of_mem _ (List.mem_cons_self ..))
    have mx := isT_may _ _ ix
    have my := isT_may _ _ iy
    have dx := isT_dp 3 (v := x) ix (Nat.le_refl _)
    have dy := isT_dp 3 (v := y) iy (Nat.le_refl _)
    have bx := (mx.bd cx).mono (show 200 ≤ 50000000 by omega)
    have by' := (my.bd cy).mono (show 200 ≤ 50000000 by omega)
    have g1 := leqP_ok I 3 mx my dx dy bx by'
    have g2 := leq9T_ok T O 3 mx my dx dy bx by'
    have g3 := joinTP_ok I 3 mx my dx dy bx by'
    have g4 := join9T_ok T O 3 mx my dx dy bx by'
    have g5 := tsame_ok ((joinT_bd L 3 bx by').sm (by omega))
    have g6 := (belowP_ok I hx mx).2
    have g7 := all9_ok T O hx mx.ha mx.hr mx.hu
    have g8 := (belowP_ok I hx mx).1
    have g9 := below9_ok T O hx mx
    have z : ∀ x : Bool, (x == x) = true := fun x => by simp
    have z2 : ∀ x : Int, (x == x) = true := fun x => by simp
    simp only [onR_some, onL_some, List.isEmpty_nil, allF_cons, allF_nil, Bool.and_true, Bool.true_and, when_true', List.getD_cons_zero, List.getD_cons_succ, isF_fz, toF_fz, isBool_bool, toBool_bool, isInt_int, toInt_int, isStr_str, toStr_str, isSl_sl, toSl_sl, List.length_cons, List.length_nil, List.all_cons, List.all_nil, lisFz_fz, ltoFz_fz, beq_self_eq_true, jump_true, ifB_true, ifB_false, isF_pv, isPv_pv, toV_pv, isNil_nilp, isNil_pt, isPt_pt, toAg_ag, cell_ag, isAg_ag, fits_ag, Int.toNat_natCast, Bool.not_true, Bool.not_false, fits_int, fits_bool, fits_str, fits_sl, g1, g2, g3, g4, g5, g6, g7, g8, g9, hl, z, z2]
end Go.Ab
