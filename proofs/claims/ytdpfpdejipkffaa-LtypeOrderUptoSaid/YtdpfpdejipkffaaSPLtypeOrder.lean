/- LtypeOrder: the plain law. -/
import Derived.Test.YtdpfpdejipkffaaSOrdT
import Derived.Test.YtdpfpdejipkffaaSNodeR
namespace Go.Ab
open Go.Proofs
set_option linter.unusedVariables false
set_option linter.unusedSimpArgs false
theorem pure_LtypeOrder (f0 f1 f2 : FV) (h0 : WV Try.prog 40 134217728 3 f0) (h1 : WV Try.prog 40 134217728 67 f1) (h2 : WV Try.prog 40 134217728 40 f2) : Rt N_law25_LtypeOrder [.fz f0, .fz f1, .fz f2] = some ([.fz (.bool true)], []) := by
  obtain ⟨kk, rfl, _⟩ := int_of (k := .i64) (by kernel_rfl) (by kernel_rfl) h0
  obtain ⟨x, y, z, rfl, hx, hy, hz⟩ := ty3_of (t := 25) (ts := 9) (by decide) (by kernel_rfl) (by kernel_rfl) (by kernel_rfl) (by kernel_rfl) (by kernel_rfl) (by kernel_rfl) (by kernel_rfl) (by kernel_rfl) h1
  obtain ⟨v, rfl, hv⟩ := nd_of (t := 40) (ts := 9) (Nat.le_refl _) (by kernel_rfl) (by kernel_rfl) (by kernel_rfl) (by kernel_rfl) (by kernel_rfl) (by kernel_rfl) h2
  obtain ⟨e, T9, L, hof, I, T⟩ := of_ok kk
  have O := I.ok
  have hl := lives25_ok
  obtain ⟨b, hb, hbt⟩ := mayL_ok T [x, y, z] (by simp) (fun v hv => by
    rcases List.mem_cons.1 hv with rfl | hv
    · exact hx
    · rcases List.mem_cons.1 hv with rfl | hv
      · exact hy
      · rw [List.mem_singleton.1 hv]; exact hz)
  obtain ⟨b2, hb2, _⟩ := nlight_ok hv 200 (by omega) (by omega)
  have hIs := nis9_ok T O hv
  have em : (labB L v && (rightB L v && shapeB (strip v))) = mayB L v := rfl
  rw [em] at hIs
  have xx : FV.ag [.int .i64 x.a, .sl (x.ks.map .str), .sl (x.us.map TY.enc), .int .i64 x.r] = x.enc := x.cs_enc
  have yy : FV.ag [.int .i64 y.a, .sl (y.ks.map .str), .sl (y.us.map TY.enc), .int .i64 y.r] = y.enc := y.cs_enc
  have zz : FV.ag [.int .i64 z.a, .sl (z.ks.map .str), .sl (z.us.map TY.enc), .int .i64 z.r] = z.enc := z.cs_enc
  have vv : FV.ag [.int .i64 v.a, .int .i64 v.d, .int .i64 v.k, .int .i64 v.cc, .int .i64 v.ss, .str v.tt, .sl (v.is.map ND.enc), .sl (v.ks.map .str)] = v.enc := by obtain ⟨a, d, k, c, s, t, is, ks⟩ := v; exact (ND.enc_mk ..).symm
  have hb' : Rt N_law25_may [.fz (.sl T9), .fz (.sl [x.enc, y.enc, z.enc])] = some ([.fz (.bool b)], []) := hb
  have core : mayB L v = true → b = true → J_law25_LtypeOrder_6_0 Rt 0 true (.pt 195 true e 0) x.a (x.ks.map .str) (x.us.map TY.enc) x.r y.a (y.ks.map .str) (y.us.map TY.enc) y.r z.a (z.ks.map .str) (z.us.map TY.enc) z.r v.a v.d v.k v.cc v.ss v.tt (v.is.map ND.enc) (v.ks.map .str) = some ([.fz (.bool true)], []) := by
    intro hm hbb
    obtain ⟨ix, cx⟩ := hbt hbb x (List.mem_cons_self ..)
    obtain ⟨iy, cy⟩ := hbt hbb y (List.mem_cons_of_mem _ (List.mem_cons_self ..))
    obtain ⟨iz, cz⟩ := hbt hbb z (List.mem_cons_of_mem _ (List.mem_cons_of_mem _ (List.mem_cons_self ..)))
    have mx := isT_may _ _ ix
    have my := isT_may _ _ iy
    have mz := isT_may _ _ iz
    have dx := isT_dp 3 (v := x) ix (Nat.le_refl _)
    have dy := isT_dp 3 (v := y) iy (Nat.le_refl _)
    have dz := isT_dp 3 (v := z) iz (Nat.le_refl _)
    have bx := mx.bd cx
    have by' := my.bd cy
    have bz := mz.bd cz
    have up : ∀ {m : Nat} {w : TY}, m ≤ 50000000 → w.Bd m → w.Bd 50000000 := fun h hw => hw.mono h
    -- the join
    have j0 := joinTP_ok I 3 mx my dx dy (up (by omega) bx) (up (by omega) by')
    have mj := joinT_may O 3 mx my
    have dj := joinT_dp L 3 dx dy
    have bj := up (by omega) (joinT_bd L 3 bx by')
    obtain ⟨o1, o2, o3⟩ := leqA_join O 3 mx my
    generalize joinT L 3 x y = j at j0 mj dj bj o1 o2 o3
    have lq := fun (u w : TY) (mu : MayT L u) (mw : MayT L w) (du : u.Dp 3) (dw : w.Dp 3) (bu : u.Bd 50000000) (bw : w.Bd 50000000) => leqP_ok I 3 mu mw du dw bu bw
    have t1 := lq x j mx mj dx dj (up (by omega) bx) bj
    have t2 := lq y j my mj dy dj (up (by omega) by') bj
    have t3 := lq x x mx mx dx dx (up (by omega) bx) (up (by omega) bx)
    have t4 := lq x z mx mz dx dz (up (by omega) bx) (up (by omega) bz)
    have t5 := lq y z my mz dy dz (up (by omega) by') (up (by omega) bz)
    have t6 := lq j z mj mz dj dz bj (up (by omega) bz)
    have t7 := lq x y mx my dx dy (up (by omega) bx) (up (by omega) by')
    rw [(leqT_iff 3 _ _).2 o1] at t1
    rw [(leqT_iff 3 _ _).2 o2] at t2
    rw [(leqT_iff 3 _ _).2 (leqA_refl O 3 mx)] at t3
    -- what is cut
    have c1 := cutP_ok I 1 1 rfl (by omega) (by omega) (bx.ti (by omega)) mx
    have c0 := cutP_ok I 0 0 rfl (by omega) (by omega) (bx.ti (by omega)) mx
    have t8 := lq x _ mx (cut_may O 1 mx) dx (cut_dp L 1 3 dx) (up (by omega) bx) (up (by omega) (cut_bd L 1 bx))
    have t9 := lq x _ mx (cut_may O 0 mx) dx (cut_dp L 0 3 dx) (up (by omega) bx) (up (by omega) (cut_bd L 0 bx))
    rw [(leqT_iff 3 _ _).2 (leq_cut O 1 3 mx dx)] at t8
    rw [(leqT_iff 3 _ _).2 (leq_cut O 0 3 mx dx)] at t9
    -- the node
    have p1 := fitsP_ok I hv x mx hx
    have p2 := fitsP_ok I hv j mj (bj.sm (by omega))
    have n1 : Rt N_ltype_Node [.fz (.pt 195 true e 0), .fz v.enc] = some ([.fz (leastN L 3 v).enc], []) := by
      have hle := least_ok I hv hm 3 (by omega)
      obtain ⟨a, d, k, c, s, t, is, ks⟩ := v
      have hE := E_ltype_Node Rt 0 true e a d k c s t (is.map ND.enc) (ks.map .str)
      rw [← ND.enc_mk] at hE
      refine rt_call A_ltype_Node rfl rfl 0 (hE.trans ?_)
      have e3 : ((3 : Nat) : Int) = 3 := rfl
      rw [e3] at hle
      simp only [hle, onR_some, onL_some, List.isEmpty_nil, allF_cons, allF_nil, Bool.and_true, Bool.true_and, when_true', List.getD_cons_zero, List.getD_cons_succ, isF_fz, toF_fz, isBool_bool, toBool_bool, isInt_int, toInt_int, isStr_str, toStr_str, isSl_sl, toSl_sl, List.length_cons, List.length_nil, List.all_cons, List.all_nil, lisFz_fz, ltoFz_fz, beq_self_eq_true, jump_true, ifB_true, ifB_false, isF_pv, isPv_pv, toV_pv, isNil_nilp, isNil_pt, isPt_pt, toAg_ag, cell_ag, isAg_ag, fits_ag, Int.toNat_natCast, Bool.not_true, Bool.not_false, fits_int, fits_bool, fits_str, fits_sl, TY.enc_fits]
    have ml := least_may O hv hm 3
    have c2 := cutP_ok I 0 0 rfl (by omega) (by omega) (least_ti L hv 3) ml
    have dl : ∀ w : TY, MayT L w → MayT L (cutT L 0 w) ∧ (cutT L 0 w).Dp 3 ∧ (cutT L 0 w).Bd 50000000 := fun w mw => ⟨cut_may O 0 mw, by rw [cut0]; exact ⟨(fun u hu => by cases hu), .mk (by simp) (by simp) (fun u hu => by cases hu)⟩⟩
    obtain ⟨q1, q2, q3⟩ := dl _ ml
    obtain ⟨r1, r2, r3⟩ := dl _ mx
    have t10 := lq _ _ q1 r1 q2 r2 q3 r3
    have J1 : J_law25_LtypeOrder_1_0 Rt 0 true (.pt 195 true e 0) x.a (x.ks.map .str) (x.us.map TY.enc) x.r y.a (y.ks.map .str) (y.us.map TY.enc) y.r z.a (z.ks.map .str) (z.us.map TY.enc) z.r v.a v.d v.k v.cc v.ss v.tt (v.is.map ND.enc) (v.ks.map .str) = some ([.fz (.bool true)], []) := by
      rw [J_law25_LtypeOrder_1_0_eq]
      simp only [xx, vv, p1, onR_some, onL_some, List.isEmpty_nil, allF_cons, allF_nil, Bool.and_true, Bool.true_and, when_true', List.getD_cons_zero, List.getD_cons_succ, isF_fz, toF_fz, isBool_bool, toBool_bool, isInt_int, toInt_int, isStr_str, toStr_str, isSl_sl, toSl_sl, List.length_cons, List.length_nil, List.all_cons, List.all_nil, lisFz_fz, ltoFz_fz, beq_self_eq_true, jump_true, ifB_true, ifB_false, isF_pv, isPv_pv, toV_pv, isNil_nilp, isNil_pt, isPt_pt, toAg_ag, cell_ag, isAg_ag, fits_ag, Int.toNat_natCast, Bool.not_true, Bool.not_false, fits_int, fits_bool, fits_str, fits_sl]
      cases hf : fitsN L v x with
      | false => simp only [onR_some, onL_some, List.isEmpty_nil, allF_cons, allF_nil, Bool.and_true, Bool.true_and, when_true', List.getD_cons_zero, List.getD_cons_succ, isF_fz, toF_fz, isBool_bool, toBool_bool, isInt_int, toInt_int, isStr_str, toStr_str, isSl_sl, toSl_sl, List.length_cons, List.length_nil, List.all_cons, List.all_nil, lisFz_fz, ltoFz_fz, beq_self_eq_true, jump_true, ifB_true, ifB_false, isF_pv, isPv_pv, toV_pv, isNil_nilp, isNil_pt, isPt_pt, toAg_ag, cell_ag, isAg_ag, fits_ag, Int.toNat_natCast, Bool.not_true, Bool.not_false, fits_int, fits_bool, fits_str, fits_sl, hl]
      | true =>
        rw [least_cut O hv hm 3 mx dx hf] at t10
        simp only [n1, c2, c0, t10, hl, onR_some, onL_some, List.isEmpty_nil, allF_cons, allF_nil, Bool.and_true, Bool.true_and, when_true', List.getD_cons_zero, List.getD_cons_succ, isF_fz, toF_fz, isBool_bool, toBool_bool, isInt_int, toInt_int, isStr_str, toStr_str, isSl_sl, toSl_sl, List.length_cons, List.length_nil, List.all_cons, List.all_nil, lisFz_fz, ltoFz_fz, beq_self_eq_true, jump_true, ifB_true, ifB_false, isF_pv, isPv_pv, toV_pv, isNil_nilp, isNil_pt, isPt_pt, toAg_ag, cell_ag, isAg_ag, fits_ag, Int.toNat_natCast, Bool.not_true, Bool.not_false, fits_int, fits_bool, fits_str, fits_sl]
    have J2 : J_law25_LtypeOrder_2_0 Rt 0 true (.pt 195 true e 0) x.a (x.ks.map .str) (x.us.map TY.enc) x.r y.a (y.ks.map .str) (y.us.map TY.enc) y.r z.a (z.ks.map .str) (z.us.map TY.enc) z.r v.a v.d v.k v.cc v.ss v.tt (v.is.map ND.enc) (v.ks.map .str) j.enc = some ([.fz (.bool true)], []) := by
      rw [J_law25_LtypeOrder_2_0_eq]
      simp only [xx, vv, p1, onR_some, onL_some, List.isEmpty_nil, allF_cons, allF_nil, Bool.and_true, Bool.true_and, when_true', List.getD_cons_zero, List.getD_cons_succ, isF_fz, toF_fz, isBool_bool, toBool_bool, isInt_int, toInt_int, isStr_str, toStr_str, isSl_sl, toSl_sl, List.length_cons, List.length_nil, List.all_cons, List.all_nil, lisFz_fz, ltoFz_fz, beq_self_eq_true, jump_true, ifB_true, ifB_false, isF_pv, isPv_pv, toV_pv, isNil_nilp, isNil_pt, isPt_pt, toAg_ag, cell_ag, isAg_ag, fits_ag, Int.toNat_natCast, Bool.not_true, Bool.not_false, fits_int, fits_bool, fits_str, fits_sl]
      cases hf : fitsN L v x with
      | false => simp only [onR_some, onL_some, List.isEmpty_nil, allF_cons, allF_nil, Bool.and_true, Bool.true_and, when_true', List.getD_cons_zero, List.getD_cons_succ, isF_fz, toF_fz, isBool_bool, toBool_bool, isInt_int, toInt_int, isStr_str, toStr_str, isSl_sl, toSl_sl, List.length_cons, List.length_nil, List.all_cons, List.all_nil, lisFz_fz, ltoFz_fz, beq_self_eq_true, jump_true, ifB_true, ifB_false, isF_pv, isPv_pv, toV_pv, isNil_nilp, isNil_pt, isPt_pt, toAg_ag, cell_ag, isAg_ag, fits_ag, Int.toNat_natCast, Bool.not_true, Bool.not_false, fits_int, fits_bool, fits_str, fits_sl, J1]
      | true =>
        rw [fits_mono O hv 3 dx dj o1 hf] at p2
        simp only [p2, J1, onR_some, onL_some, List.isEmpty_nil, allF_cons, allF_nil, Bool.and_true, Bool.true_and, when_true', List.getD_cons_zero, List.getD_cons_succ, isF_fz, toF_fz, isBool_bool, toBool_bool, isInt_int, toInt_int, isStr_str, toStr_str, isSl_sl, toSl_sl, List.length_cons, List.length_nil, List.all_cons, List.all_nil, lisFz_fz, ltoFz_fz, beq_self_eq_true, jump_true, ifB_true, ifB_false, isF_pv, isPv_pv, toV_pv, isNil_nilp, isNil_pt, isPt_pt, toAg_ag, cell_ag, isAg_ag, fits_ag, Int.toNat_natCast, Bool.not_true, Bool.not_false, fits_int, fits_bool, fits_str, fits_sl]
    have J3 : J_law25_LtypeOrder_3_0 Rt 0 true (.pt 195 true e 0) x.a (x.ks.map .str) (x.us.map TY.enc) x.r y.a (y.ks.map .str) (y.us.map TY.enc) y.r z.a (z.ks.map .str) (z.us.map TY.enc) z.r v.a v.d v.k v.cc v.ss v.tt (v.is.map ND.enc) (v.ks.map .str) j.enc = some ([.fz (.bool true)], []) := by
      rw [J_law25_LtypeOrder_3_0_eq]
      simp only [xx, c1, c0, t8, t9, J2, onR_some, onL_some, List.isEmpty_nil, allF_cons, allF_nil, Bool.and_true, Bool.true_and, when_true', List.getD_cons_zero, List.getD_cons_succ, isF_fz, toF_fz, isBool_bool, toBool_bool, isInt_int, toInt_int, isStr_str, toStr_str, isSl_sl, toSl_sl, List.length_cons, List.length_nil, List.all_cons, List.all_nil, lisFz_fz, ltoFz_fz, beq_self_eq_true, jump_true, ifB_true, ifB_false, isF_pv, isPv_pv, toV_pv, isNil_nilp, isNil_pt, isPt_pt, toAg_ag, cell_ag, isAg_ag, fits_ag, Int.toNat_natCast, Bool.not_true, Bool.not_false, fits_int, fits_bool, fits_str, fits_sl]
    have J4 : J_law25_LtypeOrder_4_0 Rt 0 true (.pt 195 true e 0) x.a (x.ks.map .str) (x.us.map TY.enc) x.r y.a (y.ks.map .str) (y.us.map TY.enc) y.r z.a (z.ks.map .str) (z.us.map TY.enc) z.r v.a v.d v.k v.cc v.ss v.tt (v.is.map ND.enc) (v.ks.map .str) j.enc = some ([.fz (.bool true)], []) := by
      rw [J_law25_LtypeOrder_4_0_eq]
      simp only [xx, yy, zz, t7, t5, t4, onR_some, onL_some, List.isEmpty_nil, allF_cons, allF_nil, Bool.and_true, Bool.true_and, when_true', List.getD_cons_zero, List.getD_cons_succ, isF_fz, toF_fz, isBool_bool, toBool_bool, isInt_int, toInt_int, isStr_str, toStr_str, isSl_sl, toSl_sl, List.length_cons, List.length_nil, List.all_cons, List.all_nil, lisFz_fz, ltoFz_fz, beq_self_eq_true, jump_true, ifB_true, ifB_false, isF_pv, isPv_pv, toV_pv, isNil_nilp, isNil_pt, isPt_pt, toAg_ag, cell_ag, isAg_ag, fits_ag, Int.toNat_natCast, Bool.not_true, Bool.not_false, fits_int, fits_bool, fits_str, fits_sl]
      cases e1 : leqT L 3 x y with
      | false => simp only [J3, onR_some, onL_some, List.isEmpty_nil, allF_cons, allF_nil, Bool.and_true, Bool.true_and, when_true', List.getD_cons_zero, List.getD_cons_succ, isF_fz, toF_fz, isBool_bool, toBool_bool, isInt_int, toInt_int, isStr_str, toStr_str, isSl_sl, toSl_sl, List.length_cons, List.length_nil, List.all_cons, List.all_nil, lisFz_fz, ltoFz_fz, beq_self_eq_true, jump_true, ifB_true, ifB_false, isF_pv, isPv_pv, toV_pv, isNil_nilp, isNil_pt, isPt_pt, toAg_ag, cell_ag, isAg_ag, fits_ag, Int.toNat_natCast, Bool.not_true, Bool.not_false, fits_int, fits_bool, fits_str, fits_sl]
      | true =>
        simp only [onR_some, onL_some, List.isEmpty_nil, allF_cons, allF_nil, Bool.and_true, Bool.true_and, when_true', List.getD_cons_zero, List.getD_cons_succ, isF_fz, toF_fz, isBool_bool, toBool_bool, isInt_int, toInt_int, isStr_str, toStr_str, isSl_sl, toSl_sl, List.length_cons, List.length_nil, List.all_cons, List.all_nil, lisFz_fz, ltoFz_fz, beq_self_eq_true, jump_true, ifB_true, ifB_false, isF_pv, isPv_pv, toV_pv, isNil_nilp, isNil_pt, isPt_pt, toAg_ag, cell_ag, isAg_ag, fits_ag, Int.toNat_natCast, Bool.not_true, Bool.not_false, fits_int, fits_bool, fits_str, fits_sl, t5]
        cases e2 : leqT L 3 y z with
        | false => simp only [J3, onR_some, onL_some, List.isEmpty_nil, allF_cons, allF_nil, Bool.and_true, Bool.true_and, when_true', List.getD_cons_zero, List.getD_cons_succ, isF_fz, toF_fz, isBool_bool, toBool_bool, isInt_int, toInt_int, isStr_str, toStr_str, isSl_sl, toSl_sl, List.length_cons, List.length_nil, List.all_cons, List.all_nil, lisFz_fz, ltoFz_fz, beq_self_eq_true, jump_true, ifB_true, ifB_false, isF_pv, isPv_pv, toV_pv, isNil_nilp, isNil_pt, isPt_pt, toAg_ag, cell_ag, isAg_ag, fits_ag, Int.toNat_natCast, Bool.not_true, Bool.not_false, fits_int, fits_bool, fits_str, fits_sl]
        | true =>
          have e3 : leqT L 3 x z = true := (leqT_iff 3 _ _).2 (leqA_trans O 3 ((leqT_iff 3 _ _).1 e1) ((leqT_iff 3 _ _).1 e2))
          simp only [t4, e3, J3, onR_some, onL_some, List.isEmpty_nil, allF_cons, allF_nil, Bool.and_true, Bool.true_and, when_true', List.getD_cons_zero, List.getD_cons_succ, isF_fz, toF_fz, isBool_bool, toBool_bool, isInt_int, toInt_int, isStr_str, toStr_str, isSl_sl, toSl_sl, List.length_cons, List.length_nil, List.all_cons, List.all_nil, lisFz_fz, ltoFz_fz, beq_self_eq_true, jump_true, ifB_true, ifB_false, isF_pv, isPv_pv, toV_pv, isNil_nilp, isNil_pt, isPt_pt, toAg_ag, cell_ag, isAg_ag, fits_ag, Int.toNat_natCast, Bool.not_true, Bool.not_false, fits_int, fits_bool, fits_str, fits_sl]
    have J5 : J_law25_LtypeOrder_5_0 Rt 0 true (.pt 195 true e 0) x.a (x.ks.map .str) (x.us.map TY.enc) x.r y.a (y.ks.map .str) (y.us.map TY.enc) y.r z.a (z.ks.map .str) (z.us.map TY.enc) z.r v.a v.d v.k v.cc v.ss v.tt (v.is.map ND.enc) (v.ks.map .str) j.enc = some ([.fz (.bool true)], []) := by
      rw [J_law25_LtypeOrder_5_0_eq]
      simp only [xx, yy, zz, t4, t5, onR_some, onL_some, List.isEmpty_nil, allF_cons, allF_nil, Bool.and_true, Bool.true_and, when_true', List.getD_cons_zero, List.getD_cons_succ, isF_fz, toF_fz, isBool_bool, toBool_bool, isInt_int, toInt_int, isStr_str, toStr_str, isSl_sl, toSl_sl, List.length_cons, List.length_nil, List.all_cons, List.all_nil, lisFz_fz, ltoFz_fz, beq_self_eq_true, jump_true, ifB_true, ifB_false, isF_pv, isPv_pv, toV_pv, isNil_nilp, isNil_pt, isPt_pt, toAg_ag, cell_ag, isAg_ag, fits_ag, Int.toNat_natCast, Bool.not_true, Bool.not_false, fits_int, fits_bool, fits_str, fits_sl]
      cases e1 : leqT L 3 x z with
      | false => simp only [J4, onR_some, onL_some, List.isEmpty_nil, allF_cons, allF_nil, Bool.and_true, Bool.true_and, when_true', List.getD_cons_zero, List.getD_cons_succ, isF_fz, toF_fz, isBool_bool, toBool_bool, isInt_int, toInt_int, isStr_str, toStr_str, isSl_sl, toSl_sl, List.length_cons, List.length_nil, List.all_cons, List.all_nil, lisFz_fz, ltoFz_fz, beq_self_eq_true, jump_true, ifB_true, ifB_false, isF_pv, isPv_pv, toV_pv, isNil_nilp, isNil_pt, isPt_pt, toAg_ag, cell_ag, isAg_ag, fits_ag, Int.toNat_natCast, Bool.not_true, Bool.not_false, fits_int, fits_bool, fits_str, fits_sl]
      | true =>
        simp only [onR_some, onL_some, List.isEmpty_nil, allF_cons, allF_nil, Bool.and_true, Bool.true_and, when_true', List.getD_cons_zero, List.getD_cons_succ, isF_fz, toF_fz, isBool_bool, toBool_bool, isInt_int, toInt_int, isStr_str, toStr_str, isSl_sl, toSl_sl, List.length_cons, List.length_nil, List.all_cons, List.all_nil, lisFz_fz, ltoFz_fz, beq_self_eq_true, jump_true, ifB_true, ifB_false, isF_pv, isPv_pv, toV_pv, isNil_nilp, isNil_pt, isPt_pt, toAg_ag, cell_ag, isAg_ag, fits_ag, Int.toNat_natCast, Bool.not_true, Bool.not_false, fits_int, fits_bool, fits_str, fits_sl, t5]
        cases e2 : leqT L 3 y z with
        | false => simp only [J4, onR_some, onL_some, List.isEmpty_nil, allF_cons, allF_nil, Bool.and_true, Bool.true_and, when_true', List.getD_cons_zero, List.getD_cons_succ, isF_fz, toF_fz, isBool_bool, toBool_bool, isInt_int, toInt_int, isStr_str, toStr_str, isSl_sl, toSl_sl, List.length_cons, List.length_nil, List.all_cons, List.all_nil, lisFz_fz, ltoFz_fz, beq_self_eq_true, jump_true, ifB_true, ifB_false, isF_pv, isPv_pv, toV_pv, isNil_nilp, isNil_pt, isPt_pt, toAg_ag, cell_ag, isAg_ag, fits_ag, Int.toNat_natCast, Bool.not_true, Bool.not_false, fits_int, fits_bool, fits_str, fits_sl]
        | true =>
          have e3 : leqT L 3 j z = true := (leqT_iff 3 _ _).2 (o3 z ((leqT_iff 3 _ _).1 e1) ((leqT_iff 3 _ _).1 e2))
          simp only [t6, e3, J4, onR_some, onL_some, List.isEmpty_nil, allF_cons, allF_nil, Bool.and_true, Bool.true_and, when_true', List.getD_cons_zero, List.getD_cons_succ, isF_fz, toF_fz, isBool_bool, toBool_bool, isInt_int, toInt_int, isStr_str, toStr_str, isSl_sl, toSl_sl, List.length_cons, List.length_nil, List.all_cons, List.all_nil, lisFz_fz, ltoFz_fz, beq_self_eq_true, jump_true, ifB_true, ifB_false, isF_pv, isPv_pv, toV_pv, isNil_nilp, isNil_pt, isPt_pt, toAg_ag, cell_ag, isAg_ag, fits_ag, Int.toNat_natCast, Bool.not_true, Bool.not_false, fits_int, fits_bool, fits_str, fits_sl]
    rw [J_law25_LtypeOrder_6_0_eq]
    simp only [xx, yy, j0, TY.enc_fits, t1, t2, t3, J5, onR_some, onL_some, List.isEmpty_nil, allF_cons, allF_nil, Bool.and_true, Bool.true_and, when_true', List.getD_cons_zero, List.getD_cons_succ, isF_fz, toF_fz, isBool_bool, toBool_bool, isInt_int, toInt_int, isStr_str, toStr_str, isSl_sl, toSl_sl, List.length_cons, List.length_nil, List.all_cons, List.all_nil, lisFz_fz, ltoFz_fz, beq_self_eq_true, jump_true, ifB_true, ifB_false, isF_pv, isPv_pv, toV_pv, isNil_nilp, isNil_pt, isPt_pt, toAg_ag, cell_ag, isAg_ag, fits_ag, Int.toNat_natCast, Bool.not_true, Bool.not_false, fits_int, fits_bool, fits_str, fits_sl]
  have hE := E_law25_LtypeOrder Rt 0 true kk x.a (x.ks.map .str) (x.us.map TY.enc) x.r y.a (y.ks.map .str) (y.us.map TY.enc) y.r z.a (z.ks.map .str) (z.us.map TY.enc) z.r v.a v.d v.k v.cc v.ss v.tt (v.is.map ND.enc) (v.ks.map .str)
  rw [xx, yy, zz, vv] at hE
  refine rt_call A_law25_LtypeOrder rfl rfl 0 (hE.trans ?_)
  rw [hof]
  simp only [onR_some, onL_some, List.isEmpty_nil, allF_cons, allF_nil, Bool.and_true, Bool.true_and, when_true', List.getD_cons_zero, List.getD_cons_succ, isF_fz, toF_fz, isBool_bool, toBool_bool, isInt_int, toInt_int, isStr_str, toStr_str, isSl_sl, toSl_sl, List.length_cons, List.length_nil, List.all_cons, List.all_nil, lisFz_fz, ltoFz_fz, beq_self_eq_true, jump_true, ifB_true, ifB_false, isF_pv, isPv_pv, toV_pv, isNil_nilp, isNil_pt, isPt_pt, toAg_ag, cell_ag, isAg_ag, fits_ag, Int.toNat_natCast, Bool.not_true, Bool.not_false, fits_int, fits_bool, fits_str, fits_sl, hb']
  cases hbb : b with
  | false => simp only [onR_some, onL_some, List.isEmpty_nil, allF_cons, allF_nil, Bool.and_true, Bool.true_and, when_true', List.getD_cons_zero, List.getD_cons_succ, isF_fz, toF_fz, isBool_bool, toBool_bool, isInt_int, toInt_int, isStr_str, toStr_str, isSl_sl, toSl_sl, List.length_cons, List.length_nil, List.all_cons, List.all_nil, lisFz_fz, ltoFz_fz, beq_self_eq_true, jump_true, ifB_true, ifB_false, isF_pv, isPv_pv, toV_pv, isNil_nilp, isNil_pt, isPt_pt, toAg_ag, cell_ag, isAg_ag, fits_ag, Int.toNat_natCast, Bool.not_true, Bool.not_false, fits_int, fits_bool, fits_str, fits_sl, hl]
  | true =>
  simp only [onR_some, onL_some, List.isEmpty_nil, allF_cons, allF_nil, Bool.and_true, Bool.true_and, when_true', List.getD_cons_zero, List.getD_cons_succ, isF_fz, toF_fz, isBool_bool, toBool_bool, isInt_int, toInt_int, isStr_str, toStr_str, isSl_sl, toSl_sl, List.length_cons, List.length_nil, List.all_cons, List.all_nil, lisFz_fz, ltoFz_fz, beq_self_eq_true, jump_true, ifB_true, ifB_false, isF_pv, isPv_pv, toV_pv, isNil_nilp, isNil_pt, isPt_pt, toAg_ag, cell_ag, isAg_ag, fits_ag, Int.toNat_natCast, Bool.not_true, Bool.not_false, fits_int, fits_bool, fits_str, fits_sl, hb2]
  cases b2 with
  | false => simp only [onR_some, onL_some, List.isEmpty_nil, allF_cons, allF_nil, Bool.and_true, Bool.true_and, when_true', List.getD_cons_zero, List.getD_cons_succ, isF_fz, toF_fz, isBool_bool, toBool_bool, isInt_int, toInt_int, isStr_str, toStr_str, isSl_sl, toSl_sl, List.length_cons, List.length_nil, List.all_cons, List.all_nil, lisFz_fz, ltoFz_fz, beq_self_eq_true, jump_true, ifB_true, ifB_false, isF_pv, isPv_pv, toV_pv, isNil_nilp, isNil_pt, isPt_pt, toAg_ag, cell_ag, isAg_ag, fits_ag, Int.toNat_natCast, Bool.not_true, Bool.not_false, fits_int, fits_bool, fits_str, fits_sl, hl]
  | true =>
  simp only [onR_some, onL_some, List.isEmpty_nil, allF_cons, allF_nil, Bool.and_true, Bool.true_and, when_true', List.getD_cons_zero, List.getD_cons_succ, isF_fz, toF_fz, isBool_bool, toBool_bool, isInt_int, toInt_int, isStr_str, toStr_str, isSl_sl, toSl_sl, List.length_cons, List.length_nil, List.all_cons, List.all_nil, lisFz_fz, ltoFz_fz, beq_self_eq_true, jump_true, ifB_true, ifB_false, isF_pv, isPv_pv, toV_pv, isNil_nilp, isNil_pt, isPt_pt, toAg_ag, cell_ag, isAg_ag, fits_ag, Int.toNat_natCast, Bool.not_true, Bool.not_false, fits_int, fits_bool, fits_str, fits_sl, hIs]
  cases hm : mayB L v with
  | false => simp only [onR_some, onL_some, List.isEmpty_nil, allF_cons, allF_nil, Bool.and_true, Bool.true_and, when_true', List.getD_cons_zero, List.getD_cons_succ, isF_fz, toF_fz, isBool_bool, toBool_bool, isInt_int, toInt_int, isStr_str, toStr_str, isSl_sl, toSl_sl, List.length_cons, List.length_nil, List.all_cons, List.all_nil, lisFz_fz, ltoFz_fz, beq_self_eq_true, jump_true, ifB_true, ifB_false, isF_pv, isPv_pv, toV_pv, isNil_nilp, isNil_pt, isPt_pt, toAg_ag, cell_ag, isAg_ag, fits_ag, Int.toNat_natCast, Bool.not_true, Bool.not_false, fits_int, fits_bool, fits_str, fits_sl, hl]
  | true => simp only [onR_some, onL_some, List.isEmpty_nil, allF_cons, allF_nil, Bool.and_true, Bool.true_and, when_true', List.getD_cons_zero, List.getD_cons_succ, isF_fz, toF_fz, isBool_bool, toBool_bool, isInt_int, toInt_int, isStr_str, toStr_str, isSl_sl, toSl_sl, List.length_cons, List.length_nil, List.all_cons, List.all_nil, lisFz_fz, ltoFz_fz, beq_self_eq_true, jump_true, ifB_true, ifB_false, isF_pv, isPv_pv, toV_pv, isNil_nilp, isNil_pt, isPt_pt, toAg_ag, cell_ag, isAg_ag, fits_ag, Int.toNat_natCast, Bool.not_true, Bool.not_false, fits_int, fits_bool, fits_str, fits_sl, core hm hbb]
end Go.Ab
