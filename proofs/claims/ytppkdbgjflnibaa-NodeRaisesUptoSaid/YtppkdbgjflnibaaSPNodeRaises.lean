/- NodeRaises: the plain law. -/
import Derived.Test.YtppkdbgjflnibaaSNodeR
import Derived.Test.YtppkdbgjflnibaaSNodeP
import Derived.Test.YtppkdbgjflnibaaSNode3
namespace Go.Ab
open Go.Proofs
set_option linter.unusedVariables false
set_option linter.unusedSimpArgs false

theorem raises1 {e : FV} {L : Lt} (I : IsLat e L) {g u w : Nat} (hg : g < L.n) (hu : u < L.n) (hw : w < L.n) (h1 : L.leq g u = true) (h2 : L.leq u w = true) (a d k c s k2 c2 s2 : Int) (t t2 : ByteArray) (is : List ND) (ks ks2 : List ByteArray) (hi : is.length ≤ 134217728) (hsm : ∀ v ∈ is, v.Sm) {K : Nat} : ∀ (j i N : Nat), i + j = is.length → j < N →
    onL (L_law09_NodeRaises_1_0 Rt K true N (.pt 195 true e 0) g i a d k c s t (is.map ND.enc) (ks.map .str) (ND.mk u w k2 c2 s2 t2 is ks2).enc) (K_law09_NodeRaises_1 Rt K true) = some ([.fz (.bool true)], [])
  | j, i, 0, _, h => by omega
  | 0, i, N + 1, h, _ => by
    have hl := lives09_ok
    have l1 := lat_Leq I g u
    have l2 := lat_Leq I u w
    rw [Lt.leqI_nat hg hu, h1] at l1
    rw [Lt.leqI_nat hu hw, h2] at l2
    rw [L_law09_NodeRaises_1_0_eq, ND.enc_mk]
    simp only [onR_some, onL_some, List.isEmpty_nil, allF_cons, allF_nil, Bool.and_true, Bool.true_and, when_true', List.getD_cons_zero, List.getD_cons_succ, isF_fz, toF_fz, isBool_bool, toBool_bool, isInt_int, toInt_int, isStr_str, toStr_str, isSl_sl, toSl_sl, List.length_cons, List.length_nil, List.all_cons, List.all_nil, lisFz_fz, ltoFz_fz, beq_self_eq_true, jump_true, ifB_true, ifB_false, isF_pv, isPv_pv, toV_pv, isNil_nilp, isNil_pt, isPt_pt, toAg_ag, cell_ag, isAg_ag, fits_ag, Int.toNat_natCast, Bool.not_true, Bool.not_false, fits_int, fits_bool, fits_str, fits_sl, List.length_map, decide_eq_false (show ¬ ((i : Int) < (is.length : Int)) by omega), X_law09_NodeRaises_1_1_eq, l1, l2, hl]
  | j + 1, i, N + 1, h, hN => by
    have hlt : i < is.length := by omega
    have ih := raises1 I hg hu hw h1 h2 a d k c s k2 c2 s2 t t2 is ks ks2 hi hsm (K := K) j (i + 1) N (by omega) (by omega)
    have hs := nsame_ok (hsm is[i] (List.getElem_mem hlt)) is[i]
    rw [sameND_self] at hs
    have hgd : (is.map ND.enc).getD i .nilp = (is[i]).enc := by simp [hlt]
    have ww := wrn (show i < 1152921504606846976 by omega)
    have h00 : decide ((0 : Int) ≤ (i : Int)) = true := by simp
    have hag : FV.isAg 8 (ND.mk u w k2 c2 s2 t2 is ks2).enc = true := (ND.mk u w k2 c2 s2 t2 is ks2).enc_fits
    have hc6 : FV.cell (ND.mk (u : Int) (w : Int) k2 c2 s2 t2 is ks2).enc 6 = .sl (is.map ND.enc) := by rw [ND.enc_mk]; rfl
    rw [L_law09_NodeRaises_1_0_eq]
    simp only [hag, hc6, onR_some, onL_some, List.isEmpty_nil, allF_cons, allF_nil, Bool.and_true, Bool.true_and, when_true', List.getD_cons_zero, List.getD_cons_succ, isF_fz, toF_fz, isBool_bool, toBool_bool, isInt_int, toInt_int, isStr_str, toStr_str, isSl_sl, toSl_sl, List.length_cons, List.length_nil, List.all_cons, List.all_nil, lisFz_fz, ltoFz_fz, beq_self_eq_true, jump_true, ifB_true, ifB_false, isF_pv, isPv_pv, toV_pv, isNil_nilp, isNil_pt, isPt_pt, toAg_ag, cell_ag, isAg_ag, fits_ag, Int.toNat_natCast, Bool.not_true, Bool.not_false, fits_int, fits_bool, fits_str, fits_sl, List.length_map, decide_eq_true (show (i : Int) < (is.length : Int) by omega), h00, hgd, ND.enc_fits, hs, ww, ih]
theorem pure_NodeRaises (f0 f1 f2 : FV) (h0 : WV Try.prog 40 134217728 3 f0) (h1 : WV Try.prog 40 134217728 27 f1) (h2 : WV Try.prog 40 134217728 28 f2) : Rt N_law09_NodeRaises [.fz f0, .fz f1, .fz f2] = some ([.fz (.bool true)], []) := by
  obtain ⟨kk, rfl, _⟩ := int_of (k := .i64) (by kernel_rfl) (by kernel_rfl) h0
  obtain ⟨v, rfl, hv⟩ := nd_of (t := 27) (ts := 9) (Nat.le_refl _) (by kernel_rfl) (by kernel_rfl) (by kernel_rfl) (by kernel_rfl) (by kernel_rfl) (by kernel_rfl) h1
  obtain ⟨x, y, rfl, _⟩ := int2_of (by kernel_rfl) (by kernel_rfl) h2
  obtain ⟨e, T9, L, hof, I, T⟩ := of_ok kk
  have O := I.ok
  have hl := lives09_ok
  obtain ⟨b, hb, _⟩ := nlight_ok hv 200 (by omega) (by omega)
  have hIs := nis9_ok T O hv
  have hsame := nsame_ok hv
  obtain ⟨a, d, k, c, s, t, is, ks⟩ := v
  have hE := E_law09_NodeRaises Rt (is.length + 1) true kk a d k c s t (is.map ND.enc) (ks.map .str) x y
  rw [← ND.enc_mk] at hE
  refine rt_call A_law09_NodeRaises rfl rfl (is.length + 1) (hE.trans ?_)
  rw [hof, hb]
  cases b with
  | false => simp only [onR_some, onL_some, List.isEmpty_nil, allF_cons, allF_nil, Bool.and_true, Bool.true_and, when_true', List.getD_cons_zero, List.getD_cons_succ, isF_fz, toF_fz, isBool_bool, toBool_bool, isInt_int, toInt_int, isStr_str, toStr_str, isSl_sl, toSl_sl, List.length_cons, List.length_nil, List.all_cons, List.all_nil, lisFz_fz, ltoFz_fz, beq_self_eq_true, jump_true, ifB_true, ifB_false, isF_pv, isPv_pv, toV_pv, isNil_nilp, isNil_pt, isPt_pt, toAg_ag, cell_ag, isAg_ag, fits_ag, Int.toNat_natCast, Bool.not_true, Bool.not_false, fits_int, fits_bool, fits_str, fits_sl, hl]
  | true =>
    simp only [onR_some, onL_some, List.isEmpty_nil, allF_cons, allF_nil, Bool.and_true, Bool.true_and, when_true', List.getD_cons_zero, List.getD_cons_succ, isF_fz, toF_fz, isBool_bool, toBool_bool, isInt_int, toInt_int, isStr_str, toStr_str, isSl_sl, toSl_sl, List.length_cons, List.length_nil, List.all_cons, List.all_nil, lisFz_fz, ltoFz_fz, beq_self_eq_true, jump_true, ifB_true, ifB_false, isF_pv, isPv_pv, toV_pv, isNil_nilp, isNil_pt, isPt_pt, toAg_ag, cell_ag, isAg_ag, fits_ag, Int.toNat_natCast, Bool.not_true, Bool.not_false, fits_int, fits_bool, fits_str, fits_sl, hIs]
    cases hq : (labB L (ND.mk a d k c s t is ks) && (rightB L (ND.mk a d k c s t is ks) && shapeB (strip (ND.mk a d k c s t is ks)))) with
    | false => simp only [onR_some, onL_some, List.isEmpty_nil, allF_cons, allF_nil, Bool.and_true, Bool.true_and, when_true', List.getD_cons_zero, List.getD_cons_succ, isF_fz, toF_fz, isBool_bool, toBool_bool, isInt_int, toInt_int, isStr_str, toStr_str, isSl_sl, toSl_sl, List.length_cons, List.length_nil, List.all_cons, List.all_nil, lisFz_fz, ltoFz_fz, beq_self_eq_true, jump_true, ifB_true, ifB_false, isF_pv, isPv_pv, toV_pv, isNil_nilp, isNil_pt, isPt_pt, toAg_ag, cell_ag, isAg_ag, fits_ag, Int.toNat_natCast, Bool.not_true, Bool.not_false, fits_int, fits_bool, fits_str, fits_sl, hl]
    | true =>
      simp only [Bool.and_eq_true] at hq
      obtain ⟨la, de, rfl, rfl, hla, hde, hld⟩ := may_labels O hq.1 hq.2.1
      obtain ⟨p, hp, ep⟩ := lev_of x O.n1 O.n8
      obtain ⟨q, hqn, eq⟩ := lev_of y O.n1 O.n8
      have hi : is.length ≤ 134217728 ∧ ∀ v ∈ is, v.Sm := by cases hv with | mk hi _ _ _ h => exact ⟨hi, h⟩
      have r1 := raise_ok I la de k c s t is ks p
      have j1 : L.joinI la p = L.join la p := Lt.joinI_nat hla hp
      have j2 : L.joinI de p = L.join de p := Lt.joinI_nat hde hp
      rw [j1, j2] at r1
      have lp := O.join la p hla hp
      have dp := O.join de p hde hp
      have r2 := raise_ok I (L.join la p) (L.join de p) k c s t is ks q
      rw [Lt.joinI_nat lp hqn, Lt.joinI_nat dp hqn] at r2
      have pq := lat_Join I p q
      rw [Lt.joinI_nat hp hqn] at pq
      have hpq := O.join p q hp hqn
      have r3 := raise_ok I la de k c s t is ks (L.join p q)
      rw [Lt.joinI_nat hla hpq, Lt.joinI_nat hde hpq, O.join_assoc hla hp hqn, O.join_assoc hde hp hqn] at r3
      have r4 := raise_ok I la de k c s t is ks L.bot
      have b1 : L.join la L.bot = la := O.join_eq hla O.bot hla (O.refl _ hla) (O.botle _ hla) fun d hd x _ => x
      have b2 : L.join de L.bot = de := O.join_eq hde O.bot hde (O.refl _ hde) (O.botle _ hde) fun d hd x _ => x
      rw [Lt.joinI_nat hla O.bot, Lt.joinI_nat hde O.bot, b1, b2] at r4
      have hbot := lat_Bottom I
      have s1 := hsame (ND.mk la de k c s t is ks)
      rw [sameND_self] at s1
      have hlj := O.join _ _ lp hqn
      have hdj := O.join _ _ dp hqn
      have s2 := nsame_ok (u := ND.mk (L.join (L.join la p) q : Nat) (L.join (L.join de p) q : Nat) k c s t is ks) (by cases hv with | mk hi hk ht hs h => exact .mk hi hk ht hs h) (ND.mk (L.join (L.join la p) q : Nat) (L.join (L.join de p) q : Nat) k c s t is ks)
      rw [sameND_self] at s2
      have g1 : L.leq p (L.join (L.join la p) q) = true := O.trans _ _ _ hp lp hlj (O.joinr la p hla hp) (O.joinl _ q lp hqn)
      have m1 : L.leq (L.join la p) (L.join de p) = true := O.joinm la p _ hla hp dp (O.trans _ _ _ hla hde dp hld (O.joinl de p hde hp)) (O.joinr de p hde hp)
      have g2 : L.leq (L.join (L.join la p) q) (L.join (L.join de p) q) = true := O.joinm _ q _ lp hqn hdj (O.trans _ _ _ lp dp hdj m1 (O.joinl _ q dp hqn)) (O.joinr _ q dp hqn)
      have fin := raises1 I hp hlj hdj g1 g2 la de k c s k c s t t is ks ks hi.1 hi.2 (K := is.length + 1) is.length 0 (is.length + 1) (by omega) (by omega)
      simp only [Int.natCast_zero] at fin
      have hz : (!decide ((L.n : Int) = 0)) = true := by have := O.n1; simp; omega
      have hag : FV.isAg 8 (ND.mk (L.join (L.join la p) q : Nat) (L.join (L.join de p) q : Nat) k c s t is ks).enc = true := (ND.mk _ _ _ _ _ _ _ _).enc_fits
      have hc6 : FV.cell (ND.mk (L.join (L.join la p) q : Nat) (L.join (L.join de p) q : Nat) k c s t is ks).enc 6 = .sl (is.map ND.enc) := by rw [ND.enc_mk]; rfl
      have J2 : J_law09_NodeRaises_2_0 Rt (is.length + 1) true (.pt 195 true e 0) p la de k c s t (is.map ND.enc) (ks.map .str) (ND.mk (L.join (L.join la p) q : Nat) (L.join (L.join de p) q : Nat) k c s t is ks).enc = some ([.fz (.bool true)], []) := by
        rw [J_law09_NodeRaises_2_0_eq]; exact fin
      simp only [onR_some, onL_some, List.isEmpty_nil, allF_cons, allF_nil, Bool.and_true, Bool.true_and, when_true', List.getD_cons_zero, List.getD_cons_succ, isF_fz, toF_fz, isBool_bool, toBool_bool, isInt_int, toInt_int, isStr_str, toStr_str, isSl_sl, toSl_sl, List.length_cons, List.length_nil, List.all_cons, List.all_nil, lisFz_fz, ltoFz_fz, beq_self_eq_true, jump_true, ifB_true, ifB_false, isF_pv, isPv_pv, toV_pv, isNil_nilp, isNil_pt, isPt_pt, toAg_ag, cell_ag, isAg_ag, fits_ag, Int.toNat_natCast, Bool.not_true, Bool.not_false, fits_int, fits_bool, fits_str, fits_sl, Bool.true_or]
      rw [J_law09_NodeRaises_3_0_eq]
      simp only [← ND.enc_mk, T.len, hz, ep, eq, r1, r2, pq, r3, hbot, r4, s1, s2, onR_some, onL_some, List.isEmpty_nil, allF_cons, allF_nil, Bool.and_true, Bool.true_and, when_true', List.getD_cons_zero, List.getD_cons_succ, isF_fz, toF_fz, isBool_bool, toBool_bool, isInt_int, toInt_int, isStr_str, toStr_str, isSl_sl, toSl_sl, List.length_cons, List.length_nil, List.all_cons, List.all_nil, lisFz_fz, ltoFz_fz, beq_self_eq_true, jump_true, ifB_true, ifB_false, isF_pv, isPv_pv, toV_pv, isNil_nilp, isNil_pt, isPt_pt, toAg_ag, cell_ag, isAg_ag, fits_ag, Int.toNat_natCast, Bool.not_true, Bool.not_false, fits_int, fits_bool, fits_str, fits_sl, hag, hc6, bne_self_eq_false, J2, ND.enc_fits]
end Go.Ab
