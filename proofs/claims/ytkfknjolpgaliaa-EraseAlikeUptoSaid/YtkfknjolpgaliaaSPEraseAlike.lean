/- EraseAlike: the plain law. -/
import Derived.Test.YtkfknjolpgaliaaSErLaw
namespace Go.Ab
open Go.Proofs
set_option linter.unusedVariables false
set_option linter.unusedSimpArgs false
theorem alike1 {e : FV} {T9 : List FV} {L : Lt} (I : IsLat e L) (T : IsTab T9 L) {x d k c s : Int} {t : ByteArray} {is : List ND} {ks : List ByteArray} {m : ND} {a b : Nat} (ha : a < L.n) (hb : b < L.n) (hv : (ND.mk x d k c s t is ks).Sm) (hm : m.Sm) (hc : (ND.mk x d k c s t is ks).cnt ≤ 200) (l1 : labB L (ND.mk x d k c s t is ks) = true) (l2 : labB L m = true) {K : Nat} : ∀ (j i N : Nat), i + j = L.n → j < N →
    onL (L_law11_EraseAlike_1_0 Rt K true N (.pt 195 true e 0) (.sl T9) a b i x d k c s t (is.map ND.enc) (ks.map .str) (swp L a m L.bot (ND.mk x d k c s t is ks)).enc) (K_law11_EraseAlike_1 Rt K true) = some ([.fz (.bool true)], [])
  | j, i, 0, _, h => by omega
  | 0, i, N + 1, h, _ => by
    have O := I.ok
    have hl := lives11_ok
    have lq := lat_Leq I a b
    rw [Lt.leqI_nat ha hb] at lq
    have al := alike_ok I a hv hv
    rw [sameND_self] at al
    have s1 := seen_ok I a hv (by omega)
    have s2 := seen_ok I b hv (by omega)
    have a1 := at_ok I a hv
    have a2 := at_ok I b (und_sm (L := L) (a := a) hv L.bot)
    have n1 := nsame_ok (und_sm (L := L) (a := b) (und_sm (L := L) (a := a) hv L.bot) L.bot) (und L a L.bot (ND.mk x d k c s t is ks))
    have tp := lat_Top I
    rw [L_law11_EraseAlike_1_0_eq]
    simp only [onR_some, onL_some, List.isEmpty_nil, allF_cons, allF_nil, Bool.and_true, Bool.true_and, when_true', List.getD_cons_zero, List.getD_cons_succ, isF_fz, toF_fz, isBool_bool, toBool_bool, isInt_int, toInt_int, isStr_str, toStr_str, isSl_sl, toSl_sl, List.length_cons, List.length_nil, List.all_cons, List.all_nil, lisFz_fz, ltoFz_fz, beq_self_eq_true, jump_true, ifB_true, ifB_false, isF_pv, isPv_pv, toV_pv, isNil_nilp, isNil_pt, isPt_pt, toAg_ag, cell_ag, isAg_ag, fits_ag, Int.toNat_natCast, Bool.not_true, Bool.not_false, fits_int, fits_bool, fits_str, fits_sl, T.len, decide_eq_false (show ¬ ((i : Int) < (L.n : Int)) by omega), X_law11_EraseAlike_1_1_eq, lq]
    cases hab : L.leq a b with
    | false =>
      simp only [onR_some, onL_some, List.isEmpty_nil, allF_cons, allF_nil, Bool.and_true, Bool.true_and, when_true', List.getD_cons_zero, List.getD_cons_succ, isF_fz, toF_fz, isBool_bool, toBool_bool, isInt_int, toInt_int, isStr_str, toStr_str, isSl_sl, toSl_sl, List.length_cons, List.length_nil, List.all_cons, List.all_nil, lisFz_fz, ltoFz_fz, beq_self_eq_true, jump_true, ifB_true, ifB_false, isF_pv, isPv_pv, toV_pv, isNil_nilp, isNil_pt, isPt_pt, toAg_ag, cell_ag, isAg_ag, fits_ag, Int.toNat_natCast, Bool.not_true, Bool.not_false, fits_int, fits_bool, fits_str, fits_sl]
      rw [J_law11_EraseAlike_1_0_eq]
      simp only [← ND.enc_mk, onR_some, onL_some, List.isEmpty_nil, allF_cons, allF_nil, Bool.and_true, Bool.true_and, when_true', List.getD_cons_zero, List.getD_cons_succ, isF_fz, toF_fz, isBool_bool, toBool_bool, isInt_int, toInt_int, isStr_str, toStr_str, isSl_sl, toSl_sl, List.length_cons, List.length_nil, List.all_cons, List.all_nil, lisFz_fz, ltoFz_fz, beq_self_eq_true, jump_true, ifB_true, ifB_false, isF_pv, isPv_pv, toV_pv, isNil_nilp, isNil_pt, isPt_pt, toAg_ag, cell_ag, isAg_ag, fits_ag, Int.toNat_natCast, Bool.not_true, Bool.not_false, fits_int, fits_bool, fits_str, fits_sl, al, hl]
    | true =>
      have cm := cou_mono O ha hb hab (ND.mk x d k c s t is ks) L.bot
      have hgt : decide (((cou L a L.bot (ND.mk x d k c s t is ks) : Nat) : Int) > ((cou L b L.bot (ND.mk x d k c s t is ks) : Nat) : Int)) = false := by simp; omega
      simp only [onR_some, onL_some, List.isEmpty_nil, allF_cons, allF_nil, Bool.and_true, Bool.true_and, when_true', List.getD_cons_zero, List.getD_cons_succ, isF_fz, toF_fz, isBool_bool, toBool_bool, isInt_int, toInt_int, isStr_str, toStr_str, isSl_sl, toSl_sl, List.length_cons, List.length_nil, List.all_cons, List.all_nil, lisFz_fz, ltoFz_fz, beq_self_eq_true, jump_true, ifB_true, ifB_false, isF_pv, isPv_pv, toV_pv, isNil_nilp, isNil_pt, isPt_pt, toAg_ag, cell_ag, isAg_ag, fits_ag, Int.toNat_natCast, Bool.not_true, Bool.not_false, fits_int, fits_bool, fits_str, fits_sl, ← ND.enc_mk, a1, a2, n1]
      by_cases hbt : b = L.top
      · have hne : ((b : Int) != (L.top : Int)) = false := by simp [hbt]
        cases sameND (und L b L.bot (und L a L.bot (ND.mk x d k c s t is ks))) (und L a L.bot (ND.mk x d k c s t is ks)) with
        | false =>
          simp only [onR_some, onL_some, List.isEmpty_nil, allF_cons, allF_nil, Bool.and_true, Bool.true_and, when_true', List.getD_cons_zero, List.getD_cons_succ, isF_fz, toF_fz, isBool_bool, toBool_bool, isInt_int, toInt_int, isStr_str, toStr_str, isSl_sl, toSl_sl, List.length_cons, List.length_nil, List.all_cons, List.all_nil, lisFz_fz, ltoFz_fz, beq_self_eq_true, jump_true, ifB_true, ifB_false, isF_pv, isPv_pv, toV_pv, isNil_nilp, isNil_pt, isPt_pt, toAg_ag, cell_ag, isAg_ag, fits_ag, Int.toNat_natCast, Bool.not_true, Bool.not_false, fits_int, fits_bool, fits_str, fits_sl, tp, hne, s1, s2, hgt]
          rw [J_law11_EraseAlike_1_0_eq]
          simp only [← ND.enc_mk, onR_some, onL_some, List.isEmpty_nil, allF_cons, allF_nil, Bool.and_true, Bool.true_and, when_true', List.getD_cons_zero, List.getD_cons_succ, isF_fz, toF_fz, isBool_bool, toBool_bool, isInt_int, toInt_int, isStr_str, toStr_str, isSl_sl, toSl_sl, List.length_cons, List.length_nil, List.all_cons, List.all_nil, lisFz_fz, ltoFz_fz, beq_self_eq_true, jump_true, ifB_true, ifB_false, isF_pv, isPv_pv, toV_pv, isNil_nilp, isNil_pt, isPt_pt, toAg_ag, cell_ag, isAg_ag, fits_ag, Int.toNat_natCast, Bool.not_true, Bool.not_false, fits_int, fits_bool, fits_str, fits_sl, al, hl]
        | true =>
          simp only [onR_some, onL_some, List.isEmpty_nil, allF_cons, allF_nil, Bool.and_true, Bool.true_and, when_true', List.getD_cons_zero, List.getD_cons_succ, isF_fz, toF_fz, isBool_bool, toBool_bool, isInt_int, toInt_int, isStr_str, toStr_str, isSl_sl, toSl_sl, List.length_cons, List.length_nil, List.all_cons, List.all_nil, lisFz_fz, ltoFz_fz, beq_self_eq_true, jump_true, ifB_true, ifB_false, isF_pv, isPv_pv, toV_pv, isNil_nilp, isNil_pt, isPt_pt, toAg_ag, cell_ag, isAg_ag, fits_ag, Int.toNat_natCast, Bool.not_true, Bool.not_false, fits_int, fits_bool, fits_str, fits_sl, tp, hne, s1, s2, hgt]
          rw [J_law11_EraseAlike_1_0_eq]
          simp only [← ND.enc_mk, onR_some, onL_some, List.isEmpty_nil, allF_cons, allF_nil, Bool.and_true, Bool.true_and, when_true', List.getD_cons_zero, List.getD_cons_succ, isF_fz, toF_fz, isBool_bool, toBool_bool, isInt_int, toInt_int, isStr_str, toStr_str, isSl_sl, toSl_sl, List.length_cons, List.length_nil, List.all_cons, List.all_nil, lisFz_fz, ltoFz_fz, beq_self_eq_true, jump_true, ifB_true, ifB_false, isF_pv, isPv_pv, toV_pv, isNil_nilp, isNil_pt, isPt_pt, toAg_ag, cell_ag, isAg_ag, fits_ag, Int.toNat_natCast, Bool.not_true, Bool.not_false, fits_int, fits_bool, fits_str, fits_sl, al, hl]
      · rw [und_und O ha hb hab hbt hv L.bot L.bot O.bot O.bot (O.refl _ O.bot) l1, sameND_self]
        simp only [onR_some, onL_some, List.isEmpty_nil, allF_cons, allF_nil, Bool.and_true, Bool.true_and, when_true', List.getD_cons_zero, List.getD_cons_succ, isF_fz, toF_fz, isBool_bool, toBool_bool, isInt_int, toInt_int, isStr_str, toStr_str, isSl_sl, toSl_sl, List.length_cons, List.length_nil, List.all_cons, List.all_nil, lisFz_fz, ltoFz_fz, beq_self_eq_true, jump_true, ifB_true, ifB_false, isF_pv, isPv_pv, toV_pv, isNil_nilp, isNil_pt, isPt_pt, toAg_ag, cell_ag, isAg_ag, fits_ag, Int.toNat_natCast, Bool.not_true, Bool.not_false, fits_int, fits_bool, fits_str, fits_sl, s1, s2, hgt]
        rw [J_law11_EraseAlike_1_0_eq]
        simp only [← ND.enc_mk, onR_some, onL_some, List.isEmpty_nil, allF_cons, allF_nil, Bool.and_true, Bool.true_and, when_true', List.getD_cons_zero, List.getD_cons_succ, isF_fz, toF_fz, isBool_bool, toBool_bool, isInt_int, toInt_int, isStr_str, toStr_str, isSl_sl, toSl_sl, List.length_cons, List.length_nil, List.all_cons, List.all_nil, lisFz_fz, ltoFz_fz, beq_self_eq_true, jump_true, ifB_true, ifB_false, isF_pv, isPv_pv, toV_pv, isNil_nilp, isNil_pt, isPt_pt, toAg_ag, cell_ag, isAg_ag, fits_ag, Int.toNat_natCast, Bool.not_true, Bool.not_false, fits_int, fits_bool, fits_str, fits_sl, al, hl]
  | j + 1, i, N + 1, h, hN => by
    have O := I.ok
    have hlt : i < L.n := by omega
    have ih := alike1 I T ha hb hv hm hc l1 l2 (K := K) j (i + 1) N (by omega) (by omega)
    have lq := lat_Leq I i a
    rw [Lt.leqI_nat hlt ha] at lq
    have h8 := O.n8
    have ww := wrn (show i < 1152921504606846976 by omega)
    rw [L_law11_EraseAlike_1_0_eq]
    simp only [onR_some, onL_some, List.isEmpty_nil, allF_cons, allF_nil, Bool.and_true, Bool.true_and, when_true', List.getD_cons_zero, List.getD_cons_succ, isF_fz, toF_fz, isBool_bool, toBool_bool, isInt_int, toInt_int, isStr_str, toStr_str, isSl_sl, toSl_sl, List.length_cons, List.length_nil, List.all_cons, List.all_nil, lisFz_fz, ltoFz_fz, beq_self_eq_true, jump_true, ifB_true, ifB_false, isF_pv, isPv_pv, toV_pv, isNil_nilp, isNil_pt, isPt_pt, toAg_ag, cell_ag, isAg_ag, fits_ag, Int.toNat_natCast, Bool.not_true, Bool.not_false, fits_int, fits_bool, fits_str, fits_sl, T.len, decide_eq_true (show (i : Int) < (L.n : Int) by omega), lq]
    cases hia : L.leq i a with
    | false => simp only [onR_some, onL_some, List.isEmpty_nil, allF_cons, allF_nil, Bool.and_true, Bool.true_and, when_true', List.getD_cons_zero, List.getD_cons_succ, isF_fz, toF_fz, isBool_bool, toBool_bool, isInt_int, toInt_int, isStr_str, toStr_str, isSl_sl, toSl_sl, List.length_cons, List.length_nil, List.all_cons, List.all_nil, lisFz_fz, ltoFz_fz, beq_self_eq_true, jump_true, ifB_true, ifB_false, isF_pv, isPv_pv, toV_pv, isNil_nilp, isNil_pt, isPt_pt, toAg_ag, cell_ag, isAg_ag, fits_ag, Int.toNat_natCast, Bool.not_true, Bool.not_false, fits_int, fits_bool, fits_str, fits_sl, ww, ih]
    | true =>
      have al := alike_ok I i hv (swp_sm (L := L) (a := a) hm hv L.bot)
      rw [und_swp O ha hlt hia l2 hv l1 L.bot O.bot, sameND_self] at al
      simp only [← ND.enc_mk, onR_some, onL_some, List.isEmpty_nil, allF_cons, allF_nil, Bool.and_true, Bool.true_and, when_true', List.getD_cons_zero, List.getD_cons_succ, isF_fz, toF_fz, isBool_bool, toBool_bool, isInt_int, toInt_int, isStr_str, toStr_str, isSl_sl, toSl_sl, List.length_cons, List.length_nil, List.all_cons, List.all_nil, lisFz_fz, ltoFz_fz, beq_self_eq_true, jump_true, ifB_true, ifB_false, isF_pv, isPv_pv, toV_pv, isNil_nilp, isNil_pt, isPt_pt, toAg_ag, cell_ag, isAg_ag, fits_ag, Int.toNat_natCast, Bool.not_true, Bool.not_false, fits_int, fits_bool, fits_str, fits_sl, al, ww]
      exact ih
theorem pure_EraseAlike (f0 f1 f2 : FV) (h0 : WV Try.prog 40 134217728 3 f0) (h1 : WV Try.prog 40 134217728 44 f1) (h2 : WV Try.prog 40 134217728 54 f2) : Rt N_law11_EraseAlike [.fz f0, .fz f1, .fz f2] = some ([.fz (.bool true)], []) := by
  obtain ⟨kk, rfl, _⟩ := int_of (k := .i64) (by kernel_rfl) (by kernel_rfl) h0
  obtain ⟨y0, y1, rfl, _⟩ := int2_of (by kernel_rfl) (by kernel_rfl) h2
  obtain ⟨a, d, k, c, s, t, is, ks, a', d', k', c', s', t', is', ks', rfl, hv, hu⟩ := nd2_of (t := 27) (ts := 9) (Nat.le_refl _) (by kernel_rfl) (by kernel_rfl) (by kernel_rfl) (by kernel_rfl) (by kernel_rfl) (by kernel_rfl) (by kernel_rfl) (by kernel_rfl) h1
  obtain ⟨e, T9, L, hof, I, T⟩ := of_ok kk
  have O := I.ok
  have hl := lives11_ok
  obtain ⟨b, hb, hlt⟩ := light_ok T O hv hu
  have hE := E_law11_EraseAlike Rt 12 true kk a d k c s t (is.map ND.enc) (ks.map .str) a' d' k' c' s' t' (is'.map ND.enc) (ks'.map .str) y0 y1
  simp only [← ND.enc_mk] at hE
  refine rt_call A_law11_EraseAlike rfl rfl 12 (hE.trans ?_)
  simp only [hof, onR_some, onL_some, List.isEmpty_nil, allF_cons, allF_nil, Bool.and_true, Bool.true_and, when_true', List.getD_cons_zero, List.getD_cons_succ, isF_fz, toF_fz, isBool_bool, toBool_bool, isInt_int, toInt_int, isStr_str, toStr_str, isSl_sl, toSl_sl, List.length_cons, List.length_nil, List.all_cons, List.all_nil, lisFz_fz, ltoFz_fz, beq_self_eq_true, jump_true, ifB_true, ifB_false, isF_pv, isPv_pv, toV_pv, isNil_nilp, isNil_pt, isPt_pt, toAg_ag, cell_ag, isAg_ag, fits_ag, Int.toNat_natCast, Bool.not_true, Bool.not_false, fits_int, fits_bool, fits_str, fits_sl, hb]
  cases b with
  | false => simp only [onR_some, onL_some, List.isEmpty_nil, allF_cons, allF_nil, Bool.and_true, Bool.true_and, when_true', List.getD_cons_zero, List.getD_cons_succ, isF_fz, toF_fz, isBool_bool, toBool_bool, isInt_int, toInt_int, isStr_str, toStr_str, isSl_sl, toSl_sl, List.length_cons, List.length_nil, List.all_cons, List.all_nil, lisFz_fz, ltoFz_fz, beq_self_eq_true, jump_true, ifB_true, ifB_false, isF_pv, isPv_pv, toV_pv, isNil_nilp, isNil_pt, isPt_pt, toAg_ag, cell_ag, isAg_ag, fits_ag, Int.toNat_natCast, Bool.not_true, Bool.not_false, fits_int, fits_bool, fits_str, fits_sl, hl]
  | true =>
    obtain ⟨c1, c2, m1, m2⟩ := hlt rfl
    have l1 : labB L (ND.mk a d k c s t is ks) = true := by simp only [mayB, Bool.and_eq_true] at m1; exact m1.1
    have l2 : labB L (ND.mk a' d' k' c' s' t' is' ks') = true := by simp only [mayB, Bool.and_eq_true] at m2; exact m2.1
    obtain ⟨p, hp, ep⟩ := lev_of y0 O.n1 O.n8
    obtain ⟨q, hq, eq⟩ := lev_of y1 O.n1 O.n8
    have p1 := Swap_ok I p hu hv l1
    have h8 := O.n8
    have fin := alike1 I T hp hq hv hu c1 l1 l2 (K := 12) L.n 0 12 (by omega) (by omega)
    simp only [Int.natCast_zero] at fin
    have hz : (!decide ((L.n : Int) = 0)) = true := by have := O.n1; simp; omega
    simp only [onR_some, onL_some, List.isEmpty_nil, allF_cons, allF_nil, Bool.and_true, Bool.true_and, when_true', List.getD_cons_zero, List.getD_cons_succ, isF_fz, toF_fz, isBool_bool, toBool_bool, isInt_int, toInt_int, isStr_str, toStr_str, isSl_sl, toSl_sl, List.length_cons, List.length_nil, List.all_cons, List.all_nil, lisFz_fz, ltoFz_fz, beq_self_eq_true, jump_true, ifB_true, ifB_false, isF_pv, isPv_pv, toV_pv, isNil_nilp, isNil_pt, isPt_pt, toAg_ag, cell_ag, isAg_ag, fits_ag, Int.toNat_natCast, Bool.not_true, Bool.not_false, fits_int, fits_bool, fits_str, fits_sl, Bool.true_or]
    rw [J_law11_EraseAlike_3_0_eq]
    simp only [← ND.enc_mk, onR_some, onL_some, List.isEmpty_nil, allF_cons, allF_nil, Bool.and_true, Bool.true_and, when_true', List.getD_cons_zero, List.getD_cons_succ, isF_fz, toF_fz, isBool_bool, toBool_bool, isInt_int, toInt_int, isStr_str, toStr_str, isSl_sl, toSl_sl, List.length_cons, List.length_nil, List.all_cons, List.all_nil, lisFz_fz, ltoFz_fz, beq_self_eq_true, jump_true, ifB_true, ifB_false, isF_pv, isPv_pv, toV_pv, isNil_nilp, isNil_pt, isPt_pt, toAg_ag, cell_ag, isAg_ag, fits_ag, Int.toNat_natCast, Bool.not_true, Bool.not_false, fits_int, fits_bool, fits_str, fits_sl, T.len, hz, ep, eq, p1, ND.enc_fits]
    exact fin
end Go.Ab
