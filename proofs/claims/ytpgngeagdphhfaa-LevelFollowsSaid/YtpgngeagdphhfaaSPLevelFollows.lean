/- LevelFollows: the plain law. -/
import Derived.Test.YtpgngeagdphhfaaSPLevelMakes
namespace Go.Ab
open Go.Proofs
set_option linter.unusedVariables false
set_option linter.unusedSimpArgs false

theorem fol1 {e : FV} {L : Lt} (I : IsLat e L) {a K : Nat} (ha : a < L.n) : ∀ (m b N : Nat), b + m = L.n → m < N →
    L_law01_LevelFollows_1_0 Rt K true N (.pt 195 true e 0) (.pt 195 true e 0) a b = some (.exit 2, X_law01_LevelFollows_1_1 (.pt 195 true e 0) (.pt 195 true e 0) a)
  | m, b, 0, _, h => by omega
  | 0, b, N + 1, h, _ => by
    rw [L_law01_LevelFollows_1_0_eq]
    have hlt : decide ((b : Int) < (L.n : Int)) = false := by simp; omega
    simp only [lat_Size I, onR_some, onL_some, List.isEmpty_nil, allF_cons, allF_nil, Bool.and_true, Bool.true_and, when_true', List.getD_cons_zero, List.getD_cons_succ, isF_fz, toF_fz, isBool_bool, toBool_bool, isInt_int, toInt_int, isStr_str, toStr_str, isSl_sl, toSl_sl, List.length_cons, List.length_nil, List.all_cons, List.all_nil, lisFz_fz, ltoFz_fz, beq_self_eq_true, jump_true, ifB_true, ifB_false, isF_pv, isPv_pv, toV_pv, isNil_nilp, isNil_pt, isPt_pt, toAg_ag, cell_ag, isAg_ag, fits_ag, Int.toNat_natCast, Bool.not_true, Bool.not_false, fits_int, fits_bool, fits_str, fits_sl, hlt]
  | m + 1, b, N + 1, h, hN => by
    have h8 := I.ok.n8
    have ih := fol1 I (K := K) ha m (b + 1) N (by omega) (by omega)
    have hlt : decide ((b : Int) < (L.n : Int)) = true := by simp; omega
    have w := wrn (show b < 1152921504606846976 by omega)
    have q : (L.leqI a b == L.leqI a b) = true := by simp
    rw [L_law01_LevelFollows_1_0_eq]
    simp only [lat_Size I, lat_Leq I, lat_Join I, lat_Meet I, onR_some, onL_some, List.isEmpty_nil, allF_cons, allF_nil, Bool.and_true, Bool.true_and, when_true', List.getD_cons_zero, List.getD_cons_succ, isF_fz, toF_fz, isBool_bool, toBool_bool, isInt_int, toInt_int, isStr_str, toStr_str, isSl_sl, toSl_sl, List.length_cons, List.length_nil, List.all_cons, List.all_nil, lisFz_fz, ltoFz_fz, beq_self_eq_true, jump_true, ifB_true, ifB_false, isF_pv, isPv_pv, toV_pv, isNil_nilp, isNil_pt, isPt_pt, toAg_ag, cell_ag, isAg_ag, fits_ag, Int.toNat_natCast, Bool.not_true, Bool.not_false, fits_int, fits_bool, fits_str, fits_sl, hlt, q, bne_self_eq_false, w, ih]
theorem fol2 {e : FV} {L : Lt} (I : IsLat e L) {K : Nat} (hK : 9 < K) : ∀ (m a N : Nat), a + m = L.n → m < N →
    onL (L_law01_LevelFollows_2_0 Rt K true N (.pt 195 true e 0) (.pt 195 true e 0) a) (K_law01_LevelFollows_2 Rt K true) = some ([.fz (.bool true)], [])
  | m, b, 0, _, h => by omega
  | 0, a, N + 1, h, _ => by
    have hl := lives01_ok
    rw [L_law01_LevelFollows_2_0_eq]
    have hlt : decide ((a : Int) < (L.n : Int)) = false := by simp; omega
    simp only [lat_Size I, onR_some, onL_some, List.isEmpty_nil, allF_cons, allF_nil, Bool.and_true, Bool.true_and, when_true', List.getD_cons_zero, List.getD_cons_succ, isF_fz, toF_fz, isBool_bool, toBool_bool, isInt_int, toInt_int, isStr_str, toStr_str, isSl_sl, toSl_sl, List.length_cons, List.length_nil, List.all_cons, List.all_nil, lisFz_fz, ltoFz_fz, beq_self_eq_true, jump_true, ifB_true, ifB_false, isF_pv, isPv_pv, toV_pv, isNil_nilp, isNil_pt, isPt_pt, toAg_ag, cell_ag, isAg_ag, fits_ag, Int.toNat_natCast, Bool.not_true, Bool.not_false, fits_int, fits_bool, fits_str, fits_sl, hlt, X_law01_LevelFollows_2_0_eq, hl]
  | m + 1, a, N + 1, h, hN => by
    have h8 := I.ok.n8
    have ha : a < L.n := by omega
    have ih := fol2 I (K := K) hK m (a + 1) N (by omega) (by omega)
    have hlt : decide ((a : Int) < (L.n : Int)) = true := by simp; omega
    have w := wrn (show a < 1152921504606846976 by omega)
    have f1 := fol1 I (K := K) ha L.n 0 K (by omega) (by omega)
    simp only [Int.natCast_zero] at f1
    rw [L_law01_LevelFollows_2_0_eq]
    simp only [lat_Size I, onR_some, onL_some, List.isEmpty_nil, allF_cons, allF_nil, Bool.and_true, Bool.true_and, when_true', List.getD_cons_zero, List.getD_cons_succ, isF_fz, toF_fz, isBool_bool, toBool_bool, isInt_int, toInt_int, isStr_str, toStr_str, isSl_sl, toSl_sl, List.length_cons, List.length_nil, List.all_cons, List.all_nil, lisFz_fz, ltoFz_fz, beq_self_eq_true, jump_true, ifB_true, ifB_false, isF_pv, isPv_pv, toV_pv, isNil_nilp, isNil_pt, isPt_pt, toAg_ag, cell_ag, isAg_ag, fits_ag, Int.toNat_natCast, Bool.not_true, Bool.not_false, fits_int, fits_bool, fits_str, fits_sl, hlt, f1, X_law01_LevelFollows_1_1_eq, w, ih]
theorem pure_LevelFollows (f0 f1 : FV) (h0 : WV Try.prog 40 140737488351232 26 f0) (h1 : WV Try.prog 40 140737488351232 46 f1) : Rt N_law01_LevelFollows [.fz f0, .fz f1] = some ([.fz (.bool true)], []) := by
  obtain ⟨names, pairs, pp, rfl, _⟩ := pol_of (tn := 9) (tp := 46) (tpp := 84) (by kernel_rfl) (by kernel_rfl) (by kernel_rfl) (by kernel_rfl) (by kernel_rfl) (by kernel_rfl) h0
  obtain ⟨x, y, rfl, _⟩ := int2_of (by kernel_rfl) (by kernel_rfl) h1
  obtain ⟨g, hg, hn⟩ := New_two names pairs pp
  obtain ⟨g2, hg2, hn2⟩ := New_two names (pairs ++ [(x, y)]) pp
  obtain ⟨bl, hb⟩ := light_ok names pairs pp
  have hl := lives01_ok
  refine rt_call A_law01_LevelFollows rfl rfl 12 ((E_law01_LevelFollows Rt 12 true _ _ _ _ _).trans ?_)
  have hp2 : prs (pairs ++ [(x, y)]) = prs pairs ++ [.ag [.int .i64 x, .int .i64 y]] := by simp [prs]
  unfold polE at hn hb hn2
  rw [hp2] at hn2
  rcases hn with ⟨h0, N, hn⟩ | ⟨h0, hn⟩
  · cases bl with
    | false => simp only [hn, hb, onR_some, onL_some, List.isEmpty_nil, allF_cons, allF_nil, Bool.and_true, Bool.true_and, when_true', List.getD_cons_zero, List.getD_cons_succ, isF_fz, toF_fz, isBool_bool, toBool_bool, isInt_int, toInt_int, isStr_str, toStr_str, isSl_sl, toSl_sl, List.length_cons, List.length_nil, List.all_cons, List.all_nil, lisFz_fz, ltoFz_fz, beq_self_eq_true, jump_true, ifB_true, ifB_false, isF_pv, isPv_pv, toV_pv, isNil_nilp, isNil_pt, isPt_pt, toAg_ag, cell_ag, isAg_ag, fits_ag, Int.toNat_natCast, Bool.not_true, Bool.not_false, fits_int, fits_bool, fits_str, fits_sl, hl]
    | true =>
      have hd : decide (((prs pairs).length : Int) ≥ 64) = decide (64 ≤ pairs.length) := by rw [prs_len, decide_eq_decide]; omega
      simp only [hn, hb, onR_some, onL_some, List.isEmpty_nil, allF_cons, allF_nil, Bool.and_true, Bool.true_and, when_true', List.getD_cons_zero, List.getD_cons_succ, isF_fz, toF_fz, isBool_bool, toBool_bool, isInt_int, toInt_int, isStr_str, toStr_str, isSl_sl, toSl_sl, List.length_cons, List.length_nil, List.all_cons, List.all_nil, lisFz_fz, ltoFz_fz, beq_self_eq_true, jump_true, ifB_true, ifB_false, isF_pv, isPv_pv, toV_pv, isNil_nilp, isNil_pt, isPt_pt, toAg_ag, cell_ag, isAg_ag, fits_ag, Int.toNat_natCast, Bool.not_true, Bool.not_false, fits_int, fits_bool, fits_str, fits_sl, bne_self_eq_false, hd]
      by_cases q : 64 ≤ pairs.length
      · simp only [decide_eq_true q, onR_some, onL_some, List.isEmpty_nil, allF_cons, allF_nil, Bool.and_true, Bool.true_and, when_true', List.getD_cons_zero, List.getD_cons_succ, isF_fz, toF_fz, isBool_bool, toBool_bool, isInt_int, toInt_int, isStr_str, toStr_str, isSl_sl, toSl_sl, List.length_cons, List.length_nil, List.all_cons, List.all_nil, lisFz_fz, ltoFz_fz, beq_self_eq_true, jump_true, ifB_true, ifB_false, isF_pv, isPv_pv, toV_pv, isNil_nilp, isNil_pt, isPt_pt, toAg_ag, cell_ag, isAg_ag, fits_ag, Int.toNat_natCast, Bool.not_true, Bool.not_false, fits_int, fits_bool, fits_str, fits_sl, hl]
      · have I := latR_is N
        have lq := lat_Leq I x y
        simp only [decide_eq_false q, ifB_false, lq, onR_some, onL_some, List.isEmpty_nil, allF_cons, allF_nil, Bool.and_true, Bool.true_and, when_true', List.getD_cons_zero, List.getD_cons_succ, isF_fz, toF_fz, isBool_bool, toBool_bool, isInt_int, toInt_int, isStr_str, toStr_str, isSl_sl, toSl_sl, List.length_cons, List.length_nil, List.all_cons, List.all_nil, lisFz_fz, ltoFz_fz, beq_self_eq_true, jump_true, ifB_true, ifB_false, isF_pv, isPv_pv, toV_pv, isNil_nilp, isNil_pt, isPt_pt, toAg_ag, cell_ag, isAg_ag, fits_ag, Int.toNat_natCast, Bool.not_true, Bool.not_false, fits_int, fits_bool, fits_str, fits_sl]
        cases hxy : (ltR names.length g).leqI x y with
        | false => simp only [onR_some, onL_some, List.isEmpty_nil, allF_cons, allF_nil, Bool.and_true, Bool.true_and, when_true', List.getD_cons_zero, List.getD_cons_succ, isF_fz, toF_fz, isBool_bool, toBool_bool, isInt_int, toInt_int, isStr_str, toStr_str, isSl_sl, toSl_sl, List.length_cons, List.length_nil, List.all_cons, List.all_nil, lisFz_fz, ltoFz_fz, beq_self_eq_true, jump_true, ifB_true, ifB_false, isF_pv, isPv_pv, toV_pv, isNil_nilp, isNil_pt, isPt_pt, toAg_ag, cell_ag, isAg_ag, fits_ag, Int.toNat_natCast, Bool.not_true, Bool.not_false, fits_int, fits_bool, fits_str, fits_sl, hl]
        | true =>
          have hnm : namedB names = true := by
            unfold newC at h0
            cases q : namedB names with
            | true => rfl
            | false => rw [q] at h0; cases h0
          have hin : 0 ≤ x ∧ x < names.length ∧ 0 ≤ y ∧ y < names.length ∧ g x.toNat y.toNat = true := by
            simp only [Lt.leqI, Bool.and_eq_true] at hxy
            have h1 := Lt.is_iff.1 hxy.1
            have h2 := Lt.is_iff.1 hxy.2.1
            exact ⟨h1.1, h1.2, h2.1, h2.2, hxy.2.2⟩
          have hc := hg hnm
          have hc2 : Clo names.length (layP (diag names.length) (pairs ++ [(x, y)])) g := by
            refine ⟨fun a b h => ?_, hc.tr, fun h hle ht => hc.least h (fun a b hab => hle a b ?_) ht⟩
            · rcases layP_iff.1 h with h | ⟨p, hp, h1, h2⟩
              · exact hc.le a b (layP_iff.2 (.inl h))
              · rcases List.mem_append.1 hp with hp | hp
                · exact hc.le a b (layP_iff.2 (.inr ⟨p, hp, h1, h2⟩))
                · have : p = (x, y) := by simpa using hp
                  subst this
                  rw [← h1, ← h2]; exact hin.2.2.2.2
            · rcases layP_iff.1 hab with h1 | ⟨p, hp, h1, h2⟩
              · exact layP_iff.2 (.inl h1)
              · exact layP_iff.2 (.inr ⟨p, List.mem_append.2 (.inl hp), h1, h2⟩)
          have eg : g2 = g := by funext a b; exact (hg2 hnm).uniq hc2 a b
          subst eg
          have hcode : newC names (pairs ++ [(x, y)]) g2 = 0 := by
            unfold newC at h0 ⊢
            rw [hnm] at h0 ⊢
            have hlb : laidB names.length pairs = true := by
              cases q : laidB names.length pairs with
              | true => rfl
              | false => rw [q] at h0; cases h0
            have hlb2 : laidB names.length (pairs ++ [(x, y)]) = true := by
              simp only [laidB, Bool.and_eq_true, decide_eq_true_eq] at hlb ⊢
              refine ⟨by simp; omega, ?_⟩
              rw [List.all_append, hlb.2]
              simp only [List.all_cons, List.all_nil, Bool.and_true, Bool.true_and]
              exact inP_iff.2 ⟨hin.1, hin.2.1, hin.2.2.1, hin.2.2.2.1⟩
            rw [hlb] at h0
            rw [hlb2]
            exact h0
          rcases hn2 with ⟨_, _, hn2⟩ | ⟨h, _⟩
          · have t2 := fol2 I (K := 12) (by omega) (ltR names.length g2).n 0 12 (by omega) (by have := N.n8; show names.length < 12; omega)
            simp only [Int.natCast_zero] at t2
            have hall : (prs pairs).all (FV.fits 2 true) = true := by simp [prs]
            have hr1 : (decide (((0 : Nat) + (prs pairs).length) * 16 ≤ roomy) && decide ((0 : Nat) + (prs pairs).length ≤ roomy)) = true := by
              have : roomy = 140737488355328 := rfl
              rw [prs_len, Bool.and_eq_true, decide_eq_true_eq, decide_eq_true_eq]; omega
            have hr2 : (decide (((prs pairs).length + [FV.ag [.int .i64 x, .int .i64 y]].length) * 16 ≤ roomy) && decide ((prs pairs).length + [FV.ag [.int .i64 x, .int .i64 y]].length ≤ roomy)) = true := by
              have : roomy = 140737488355328 := rfl
              rw [prs_len, Bool.and_eq_true, decide_eq_true_eq, decide_eq_true_eq]; simp; omega
            have hr3 : (decide (((0 : Nat) + [FV.ag [.int .i64 x, .int .i64 y]].length) * 16 ≤ roomy) && decide ((0 : Nat) + [FV.ag [.int .i64 x, .int .i64 y]].length ≤ roomy)) = true := by rfl
            rw [J_law01_LevelFollows_4_0_eq, hall, hr1, when_true', when_true']
            cases pairs with
            | nil =>
              have he : (prs ([] : List (Int × Int))).isEmpty = true := rfl
              have hp0 : prs ([] : List (Int × Int)) ++ [FV.ag [.int .i64 x, .int .i64 y]] = [FV.ag [.int .i64 x, .int .i64 y]] := rfl
              rw [hp0] at hn2
              rw [he, ifB_true, hr3, when_true']
              simp only [hn2, onR_some, onL_some, List.isEmpty_nil, allF_cons, allF_nil, Bool.and_true, Bool.true_and, when_true', List.getD_cons_zero, List.getD_cons_succ, isF_fz, toF_fz, isBool_bool, toBool_bool, isInt_int, toInt_int, isStr_str, toStr_str, isSl_sl, toSl_sl, List.length_cons, List.length_nil, List.all_cons, List.all_nil, lisFz_fz, ltoFz_fz, beq_self_eq_true, jump_true, ifB_true, ifB_false, isF_pv, isPv_pv, toV_pv, isNil_nilp, isNil_pt, isPt_pt, toAg_ag, cell_ag, isAg_ag, fits_ag, Int.toNat_natCast, Bool.not_true, Bool.not_false, fits_int, fits_bool, fits_str, fits_sl, bne_self_eq_false, lat_Bottom I, lat_Top I, J_law01_LevelFollows_3_0_eq, t2]
            | cons p ps =>
              have he : (prs (p :: ps)).isEmpty = false := rfl
              rw [he, ifB_false, hr2, when_true']
              simp only [hn2, onR_some, onL_some, List.isEmpty_nil, allF_cons, allF_nil, Bool.and_true, Bool.true_and, when_true', List.getD_cons_zero, List.getD_cons_succ, isF_fz, toF_fz, isBool_bool, toBool_bool, isInt_int, toInt_int, isStr_str, toStr_str, isSl_sl, toSl_sl, List.length_cons, List.length_nil, List.all_cons, List.all_nil, lisFz_fz, ltoFz_fz, beq_self_eq_true, jump_true, ifB_true, ifB_false, isF_pv, isPv_pv, toV_pv, isNil_nilp, isNil_pt, isPt_pt, toAg_ag, cell_ag, isAg_ag, fits_ag, Int.toNat_natCast, Bool.not_true, Bool.not_false, fits_int, fits_bool, fits_str, fits_sl, bne_self_eq_false, lat_Bottom I, lat_Top I, J_law01_LevelFollows_3_0_eq, t2]
          · exact absurd hcode h
  · have hb0 : (newC names pairs g != 0) = true := by simpa using h0
    cases bl with
    | false => simp only [hn, hb, onR_some, onL_some, List.isEmpty_nil, allF_cons, allF_nil, Bool.and_true, Bool.true_and, when_true', List.getD_cons_zero, List.getD_cons_succ, isF_fz, toF_fz, isBool_bool, toBool_bool, isInt_int, toInt_int, isStr_str, toStr_str, isSl_sl, toSl_sl, List.length_cons, List.length_nil, List.all_cons, List.all_nil, lisFz_fz, ltoFz_fz, beq_self_eq_true, jump_true, ifB_true, ifB_false, isF_pv, isPv_pv, toV_pv, isNil_nilp, isNil_pt, isPt_pt, toAg_ag, cell_ag, isAg_ag, fits_ag, Int.toNat_natCast, Bool.not_true, Bool.not_false, fits_int, fits_bool, fits_str, fits_sl, hl]
    | true => simp only [hn, hb, onR_some, onL_some, List.isEmpty_nil, allF_cons, allF_nil, Bool.and_true, Bool.true_and, when_true', List.getD_cons_zero, List.getD_cons_succ, isF_fz, toF_fz, isBool_bool, toBool_bool, isInt_int, toInt_int, isStr_str, toStr_str, isSl_sl, toSl_sl, List.length_cons, List.length_nil, List.all_cons, List.all_nil, lisFz_fz, ltoFz_fz, beq_self_eq_true, jump_true, ifB_true, ifB_false, isF_pv, isPv_pv, toV_pv, isNil_nilp, isNil_pt, isPt_pt, toAg_ag, cell_ag, isAg_ag, fits_ag, Int.toNat_natCast, Bool.not_true, Bool.not_false, fits_int, fits_bool, fits_str, fits_sl, hb0, hl]
end Go.Ab
