/- WordsBack: the plain law. -/
import Derived.Test.YtgljpoefbphhdaaDoorSTurn
import Derived.Test.YtgljpoefbphhdaaDoorSReadB
namespace Go.Ab
open Go.Proofs
set_option linter.unusedVariables false
set_option linter.unusedSimpArgs false
set_option linter.unusedSectionVars false
open Go.Lib (index occAt)
theorem join_two (x y : List UInt8) (r : List (List UInt8)) (sep : List UInt8) : Lib.join (x :: y :: r) sep = x ++ (sep ++ Lib.join (y :: r) sep) := by
  rw [Lib.join_cons, Lib.join_cons]
  simp [Lib.joinTail, List.append_assoc]
theorem occ_parts {l sub : List UInt8} {i : Nat} (h : occAt l sub i = true) : l.take i ++ (sub ++ l.drop (i + sub.length)) = l := by
  rw [occ_iff, decide_eq_true_eq] at h
  have h2 : sub ++ l.drop (i + sub.length) = l.drop i := by
    conv => lhs; lhs; rw [← h]
    rw [← List.drop_drop]
    exact List.take_append_drop _ _
  rw [h2, List.take_append_drop]
/-- What is split, joined again; how many parts there are; no part has it in it. -/
theorem split_facts {sub : List UInt8} (hne : sub ≠ []) : ∀ (n : Nat) (l : List UInt8), l.length ≤ n → Lib.join (splitA sub l) sub = l ∧ (splitA sub l).length ≤ l.length + 1 ∧ (∀ p ∈ splitA sub l, index p sub = -1) ∧ ∀ p ∈ splitA sub l, p.length ≤ l.length := by
  intro n
  induction n with
  | zero =>
    intro l hl
    have : l = [] := List.length_eq_zero_iff.1 (by omega)
    subst this
    have h : index ([] : List UInt8) sub = -1 := by
      rcases index_no [] sub with h | ⟨i, h⟩
      · exact h
      · have := occ_len (index_occ [] sub i h).1 hne
        have h2 := List.length_pos_iff.2 hne
        rw [List.length_nil] at this; omega
    rw [splitA_none h]
    exact ⟨Lib.join_one _ _, by simp, fun p hp => by rw [List.mem_singleton.1 hp]; exact h, fun p hp => by rw [List.mem_singleton.1 hp]; exact Nat.le_refl _⟩
  | succ n ih =>
    intro l hl
    rcases index_no l sub with h | ⟨i, h⟩
    · rw [splitA_none h]
      exact ⟨Lib.join_one _ _, by simp, fun p hp => by rw [List.mem_singleton.1 hp]; exact h, fun p hp => by rw [List.mem_singleton.1 hp]; exact Nat.le_refl _⟩
    · obtain ⟨o1, o2, o3⟩ := index_occ l sub i h
      have o4 := occ_len o1 hne
      have h2 := List.length_pos_iff.2 hne
      obtain ⟨e1, e2, e3, e4⟩ := ih (l.drop (i + sub.length)) (by rw [List.length_drop]; omega)
      rw [List.length_drop] at e2 e4
      rw [splitA_some hne h]
      refine ⟨?_, by rw [List.length_cons]; omega, fun p hp => ?_, fun p hp => ?_⟩
      · have hpos := splitA_pos sub (l.drop (i + sub.length))
        cases hq : splitA sub (l.drop (i + sub.length)) with
        | nil => rw [hq] at hpos; simp at hpos
        | cons y r => rw [join_two, ← hq, e1, occ_parts o1]
      · rcases List.mem_cons.1 hp with rfl | hp
        · rcases index_no (l.take i) sub with h3 | ⟨j, h3⟩
          · exact h3
          · exfalso
            have q1 := (index_occ _ sub j h3).1
            have q2 := occ_len q1 hne
            rw [List.length_take] at q2
            rw [occ_iff, decide_eq_true_eq, List.drop_take, List.take_take, show min sub.length (i - j) = sub.length by omega] at q1
            have := o2 j (by omega)
            rw [occ_iff, decide_eq_false_iff_not] at this
            exact this q1
        · exact e3 p hp
      · rcases List.mem_cons.1 hp with rfl | hp
        · rw [List.length_take]; omega
        · have := e4 p hp; omega
theorem up_low (c : UInt8) : upB (lowB c) = upB c := by
  have hc := u8_lt c
  have h1 := upB_nat (lowB c)
  have h2 := upB_nat c
  have h3 := lowB_nat c
  have : (upB (lowB c)).toNat = (upB c).toNat := by
    rw [h1, h2, h3]
    by_cases a : 65 ≤ c.toNat ∧ c.toNat ≤ 90
    · rw [if_pos a, if_pos (by omega), if_neg (by omega)]; omega
    · rw [if_neg a]
  exact UInt8.toNat_inj.1 this
theorem joinS_ok (ps : List (List UInt8)) (sub : List UInt8) (hl : ps.length ≤ 1099511627776) (hb : sub.length ≤ 1099511627776) (hs : ∀ p ∈ ps, p.length ≤ 1099511627776) : Rt N_words_Join [.fz (.sl (strs ps)), .fz (.str (BB sub))] = some ([.fz (.str (if (Lib.join ps sub).length ≤ 4096 then BB (Lib.join ps sub) else BB [])), .fz (.bool (decide ((Lib.join ps sub).length ≤ 4096)))], []) := by
  have h := wjoin_ok (ps.map BB) (BB sub) (by simpa using hl) hb (fun x hx => by obtain ⟨p, hp, rfl⟩ := List.mem_map.1 hx; exact hs p hp)
  have e1 : (ps.map BB).map FV.str = strs ps := by rw [List.map_map]; rfl
  have e2 : jn (ps.map BB) (BB sub) = Lib.join ps sub := by
    unfold jn
    rw [List.map_map]
    have : ps.map (LB ∘ BB) = ps := (List.map_congr_left fun x _ => rfl).trans (List.map_id ps)
    rw [this]; rfl
  rw [e1, e2] at h
  exact h
theorem back_loop (s sub : List UInt8) (hne : sub ≠ []) (ps : List (List UInt8)) (hps : ps.length ≤ 1000000) (hp : ∀ p ∈ ps, index p sub = -1 ∧ p.length < 4294967281) : ∀ (d i N : Nat), i + d = ps.length → d < N → L_law08_WordsBack_1_0 Rt 3010 true N (BB s) (BB sub) (.sl (strs ps)) i = some (.exit 0, X_law08_WordsBack_1_0 (BB s)) := by
  have e0 : ((BB sub).toList == (BB []).toList) = false := by rw [BB_beq]; exact decide_eq_false hne
  intro d
  induction d with
  | zero =>
    intro i N hi hN
    obtain ⟨N, rfl⟩ : ∃ M, N = M + 1 := ⟨N - 1, by omega⟩
    rw [L_law08_WordsBack_1_0_eq, BB_nil, e0]
    simp only [Bool.not_false, ifB_true, isSl_sl, toSl_sl, when_true', strs_len, decide_eq_false (show ¬ (i : Int) < (ps.length : Int) by omega), ifB_false]
  | succ d ih =>
    intro i N hi hN
    obtain ⟨N, rfl⟩ : ∃ M, N = M + 1 := ⟨N - 1, by omega⟩
    have hl : i < ps.length := by omega
    have hw1 : IntKind.wrap .i64 ((i : Int) + 1) = ((i + 1 : Nat) : Int) := by rw [wrap64 (by omega) (by omega)]; simp
    obtain ⟨p1, p2⟩ := hp ps[i] (List.getElem_mem hl)
    have h1 := hasG_ok ps[i] sub p2
    rw [p1, show decide ((0 : Int) ≤ -1) = false from rfl] at h1
    have h2 := ih (i + 1) N (by omega) (by omega)
    rw [L_law08_WordsBack_1_0_eq, BB_nil, e0]
    simp only [Bool.not_false, ifB_true, isSl_sl, toSl_sl, when_true', strs_len, decide_eq_true (show (i : Int) < (ps.length : Int) by omega), jump_true, J_law08_WordsBack_1_0_eq, decide_eq_true (show (0 : Int) ≤ (i : Int) by omega), Bool.and_true, Int.toNat_natCast, strs_getD hl, fits_str, isStr_str, toStr_str, h1, onR_some, List.isEmpty_nil, allF_cons, allF_nil, List.getD_cons_zero, toF_fz, isBool_bool, toBool_bool, ifB_false, hw1]
    exact h2
theorem back_tail (s : List UInt8) (hs : s.length ≤ 3000) : K_law08_WordsBack_1 Rt 3010 true (.exit 0) (X_law08_WordsBack_1_0 (BB s)) = some ([.fz (.bool true)], []) := by
  have hu := upper_ok (l := s) (by omega)
  have hlo := lower_ok (l := s) (by omega)
  have hul := upper_ok (l := s.map lowB) (by rw [List.length_map]; omega)
  have em : (s.map lowB).map upB = s.map upB := by rw [List.map_map]; exact List.map_congr_left fun c _ => up_low c
  rw [em] at hul
  have ht := trim_ok (l := s) (by omega)
  have htl : (trimB s).length ≤ s.length := by unfold trimB; have h1 := ls_len (rs s); have h2 := rs_len s; omega
  have ht2 := trim_ok (l := trimB s) (by omega)
  rw [trim_idem] at ht2
  have hl := lives8_ok
  rw [X_law08_WordsBack_1_0_eq, hlo]
  simp only [onR_some, onL_some, List.isEmpty_nil, allF_cons, allF_nil, Bool.and_true, Bool.true_and, when_true', List.getD_cons_zero, List.getD_cons_succ, isF_fz, toF_fz, isBool_bool, toBool_bool, isInt_int, toInt_int, isStr_str, toStr_str, isSl_sl, toSl_sl, List.length_cons, List.length_nil, List.all_cons, List.all_nil, lisFz_fz, ltoFz_fz, beq_self_eq_true, jump_true, ifB_true, ifB_false, isF_pv, isPv_pv, toV_pv, isNil_nilp, isNil_pt, isPt_pt, toAg_ag, cell_ag, isAg_ag, fits_ag, Int.toNat_natCast, Bool.not_true, Bool.not_false, fits_int, fits_bool, fits_str, fits_sl, hul, hu, BB_beq, decide_true, ht, ht2, hl]
theorem sign_len (c : Int) : (toB (putB c)).length ≤ 4 := by
  rw [toB_len, putB_len]
  split
  · omega
  · split
    · omega
    · split <;> omega
theorem pure_WordsBack (f0 f1 : FV) (h0 : WV Tryd.prog 40 reachBytes 9 f0) (h1 : WV Tryd.prog 40 reachBytes 9 f1) : Rt N_law08_WordsBack [.fz f0, .fz f1] = some ([.fz (.bool true)], []) := by
  obtain ⟨a, rfl, _⟩ := str_of (by kernel_rfl) (by kernel_rfl) h0
  obtain ⟨b, rfl, _⟩ := str_of (by kernel_rfl) (by kernel_rfl) h1
  obtain ⟨s, rfl⟩ : ∃ l, a = BB l := ⟨LB a, (BB_LB a).symm⟩
  obtain ⟨sub, rfl⟩ : ∃ l, b = BB l := ⟨LB b, (BB_LB b).symm⟩
  have hl := lives8_ok
  refine rt_call A_law08_WordsBack rfl rfl 3010 ?_
  rw [E_law08_WordsBack, BB_size, BB_size]
  by_cases g1 : s.length ≤ 3000
  · rw [decide_eq_false (show ¬ (s.length : Int) > 3000 by omega), ifB_false]
    by_cases g2 : sub.length ≤ 100
    · rw [decide_eq_false (show ¬ (sub.length : Int) > 100 by omega), ifB_false, jump_true, J_law08_WordsBack_4_0_eq, BB_nil, BB_beq]
      have tl := back_tail s g1
      by_cases hne : sub = []
      · subst hne
        have J3 : ∀ f : FV, J_law08_WordsBack_3_0 Rt 3010 true (BB s) (BB []) f = some ([.fz (.bool true)], []) := fun f => by
          rw [J_law08_WordsBack_3_0_eq, L_law08_WordsBack_1_0_eq, BB_nil, BB_beq, decide_eq_true rfl]
          simp only [Bool.not_true, ifB_false, onL_some, tl]
        have any : ∀ (ps : List (List UInt8)) (ok : Bool), Rt N_words_Split [.fz (.str (BB s)), .fz (.str (BB []))] = some ([.fz (.sl (strs ps)), .fz (.bool ok)], []) → ps.length ≤ 1099511627776 → (∀ p ∈ ps, p.length ≤ 1099511627776) → onR (Rt N_words_Split [.fz (.str (BB s)), .fz (.str (BB []))]) (fun r2 => when (List.isEmpty r2.2 && allF [.fz, .fz] r2.1) (when (FV.isBool (TV.toF (List.getD r2.1 1 TV.em))) (onR (Rt N_words_Join [.fz (TV.toF (List.getD r2.1 0 TV.em)), .fz (.str (BB []))]) fun r3 => when (List.isEmpty r3.2 && allF [.fz, .fz] r3.1) (when (FV.isStr (TV.toF (List.getD r3.1 0 TV.em))) (when (FV.isBool (TV.toF (List.getD r3.1 1 TV.em))) (jump true (J_law08_WordsBack_3_0 Rt 3010 true (BB s) (BB []) (TV.toF (List.getD r2.1 0 TV.em))))))))) = some ([.fz (.bool true)], []) := fun ps ok h hl hs => by
          have hj := joinS_ok ps [] hl (by simp) hs
          rw [h]
          simp only [onR_some, onL_some, List.isEmpty_nil, allF_cons, allF_nil, Bool.and_true, Bool.true_and, when_true', List.getD_cons_zero, List.getD_cons_succ, isF_fz, toF_fz, isBool_bool, toBool_bool, isInt_int, toInt_int, isStr_str, toStr_str, isSl_sl, toSl_sl, List.length_cons, List.length_nil, List.all_cons, List.all_nil, lisFz_fz, ltoFz_fz, beq_self_eq_true, jump_true, ifB_true, ifB_false, isF_pv, isPv_pv, toV_pv, isNil_nilp, isNil_pt, isPt_pt, toAg_ag, cell_ag, isAg_ag, fits_ag, Int.toNat_natCast, Bool.not_true, Bool.not_false, fits_int, fits_bool, fits_str, fits_sl, hj, J3]
        have e1 : (decide (([] : List UInt8) = [])) = true := rfl
        simp only [e1, Bool.not_true, ifB_false]
        have hsp := wsplit0_ok s (by omega)
        cases hq : signsL s with
        | none =>
          rw [hq] at hsp
          exact any [] true hsp (by simp) (fun p hp => by cases hp)
        | some cs =>
          rw [hq] at hsp
          have hcs := signs_len hq
          by_cases g : cs.length ≤ 4096
          · simp only [if_pos g] at hsp
            exact any (signStrs cs) true hsp (by simp [signStrs]; omega) (fun p hp => by obtain ⟨c, _, rfl⟩ := List.mem_map.1 hp; have := sign_len c; omega)
          · simp only [if_neg g] at hsp
            exact any [] false hsp (by simp) (fun p hp => by cases hp)
      · obtain ⟨e1, e2, e3, e4⟩ := split_facts hne s.length s (Nat.le_refl _)
        have hsp := wsplitG_ok s sub hne (by omega)
        rw [if_pos (by omega)] at hsp
        have hj := joinS_ok (splitA sub s) sub (by omega) (by omega) (fun p hp => by have := e4 p hp; omega)
        rw [e1, if_pos (by omega), decide_eq_true (show s.length ≤ 4096 by omega)] at hj
        have lo := back_loop s sub hne (splitA sub s) (by omega) (fun p hp => ⟨e3 p hp, by have := e4 p hp; omega⟩) (splitA sub s).length 0 3010 (by omega) (by omega)
        simp only [Int.natCast_zero] at lo
        rw [decide_eq_false hne, hsp]
        simp only [onR_some, onL_some, List.isEmpty_nil, allF_cons, allF_nil, Bool.and_true, Bool.true_and, when_true', List.getD_cons_zero, List.getD_cons_succ, isF_fz, toF_fz, isBool_bool, toBool_bool, isInt_int, toInt_int, isStr_str, toStr_str, isSl_sl, toSl_sl, List.length_cons, List.length_nil, List.all_cons, List.all_nil, lisFz_fz, ltoFz_fz, beq_self_eq_true, jump_true, ifB_true, ifB_false, isF_pv, isPv_pv, toV_pv, isNil_nilp, isNil_pt, isPt_pt, toAg_ag, cell_ag, isAg_ag, fits_ag, Int.toNat_natCast, Bool.not_true, Bool.not_false, fits_int, fits_bool, fits_str, fits_sl, hj, BB_beq, decide_true]
        rw [J_law08_WordsBack_3_0_eq, lo, onL_some, tl]
    · rw [decide_eq_true (show (sub.length : Int) > 100 by omega), ifB_true, hl]
      simp only [onR_some, onL_some, List.isEmpty_nil, allF_cons, allF_nil, Bool.and_true, Bool.true_and, when_true', List.getD_cons_zero, List.getD_cons_succ, isF_fz, toF_fz, isBool_bool, toBool_bool, isInt_int, toInt_int, isStr_str, toStr_str, isSl_sl, toSl_sl, List.length_cons, List.length_nil, List.all_cons, List.all_nil, lisFz_fz, ltoFz_fz, beq_self_eq_true, jump_true, ifB_true, ifB_false, isF_pv, isPv_pv, toV_pv, isNil_nilp, isNil_pt, isPt_pt, toAg_ag, cell_ag, isAg_ag, fits_ag, Int.toNat_natCast, Bool.not_true, Bool.not_false, fits_int, fits_bool, fits_str, fits_sl]
  · rw [decide_eq_true (show (s.length : Int) > 3000 by omega), ifB_true, hl]
    simp only [onR_some, onL_some, List.isEmpty_nil, allF_cons, allF_nil, Bool.and_true, Bool.true_and, when_true', List.getD_cons_zero, List.getD_cons_succ, isF_fz, toF_fz, isBool_bool, toBool_bool, isInt_int, toInt_int, isStr_str, toStr_str, isSl_sl, toSl_sl, List.length_cons, List.length_nil, List.all_cons, List.all_nil, lisFz_fz, ltoFz_fz, beq_self_eq_true, jump_true, ifB_true, ifB_false, isF_pv, isPv_pv, toV_pv, isNil_nilp, isNil_pt, isPt_pt, toAg_ag, cell_ag, isAg_ag, fits_ag, Int.toNat_natCast, Bool.not_true, Bool.not_false, fits_int, fits_bool, fits_str, fits_sl]
end Go.Ab
