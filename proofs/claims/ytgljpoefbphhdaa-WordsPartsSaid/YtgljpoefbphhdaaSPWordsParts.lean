/- WordsParts: the plain law. -/
import Derived.Test.YtgljpoefbphhdaaSWords1
import Derived.Test.YtgljpoefbphhdaaSReadB
namespace Go.Ab
open Go.Proofs
set_option linter.unusedVariables false
set_option linter.unusedSimpArgs false
set_option linter.unusedSectionVars false
theorem split_app (c : UInt8) : ∀ (x y : List UInt8), Lib.indexByte x c = -1 → splitL c (x ++ c :: y) = x :: splitL c y
  | [], y, _ => by
    simp only [List.nil_append]
    conv => lhs; unfold splitL
    rw [if_pos rfl]
  | b :: r, y, h => by
    unfold Lib.indexByte at h
    by_cases g : b = c
    · rw [if_pos (by simp [g])] at h; simp at h
    · rw [if_neg (by simp [g])] at h
      by_cases g2 : Lib.indexByte r c = -1
      · simp only [List.cons_append]
        conv => lhs; unfold splitL
        rw [if_neg g, split_app c r y g2]
      · rw [if_neg (by simp [g2])] at h
        have := Lib.indexByte_ge r c
        omega
theorem split_join (c : UInt8) : ∀ (x : List UInt8) (r : List (List UInt8)), Lib.indexByte x c = -1 → (∀ y ∈ r, Lib.indexByte y c = -1) → splitL c (Lib.join (x :: r) [c]) = x :: r
  | x, [], h, _ => by rw [Lib.join_one, split_none h]
  | x, y :: r, h, hr => by
    have e : Lib.join (x :: y :: r) [c] = x ++ c :: Lib.join (y :: r) [c] := by
      rw [Lib.join_cons, Lib.join_cons]
      simp [Lib.joinTail]
    rw [e, split_app c x _ h, split_join c y r (hr y (List.mem_cons_self ..)) (fun z hz => hr z (List.mem_cons_of_mem _ hz))]
theorem strc (c : Int) : (⟨(List.map (fun e => UInt8.ofNat (FV.toInt e).toNat) [FV.int .u8 c]).toArray⟩ : ByteArray) = BB [UInt8.ofNat c.toNat] := rfl
section
variable (l : List ByteArray) (c : Int) (hl : l.length ≤ 50)
include hl
theorem parts_loop (K : Nat) : ∀ (d i m : Nat), i + d = l.length → d < m → (∀ (j : Nat) (h : j < l.length), j < i → l[j].size ≤ 200 ∧ Lib.indexByte (LB l[j]) (UInt8.ofNat c.toNat) = -1) →
    L_law08_WordsParts_1_0 Rt K true m (l.map .str) c (i : Int) = some (.exit 0, X_law08_WordsParts_1_1 (l.map .str) c) ∧ (∀ x ∈ l, x.size ≤ 200 ∧ Lib.indexByte (LB x) (UInt8.ofNat c.toNat) = -1) ∨ L_law08_WordsParts_1_0 Rt K true m (l.map .str) c (i : Int) = some (.ret, X_law08_WordsParts_1_0 (l.map .str) c true) := by
  intro d
  induction d with
  | zero =>
    intro i m h1 h2 h3
    obtain ⟨m, rfl⟩ : ∃ q, m = q + 1 := ⟨m - 1, by omega⟩
    refine .inl ⟨?_, ?_⟩
    · rw [L_law08_WordsParts_1_0_eq, List.length_map, decide_eq_false (by omega), ifB_false]
    · intro x hx
      obtain ⟨j, hj, rfl⟩ := List.mem_iff_getElem.1 hx
      exact h3 j hj (by omega)
  | succ d ih =>
    intro i m h1 h2 h3
    obtain ⟨m, rfl⟩ : ∃ q, m = q + 1 := ⟨m - 1, by omega⟩
    have hi : i < l.length := by omega
    have hw : IntKind.wrap .i64 ((i : Int) + 1) = ((i + 1 : Nat) : Int) := by rw [wrap64 (by omega) (by omega)]; simp
    have hh := has_ok (LB l[i]) (UInt8.ofNat c.toNat)
    rw [BB_LB] at hh
    rw [L_law08_WordsParts_1_0_eq]
    simp only [decide_eq_true (show (i : Int) < (l.length : Int) by omega), ifB_true, List.length_map, decide_eq_true (show (0 : Int) ≤ (i : Int) by omega), Bool.and_true, when_true', Int.toNat_natCast, getD_strW l hi, fits_str, isStr_str, toStr_str, strc, List.all_cons, List.all_nil, isInt_int, beq_self_eq_true, hh, onR_some, List.isEmpty_nil, allF_cons, allF_nil, List.getD_cons_zero, isF_fz, toF_fz, isBool_bool, toBool_bool, hw]
    by_cases g : l[i].size ≤ 200
    · rw [decide_eq_false (show ¬ ((l[i].size : Int) > 200) by omega), ifB_false]
      by_cases g2 : Lib.indexByte (LB l[i]) (UInt8.ofNat c.toNat) = -1
      · rw [g2, decide_eq_false (by omega), ifB_false]
        exact ih (i + 1) m (by omega) (by omega) (fun j hj hji => by
          by_cases e : j = i
          · subst e; exact ⟨g, g2⟩
          · exact h3 j hj (by omega))
      · have := Lib.indexByte_ge (LB l[i]) (UInt8.ofNat c.toNat)
        rw [decide_eq_true (by omega), ifB_true, lives8_ok]
        exact .inr (by simp only [onR_some, onL_some, List.isEmpty_nil, allF_cons, allF_nil, Bool.and_true, Bool.true_and, when_true', List.getD_cons_zero, List.getD_cons_succ, isF_fz, toF_fz, isBool_bool, toBool_bool, isInt_int, toInt_int, isStr_str, toStr_str, isSl_sl, toSl_sl, List.length_cons, List.length_nil, List.all_cons, List.all_nil, lisFz_fz, ltoFz_fz, beq_self_eq_true, jump_true, ifB_true, ifB_false, isF_pv, isPv_pv, toV_pv, isNil_nilp, isNil_pt, isPt_pt, toAg_ag, cell_ag, isAg_ag, fits_ag, Int.toNat_natCast, Bool.not_true, Bool.not_false, fits_int, fits_bool, fits_str, fits_sl])
    · rw [decide_eq_true (show ((l[i].size : Int) > 200) by omega), ifB_true, lives8_ok]
      exact .inr (by simp only [onR_some, onL_some, List.isEmpty_nil, allF_cons, allF_nil, Bool.and_true, Bool.true_and, when_true', List.getD_cons_zero, List.getD_cons_succ, isF_fz, toF_fz, isBool_bool, toBool_bool, isInt_int, toInt_int, isStr_str, toStr_str, isSl_sl, toSl_sl, List.length_cons, List.length_nil, List.all_cons, List.all_nil, lisFz_fz, ltoFz_fz, beq_self_eq_true, jump_true, ifB_true, ifB_false, isF_pv, isPv_pv, toV_pv, isNil_nilp, isNil_pt, isPt_pt, toAg_ag, cell_ag, isAg_ag, fits_ag, Int.toNat_natCast, Bool.not_true, Bool.not_false, fits_int, fits_bool, fits_str, fits_sl])
theorem parts_same (K : Nat) : ∀ (d i m : Nat), i + d = l.length → d < m → L_law08_WordsParts_2_0 Rt K true m (l.map .str) (.sl (l.map .str)) (i : Int) = some (.exit 2, X_law08_WordsParts_2_1) := by
  intro d
  induction d with
  | zero =>
    intro i m h1 h2
    obtain ⟨m, rfl⟩ : ∃ q, m = q + 1 := ⟨m - 1, by omega⟩
    rw [L_law08_WordsParts_2_0_eq, List.length_map, decide_eq_false (by omega), ifB_false]
  | succ d ih =>
    intro i m h1 h2
    obtain ⟨m, rfl⟩ : ∃ q, m = q + 1 := ⟨m - 1, by omega⟩
    have hi : i < l.length := by omega
    have hw : IntKind.wrap .i64 ((i : Int) + 1) = ((i + 1 : Nat) : Int) := by rw [wrap64 (by omega) (by omega)]; simp
    rw [L_law08_WordsParts_2_0_eq]
    simp only [decide_eq_true (show (i : Int) < (l.length : Int) by omega), ifB_true, List.length_map, decide_eq_true (show (0 : Int) ≤ (i : Int) by omega), Bool.and_true, when_true', Int.toNat_natCast, getD_strW l hi, fits_str, isStr_str, toStr_str, isSl_sl, toSl_sl, bytes_beq, decide_true, Bool.not_true, ifB_false, hw]
    exact ih (i + 1) m (by omega) (by omega)
end
theorem jn_size (b : ByteArray) (hb : b.size ≤ 1) (l : List ByteArray) (hs : ∀ x ∈ l, x.size ≤ 200) : ∀ i, i ≤ l.length → (jn (l.take i) b).length ≤ i * 201 := by
  intro i
  induction i with
  | zero => intro _; simp [jn_nil]
  | succ i ih =>
    intro h
    have h1 := ih (by omega)
    have hx := hs _ (List.getElem_mem (show i < l.length by omega))
    have := congrArg List.length (jn_succ b l i (by omega))
    have hlb := LB_len b
    have hlx := LB_len l[i]
    rw [this]
    simp only [List.length_append]
    split <;> simp only [hlb, hlx, List.length_nil] <;> omega
theorem pure_WordsParts (f0 f1 : FV) (h0 : WV Try.prog 40 reachBytes 23 f0) (h1 : WV Try.prog 40 reachBytes 5 f1) : Rt N_law08_WordsParts [.fz f0, .fz f1] = some ([.fz (.bool true)], []) := by
  obtain ⟨l, rfl, hs, _⟩ := strs_of (t := 23) (ts := 9) (by kernel_rfl) (by kernel_rfl) (by kernel_rfl) (by kernel_rfl) h0
  obtain ⟨c, rfl, hc⟩ := int_of (k := .u8) (by kernel_rfl) (by kernel_rfl) h1
  have hl8 := lives8_ok
  refine rt_call A_law08_WordsParts rfl rfl 6000 ?_
  rw [E_law08_WordsParts, List.length_map]
  by_cases g0 : l.length ≤ 50
  · rw [decide_eq_false (by omega), ifB_false]
    by_cases g1 : l.length = 0
    · rw [g1]
      simp only [onR_some, onL_some, List.isEmpty_nil, allF_cons, allF_nil, Bool.and_true, Bool.true_and, when_true', List.getD_cons_zero, List.getD_cons_succ, isF_fz, toF_fz, isBool_bool, toBool_bool, isInt_int, toInt_int, isStr_str, toStr_str, isSl_sl, toSl_sl, List.length_cons, List.length_nil, List.all_cons, List.all_nil, lisFz_fz, ltoFz_fz, beq_self_eq_true, jump_true, ifB_true, ifB_false, isF_pv, isPv_pv, toV_pv, isNil_nilp, isNil_pt, isPt_pt, toAg_ag, cell_ag, isAg_ag, fits_ag, Int.toNat_natCast, Bool.not_true, Bool.not_false, fits_int, fits_bool, fits_str, fits_sl, hl8]
      rfl
    · have e1 : (((l.length : Nat) : Int) == 0) = false := by rw [beq_eq_false_iff_ne]; omega
      rw [e1, ifB_false, jump_true, J_law08_WordsParts_4_0_eq]
      rcases parts_loop l c g0 6000 l.length 0 6000 (by omega) (by omega) (fun j _ h => by omega) with ⟨hw, hx⟩ | hw
      · rw [Int.natCast_zero] at hw
        have hone : (BB [UInt8.ofNat c.toNat]).size = 1 := rfl
        have hj := wjoin_ok l (BB [UInt8.ofNat c.toNat]) (by omega) (by rw [hone]; omega) (fun x h => by have := (hx x h).1; omega)
        rw [hw, onL_some, X_law08_WordsParts_1_1_eq]
        simp only [strc, hj, onR_some, onL_some, List.isEmpty_nil, allF_cons, allF_nil, Bool.and_true, Bool.true_and, when_true', List.getD_cons_zero, List.getD_cons_succ, isF_fz, toF_fz, isBool_bool, toBool_bool, isInt_int, toInt_int, isStr_str, toStr_str, isSl_sl, toSl_sl, List.length_cons, List.length_nil, List.all_cons, List.all_nil, lisFz_fz, ltoFz_fz, beq_self_eq_true, jump_true, ifB_true, ifB_false, isF_pv, isPv_pv, toV_pv, isNil_nilp, isNil_pt, isPt_pt, toAg_ag, cell_ag, isAg_ag, fits_ag, Int.toNat_natCast, Bool.not_true, Bool.not_false, fits_int, fits_bool, fits_str, fits_sl]
        by_cases q : (jn l (BB [UInt8.ofNat c.toNat])).length ≤ 4096
        · have hsp := wsplit_ok (jn l (BB [UInt8.ofNat c.toNat])) (UInt8.ofNat c.toNat) (by omega)
          have hsl : splitL (UInt8.ofNat c.toNat) (jn l (BB [UInt8.ofNat c.toNat])) = l.map LB := by
            match l, g1 with
            | x :: r, _ =>
              unfold jn
              rw [List.map_cons]
              refine split_join _ _ _ (hx x (List.mem_cons_self ..)).2 fun y hy => ?_
              obtain ⟨z, hz, rfl⟩ := List.mem_map.1 hy
              exact (hx z (List.mem_cons_of_mem _ hz)).2
          have hmm : ((l.map LB).map fun x => FV.str (BB x)) = l.map .str := by
            rw [List.map_map]; exact List.map_congr_left fun x _ => by simp [BB_LB]
          rw [hsl, hmm, List.length_map, if_pos (by omega)] at hsp
          simp only [q, decide_true, if_true, Bool.not_true, ifB_false, hsp, onR_some, onL_some, List.isEmpty_nil, allF_cons, allF_nil, Bool.and_true, Bool.true_and, when_true', List.getD_cons_zero, List.getD_cons_succ, isF_fz, toF_fz, isBool_bool, toBool_bool, isInt_int, toInt_int, isStr_str, toStr_str, isSl_sl, toSl_sl, List.length_cons, List.length_nil, List.all_cons, List.all_nil, lisFz_fz, ltoFz_fz, beq_self_eq_true, jump_true, ifB_true, ifB_false, isF_pv, isPv_pv, toV_pv, isNil_nilp, isNil_pt, isPt_pt, toAg_ag, cell_ag, isAg_ag, fits_ag, Int.toNat_natCast, Bool.not_true, Bool.not_false, fits_int, fits_bool, fits_str, fits_sl, List.length_map]
          have e2 : (((l.length : Nat) : Int) != ((l.length : Nat) : Int)) = false := by simp
          have ps := parts_same l g0 6000 l.length 0 6000 (by omega) (by omega)
          rw [Int.natCast_zero] at ps
          rw [e2, ifB_false, J_law08_WordsParts_2_0_eq, ps, onL_some, X_law08_WordsParts_2_1_eq, hl8]
          rfl
        · simp only [q, decide_false, if_false, Bool.not_false, ifB_true, BB_nil, BB_beq, decide_true, hl8, onR_some, onL_some, List.isEmpty_nil, allF_cons, allF_nil, Bool.and_true, Bool.true_and, when_true', List.getD_cons_zero, List.getD_cons_succ, isF_fz, toF_fz, isBool_bool, toBool_bool, isInt_int, toInt_int, isStr_str, toStr_str, isSl_sl, toSl_sl, List.length_cons, List.length_nil, List.all_cons, List.all_nil, lisFz_fz, ltoFz_fz, beq_self_eq_true, jump_true, ifB_true, ifB_false, isF_pv, isPv_pv, toV_pv, isNil_nilp, isNil_pt, isPt_pt, toAg_ag, cell_ag, isAg_ag, fits_ag, Int.toNat_natCast, Bool.not_true, Bool.not_false, fits_int, fits_bool, fits_str, fits_sl]
      · rw [Int.natCast_zero] at hw
        rw [hw, onL_some, X_law08_WordsParts_1_0_eq]
  · rw [decide_eq_true (by omega), ifB_true, hl8]
    rfl
end Go.Ab
