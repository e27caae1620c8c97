/- UtfTexts: the plain law. -/
import Derived.Test.YtjmpjkalmhoomaaSQuoT
import Derived.Test.YtjmpjkalmhoomaaSReadB
namespace Go.Ab
open Go.Proofs
set_option linter.unusedVariables false
set_option linter.unusedSimpArgs false
set_option linter.unusedSectionVars false
section
variable (l : List Int) (hl : l.length ≤ 1099511627776) (hf : ∀ c ∈ l, 0 ≤ c ∧ c ≤ 1114111 ∧ ¬ (55296 ≤ c ∧ c < 57344)) (s : ByteArray) (b : Int) (d : Bool)
def bytesOf (l : List Int) : List UInt8 := toB (l.flatMap putB)
theorem bytesOf_take {i : Nat} (hi : i < l.length) : bytesOf (l.take (i + 1)) = bytesOf (l.take i) ++ toB (putB l[i]) := by
  unfold bytesOf
  rw [List.take_add_one, List.getElem?_eq_getElem hi, List.flatMap_append]
  simp [toB]
theorem bytesOf_len (m : List Int) : (bytesOf m).length ≤ 4 * m.length := by
  unfold bytesOf
  rw [toB_len]
  induction m with
  | nil => simp
  | cons c m ih =>
    have := putB_len c
    have h4 : (putB c).length ≤ 4 := by rw [this]; repeat' split
                                        all_goals omega
    simp only [List.flatMap_cons, List.length_append, List.length_cons]; omega
include hl hf
theorem texts_loop1 (K : Nat) : ∀ (e i n : Nat), i + e = l.length → e < n →
    L_law03_UtfTexts_1_1 Rt K true n s b (.sl (l.map (.int .i64))) d (i : Int) (cells (bytesOf (l.take i))) = some (.exit 0, X_law03_UtfTexts_1_1 s b (.sl (l.map (.int .i64))) d (cells (bytesOf (l.take (max i b.toNat))))) := by
  intro e
  induction e with
  | zero =>
    intro i n h1 h2
    obtain ⟨n, rfl⟩ : ∃ q, n = q + 1 := ⟨n - 1, by omega⟩
    rw [L_law03_UtfTexts_1_1_eq, isSl_sl, when_true', toSl_sl, List.length_map, decide_eq_false (by omega), ifB_false, List.take_of_length_le (by omega), List.take_of_length_le (by omega)]
  | succ e ih =>
    intro i n h1 h2
    obtain ⟨n, rfl⟩ : ∃ q, n = q + 1 := ⟨n - 1, by omega⟩
    have hi : i < l.length := by omega
    rw [L_law03_UtfTexts_1_1_eq, isSl_sl, when_true', toSl_sl, List.length_map, decide_eq_true (by omega), ifB_true]
    by_cases g : (i : Int) < b
    · obtain ⟨f0, f1, f2⟩ := hf _ (List.getElem_mem hi)
      have hw : IntKind.wrap .i64 ((i : Int) + 1) = ((i + 1 : Nat) : Int) := by rw [wrap64 (by omega) (by omega)]; simp
      have hq : (toB (putB l[i])).length ≤ 4 := by rw [toB_len, putB_len]; repeat' split
                                                   all_goals omega
      have hq2 := bytesOf_len (l.take i)
      rw [List.length_take] at hq2
      rw [decide_eq_true g, ifB_true, jump_true, J_law03_UtfTexts_1_1_eq]
      simp only [isSl_sl, toSl_sl, decide_eq_true (show (i : Int) < (l.length : Int) by omega), List.length_map, decide_eq_true (show (0 : Int) ≤ (i : Int) by omega), Bool.and_true, when_true', Int.toNat_natCast, getD_intQ l hi, fits_int, isInt_int, toInt_int, beq_self_eq_true, lift (put3_ok f0 f1), put_cells f0 f1, onR_some, List.isEmpty_nil, allF_cons, allF_nil, List.getD_cons_zero, isF_fz, toF_fz, cells_fits, cells_len, hw]
      rw [room_ok (by omega), when_true', ← cells_app, ← bytesOf_take l hi, ih (i + 1) n (by omega) (by omega), show max (i + 1) b.toNat = max i b.toNat by omega]
    · rw [decide_eq_false g, ifB_false, show max i b.toNat = i by omega]
theorem texts_loop (K : Nat) (n : Nat) (hn : l.length + 1 < n) : onL (L_law03_UtfTexts_1_0 Rt K true n s b (.sl (l.map (.int .i64))) d 0) (K_law03_UtfTexts_1 Rt K true) = K_law03_UtfTexts_1 Rt K true (.exit 0) (X_law03_UtfTexts_1_1 s b (.sl (l.map (.int .i64))) d (cells (bytesOf (l.take b.toNat)))) := by
  obtain ⟨n, rfl⟩ : ∃ q, n = q + 1 := ⟨n - 1, by omega⟩
  have same : bytesOf (l.take b.toNat) = [] → K_law03_UtfTexts_1 Rt K true (.exit 0) (X_law03_UtfTexts_1_0 s b (.sl (l.map (.int .i64))) d) = K_law03_UtfTexts_1 Rt K true (.exit 0) (X_law03_UtfTexts_1_1 s b (.sl (l.map (.int .i64))) d (cells (bytesOf (l.take b.toNat)))) := by
    intro e
    rw [e, X_law03_UtfTexts_1_0_eq, X_law03_UtfTexts_1_1_eq]
    rfl
  rw [L_law03_UtfTexts_1_0_eq, isSl_sl, when_true', toSl_sl, List.length_map]
  by_cases g0 : l.length = 0
  · rw [decide_eq_false (by omega), ifB_false, onL_some]
    exact same (by rw [List.eq_nil_of_length_eq_zero g0]; simp [bytesOf, toB])
  · have hi : 0 < l.length := by omega
    rw [decide_eq_true (by omega), ifB_true]
    by_cases g : (0 : Int) < b
    · obtain ⟨f0, f1, f2⟩ := hf _ (List.getElem_mem hi)
      have hw : IntKind.wrap .i64 ((0 : Int) + 1) = ((1 : Nat) : Int) := rfl
      have hq : (toB (putB l[0])).length ≤ 4 := by rw [toB_len, putB_len]; repeat' split
                                                   all_goals omega
      have hq1 : 1 ≤ (toB (putB l[0])).length := by rw [toB_len, putB_len]; repeat' split
                                                    all_goals omega
      have h1 := texts_loop1 l hl hf s b d K (l.length - 1) 1 n (by omega) (by omega)
      have e1 : bytesOf (l.take 1) = toB (putB l[0]) := by rw [bytesOf_take l hi]; simp [bytesOf, toB]
      rw [e1] at h1
      rw [decide_eq_true g, ifB_true, jump_true, J_law03_UtfTexts_1_0_eq]
      have gd : List.getD (l.map (FV.int .i64)) 0 FV.nilp = .int .i64 l[0] := getD_intQ l hi
      have t0 : Int.toNat 0 = 0 := rfl
      simp only [isSl_sl, toSl_sl, decide_eq_true (show (0 : Int) < (l.length : Int) by omega), List.length_map, decide_eq_true (show (0 : Int) ≤ 0 by omega), Bool.and_true, when_true', t0, gd, fits_int, isInt_int, toInt_int, beq_self_eq_true, lift (put3_ok f0 f1), put_cells f0 f1, onR_some, List.isEmpty_nil, allF_cons, allF_nil, List.getD_cons_zero, isF_fz, toF_fz, cells_fits, cells_len, hw]
      have hne : (cells (toB (putB l[0]))).isEmpty = false := by
        rw [List.isEmpty_eq_false_iff]
        intro e
        have := congrArg List.length e
        rw [cells_len] at this
        simp at this
        rw [this] at hq1; simp at hq1
      rw [room_ok (by omega), when_true', hne, ifB_false, h1, onL_some, show max 1 b.toNat = b.toNat by omega]
    · rw [decide_eq_false g, ifB_false, onL_some]
      exact same (by rw [show b.toNat = 0 by omega]; rfl)
end
theorem pure_UtfTexts (f0 f1 : FV) (h0 : WV Try.prog 40 reachBytes 9 f0) (h1 : WV Try.prog 40 reachBytes 3 f1) : Rt N_law03_UtfTexts [.fz f0, .fz f1] = some ([.fz (.bool true)], []) := by
  obtain ⟨s, rfl, hb⟩ := str_of (by kernel_rfl) (by kernel_rfl) h0
  obtain ⟨b, rfl, hn⟩ := int_of (k := .i64) (by kernel_rfl) (by kernel_rfl) h1
  have hl := lives3_ok
  refine rt_call A_law03_UtfTexts rfl rfl 3000 ?_
  rw [E_law03_UtfTexts]
  by_cases g : s.size ≤ 2000
  · rw [decide_eq_false (by omega), ifB_false]
    have hsg := signs_ok s (by omega)
    have hva := lift (valid_ok s (by omega))
    have hns := lift (nsigns_ok (s := s) (by omega))
    have hfi := lift (first_ok (s := s) (by omega) b)
    cases hv : signsL s.data.toList with
    | none =>
      rw [hv] at hsg
      have hsg' := lift hsg
      rw [hv] at hva hns hfi
      have h := texts_loop [] (by simp) (fun c h => by cases h) s b false 3000 3000 (by simp)
      rw [List.map_nil] at h
      simp only [onR_some, onL_some, List.isEmpty_nil, allF_cons, allF_nil, Bool.and_true, Bool.true_and, when_true', List.getD_cons_zero, List.getD_cons_succ, isF_fz, toF_fz, isBool_bool, toBool_bool, isInt_int, toInt_int, isStr_str, toStr_str, isSl_sl, toSl_sl, List.length_cons, List.length_nil, List.all_cons, List.all_nil, lisFz_fz, ltoFz_fz, beq_self_eq_true, jump_true, ifB_true, ifB_false, isF_pv, isPv_pv, toV_pv, isNil_nilp, isNil_pt, isPt_pt, toAg_ag, cell_ag, isAg_ag, fits_ag, Int.toNat_natCast, Bool.not_true, Bool.not_false, fits_int, fits_bool, fits_str, fits_sl, hsg', h, X_law03_UtfTexts_1_1_eq, hva, hns, hfi, hl, Option.isSome_none, cells_all, cells_back, bytes_beq]
      have e : bytesOf (([] : List Int).take b.toNat) = [] := by simp [bytesOf, toB]
      rw [e]
      simp
    | some cs =>
      rw [hv] at hsg
      have hsg' := lift hsg
      rw [hv] at hva hns hfi
      have hS := sgAt_start hv
      have hle := hS.len (Nat.zero_le _)
      have h := texts_loop cs (by omega) hS.fine s b true 3000 3000 (by omega)
      simp only [onR_some, onL_some, List.isEmpty_nil, allF_cons, allF_nil, Bool.and_true, Bool.true_and, when_true', List.getD_cons_zero, List.getD_cons_succ, isF_fz, toF_fz, isBool_bool, toBool_bool, isInt_int, toInt_int, isStr_str, toStr_str, isSl_sl, toSl_sl, List.length_cons, List.length_nil, List.all_cons, List.all_nil, lisFz_fz, ltoFz_fz, beq_self_eq_true, jump_true, ifB_true, ifB_false, isF_pv, isPv_pv, toV_pv, isNil_nilp, isNil_pt, isPt_pt, toAg_ag, cell_ag, isAg_ag, fits_ag, Int.toNat_natCast, Bool.not_true, Bool.not_false, fits_int, fits_bool, fits_str, fits_sl, hsg', h, X_law03_UtfTexts_1_1_eq, hva, hns, hfi, hl, Option.isSome_some, cells_all, cells_back, bytes_beq, List.length_map, bytesOf, decide_true]
  · rw [decide_eq_true (by omega), ifB_true, hl]
    rfl
end Go.Ab
