/- slices.BinarySearch of texts. -/
import Derived.Test.YtdpfpdejipkffaaSOrd
namespace Go.Ab
set_option linter.unusedVariables false
set_option linter.unusedSimpArgs false
set_option linter.unusedSectionVars false
theorem nanS_ok (s : ByteArray) : Rt N_slices_isNaN_string_ [.fz (.str s)] = some ([.fz (.bool false)], []) := by
  refine rt_call A_slices_isNaN_string_ rfl rfl 0 ?_
  rw [E_slices_isNaN_string_]; simp
theorem nanC_ok (s : ByteArray) : Rt N_cmp_isNaN_string_ [.fz (.str s)] = some ([.fz (.bool false)], []) := by
  refine rt_call A_cmp_isNaN_string_ rfl rfl 0 ?_
  rw [E_cmp_isNaN_string_]; simp
theorem less_ok (s t : ByteArray) : Rt N_cmp_Less_string_ [.fz (.str s), .fz (.str t)] = some ([.fz (.bool (Op.bytesLess s.toList t.toList))], []) := by
  refine rt_call A_cmp_Less_string_ rfl rfl 0 ?_
  rw [E_cmp_Less_string_, nanC_ok]
  simp only [onR_some, onL_some, List.isEmpty_nil, allF_cons, allF_nil, Bool.and_true, Bool.true_and, when_true', List.getD_cons_zero, List.getD_cons_succ, isF_fz, toF_fz, isBool_bool, toBool_bool, isInt_int, toInt_int, isStr_str, toStr_str, isSl_sl, toSl_sl, List.length_cons, List.length_nil, List.all_cons, List.all_nil, lisFz_fz, ltoFz_fz, beq_self_eq_true, jump_true, ifB_true, ifB_false, isF_pv, isPv_pv, toV_pv, isNil_nilp, isNil_pt, isPt_pt, toAg_ag, cell_ag, isAg_ag, fits_ag, Int.toNat_natCast, Bool.not_true, Bool.not_false, fits_int, fits_bool, fits_str, fits_sl]
theorem getD_str' (ks : List ByteArray) {i : Nat} (h : i < ks.length) : (ks.map FV.str).getD i .nilp = .str ks[i] := by
  simp [List.getD, List.getElem?_eq_getElem h]
theorem search_ok {ks : List ByteArray} (hk : ks.length ≤ 1152921504606846976) (hp : ks.Pairwise BLt) (key : ByteArray) : Rt N_slices_BinarySearch___string_string_ [.fz (.sl (ks.map .str)), .fz (.str key)] = some ([.fz (.int .i64 (befo ks key)), .fz (.bool (decide (ks[befo ks key]? = some key)))], []) := by
  have hb := befo_le ks key
  have hK := befo_spec (key := key) hp
  generalize befo ks key = p at hb hK ⊢
  have loop : ∀ (m i j N : Nat), j - i ≤ m → m < N → i ≤ p → p ≤ j → j ≤ ks.length → L_slices_BinarySearch___string_string__1_0 Rt (ks.length + 1) true N (ks.map .str) key ks.length i j = some (.exit 0, X_slices_BinarySearch___string_string__1_0 (ks.map .str) key ks.length p) := by
    intro m
    induction m with
    | zero =>
      intro i j N hm hN hi hj hjn
      obtain ⟨N, rfl⟩ : ∃ M, N = M + 1 := ⟨N - 1, by omega⟩
      rw [L_slices_BinarySearch___string_string__1_0_eq, decide_eq_false (show ¬ ((i : Int) < (j : Int)) by omega), ifB_false, show i = p by omega]
    | succ m ih =>
      intro i j N hm hN hi hj hjn
      obtain ⟨N, rfl⟩ : ∃ M, N = M + 1 := ⟨N - 1, by omega⟩
      rw [L_slices_BinarySearch___string_string__1_0_eq]
      by_cases hij : i < j
      · have hh := half (i := i) (j := j) (by omega) (by omega)
        have h1 : i ≤ (i + j) / 2 := by omega
        have h2 : (i + j) / 2 < j := by omega
        generalize (i + j) / 2 = h at hh h1 h2
        have hlt : h < ks.length := by omega
        have hw : IntKind.wrap .i64 ((h : Int) + 1) = ((h + 1 : Nat) : Int) := by rw [wrap64 (by omega) (by omega)]; simp
        simp only [decide_eq_true (show (i : Int) < (j : Int) by omega), ifB_true, hh, List.length_map, decide_eq_true (show (0 : Int) ≤ (h : Int) by omega), decide_eq_true (show (h : Int) < (ks.length : Int) by omega), Bool.and_true, when_true', Int.toNat_natCast, getD_str' ks hlt, fits_str, isStr_str, toStr_str, less_ok, onR_some, List.isEmpty_nil, allF_cons, allF_nil, List.getD_cons_zero, toF_fz, isBool_bool, toBool_bool, hK h hlt, hw]
        by_cases hq : h < p
        · rw [decide_eq_true hq, ifB_true]
          exact ih (h + 1) j N (by omega) (by omega) (by omega) hj hjn
        · rw [decide_eq_false hq, ifB_false]
          exact ih i h N (by omega) (by omega) hi (by omega) (by omega)
      · rw [decide_eq_false (show ¬ ((i : Int) < (j : Int)) by omega), ifB_false, show i = p by omega]
  have l0 := loop ks.length 0 ks.length (ks.length + 1) (by omega) (by omega) (by omega) hb (by omega)
  simp only [Int.natCast_zero] at l0
  refine rt_call A_slices_BinarySearch___string_string_ rfl rfl (ks.length + 1) ?_
  rw [E_slices_BinarySearch___string_string_, List.length_map, l0, onL_some, X_slices_BinarySearch___string_string__1_0_eq]
  by_cases hpl : p < ks.length
  · simp only [decide_eq_true (show (p : Int) < (ks.length : Int) by omega), ifB_true, List.length_map, decide_eq_true (show (0 : Int) ≤ (p : Int) by omega), Bool.and_true, when_true', Int.toNat_natCast, getD_str' ks hpl, fits_str, isStr_str, toStr_str, eq_beqO, nanS_ok, onR_some, List.isEmpty_nil, allF_cons, allF_nil, List.getD_cons_zero, toF_fz, isBool_bool, toBool_bool, ifB_false]
    rw [List.getElem?_eq_getElem hpl]
    by_cases hq : ks[p] = key
    · simp [hq]
    · simp [hq]
  · rw [decide_eq_false (show ¬ ((p : Int) < (ks.length : Int)) by omega), ifB_false, List.getElem?_eq_none (by omega)]
    rfl
end Go.Ab
