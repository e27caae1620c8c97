/- LevelNames: the plain law. -/
import Derived.Test.YtpgngeagdphhfaaSPLevelMakes
namespace Go.Ab
open Go.Proofs
set_option linter.unusedVariables false
set_option linter.unusedSimpArgs false

theorem n_Size : Rt N_level_Lattice_Size [.fz .nilp] = some ([.fz (.int .i64 0)], []) := rt_call A_level_Lattice_Size rfl rfl 0 (E_level_Lattice_Size_v1 Rt 0 true)
theorem n_Top : Rt N_level_Lattice_Top [.fz .nilp] = some ([.fz (.int .i64 0)], []) := rt_call A_level_Lattice_Top rfl rfl 0 (E_level_Lattice_Top_v1 Rt 0 true)
theorem n_Bottom : Rt N_level_Lattice_Bottom [.fz .nilp] = some ([.fz (.int .i64 0)], []) := rt_call A_level_Lattice_Bottom rfl rfl 0 (E_level_Lattice_Bottom_v1 Rt 0 true)
theorem n_Is (a : Int) : Rt N_level_Lattice_Is [.fz .nilp, .fz (.int .i64 a)] = some ([.fz (.bool false)], []) := by
  refine rt_call A_level_Lattice_Is rfl rfl 0 ((E_level_Lattice_Is_v1 Rt 0 true _).trans ?_)
  by_cases h : a ≥ 0
  · have e1 : decide (a ≥ 0) = true := by simpa using h
    have e2 : decide (a < 0) = false := by simp; omega
    simp only [e1, e2, n_Size, onR_some, onL_some, List.isEmpty_nil, allF_cons, allF_nil, Bool.and_true, Bool.true_and, when_true', List.getD_cons_zero, List.getD_cons_succ, isF_fz, toF_fz, isBool_bool, toBool_bool, isInt_int, toInt_int, isStr_str, toStr_str, isSl_sl, toSl_sl, List.length_cons, List.length_nil, List.all_cons, List.all_nil, lisFz_fz, ltoFz_fz, beq_self_eq_true, jump_true, ifB_true, ifB_false, isF_pv, isPv_pv, toV_pv, isNil_nilp, isNil_pt, isPt_pt, toAg_ag, cell_ag, isAg_ag, fits_ag, Int.toNat_natCast, Bool.not_true, Bool.not_false, fits_int, fits_bool, fits_str, fits_sl]
  · have e1 : decide (a ≥ 0) = false := by simpa using h
    simp only [e1, onR_some, onL_some, List.isEmpty_nil, allF_cons, allF_nil, Bool.and_true, Bool.true_and, when_true', List.getD_cons_zero, List.getD_cons_succ, isF_fz, toF_fz, isBool_bool, toBool_bool, isInt_int, toInt_int, isStr_str, toStr_str, isSl_sl, toSl_sl, List.length_cons, List.length_nil, List.all_cons, List.all_nil, lisFz_fz, ltoFz_fz, beq_self_eq_true, jump_true, ifB_true, ifB_false, isF_pv, isPv_pv, toV_pv, isNil_nilp, isNil_pt, isPt_pt, toAg_ag, cell_ag, isAg_ag, fits_ag, Int.toNat_natCast, Bool.not_true, Bool.not_false, fits_int, fits_bool, fits_str, fits_sl]
theorem n_Leq (a b : Int) : Rt N_level_Lattice_Leq [.fz .nilp, .fz (.int .i64 a), .fz (.int .i64 b)] = some ([.fz (.bool false)], []) := by
  refine rt_call A_level_Lattice_Leq rfl rfl 0 ((E_level_Lattice_Leq_v1 Rt 0 true _ _).trans ?_)
  simp only [n_Is, onR_some, onL_some, List.isEmpty_nil, allF_cons, allF_nil, Bool.and_true, Bool.true_and, when_true', List.getD_cons_zero, List.getD_cons_succ, isF_fz, toF_fz, isBool_bool, toBool_bool, isInt_int, toInt_int, isStr_str, toStr_str, isSl_sl, toSl_sl, List.length_cons, List.length_nil, List.all_cons, List.all_nil, lisFz_fz, ltoFz_fz, beq_self_eq_true, jump_true, ifB_true, ifB_false, isF_pv, isPv_pv, toV_pv, isNil_nilp, isNil_pt, isPt_pt, toAg_ag, cell_ag, isAg_ag, fits_ag, Int.toNat_natCast, Bool.not_true, Bool.not_false, fits_int, fits_bool, fits_str, fits_sl]
theorem n_Join (a b : Int) : Rt N_level_Lattice_Join [.fz .nilp, .fz (.int .i64 a), .fz (.int .i64 b)] = some ([.fz (.int .i64 0)], []) := by
  refine rt_call A_level_Lattice_Join rfl rfl 0 ((E_level_Lattice_Join_v1 Rt 0 true _ _).trans ?_)
  simp only [n_Is, n_Top, onR_some, onL_some, List.isEmpty_nil, allF_cons, allF_nil, Bool.and_true, Bool.true_and, when_true', List.getD_cons_zero, List.getD_cons_succ, isF_fz, toF_fz, isBool_bool, toBool_bool, isInt_int, toInt_int, isStr_str, toStr_str, isSl_sl, toSl_sl, List.length_cons, List.length_nil, List.all_cons, List.all_nil, lisFz_fz, ltoFz_fz, beq_self_eq_true, jump_true, ifB_true, ifB_false, isF_pv, isPv_pv, toV_pv, isNil_nilp, isNil_pt, isPt_pt, toAg_ag, cell_ag, isAg_ag, fits_ag, Int.toNat_natCast, Bool.not_true, Bool.not_false, fits_int, fits_bool, fits_str, fits_sl]
theorem n_Meet (a b : Int) : Rt N_level_Lattice_Meet [.fz .nilp, .fz (.int .i64 a), .fz (.int .i64 b)] = some ([.fz (.int .i64 0)], []) := by
  refine rt_call A_level_Lattice_Meet rfl rfl 0 ((E_level_Lattice_Meet_v1 Rt 0 true _ _).trans ?_)
  simp only [n_Is, n_Bottom, onR_some, onL_some, List.isEmpty_nil, allF_cons, allF_nil, Bool.and_true, Bool.true_and, when_true', List.getD_cons_zero, List.getD_cons_succ, isF_fz, toF_fz, isBool_bool, toBool_bool, isInt_int, toInt_int, isStr_str, toStr_str, isSl_sl, toSl_sl, List.length_cons, List.length_nil, List.all_cons, List.all_nil, lisFz_fz, ltoFz_fz, beq_self_eq_true, jump_true, ifB_true, ifB_false, isF_pv, isPv_pv, toV_pv, isNil_nilp, isNil_pt, isPt_pt, toAg_ag, cell_ag, isAg_ag, fits_ag, Int.toNat_natCast, Bool.not_true, Bool.not_false, fits_int, fits_bool, fits_str, fits_sl]
theorem n_Text (a : Int) : Rt N_level_Lattice_Text [.fz .nilp, .fz (.int .i64 a)] = some ([.fz (.str ⟨#[]⟩)], []) := by
  refine rt_call A_level_Lattice_Text rfl rfl 0 ((E_level_Lattice_Text_v1 Rt 0 true _).trans ?_)
  simp only [n_Is, onR_some, onL_some, List.isEmpty_nil, allF_cons, allF_nil, Bool.and_true, Bool.true_and, when_true', List.getD_cons_zero, List.getD_cons_succ, isF_fz, toF_fz, isBool_bool, toBool_bool, isInt_int, toInt_int, isStr_str, toStr_str, isSl_sl, toSl_sl, List.length_cons, List.length_nil, List.all_cons, List.all_nil, lisFz_fz, ltoFz_fz, beq_self_eq_true, jump_true, ifB_true, ifB_false, isF_pv, isPv_pv, toV_pv, isNil_nilp, isNil_pt, isPt_pt, toAg_ag, cell_ag, isAg_ag, fits_ag, Int.toNat_natCast, Bool.not_true, Bool.not_false, fits_int, fits_bool, fits_str, fits_sl]
theorem n_Find (s : ByteArray) : Rt N_level_Lattice_Find [.fz .nilp, .fz (.str s)] = some ([.fz (.int .i64 0), .fz (.bool false)], []) := rt_call A_level_Lattice_Find rfl rfl 0 (E_level_Lattice_Find_v1 Rt 0 true _)

def fnd (l : List ByteArray) (s : ByteArray) : Nat → Nat → Option Nat
  | 0, _ => none
  | m + 1, i => if l.getD i ByteArray.empty = s then some i else fnd l s m (i + 1)
theorem fnd_spec (l : List ByteArray) (s : ByteArray) : ∀ (m i : Nat), (∃ k, fnd l s m i = some k ∧ i ≤ k ∧ k < i + m ∧ l.getD k ByteArray.empty = s) ∨ (fnd l s m i = none ∧ ∀ k, i ≤ k → k < i + m → l.getD k ByteArray.empty ≠ s)
  | 0, i => .inr ⟨rfl, fun k h1 h2 => by omega⟩
  | m + 1, i => by
    simp only [fnd]
    by_cases e : l.getD i ByteArray.empty = s
    · rw [if_pos e]; exact .inl ⟨i, rfl, by omega, by omega, e⟩
    · rw [if_neg e]
      rcases fnd_spec l s m (i + 1) with ⟨k, h1, h2, h3, h4⟩ | ⟨h1, h2⟩
      · exact .inl ⟨k, h1, by omega, by omega, h4⟩
      · refine .inr ⟨h1, fun k h3 h4 => ?_⟩
        by_cases e2 : i = k
        · subst e2; exact e
        · exact h2 k (by omega) (by omega)
def fK (o : Option Nat) : Int := match o with | some k => (k : Int) | none => 0
def fO (o : Option Nat) : Bool := match o with | some _ => true | none => false
theorem find1 {K : Nat} (l : List ByteArray) (s : ByteArray) (h8 : l.length ≤ 8) : ∀ (m i N : Nat), i + m = l.length → m < N →
    onL (L_level_Lattice_Find_1_0 Rt K true N s (.sl (strs l)) l.length i) (K_level_Lattice_Find_1 Rt K true) = some ([.fz (.int .i64 (fK (fnd l s m i))), .fz (.bool (fO (fnd l s m i)))], [])
  | m, b, 0, _, h => by omega
  | 0, i, N + 1, h, _ => by
    rw [L_level_Lattice_Find_1_0_eq]
    simp [show ¬ ((i : Int) < (l.length : Int)) by omega, onL_some, X_level_Lattice_Find_1_1_eq, fnd, fK, fO]
  | m + 1, i, N + 1, h, hN => by
    have hi : i < l.length := by omega
    have ih := find1 (K := K) l s h8 m (i + 1) N (by omega) (by omega)
    have hlt : decide ((i : Int) < (l.length : Int)) = true := by simp; omega
    have w := wrn (show i < 1152921504606846976 by omega)
    rw [L_level_Lattice_Find_1_0_eq]
    simp only [isSl_sl, toSl_sl, strs_len, dlt hi, strs_get hi, when_true', Int.toNat_natCast, fits_str, isStr_str, toStr_str, w, bytes_beq, fnd]
    rw [hlt, ifB_true]
    by_cases e : l.getD i ByteArray.empty = s
    · rw [if_pos e, decide_eq_true e, ifB_true]
      simp only [onL_some, X_level_Lattice_Find_1_0_eq, fK, fO]
    · rw [if_neg e, decide_eq_false e, ifB_false, ih]
theorem lat_Find {names : List ByteArray} {g : Tb} (N : Nice names.length g) (s : ByteArray) : Rt N_level_Lattice_Find [.fz (.pt 195 true (latR names g) 0), .fz (.str s)] = some ([.fz (.int .i64 (fK (fnd names s names.length 0))), .fz (.bool (fO (fnd names s names.length 0)))], []) := by
  have n8 := N.n8
  refine rt_call A_level_Lattice_Find rfl rfl 12 ((E_level_Lattice_Find Rt 12 true _ _).trans ?_)
  have h0 : FV.cell (latR names g) 0 = .sl (strs names) := latE_0 ..
  have f1 := find1 (K := 12) names s n8 names.length 0 12 (by omega) (by omega)
  simp only [Int.natCast_zero] at f1
  have ag : FV.isAg 195 (latR names g) = true := by simp [latR]
  simp only [ag, h0, isSl_sl, toSl_sl, when_true', strs_len, f1]

theorem named_ne {l : List ByteArray} (h : namedB l = true) {i k : Nat} (hi : i < l.length) (hk : k < i) : l.getD i ByteArray.empty ≠ l.getD k ByteArray.empty := fun e => by
  simp only [namedB, Bool.and_eq_true] at h
  have := allI_iff.1 h.2.2 i (by omega) (by omega)
  simp only [Bool.and_eq_true, Bool.not_eq_true'] at this
  have q : anyI (isN l i) i 0 = true := anyI_iff.2 ⟨k, by omega, by omega, by simp only [isN, decide_eq_true_eq]; exact e⟩
  rw [this.2] at q; cases q

def fKi (o : Option Nat) (i : Nat) : Int := match o with | some k => if k < i then (k : Int) else 0 | none => 0
def fOi (o : Option Nat) (i : Nat) : Bool := match o with | some k => decide (k < i) | none => false
theorem names1 {names : List ByteArray} {g : Tb} (N : Nice names.length g) (pairs : List FV) (pp : List FV) (s : ByteArray) (a : Int) {K : Nat} {o : Option Nat} (ho : ∀ i, i < names.length → (names.getD i ByteArray.empty = s ↔ o = some i)) : ∀ (m i M : Nat), i + m = names.length → m < M →
    L_law01_LevelNames_1_0 Rt K true M s a (.pt 195 true (latR names g) 0) (fK o) (fO o) (fKi o (i)) (fOi o (i)) i (strs names) pairs pp =
      some (.exit 0, X_law01_LevelNames_1_0 a (.pt 195 true (latR names g) 0) (fK o) (fO o) (fKi o (names.length)) (fOi o (names.length)) (strs names) pairs pp)
  | m, b, 0, _, h => by omega
  | 0, i, M + 1, h, _ => by
    rw [L_law01_LevelNames_1_0_eq]
    obtain rfl : i = names.length := by omega
    simp
  | m + 1, i, M + 1, h, hM => by
    have n8 := N.n8
    have hi : i < names.length := by omega
    have ih := names1 N pairs pp s a (K := K) ho m (i + 1) M (by omega) (by omega)
    have hlt : decide ((i : Int) < (names.length : Int)) = true := by simp; omega
    have w := wrn (show i < 1152921504606846976 by omega)
    have tx := lat_Text N i
    rw [if_pos (by omega), Int.toNat_natCast] at tx
    rw [L_law01_LevelNames_1_0_eq]
    simp only [strs_len, dlt hi, strs_get hi, J_law01_LevelNames_1_0_eq, tx, onR_some, onL_some, List.isEmpty_nil, allF_cons, allF_nil, Bool.and_true, Bool.true_and, when_true', List.getD_cons_zero, List.getD_cons_succ, isF_fz, toF_fz, isBool_bool, toBool_bool, isInt_int, toInt_int, isStr_str, toStr_str, isSl_sl, toSl_sl, List.length_cons, List.length_nil, List.all_cons, List.all_nil, lisFz_fz, ltoFz_fz, beq_self_eq_true, jump_true, ifB_true, ifB_false, isF_pv, isPv_pv, toV_pv, isNil_nilp, isNil_pt, isPt_pt, toAg_ag, cell_ag, isAg_ag, fits_ag, Int.toNat_natCast, Bool.not_true, Bool.not_false, fits_int, fits_bool, fits_str, fits_sl, w, bytes_beq]
    rw [hlt, ifB_true]
    have hd := ho i hi
    by_cases e : names.getD i ByteArray.empty = s
    · have eo := hd.1 e
      subst eo
      rw [decide_eq_true e, ifB_true]
      have k1 : fKi (some i) (i + 1) = (i : Int) := by simp [fKi]
      have k2 : fOi (some i) (i + 1) = true := by simp [fOi]
      rw [k1, k2] at ih
      rw [ih]
      simp only [decide_true, Bool.not_true, ifB_false]
    · rw [decide_eq_false e, ifB_false]
      have : ∀ k, o = some k → ((k < i + 1) ↔ k < i) := fun k hk => by
        constructor
        · intro h
          by_cases e2 : k = i
          · subst e2; exact absurd (hd.2 hk) e
          · omega
        · omega
      have e1 : (fKi o (i + 1)) = (fKi o (i)) := by
        cases o with
        | none => rfl
        | some k => simp only [fKi, fOi, this k rfl]
      have e2 : (fOi o (i + 1)) = (fOi o (i)) := by
        cases o with
        | none => rfl
        | some k => simp only [fKi, fOi, this k rfl]
      rw [e1, e2] at ih
      rw [ih]
      simp only [decide_true, Bool.not_true, ifB_false]
theorem pure_LevelNames (f0 f1 f2 : FV) (h0 : WV Try.prog 40 140737488351232 26 f0) (h1 : WV Try.prog 40 140737488351232 46 f1) (h2 : WV Try.prog 40 140737488351232 9 f2) : Rt N_law01_LevelNames [.fz f0, .fz f1, .fz f2] = some ([.fz (.bool true)], []) := by
  obtain ⟨names, pairs, pp, rfl, _⟩ := pol_of (tn := 9) (tp := 46) (tpp := 84) (by kernel_rfl) (by kernel_rfl) (by kernel_rfl) (by kernel_rfl) (by kernel_rfl) (by kernel_rfl) h0
  obtain ⟨a, b, rfl, _⟩ := int2_of (by kernel_rfl) (by kernel_rfl) h1
  obtain ⟨s, rfl, _⟩ := str_of (by kernel_rfl) (by kernel_rfl) h2
  obtain ⟨g, hg, hn⟩ := New_two names pairs pp
  obtain ⟨bl, hb⟩ := light_ok names pairs pp
  have hc := Check_ok pp hg
  have hl := lives01_ok
  refine rt_call A_law01_LevelNames rfl rfl 12 ((E_law01_LevelNames Rt 12 true _ _ _ _ _ _).trans ?_)
  unfold polE at hn hb hc
  have e0 : ((⟨#[]⟩ : ByteArray).toList == (⟨#[]⟩ : ByteArray).toList) = true := by simp
  simp only [n_Find, n_Size, n_Is, n_Leq, n_Join, n_Meet, n_Text, onR_some, onL_some, List.isEmpty_nil, allF_cons, allF_nil, Bool.and_true, Bool.true_and, when_true', List.getD_cons_zero, List.getD_cons_succ, isF_fz, toF_fz, isBool_bool, toBool_bool, isInt_int, toInt_int, isStr_str, toStr_str, isSl_sl, toSl_sl, List.length_cons, List.length_nil, List.all_cons, List.all_nil, lisFz_fz, ltoFz_fz, beq_self_eq_true, jump_true, ifB_true, ifB_false, isF_pv, isPv_pv, toV_pv, isNil_nilp, isNil_pt, isPt_pt, toAg_ag, cell_ag, isAg_ag, fits_ag, Int.toNat_natCast, Bool.not_true, Bool.not_false, fits_int, fits_bool, fits_str, fits_sl, bne_self_eq_false, e0, J_law01_LevelNames_9_0_eq, hb]
  cases bl with
  | false => simp only [onR_some, onL_some, List.isEmpty_nil, allF_cons, allF_nil, Bool.and_true, Bool.true_and, when_true', List.getD_cons_zero, List.getD_cons_succ, isF_fz, toF_fz, isBool_bool, toBool_bool, isInt_int, toInt_int, isStr_str, toStr_str, isSl_sl, toSl_sl, List.length_cons, List.length_nil, List.all_cons, List.all_nil, lisFz_fz, ltoFz_fz, beq_self_eq_true, jump_true, ifB_true, ifB_false, isF_pv, isPv_pv, toV_pv, isNil_nilp, isNil_pt, isPt_pt, toAg_ag, cell_ag, isAg_ag, fits_ag, Int.toNat_natCast, Bool.not_true, Bool.not_false, fits_int, fits_bool, fits_str, fits_sl, hl]
  | true =>
    rcases hn with ⟨h0, N, hn⟩ | ⟨h0, hn⟩
    · rw [h0] at hc
      have hnm : namedB names = true := by
        unfold newC at h0
        cases q : namedB names with
        | true => rfl
        | false => rw [q] at h0; cases h0
      have I := latR_is N
      have n1 := N.n1
      have n8 := N.n8
      have hf := lat_Find N s
      have ho : ∀ i, i < names.length → (names.getD i ByteArray.empty = s ↔ fnd names s names.length 0 = some i) := fun i hi => by
        rcases fnd_spec names s names.length 0 with ⟨k, h1, h2, h3, h4⟩ | ⟨h1, h2⟩
        · rw [h1]
          constructor
          · intro e
            rcases Nat.lt_trichotomy i k with q | q | q
            · exact absurd (h4.trans e.symm) (named_ne hnm (by omega) q)
            · rw [q]
            · exact absurd (e.trans h4.symm) (named_ne hnm hi q)
          · intro e; cases e; exact h4
        · rw [h1]
          constructor
          · intro e; exact absurd e (h2 i (by omega) (by omega))
          · intro e; cases e
      have nm := names1 N (prs pairs) pp s a (K := 12) ho names.length 0 12 (by omega) (by omega)
      simp only [Int.natCast_zero] at nm
      have z1 : (fKi (fnd names s names.length 0) (0)) = 0 := by
        cases fnd names s names.length 0 <;> simp [fKi, fOi]
      have z2 : (fOi (fnd names s names.length 0) (0)) = false := by
        cases fnd names s names.length 0 <;> simp [fKi, fOi]
      have z3 : (fKi (fnd names s names.length 0) (names.length)) = fK (fnd names s names.length 0) := by
        rcases fnd_spec names s names.length 0 with ⟨k, h1, h2, h3, h4⟩ | ⟨h1, h2⟩ <;> rw [h1] <;> simp [fK, fKi]; omega
      have z4 : (fOi (fnd names s names.length 0) (names.length)) = fO (fnd names s names.length 0) := by
        rcases fnd_spec names s names.length 0 with ⟨k, h1, h2, h3, h4⟩ | ⟨h1, h2⟩ <;> rw [h1] <;> simp [fO, fOi]; omega
      rw [z1, z2, z3, z4] at nm
      have fin : J_law01_LevelNames_6_0 Rt 12 true a (.pt 195 true (latR names g) 0) (strs names) (prs pairs) pp = some ([.fz (.bool true)], []) := by
        have i1 := lat_Is I a
        have hcase : ∀ c : Bool, c = decide (0 ≤ a ∧ a < names.length) → J_law01_LevelNames_3_0 Rt 12 true a (.pt 195 true (latR names g) 0) c = some ([.fz (.bool true)], []) := fun c hc => by
          rw [J_law01_LevelNames_3_0_eq]
          by_cases h : 0 ≤ a ∧ a < names.length
          · rw [hc, decide_eq_true h]
            have : (ltR names.length g).is a = true := Lt.is_iff.2 h
            simp only [i1, this, onR_some, onL_some, List.isEmpty_nil, allF_cons, allF_nil, Bool.and_true, Bool.true_and, when_true', List.getD_cons_zero, List.getD_cons_succ, isF_fz, toF_fz, isBool_bool, toBool_bool, isInt_int, toInt_int, isStr_str, toStr_str, isSl_sl, toSl_sl, List.length_cons, List.length_nil, List.all_cons, List.all_nil, lisFz_fz, ltoFz_fz, beq_self_eq_true, jump_true, ifB_true, ifB_false, isF_pv, isPv_pv, toV_pv, isNil_nilp, isNil_pt, isPt_pt, toAg_ag, cell_ag, isAg_ag, fits_ag, Int.toNat_natCast, Bool.not_true, Bool.not_false, fits_int, fits_bool, fits_str, fits_sl, hl]
          · rw [hc, decide_eq_false h]
            have hi : (ltR names.length g).is a = false := by
              cases q : (ltR names.length g).is a with
              | false => rfl
              | true => exact absurd (Lt.is_iff.1 q) h
            have l1 := lat_Leq I a 0
            have l2 := lat_Leq I 0 a
            have j1 := lat_Join I a 0
            have j2 := lat_Join I 0 a
            have m1 := lat_Meet I a 0
            have t1 := lat_Top I
            have b1 := lat_Bottom I
            have x1 := lat_Text N a
            rw [if_neg h] at x1
            have e1 : (ltR names.length g).leqI a 0 = false := by simp [Lt.leqI, hi]
            have e2 : (ltR names.length g).leqI 0 a = false := by simp [Lt.leqI, hi]
            have e3 : (ltR names.length g).joinI a 0 = (ltR names.length g).top := by simp [Lt.joinI, hi]
            have e4 : (ltR names.length g).joinI 0 a = (ltR names.length g).top := by simp [Lt.joinI, hi]
            have e5 : (ltR names.length g).meetI a 0 = (ltR names.length g).bot := by simp [Lt.meetI, hi]
            have e6 : (ByteArray.empty.toList == (⟨#[]⟩ : ByteArray).toList) = true := by decide +kernel
            simp only [ifB_false, jump_true, J_law01_LevelNames_4_0_eq, i1, hi, l1, l2, j1, j2, m1, t1, b1, x1, e1, e2, e3, e4, e5, e6, onR_some, onL_some, List.isEmpty_nil, allF_cons, allF_nil, Bool.and_true, Bool.true_and, when_true', List.getD_cons_zero, List.getD_cons_succ, isF_fz, toF_fz, isBool_bool, toBool_bool, isInt_int, toInt_int, isStr_str, toStr_str, isSl_sl, toSl_sl, List.length_cons, List.length_nil, List.all_cons, List.all_nil, lisFz_fz, ltoFz_fz, beq_self_eq_true, jump_true, ifB_true, ifB_false, isF_pv, isPv_pv, toV_pv, isNil_nilp, isNil_pt, isPt_pt, toAg_ag, cell_ag, isAg_ag, fits_ag, Int.toNat_natCast, Bool.not_true, Bool.not_false, fits_int, fits_bool, fits_str, fits_sl, hl]
        rw [J_law01_LevelNames_6_0_eq]
        by_cases q : a ≥ 0
        · rw [show decide (a ≥ 0) = true by simpa using q]
          simp only [ifB_true, jump_true, strs_len]
          exact hcase _ (by rw [decide_eq_decide]; constructor; intro h; exact ⟨q, h⟩; exact fun h => h.2)
        · rw [show decide (a ≥ 0) = false by simpa using q]
          simp only [ifB_false, jump_true]
          exact hcase _ (by symm; rw [decide_eq_false_iff_not]; intro h; exact q h.1)
      have eo : (fO (fnd names s names.length 0) == fO (fnd names s names.length 0)) = true := by simp
      simp only [hc, onR_some, onL_some, List.isEmpty_nil, allF_cons, allF_nil, Bool.and_true, Bool.true_and, when_true', List.getD_cons_zero, List.getD_cons_succ, isF_fz, toF_fz, isBool_bool, toBool_bool, isInt_int, toInt_int, isStr_str, toStr_str, isSl_sl, toSl_sl, List.length_cons, List.length_nil, List.all_cons, List.all_nil, lisFz_fz, ltoFz_fz, beq_self_eq_true, jump_true, ifB_true, ifB_false, isF_pv, isPv_pv, toV_pv, isNil_nilp, isNil_pt, isPt_pt, toAg_ag, cell_ag, isAg_ag, fits_ag, Int.toNat_natCast, Bool.not_true, Bool.not_false, fits_int, fits_bool, fits_str, fits_sl, bne_self_eq_false, J_law01_LevelNames_8_0_eq, hn, hf, nm, X_law01_LevelNames_1_0_eq, eo, fin]
    · have e0 : (newC names pairs g != 0) = true := by simpa using h0
      simp only [hc, onR_some, onL_some, List.isEmpty_nil, allF_cons, allF_nil, Bool.and_true, Bool.true_and, when_true', List.getD_cons_zero, List.getD_cons_succ, isF_fz, toF_fz, isBool_bool, toBool_bool, isInt_int, toInt_int, isStr_str, toStr_str, isSl_sl, toSl_sl, List.length_cons, List.length_nil, List.all_cons, List.all_nil, lisFz_fz, ltoFz_fz, beq_self_eq_true, jump_true, ifB_true, ifB_false, isF_pv, isPv_pv, toV_pv, isNil_nilp, isNil_pt, isPt_pt, toAg_ag, cell_ag, isAg_ag, fits_ag, Int.toNat_natCast, Bool.not_true, Bool.not_false, fits_int, fits_bool, fits_str, fits_sl, e0, hl]
end Go.Ab
