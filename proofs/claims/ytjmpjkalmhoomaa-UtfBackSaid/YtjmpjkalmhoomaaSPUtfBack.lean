/- UtfBack: the plain law. -/
import Derived.Test.YtjmpjkalmhoomaaSPUtfReads
import Derived.Test.YtjmpjkalmhoomaaSBack
namespace Go.Ab
open Go.Proofs
set_option linter.unusedVariables false
set_option linter.unusedSimpArgs false
set_option linter.unusedSectionVars false
theorem sg_bytes {s : ByteArray} {cs : List Int} (h : signsL s.data.toList = some cs) : qB (bytesOf' cs) = s ∧ (∀ c ∈ cs, 0 ≤ c ∧ c ≤ 1114111 ∧ ¬ (55296 ≤ c ∧ c < 57344)) ∧ cs.length ≤ s.size := by
  have hS := sgAt_start h
  have hb := hS.bytes
  rw [List.drop_zero] at hb
  refine ⟨?_, hS.fine, by have := hS.len (Nat.zero_le _); omega⟩
  unfold bytesOf'
  rw [← hb, qB_self]
theorem back_loop (s u T : ByteArray) (K : Nat) (hT : T.size ≤ 1000000) (hlow : ∀ x ∈ T.data.toList, ¬ x.toNat < 32) : ∀ (m n i : Nat), T.size - i ≤ m → m < n → i ≤ T.size →
    L_law03_UtfBack_1_0 Rt K true n s u T (i : Int) = some (.exit 0, X_law03_UtfBack_1_1 s u T) := by
  intro m
  induction m with
  | zero =>
    intro n i h1 h2 h3
    obtain ⟨n, rfl⟩ : ∃ q, n = q + 1 := ⟨n - 1, by omega⟩
    rw [L_law03_UtfBack_1_0_eq, decide_eq_false (by omega), ifB_false]
  | succ m ih =>
    intro n i h1 h2 h3
    obtain ⟨n, rfl⟩ : ∃ q, n = q + 1 := ⟨n - 1, by omega⟩
    by_cases g : i < T.size
    · have hd : T.data.toList.drop i = T.data.toList[i]'(by rw [Array.length_toList]; exact g) :: T.data.toList.drop (i + 1) := List.drop_eq_getElem_cons _
      obtain ⟨a1, a2, a3⟩ := at_drop hd
      have hx := hlow _ (List.getElem_mem (l := T.data.toList) (n := i) (by rw [Array.length_toList]; exact g))
      have hw : IntKind.wrap .i64 ((i : Int) + 1) = ((i + 1 : Nat) : Int) := by rw [wrap64 (by omega) (by omega)]; simp
      rw [L_law03_UtfBack_1_0_eq, decide_eq_true (show (i : Int) < (T.size : Int) by omega), ifB_true, Bool.and_true, decide_eq_true (show (0 : Int) ≤ (i : Int) by omega), when_true', Int.toNat_natCast, a1, decide_eq_false (by omega), ifB_false, hw]
      exact ih n (i + 1) (by omega) (by omega) (by omega)
    · rw [L_law03_UtfBack_1_0_eq, decide_eq_false (by omega), ifB_false]
theorem quotes_len (m : List Int) : (m.flatMap quoteB).length ≤ 6 * m.length := by
  induction m with
  | nil => simp
  | cons c m ih => have := quoteB_len c; simp only [List.flatMap_cons, List.length_append, List.length_cons]; omega
theorem back_main (s u : ByteArray) (hs : s.size ≤ 2000) (hu : u.size ≤ 2000) (K : Nat) (hK : 20000 ≤ K) : J_law03_UtfBack_2_0 Rt K true s u = some ([.fz (.bool true)], []) := by
  have hlv := lives3_ok
  have hqs := quote_ok s (by omega)
  have hqu := quote_ok u (by omega)
  have hva := lift (valid_ok s (by omega))
  have hfi := lift (first_ok (s := s) (by omega) (s.size : Int))
  rw [J_law03_UtfBack_2_0_eq, hqs]
  cases hv : signsL s.data.toList with
  | none =>
    rw [hv] at hva
    have z : ((7 : Int) != 0) = true := rfl
    simp only [onR_some, onL_some, List.isEmpty_nil, allF_cons, allF_nil, Bool.and_true, Bool.true_and, when_true', List.getD_cons_zero, List.getD_cons_succ, isF_fz, toF_fz, isBool_bool, toBool_bool, isInt_int, toInt_int, isStr_str, toStr_str, isSl_sl, toSl_sl, List.length_cons, List.length_nil, List.all_cons, List.all_nil, lisFz_fz, ltoFz_fz, beq_self_eq_true, jump_true, ifB_true, ifB_false, isF_pv, isPv_pv, toV_pv, isNil_nilp, isNil_pt, isPt_pt, toAg_ag, cell_ag, isAg_ag, fits_ag, Int.toNat_natCast, Bool.not_true, Bool.not_false, fits_int, fits_bool, fits_str, fits_sl, hva, Option.isSome_none, hlv, z]
  | some cs =>
    obtain ⟨b1, b2, b3⟩ := sg_bytes hv
    rw [hv] at hfi
    have z : ((0 : Int) != 0) = false := rfl
    simp only [onR_some, onL_some, List.isEmpty_nil, allF_cons, allF_nil, Bool.and_true, Bool.true_and, when_true', List.getD_cons_zero, List.getD_cons_succ, isF_fz, toF_fz, isBool_bool, toBool_bool, isInt_int, toInt_int, isStr_str, toStr_str, isSl_sl, toSl_sl, List.length_cons, List.length_nil, List.all_cons, List.all_nil, lisFz_fz, ltoFz_fz, beq_self_eq_true, jump_true, ifB_true, ifB_false, isF_pv, isPv_pv, toV_pv, isNil_nilp, isNil_pt, isPt_pt, toAg_ag, cell_ag, isAg_ag, fits_ag, Int.toNat_natCast, Bool.not_true, Bool.not_false, fits_int, fits_bool, fits_str, fits_sl, z]
    have hlen := quotes_len cs
    have hTs : (qB (34 :: (cs.flatMap quoteB ++ [34]))).size ≤ 13000 := by rw [qB_size]; simp only [List.length_cons, List.length_append, List.length_nil]; omega
    have hlow : ∀ x ∈ (qB (34 :: (cs.flatMap quoteB ++ [34]))).data.toList, ¬ x.toNat < 32 := by
      intro x hx
      have hx' : x ∈ 34 :: (cs.flatMap quoteB ++ [34]) := hx
      rcases List.mem_cons.1 hx' with rfl | hx'
      · decide
      · rcases List.mem_append.1 hx' with hx' | hx'
        · obtain ⟨c, hc, hxc⟩ := List.mem_flatMap.1 hx'
          obtain ⟨h0, h1, h2⟩ := b2 c hc
          exact quote_low h0 h1 h2 x hxc
        · simp at hx'; subst hx'; decide
    have hL := back_loop s u _ K (by omega) hlow (qB (34 :: (cs.flatMap quoteB ++ [34]))).size K 0 (by omega) (by omega) (Nat.zero_le _)
    simp only [Int.natCast_zero] at hL
    have hun := unq_ok (qB (34 :: (cs.flatMap quoteB ++ [34]))) (by omega)
    have hd : ∀ x : List UInt8, (qB x).data.toList = x := fun _ => rfl
    rw [hd, unq_quote b2] at hun
    simp only at hun
    rw [b1] at hun
    have hfirst : qB (toB ((cs.take (Int.toNat (s.size : Int))).flatMap putB)) = s := by
      rw [Int.toNat_natCast, List.take_of_length_le b3]; exact b1
    simp only at hfi
    rw [hfirst] at hfi
    rw [hL, onL_some, X_law03_UtfBack_1_1_eq, hun, hqu]
    cases hvu : signsL u.data.toList with
    | none =>
      have z7 : ((7 : Int) != 0) = true := rfl
      simp only [onR_some, onL_some, List.isEmpty_nil, allF_cons, allF_nil, Bool.and_true, Bool.true_and, when_true', List.getD_cons_zero, List.getD_cons_succ, isF_fz, toF_fz, isBool_bool, toBool_bool, isInt_int, toInt_int, isStr_str, toStr_str, isSl_sl, toSl_sl, List.length_cons, List.length_nil, List.all_cons, List.all_nil, lisFz_fz, ltoFz_fz, beq_self_eq_true, jump_true, ifB_true, ifB_false, isF_pv, isPv_pv, toV_pv, isNil_nilp, isNil_pt, isPt_pt, toAg_ag, cell_ag, isAg_ag, fits_ag, Int.toNat_natCast, Bool.not_true, Bool.not_false, fits_int, fits_bool, fits_str, fits_sl, bytes_beq, decide_true, z7, hfi, hlv]
    | some ds =>
      obtain ⟨c1, c2, c3⟩ := sg_bytes hvu
      have hiff : (qB (34 :: (ds.flatMap quoteB ++ [34])) = qB (34 :: (cs.flatMap quoteB ++ [34]))) ↔ (u = s) := by
        constructor
        · intro e
          have e2 := congrArg (fun x : ByteArray => unqL x.data.toList) e
          simp only [hd] at e2
          rw [unq_quote b2, unq_quote c2] at e2
          have e3 : bytesOf' ds = bytesOf' cs := congrArg Prod.fst e2
          rw [← b1, ← c1, e3]
        · rintro rfl
          rw [hv] at hvu
          cases hvu
          rfl
      have hdd : (decide (qB (34 :: (ds.flatMap quoteB ++ [34])) = qB (34 :: (cs.flatMap quoteB ++ [34]))) == decide (u = s)) = true := by
        rw [beq_iff_eq, Bool.eq_iff_iff, decide_eq_true_iff, decide_eq_true_iff]; exact hiff
      simp only [onR_some, onL_some, List.isEmpty_nil, allF_cons, allF_nil, Bool.and_true, Bool.true_and, when_true', List.getD_cons_zero, List.getD_cons_succ, isF_fz, toF_fz, isBool_bool, toBool_bool, isInt_int, toInt_int, isStr_str, toStr_str, isSl_sl, toSl_sl, List.length_cons, List.length_nil, List.all_cons, List.all_nil, lisFz_fz, ltoFz_fz, beq_self_eq_true, jump_true, ifB_true, ifB_false, isF_pv, isPv_pv, toV_pv, isNil_nilp, isNil_pt, isPt_pt, toAg_ag, cell_ag, isAg_ag, fits_ag, Int.toNat_natCast, Bool.not_true, Bool.not_false, fits_int, fits_bool, fits_str, fits_sl, bytes_beq, decide_true, z, hdd, hfi, hlv]
theorem pure_UtfBack (f0 f1 : FV) (h0 : WV Try.prog 40 reachBytes 9 f0) (h1 : WV Try.prog 40 reachBytes 9 f1) : Rt N_law03_UtfBack [.fz f0, .fz f1] = some ([.fz (.bool true)], []) := by
  obtain ⟨s, rfl, _⟩ := str_of (by kernel_rfl) (by kernel_rfl) h0
  obtain ⟨u, rfl, _⟩ := str_of (by kernel_rfl) (by kernel_rfl) h1
  have hl := lives3_ok
  refine rt_call A_law03_UtfBack rfl rfl 20000 ?_
  rw [E_law03_UtfBack]
  by_cases g : s.size ≤ 2000
  · rw [decide_eq_false (by omega), ifB_false]
    by_cases g2 : u.size ≤ 2000
    · rw [decide_eq_false (by omega), ifB_false, jump_true]
      exact back_main s u g g2 20000 (by omega)
    · rw [decide_eq_true (by omega), ifB_true, hl]
      rfl
  · rw [decide_eq_true (by omega), ifB_true, hl]
    rfl
end Go.Ab
