/- WordsTurn: the plain law. -/
import Derived.Test.YtgljpoefbphhdaaDoorSTurn
import Derived.Test.YtgljpoefbphhdaaDoorSReadB
namespace Go.Ab
open Go.Proofs
set_option linter.unusedVariables false
set_option linter.unusedSimpArgs false
set_option linter.unusedSectionVars false
open Go.Lib (index occAt)
theorem fit_nat (s sub : List UInt8) (j : Nat) : fitAt s sub j = (decide (j + sub.length ≤ s.length) && occAt s sub j) := by
  unfold fitAt
  rw [occ_iff, decide_eq_true (show (0 : Int) ≤ (j : Int) by omega), Bool.true_and, Int.toNat_natCast]
  congr 1
  rw [Bool.eq_iff_iff, decide_eq_true_eq, decide_eq_true_eq]
  omega
def hasB (s sub : List UInt8) (i : Nat) : Bool := (List.range i).any fun j => fitAt s sub j
theorem hasB_succ (s sub : List UInt8) (i : Nat) : hasB s sub (i + 1) = (hasB s sub i || fitAt s sub i) := by
  unfold hasB; rw [List.range_succ, List.any_append]; simp
theorem hasB_index (s sub : List UInt8) : hasB s sub (s.length + 1 - sub.length) = decide (0 ≤ index s sub) := by
  rw [Bool.eq_iff_iff, decide_eq_true_eq]
  unfold hasB
  rw [List.any_eq_true]
  constructor
  · rintro ⟨j, hj, hf⟩
    rw [fit_nat, Bool.and_eq_true, decide_eq_true_eq] at hf
    rcases index_no s sub with h | ⟨k, h⟩
    · rw [no_occ h j (by omega)] at hf; cases hf.2
    · omega
  · intro h0
    rcases index_no s sub with h | ⟨k, h⟩
    · omega
    · obtain ⟨o1, _, o3⟩ := index_occ s sub k h
      have hk : k + sub.length ≤ s.length := by
        by_cases hne : sub = []
        · subst hne; simpa using o3
        · exact occ_len o1 hne
      exact ⟨k, List.mem_range.2 (by omega), by rw [fit_nat, o1, decide_eq_true hk]; rfl⟩
theorem ls_drop : ∀ l : List UInt8, ls l = l.drop (l.length - (ls l).length)
  | [] => rfl
  | c :: t => by
    have ih := ls_drop t
    have hl := ls_len t
    by_cases hc : blank c = true
    · have e1 : ls (c :: t) = ls t := by simp [ls, List.dropWhile_cons, hc]
      rw [e1, List.length_cons, show t.length + 1 - (ls t).length = (t.length - (ls t).length) + 1 by omega, List.drop_succ_cons]
      exact ih
    · have e1 : ls (c :: t) = c :: t := by simp [ls, List.dropWhile_cons, hc]
      rw [e1, Nat.sub_self, List.drop_zero]
theorem ls_cons (c : UInt8) (t : List UInt8) : ls (c :: t) = if blank c = true then ls t else c :: t := by
  by_cases hc : blank c = true <;> simp [ls, List.dropWhile_cons, hc]
theorem blank_int (c : UInt8) : ((((c.toNat : Nat) : Int) == 32) = (c.toNat == 32)) ∧ ((((c.toNat : Nat) : Int) == 9) = (c.toNat == 9)) ∧ ((((c.toNat : Nat) : Int) == 10) = (c.toNat == 10)) ∧ ((((c.toNat : Nat) : Int) == 13) = (c.toNat == 13)) := by
  refine ⟨?_, ?_, ?_, ?_⟩ <;> rw [Bool.eq_iff_iff, beq_iff_eq, beq_iff_eq] <;> omega
section
variable (s sub : List UInt8) (hs : s.length ≤ 3000) (hsub : sub.length ≤ 100) (K : Nat)
include hs hsub
theorem turn_loop1 : ∀ (d i N : Nat), i + d = s.length + 1 - sub.length → d < N → L_law08_WordsTurn_1_0 Rt K true N (BB s) (BB sub) (hasB s sub i) i = some (.exit 0, X_law08_WordsTurn_1_0 (BB s) (BB sub) (hasB s sub (s.length + 1 - sub.length))) := by
  intro d
  induction d with
  | zero =>
    intro i N hi hN
    obtain ⟨N, rfl⟩ : ∃ M, N = M + 1 := ⟨N - 1, by omega⟩
    have hw : IntKind.wrap .i64 ((i : Int) + (sub.length : Int)) = (i : Int) + (sub.length : Int) := by rw [wrap64 (by omega) (by omega)]
    rw [L_law08_WordsTurn_1_0_eq, BB_size, BB_size, hw, decide_eq_false (by omega), ifB_false, show i = s.length + 1 - sub.length by omega]
  | succ d ih =>
    intro i N hi hN
    obtain ⟨N, rfl⟩ : ∃ M, N = M + 1 := ⟨N - 1, by omega⟩
    have hw : IntKind.wrap .i64 ((i : Int) + (sub.length : Int)) = (i : Int) + (sub.length : Int) := by rw [wrap64 (by omega) (by omega)]
    have hw1 : IntKind.wrap .i64 ((i : Int) + 1) = ((i + 1 : Nat) : Int) := by rw [wrap64 (by omega) (by omega)]; simp
    have h1 := atG_ok s sub i (by omega) (by omega) (by omega) (by omega)
    have h2 := ih (i + 1) N (by omega) (by omega)
    rw [hasB_succ] at h2
    rw [L_law08_WordsTurn_1_0_eq, BB_size, BB_size, hw, decide_eq_true (show (i : Int) + (sub.length : Int) ≤ (s.length : Int) by omega), ifB_true, h1, hw1]
    cases hb : hasB s sub i with
    | true =>
      rw [hb, Bool.true_or] at h2
      rw [ifB_true]; exact h2
    | false =>
      rw [hb, Bool.false_or] at h2
      rw [ifB_false]
      simp only [onR_some, List.isEmpty_nil, allF_cons, allF_nil, Bool.and_true, when_true', List.getD_cons_zero, toF_fz, isBool_bool, toBool_bool]
      exact h2
theorem turn_loop2 (h : Bool) : ∀ (d i N : Nat), i + d = s.length → d < N → L_law08_WordsTurn_2_0 Rt K true N (BB s) (BB sub) h (BB (s.map upB)) (BB (s.map lowB)) i = some (.exit 2, X_law08_WordsTurn_2_0 (BB s) (BB sub) h) := by
  intro d
  induction d with
  | zero =>
    intro i N hi hN
    obtain ⟨N, rfl⟩ : ∃ M, N = M + 1 := ⟨N - 1, by omega⟩
    rw [L_law08_WordsTurn_2_0_eq, BB_size, decide_eq_false (by omega), ifB_false]
  | succ d ih =>
    intro i N hi hN
    obtain ⟨N, rfl⟩ : ∃ M, N = M + 1 := ⟨N - 1, by omega⟩
    have hl : i < s.length := by omega
    have hw1 : IntKind.wrap .i64 ((i : Int) + 1) = ((i + 1 : Nat) : Int) := by rw [wrap64 (by omega) (by omega)]; simp
    have hb : Array.getD (BB s).data i 0 = s[i] := byteAt (s := BB s) hl
    have hu : Array.getD (BB (s.map upB)).data i 0 = upB s[i] := by
      rw [byteAt (s := BB (s.map upB)) (show i < (s.map upB).length by simpa using hl)]; simp [BB]
    have hlo : Array.getD (BB (s.map lowB)).data i 0 = lowB s[i] := by
      rw [byteAt (s := BB (s.map lowB)) (show i < (s.map lowB).length by simpa using hl)]; simp [BB]
    have h2 := ih (i + 1) N (by omega) (by omega)
    have hc := u8_lt s[i]
    have ub := upB_nat s[i]
    have lb := lowB_nat s[i]
    generalize hcc : s[i] = c at hb hu hlo hc ub lb
    have z : ∀ x : Int, (x != x) = false := fun x => by simp
    have J1 : J_law08_WordsTurn_1_0 Rt K true N (BB s) (BB sub) h (BB (s.map upB)) (BB (s.map lowB)) i (((upB c).toNat : Nat) : Int) (((lowB c).toNat : Nat) : Int) = L_law08_WordsTurn_2_0 Rt K true N (BB s) (BB sub) h (BB (s.map upB)) (BB (s.map lowB)) ((i + 1 : Nat) : Int) := by
      rw [J_law08_WordsTurn_1_0_eq, BB_size, BB_size, List.length_map, List.length_map]
      simp only [decide_eq_true (show (0 : Int) ≤ (i : Int) by omega), decide_eq_true (show (i : Int) < (s.length : Int) by omega), Bool.and_true, when_true', Int.toNat_natCast, hu, hlo, z, ifB_false, hw1]
    have J2 : J_law08_WordsTurn_2_0 Rt K true N (BB s) (BB sub) h (BB (s.map upB)) (BB (s.map lowB)) i ((c.toNat : Nat) : Int) (((upB c).toNat : Nat) : Int) ((c.toNat : Nat) : Int) = L_law08_WordsTurn_2_0 Rt K true N (BB s) (BB sub) h (BB (s.map upB)) (BB (s.map lowB)) ((i + 1 : Nat) : Int) := by
      rw [J_law08_WordsTurn_2_0_eq]
      by_cases g : 65 ≤ c.toNat
      · rw [decide_eq_true (show ((c.toNat : Nat) : Int) ≥ 65 by omega), ifB_true]
        by_cases g2 : c.toNat ≤ 90
        · rw [if_pos ⟨g, g2⟩] at lb
          have hw : IntKind.wrap .u8 (((c.toNat : Nat) : Int) + 32) = (((lowB c).toNat : Nat) : Int) := by rw [wrapu8 (by omega) (by omega), lb]; omega
          rw [decide_eq_true (show ((c.toNat : Nat) : Int) ≤ 90 by omega), ifB_true, jump_true, hw, J1]
        · rw [if_neg (fun q => g2 q.2)] at lb
          rw [decide_eq_false (show ¬ ((c.toNat : Nat) : Int) ≤ 90 by omega), ifB_false, jump_true]
          rw [lb] at J1; exact J1
      · rw [if_neg (fun q => g q.1)] at lb
        rw [decide_eq_false (show ¬ ((c.toNat : Nat) : Int) ≥ 65 by omega), ifB_false, jump_true]
        rw [lb] at J1; exact J1
    rw [← h2, ← J2, L_law08_WordsTurn_2_0_eq, BB_size]
    simp only [decide_eq_true (show (0 : Int) ≤ (i : Int) by omega), decide_eq_true (show (i : Int) < (s.length : Int) by omega), Bool.and_true, when_true', ifB_true, Int.toNat_natCast, hb]
    by_cases g : 97 ≤ c.toNat
    · rw [decide_eq_true (show ((c.toNat : Nat) : Int) ≥ 97 by omega), ifB_true]
      by_cases g2 : c.toNat ≤ 122
      · rw [if_pos ⟨g, g2⟩] at ub
        have hw : IntKind.wrap .u8 (((c.toNat : Nat) : Int) - 32) = (((upB c).toNat : Nat) : Int) := by rw [wrapu8 (by omega) (by omega), ub]; omega
        rw [decide_eq_true (show ((c.toNat : Nat) : Int) ≤ 122 by omega), ifB_true, jump_true, hw]
      · rw [if_neg (fun q => g2 q.2)] at ub
        rw [decide_eq_false (show ¬ ((c.toNat : Nat) : Int) ≤ 122 by omega), ifB_false, jump_true, ub]
    · rw [if_neg (fun q => g q.1)] at ub
      rw [decide_eq_false (show ¬ ((c.toNat : Nat) : Int) ≥ 97 by omega), ifB_false, jump_true, ub]
theorem turn_loop3 (h : Bool) : ∀ (d f N : Nat), f + d = s.length → d < N → L_law08_WordsTurn_3_0 Rt K true N (BB s) (BB sub) h f s.length = some (.exit 4, X_law08_WordsTurn_3_0 (BB s) (BB sub) h ((s.length - (ls (s.drop f)).length : Nat) : Int) s.length) := by
  intro d
  induction d with
  | zero =>
    intro f N hi hN
    obtain ⟨N, rfl⟩ : ∃ M, N = M + 1 := ⟨N - 1, by omega⟩
    rw [L_law08_WordsTurn_3_0_eq, decide_eq_false (by omega), ifB_false, List.drop_eq_nil_of_le (by omega)]
    have : (ls ([] : List UInt8)).length = 0 := rfl
    rw [this, show s.length - 0 = f by omega]
  | succ d ih =>
    intro f N hi hN
    obtain ⟨N, rfl⟩ : ∃ M, N = M + 1 := ⟨N - 1, by omega⟩
    have hl : f < s.length := by omega
    have hw1 : IntKind.wrap .i64 ((f : Int) + 1) = ((f + 1 : Nat) : Int) := by rw [wrap64 (by omega) (by omega)]; simp
    have hb : Array.getD (BB s).data f 0 = s[f] := byteAt (s := BB s) hl
    have h2 := ih (f + 1) N (by omega) (by omega)
    obtain ⟨b1, b2, b3, b4⟩ := blank_int s[f]
    have e : ls (s.drop f) = if blank s[f] = true then ls (s.drop (f + 1)) else s[f] :: s.drop (f + 1) := by
      rw [drop_cons hl, ls_cons]
    rw [L_law08_WordsTurn_3_0_eq, e, BB_size]
    simp only [decide_eq_true (show (f : Int) < (s.length : Int) by omega), decide_eq_true (show (0 : Int) ≤ (f : Int) by omega), Bool.and_true, when_true', ifB_true, Int.toNat_natCast, hb, b1, b2, b3, b4, hw1, h2]
    have fin : ((s.length - (s[f] :: s.drop (f + 1)).length : Nat) : Int) = (f : Int) := by rw [List.length_cons, List.length_drop]; omega
    unfold blank
    cases s[f].toNat == 32 with
    | true => rfl
    | false =>
      cases s[f].toNat == 9 with
      | true => rfl
      | false =>
        cases s[f].toNat == 10 with
        | true => rfl
        | false =>
          cases s[f].toNat == 13 with
          | true => rfl
          | false =>
            simp only [ifB_false, Bool.or_self]
            rw [if_neg (by simp), fin]
theorem turn_loop4 (h : Bool) (f : Nat) : ∀ (d t N : Nat), t = f + d → t ≤ s.length → d < N → L_law08_WordsTurn_4_0 Rt K true N (BB s) (BB sub) h f t = some (.exit 6, X_law08_WordsTurn_4_0 (BB s) (BB sub) h f ((f + (rs ((s.take t).drop f)).length : Nat) : Int)) := by
  intro d
  induction d with
  | zero =>
    intro t N hi ht hN
    obtain ⟨N, rfl⟩ : ∃ M, N = M + 1 := ⟨N - 1, by omega⟩
    rw [L_law08_WordsTurn_4_0_eq, decide_eq_false (by omega), ifB_false, List.drop_eq_nil_of_le (by rw [List.length_take]; omega)]
    have : (rs ([] : List UInt8)).length = 0 := rfl
    rw [this, show t = f + 0 by omega]
  | succ d ih =>
    intro t N hi ht hN
    obtain ⟨N, rfl⟩ : ∃ M, N = M + 1 := ⟨N - 1, by omega⟩
    have hl : t - 1 < s.length := by omega
    have hw1 : IntKind.wrap .i64 ((t : Int) - 1) = ((t - 1 : Nat) : Int) := by rw [wrap64 (by omega) (by omega)]; omega
    have hb : Array.getD (BB s).data (t - 1) 0 = s[t - 1] := byteAt (s := BB s) hl
    have h2 := ih (t - 1) N (by omega) (by omega) (by omega)
    obtain ⟨b1, b2, b3, b4⟩ := blank_int s[t - 1]
    have e0 : (s.take t).drop f = (s.take (t - 1)).drop f ++ [s[t - 1]] := by
      have : s.take t = s.take (t - 1) ++ [s[t - 1]] := by
        have := List.take_add_one (l := s) (i := t - 1)
        rw [show t - 1 + 1 = t by omega, List.getElem?_eq_getElem hl] at this
        exact this
      rw [this, List.drop_append_of_le_length (by rw [List.length_take]; omega)]
    have hlen : ((s.take (t - 1)).drop f).length = t - 1 - f := by rw [List.length_drop, List.length_take]; omega
    rw [L_law08_WordsTurn_4_0_eq, e0, rs_snoc, BB_size]
    simp only [decide_eq_true (show (f : Int) < (t : Int) by omega), hw1, decide_eq_true (show ((t - 1 : Nat) : Int) < (s.length : Int) by omega), decide_eq_true (show (0 : Int) ≤ ((t - 1 : Nat) : Int) by omega), Bool.and_true, when_true', ifB_true, Int.toNat_natCast, hb, b1, b2, b3, b4, h2]
    have fin : ((f + ((s.take (t - 1)).drop f ++ [s[t - 1]]).length : Nat) : Int) = (t : Int) := by rw [List.length_append, hlen, List.length_singleton]; omega
    generalize s[t - 1] = c at fin ⊢
    unfold blank
    cases c.toNat == 32 with
    | true => rfl
    | false =>
      cases c.toNat == 9 with
      | true => rfl
      | false =>
        cases c.toNat == 10 with
        | true => rfl
        | false =>
          cases c.toNat == 13 with
          | true => rfl
          | false =>
            simp only [ifB_false, Bool.or_self]
            rw [if_neg (by simp), fin]
end
theorem pure_WordsTurn (f0 f1 : FV) (h0 : WV Tryd.prog 40 reachBytes 9 f0) (h1 : WV Tryd.prog 40 reachBytes 9 f1) : Rt N_law08_WordsTurn [.fz f0, .fz f1] = some ([.fz (.bool true)], []) := by
  obtain ⟨a, rfl, _⟩ := str_of (by kernel_rfl) (by kernel_rfl) h0
  obtain ⟨b, rfl, _⟩ := str_of (by kernel_rfl) (by kernel_rfl) h1
  obtain ⟨s, rfl⟩ : ∃ l, a = BB l := ⟨LB a, (BB_LB a).symm⟩
  obtain ⟨sub, rfl⟩ : ∃ l, b = BB l := ⟨LB b, (BB_LB b).symm⟩
  have hl := lives8_ok
  refine rt_call A_law08_WordsTurn rfl rfl 3010 ?_
  rw [E_law08_WordsTurn, BB_size, BB_size]
  by_cases g1 : s.length ≤ 3000
  · rw [decide_eq_false (show ¬ (s.length : Int) > 3000 by omega), ifB_false]
    by_cases g2 : sub.length ≤ 100
    · rw [decide_eq_false (show ¬ (sub.length : Int) > 100 by omega), ifB_false, jump_true, J_law08_WordsTurn_9_0_eq]
      have l1 := turn_loop1 s sub g1 g2 3010 (s.length + 1 - sub.length) 0 3010 (by omega) (by omega)
      have e0 : hasB s sub 0 = false := rfl
      rw [e0, hasB_index] at l1
      have l2 := turn_loop2 s sub g1 g2 3010 (decide (0 ≤ index s sub)) s.length 0 3010 (by omega) (by omega)
      have l3 := turn_loop3 s sub g1 g2 3010 (decide (0 ≤ index s sub)) s.length 0 3010 (by omega) (by omega)
      simp only [Int.natCast_zero, List.drop_zero] at l1 l2 l3
      have hlen := ls_len s
      have l4 := turn_loop4 s sub g1 g2 3010 (decide (0 ≤ index s sub)) (s.length - (ls s).length) (ls s).length s.length 3010 (by omega) (by omega) (by omega)
      rw [List.take_length, ← ls_drop] at l4
      have hu := upper_ok (l := s) (by omega)
      have hlo := lower_ok (l := s) (by omega)
      have hh := hasG_ok s sub (by omega)
      have h5 := starts_ok s sub (by omega)
      have h6 := atG_ok s sub 0 (by omega) (by omega) (by omega) (by omega)
      have h7 := ends_ok s sub (by omega)
      have hw : IntKind.wrap .i64 ((s.length : Int) - (sub.length : Int)) = (s.length : Int) - (sub.length : Int) := by rw [wrap64 (by omega) (by omega)]
      have h8 := atG_ok s sub ((s.length : Int) - (sub.length : Int)) (by omega) (by omega) (by omega) (by omega)
      have h9 := trim_ok (l := s) (by omega)
      have hrs := rs_len (ls s)
      have z : ∀ x : Bool, (x == x) = true := fun x => by simp
      have z2 : ((s.length : Int) != (s.length : Int)) = false := by simp
      rw [l1, onL_some, X_law08_WordsTurn_1_0_eq, hu]
      simp only [onR_some, onL_some, List.isEmpty_nil, allF_cons, allF_nil, Bool.and_true, Bool.true_and, when_true', List.getD_cons_zero, List.getD_cons_succ, isF_fz, toF_fz, isBool_bool, toBool_bool, isInt_int, toInt_int, isStr_str, toStr_str, isSl_sl, toSl_sl, List.length_cons, List.length_nil, List.all_cons, List.all_nil, lisFz_fz, ltoFz_fz, beq_self_eq_true, jump_true, ifB_true, ifB_false, isF_pv, isPv_pv, toV_pv, isNil_nilp, isNil_pt, isPt_pt, toAg_ag, cell_ag, isAg_ag, fits_ag, Int.toNat_natCast, Bool.not_true, Bool.not_false, fits_int, fits_bool, fits_str, fits_sl, hlo, BB_size, List.length_map, z2]
      rw [J_law08_WordsTurn_7_0_eq, l2, onL_some, X_law08_WordsTurn_2_0_eq, BB_size, l3, onL_some, X_law08_WordsTurn_3_0_eq, l4, onL_some, X_law08_WordsTurn_4_0_eq]
      have ht : ((s.take (s.length - (ls s).length + (rs (ls s)).length)).drop (s.length - (ls s).length)) = rs (ls s) := by
        rw [List.drop_take, show s.length - (ls s).length + (rs (ls s)).length - (s.length - (ls s).length) = (rs (ls s)).length by omega, ← ls_drop, ← rs_take]
      have ht2 : trimB s = rs (ls s) := ls_rs s
      simp only [onR_some, onL_some, List.isEmpty_nil, allF_cons, allF_nil, Bool.and_true, Bool.true_and, when_true', List.getD_cons_zero, List.getD_cons_succ, isF_fz, toF_fz, isBool_bool, toBool_bool, isInt_int, toInt_int, isStr_str, toStr_str, isSl_sl, toSl_sl, List.length_cons, List.length_nil, List.all_cons, List.all_nil, lisFz_fz, ltoFz_fz, beq_self_eq_true, jump_true, ifB_true, ifB_false, isF_pv, isPv_pv, toV_pv, isNil_nilp, isNil_pt, isPt_pt, toAg_ag, cell_ag, isAg_ag, fits_ag, Int.toNat_natCast, Bool.not_true, Bool.not_false, fits_int, fits_bool, fits_str, fits_sl, hh, h5, h6, h7, BB_size, hw, h8, h9, z, decide_eq_true (show (0 : Int) ≤ ((s.length - (ls s).length + (rs (ls s)).length : Nat) : Int) by omega), decide_eq_true (show ((s.length - (ls s).length + (rs (ls s)).length : Nat) : Int) ≤ (s.length : Int) by omega), decide_eq_true (show (0 : Int) ≤ ((s.length - (ls s).length : Nat) : Int) by omega), decide_eq_true (show ((s.length - (ls s).length : Nat) : Int) ≤ ((s.length - (ls s).length + (rs (ls s)).length : Nat) : Int) by omega), ext_BB, LB_BB, ht, ht2, BB_beq, decide_true, hl]
      have hle : ((s.length - (ls s).length + (rs (ls s)).length : Nat) : Int) ≤ (s.length : Int) := by omega
      simp only [hle, decide_true, when_true']
    · rw [decide_eq_true (show (sub.length : Int) > 100 by omega), ifB_true, hl]
      simp only [onR_some, onL_some, List.isEmpty_nil, allF_cons, allF_nil, Bool.and_true, Bool.true_and, when_true', List.getD_cons_zero, List.getD_cons_succ, isF_fz, toF_fz, isBool_bool, toBool_bool, isInt_int, toInt_int, isStr_str, toStr_str, isSl_sl, toSl_sl, List.length_cons, List.length_nil, List.all_cons, List.all_nil, lisFz_fz, ltoFz_fz, beq_self_eq_true, jump_true, ifB_true, ifB_false, isF_pv, isPv_pv, toV_pv, isNil_nilp, isNil_pt, isPt_pt, toAg_ag, cell_ag, isAg_ag, fits_ag, Int.toNat_natCast, Bool.not_true, Bool.not_false, fits_int, fits_bool, fits_str, fits_sl]
  · rw [decide_eq_true (show (s.length : Int) > 3000 by omega), ifB_true, hl]
    simp only [onR_some, onL_some, List.isEmpty_nil, allF_cons, allF_nil, Bool.and_true, Bool.true_and, when_true', List.getD_cons_zero, List.getD_cons_succ, isF_fz, toF_fz, isBool_bool, toBool_bool, isInt_int, toInt_int, isStr_str, toStr_str, isSl_sl, toSl_sl, List.length_cons, List.length_nil, List.all_cons, List.all_nil, lisFz_fz, ltoFz_fz, beq_self_eq_true, jump_true, ifB_true, ifB_false, isF_pv, isPv_pv, toV_pv, isNil_nilp, isNil_pt, isPt_pt, toAg_ag, cell_ag, isAg_ag, fits_ag, Int.toNat_natCast, Bool.not_true, Bool.not_false, fits_int, fits_bool, fits_str, fits_sl]
end Go.Ab
