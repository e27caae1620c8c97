/- The program's own tests of values: bare, rising, items, is, Is. -/
import Derived.Test.YtjkdheebgmnpmaaSUtf3
import Derived.Test.YtjkdheebgmnpmaaSIsR
namespace Go.Ab
set_option linter.unusedVariables false
set_option linter.unusedSimpArgs false
set_option linter.unusedSectionVars false

theorem sb {a b : Bool} (h : a = b) : (some ([TV.fz (FV.bool a)], ([] : List LV))) = some ([TV.fz (FV.bool b)], []) := by rw [h]
theorem ifB_and (b x : Bool) : ifB b (some ([TV.fz (FV.bool x)], ([] : List LV))) (some ([TV.fz (FV.bool false)], [])) = some ([.fz (.bool (b && x))], []) := by
  cases b with
  | true => exact Eq.refl _
  | false => exact Eq.refl _

theorem numIs_ok (c s : Int) : Rt N_num_Is [.fz (.ag [.int .i64 c, .int .i64 s])] = some ([.fz (.bool (num4B c s))], []) := by
  refine rt_call A_num_Is rfl rfl 0 ?_
  rw [E_num_Is]
  simp only [jump_true, J_num_Is_1_0_eq]
  unfold num4B
  generalize decide (s < 0) = b1
  generalize decide (s > 9) = b2
  generalize decide (c ≥ 1000000000000000) = b3
  generalize decide (c ≤ (-1000000000000000)) = b4
  generalize (s == 0) = b5
  cases b1 <;> cases b2 <;> cases b3 <;> cases b4 <;> cases b5 <;> first | exact Eq.refl _ | simp

def bareB (a1 a2 a3 a4 : Bool) (c s : Int) (t : ByteArray) (li lk : Int) : Bool :=
  (a1 || ((c == 0) && (s == 0))) && ((a2 || (t.toList == (⟨#[]⟩ : ByteArray).toList)) && ((a3 || (li == 0)) && (a4 || (lk == 0))))

theorem bare_ok (k c s : Int) (t : ByteArray) (is : List JV) (ks : List ByteArray) (a1 a2 a3 a4 : Bool) :
    Rt N_jval_bare [.fz (.ag [.int .i64 k, .int .i64 c, .int .i64 s, .str t, .sl (is.map JV.enc), .sl (ks.map .str)]), .fz (.bool a1), .fz (.bool a2), .fz (.bool a3), .fz (.bool a4)] = some ([.fz (.bool (bareB a1 a2 a3 a4 c s t is.length ks.length))], []) := by
  refine rt_call A_jval_bare rfl rfl 0 ?_
  rw [E_jval_bare]
  simp only [List.length_map, Bool.and_true]
  unfold bareB
  generalize ((c == 0) && (s == 0)) = b1
  generalize (t.toList == (⟨#[]⟩ : ByteArray).toList) = b2
  generalize ((is.length : Int) == 0) = b3
  generalize ((ks.length : Int) == 0) = b4
  cases a1 <;> cases a2 <;> cases a3 <;> cases a4 <;> cases b1 <;> cases b2 <;> cases b3 <;> cases b4 <;> exact Eq.refl _

section
variable (ks : List ByteArray) (hks : ∀ s ∈ ks, s.size ≤ 8796093022208) (hlk : ks.length ≤ 1152921504606846976)
include hks hlk

theorem rising_ok : Rt N_jval_rising [.fz (.sl (ks.map .str))] = some ([.fz (.bool (keysOk none ks))], []) := by
  have loop : ∀ (K n f i : Nat), n < f → ks.length ≤ i + n → i ≤ ks.length →
    onL (L_jval_rising_1_0 Rt K true f (ks.map .str) (ks.map .str) ks.length i) (K_jval_rising_1 Rt K true) = some ([.fz (.bool (keysOk (prevK ks i) (ks.drop i)))], []) := by
    intro K n
    induction n with
    | zero =>
      intro f i hf hn hi
      obtain ⟨f, rfl⟩ : ∃ m, f = m + 1 := ⟨f - 1, by omega⟩
      have e1 : decide ((i : Int) < (ks.length : Int)) = false := by simp; omega
      rw [L_jval_rising_1_0_eq, List.drop_eq_nil_of_le (show ks.length ≤ i by omega)]
      simp only [e1, ifB_false, onL_some, keysOk, X_jval_rising_1_1_eq]
    | succ n ih =>
      intro f i hf hn hi
      obtain ⟨f, rfl⟩ : ∃ m, f = m + 1 := ⟨f - 1, by omega⟩
      by_cases hl : i < ks.length
      case neg =>
        have e1 : decide ((i : Int) < (ks.length : Int)) = false := by simp; omega
        rw [L_jval_rising_1_0_eq, List.drop_eq_nil_of_le (show ks.length ≤ i by omega)]
        simp only [e1, ifB_false, onL_some, keysOk, X_jval_rising_1_1_eq]
      case pos =>
        have e1 : decide ((i : Int) < (ks.length : Int)) = true := by simp; omega
        have e2 : decide ((0 : Int) ≤ (i : Int)) = true := by simp
        have ht : Rt N_utf_Valid [.fz (.str ks[i])] = some ([.fz (.bool (textB ks[i]))], []) := valid_ok ks[i] (by have := hks _ (List.getElem_mem hl); omega)
        have hw : IntKind.wrap .i64 ((i : Int) + 1) = ((i + 1 : Nat) : Int) := by rw [wrap64 (by omega) (by omega)]; omega
        have h2 := ih f (i + 1) (by omega) (by omega) (by omega)
        have hp : prevK ks (i + 1) = some ks[i] := by simp [prevK, hl]
        rw [hp] at h2
        rw [L_jval_rising_1_0_eq, drop_cons hl]
        simp only [keysOk]
        cases htx : textB ks[i] with
        | false =>
          rw [htx] at ht
          simp only [List.length_map, e1, e2, ifB_true, Bool.and_true, when_true', Int.toNat_natCast, List.getD_eq_getElem?_getD, List.getElem?_map, List.getElem?_eq_getElem hl, Option.map_some, Option.getD_some, fits_str, isStr_str, toStr_str, ht, onR_some, List.isEmpty_nil, allF_cons, allF_nil, List.getElem?_cons_succ, List.getElem?_cons_zero, toF_fz, isBool_bool, toBool_bool, Bool.not_false, onL_some, X_jval_rising_1_0_eq, Bool.false_and]
        | true =>
          rw [htx] at ht
          simp only [List.length_map, e1, e2, ifB_true, Bool.and_true, when_true', Int.toNat_natCast, List.getD_eq_getElem?_getD, List.getElem?_map, List.getElem?_eq_getElem hl, Option.map_some, Option.getD_some, fits_str, isStr_str, toStr_str, ht, onR_some, List.isEmpty_nil, allF_cons, allF_nil, List.getElem?_cons_succ, List.getElem?_cons_zero, toF_fz, isBool_bool, toBool_bool, Bool.not_true, ifB_false, hw, Bool.true_and]
          cases i with
          | zero =>
            have e3 : decide (((0 : Nat) : Int) > 0) = false := rfl
            simp only [e3, ifB_false, prevK, Bool.true_and]
            exact h2
          | succ m =>
            have e3 : decide (((m + 1 : Nat) : Int) > 0) = true := by first | (simp; done) | (simp; omega)
            have hw2 : IntKind.wrap .i64 (((m + 1 : Nat) : Int) - 1) = (m : Int) := by rw [wrap64 (by omega) (by omega)]; omega
            have e4 : decide ((0 : Int) ≤ (m : Int)) = true := by simp
            have e5 : decide ((m : Int) < (ks.length : Int)) = true := by simp; omega
            have hm : m < ks.length := by omega
            have hpm : prevK ks (m + 1) = some ks[m] := by simp [prevK, hm]
            rw [hpm]
            simp only [e3, ifB_true, hw2, e4, e5, Bool.and_true, when_true', Int.toNat_natCast, List.getElem?_eq_getElem hm, Option.map_some, Option.getD_some, fits_str, isStr_str, toStr_str]
            have hle : (Op.bytesLess ks[m + 1].toList ks[m].toList || ks[m + 1].toList == ks[m].toList) = leB ks[m + 1] ks[m] := rfl
            rw [hle]
            cases leB ks[m + 1] ks[m] with
            | true => simp only [ifB_true, onL_some, X_jval_rising_1_0_eq, Bool.not_true, Bool.false_and]
            | false => simp only [ifB_false, Bool.not_false, Bool.true_and]; exact h2
  refine rt_call A_jval_rising rfl rfl (ks.length + 1) ?_
  rw [E_jval_rising, List.length_map]
  have := loop (ks.length + 1) ks.length (ks.length + 1) 0 (by omega) (by omega) (by omega)
  rw [List.drop_zero] at this
  exact this
end

theorem items_ok (is : List JV) (hl : is.length ≤ 1152921504606846976) (d : Int) (h : ∀ v ∈ is, Rt N_jval_is [.fz v.enc, .fz (.int .i64 d)] = some ([.fz (.bool (isR v d))], [])) :
    Rt N_jval_items [.fz (.sl (is.map JV.enc)), .fz (.int .i64 d)] = some ([.fz (.bool (isRs is d))], []) := by
  have items : ∀ (K n f i : Nat), n < f → is.length ≤ i + n → onL (L_jval_items_1_0 Rt K true f d (is.map JV.enc) is.length i) (K_jval_items_1 Rt K true) = some ([.fz (.bool (isRs (is.drop i) d))], []) := by
    intro K n
    induction n with
    | zero =>
      intro f i hf hn
      obtain ⟨f, rfl⟩ : ∃ m, f = m + 1 := ⟨f - 1, by omega⟩
      have e1 : decide ((i : Int) < (is.length : Int)) = false := by simp; omega
      rw [L_jval_items_1_0_eq, List.drop_eq_nil_of_le (show is.length ≤ i by omega)]
      simp only [List.length_map, e1, ifB_false, onL_some, X_jval_items_1_1_eq, isRs]
    | succ n jh =>
      intro f i hf hn
      obtain ⟨f, rfl⟩ : ∃ m, f = m + 1 := ⟨f - 1, by omega⟩
      by_cases hl : i < is.length
      case neg =>
        have e1 : decide ((i : Int) < (is.length : Int)) = false := by simp; omega
        rw [L_jval_items_1_0_eq, List.drop_eq_nil_of_le (show is.length ≤ i by omega)]
        simp only [List.length_map, e1, ifB_false, onL_some, X_jval_items_1_1_eq, isRs]
      case pos =>
        have e1 : decide ((i : Int) < (is.length : Int)) = true := by simp; omega
        have e2 : decide ((0 : Int) ≤ (i : Int)) = true := by simp
        have h1 := h is[i] (List.getElem_mem hl)
        have h2 := jh f (i + 1) (by omega) (by omega)
        have hw : IntKind.wrap .i64 ((i : Int) + 1) = ((i + 1 : Nat) : Int) := by rw [wrap64 (by omega) (by omega)]; omega
        have hk0 : FV.cell is[i].enc 0 = .int .i64 is[i].k := by obtain ⟨k0, _, _, _, _, _⟩ := is[i]; rw [JV.enc_mk]; rfl
        have hag : FV.isAg 6 is[i].enc = true := is[i].enc_fits
        rw [L_jval_items_1_0_eq, drop_cons hl, isRs]
        simp only [List.length_map, e1, e2, ifB_true, Bool.and_true, when_true', Int.toNat_natCast, List.getD_eq_getElem?_getD, List.getElem?_map, List.getElem?_eq_getElem hl, Option.map_some, Option.getD_some, JV.enc_fits, hag, hk0, isInt_int, toInt_int]
        cases h7 : (is[i].k == 7) with
        | true => simp only [ifB_true, onL_some, X_jval_items_1_0_eq, Bool.not_true, Bool.false_and]
        | false =>
          simp only [ifB_false, h1, onR_some, List.isEmpty_nil, allF_cons, allF_nil, Bool.and_true, when_true', List.getElem?_cons_zero, Option.getD_some, toF_fz, isBool_bool, toBool_bool, hw, Bool.not_false, Bool.true_and]
          cases isR is[i] d with
          | true => simp only [Bool.not_true, ifB_false, Bool.true_and]; exact h2
          | false => simp only [Bool.not_false, ifB_true, onL_some, X_jval_items_1_0_eq, Bool.false_and]
  refine rt_call A_jval_items rfl rfl (is.length + 1) ?_
  rw [E_jval_items, List.length_map]
  have := items (is.length + 1) is.length (is.length + 1) 0 (by omega) (by omega)
  rw [List.drop_zero] at this
  exact this
end Go.Ab
