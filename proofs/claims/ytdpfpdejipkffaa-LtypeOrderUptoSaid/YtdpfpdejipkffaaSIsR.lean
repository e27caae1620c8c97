/- Whether a value may be, as the reference says. -/
import Derived.Test.YtdpfpdejipkffaaSUtf1
namespace Go.Ab
set_option linter.unusedVariables false
set_option linter.unusedSimpArgs false
set_option linter.unusedSectionVars false

def textB (s : ByteArray) : Bool := (signsL s.data.toList).isSome
def leB (a b : ByteArray) : Bool := Op.bytesLess a.toList b.toList || a.toList == b.toList

def num4B (c s : Int) : Bool := !(decide (s < 0)) && (!(decide (s > 9)) && (!(decide (c ≥ 1000000000000000)) && (!(decide (c ≤ (-1000000000000000))) && ((s == 0) || (Int.tmod c 10 != 0)))))
def zeroB (k c s : Int) (t : ByteArray) (li lk : Int) : Bool :=
  !((k != 3) && ((c != 0) || (s != 0))) && (!((k != 4) && ((k != 7) && !(t.toList == (⟨#[]⟩ : ByteArray).toList))) && (((k == 5) || ((k == 6) || (li == 0))) && ((k == 6) || (lk == 0))))
def keysOk : Option ByteArray → List ByteArray → Bool
  | _, [] => true
  | p, s :: r => textB s && ((match p with | none => true | some q => !(leB s q)) && keysOk (some s) r)

mutual
def isR : JV → Int → Bool
  | .mk k c s t is ks, d => !(decide (k < 0)) && (!(decide (k > 7)) && (zeroB k c s t is.length ks.length && (!(decide (d > 32)) && (textB t && ((!(k == 3) || num4B c s) && ((!(k == 6) || !((ks.length : Int) != is.length)) && (keysOk none ks && isRs is (IntKind.wrap .i64 (d + 1)))))))))
def isRs : List JV → Int → Bool
  | [], _ => true
  | v :: r, d => !(v.k == 7) && (isR v d && isRs r d)
end

theorem num4_ok (c s : Int) : Rt N_ref04_Is [.fz (.ag [.int .i64 c, .int .i64 s])] = some ([.fz (.bool (num4B c s))], []) := by
  refine rt_call A_ref04_Is rfl rfl 0 ?_
  rw [E_ref04_Is]
  simp only [jump_true, J_ref04_Is_1_0_eq]
  unfold num4B
  generalize decide (s < 0) = b1
  generalize decide (s > 9) = b2
  generalize decide (c ≥ 1000000000000000) = b3
  generalize decide (c ≤ (-1000000000000000)) = b4
  generalize (s == 0) = b5
  cases b1 <;> cases b2 <;> cases b3 <;> cases b4 <;> cases b5 <;> first | exact Eq.refl _ | simp

theorem zero_ok (k c s : Int) (t : ByteArray) (is : List JV) (ks : List ByteArray) : Rt N_ref05_zero [.fz (.ag [.int .i64 k, .int .i64 c, .int .i64 s, .str t, .sl (is.map JV.enc), .sl (ks.map .str)])] = some ([.fz (.bool (zeroB k c s t is.length ks.length))], []) := by
  refine rt_call A_ref05_zero rfl rfl 0 ?_
  have hJ : J_ref05_zero_1_0 Rt 0 true k c s t (is.map JV.enc) (ks.map .str) = some ([.fz (.bool (((k == 5) || ((k == 6) || ((is.length : Int) == 0))) && ((k == 6) || ((ks.length : Int) == 0))))], []) := by
    rw [J_ref05_zero_1_0_eq]
    simp only [List.length_map]
    generalize (k == 5) = b1
    generalize (k == 6) = b2
    generalize ((is.length : Int) == 0) = b3
    generalize ((ks.length : Int) == 0) = b4
    cases b1 <;> cases b2 <;> cases b3 <;> cases b4 <;> exact Eq.refl _
  rw [E_ref05_zero]
  simp only [jump_true, hJ]
  unfold zeroB
  generalize (((k == 5) || ((k == 6) || ((is.length : Int) == 0))) && ((k == 6) || ((ks.length : Int) == 0))) = z
  generalize (k != 3) = b1
  generalize (c != 0) = b2
  generalize (s != 0) = b3
  generalize (k != 4) = b4
  generalize (k != 7) = b5
  generalize (t.toList == (⟨#[]⟩ : ByteArray).toList) = b6
  cases b1 <;> cases b2 <;> cases b3 <;> cases b4 <;> cases b5 <;> cases b6 <;> exact Eq.refl _

section
variable (d k c s : Int) (t : ByteArray) (is : List JV) (ks : List ByteArray) (hks : ∀ s ∈ ks, s.size ≤ 8796093022208) (hlk : ks.length ≤ 1152921504606846976)
include hks hlk

theorem text_ok {s : ByteArray} (h : s ∈ ks) : ∃ l, Rt N_ref03_Signs [.fz (.str s)] = some ([.fz (.sl l), .fz (.bool (textB s))], []) := by
  rw [signs_ok s (hks s h)]
  unfold textB
  cases signsL s.data.toList with
  | none => exact ⟨_, rfl⟩
  | some cs => exact ⟨_, rfl⟩

def prevK (ks : List ByteArray) (i : Nat) : Option ByteArray := match i with | 0 => none | m + 1 => ks[m]?

theorem is_keys (K : Nat) : ∀ (n f i : Nat), n < f → ks.length ≤ i + n → i ≤ ks.length →
    onL (L_ref05_Is_1_0 Rt K true f d i k c s t (is.map JV.enc) (ks.map .str)) (K_ref05_Is_1 Rt K true) = (match keysOk (prevK ks i) (ks.drop i) with
      | true => K_ref05_Is_1 Rt K true (.exit 0) (X_ref05_Is_1_1 d k c s t (is.map JV.enc) (ks.map .str))
      | false => some ([.fz (.bool false)], [])) := by
  intro n
  induction n with
  | zero =>
    intro f i hf hn hi
    obtain ⟨f, rfl⟩ : ∃ m, f = m + 1 := ⟨f - 1, by omega⟩
    have e1 : decide ((i : Int) < (ks.length : Int)) = false := by simp; omega
    rw [L_ref05_Is_1_0_eq, List.drop_eq_nil_of_le (show ks.length ≤ i by omega)]
    simp only [List.length_map, e1, ifB_false, onL_some, keysOk]
  | succ n ih =>
    intro f i hf hn hi
    obtain ⟨f, rfl⟩ : ∃ m, f = m + 1 := ⟨f - 1, by omega⟩
    by_cases hl : i < ks.length
    case neg =>
      have e1 : decide ((i : Int) < (ks.length : Int)) = false := by simp; omega
      rw [L_ref05_Is_1_0_eq, List.drop_eq_nil_of_le (show ks.length ≤ i by omega)]
      simp only [List.length_map, e1, ifB_false, onL_some, keysOk]
    case pos =>
      have e1 : decide ((i : Int) < (ks.length : Int)) = true := by simp; omega
      have e2 : decide ((0 : Int) ≤ (i : Int)) = true := by simp
      obtain ⟨l, ht⟩ := text_ok ks hks hlk (List.getElem_mem hl)
      have hw : IntKind.wrap .i64 ((i : Int) + 1) = ((i + 1 : Nat) : Int) := by rw [wrap64 (by omega) (by omega)]; omega
      have h2 := ih f (i + 1) (by omega) (by omega) (by omega)
      have hp : prevK ks (i + 1) = some ks[i] := by simp [prevK, hl]
      rw [hp] at h2
      rw [L_ref05_Is_1_0_eq, drop_cons hl]
      simp only [keysOk]
      cases htx : textB ks[i] with
      | false =>
        rw [htx] at ht
        simp only [List.length_map, e1, e2, ifB_true, Bool.and_true, when_true', Int.toNat_natCast, List.getD_eq_getElem?_getD, List.getElem?_map, List.getElem?_eq_getElem hl, Option.map_some, Option.getD_some, fits_str, isStr_str, toStr_str, ht, onR_some, List.isEmpty_nil, allF_cons, allF_nil, List.getElem?_cons_succ, List.getElem?_cons_zero, toF_fz, isBool_bool, toBool_bool, Bool.not_false, onL_some, X_ref05_Is_1_0_eq, Bool.false_and]
      | true =>
        rw [htx] at ht
        simp only [List.length_map, e1, e2, ifB_true, Bool.and_true, when_true', Int.toNat_natCast, List.getD_eq_getElem?_getD, List.getElem?_map, List.getElem?_eq_getElem hl, Option.map_some, Option.getD_some, fits_str, isStr_str, toStr_str, ht, onR_some, List.isEmpty_nil, allF_cons, allF_nil, List.getElem?_cons_succ, List.getElem?_cons_zero, toF_fz, isBool_bool, toBool_bool, Bool.not_true, ifB_false, hw, Bool.true_and]
        cases i with
        | zero =>
          have e3 : decide (((0 : Nat) : Int) > 0) = false := rfl
          simp only [e3, ifB_false, prevK, Bool.true_and]
          exact h2
        | succ m =>
          have e3 : decide (((m + 1 : Nat) : Int) > 0) = true := by first | (simp; done) | (simp; omega)
          have hw2 : IntKind.wrap .i64 (((m + 1 : Nat) : Int) - 1) = (m : Int) := by rw [wrap64 (by omega) (by omega)]; omega
          have e4 : decide ((0 : Int) ≤ (m : Int)) = true := by simp
          have e5 : decide ((m : Int) < (ks.length : Int)) = true := by simp; omega
          have hm : m < ks.length := by omega
          have hpm : prevK ks (m + 1) = some ks[m] := by simp [prevK, hm]
          rw [hpm]
          simp only [e3, ifB_true, hw2, e4, e5, Bool.and_true, when_true', Int.toNat_natCast, List.getElem?_eq_getElem hm, Option.map_some, Option.getD_some, fits_str, isStr_str, toStr_str]
          have hle : (Op.bytesLess ks[m + 1].toList ks[m].toList || ks[m + 1].toList == ks[m].toList) = leB ks[m + 1] ks[m] := rfl
          rw [hle]
          cases leB ks[m + 1] ks[m] with
          | true => simp only [ifB_true, onL_some, X_ref05_Is_1_0_eq, Bool.not_true, Bool.false_and]
          | false => simp only [ifB_false, Bool.not_false, Bool.true_and]; exact h2
end

/-- All texts in a value are short. -/
inductive JV.Short : JV → Prop where
  | mk {k c s : Int} {t : ByteArray} {is : List JV} {ks : List ByteArray} (ht : t.size ≤ 8796093022208) (hs : ∀ s ∈ ks, s.size ≤ 8796093022208) (h : ∀ v ∈ is, v.Short) : (JV.mk k c s t is ks).Short

theorem is_ok {v : JV} (hv : v.Sm) : v.Short → ∀ d : Int, Rt N_ref05_Is [.fz v.enc, .fz (.int .i64 d)] = some ([.fz (.bool (isR v d))], []) := by
  induction hv with
  | @mk k c s t is ks hi hk hsm ih =>
    intro hsh d
    cases hsh with
    | mk ht hs hsh =>
    have items : d ≤ 32 → ∀ (n f i : Nat), n < f → is.length ≤ i + n → onL (L_ref05_Is_2_0 Rt (is.length + ks.length + 2) true f d i k c s t (is.map JV.enc) (ks.map .str)) (K_ref05_Is_2 Rt (is.length + ks.length + 2) true) = some ([.fz (.bool (isRs (is.drop i) (IntKind.wrap .i64 (d + 1))))], []) := by
      intro hd n
      induction n with
      | zero =>
        intro f i hf hn
        obtain ⟨f, rfl⟩ : ∃ m, f = m + 1 := ⟨f - 1, by omega⟩
        have e1 : decide ((i : Int) < (is.length : Int)) = false := by simp; omega
        rw [L_ref05_Is_2_0_eq, List.drop_eq_nil_of_le (show is.length ≤ i by omega)]
        simp only [List.length_map, e1, ifB_false, onL_some, X_ref05_Is_2_1_eq, isRs]
      | succ n jh =>
        intro f i hf hn
        obtain ⟨f, rfl⟩ : ∃ m, f = m + 1 := ⟨f - 1, by omega⟩
        by_cases hl : i < is.length
        case neg =>
          have e1 : decide ((i : Int) < (is.length : Int)) = false := by simp; omega
          rw [L_ref05_Is_2_0_eq, List.drop_eq_nil_of_le (show is.length ≤ i by omega)]
          simp only [List.length_map, e1, ifB_false, onL_some, X_ref05_Is_2_1_eq, isRs]
        case pos =>
          have e1 : decide ((i : Int) < (is.length : Int)) = true := by simp; omega
          have e2 : decide ((0 : Int) ≤ (i : Int)) = true := by simp
          have hm := List.getElem_mem hl
          have h1 := ih is[i] hm (hsh _ hm) (IntKind.wrap .i64 (d + 1))
          have h2 := jh f (i + 1) (by omega) (by omega)
          have hw : IntKind.wrap .i64 ((i : Int) + 1) = ((i + 1 : Nat) : Int) := by rw [wrap64 (by omega) (by omega)]; omega
          have hk0 : FV.cell is[i].enc 0 = .int .i64 is[i].k := by obtain ⟨k0, _, _, _, _, _⟩ := is[i]; rw [JV.enc_mk]; rfl
          have hag : FV.isAg 6 is[i].enc = true := is[i].enc_fits
          rw [L_ref05_Is_2_0_eq, drop_cons hl, isRs]
          simp only [List.length_map, e1, e2, ifB_true, Bool.and_true, when_true', Int.toNat_natCast, List.getD_eq_getElem?_getD, List.getElem?_map, List.getElem?_eq_getElem hl, Option.map_some, Option.getD_some, JV.enc_fits, hag, hk0, isInt_int, toInt_int]
          cases h7 : (is[i].k == 7) with
          | true => simp only [ifB_true, onL_some, X_ref05_Is_2_0_eq, Bool.not_true, Bool.false_and]
          | false =>
            simp only [ifB_false, h1, onR_some, List.isEmpty_nil, allF_cons, allF_nil, Bool.and_true, when_true', List.getElem?_cons_zero, Option.getD_some, toF_fz, isBool_bool, toBool_bool, hw, Bool.not_false, Bool.true_and]
            cases isR is[i] (IntKind.wrap .i64 (d + 1)) with
            | true => simp only [Bool.not_true, ifB_false, Bool.true_and]; exact h2
            | false => simp only [Bool.not_false, ifB_true, onL_some, X_ref05_Is_2_0_eq, Bool.false_and]
    have hz := zero_ok k c s t is ks
    obtain ⟨lt, htx⟩ : ∃ l, Rt N_ref03_Signs [.fz (.str t)] = some ([.fz (.sl l), .fz (.bool (textB t))], []) := by
      rw [signs_ok t ht]
      unfold textB
      cases signsL t.data.toList with
      | none => exact ⟨_, rfl⟩
      | some cs => exact ⟨_, rfl⟩
    refine rt_call A_ref05_Is rfl rfl (is.length + ks.length + 2) ?_
    rw [JV.enc_mk, E_ref05_Is, isR]
    cases h1 : decide (k < 0) with
    | true => simp only [ifB_true, Bool.not_true, Bool.false_and]
    | false =>
    cases h2 : decide (k > 7) with
    | true => simp only [ifB_true, ifB_false, Bool.not_true, Bool.not_false, Bool.false_and, Bool.and_false]
    | false =>
    simp only [ifB_false, hz, onR_some, List.isEmpty_nil, allF_cons, allF_nil, Bool.and_true, when_true', List.getD_cons_zero, toF_fz, isBool_bool, toBool_bool, Bool.not_false, Bool.true_and]
    cases h3 : zeroB k c s t is.length ks.length with
    | false => simp only [Bool.not_false, ifB_true, Bool.false_and]
    | true =>
    simp only [Bool.not_true, ifB_false, Bool.true_and]
    by_cases hd : d > 32
    · have h4 : decide (d > 32) = true := by simpa using hd
      simp only [h4, ifB_true, Bool.not_true, Bool.false_and]
    have h4 : decide (d > 32) = false := by simpa using hd
    have hJ3 : J_ref05_Is_3_0 Rt (is.length + ks.length + 2) true d k c s t (is.map JV.enc) (ks.map .str) = some ([.fz (.bool (keysOk none ks && isRs is (IntKind.wrap .i64 (d + 1))))], []) := by
      rw [J_ref05_Is_3_0_eq]
      have := is_keys d k c s t is ks hs hk (is.length + ks.length + 2) ks.length (is.length + ks.length + 2) 0 (by omega) (by omega) (by omega)
      rw [show ((0 : Nat) : Int) = 0 from rfl, List.drop_zero] at this
      rw [this]
      have h2 := items (by omega) is.length (is.length + ks.length + 2) 0 (by omega) (by omega)
      rw [show ((0 : Nat) : Int) = 0 from rfl, List.drop_zero] at h2
      cases hko : keysOk none ks with
      | true => simp only [prevK, hko, X_ref05_Is_1_1_eq, h2, Bool.true_and]
      | false => simp only [prevK, hko, Bool.false_and]
    have hN4 := num4_ok c s
    simp only [h4, ifB_false, Bool.not_false, Bool.true_and, jump_true, J_ref05_Is_4_0_eq, htx, onR_some, List.isEmpty_nil, allF_cons, allF_nil, Bool.and_true, when_true', List.getD_cons_zero, List.getD_cons_succ, toF_fz, isBool_bool, toBool_bool, hN4, hJ3, List.length_map]
    have hw5 : IntKind.wrap .i64 (d + 1) = IntKind.wrap .i64 (d + 1) := rfl
    cases textB t with
    | false => simp only [Bool.not_false, ifB_true, Bool.false_and]
    | true =>
    simp only [Bool.not_true, ifB_false, Bool.true_and]
    have tail : ∀ b : Bool, (ifB (k == 6) (ifB ((ks.length : Int) != (is.length : Int)) (some ([TV.fz (FV.bool false)], ([] : List LV))) (some ([TV.fz (FV.bool (keysOk none ks && isRs is (IntKind.wrap .i64 (d + 1))))], []))) (some ([TV.fz (FV.bool (keysOk none ks && isRs is (IntKind.wrap .i64 (d + 1))))], []))) = some ([.fz (.bool ((!(k == 6) || !((ks.length : Int) != is.length)) && (keysOk none ks && isRs is (IntKind.wrap .i64 (d + 1)))))], []) := fun _ => by
      cases (k == 6) <;> cases ((ks.length : Int) != (is.length : Int)) <;> exact Eq.refl _
    rw [tail true]
    cases (k == 3) with
    | false => simp only [ifB_false, Bool.not_false, Bool.true_or, Bool.true_and]
    | true =>
      cases num4B c s with
      | false => simp only [ifB_true, Bool.not_false, Bool.not_true, Bool.false_or, Bool.false_and]
      | true => simp only [ifB_true, ifB_false, Bool.not_true, Bool.false_or, Bool.true_and]
end Go.Ab
