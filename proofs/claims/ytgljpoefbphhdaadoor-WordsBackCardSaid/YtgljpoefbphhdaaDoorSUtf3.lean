/- The program's texts: a sign's size, and whether it is a text. -/
import Derived.Test.YtgljpoefbphhdaaDoorSUtf2
namespace Go.Ab
set_option linter.unusedVariables false
set_option linter.unusedSimpArgs false
set_option linter.unusedSectionVars false

section
variable (s : ByteArray) (hs : s.size ≤ 1152921504606846976)
include hs

theorem tail_loop (K n : Nat) (hn : n < s.data.toList.length) : ∀ (m f i : Nat), m < f → n + 1 ≤ i + m → 2 ≤ i →
    onL (L_utf_tail_1_0 Rt K true f s n i) (K_utf_tail_1 Rt K true) = some ([.fz (.bool (((s.data.toList.drop i).take (n + 1 - i)).all contB))], []) := by
  have hbs := bytes_size s
  intro m
  induction m with
  | zero =>
    intro f i hf hi h2
    obtain ⟨f, rfl⟩ : ∃ m, f = m + 1 := ⟨f - 1, by omega⟩
    have e1 : decide ((i : Int) ≤ (n : Int)) = false := by simp; omega
    rw [L_utf_tail_1_0_eq, show n + 1 - i = 0 by omega]
    simp only [e1, ifB_false, onL_some, X_utf_tail_1_1_eq, List.take_zero, List.all_nil]
  | succ m ih =>
    intro f i hf hi h2
    obtain ⟨f, rfl⟩ : ∃ m, f = m + 1 := ⟨f - 1, by omega⟩
    by_cases hl : i ≤ n
    case neg =>
      have e1 : decide ((i : Int) ≤ (n : Int)) = false := by simp; omega
      rw [L_utf_tail_1_0_eq, show n + 1 - i = 0 by omega]
      simp only [e1, ifB_false, onL_some, X_utf_tail_1_1_eq, List.take_zero, List.all_nil]
    case pos =>
      have hi' : i < s.data.toList.length := by omega
      have e1 : decide ((i : Int) ≤ (n : Int)) = true := by simp; omega
      have e2 : decide ((0 : Int) ≤ (i : Int)) = true := by simp
      have e3 : decide ((i : Int) < (s.size : Int)) = true := by simp; omega
      have hw : IntKind.wrap .i64 ((i : Int) + 1) = ((i + 1 : Nat) : Int) := by rw [wrap64 (by omega) (by omega)]; omega
      have h := ih f (i + 1) (by omega) (by omega) (by omega)
      rw [L_utf_tail_1_0_eq, drop_cons hi', show n + 1 - i = (n + 1 - (i + 1)) + 1 by omega, List.take_succ_cons, List.all_cons]
      simp only [e1, e2, e3, ifB_true, Bool.and_true, when_true', Int.toNat_natCast, byteAt hi']
      generalize s.data.toList[i] = d
      by_cases h1 : d.toNat < 128
      · have a1 : decide ((d.toNat : Int) < 128) = true := by simp; omega
        have a2 : contB d = false := by simp [contB]; omega
        simp only [a1, a2, ifB_true, onL_some, X_utf_tail_1_0_eq, Bool.false_and]
      · have a1 : decide ((d.toNat : Int) < 128) = false := by simp; omega
        by_cases h3 : d.toNat ≤ 191
        · have a2 : decide ((d.toNat : Int) > 191) = false := by simp; omega
          have a3 : contB d = true := by simp [contB]; omega
          simp only [a1, a2, a3, ifB_false, hw, Bool.true_and]
          exact h
        · have a2 : decide ((d.toNat : Int) > 191) = true := by simp; omega
          have a3 : contB d = false := by simp [contB]; omega
          simp only [a1, a2, a3, ifB_false, ifB_true, onL_some, X_utf_tail_1_0_eq, Bool.false_and]

theorem tail_ok (n lo hi : Nat) (h1 : 1 ≤ n) (hn : n ≤ 1000) : Rt N_utf_tail [.fz (.str s), .fz (.int .i64 n), .fz (.int .u8 lo), .fz (.int .u8 hi)] = some ([.fz (.bool (tailB s.data.toList n lo hi))], []) := by
  have hbs := bytes_size s
  refine rt_call A_utf_tail rfl rfl (n + 2) ?_
  rw [E_utf_tail]
  by_cases hsz : s.size ≤ n
  · have e1 : decide ((s.size : Int) ≤ (n : Int)) = true := by simp; omega
    have ht : tailB s.data.toList n lo hi = false := by
      match hq : s.data.toList with
      | [] => rfl
      | [_] => rfl
      | a :: b :: r =>
        rw [hq] at hbs
        simp only [List.length_cons] at hbs
        simp only [tailB]
        have : decide (n ≤ r.length + 1) = false := by simp; omega
        rw [this]
        simp
    simp only [e1, ht, ifB_true]
  · have e1 : decide ((s.size : Int) ≤ (n : Int)) = false := by simp; omega
    have e2 : decide (1 < (s.size : Int)) = true := by simp; omega
    have hl : 1 < s.data.toList.length := by omega
    have hlo := tail_loop s hs (n + 2) n (by omega) n (n + 2) 2 (by omega) (by omega) (by omega)
    have hb := byteAt hl
    have hd : s.data.toList = s.data.toList[0] :: s.data.toList[1] :: s.data.toList.drop 2 := by
      have a1 := drop_cons (show 0 < s.data.toList.length by omega)
      have a2 := drop_cons hl
      rw [List.drop_zero] at a1
      rw [← a2]; exact a1
    have ht : tailB s.data.toList n lo hi = (decide (lo ≤ s.data.toList[1].toNat ∧ s.data.toList[1].toNat ≤ hi) && ((s.data.toList.drop 2).take (n + 1 - 2)).all contB) := by
      have hlen : (s.data.toList.drop 2).length + 2 = s.size := by rw [List.length_drop]; omega
      have e3 : decide (n ≤ (s.data.toList.drop 2).length + 1) = true := by simp only [decide_eq_true_eq]; omega
      have : ∀ l : List UInt8, l = s.data.toList[0] :: s.data.toList[1] :: s.data.toList.drop 2 → tailB l n lo hi = (decide (lo ≤ s.data.toList[1].toNat ∧ s.data.toList[1].toNat ≤ hi) && ((s.data.toList.drop 2).take (n + 1 - 2)).all contB) := fun l hl' => by
        rw [hl']
        simp only [tailB, e3, Bool.true_and, show n + 1 - 2 = n - 1 by omega]
      exact this _ hd
    rw [ht]
    simp only [e1, e2, ifB_false, when_true', hb, jump_true, J_utf_tail_2_0_eq]
    rw [show ((2 : Nat) : Int) = 2 from rfl] at hlo
    rw [hlo]
    generalize s.data.toList[1] = d
    by_cases h1 : lo ≤ d.toNat
    · have a1 : decide ((d.toNat : Int) < (lo : Int)) = false := by simp; omega
      by_cases h3 : d.toNat ≤ hi
      · have a2 : decide ((d.toNat : Int) > (hi : Int)) = false := by simp; omega
        simp only [a1, a2, ifB_false, decide_eq_true (show lo ≤ d.toNat ∧ d.toNat ≤ hi from ⟨h1, h3⟩), Bool.true_and]
      · have a2 : decide ((d.toNat : Int) > (hi : Int)) = true := by simp; omega
        simp only [a1, a2, ifB_false, ifB_true, decide_eq_false (show ¬ (lo ≤ d.toNat ∧ d.toNat ≤ hi) by omega), Bool.false_and]
    · have a1 : decide ((d.toNat : Int) < (lo : Int)) = true := by simp; omega
      simp only [a1, ifB_true, decide_eq_false (show ¬ (lo ≤ d.toNat ∧ d.toNat ≤ hi) by omega), Bool.false_and]

theorem size_ok (hne : 0 < s.data.toList.length) : Rt N_utf_size [.fz (.str s)] = some ([.fz (.int .i64 (sizeB s.data.toList : Int))], []) := by
  have hbs := bytes_size s
  refine rt_call A_utf_size rfl rfl 0 ?_
  rw [E_utf_size]
  have e0 : decide (0 < (s.size : Int)) = true := by simp; omega
  have T1 := tail_ok s hs 1 128 191 (by omega) (by omega)
  rw [show ((1 : Nat) : Int) = 1 from rfl, show ((128 : Nat) : Int) = 128 from rfl, show ((191 : Nat) : Int) = 191 from rfl] at T1
  have T2 := tail_ok s hs 2 160 191 (by omega) (by omega)
  rw [show ((2 : Nat) : Int) = 2 from rfl, show ((160 : Nat) : Int) = 160 from rfl, show ((191 : Nat) : Int) = 191 from rfl] at T2
  have T3 := tail_ok s hs 2 128 191 (by omega) (by omega)
  rw [show ((2 : Nat) : Int) = 2 from rfl, show ((128 : Nat) : Int) = 128 from rfl, show ((191 : Nat) : Int) = 191 from rfl] at T3
  have T4 := tail_ok s hs 2 128 159 (by omega) (by omega)
  rw [show ((2 : Nat) : Int) = 2 from rfl, show ((128 : Nat) : Int) = 128 from rfl, show ((159 : Nat) : Int) = 159 from rfl] at T4
  have T5 := tail_ok s hs 3 144 191 (by omega) (by omega)
  rw [show ((3 : Nat) : Int) = 3 from rfl, show ((144 : Nat) : Int) = 144 from rfl, show ((191 : Nat) : Int) = 191 from rfl] at T5
  have T6 := tail_ok s hs 3 128 191 (by omega) (by omega)
  rw [show ((3 : Nat) : Int) = 3 from rfl, show ((128 : Nat) : Int) = 128 from rfl, show ((191 : Nat) : Int) = 191 from rfl] at T6
  have T7 := tail_ok s hs 3 128 143 (by omega) (by omega)
  rw [show ((3 : Nat) : Int) = 3 from rfl, show ((128 : Nat) : Int) = 128 from rfl, show ((143 : Nat) : Int) = 143 from rfl] at T7
  have hd : s.data.toList = s.data.toList[0] :: s.data.toList.drop 1 := by
    have a1 := drop_cons hne
    rwa [List.drop_zero] at a1
  have hsz : sizeB s.data.toList = (if s.data.toList[0].toNat < 128 then 1
    else if decide (194 ≤ s.data.toList[0].toNat) && (decide (s.data.toList[0].toNat ≤ 223) && tailB s.data.toList 1 128 191) then 2
    else if (decide (s.data.toList[0].toNat = 224) && tailB s.data.toList 2 160 191) || ((decide (225 ≤ s.data.toList[0].toNat) && (decide (s.data.toList[0].toNat ≤ 239) && (!decide (s.data.toList[0].toNat = 237) && tailB s.data.toList 2 128 191))) || (decide (s.data.toList[0].toNat = 237) && tailB s.data.toList 2 128 159)) then 3
    else if (decide (s.data.toList[0].toNat = 240) && tailB s.data.toList 3 144 191) || ((decide (241 ≤ s.data.toList[0].toNat) && (decide (s.data.toList[0].toNat ≤ 243) && tailB s.data.toList 3 128 191)) || (decide (s.data.toList[0].toNat = 244) && tailB s.data.toList 3 128 143)) then 4
    else 0) := by
    generalize hg : s.data.toList[0] = c at *
    generalize s.data.toList.drop 1 = r at hd
    rw [hd]
    simp only [sizeB]
  rw [hsz]
  simp only [e0, when_true', byteAt hne]
  generalize tailB s.data.toList 1 128 191 = t1 at *
  generalize tailB s.data.toList 2 160 191 = t2 at *
  generalize tailB s.data.toList 2 128 191 = t3 at *
  generalize tailB s.data.toList 2 128 159 = t4 at *
  generalize tailB s.data.toList 3 144 191 = t5 at *
  generalize tailB s.data.toList 3 128 191 = t6 at *
  generalize tailB s.data.toList 3 128 143 = t7 at *
  generalize s.data.toList[0] = c
  have d0 : decide ((c.toNat : Int) < 128) = decide (c.toNat < 128) := decide_eq_decide.2 (by omega)
  have d1 : decide ((c.toNat : Int) ≥ 194) = decide (194 ≤ c.toNat) := decide_eq_decide.2 (by omega)
  have d2 : decide ((c.toNat : Int) ≤ 223) = decide (c.toNat ≤ 223) := decide_eq_decide.2 (by omega)
  have d3 : ((c.toNat : Int) == 224) = decide (c.toNat = 224) := by rw [Bool.eq_iff_iff]; simp; omega
  have d4 : decide ((c.toNat : Int) ≥ 225) = decide (225 ≤ c.toNat) := decide_eq_decide.2 (by omega)
  have d5 : decide ((c.toNat : Int) ≤ 239) = decide (c.toNat ≤ 239) := decide_eq_decide.2 (by omega)
  have d6 : ((c.toNat : Int) != 237) = !decide (c.toNat = 237) := by rw [Bool.eq_iff_iff]; simp; omega
  have d7 : ((c.toNat : Int) == 237) = decide (c.toNat = 237) := by rw [Bool.eq_iff_iff]; simp; omega
  have d8 : ((c.toNat : Int) == 240) = decide (c.toNat = 240) := by rw [Bool.eq_iff_iff]; simp; omega
  have d9 : decide ((c.toNat : Int) ≥ 241) = decide (241 ≤ c.toNat) := decide_eq_decide.2 (by omega)
  have d10 : decide ((c.toNat : Int) ≤ 243) = decide (c.toNat ≤ 243) := decide_eq_decide.2 (by omega)
  have d11 : ((c.toNat : Int) == 244) = decide (c.toNat = 244) := by rw [Bool.eq_iff_iff]; simp; omega
  generalize decide (c.toNat = 237) = q7 at d6 d7 ⊢
  generalize decide (c.toNat = 244) = q4 at d11 ⊢
  have J3 : ∀ x : Bool, J_utf_size_3_0 Rt 0 true s c.toNat x = some ([.fz (.int .i64 (if x || (q4 && t7) then 4 else 0))], []) := fun x => by
    rw [J_utf_size_3_0_eq, d11]
    cases x with
    | true => simp
    | false => cases q4 <;> cases t7 <;> simp [T7, onR_some]
  have J4 : ∀ x : Bool, J_utf_size_4_0 Rt 0 true s c.toNat x = some ([.fz (.int .i64 (if x || ((decide (241 ≤ c.toNat) && (decide (c.toNat ≤ 243) && t6)) || (q4 && t7)) then 4 else 0))], []) := fun x => by
    rw [J_utf_size_4_0_eq, d9, d10]
    cases x with
    | true => simp
    | false => cases decide (241 ≤ c.toNat) <;> cases decide (c.toNat ≤ 243) <;> cases t6 <;> simp [T6, onR_some, J3]
  have J6 : ∀ x : Bool, J_utf_size_6_0 Rt 0 true s c.toNat x = some ([.fz (.int .i64 (if x then 3 else if (decide (c.toNat = 240) && t5) || ((decide (241 ≤ c.toNat) && (decide (c.toNat ≤ 243) && t6)) || (q4 && t7)) then 4 else 0))], []) := fun x => by
    rw [J_utf_size_6_0_eq, d8]
    cases x with
    | true => simp
    | false => cases decide (c.toNat = 240) <;> cases t5 <;> simp [T5, onR_some, J4]
  have J1 : ∀ x : Bool, J_utf_size_1_0 Rt 0 true s c.toNat x = J_utf_size_6_0 Rt 0 true s c.toNat (x || (q7 && t4)) := fun x => by
    rw [J_utf_size_1_0_eq, d7]
    cases x with
    | true => simp
    | false => cases q7 <;> simp [T4, onR_some]
  have J2 : ∀ x : Bool, J_utf_size_2_0 Rt 0 true s c.toNat x = J_utf_size_6_0 Rt 0 true s c.toNat (x || ((decide (225 ≤ c.toNat) && (decide (c.toNat ≤ 239) && (!q7 && t3))) || (q7 && t4))) := fun x => by
    rw [J_utf_size_2_0_eq, d4, d5, d6]
    cases x with
    | true => simp
    | false => cases decide (225 ≤ c.toNat) <;> cases decide (c.toNat ≤ 239) <;> cases q7 <;> simp [T3, onR_some, J1]
  have J8 : ∀ x : Bool, J_utf_size_8_0 Rt 0 true s c.toNat x = (if x then some ([.fz (.int .i64 2)], []) else J_utf_size_6_0 Rt 0 true s c.toNat ((decide (c.toNat = 224) && t2) || ((decide (225 ≤ c.toNat) && (decide (c.toNat ≤ 239) && (!q7 && t3))) || (q7 && t4)))) := fun x => by
    rw [J_utf_size_8_0_eq, d3]
    cases x with
    | true => simp
    | false => cases decide (c.toNat = 224) <;> simp [T2, onR_some, J2]
  rw [d0, d1, d2]
  by_cases h0 : c.toNat < 128
  · simp [h0]
  · simp only [decide_eq_false h0, if_neg h0, ifB_false]
    have R8 : ∀ x : Bool, J_utf_size_8_0 Rt 0 true s c.toNat x = some ([.fz (.int .i64 ((if x then 2 else if (decide (c.toNat = 224) && t2) || ((decide (225 ≤ c.toNat) && (decide (c.toNat ≤ 239) && (!q7 && t3))) || (q7 && t4)) then 3 else if (decide (c.toNat = 240) && t5) || ((decide (241 ≤ c.toNat) && (decide (c.toNat ≤ 243) && t6)) || (q4 && t7)) then 4 else 0 : Nat) : Int))], []) := fun x => by
      rw [J8, J6]
      cases x with
      | true => simp only [if_true]; exact Eq.refl _
      | false =>
        simp only [Bool.false_eq_true, if_false]
        generalize ((decide (c.toNat = 224) && t2) || ((decide (225 ≤ c.toNat) && (decide (c.toNat ≤ 239) && (!q7 && t3))) || (q7 && t4))) = u1
        generalize ((decide (c.toNat = 240) && t5) || ((decide (241 ≤ c.toNat) && (decide (c.toNat ≤ 243) && t6)) || (q4 && t7))) = u2
        cases u1 <;> cases u2 <;> exact Eq.refl _
    cases decide (194 ≤ c.toNat) <;> cases decide (c.toNat ≤ 223) <;> simp only [ifB_true, ifB_false, jump_true, R8, Bool.false_and, Bool.true_and, Bool.and_false] <;> try exact Eq.refl _
    rw [T1]
    simp only [onR_some, List.isEmpty_nil, allF_cons, allF_nil, Bool.and_true, when_true', List.getD_cons_zero, toF_fz, isBool_bool, toBool_bool, jump_true, R8]
end

/-- Valid, as the program asks, is the reference's. -/
theorem valid_ok (s : ByteArray) (hs : s.size ≤ 1152921504606846976) : Rt N_utf_Valid [.fz (.str s)] = some ([.fz (.bool (signsL s.data.toList).isSome)], []) := by
  have loop : ∀ (n : Nat) (K f : Nat) (s : ByteArray), s.size ≤ 1152921504606846976 → n < f → s.data.toList.length ≤ n → onL (L_utf_Valid_1_0 Rt K true f s) (K_utf_Valid_1 Rt K true) = some ([.fz (.bool (signsN n s.data.toList).isSome)], []) := by
    intro n
    induction n with
    | zero =>
      intro K f s hs hf hl
      obtain ⟨f, rfl⟩ : ∃ m, f = m + 1 := ⟨f - 1, by omega⟩
      have h0 : s.data.toList = [] := List.length_eq_zero_iff.1 (by omega)
      have e1 : (s.toList == (⟨#[]⟩ : ByteArray).toList) = true := by rw [ByteArray.toList_eq, ByteArray.toList_eq, h0]; rfl
      rw [L_utf_Valid_1_0_eq, h0]
      simp only [e1, Bool.not_true, ifB_false, onL_some, X_utf_Valid_1_1_eq, signsN, Option.isSome]
    | succ n ih =>
      intro K f s hs hf hl
      obtain ⟨f, rfl⟩ : ∃ m, f = m + 1 := ⟨f - 1, by omega⟩
      have hbs := bytes_size s
      by_cases h0 : s.data.toList = []
      · have e1 : (s.toList == (⟨#[]⟩ : ByteArray).toList) = true := by rw [ByteArray.toList_eq, ByteArray.toList_eq, h0]; rfl
        rw [L_utf_Valid_1_0_eq, h0]
        simp only [e1, Bool.not_true, ifB_false, onL_some, X_utf_Valid_1_1_eq, signsN, Option.isSome]
      · have hne : 0 < s.data.toList.length := List.length_pos_iff.2 h0
        have e1 : (s.toList == (⟨#[]⟩ : ByteArray).toList) = false := by rw [ByteArray.toList_eq, ByteArray.toList_eq]; simpa using h0
        obtain ⟨c, r, hcr⟩ : ∃ c r, s.data.toList = c :: r := by
          cases hq : s.data.toList with
          | nil => exact absurd hq h0
          | cons c r => exact ⟨c, r, rfl⟩
        have hsz := size_ok s hs hne
        rw [L_utf_Valid_1_0_eq]
        have hk := size_sgn c r
        rw [← hcr] at hk
        rw [hcr]
        simp only [signsN]
        rw [← hcr]
        cases hg : sgn s.data.toList with
        | none =>
          rw [hg] at hk
          rw [hk] at hsz
          simp only [e1, Bool.not_false, ifB_true, hsz, onR_some, List.isEmpty_nil, allF_cons, allF_nil, Bool.and_true, when_true', List.getD_cons_zero, toF_fz, isInt_int, toInt_int, show (((0 : Nat) : Int) == 0) = true from rfl, onL_some, X_utf_Valid_1_0_eq, Option.isSome]
        | some p =>
          obtain ⟨v, k⟩ := p
          obtain ⟨k1, k2, _, _⟩ := sgn_pos hg
          rw [hg] at hk
          simp only [] at hk
          rw [hk] at hsz
          have a1 : ((k : Int) == 0) = false := by simp; omega
          have a2 : decide ((0 : Int) ≤ (s.size : Int)) = true := by simp
          have a3 : decide ((s.size : Int) ≤ (s.size : Int)) = true := by simp
          have a4 : decide ((0 : Int) ≤ (k : Int)) = true := by simp
          have a5 : decide ((k : Int) ≤ (s.size : Int)) = true := by simp; omega
          have hex : (ByteArray.extract s k s.size).data.toList = s.data.toList.drop k := by
            have := extract_list s k s.size
            rw [ByteArray.toList_eq] at this
            rw [this, ← hbs, List.take_length]
          have h2 := ih K f (ByteArray.extract s k s.size) (by have := bytes_size (ByteArray.extract s k s.size); rw [hex, List.length_drop] at this; omega) (by omega) (by rw [hex, List.length_drop]; omega)
          rw [hex] at h2
          simp only [e1, Bool.not_false, ifB_true, hsz, onR_some, List.isEmpty_nil, allF_cons, allF_nil, Bool.and_true, when_true', List.getD_cons_zero, toF_fz, isInt_int, toInt_int, a1, a2, a3, a4, a5, ifB_false, Int.toNat_natCast, h2]
          cases signsN n (s.data.toList.drop k) <;> rfl
  refine rt_call A_utf_Valid rfl rfl (s.data.toList.length + 1) ?_
  rw [E_utf_Valid]
  exact loop s.data.toList.length _ _ s hs (by omega) (Nat.le_refl _)
end Go.Ab
