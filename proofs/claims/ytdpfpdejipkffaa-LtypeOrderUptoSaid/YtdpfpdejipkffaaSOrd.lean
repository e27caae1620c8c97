/- The order of texts; looking one up in a rising row. -/
import Derived.Test.YtdpfpdejipkffaaSJvB
namespace Go.Ab
set_option linter.unusedVariables false
set_option linter.unusedSimpArgs false
set_option linter.unusedSectionVars false
theorem less_eqO : ∀ a b : List UInt8, Op.bytesLess a b = decide (a < b)
  | [], [] => by simp [Op.bytesLess]
  | [], _ :: _ => by simp [Op.bytesLess]
  | _ :: _, [] => by simp [Op.bytesLess]
  | a :: x, b :: y => by
    simp only [Op.bytesLess, less_eqO x y]
    by_cases h : a < b <;> by_cases h2 : a = b <;> simp [List.cons_lt_cons_iff, h, h2]
/-- A text stands before another one. -/
def BLt (a b : ByteArray) : Prop := a.toList < b.toList
theorem bltO_iff {a b : ByteArray} : Op.bytesLess a.toList b.toList = true ↔ BLt a b := by simp [less_eqO, BLt]
theorem bltO_false {a b : ByteArray} : Op.bytesLess a.toList b.toList = false ↔ ¬ BLt a b := by rw [← bltO_iff]; simp
theorem BLt.irrefl (a : ByteArray) : ¬ BLt a a := List.lt_irrefl _
theorem BLt.trans {a b c : ByteArray} (h : BLt a b) (h' : BLt b c) : BLt a c := List.lt_trans h h'
theorem BLt.tri (a b : ByteArray) : BLt a b ∨ a = b ∨ BLt b a := by
  by_cases h : BLt a b
  · exact .inl h
  · by_cases h2 : BLt b a
    · exact .inr (.inr h2)
    · exact .inr (.inl (bytes_ext (List.le_antisymm (List.not_lt.1 h2) (List.not_lt.1 h))))
theorem BLt.ne {a b : ByteArray} (h : BLt a b) : a ≠ b := fun e => BLt.irrefl b (e ▸ h)
theorem BLt.asymm {a b : ByteArray} (h : BLt a b) : ¬ BLt b a := fun h' => BLt.irrefl a (h.trans h')
theorem eq_beqO {a b : ByteArray} : (a.toList == b.toList) = decide (a = b) := bytes_beq a b
/-- It does not stand behind the other one, nor is it that one. -/
theorem leO_false {a b : ByteArray} : (Op.bytesLess b.toList a.toList || b.toList == a.toList) = false ↔ BLt a b := by
  rw [Bool.or_eq_false_iff, bltO_false, eq_beqO, decide_eq_false_iff_not]
  constructor
  · rintro ⟨h1, h2⟩
    rcases BLt.tri a b with x | x | x
    · exact x
    · exact absurd x.symm h2
    · exact absurd x h1
  · exact fun h => ⟨h.asymm, fun e => h.ne e.symm⟩
theorem wrapu64 {n : Int} (h1 : 0 ≤ n) (h2 : n ≤ 18446744073709551615) : IntKind.wrap .u64 n = n := by
  unfold IntKind.wrap
  simp [IntKind.bits, IntKind.signed]
  omega
theorem half {i j : Nat} (hi : i ≤ 1152921504606846976) (hj : j ≤ 1152921504606846976) : IntKind.wrap .i64 (Int.fdiv (IntKind.wrap .u64 (IntKind.wrap .i64 ((i : Int) + j))) (2 ^ (min 1 (IntKind.bits .u64)))) = (((i + j) / 2 : Nat) : Int) := by
  have e : (2 : Int) ^ (min 1 (IntKind.bits .u64)) = 2 := rfl
  rw [e, wrap64 (n := (i : Int) + j) (by omega) (by omega), wrapu64 (by omega) (by omega)]
  have : Int.fdiv ((i : Int) + j) 2 = (((i + j) / 2 : Nat) : Int) := by
    rw [Int.fdiv_eq_ediv_of_nonneg _ (by omega)]
    push_cast; rfl
  rw [this, wrap64 (by omega) (by omega)]
/-- How many come before a text, in a rising row. -/
def befo (ks : List ByteArray) (key : ByteArray) : Nat := (ks.takeWhile fun k => Op.bytesLess k.toList key.toList).length
theorem befo_le (ks : List ByteArray) (key : ByteArray) : befo ks key ≤ ks.length := by
  unfold befo
  induction ks with
  | nil => simp
  | cons k ks ih =>
    rw [List.takeWhile_cons]
    split
    · simp; omega
    · simp
theorem befo_spec {key : ByteArray} : ∀ {ks : List ByteArray}, ks.Pairwise BLt → ∀ (i : Nat) (h : i < ks.length), Op.bytesLess (ks[i]).toList key.toList = decide (i < befo ks key)
  | [], _, i, h => by simp at h
  | k :: ks, hp, i, h => by
    have hp' := List.pairwise_cons.1 hp
    unfold befo
    rw [List.takeWhile_cons]
    cases hb : Op.bytesLess k.toList key.toList with
    | true =>
      rw [if_pos rfl, List.length_cons]
      cases i with
      | zero => simp [hb]
      | succ i =>
        have := befo_spec hp'.2 i (by simpa using h) (key := key)
        rw [List.getElem_cons_succ, this]
        unfold befo
        simp
    | false =>
      rw [if_neg (by simp), List.length_nil]
      have hk := bltO_false.1 hb
      cases i with
      | zero => simp [hb]
      | succ i =>
        rw [List.getElem_cons_succ]
        have hi : i < ks.length := by simpa using h
        have hlt := hp'.1 ks[i] (List.getElem_mem hi)
        have : Op.bytesLess (ks[i]).toList key.toList = false := bltO_false.2 fun hh => hk (hlt.trans hh)
        rw [this]; simp
end Go.Ab
