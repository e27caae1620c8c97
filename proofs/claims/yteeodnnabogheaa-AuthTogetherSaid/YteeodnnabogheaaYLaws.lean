/- String comparisons in the spelling of the printed functions: 'a <= b' is 'not b < a'. -/
import Derived.Laws.Strings
import Derived.WalkKit
namespace Go.Proofs.YteeodnnabogheaaY
open Go

theorem bytesLess_irrefl : ∀ a : List UInt8, Op.bytesLess a a = false
  | [] => rfl
  | a :: x => by simp [Op.bytesLess, bytesLess_irrefl x]
theorem bytesLess_total : ∀ a b : List UInt8, (Op.bytesLess a b || a == b) = !(Op.bytesLess b a)
  | [], [] => by simp [Op.bytesLess]
  | [], b :: y => by simp [Op.bytesLess]
  | a :: x, [] => by simp [Op.bytesLess]
  | a :: x, b :: y => by
    have ih := bytesLess_total x y
    simp only [Op.bytesLess]
    by_cases h : a < b
    · have h1 : ¬ b < a := UInt8.lt_asymm h
      have h2 : a ≠ b := UInt8.ne_of_lt h
      have h3 : b ≠ a := fun e => h2 e.symm
      simp [h, h1, h3]
    · by_cases h' : b < a
      · have h2 : a ≠ b := fun e => UInt8.ne_of_lt h' e.symm
        simp [h, h', h2]
      · have e : a = b := UInt8.le_antisymm (UInt8.not_lt.1 h') (UInt8.not_lt.1 h)
        subst e
        have h1 : ¬ a < a := UInt8.lt_irrefl a
        simp [h1] at ih ⊢
        exact ih

@[go_sem] theorem str_leq (t : TypeId) (a b : ByteArray) : binOp .leq t (.string a) (.string b) = pure (.bool (!(Op.bytesLess b.toList a.toList))) := by
  rw [← bytesLess_total]; simp [binOp, Op.stringOp]
@[go_sem] theorem str_gtr (t : TypeId) (a b : ByteArray) : binOp .gtr t (.string a) (.string b) = pure (.bool (Op.bytesLess b.toList a.toList)) := by
  have h := bytesLess_total a.toList b.toList
  have h2 : (Op.bytesLess b.toList a.toList) = !(Op.bytesLess a.toList b.toList || a.toList == b.toList) := by rw [h]; simp
  rw [h2]; simp [binOp, Op.stringOp]
@[go_sem] theorem str_geq (t : TypeId) (a b : ByteArray) : binOp .geq t (.string a) (.string b) = pure (.bool (!(Op.bytesLess a.toList b.toList))) := by simp [binOp, Op.stringOp]
end Go.Proofs.YteeodnnabogheaaY
