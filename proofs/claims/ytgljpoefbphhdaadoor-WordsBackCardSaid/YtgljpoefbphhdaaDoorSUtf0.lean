/- The signs of a text, as the reference reads them. -/
import Derived.Test.YtgljpoefbphhdaaDoorSJvB
namespace Go.Ab
set_option linter.unusedVariables false
set_option linter.unusedSimpArgs false

def cont : Nat → Int → List UInt8 → Option Int
  | 0, c, _ => some c
  | _ + 1, _, [] => none
  | n + 1, c, d :: r => if 128 ≤ d.toNat ∧ d.toNat ≤ 191 then cont n (64 * c + (d.toNat : Int) - 128) r else none

def putB (c : Int) : List Int :=
  if c < 128 then [c] else if c < 2048 then [192 + c / 64, 128 + c % 64] else if c < 65536 then [224 + c / 4096, 128 + c / 64 % 64, 128 + c % 64] else [240 + c / 262144, 128 + c / 4096 % 64, 128 + c / 64 % 64, 128 + c % 64]

def headC (b : Nat) : Int := if 240 ≤ b ∧ b < 248 then (b : Int) - 240 else if 224 ≤ b then (b : Int) - 224 else if 192 ≤ b then (b : Int) - 192 else b
def headN (b : Nat) : Nat := if 240 ≤ b ∧ b < 248 then 4 else if 224 ≤ b then 3 else if 192 ≤ b then 2 else 1

def toB (l : List Int) : List UInt8 := l.map fun e => UInt8.ofNat e.toNat

/-- The first sign: its number, and how many bytes it has. -/
def sgn : List UInt8 → Option (Int × Nat)
  | [] => none
  | b :: r =>
    if 248 ≤ b.toNat ∨ (128 ≤ b.toNat ∧ b.toNat < 192) ∨ r.length + 1 < headN b.toNat then none
    else match cont (headN b.toNat - 1) (headC b.toNat) r with
      | none => none
      | some c => if 1114111 < c ∨ (55296 ≤ c ∧ c < 57344) ∨ toB (putB c) ≠ (b :: r).take (headN b.toNat) then none else some (c, headN b.toNat)

def signsN : Nat → List UInt8 → Option (List Int)
  | _, [] => some []
  | 0, _ :: _ => none
  | n + 1, b :: r => match sgn (b :: r) with
    | none => none
    | some (c, k) => (signsN n ((b :: r).drop k)).map (c :: ·)
/-- The signs of a text. -/
def signsL (l : List UInt8) : Option (List Int) := signsN l.length l

theorem headN_le (b : Nat) : 1 ≤ headN b ∧ headN b ≤ 4 := by unfold headN; split <;> (try split) <;> (try split) <;> omega
theorem headC_le {b : Nat} (h : b < 248) : 0 ≤ headC b ∧ headC b ≤ 191 := by unfold headC; split <;> (try split) <;> (try split) <;> omega
theorem cont_nonneg : ∀ (n : Nat) (c : Int) (l : List UInt8) (c' : Int), 0 ≤ c → cont n c l = some c' → 0 ≤ c'
  | 0, c, _, c', h, e => by simp only [cont, Option.some.injEq] at e; omega
  | n + 1, c, [], c', h, e => by cases e
  | n + 1, c, d :: r, c', h, e => by
    simp only [cont] at e
    split at e
    · exact cont_nonneg n _ r c' (by omega) e
    · cases e

theorem bytes_size (s : ByteArray) : s.data.toList.length = s.size := by rw [Array.length_toList]; rfl
theorem byteAt {s : ByteArray} {i : Nat} (h : i < s.data.toList.length) : Array.getD s.data i 0 = s.data.toList[i] := by
  have : i < s.data.size := by simpa using h
  unfold Array.getD
  rw [dif_pos this]
  simp
theorem extract_list (s : ByteArray) (a b : Nat) : (ByteArray.extract s a b).toList = (s.data.toList.take b).drop a := by
  rw [ByteArray.toList_eq, ByteArray.data_extract]
  simp [Array.toList_extract, List.extract_eq_take_drop, List.drop_take]
theorem u8_le (b : UInt8) : b.toNat ≤ 255 := by have := b.toNat_lt; omega

section
variable (s : ByteArray) (hs : s.size ≤ 8796093022208)
include hs

end
end Go.Ab
