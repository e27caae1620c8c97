/- The signs of a text, as the reference reads them. -/
import Derived.Test.YtgljpoefbphhdaaDoorSJvB
namespace Go.Ab
set_option linter.unusedVariables false
set_option linter.unusedSimpArgs false

def putB (c : Int) : List Int :=
  if c < 128 then [c] else if c < 2048 then [192 + c / 64, 128 + c % 64] else if c < 65536 then [224 + c / 4096, 128 + c / 64 % 64, 128 + c % 64] else [240 + c / 262144, 128 + c / 4096 % 64, 128 + c / 64 % 64, 128 + c % 64]

def headN (b : Nat) : Nat := if 240 ≤ b ∧ b < 248 then 4 else if 224 ≤ b then 3 else if 192 ≤ b then 2 else 1

def toB (l : List Int) : List UInt8 := l.map fun e => UInt8.ofNat e.toNat

theorem bytes_size (s : ByteArray) : s.data.toList.length = s.size := by rw [Array.length_toList]; rfl
theorem byteAt {s : ByteArray} {i : Nat} (h : i < s.data.toList.length) : Array.getD s.data i 0 = s.data.toList[i] := by
  have : i < s.data.size := by simpa using h
  unfold Array.getD
  rw [dif_pos this]
  simp
section
variable (s : ByteArray) (hs : s.size ≤ 8796093022208)
include hs

end
end Go.Ab
