/- How many signs a text has; its first ones. -/
import Derived.Test.YtgljpoefbphhdaaDoorSDec
namespace Go.Ab
set_option linter.unusedVariables false
set_option linter.unusedSimpArgs false
set_option linter.unusedSectionVars false
def cells (l : List UInt8) : List FV := l.map fun b => .int .u8 ((b.toNat : Nat) : Int)
theorem cells_len (a : List UInt8) : (cells a).length = a.length := by simp [cells]
theorem cells_all (a : List UInt8) : List.all (cells a) (FV.isInt .u8) = true := by simp [cells]
theorem cells_back (a : List UInt8) : (⟨(List.map (fun e => UInt8.ofNat (FV.toInt e).toNat) (cells a)).toArray⟩ : ByteArray) = qB a := by
  have : List.map (fun e => UInt8.ofNat (FV.toInt e).toNat) (cells a) = a := by
    unfold cells
    rw [List.map_map]
    conv => rhs; rw [← List.map_id a]
    exact List.map_congr_left fun b _ => by simp
  rw [this]; rfl
end Go.Ab
