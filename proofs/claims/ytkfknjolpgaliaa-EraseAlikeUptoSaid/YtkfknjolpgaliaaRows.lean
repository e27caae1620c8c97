/-
  NARROWER THAN 'FOR EVERY INPUT', by the rows' own cells (each row's printed sentence says how): EraseTop: loops · EraseAt: loops · EraseSwaps: loops · EraseAlike: loops.
  DERIVED. THE GIVEN ROWS OF THIS SEAT. 4 by the template 'for every input the law returns true; each argument reads behind the call as it read before'; 0 by the template 'total and deterministic' (their statements: YtkfknjolpgaliaaTotals.lean).
  GIVEN WITH THE SEED: the statements are not yours to turn. If you find one false, say at which input.
  Laid BY PROGRAM, IN A SANDBOX (cutbox-rows.mjs): the forced cells as the released guide's own fill.sh prints them over the translation 8e812d22a4be4245… (all of the seat's roots in one cut). By AI agents, Wed Nov 11 2026. No macro, syntax, notation, axiom, sorry.
-/
import Derived.Test.YtkfknjolpgaliaaChecked
import GoSem.Claim
import GoSem.ClaimJoined
import GoSem.ClaimMapViews
import Derived.JoinedTies
import Derived.KernelRfl
namespace Go.Proofs.Ytkfknjolpgaliaa
/- THE CELL 'sum', in the pinned program and in every row, IS THE sha256 OF THE DUMP (.gsa) THAT YtkfknjolpgaliaaProg.lean LOADS. Nothing in Lean hashes anything: it is a label: what it is worth is what the hold of that sum in a sandbox is worth. -/
noncomputable def Try.pinned : Pinned := { name := "ytkfknjolpgaliaa", sum := "8e812d22a4be4245d880d1f3179c5bfca4817f2b0a84d2a064491554200717b3", checked := Try.checked }
namespace Rows
def none {H : Type} : Left H := { results := [], args := [] }

/-- 'keyholelaw11.EraseTop': WHATEVER THE INPUT: true; the input reads as it did. -/
def eraseTopSpec : ChangeSpec := { name := "eraseTop", fn := fun _ => fun
  | [d1, d2, d3] => { results := [.lit (.bool true)], args := [d1, d2, d3] }
  | _ => none }
def eraseTopRow : OpenClaim := { program := "ytkfknjolpgaliaa", sum := "8e812d22a4be4245d880d1f3179c5bfca4817f2b0a84d2a064491554200717b3", func := "keyhole/keyholelaw11.EraseTop", spec := "eraseTop", recurses := true, loops := true, apart := false }
def EraseTopSaid : Prop := eraseTopRow.holds Try.pinned (OpenSpec.ofChange eraseTopSpec)

/-- ITS FALSE NEIGHBOUR: 'it returns false'. Refute it at one input. -/
def eraseTopWrong : ChangeSpec := { name := "eraseTop", fn := fun _ => fun
  | [d1, d2, d3] => { results := [.lit (.bool false)], args := [d1, d2, d3] }
  | _ => none }
def EraseTopWrongFalsely : Prop := eraseTopRow.holds Try.pinned (OpenSpec.ofChange eraseTopWrong)

/-- 'keyholelaw11.EraseAt': WHATEVER THE INPUT: true; the input reads as it did. -/
def eraseAtSpec : ChangeSpec := { name := "eraseAt", fn := fun _ => fun
  | [d1, d2, d3] => { results := [.lit (.bool true)], args := [d1, d2, d3] }
  | _ => none }
def eraseAtRow : OpenClaim := { program := "ytkfknjolpgaliaa", sum := "8e812d22a4be4245d880d1f3179c5bfca4817f2b0a84d2a064491554200717b3", func := "keyhole/keyholelaw11.EraseAt", spec := "eraseAt", recurses := true, loops := true, apart := false }
def EraseAtSaid : Prop := eraseAtRow.holds Try.pinned (OpenSpec.ofChange eraseAtSpec)

/-- ITS FALSE NEIGHBOUR: 'it returns false'. Refute it at one input. -/
def eraseAtWrong : ChangeSpec := { name := "eraseAt", fn := fun _ => fun
  | [d1, d2, d3] => { results := [.lit (.bool false)], args := [d1, d2, d3] }
  | _ => none }
def EraseAtWrongFalsely : Prop := eraseAtRow.holds Try.pinned (OpenSpec.ofChange eraseAtWrong)

/-- 'keyholelaw11.EraseSwaps': WHATEVER THE INPUT: true; the input reads as it did. -/
def eraseSwapsSpec : ChangeSpec := { name := "eraseSwaps", fn := fun _ => fun
  | [d1, d2, d3] => { results := [.lit (.bool true)], args := [d1, d2, d3] }
  | _ => none }
def eraseSwapsRow : OpenClaim := { program := "ytkfknjolpgaliaa", sum := "8e812d22a4be4245d880d1f3179c5bfca4817f2b0a84d2a064491554200717b3", func := "keyhole/keyholelaw11.EraseSwaps", spec := "eraseSwaps", recurses := true, loops := true, apart := false }
def EraseSwapsSaid : Prop := eraseSwapsRow.holds Try.pinned (OpenSpec.ofChange eraseSwapsSpec)

/-- ITS FALSE NEIGHBOUR: 'it returns false'. Refute it at one input. -/
def eraseSwapsWrong : ChangeSpec := { name := "eraseSwaps", fn := fun _ => fun
  | [d1, d2, d3] => { results := [.lit (.bool false)], args := [d1, d2, d3] }
  | _ => none }
def EraseSwapsWrongFalsely : Prop := eraseSwapsRow.holds Try.pinned (OpenSpec.ofChange eraseSwapsWrong)

/-- 'keyholelaw11.EraseAlike': WHATEVER THE INPUT: true; the input reads as it did. -/
def eraseAlikeSpec : ChangeSpec := { name := "eraseAlike", fn := fun _ => fun
  | [d1, d2, d3] => { results := [.lit (.bool true)], args := [d1, d2, d3] }
  | _ => none }
def eraseAlikeRow : OpenClaim := { program := "ytkfknjolpgaliaa", sum := "8e812d22a4be4245d880d1f3179c5bfca4817f2b0a84d2a064491554200717b3", func := "keyhole/keyholelaw11.EraseAlike", spec := "eraseAlike", recurses := true, loops := true, apart := false }
def EraseAlikeSaid : Prop := eraseAlikeRow.holds Try.pinned (OpenSpec.ofChange eraseAlikeSpec)

/-- ITS FALSE NEIGHBOUR: 'it returns false'. Refute it at one input. -/
def eraseAlikeWrong : ChangeSpec := { name := "eraseAlike", fn := fun _ => fun
  | [d1, d2, d3] => { results := [.lit (.bool false)], args := [d1, d2, d3] }
  | _ => none }
def EraseAlikeWrongFalsely : Prop := eraseAlikeRow.holds Try.pinned (OpenSpec.ofChange eraseAlikeWrong)

/- THE SECOND FORM. 'bulk': how many values and letters a reading holds, each counted each time it is reached (what is shared counts as often as it is met; a slice's spare places count too). A statement '..UptoSaid' is the law's where the arguments, and the package variables that the reading takes, are together of bulk at most 1048576: NARROWER than '..Said'. Prove '..Said' where nothing that the law and all that it calls make is longer than what came in: it says more and counts as full. Else prove '..UptoSaid'. A law counts once. -/
mutual
def uptoBulk {H : Type} : DataW H → Nat
  | .lit (.string bytes) => bytes.length + 1
  | .lit _ => 1
  | .nil => 1
  | .ptr d => uptoBulk d + 1
  | .slice elems spare => uptoBulkAll elems + uptoBulkAll spare + 1
  | .agg parts => uptoBulkAll parts + 1
  | .iface _ d => uptoBulk d + 1
  | .map entries => uptoBulkEntries entries + 1
  | .held _ => 1
def uptoBulkAll {H : Type} : List (DataW H) → Nat
  | [] => 0
  | d :: r => uptoBulk d + uptoBulkAll r
def uptoBulkEntries {H : Type} : List (Lit × DataW H) → Nat
  | [] => 0
  | x :: r => uptoBulkEntry x + uptoBulkEntries r
def uptoBulkEntry {H : Type} : Lit × DataW H → Nat
  | (.string bytes, d) => bytes.length + uptoBulk d + 1
  | (_, d) => uptoBulk d + 1
 end
def uptoSmall : (H : Type) → List (DataW H) → Bool := fun _ ds => decide (uptoBulkAll ds ≤ 1048576)
def OpenSpec.upto (s : _root_.Go.ChangeSpec) : _root_.Go.OpenSpec := { _root_.Go.OpenSpec.ofChange s with cond := some uptoSmall }

/-- 'keyholelaw11.EraseTop', WHERE WHAT IT READS IS OF BULK AT MOST 1048576: true; the input reads as it did. -/
def eraseTopUptoRow : OpenClaim := { program := "ytkfknjolpgaliaa", sum := "8e812d22a4be4245d880d1f3179c5bfca4817f2b0a84d2a064491554200717b3", func := "keyhole/keyholelaw11.EraseTop", spec := "eraseTop", recurses := true, loops := true, apart := false, narrowed := true }
def EraseTopUptoSaid : Prop := eraseTopUptoRow.holds Try.pinned (OpenSpec.upto eraseTopSpec)

/-- 'keyholelaw11.EraseAt', WHERE WHAT IT READS IS OF BULK AT MOST 1048576: true; the input reads as it did. -/
def eraseAtUptoRow : OpenClaim := { program := "ytkfknjolpgaliaa", sum := "8e812d22a4be4245d880d1f3179c5bfca4817f2b0a84d2a064491554200717b3", func := "keyhole/keyholelaw11.EraseAt", spec := "eraseAt", recurses := true, loops := true, apart := false, narrowed := true }
def EraseAtUptoSaid : Prop := eraseAtUptoRow.holds Try.pinned (OpenSpec.upto eraseAtSpec)

/-- 'keyholelaw11.EraseSwaps', WHERE WHAT IT READS IS OF BULK AT MOST 1048576: true; the input reads as it did. -/
def eraseSwapsUptoRow : OpenClaim := { program := "ytkfknjolpgaliaa", sum := "8e812d22a4be4245d880d1f3179c5bfca4817f2b0a84d2a064491554200717b3", func := "keyhole/keyholelaw11.EraseSwaps", spec := "eraseSwaps", recurses := true, loops := true, apart := false, narrowed := true }
def EraseSwapsUptoSaid : Prop := eraseSwapsUptoRow.holds Try.pinned (OpenSpec.upto eraseSwapsSpec)

/-- 'keyholelaw11.EraseAlike', WHERE WHAT IT READS IS OF BULK AT MOST 1048576: true; the input reads as it did. -/
def eraseAlikeUptoRow : OpenClaim := { program := "ytkfknjolpgaliaa", sum := "8e812d22a4be4245d880d1f3179c5bfca4817f2b0a84d2a064491554200717b3", func := "keyhole/keyholelaw11.EraseAlike", spec := "eraseAlike", recurses := true, loops := true, apart := false, narrowed := true }
def EraseAlikeUptoSaid : Prop := eraseAlikeUptoRow.holds Try.pinned (OpenSpec.upto eraseAlikeSpec)

end Rows
end Go.Proofs.Ytkfknjolpgaliaa
