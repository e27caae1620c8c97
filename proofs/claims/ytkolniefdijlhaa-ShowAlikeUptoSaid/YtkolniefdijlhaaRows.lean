/-
  NARROWER THAN 'FOR EVERY INPUT', by the rows' own cells (each row's printed sentence says how): ShowTexts: loops · ShowAll: loops · ShowPlain: loops · ShowAlike: loops.
  DERIVED. THE GIVEN ROWS OF THIS SEAT. 4 by the template 'for every input the law returns true; each argument reads behind the call as it read before'; 0 by the template 'total and deterministic' (their statements: YtkolniefdijlhaaTotals.lean).
  GIVEN WITH THE SEED: the statements are not yours to turn. If you find one false, say at which input.
  Laid BY PROGRAM, IN A SANDBOX (cutbox-rows.mjs): the forced cells as the released guide's own fill.sh prints them over the translation d3fe4030c0b1dc3b… (all of the seat's roots in one cut). By AI agents, Wed Nov 11 2026. No macro, syntax, notation, axiom, sorry.
-/
import Derived.Test.YtkolniefdijlhaaChecked
import GoSem.Claim
import GoSem.ClaimJoined
import GoSem.ClaimMapViews
import Derived.JoinedTies
import Derived.KernelRfl
namespace Go.Proofs.Ytkolniefdijlhaa
/- THE CELL 'sum', in the pinned program and in every row, IS THE sha256 OF THE DUMP (.gsa) THAT YtkolniefdijlhaaProg.lean LOADS. Nothing in Lean hashes anything: it is a label: what it is worth is what the hold of that sum in a sandbox is worth. -/
noncomputable def Try.pinned : Pinned := { name := "ytkolniefdijlhaa", sum := "d3fe4030c0b1dc3b27fe9be6e962cc01b21491331c24e733ae0f1a67840e1f56", checked := Try.checked }
namespace Rows
def none {H : Type} : Left H := { results := [], args := [] }

/-- 'keyholelaw12.ShowTexts': WHATEVER THE INPUT: true; the input reads as it did. -/
def showTextsSpec : ChangeSpec := { name := "showTexts", fn := fun _ => fun
  | [d1, d2, d3] => { results := [.lit (.bool true)], args := [d1, d2, d3] }
  | _ => none }
def showTextsRow : OpenClaim := { program := "ytkolniefdijlhaa", sum := "d3fe4030c0b1dc3b27fe9be6e962cc01b21491331c24e733ae0f1a67840e1f56", func := "keyhole/keyholelaw12.ShowTexts", spec := "showTexts", inPlace := ["internal/abi.NoEscape", "internal/bytealg.MakeNoZero"], recurses := true, loops := true, apart := false }
def ShowTextsSaid : Prop := showTextsRow.holds Try.pinned (OpenSpec.ofChange showTextsSpec)

/-- ITS FALSE NEIGHBOUR: 'it returns false'. Refute it at one input. -/
def showTextsWrong : ChangeSpec := { name := "showTexts", fn := fun _ => fun
  | [d1, d2, d3] => { results := [.lit (.bool false)], args := [d1, d2, d3] }
  | _ => none }
def ShowTextsWrongFalsely : Prop := showTextsRow.holds Try.pinned (OpenSpec.ofChange showTextsWrong)

/-- 'keyholelaw12.ShowAll': WHATEVER THE INPUT: true; the input reads as it did. -/
def showAllSpec : ChangeSpec := { name := "showAll", fn := fun _ => fun
  | [d1, d2, d3] => { results := [.lit (.bool true)], args := [d1, d2, d3] }
  | _ => none }
def showAllRow : OpenClaim := { program := "ytkolniefdijlhaa", sum := "d3fe4030c0b1dc3b27fe9be6e962cc01b21491331c24e733ae0f1a67840e1f56", func := "keyhole/keyholelaw12.ShowAll", spec := "showAll", inPlace := ["internal/abi.NoEscape", "internal/bytealg.MakeNoZero"], recurses := true, loops := true, apart := false }
def ShowAllSaid : Prop := showAllRow.holds Try.pinned (OpenSpec.ofChange showAllSpec)

/-- ITS FALSE NEIGHBOUR: 'it returns false'. Refute it at one input. -/
def showAllWrong : ChangeSpec := { name := "showAll", fn := fun _ => fun
  | [d1, d2, d3] => { results := [.lit (.bool false)], args := [d1, d2, d3] }
  | _ => none }
def ShowAllWrongFalsely : Prop := showAllRow.holds Try.pinned (OpenSpec.ofChange showAllWrong)

/-- 'keyholelaw12.ShowPlain': WHATEVER THE INPUT: true; the input reads as it did. -/
def showPlainSpec : ChangeSpec := { name := "showPlain", fn := fun _ => fun
  | [d1, d2, d3] => { results := [.lit (.bool true)], args := [d1, d2, d3] }
  | _ => none }
def showPlainRow : OpenClaim := { program := "ytkolniefdijlhaa", sum := "d3fe4030c0b1dc3b27fe9be6e962cc01b21491331c24e733ae0f1a67840e1f56", func := "keyhole/keyholelaw12.ShowPlain", spec := "showPlain", inPlace := ["internal/abi.NoEscape", "internal/bytealg.MakeNoZero"], recurses := true, loops := true, apart := false }
def ShowPlainSaid : Prop := showPlainRow.holds Try.pinned (OpenSpec.ofChange showPlainSpec)

/-- ITS FALSE NEIGHBOUR: 'it returns false'. Refute it at one input. -/
def showPlainWrong : ChangeSpec := { name := "showPlain", fn := fun _ => fun
  | [d1, d2, d3] => { results := [.lit (.bool false)], args := [d1, d2, d3] }
  | _ => none }
def ShowPlainWrongFalsely : Prop := showPlainRow.holds Try.pinned (OpenSpec.ofChange showPlainWrong)

/-- 'keyholelaw12.ShowAlike': WHATEVER THE INPUT: true; the input reads as it did. -/
def showAlikeSpec : ChangeSpec := { name := "showAlike", fn := fun _ => fun
  | [d1, d2, d3] => { results := [.lit (.bool true)], args := [d1, d2, d3] }
  | _ => none }
def showAlikeRow : OpenClaim := { program := "ytkolniefdijlhaa", sum := "d3fe4030c0b1dc3b27fe9be6e962cc01b21491331c24e733ae0f1a67840e1f56", func := "keyhole/keyholelaw12.ShowAlike", spec := "showAlike", inPlace := ["internal/abi.NoEscape", "internal/bytealg.MakeNoZero"], recurses := true, loops := true, apart := false }
def ShowAlikeSaid : Prop := showAlikeRow.holds Try.pinned (OpenSpec.ofChange showAlikeSpec)

/-- ITS FALSE NEIGHBOUR: 'it returns false'. Refute it at one input. -/
def showAlikeWrong : ChangeSpec := { name := "showAlike", fn := fun _ => fun
  | [d1, d2, d3] => { results := [.lit (.bool false)], args := [d1, d2, d3] }
  | _ => none }
def ShowAlikeWrongFalsely : Prop := showAlikeRow.holds Try.pinned (OpenSpec.ofChange showAlikeWrong)

/- THE SECOND FORM. 'bulk': how many values and letters a reading holds, each counted each time it is reached (what is shared counts as often as it is met; a slice's spare places count too). A statement '..UptoSaid' is the law's where the arguments, and the package variables that the reading takes, are together of bulk at most 1048576: NARROWER than '..Said'. Prove '..Said' where nothing that the law and all that it calls make is longer than what came in: it says more and counts as full. Else prove '..UptoSaid'. A law counts once. -/
mutual
def uptoBulk {H : Type} : DataW H → Nat
  | .lit (.string bytes) => bytes.length + 1
  | .lit _ => 1
  | .nil => 1
  | .ptr d => uptoBulk d + 1
  | .slice elems spare => uptoBulkAll elems + uptoBulkAll spare + 1
  | .agg parts => uptoBulkAll parts + 1
  | .iface _ d => uptoBulk d + 1
  | .map entries => uptoBulkEntries entries + 1
  | .held _ => 1
def uptoBulkAll {H : Type} : List (DataW H) → Nat
  | [] => 0
  | d :: r => uptoBulk d + uptoBulkAll r
def uptoBulkEntries {H : Type} : List (Lit × DataW H) → Nat
  | [] => 0
  | x :: r => uptoBulkEntry x + uptoBulkEntries r
def uptoBulkEntry {H : Type} : Lit × DataW H → Nat
  | (.string bytes, d) => bytes.length + uptoBulk d + 1
  | (_, d) => uptoBulk d + 1
 end
def uptoSmall : (H : Type) → List (DataW H) → Bool := fun _ ds => decide (uptoBulkAll ds ≤ 1048576)
def OpenSpec.upto (s : _root_.Go.ChangeSpec) : _root_.Go.OpenSpec := { _root_.Go.OpenSpec.ofChange s with cond := some uptoSmall }

/-- 'keyholelaw12.ShowTexts', WHERE WHAT IT READS IS OF BULK AT MOST 1048576: true; the input reads as it did. -/
def showTextsUptoRow : OpenClaim := { program := "ytkolniefdijlhaa", sum := "d3fe4030c0b1dc3b27fe9be6e962cc01b21491331c24e733ae0f1a67840e1f56", func := "keyhole/keyholelaw12.ShowTexts", spec := "showTexts", inPlace := ["internal/abi.NoEscape", "internal/bytealg.MakeNoZero"], recurses := true, loops := true, apart := false, narrowed := true }
def ShowTextsUptoSaid : Prop := showTextsUptoRow.holds Try.pinned (OpenSpec.upto showTextsSpec)

/-- 'keyholelaw12.ShowAll', WHERE WHAT IT READS IS OF BULK AT MOST 1048576: true; the input reads as it did. -/
def showAllUptoRow : OpenClaim := { program := "ytkolniefdijlhaa", sum := "d3fe4030c0b1dc3b27fe9be6e962cc01b21491331c24e733ae0f1a67840e1f56", func := "keyhole/keyholelaw12.ShowAll", spec := "showAll", inPlace := ["internal/abi.NoEscape", "internal/bytealg.MakeNoZero"], recurses := true, loops := true, apart := false, narrowed := true }
def ShowAllUptoSaid : Prop := showAllUptoRow.holds Try.pinned (OpenSpec.upto showAllSpec)

/-- 'keyholelaw12.ShowPlain', WHERE WHAT IT READS IS OF BULK AT MOST 1048576: true; the input reads as it did. -/
def showPlainUptoRow : OpenClaim := { program := "ytkolniefdijlhaa", sum := "d3fe4030c0b1dc3b27fe9be6e962cc01b21491331c24e733ae0f1a67840e1f56", func := "keyhole/keyholelaw12.ShowPlain", spec := "showPlain", inPlace := ["internal/abi.NoEscape", "internal/bytealg.MakeNoZero"], recurses := true, loops := true, apart := false, narrowed := true }
def ShowPlainUptoSaid : Prop := showPlainUptoRow.holds Try.pinned (OpenSpec.upto showPlainSpec)

/-- 'keyholelaw12.ShowAlike', WHERE WHAT IT READS IS OF BULK AT MOST 1048576: true; the input reads as it did. -/
def showAlikeUptoRow : OpenClaim := { program := "ytkolniefdijlhaa", sum := "d3fe4030c0b1dc3b27fe9be6e962cc01b21491331c24e733ae0f1a67840e1f56", func := "keyhole/keyholelaw12.ShowAlike", spec := "showAlike", inPlace := ["internal/abi.NoEscape", "internal/bytealg.MakeNoZero"], recurses := true, loops := true, apart := false, narrowed := true }
def ShowAlikeUptoSaid : Prop := showAlikeUptoRow.holds Try.pinned (OpenSpec.upto showAlikeSpec)

end Rows
end Go.Proofs.Ytkolniefdijlhaa
