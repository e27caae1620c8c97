/-
  No cell of these rows narrows 'for every input' (looked for: loops, veiled, ifaces, maps, wideKeys, modest, calm, conditions, laid).
  DERIVED. THE GIVEN ROWS OF THIS SEAT. 5 by the template 'for every input the law returns true; each argument reads behind the call as it read before'; 0 by the template 'total and deterministic' (their statements: YtpgngeagdphhfaaTotals.lean).
  GIVEN WITH THE SEED: the statements are not yours to turn. If you find one false, say at which input.
  Laid BY PROGRAM, IN A SANDBOX (cutbox-rows.mjs): the forced cells as the released guide's own fill.sh prints them over the translation 3a6724adb10f6888… (all of the seat's roots in one cut). By AI agents, Wed Nov 11 2026. No macro, syntax, notation, axiom, sorry.
-/
import Derived.Test.YtpgngeagdphhfaaChecked
import GoSem.Claim
import GoSem.ClaimJoined
import GoSem.ClaimMapViews
import Derived.JoinedTies
import Derived.KernelRfl
namespace Go.Proofs.Ytpgngeagdphhfaa
/- THE CELL 'sum', in the pinned program and in every row, IS THE sha256 OF THE DUMP (.gsa) THAT YtpgngeagdphhfaaProg.lean LOADS. Nothing in Lean hashes anything: it is a label: what it is worth is what the hold of that sum in a sandbox is worth. -/
noncomputable def Try.pinned : Pinned := { name := "ytpgngeagdphhfaa", sum := "3a6724adb10f6888dfa78b260161acfcdd75297e0b9054879ca4bc1434e9a693", checked := Try.checked }
namespace Rows
def none {H : Type} : Left H := { results := [], args := [] }

/-- 'keyholelaw01.LevelMakes': WHATEVER THE INPUT: true; the input reads as it did. -/
def levelMakesSpec : ChangeSpec := { name := "levelMakes", fn := fun _ => fun
  | [d1, d2] => { results := [.lit (.bool true)], args := [d1, d2] }
  | _ => none }
def levelMakesRow : OpenClaim := { program := "ytpgngeagdphhfaa", sum := "3a6724adb10f6888dfa78b260161acfcdd75297e0b9054879ca4bc1434e9a693", func := "keyhole/keyholelaw01.LevelMakes", spec := "levelMakes", apart := false }
def LevelMakesSaid : Prop := levelMakesRow.holds Try.pinned (OpenSpec.ofChange levelMakesSpec)

/-- ITS FALSE NEIGHBOUR: 'it returns false'. Refute it at one input. -/
def levelMakesWrong : ChangeSpec := { name := "levelMakes", fn := fun _ => fun
  | [d1, d2] => { results := [.lit (.bool false)], args := [d1, d2] }
  | _ => none }
def LevelMakesWrongFalsely : Prop := levelMakesRow.holds Try.pinned (OpenSpec.ofChange levelMakesWrong)

/-- 'keyholelaw01.LevelTables': WHATEVER THE INPUT: true; the input reads as it did. -/
def levelTablesSpec : ChangeSpec := { name := "levelTables", fn := fun _ => fun
  | [d] => { results := [.lit (.bool true)], args := [d] }
  | _ => none }
def levelTablesRow : OpenClaim := { program := "ytpgngeagdphhfaa", sum := "3a6724adb10f6888dfa78b260161acfcdd75297e0b9054879ca4bc1434e9a693", func := "keyhole/keyholelaw01.LevelTables", spec := "levelTables", apart := false }
def LevelTablesSaid : Prop := levelTablesRow.holds Try.pinned (OpenSpec.ofChange levelTablesSpec)

/-- ITS FALSE NEIGHBOUR: 'it returns false'. Refute it at one input. -/
def levelTablesWrong : ChangeSpec := { name := "levelTables", fn := fun _ => fun
  | [d] => { results := [.lit (.bool false)], args := [d] }
  | _ => none }
def LevelTablesWrongFalsely : Prop := levelTablesRow.holds Try.pinned (OpenSpec.ofChange levelTablesWrong)

/-- 'keyholelaw01.LevelLaws': WHATEVER THE INPUT: true; the input reads as it did. -/
def levelLawsSpec : ChangeSpec := { name := "levelLaws", fn := fun _ => fun
  | [d1, d2] => { results := [.lit (.bool true)], args := [d1, d2] }
  | _ => none }
def levelLawsRow : OpenClaim := { program := "ytpgngeagdphhfaa", sum := "3a6724adb10f6888dfa78b260161acfcdd75297e0b9054879ca4bc1434e9a693", func := "keyhole/keyholelaw01.LevelLaws", spec := "levelLaws", apart := false }
def LevelLawsSaid : Prop := levelLawsRow.holds Try.pinned (OpenSpec.ofChange levelLawsSpec)

/-- ITS FALSE NEIGHBOUR: 'it returns false'. Refute it at one input. -/
def levelLawsWrong : ChangeSpec := { name := "levelLaws", fn := fun _ => fun
  | [d1, d2] => { results := [.lit (.bool false)], args := [d1, d2] }
  | _ => none }
def LevelLawsWrongFalsely : Prop := levelLawsRow.holds Try.pinned (OpenSpec.ofChange levelLawsWrong)

/-- 'keyholelaw01.LevelFollows': WHATEVER THE INPUT: true; the input reads as it did. -/
def levelFollowsSpec : ChangeSpec := { name := "levelFollows", fn := fun _ => fun
  | [d1, d2] => { results := [.lit (.bool true)], args := [d1, d2] }
  | _ => none }
def levelFollowsRow : OpenClaim := { program := "ytpgngeagdphhfaa", sum := "3a6724adb10f6888dfa78b260161acfcdd75297e0b9054879ca4bc1434e9a693", func := "keyhole/keyholelaw01.LevelFollows", spec := "levelFollows", apart := false }
def LevelFollowsSaid : Prop := levelFollowsRow.holds Try.pinned (OpenSpec.ofChange levelFollowsSpec)

/-- ITS FALSE NEIGHBOUR: 'it returns false'. Refute it at one input. -/
def levelFollowsWrong : ChangeSpec := { name := "levelFollows", fn := fun _ => fun
  | [d1, d2] => { results := [.lit (.bool false)], args := [d1, d2] }
  | _ => none }
def LevelFollowsWrongFalsely : Prop := levelFollowsRow.holds Try.pinned (OpenSpec.ofChange levelFollowsWrong)

/-- 'keyholelaw01.LevelNames': WHATEVER THE INPUT: true; the input reads as it did. -/
def levelNamesSpec : ChangeSpec := { name := "levelNames", fn := fun _ => fun
  | [d1, d2, d3] => { results := [.lit (.bool true)], args := [d1, d2, d3] }
  | _ => none }
def levelNamesRow : OpenClaim := { program := "ytpgngeagdphhfaa", sum := "3a6724adb10f6888dfa78b260161acfcdd75297e0b9054879ca4bc1434e9a693", func := "keyhole/keyholelaw01.LevelNames", spec := "levelNames", apart := false }
def LevelNamesSaid : Prop := levelNamesRow.holds Try.pinned (OpenSpec.ofChange levelNamesSpec)

/-- ITS FALSE NEIGHBOUR: 'it returns false'. Refute it at one input. -/
def levelNamesWrong : ChangeSpec := { name := "levelNames", fn := fun _ => fun
  | [d1, d2, d3] => { results := [.lit (.bool false)], args := [d1, d2, d3] }
  | _ => none }
def LevelNamesWrongFalsely : Prop := levelNamesRow.holds Try.pinned (OpenSpec.ofChange levelNamesWrong)

/- THE SECOND FORM. 'bulk': how many values and letters a reading holds, each counted each time it is reached (what is shared counts as often as it is met; a slice's spare places count too). A statement '..UptoSaid' is the law's where the arguments, and the package variables that the reading takes, are together of bulk at most 1048576: NARROWER than '..Said'. Prove '..Said' where nothing that the law and all that it calls make is longer than what came in: it says more and counts as full. Else prove '..UptoSaid'. A law counts once. -/
mutual
def uptoBulk {H : Type} : DataW H → Nat
  | .lit (.string bytes) => bytes.length + 1
  | .lit _ => 1
  | .nil => 1
  | .ptr d => uptoBulk d + 1
  | .slice elems spare => uptoBulkAll elems + uptoBulkAll spare + 1
  | .agg parts => uptoBulkAll parts + 1
  | .iface _ d => uptoBulk d + 1
  | .map entries => uptoBulkEntries entries + 1
  | .held _ => 1
def uptoBulkAll {H : Type} : List (DataW H) → Nat
  | [] => 0
  | d :: r => uptoBulk d + uptoBulkAll r
def uptoBulkEntries {H : Type} : List (Lit × DataW H) → Nat
  | [] => 0
  | x :: r => uptoBulkEntry x + uptoBulkEntries r
def uptoBulkEntry {H : Type} : Lit × DataW H → Nat
  | (.string bytes, d) => bytes.length + uptoBulk d + 1
  | (_, d) => uptoBulk d + 1
 end
def uptoSmall : (H : Type) → List (DataW H) → Bool := fun _ ds => decide (uptoBulkAll ds ≤ 1048576)
def OpenSpec.upto (s : _root_.Go.ChangeSpec) : _root_.Go.OpenSpec := { _root_.Go.OpenSpec.ofChange s with cond := some uptoSmall }

/-- 'keyholelaw01.LevelMakes', WHERE WHAT IT READS IS OF BULK AT MOST 1048576: true; the input reads as it did. -/
def levelMakesUptoRow : OpenClaim := { program := "ytpgngeagdphhfaa", sum := "3a6724adb10f6888dfa78b260161acfcdd75297e0b9054879ca4bc1434e9a693", func := "keyhole/keyholelaw01.LevelMakes", spec := "levelMakes", apart := false, narrowed := true }
def LevelMakesUptoSaid : Prop := levelMakesUptoRow.holds Try.pinned (OpenSpec.upto levelMakesSpec)

/-- 'keyholelaw01.LevelTables', WHERE WHAT IT READS IS OF BULK AT MOST 1048576: true; the input reads as it did. -/
def levelTablesUptoRow : OpenClaim := { program := "ytpgngeagdphhfaa", sum := "3a6724adb10f6888dfa78b260161acfcdd75297e0b9054879ca4bc1434e9a693", func := "keyhole/keyholelaw01.LevelTables", spec := "levelTables", apart := false, narrowed := true }
def LevelTablesUptoSaid : Prop := levelTablesUptoRow.holds Try.pinned (OpenSpec.upto levelTablesSpec)

/-- 'keyholelaw01.LevelLaws', WHERE WHAT IT READS IS OF BULK AT MOST 1048576: true; the input reads as it did. -/
def levelLawsUptoRow : OpenClaim := { program := "ytpgngeagdphhfaa", sum := "3a6724adb10f6888dfa78b260161acfcdd75297e0b9054879ca4bc1434e9a693", func := "keyhole/keyholelaw01.LevelLaws", spec := "levelLaws", apart := false, narrowed := true }
def LevelLawsUptoSaid : Prop := levelLawsUptoRow.holds Try.pinned (OpenSpec.upto levelLawsSpec)

/-- 'keyholelaw01.LevelFollows', WHERE WHAT IT READS IS OF BULK AT MOST 1048576: true; the input reads as it did. -/
def levelFollowsUptoRow : OpenClaim := { program := "ytpgngeagdphhfaa", sum := "3a6724adb10f6888dfa78b260161acfcdd75297e0b9054879ca4bc1434e9a693", func := "keyhole/keyholelaw01.LevelFollows", spec := "levelFollows", apart := false, narrowed := true }
def LevelFollowsUptoSaid : Prop := levelFollowsUptoRow.holds Try.pinned (OpenSpec.upto levelFollowsSpec)

/-- 'keyholelaw01.LevelNames', WHERE WHAT IT READS IS OF BULK AT MOST 1048576: true; the input reads as it did. -/
def levelNamesUptoRow : OpenClaim := { program := "ytpgngeagdphhfaa", sum := "3a6724adb10f6888dfa78b260161acfcdd75297e0b9054879ca4bc1434e9a693", func := "keyhole/keyholelaw01.LevelNames", spec := "levelNames", apart := false, narrowed := true }
def LevelNamesUptoSaid : Prop := levelNamesUptoRow.holds Try.pinned (OpenSpec.upto levelNamesSpec)

end Rows
end Go.Proofs.Ytpgngeagdphhfaa
