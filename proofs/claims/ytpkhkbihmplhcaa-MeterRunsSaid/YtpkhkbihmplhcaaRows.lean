/-
  No cell of these rows narrows 'for every input' (looked for: loops, veiled, ifaces, maps, wideKeys, modest, calm, conditions, laid).
  DERIVED. THE GIVEN ROWS OF THIS SEAT. 4 by the template 'for every input the law returns true; each argument reads behind the call as it read before'; 0 by the template 'total and deterministic' (their statements: YtpkhkbihmplhcaaTotals.lean).
  GIVEN WITH THE SEED: the statements are not yours to turn. If you find one false, say at which input.
  Laid BY PROGRAM, IN A SANDBOX (cutbox-rows.mjs): the forced cells as the released guide's own fill.sh prints them over the translation 0205aeff3ebb053c… (all of the seat's roots in one cut). By AI agents, Wed Nov 11 2026. No macro, syntax, notation, axiom, sorry.
-/
import Derived.Test.YtpkhkbihmplhcaaChecked
import GoSem.Claim
import GoSem.ClaimJoined
import GoSem.ClaimMapViews
import Derived.JoinedTies
import Derived.KernelRfl
namespace Go.Proofs.Ytpkhkbihmplhcaa
/- THE CELL 'sum', in the pinned program and in every row, IS THE sha256 OF THE DUMP (.gsa) THAT YtpkhkbihmplhcaaProg.lean LOADS. Nothing in Lean hashes anything: it is a label: what it is worth is what the hold of that sum in a sandbox is worth. -/
noncomputable def Try.pinned : Pinned := { name := "ytpkhkbihmplhcaa", sum := "0205aeff3ebb053c6eef811c217045c0706563d9a56dc654fdadaabeb9c2e3d3", checked := Try.checked }
namespace Rows
def none {H : Type} : Left H := { results := [], args := [] }

/-- 'keyholelaw23.MeterAmple': WHATEVER THE INPUT: true; the input reads as it did. -/
def meterAmpleSpec : ChangeSpec := { name := "meterAmple", fn := fun _ => fun
  | [d1, d2, d3] => { results := [.lit (.bool true)], args := [d1, d2, d3] }
  | _ => none }
def meterAmpleRow : OpenClaim := { program := "ytpkhkbihmplhcaa", sum := "0205aeff3ebb053c6eef811c217045c0706563d9a56dc654fdadaabeb9c2e3d3", func := "keyhole/keyholelaw23.MeterAmple", spec := "meterAmple", apart := false }
def MeterAmpleSaid : Prop := meterAmpleRow.holds Try.pinned (OpenSpec.ofChange meterAmpleSpec)

/-- ITS FALSE NEIGHBOUR: 'it returns false'. Refute it at one input. -/
def meterAmpleWrong : ChangeSpec := { name := "meterAmple", fn := fun _ => fun
  | [d1, d2, d3] => { results := [.lit (.bool false)], args := [d1, d2, d3] }
  | _ => none }
def MeterAmpleWrongFalsely : Prop := meterAmpleRow.holds Try.pinned (OpenSpec.ofChange meterAmpleWrong)

/-- 'keyholelaw23.MeterNew': WHATEVER THE INPUT: true; the input reads as it did. -/
def meterNewSpec : ChangeSpec := { name := "meterNew", fn := fun _ => fun
  | [d1, d2] => { results := [.lit (.bool true)], args := [d1, d2] }
  | _ => none }
def meterNewRow : OpenClaim := { program := "ytpkhkbihmplhcaa", sum := "0205aeff3ebb053c6eef811c217045c0706563d9a56dc654fdadaabeb9c2e3d3", func := "keyhole/keyholelaw23.MeterNew", spec := "meterNew", apart := false }
def MeterNewSaid : Prop := meterNewRow.holds Try.pinned (OpenSpec.ofChange meterNewSpec)

/-- ITS FALSE NEIGHBOUR: 'it returns false'. Refute it at one input. -/
def meterNewWrong : ChangeSpec := { name := "meterNew", fn := fun _ => fun
  | [d1, d2] => { results := [.lit (.bool false)], args := [d1, d2] }
  | _ => none }
def MeterNewWrongFalsely : Prop := meterNewRow.holds Try.pinned (OpenSpec.ofChange meterNewWrong)

/-- 'keyholelaw23.MeterRuns': WHATEVER THE INPUT: true; the input reads as it did. -/
def meterRunsSpec : ChangeSpec := { name := "meterRuns", fn := fun _ => fun
  | [d1, d2, d3] => { results := [.lit (.bool true)], args := [d1, d2, d3] }
  | _ => none }
def meterRunsRow : OpenClaim := { program := "ytpkhkbihmplhcaa", sum := "0205aeff3ebb053c6eef811c217045c0706563d9a56dc654fdadaabeb9c2e3d3", func := "keyhole/keyholelaw23.MeterRuns", spec := "meterRuns", apart := false }
def MeterRunsSaid : Prop := meterRunsRow.holds Try.pinned (OpenSpec.ofChange meterRunsSpec)

/-- ITS FALSE NEIGHBOUR: 'it returns false'. Refute it at one input. -/
def meterRunsWrong : ChangeSpec := { name := "meterRuns", fn := fun _ => fun
  | [d1, d2, d3] => { results := [.lit (.bool false)], args := [d1, d2, d3] }
  | _ => none }
def MeterRunsWrongFalsely : Prop := meterRunsRow.holds Try.pinned (OpenSpec.ofChange meterRunsWrong)

/-- 'keyholelaw23.MeterRises': WHATEVER THE INPUT: true; the input reads as it did. -/
def meterRisesSpec : ChangeSpec := { name := "meterRises", fn := fun _ => fun
  | [d1, d2, d3] => { results := [.lit (.bool true)], args := [d1, d2, d3] }
  | _ => none }
def meterRisesRow : OpenClaim := { program := "ytpkhkbihmplhcaa", sum := "0205aeff3ebb053c6eef811c217045c0706563d9a56dc654fdadaabeb9c2e3d3", func := "keyhole/keyholelaw23.MeterRises", spec := "meterRises", apart := false }
def MeterRisesSaid : Prop := meterRisesRow.holds Try.pinned (OpenSpec.ofChange meterRisesSpec)

/-- ITS FALSE NEIGHBOUR: 'it returns false'. Refute it at one input. -/
def meterRisesWrong : ChangeSpec := { name := "meterRises", fn := fun _ => fun
  | [d1, d2, d3] => { results := [.lit (.bool false)], args := [d1, d2, d3] }
  | _ => none }
def MeterRisesWrongFalsely : Prop := meterRisesRow.holds Try.pinned (OpenSpec.ofChange meterRisesWrong)

/- THE SECOND FORM. 'bulk': how many values and letters a reading holds, each counted each time it is reached (what is shared counts as often as it is met; a slice's spare places count too). A statement '..UptoSaid' is the law's where the arguments, and the package variables that the reading takes, are together of bulk at most 1048576: NARROWER than '..Said'. Prove '..Said' where nothing that the law and all that it calls make is longer than what came in: it says more and counts as full. Else prove '..UptoSaid'. A law counts once. -/
mutual
def uptoBulk {H : Type} : DataW H → Nat
  | .lit (.string bytes) => bytes.length + 1
  | .lit _ => 1
  | .nil => 1
  | .ptr d => uptoBulk d + 1
  | .slice elems spare => uptoBulkAll elems + uptoBulkAll spare + 1
  | .agg parts => uptoBulkAll parts + 1
  | .iface _ d => uptoBulk d + 1
  | .map entries => uptoBulkEntries entries + 1
  | .held _ => 1
def uptoBulkAll {H : Type} : List (DataW H) → Nat
  | [] => 0
  | d :: r => uptoBulk d + uptoBulkAll r
def uptoBulkEntries {H : Type} : List (Lit × DataW H) → Nat
  | [] => 0
  | x :: r => uptoBulkEntry x + uptoBulkEntries r
def uptoBulkEntry {H : Type} : Lit × DataW H → Nat
  | (.string bytes, d) => bytes.length + uptoBulk d + 1
  | (_, d) => uptoBulk d + 1
 end
def uptoSmall : (H : Type) → List (DataW H) → Bool := fun _ ds => decide (uptoBulkAll ds ≤ 1048576)
def OpenSpec.upto (s : _root_.Go.ChangeSpec) : _root_.Go.OpenSpec := { _root_.Go.OpenSpec.ofChange s with cond := some uptoSmall }

/-- 'keyholelaw23.MeterAmple', WHERE WHAT IT READS IS OF BULK AT MOST 1048576: true; the input reads as it did. -/
def meterAmpleUptoRow : OpenClaim := { program := "ytpkhkbihmplhcaa", sum := "0205aeff3ebb053c6eef811c217045c0706563d9a56dc654fdadaabeb9c2e3d3", func := "keyhole/keyholelaw23.MeterAmple", spec := "meterAmple", apart := false, narrowed := true }
def MeterAmpleUptoSaid : Prop := meterAmpleUptoRow.holds Try.pinned (OpenSpec.upto meterAmpleSpec)

/-- 'keyholelaw23.MeterNew', WHERE WHAT IT READS IS OF BULK AT MOST 1048576: true; the input reads as it did. -/
def meterNewUptoRow : OpenClaim := { program := "ytpkhkbihmplhcaa", sum := "0205aeff3ebb053c6eef811c217045c0706563d9a56dc654fdadaabeb9c2e3d3", func := "keyhole/keyholelaw23.MeterNew", spec := "meterNew", apart := false, narrowed := true }
def MeterNewUptoSaid : Prop := meterNewUptoRow.holds Try.pinned (OpenSpec.upto meterNewSpec)

/-- 'keyholelaw23.MeterRuns', WHERE WHAT IT READS IS OF BULK AT MOST 1048576: true; the input reads as it did. -/
def meterRunsUptoRow : OpenClaim := { program := "ytpkhkbihmplhcaa", sum := "0205aeff3ebb053c6eef811c217045c0706563d9a56dc654fdadaabeb9c2e3d3", func := "keyhole/keyholelaw23.MeterRuns", spec := "meterRuns", apart := false, narrowed := true }
def MeterRunsUptoSaid : Prop := meterRunsUptoRow.holds Try.pinned (OpenSpec.upto meterRunsSpec)

/-- 'keyholelaw23.MeterRises', WHERE WHAT IT READS IS OF BULK AT MOST 1048576: true; the input reads as it did. -/
def meterRisesUptoRow : OpenClaim := { program := "ytpkhkbihmplhcaa", sum := "0205aeff3ebb053c6eef811c217045c0706563d9a56dc654fdadaabeb9c2e3d3", func := "keyhole/keyholelaw23.MeterRises", spec := "meterRises", apart := false, narrowed := true }
def MeterRisesUptoSaid : Prop := meterRisesUptoRow.holds Try.pinned (OpenSpec.upto meterRisesSpec)

end Rows
end Go.Proofs.Ytpkhkbihmplhcaa
