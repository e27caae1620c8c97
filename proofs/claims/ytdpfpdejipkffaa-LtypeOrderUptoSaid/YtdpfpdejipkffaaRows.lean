/-
  NARROWER THAN 'FOR EVERY INPUT', by the rows' own cells (each row's printed sentence says how): LtypeIs: loops · LtypeFits: loops · LtypeJoins: loops · LtypeCuts: loops · LtypePlain: loops · LtypeOrder: loops.
  DERIVED. THE GIVEN ROWS OF THIS SEAT. 6 by the template 'for every input the law returns true; each argument reads behind the call as it read before'; 0 by the template 'total and deterministic' (their statements: YtdpfpdejipkffaaTotals.lean).
  GIVEN WITH THE SEED: the statements are not yours to turn. If you find one false, say at which input.
  Laid BY PROGRAM, IN A SANDBOX (cutbox-rows.mjs): the forced cells as the released guide's own fill.sh prints them over the translation f1f31c72777d373a… (all of the seat's roots in one cut). By AI agents, Wed Nov 11 2026. No macro, syntax, notation, axiom, sorry.
-/
import Derived.Test.YtdpfpdejipkffaaChecked
import GoSem.Claim
import GoSem.ClaimJoined
import GoSem.ClaimMapViews
import Derived.JoinedTies
import Derived.KernelRfl
namespace Go.Proofs.Ytdpfpdejipkffaa
/- THE CELL 'sum', in the pinned program and in every row, IS THE sha256 OF THE DUMP (.gsa) THAT YtdpfpdejipkffaaProg.lean LOADS. Nothing in Lean hashes anything: it is a label: what it is worth is what the hold of that sum in a sandbox is worth. -/
noncomputable def Try.pinned : Pinned := { name := "ytdpfpdejipkffaa", sum := "f1f31c72777d373aef6e4911b291ad0559ca91afab0b7de7452eb7c048fe947f", checked := Try.checked }
namespace Rows
def none {H : Type} : Left H := { results := [], args := [] }

/-- 'keyholelaw25.LtypeIs': WHATEVER THE INPUT: true; the input reads as it did. -/
def ltypeIsSpec : ChangeSpec := { name := "ltypeIs", fn := fun _ => fun
  | [d1, d2, d3] => { results := [.lit (.bool true)], args := [d1, d2, d3] }
  | _ => none }
def ltypeIsRow : OpenClaim := { program := "ytdpfpdejipkffaa", sum := "f1f31c72777d373aef6e4911b291ad0559ca91afab0b7de7452eb7c048fe947f", func := "keyhole/keyholelaw25.LtypeIs", spec := "ltypeIs", recurses := true, loops := true, apart := false }
def LtypeIsSaid : Prop := ltypeIsRow.holds Try.pinned (OpenSpec.ofChange ltypeIsSpec)

/-- ITS FALSE NEIGHBOUR: 'it returns false'. Refute it at one input. -/
def ltypeIsWrong : ChangeSpec := { name := "ltypeIs", fn := fun _ => fun
  | [d1, d2, d3] => { results := [.lit (.bool false)], args := [d1, d2, d3] }
  | _ => none }
def LtypeIsWrongFalsely : Prop := ltypeIsRow.holds Try.pinned (OpenSpec.ofChange ltypeIsWrong)

/-- 'keyholelaw25.LtypeFits': WHATEVER THE INPUT: true; the input reads as it did. -/
def ltypeFitsSpec : ChangeSpec := { name := "ltypeFits", fn := fun _ => fun
  | [d1, d2, d3] => { results := [.lit (.bool true)], args := [d1, d2, d3] }
  | _ => none }
def ltypeFitsRow : OpenClaim := { program := "ytdpfpdejipkffaa", sum := "f1f31c72777d373aef6e4911b291ad0559ca91afab0b7de7452eb7c048fe947f", func := "keyhole/keyholelaw25.LtypeFits", spec := "ltypeFits", recurses := true, loops := true, apart := false }
def LtypeFitsSaid : Prop := ltypeFitsRow.holds Try.pinned (OpenSpec.ofChange ltypeFitsSpec)

/-- ITS FALSE NEIGHBOUR: 'it returns false'. Refute it at one input. -/
def ltypeFitsWrong : ChangeSpec := { name := "ltypeFits", fn := fun _ => fun
  | [d1, d2, d3] => { results := [.lit (.bool false)], args := [d1, d2, d3] }
  | _ => none }
def LtypeFitsWrongFalsely : Prop := ltypeFitsRow.holds Try.pinned (OpenSpec.ofChange ltypeFitsWrong)

/-- 'keyholelaw25.LtypeJoins': WHATEVER THE INPUT: true; the input reads as it did. -/
def ltypeJoinsSpec : ChangeSpec := { name := "ltypeJoins", fn := fun _ => fun
  | [d1, d2] => { results := [.lit (.bool true)], args := [d1, d2] }
  | _ => none }
def ltypeJoinsRow : OpenClaim := { program := "ytdpfpdejipkffaa", sum := "f1f31c72777d373aef6e4911b291ad0559ca91afab0b7de7452eb7c048fe947f", func := "keyhole/keyholelaw25.LtypeJoins", spec := "ltypeJoins", unfollowed := true, recurses := true, loops := true, apart := false }
def LtypeJoinsSaid : Prop := ltypeJoinsRow.holds Try.pinned (OpenSpec.ofChange ltypeJoinsSpec)

/-- ITS FALSE NEIGHBOUR: 'it returns false'. Refute it at one input. -/
def ltypeJoinsWrong : ChangeSpec := { name := "ltypeJoins", fn := fun _ => fun
  | [d1, d2] => { results := [.lit (.bool false)], args := [d1, d2] }
  | _ => none }
def LtypeJoinsWrongFalsely : Prop := ltypeJoinsRow.holds Try.pinned (OpenSpec.ofChange ltypeJoinsWrong)

/-- 'keyholelaw25.LtypeCuts': WHATEVER THE INPUT: true; the input reads as it did. -/
def ltypeCutsSpec : ChangeSpec := { name := "ltypeCuts", fn := fun _ => fun
  | [d1, d2, d3] => { results := [.lit (.bool true)], args := [d1, d2, d3] }
  | _ => none }
def ltypeCutsRow : OpenClaim := { program := "ytdpfpdejipkffaa", sum := "f1f31c72777d373aef6e4911b291ad0559ca91afab0b7de7452eb7c048fe947f", func := "keyhole/keyholelaw25.LtypeCuts", spec := "ltypeCuts", recurses := true, loops := true, apart := false }
def LtypeCutsSaid : Prop := ltypeCutsRow.holds Try.pinned (OpenSpec.ofChange ltypeCutsSpec)

/-- ITS FALSE NEIGHBOUR: 'it returns false'. Refute it at one input. -/
def ltypeCutsWrong : ChangeSpec := { name := "ltypeCuts", fn := fun _ => fun
  | [d1, d2, d3] => { results := [.lit (.bool false)], args := [d1, d2, d3] }
  | _ => none }
def LtypeCutsWrongFalsely : Prop := ltypeCutsRow.holds Try.pinned (OpenSpec.ofChange ltypeCutsWrong)

/-- 'keyholelaw25.LtypePlain': WHATEVER THE INPUT: true; the input reads as it did. -/
def ltypePlainSpec : ChangeSpec := { name := "ltypePlain", fn := fun _ => fun
  | [d1, d2, d3] => { results := [.lit (.bool true)], args := [d1, d2, d3] }
  | _ => none }
def ltypePlainRow : OpenClaim := { program := "ytdpfpdejipkffaa", sum := "f1f31c72777d373aef6e4911b291ad0559ca91afab0b7de7452eb7c048fe947f", func := "keyhole/keyholelaw25.LtypePlain", spec := "ltypePlain", unfollowed := true, recurses := true, loops := true, apart := false }
def LtypePlainSaid : Prop := ltypePlainRow.holds Try.pinned (OpenSpec.ofChange ltypePlainSpec)

/-- ITS FALSE NEIGHBOUR: 'it returns false'. Refute it at one input. -/
def ltypePlainWrong : ChangeSpec := { name := "ltypePlain", fn := fun _ => fun
  | [d1, d2, d3] => { results := [.lit (.bool false)], args := [d1, d2, d3] }
  | _ => none }
def LtypePlainWrongFalsely : Prop := ltypePlainRow.holds Try.pinned (OpenSpec.ofChange ltypePlainWrong)

/-- 'keyholelaw25.LtypeOrder': WHATEVER THE INPUT: true; the input reads as it did. -/
def ltypeOrderSpec : ChangeSpec := { name := "ltypeOrder", fn := fun _ => fun
  | [d1, d2, d3] => { results := [.lit (.bool true)], args := [d1, d2, d3] }
  | _ => none }
def ltypeOrderRow : OpenClaim := { program := "ytdpfpdejipkffaa", sum := "f1f31c72777d373aef6e4911b291ad0559ca91afab0b7de7452eb7c048fe947f", func := "keyhole/keyholelaw25.LtypeOrder", spec := "ltypeOrder", unfollowed := true, recurses := true, loops := true, apart := false }
def LtypeOrderSaid : Prop := ltypeOrderRow.holds Try.pinned (OpenSpec.ofChange ltypeOrderSpec)

/-- ITS FALSE NEIGHBOUR: 'it returns false'. Refute it at one input. -/
def ltypeOrderWrong : ChangeSpec := { name := "ltypeOrder", fn := fun _ => fun
  | [d1, d2, d3] => { results := [.lit (.bool false)], args := [d1, d2, d3] }
  | _ => none }
def LtypeOrderWrongFalsely : Prop := ltypeOrderRow.holds Try.pinned (OpenSpec.ofChange ltypeOrderWrong)

/- THE SECOND FORM. 'bulk': how many values and letters a reading holds, each counted each time it is reached (what is shared counts as often as it is met; a slice's spare places count too). A statement '..UptoSaid' is the law's where the arguments, and the package variables that the reading takes, are together of bulk at most 1048576: NARROWER than '..Said'. Prove '..Said' where nothing that the law and all that it calls make is longer than what came in: it says more and counts as full. Else prove '..UptoSaid'. A law counts once. -/
mutual
def uptoBulk {H : Type} : DataW H → Nat
  | .lit (.string bytes) => bytes.length + 1
  | .lit _ => 1
  | .nil => 1
  | .ptr d => uptoBulk d + 1
  | .slice elems spare => uptoBulkAll elems + uptoBulkAll spare + 1
  | .agg parts => uptoBulkAll parts + 1
  | .iface _ d => uptoBulk d + 1
  | .map entries => uptoBulkEntries entries + 1
  | .held _ => 1
def uptoBulkAll {H : Type} : List (DataW H) → Nat
  | [] => 0
  | d :: r => uptoBulk d + uptoBulkAll r
def uptoBulkEntries {H : Type} : List (Lit × DataW H) → Nat
  | [] => 0
  | x :: r => uptoBulkEntry x + uptoBulkEntries r
def uptoBulkEntry {H : Type} : Lit × DataW H → Nat
  | (.string bytes, d) => bytes.length + uptoBulk d + 1
  | (_, d) => uptoBulk d + 1
 end
def uptoSmall : (H : Type) → List (DataW H) → Bool := fun _ ds => decide (uptoBulkAll ds ≤ 1048576)
def OpenSpec.upto (s : _root_.Go.ChangeSpec) : _root_.Go.OpenSpec := { _root_.Go.OpenSpec.ofChange s with cond := some uptoSmall }

/-- 'keyholelaw25.LtypeIs', WHERE WHAT IT READS IS OF BULK AT MOST 1048576: true; the input reads as it did. -/
def ltypeIsUptoRow : OpenClaim := { program := "ytdpfpdejipkffaa", sum := "f1f31c72777d373aef6e4911b291ad0559ca91afab0b7de7452eb7c048fe947f", func := "keyhole/keyholelaw25.LtypeIs", spec := "ltypeIs", recurses := true, loops := true, apart := false, narrowed := true }
def LtypeIsUptoSaid : Prop := ltypeIsUptoRow.holds Try.pinned (OpenSpec.upto ltypeIsSpec)

/-- 'keyholelaw25.LtypeFits', WHERE WHAT IT READS IS OF BULK AT MOST 1048576: true; the input reads as it did. -/
def ltypeFitsUptoRow : OpenClaim := { program := "ytdpfpdejipkffaa", sum := "f1f31c72777d373aef6e4911b291ad0559ca91afab0b7de7452eb7c048fe947f", func := "keyhole/keyholelaw25.LtypeFits", spec := "ltypeFits", recurses := true, loops := true, apart := false, narrowed := true }
def LtypeFitsUptoSaid : Prop := ltypeFitsUptoRow.holds Try.pinned (OpenSpec.upto ltypeFitsSpec)

/-- 'keyholelaw25.LtypeJoins', WHERE WHAT IT READS IS OF BULK AT MOST 1048576: true; the input reads as it did. -/
def ltypeJoinsUptoRow : OpenClaim := { program := "ytdpfpdejipkffaa", sum := "f1f31c72777d373aef6e4911b291ad0559ca91afab0b7de7452eb7c048fe947f", func := "keyhole/keyholelaw25.LtypeJoins", spec := "ltypeJoins", unfollowed := true, recurses := true, loops := true, apart := false, narrowed := true }
def LtypeJoinsUptoSaid : Prop := ltypeJoinsUptoRow.holds Try.pinned (OpenSpec.upto ltypeJoinsSpec)

/-- 'keyholelaw25.LtypeCuts', WHERE WHAT IT READS IS OF BULK AT MOST 1048576: true; the input reads as it did. -/
def ltypeCutsUptoRow : OpenClaim := { program := "ytdpfpdejipkffaa", sum := "f1f31c72777d373aef6e4911b291ad0559ca91afab0b7de7452eb7c048fe947f", func := "keyhole/keyholelaw25.LtypeCuts", spec := "ltypeCuts", recurses := true, loops := true, apart := false, narrowed := true }
def LtypeCutsUptoSaid : Prop := ltypeCutsUptoRow.holds Try.pinned (OpenSpec.upto ltypeCutsSpec)

/-- 'keyholelaw25.LtypePlain', WHERE WHAT IT READS IS OF BULK AT MOST 1048576: true; the input reads as it did. -/
def ltypePlainUptoRow : OpenClaim := { program := "ytdpfpdejipkffaa", sum := "f1f31c72777d373aef6e4911b291ad0559ca91afab0b7de7452eb7c048fe947f", func := "keyhole/keyholelaw25.LtypePlain", spec := "ltypePlain", unfollowed := true, recurses := true, loops := true, apart := false, narrowed := true }
def LtypePlainUptoSaid : Prop := ltypePlainUptoRow.holds Try.pinned (OpenSpec.upto ltypePlainSpec)

/-- 'keyholelaw25.LtypeOrder', WHERE WHAT IT READS IS OF BULK AT MOST 1048576: true; the input reads as it did. -/
def ltypeOrderUptoRow : OpenClaim := { program := "ytdpfpdejipkffaa", sum := "f1f31c72777d373aef6e4911b291ad0559ca91afab0b7de7452eb7c048fe947f", func := "keyhole/keyholelaw25.LtypeOrder", spec := "ltypeOrder", unfollowed := true, recurses := true, loops := true, apart := false, narrowed := true }
def LtypeOrderUptoSaid : Prop := ltypeOrderUptoRow.holds Try.pinned (OpenSpec.upto ltypeOrderSpec)

end Rows
end Go.Proofs.Ytdpfpdejipkffaa
