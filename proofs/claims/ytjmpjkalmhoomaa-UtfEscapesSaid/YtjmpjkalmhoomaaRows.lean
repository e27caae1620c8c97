/-
  No cell of these rows narrows 'for every input' (looked for: loops, veiled, ifaces, maps, wideKeys, modest, calm, conditions, laid).
  DERIVED. THE GIVEN ROWS OF THIS SEAT. 5 by the template 'for every input the law returns true; each argument reads behind the call as it read before'; 0 by the template 'total and deterministic' (their statements: YtjmpjkalmhoomaaTotals.lean).
  GIVEN WITH THE SEED: the statements are not yours to turn. If you find one false, say at which input.
  Laid BY PROGRAM, IN A SANDBOX (cutbox-rows.mjs): the forced cells as the released guide's own fill.sh prints them over the translation 909c8c483243e4fa… (all of the seat's roots in one cut). By AI agents, Wed Nov 11 2026. No macro, syntax, notation, axiom, sorry.
-/
import Derived.Test.YtjmpjkalmhoomaaChecked
import GoSem.Claim
import GoSem.ClaimJoined
import GoSem.ClaimMapViews
import Derived.JoinedTies
import Derived.KernelRfl
namespace Go.Proofs.Ytjmpjkalmhoomaa
/- THE CELL 'sum', in the pinned program and in every row, IS THE sha256 OF THE DUMP (.gsa) THAT YtjmpjkalmhoomaaProg.lean LOADS. Nothing in Lean hashes anything: it is a label: what it is worth is what the hold of that sum in a sandbox is worth. -/
noncomputable def Try.pinned : Pinned := { name := "ytjmpjkalmhoomaa", sum := "909c8c483243e4fa37e2a025982fdd6b3950135bc002344a98da160ad6ee96b1", checked := Try.checked }
namespace Rows
def none {H : Type} : Left H := { results := [], args := [] }

/-- 'keyholelaw03.UtfQuotes': WHATEVER THE INPUT: true; the input reads as it did. -/
def utfQuotesSpec : ChangeSpec := { name := "utfQuotes", fn := fun _ => fun
  | [d] => { results := [.lit (.bool true)], args := [d] }
  | _ => none }
def utfQuotesRow : OpenClaim := { program := "ytjmpjkalmhoomaa", sum := "909c8c483243e4fa37e2a025982fdd6b3950135bc002344a98da160ad6ee96b1", func := "keyhole/keyholelaw03.UtfQuotes", spec := "utfQuotes", inPlace := ["internal/abi.NoEscape"], apart := false }
def UtfQuotesSaid : Prop := utfQuotesRow.holds Try.pinned (OpenSpec.ofChange utfQuotesSpec)

/-- ITS FALSE NEIGHBOUR: 'it returns false'. Refute it at one input. -/
def utfQuotesWrong : ChangeSpec := { name := "utfQuotes", fn := fun _ => fun
  | [d] => { results := [.lit (.bool false)], args := [d] }
  | _ => none }
def UtfQuotesWrongFalsely : Prop := utfQuotesRow.holds Try.pinned (OpenSpec.ofChange utfQuotesWrong)

/-- 'keyholelaw03.UtfTexts': WHATEVER THE INPUT: true; the input reads as it did. -/
def utfTextsSpec : ChangeSpec := { name := "utfTexts", fn := fun _ => fun
  | [d1, d2] => { results := [.lit (.bool true)], args := [d1, d2] }
  | _ => none }
def utfTextsRow : OpenClaim := { program := "ytjmpjkalmhoomaa", sum := "909c8c483243e4fa37e2a025982fdd6b3950135bc002344a98da160ad6ee96b1", func := "keyhole/keyholelaw03.UtfTexts", spec := "utfTexts", inPlace := ["internal/abi.NoEscape"], apart := false }
def UtfTextsSaid : Prop := utfTextsRow.holds Try.pinned (OpenSpec.ofChange utfTextsSpec)

/-- ITS FALSE NEIGHBOUR: 'it returns false'. Refute it at one input. -/
def utfTextsWrong : ChangeSpec := { name := "utfTexts", fn := fun _ => fun
  | [d1, d2] => { results := [.lit (.bool false)], args := [d1, d2] }
  | _ => none }
def UtfTextsWrongFalsely : Prop := utfTextsRow.holds Try.pinned (OpenSpec.ofChange utfTextsWrong)

/-- 'keyholelaw03.UtfReads': WHATEVER THE INPUT: true; the input reads as it did. -/
def utfReadsSpec : ChangeSpec := { name := "utfReads", fn := fun _ => fun
  | [d] => { results := [.lit (.bool true)], args := [d] }
  | _ => none }
def utfReadsRow : OpenClaim := { program := "ytjmpjkalmhoomaa", sum := "909c8c483243e4fa37e2a025982fdd6b3950135bc002344a98da160ad6ee96b1", func := "keyhole/keyholelaw03.UtfReads", spec := "utfReads", inPlace := ["internal/abi.NoEscape", "internal/bytealg.IndexByteString"], apart := false }
def UtfReadsSaid : Prop := utfReadsRow.holds Try.pinned (OpenSpec.ofChange utfReadsSpec)

/-- ITS FALSE NEIGHBOUR: 'it returns false'. Refute it at one input. -/
def utfReadsWrong : ChangeSpec := { name := "utfReads", fn := fun _ => fun
  | [d] => { results := [.lit (.bool false)], args := [d] }
  | _ => none }
def UtfReadsWrongFalsely : Prop := utfReadsRow.holds Try.pinned (OpenSpec.ofChange utfReadsWrong)

/-- 'keyholelaw03.UtfEscapes': WHATEVER THE INPUT: true; the input reads as it did. -/
def utfEscapesSpec : ChangeSpec := { name := "utfEscapes", fn := fun _ => fun
  | [d] => { results := [.lit (.bool true)], args := [d] }
  | _ => none }
def utfEscapesRow : OpenClaim := { program := "ytjmpjkalmhoomaa", sum := "909c8c483243e4fa37e2a025982fdd6b3950135bc002344a98da160ad6ee96b1", func := "keyhole/keyholelaw03.UtfEscapes", spec := "utfEscapes", inPlace := ["internal/abi.NoEscape", "internal/bytealg.IndexByteString"], apart := false }
def UtfEscapesSaid : Prop := utfEscapesRow.holds Try.pinned (OpenSpec.ofChange utfEscapesSpec)

/-- ITS FALSE NEIGHBOUR: 'it returns false'. Refute it at one input. -/
def utfEscapesWrong : ChangeSpec := { name := "utfEscapes", fn := fun _ => fun
  | [d] => { results := [.lit (.bool false)], args := [d] }
  | _ => none }
def UtfEscapesWrongFalsely : Prop := utfEscapesRow.holds Try.pinned (OpenSpec.ofChange utfEscapesWrong)

/-- 'keyholelaw03.UtfBack': WHATEVER THE INPUT: true; the input reads as it did. -/
def utfBackSpec : ChangeSpec := { name := "utfBack", fn := fun _ => fun
  | [d1, d2] => { results := [.lit (.bool true)], args := [d1, d2] }
  | _ => none }
def utfBackRow : OpenClaim := { program := "ytjmpjkalmhoomaa", sum := "909c8c483243e4fa37e2a025982fdd6b3950135bc002344a98da160ad6ee96b1", func := "keyhole/keyholelaw03.UtfBack", spec := "utfBack", inPlace := ["internal/abi.NoEscape", "internal/bytealg.IndexByteString"], apart := false }
def UtfBackSaid : Prop := utfBackRow.holds Try.pinned (OpenSpec.ofChange utfBackSpec)

/-- ITS FALSE NEIGHBOUR: 'it returns false'. Refute it at one input. -/
def utfBackWrong : ChangeSpec := { name := "utfBack", fn := fun _ => fun
  | [d1, d2] => { results := [.lit (.bool false)], args := [d1, d2] }
  | _ => none }
def UtfBackWrongFalsely : Prop := utfBackRow.holds Try.pinned (OpenSpec.ofChange utfBackWrong)

/- THE SECOND FORM. 'bulk': how many values and letters a reading holds, each counted each time it is reached (what is shared counts as often as it is met; a slice's spare places count too). A statement '..UptoSaid' is the law's where the arguments, and the package variables that the reading takes, are together of bulk at most 1048576: NARROWER than '..Said'. Prove '..Said' where nothing that the law and all that it calls make is longer than what came in: it says more and counts as full. Else prove '..UptoSaid'. A law counts once. -/
mutual
def uptoBulk {H : Type} : DataW H → Nat
  | .lit (.string bytes) => bytes.length + 1
  | .lit _ => 1
  | .nil => 1
  | .ptr d => uptoBulk d + 1
  | .slice elems spare => uptoBulkAll elems + uptoBulkAll spare + 1
  | .agg parts => uptoBulkAll parts + 1
  | .iface _ d => uptoBulk d + 1
  | .map entries => uptoBulkEntries entries + 1
  | .held _ => 1
def uptoBulkAll {H : Type} : List (DataW H) → Nat
  | [] => 0
  | d :: r => uptoBulk d + uptoBulkAll r
def uptoBulkEntries {H : Type} : List (Lit × DataW H) → Nat
  | [] => 0
  | x :: r => uptoBulkEntry x + uptoBulkEntries r
def uptoBulkEntry {H : Type} : Lit × DataW H → Nat
  | (.string bytes, d) => bytes.length + uptoBulk d + 1
  | (_, d) => uptoBulk d + 1
 end
def uptoSmall : (H : Type) → List (DataW H) → Bool := fun _ ds => decide (uptoBulkAll ds ≤ 1048576)
def OpenSpec.upto (s : _root_.Go.ChangeSpec) : _root_.Go.OpenSpec := { _root_.Go.OpenSpec.ofChange s with cond := some uptoSmall }

/-- 'keyholelaw03.UtfQuotes', WHERE WHAT IT READS IS OF BULK AT MOST 1048576: true; the input reads as it did. -/
def utfQuotesUptoRow : OpenClaim := { program := "ytjmpjkalmhoomaa", sum := "909c8c483243e4fa37e2a025982fdd6b3950135bc002344a98da160ad6ee96b1", func := "keyhole/keyholelaw03.UtfQuotes", spec := "utfQuotes", inPlace := ["internal/abi.NoEscape"], apart := false, narrowed := true }
def UtfQuotesUptoSaid : Prop := utfQuotesUptoRow.holds Try.pinned (OpenSpec.upto utfQuotesSpec)

/-- 'keyholelaw03.UtfTexts', WHERE WHAT IT READS IS OF BULK AT MOST 1048576: true; the input reads as it did. -/
def utfTextsUptoRow : OpenClaim := { program := "ytjmpjkalmhoomaa", sum := "909c8c483243e4fa37e2a025982fdd6b3950135bc002344a98da160ad6ee96b1", func := "keyhole/keyholelaw03.UtfTexts", spec := "utfTexts", inPlace := ["internal/abi.NoEscape"], apart := false, narrowed := true }
def UtfTextsUptoSaid : Prop := utfTextsUptoRow.holds Try.pinned (OpenSpec.upto utfTextsSpec)

/-- 'keyholelaw03.UtfReads', WHERE WHAT IT READS IS OF BULK AT MOST 1048576: true; the input reads as it did. -/
def utfReadsUptoRow : OpenClaim := { program := "ytjmpjkalmhoomaa", sum := "909c8c483243e4fa37e2a025982fdd6b3950135bc002344a98da160ad6ee96b1", func := "keyhole/keyholelaw03.UtfReads", spec := "utfReads", inPlace := ["internal/abi.NoEscape", "internal/bytealg.IndexByteString"], apart := false, narrowed := true }
def UtfReadsUptoSaid : Prop := utfReadsUptoRow.holds Try.pinned (OpenSpec.upto utfReadsSpec)

/-- 'keyholelaw03.UtfEscapes', WHERE WHAT IT READS IS OF BULK AT MOST 1048576: true; the input reads as it did. -/
def utfEscapesUptoRow : OpenClaim := { program := "ytjmpjkalmhoomaa", sum := "909c8c483243e4fa37e2a025982fdd6b3950135bc002344a98da160ad6ee96b1", func := "keyhole/keyholelaw03.UtfEscapes", spec := "utfEscapes", inPlace := ["internal/abi.NoEscape", "internal/bytealg.IndexByteString"], apart := false, narrowed := true }
def UtfEscapesUptoSaid : Prop := utfEscapesUptoRow.holds Try.pinned (OpenSpec.upto utfEscapesSpec)

/-- 'keyholelaw03.UtfBack', WHERE WHAT IT READS IS OF BULK AT MOST 1048576: true; the input reads as it did. -/
def utfBackUptoRow : OpenClaim := { program := "ytjmpjkalmhoomaa", sum := "909c8c483243e4fa37e2a025982fdd6b3950135bc002344a98da160ad6ee96b1", func := "keyhole/keyholelaw03.UtfBack", spec := "utfBack", inPlace := ["internal/abi.NoEscape", "internal/bytealg.IndexByteString"], apart := false, narrowed := true }
def UtfBackUptoSaid : Prop := utfBackUptoRow.holds Try.pinned (OpenSpec.upto utfBackSpec)

end Rows
end Go.Proofs.Ytjmpjkalmhoomaa
