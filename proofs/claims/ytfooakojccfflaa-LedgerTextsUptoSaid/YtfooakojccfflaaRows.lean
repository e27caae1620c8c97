/-
  NARROWER THAN 'FOR EVERY INPUT', by the rows' own cells (each row's printed sentence says how): LedgerTexts: loops · LedgerPicks: loops · LedgerMore: loops.
  DERIVED. THE GIVEN ROWS OF THIS SEAT. 3 by the template 'for every input the law returns true; each argument reads behind the call as it read before'; 0 by the template 'total and deterministic' (their statements: YtfooakojccfflaaTotals.lean).
  GIVEN WITH THE SEED: the statements are not yours to turn. If you find one false, say at which input.
  Laid BY PROGRAM, IN A SANDBOX (cutbox-rows.mjs): the forced cells as the released guide's own fill.sh prints them over the translation 253ea61b973287c1… (all of the seat's roots in one cut). By AI agents, Wed Nov 11 2026. No macro, syntax, notation, axiom, sorry.
-/
import Derived.Test.YtfooakojccfflaaChecked
import GoSem.Claim
import GoSem.ClaimJoined
import GoSem.ClaimMapViews
import Derived.JoinedTies
import Derived.KernelRfl
namespace Go.Proofs.Ytfooakojccfflaa
/- THE CELL 'sum', in the pinned program and in every row, IS THE sha256 OF THE DUMP (.gsa) THAT YtfooakojccfflaaProg.lean LOADS. Nothing in Lean hashes anything: it is a label: what it is worth is what the hold of that sum in a sandbox is worth. -/
noncomputable def Try.pinned : Pinned := { name := "ytfooakojccfflaa", sum := "253ea61b973287c179769042006def78fe101f893163c8dd7e6078ac5323d976", checked := Try.checked }
namespace Rows
def none {H : Type} : Left H := { results := [], args := [] }

/-- 'keyholelaw28.LedgerTexts': WHATEVER THE INPUT: true; the input reads as it did. -/
def ledgerTextsSpec : ChangeSpec := { name := "ledgerTexts", fn := fun _ => fun
  | [d1, d2] => { results := [.lit (.bool true)], args := [d1, d2] }
  | _ => none }
def ledgerTextsRow : OpenClaim := { program := "ytfooakojccfflaa", sum := "253ea61b973287c179769042006def78fe101f893163c8dd7e6078ac5323d976", func := "keyhole/keyholelaw28.LedgerTexts", spec := "ledgerTexts", inPlace := ["internal/abi.NoEscape", "internal/bytealg.MakeNoZero"], recurses := true, loops := true, apart := false }
def LedgerTextsSaid : Prop := ledgerTextsRow.holds Try.pinned (OpenSpec.ofChange ledgerTextsSpec)

/-- ITS FALSE NEIGHBOUR: 'it returns false'. Refute it at one input. -/
def ledgerTextsWrong : ChangeSpec := { name := "ledgerTexts", fn := fun _ => fun
  | [d1, d2] => { results := [.lit (.bool false)], args := [d1, d2] }
  | _ => none }
def LedgerTextsWrongFalsely : Prop := ledgerTextsRow.holds Try.pinned (OpenSpec.ofChange ledgerTextsWrong)

/-- 'keyholelaw28.LedgerPicks': WHATEVER THE INPUT: true; the input reads as it did. -/
def ledgerPicksSpec : ChangeSpec := { name := "ledgerPicks", fn := fun _ => fun
  | [d1, d2, d3] => { results := [.lit (.bool true)], args := [d1, d2, d3] }
  | _ => none }
def ledgerPicksRow : OpenClaim := { program := "ytfooakojccfflaa", sum := "253ea61b973287c179769042006def78fe101f893163c8dd7e6078ac5323d976", func := "keyhole/keyholelaw28.LedgerPicks", spec := "ledgerPicks", inPlace := ["internal/abi.NoEscape", "internal/bytealg.MakeNoZero"], unfollowed := true, recurses := true, loops := true, apart := false }
def LedgerPicksSaid : Prop := ledgerPicksRow.holds Try.pinned (OpenSpec.ofChange ledgerPicksSpec)

/-- ITS FALSE NEIGHBOUR: 'it returns false'. Refute it at one input. -/
def ledgerPicksWrong : ChangeSpec := { name := "ledgerPicks", fn := fun _ => fun
  | [d1, d2, d3] => { results := [.lit (.bool false)], args := [d1, d2, d3] }
  | _ => none }
def LedgerPicksWrongFalsely : Prop := ledgerPicksRow.holds Try.pinned (OpenSpec.ofChange ledgerPicksWrong)

/-- 'keyholelaw28.LedgerMore': WHATEVER THE INPUT: true; the input reads as it did. -/
def ledgerMoreSpec : ChangeSpec := { name := "ledgerMore", fn := fun _ => fun
  | [d1, d2, d3] => { results := [.lit (.bool true)], args := [d1, d2, d3] }
  | _ => none }
def ledgerMoreRow : OpenClaim := { program := "ytfooakojccfflaa", sum := "253ea61b973287c179769042006def78fe101f893163c8dd7e6078ac5323d976", func := "keyhole/keyholelaw28.LedgerMore", spec := "ledgerMore", inPlace := ["internal/abi.NoEscape", "internal/bytealg.MakeNoZero"], unfollowed := true, recurses := true, loops := true, apart := false }
def LedgerMoreSaid : Prop := ledgerMoreRow.holds Try.pinned (OpenSpec.ofChange ledgerMoreSpec)

/-- ITS FALSE NEIGHBOUR: 'it returns false'. Refute it at one input. -/
def ledgerMoreWrong : ChangeSpec := { name := "ledgerMore", fn := fun _ => fun
  | [d1, d2, d3] => { results := [.lit (.bool false)], args := [d1, d2, d3] }
  | _ => none }
def LedgerMoreWrongFalsely : Prop := ledgerMoreRow.holds Try.pinned (OpenSpec.ofChange ledgerMoreWrong)

/- THE SECOND FORM. 'bulk': how many values and letters a reading holds, each counted each time it is reached (what is shared counts as often as it is met; a slice's spare places count too). A statement '..UptoSaid' is the law's where the arguments, and the package variables that the reading takes, are together of bulk at most 1048576: NARROWER than '..Said'. Prove '..Said' where nothing that the law and all that it calls make is longer than what came in: it says more and counts as full. Else prove '..UptoSaid'. A law counts once. -/
mutual
def uptoBulk {H : Type} : DataW H → Nat
  | .lit (.string bytes) => bytes.length + 1
  | .lit _ => 1
  | .nil => 1
  | .ptr d => uptoBulk d + 1
  | .slice elems spare => uptoBulkAll elems + uptoBulkAll spare + 1
  | .agg parts => uptoBulkAll parts + 1
  | .iface _ d => uptoBulk d + 1
  | .map entries => uptoBulkEntries entries + 1
  | .held _ => 1
def uptoBulkAll {H : Type} : List (DataW H) → Nat
  | [] => 0
  | d :: r => uptoBulk d + uptoBulkAll r
def uptoBulkEntries {H : Type} : List (Lit × DataW H) → Nat
  | [] => 0
  | x :: r => uptoBulkEntry x + uptoBulkEntries r
def uptoBulkEntry {H : Type} : Lit × DataW H → Nat
  | (.string bytes, d) => bytes.length + uptoBulk d + 1
  | (_, d) => uptoBulk d + 1
 end
def uptoSmall : (H : Type) → List (DataW H) → Bool := fun _ ds => decide (uptoBulkAll ds ≤ 1048576)
def OpenSpec.upto (s : _root_.Go.ChangeSpec) : _root_.Go.OpenSpec := { _root_.Go.OpenSpec.ofChange s with cond := some uptoSmall }

/-- 'keyholelaw28.LedgerTexts', WHERE WHAT IT READS IS OF BULK AT MOST 1048576: true; the input reads as it did. -/
def ledgerTextsUptoRow : OpenClaim := { program := "ytfooakojccfflaa", sum := "253ea61b973287c179769042006def78fe101f893163c8dd7e6078ac5323d976", func := "keyhole/keyholelaw28.LedgerTexts", spec := "ledgerTexts", inPlace := ["internal/abi.NoEscape", "internal/bytealg.MakeNoZero"], recurses := true, loops := true, apart := false, narrowed := true }
def LedgerTextsUptoSaid : Prop := ledgerTextsUptoRow.holds Try.pinned (OpenSpec.upto ledgerTextsSpec)

/-- 'keyholelaw28.LedgerPicks', WHERE WHAT IT READS IS OF BULK AT MOST 1048576: true; the input reads as it did. -/
def ledgerPicksUptoRow : OpenClaim := { program := "ytfooakojccfflaa", sum := "253ea61b973287c179769042006def78fe101f893163c8dd7e6078ac5323d976", func := "keyhole/keyholelaw28.LedgerPicks", spec := "ledgerPicks", inPlace := ["internal/abi.NoEscape", "internal/bytealg.MakeNoZero"], unfollowed := true, recurses := true, loops := true, apart := false, narrowed := true }
def LedgerPicksUptoSaid : Prop := ledgerPicksUptoRow.holds Try.pinned (OpenSpec.upto ledgerPicksSpec)

/-- 'keyholelaw28.LedgerMore', WHERE WHAT IT READS IS OF BULK AT MOST 1048576: true; the input reads as it did. -/
def ledgerMoreUptoRow : OpenClaim := { program := "ytfooakojccfflaa", sum := "253ea61b973287c179769042006def78fe101f893163c8dd7e6078ac5323d976", func := "keyhole/keyholelaw28.LedgerMore", spec := "ledgerMore", inPlace := ["internal/abi.NoEscape", "internal/bytealg.MakeNoZero"], unfollowed := true, recurses := true, loops := true, apart := false, narrowed := true }
def LedgerMoreUptoSaid : Prop := ledgerMoreUptoRow.holds Try.pinned (OpenSpec.upto ledgerMoreSpec)

end Rows
end Go.Proofs.Ytfooakojccfflaa
