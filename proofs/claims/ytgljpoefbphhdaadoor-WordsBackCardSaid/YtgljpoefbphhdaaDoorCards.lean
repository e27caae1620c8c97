/-
  DERIVED. GIVEN WITH THE SEED: THE CARDS: each row of YtgljpoefbphhdaaDoorRows.lean that lists a variable, with what it lists TIED to the program's text (the seventh form; the later family's looks); each row that meets fmt, with fmt's text TOLD by the authors' own Lean function (tested against real Go, not proved from fmt's source: count such statements apart). THE CARD IS WHAT COUNTS. Prove the row's statement (the work); the ties are given (YtgljpoefbphhdaaDoorTie.lean); close each card by the builder's one call (the guide's Derived/Test/ToyasCard.lean, 'card_holds'). Laid BY PROGRAM, IN A SANDBOX (cutbox-door.mjs). By AI agents, Wed Nov 11 2026. No macro, syntax, notation, axiom, sorry.
-/
import Derived.Test.YtgljpoefbphhdaaDoorRows
import GoSem.ClaimSeven
namespace Go.Proofs.YtgljpoefbphhdaaDoor
namespace Rows

/-- THE TIED CARD OF 'keyholelaw08.WordsTurn'. -/
def wordsTurnCard : Claim7 := { stood := { row := wordsTurnRow, standIns := [], harness := (true, "b44c108aceecd7d47ed22d4e4638a42bd923403d4ad18de2cf38663c675c01bf"), looks := false }, kinds := [], alts := [], laidByText := true, laidKinds := [.data, .pinned], laidTests := true, laidLooks := .later }
def WordsTurnCardSaid : Prop := Claim7.holds Tryd.pinned (.plain (OpenSpec.ofChange wordsTurnSpec)) wordsTurnCard

/-- THE TIED CARD OF 'keyholelaw08.WordsBack'. -/
def wordsBackCard : Claim7 := { stood := { row := wordsBackRow, standIns := [], harness := (true, "b44c108aceecd7d47ed22d4e4638a42bd923403d4ad18de2cf38663c675c01bf"), looks := false }, kinds := [], alts := [], laidByText := true, laidKinds := [.data, .pinned], laidTests := true, laidLooks := .later }
def WordsBackCardSaid : Prop := Claim7.holds Tryd.pinned (.plain (OpenSpec.ofChange wordsBackSpec)) wordsBackCard

/-- THE SECOND FORM's CARD OF 'keyholelaw08.WordsTurn'. -/
def wordsTurnUptoCard : Claim7 := { stood := { row := wordsTurnUptoRow, standIns := [], harness := (true, "b44c108aceecd7d47ed22d4e4638a42bd923403d4ad18de2cf38663c675c01bf"), looks := false }, kinds := [], alts := [], laidByText := true, laidKinds := [.data, .pinned], laidTests := true, laidLooks := .later }
def WordsTurnUptoCardSaid : Prop := Claim7.holds Tryd.pinned (.plain (OpenSpec.upto wordsTurnSpec)) wordsTurnUptoCard

/-- THE SECOND FORM's CARD OF 'keyholelaw08.WordsBack'. -/
def wordsBackUptoCard : Claim7 := { stood := { row := wordsBackUptoRow, standIns := [], harness := (true, "b44c108aceecd7d47ed22d4e4638a42bd923403d4ad18de2cf38663c675c01bf"), looks := false }, kinds := [], alts := [], laidByText := true, laidKinds := [.data, .pinned], laidTests := true, laidLooks := .later }
def WordsBackUptoCardSaid : Prop := Claim7.holds Tryd.pinned (.plain (OpenSpec.upto wordsBackSpec)) wordsBackUptoCard
end Rows
end Go.Proofs.YtgljpoefbphhdaaDoor
