/-
  DERIVED. GIVEN WITH THE SEED: THE CARDS: each row of YtjkelipglcnpmaaDoorRows.lean that lists a variable, with what it lists TIED to the program's text (the seventh form; the later family's looks); each row that meets fmt, with fmt's text TOLD by the authors' own Lean function (tested against real Go, not proved from fmt's source: count such statements apart). THE CARD IS WHAT COUNTS. Prove the row's statement (the work); the ties are given (YtjkelipglcnpmaaDoorTie.lean); close each card by the builder's one call (the guide's Derived/Test/ToyasCard.lean, 'card_holds'). Laid BY PROGRAM, IN A SANDBOX (cutbox-door.mjs). By AI agents, Wed Nov 11 2026. No macro, syntax, notation, axiom, sorry.
-/
import Derived.Test.YtjkelipglcnpmaaDoorRows
import GoSem.ClaimSeven
namespace Go.Proofs.YtjkelipglcnpmaaDoor
namespace Rows

/-- THE TIED CARD OF 'burrowlaw12.TagsBack'. -/
def tagsBackCard : Claim7 := { stood := { row := tagsBackRow, standIns := [], harness := (true, "4a78f8a2d8650979a02e67aa48df3d6ca6e1982fc43cc357108f333d8291e1f6"), looks := false }, kinds := [], alts := [], laidByText := true, laidKinds := [.data], laidTests := true, laidLooks := .later }
def TagsBackCardSaid : Prop := Claim7.holds Tryd.pinned (.plain (OpenSpec.ofChange tagsBackSpec)) tagsBackCard

/-- THE TIED CARD OF 'burrowlaw12.TagsParse'. -/
def tagsParseCard : Claim7 := { stood := { row := tagsParseRow, standIns := [], harness := (true, "4a78f8a2d8650979a02e67aa48df3d6ca6e1982fc43cc357108f333d8291e1f6"), looks := false }, kinds := [], alts := [], laidByText := true, laidKinds := [.data], laidTests := true, laidLooks := .later }
def TagsParseCardSaid : Prop := Claim7.holds Tryd.pinned (.plain (OpenSpec.ofChange tagsParseSpec)) tagsParseCard

/-- THE SECOND FORM's CARD OF 'burrowlaw12.TagsBack'. -/
def tagsBackUptoCard : Claim7 := { stood := { row := tagsBackUptoRow, standIns := [], harness := (true, "4a78f8a2d8650979a02e67aa48df3d6ca6e1982fc43cc357108f333d8291e1f6"), looks := false }, kinds := [], alts := [], laidByText := true, laidKinds := [.data], laidTests := true, laidLooks := .later }
def TagsBackUptoCardSaid : Prop := Claim7.holds Tryd.pinned (.plain (OpenSpec.upto tagsBackSpec)) tagsBackUptoCard

/-- THE SECOND FORM's CARD OF 'burrowlaw12.TagsParse'. -/
def tagsParseUptoCard : Claim7 := { stood := { row := tagsParseUptoRow, standIns := [], harness := (true, "4a78f8a2d8650979a02e67aa48df3d6ca6e1982fc43cc357108f333d8291e1f6"), looks := false }, kinds := [], alts := [], laidByText := true, laidKinds := [.data], laidTests := true, laidLooks := .later }
def TagsParseUptoCardSaid : Prop := Claim7.holds Tryd.pinned (.plain (OpenSpec.upto tagsParseSpec)) tagsParseUptoCard
end Rows
end Go.Proofs.YtjkelipglcnpmaaDoor
