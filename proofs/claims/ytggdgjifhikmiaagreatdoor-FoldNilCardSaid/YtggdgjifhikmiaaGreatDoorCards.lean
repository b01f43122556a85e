/-
  DERIVED. GIVEN WITH THE SEED: THE CARDS: each row of YtggdgjifhikmiaaGreatDoorRows.lean that lists a variable, with what it lists TIED to the program's text (the seventh form; the later family's looks); each row that meets fmt, with fmt's text TOLD by the authors' own Lean function (tested against real Go, not proved from fmt's source: count such statements apart). THE CARD IS WHAT COUNTS. Prove the row's statement (the work); the ties are given (YtggdgjifhikmiaaGreatDoorTie.lean); close each card by the builder's one call (the guide's Derived/Test/ToyasCard.lean, 'card_holds'). Laid BY PROGRAM, IN A SANDBOX (cutbox-door.mjs). By AI agents, Wed Nov 11 2026. No macro, syntax, notation, axiom, sorry.
-/
import Derived.Test.YtggdgjifhikmiaaGreatDoorRows
import GoSem.ClaimSeven
namespace Go.Proofs.YtggdgjifhikmiaaGreatDoor
namespace Rows

/-- THE TIED CARD OF 'yanklinelaw10.FoldPlays'. -/
def foldPlaysCard : Claim7 := { stood := { row := foldPlaysRow, standIns := [], harness := (true, "aa7d4da17fcea8a5b70120aa86986dd041b6c891c7c630ec627f366a6da3e015"), looks := true }, kinds := [], alts := [], laidByText := true, laidKinds := [.data, .data, .data, .data, .handle, .sentinel, .sentinel, .pinned], laidTests := true, laidLooks := .later }
def FoldPlaysCardSaid : Prop := Claim7.holds Tryz.pinned (.plain (OpenSpec.ofChange foldPlaysSpec)) foldPlaysCard

/-- THE TIED CARD OF 'yanklinelaw10.FoldOfs'. -/
def foldOfsCard : Claim7 := { stood := { row := foldOfsRow, standIns := [], harness := (true, "aa7d4da17fcea8a5b70120aa86986dd041b6c891c7c630ec627f366a6da3e015"), looks := true }, kinds := [], alts := [], laidByText := true, laidKinds := [.data, .data, .data, .data, .handle, .sentinel, .sentinel, .pinned], laidTests := true, laidLooks := .later }
def FoldOfsCardSaid : Prop := Claim7.holds Tryz.pinned (.plain (OpenSpec.ofChange foldOfsSpec)) foldOfsCard

/-- THE TIED CARD OF 'yanklinelaw10.FoldNil'. -/
def foldNilCard : Claim7 := { stood := { row := foldNilRow, standIns := [], harness := (true, "aa7d4da17fcea8a5b70120aa86986dd041b6c891c7c630ec627f366a6da3e015"), looks := true }, kinds := [], alts := [], laidByText := true, laidKinds := [.data, .data, .data, .data, .handle, .sentinel, .sentinel, .pinned], laidTests := true, laidLooks := .later }
def FoldNilCardSaid : Prop := Claim7.holds Tryz.pinned (.plain (OpenSpec.ofChange foldNilSpec)) foldNilCard

/-- THE SECOND FORM's CARD OF 'yanklinelaw10.FoldPlays'. -/
def foldPlaysUptoCard : Claim7 := { stood := { row := foldPlaysUptoRow, standIns := [], harness := (true, "aa7d4da17fcea8a5b70120aa86986dd041b6c891c7c630ec627f366a6da3e015"), looks := true }, kinds := [], alts := [], laidByText := true, laidKinds := [.data, .data, .data, .data, .handle, .sentinel, .sentinel, .pinned], laidTests := true, laidLooks := .later }
def FoldPlaysUptoCardSaid : Prop := Claim7.holds Tryz.pinned (.plain (OpenSpec.upto foldPlaysSpec)) foldPlaysUptoCard

/-- THE SECOND FORM's CARD OF 'yanklinelaw10.FoldOfs'. -/
def foldOfsUptoCard : Claim7 := { stood := { row := foldOfsUptoRow, standIns := [], harness := (true, "aa7d4da17fcea8a5b70120aa86986dd041b6c891c7c630ec627f366a6da3e015"), looks := true }, kinds := [], alts := [], laidByText := true, laidKinds := [.data, .data, .data, .data, .handle, .sentinel, .sentinel, .pinned], laidTests := true, laidLooks := .later }
def FoldOfsUptoCardSaid : Prop := Claim7.holds Tryz.pinned (.plain (OpenSpec.upto foldOfsSpec)) foldOfsUptoCard

/-- THE SECOND FORM's CARD OF 'yanklinelaw10.FoldNil'. -/
def foldNilUptoCard : Claim7 := { stood := { row := foldNilUptoRow, standIns := [], harness := (true, "aa7d4da17fcea8a5b70120aa86986dd041b6c891c7c630ec627f366a6da3e015"), looks := true }, kinds := [], alts := [], laidByText := true, laidKinds := [.data, .data, .data, .data, .handle, .sentinel, .sentinel, .pinned], laidTests := true, laidLooks := .later }
def FoldNilUptoCardSaid : Prop := Claim7.holds Tryz.pinned (.plain (OpenSpec.upto foldNilSpec)) foldNilUptoCard
end Rows
end Go.Proofs.YtggdgjifhikmiaaGreatDoor
