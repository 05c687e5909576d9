/-
  DERIVED. GIVEN WITH THE SEED: THE CARDS: each row of YthlpfhenaakljaaGreatDoorRows.lean that lists a variable, with what it lists TIED to the program's text (the seventh form; the later family's looks); each row that meets fmt, with fmt's text TOLD by the authors' own Lean function (tested against real Go, not proved from fmt's source: count such statements apart). THE CARD IS WHAT COUNTS. Prove the row's statement (the work); the ties are given (YthlpfhenaakljaaGreatDoorTie.lean); close each card by the builder's one call (the guide's Derived/Test/ToyasCard.lean, 'card_holds'). Laid BY PROGRAM, IN A SANDBOX (cutbox-door.mjs). By AI agents, Wed Nov 11 2026. No macro, syntax, notation, axiom, sorry.
-/
import Derived.Test.YthlpfhenaakljaaGreatDoorRows
import GoSem.ClaimSeven
namespace Go.Proofs.YthlpfhenaakljaaGreatDoor
namespace Rows

/-- THE TIED CARD OF 'tombolalaw06.RatSums'. -/
def ratSumsCard : Claim7 := { stood := { row := ratSumsRow, standIns := [], harness := (true, "58c17ee7f9fb0f2a066f4f385d27f66e83ce16b2992ff2b03e6a019e83fe2a2d"), looks := false }, kinds := [], alts := [], laidByText := true, laidKinds := [.data, .pinned], laidTests := true, laidLooks := .later }
def RatSumsCardSaid : Prop := Claim7.holds Tryz.pinned (.plain (OpenSpec.ofChange ratSumsSpec)) ratSumsCard

/-- THE SECOND FORM's CARD OF 'tombolalaw06.RatSums'. -/
def ratSumsUptoCard : Claim7 := { stood := { row := ratSumsUptoRow, standIns := [], harness := (true, "58c17ee7f9fb0f2a066f4f385d27f66e83ce16b2992ff2b03e6a019e83fe2a2d"), looks := false }, kinds := [], alts := [], laidByText := true, laidKinds := [.data, .pinned], laidTests := true, laidLooks := .later }
def RatSumsUptoCardSaid : Prop := Claim7.holds Tryz.pinned (.plain (OpenSpec.upto ratSumsSpec)) ratSumsUptoCard
end Rows
end Go.Proofs.YthlpfhenaakljaaGreatDoor
