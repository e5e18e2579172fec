/-
  DERIVED. GIVEN WITH THE SEED: THE CARDS: each row of YtcohbfabcdjefaaGreatDoorRows.lean that lists a variable, with what it lists TIED to the program's text (the seventh form; the later family's looks); each row that meets fmt, with fmt's text TOLD by the authors' own Lean function (tested against real Go, not proved from fmt's source: count such statements apart). THE CARD IS WHAT COUNTS. Prove the row's statement (the work); the ties are given (YtcohbfabcdjefaaGreatDoorTie.lean); close each card by the builder's one call (the guide's Derived/Test/ToyasCard.lean, 'card_holds'). Laid BY PROGRAM, IN A SANDBOX (cutbox-door.mjs). By AI agents, Wed Nov 11 2026. No macro, syntax, notation, axiom, sorry.
-/
import Derived.Test.YtcohbfabcdjefaaGreatDoorRows
import GoSem.ClaimSeven
namespace Go.Proofs.YtcohbfabcdjefaaGreatDoor
namespace Rows

/-- THE TIED CARD OF 'redresslaw19.OutboxBars'. -/
def outboxBarsCard : Claim7 := { stood := { row := outboxBarsRow, standIns := [], harness := (true, "20721f0eda9ea5e6328231e7594cc1a46fffebeef771fe2998e0abc59d15d557"), looks := true }, kinds := [], alts := [], goes := true, laidByText := true, laidKinds := [.data, .data, .data, .data, .sentinel, .sentinel, .pinned], laidTests := true, laidLooks := .later }
def OutboxBarsCardSaid : Prop := Claim7.holds Tryz.pinned (.plain (OpenSpec.ofChange outboxBarsSpec)) outboxBarsCard
end Rows
end Go.Proofs.YtcohbfabcdjefaaGreatDoor
