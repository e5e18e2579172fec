/-
  DERIVED. GIVEN WITH THE SEED: THE CARDS: each row of YtfnfbnfjgpfmfaaDoorRows.lean that lists a variable, with what it lists TIED to the program's text (the seventh form; the later family's looks); each row that meets fmt, with fmt's text TOLD by the authors' own Lean function (tested against real Go, not proved from fmt's source: count such statements apart). THE CARD IS WHAT COUNTS. Prove the row's statement (the work); the ties are given (YtfnfbnfjgpfmfaaDoorTie.lean); close each card by the builder's one call (the guide's Derived/Test/ToyasCard.lean, 'card_holds'). Laid BY PROGRAM, IN A SANDBOX (cutbox-door.mjs). By AI agents, Wed Nov 11 2026. No macro, syntax, notation, axiom, sorry.
-/
import Derived.Test.YtfnfbnfjgpfmfaaDoorRows
import GoSem.ClaimSeven
namespace Go.Proofs.YtfnfbnfjgpfmfaaDoor
namespace Rows

/-- THE TIED CARD OF 'redresslaw23.LroOneWay'. -/
def lroOneWayCard : Claim7 := { stood := { row := lroOneWayRow, standIns := [], harness := (true, "392e1ca577e3149f0f6af59f7f48e35ec2ed8ed9a85550eb139d39b4530ef5fd"), looks := false }, kinds := [], alts := [], laidByText := true, laidKinds := [.widerDeep], laidTests := true, laidLooks := .later }
def LroOneWayCardSaid : Prop := Claim7.holds Tryd.pinned (.plain (OpenSpec.ofChange lroOneWaySpec)) lroOneWayCard

/-- THE TIED CARD OF 'redresslaw23.LroTells'. -/
def lroTellsCard : Claim7 := { stood := { row := lroTellsRow, standIns := [], harness := (true, "392e1ca577e3149f0f6af59f7f48e35ec2ed8ed9a85550eb139d39b4530ef5fd"), looks := false }, kinds := [], alts := [], laidByText := true, laidKinds := [.widerDeep], laidTests := true, laidLooks := .later }
def LroTellsCardSaid : Prop := Claim7.holds Tryd.pinned (.plain (OpenSpec.ofChange lroTellsSpec)) lroTellsCard

/-- THE SECOND FORM's CARD OF 'redresslaw23.LroOneWay'. -/
def lroOneWayUptoCard : Claim7 := { stood := { row := lroOneWayUptoRow, standIns := [], harness := (true, "392e1ca577e3149f0f6af59f7f48e35ec2ed8ed9a85550eb139d39b4530ef5fd"), looks := false }, kinds := [], alts := [], laidByText := true, laidKinds := [.widerDeep], laidTests := true, laidLooks := .later }
def LroOneWayUptoCardSaid : Prop := Claim7.holds Tryd.pinned (.plain (OpenSpec.upto lroOneWaySpec)) lroOneWayUptoCard

/-- THE SECOND FORM's CARD OF 'redresslaw23.LroTells'. -/
def lroTellsUptoCard : Claim7 := { stood := { row := lroTellsUptoRow, standIns := [], harness := (true, "392e1ca577e3149f0f6af59f7f48e35ec2ed8ed9a85550eb139d39b4530ef5fd"), looks := false }, kinds := [], alts := [], laidByText := true, laidKinds := [.widerDeep], laidTests := true, laidLooks := .later }
def LroTellsUptoCardSaid : Prop := Claim7.holds Tryd.pinned (.plain (OpenSpec.upto lroTellsSpec)) lroTellsUptoCard
end Rows
end Go.Proofs.YtfnfbnfjgpfmfaaDoor
