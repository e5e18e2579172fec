/-
  DERIVED. GIVEN WITH THE SEED: THE CARDS: each row of YtgoejmheihgpfaaGreatDoorRows.lean that lists a variable, with what it lists TIED to the program's text (the seventh form; the later family's looks); each row that meets fmt, with fmt's text TOLD by the authors' own Lean function (tested against real Go, not proved from fmt's source: count such statements apart). THE CARD IS WHAT COUNTS. Prove the row's statement (the work); the ties are given (YtgoejmheihgpfaaGreatDoorTie.lean); close each card by the builder's one call (the guide's Derived/Test/ToyasCard.lean, 'card_holds'). Laid BY PROGRAM, IN A SANDBOX (cutbox-door.mjs). By AI agents, Wed Nov 11 2026. No macro, syntax, notation, axiom, sorry.
-/
import Derived.Test.YtgoejmheihgpfaaGreatDoorRows
import GoSem.ClaimSeven
namespace Go.Proofs.YtgoejmheihgpfaaGreatDoor
namespace Rows

/-- THE TIED CARD OF 'redresslaw28.ModelBalances'. -/
def modelBalancesCard : Claim7 := { stood := { row := modelBalancesRow, standIns := [], harness := (true, "41625227852e1ae81ff45a84a59fb379d216988cc4eb27bc403330c31679d841"), looks := true }, kinds := [], alts := [], laidByText := true, laidKinds := [.data, .data, .data, .widerDeep], laidTests := true, laidLooks := .later }
def ModelBalancesCardSaid : Prop := Claim7.holds Tryz.pinned (.plain (OpenSpec.ofChange modelBalancesSpec)) modelBalancesCard

/-- THE TIED CARD OF 'redresslaw28.ModelStays'. -/
def modelStaysCard : Claim7 := { stood := { row := modelStaysRow, standIns := [], harness := (true, "41625227852e1ae81ff45a84a59fb379d216988cc4eb27bc403330c31679d841"), looks := true }, kinds := [], alts := [], laidByText := true, laidKinds := [.data, .data, .data, .widerDeep], laidTests := true, laidLooks := .later }
def ModelStaysCardSaid : Prop := Claim7.holds Tryz.pinned (.plain (OpenSpec.ofChange modelStaysSpec)) modelStaysCard

/-- THE TIED CARD OF 'redresslaw28.ModelPrefix'. -/
def modelPrefixCard : Claim7 := { stood := { row := modelPrefixRow, standIns := [], harness := (true, "41625227852e1ae81ff45a84a59fb379d216988cc4eb27bc403330c31679d841"), looks := true }, kinds := [], alts := [], laidByText := true, laidKinds := [.data, .data, .data, .widerDeep], laidTests := true, laidLooks := .later }
def ModelPrefixCardSaid : Prop := Claim7.holds Tryz.pinned (.plain (OpenSpec.ofChange modelPrefixSpec)) modelPrefixCard

/-- THE SECOND FORM's CARD OF 'redresslaw28.ModelBalances'. -/
def modelBalancesUptoCard : Claim7 := { stood := { row := modelBalancesUptoRow, standIns := [], harness := (true, "41625227852e1ae81ff45a84a59fb379d216988cc4eb27bc403330c31679d841"), looks := true }, kinds := [], alts := [], laidByText := true, laidKinds := [.data, .data, .data, .widerDeep], laidTests := true, laidLooks := .later }
def ModelBalancesUptoCardSaid : Prop := Claim7.holds Tryz.pinned (.plain (OpenSpec.upto modelBalancesSpec)) modelBalancesUptoCard

/-- THE SECOND FORM's CARD OF 'redresslaw28.ModelStays'. -/
def modelStaysUptoCard : Claim7 := { stood := { row := modelStaysUptoRow, standIns := [], harness := (true, "41625227852e1ae81ff45a84a59fb379d216988cc4eb27bc403330c31679d841"), looks := true }, kinds := [], alts := [], laidByText := true, laidKinds := [.data, .data, .data, .widerDeep], laidTests := true, laidLooks := .later }
def ModelStaysUptoCardSaid : Prop := Claim7.holds Tryz.pinned (.plain (OpenSpec.upto modelStaysSpec)) modelStaysUptoCard

/-- THE SECOND FORM's CARD OF 'redresslaw28.ModelPrefix'. -/
def modelPrefixUptoCard : Claim7 := { stood := { row := modelPrefixUptoRow, standIns := [], harness := (true, "41625227852e1ae81ff45a84a59fb379d216988cc4eb27bc403330c31679d841"), looks := true }, kinds := [], alts := [], laidByText := true, laidKinds := [.data, .data, .data, .widerDeep], laidTests := true, laidLooks := .later }
def ModelPrefixUptoCardSaid : Prop := Claim7.holds Tryz.pinned (.plain (OpenSpec.upto modelPrefixSpec)) modelPrefixUptoCard
end Rows
end Go.Proofs.YtgoejmheihgpfaaGreatDoor
