/-
  NARROWER THAN 'FOR EVERY INPUT', by the rows' own cells (each row's printed sentence says how): LroOneWay: laid · LroTells: laid.
  DERIVED. THE GIVEN ROWS OF THIS SEAT. 2 by the template 'for every input the law returns true; each argument reads behind the call as it read before'; 0 by the template 'total and deterministic' (their statements: YtfnfbnfjgpfmfaaDoorTotals.lean).
  GIVEN WITH THE SEED: the statements are not yours to turn. If you find one false, say at which input.
  Laid BY PROGRAM, IN A SANDBOX (cutbox-rows.mjs): the forced cells as the released guide's own fill.sh prints them over the translation 7f8ab2e44fd916ef… (all of the seat's roots in one cut). By AI agents, Wed Nov 11 2026. No macro, syntax, notation, axiom, sorry.
-/
import Derived.Test.YtfnfbnfjgpfmfaaDoorChecked
import GoSem.Claim
import GoSem.ClaimJoined
import GoSem.ClaimMapViews
import Derived.JoinedTies
import Derived.KernelRfl
namespace Go.Proofs.YtfnfbnfjgpfmfaaDoor
/- THE CELL 'sum', in the pinned program and in every row, IS THE sha256 OF THE DUMP (.gsa) THAT YtfnfbnfjgpfmfaaDoorProg.lean LOADS. Nothing in Lean hashes anything: it is a label: what it is worth is what the hold of that sum in a sandbox is worth. -/
noncomputable def Tryd.pinned : Pinned := { name := "ytfnfbnfjgpfmfaadoor", sum := "7f8ab2e44fd916ef2ee395d4202f8d7361fd2b9eaa685d6411b42bc305c552f3", checked := Tryd.checked }
namespace Rows
def none {H : Type} : Left H := { results := [], args := [] }

/- WHAT THE LISTED PACKAGE-LEVEL VARIABLES READ AS WHEN THE CALL BEGINS. Each datum BY PROGRAM (the guide's laid-datum.mjs) off the statement by which the dump's own 'gosem.cut.vars' lays the variable. In a bare row this is a premise. The card (YtfnfbnfjgpfmfaaDoorCards.lean) ties it to the program's text. -/
def laid_redress_lro_rules {H : Type} : DataW H := .agg [.agg [.lit (.bool false), .lit (.bool false), .lit (.bool false), .nil], .agg [.lit (.bool false), .lit (.bool false), .lit (.bool false), .slice [.lit (.int .i64 2), .lit (.int .i64 3), .lit (.int .i64 4)] []], .agg [.lit (.bool false), .lit (.bool false), .lit (.bool false), .slice [.lit (.int .i64 2), .lit (.int .i64 3), .lit (.int .i64 4), .lit (.int .i64 5)] []], .agg [.lit (.bool true), .lit (.bool true), .lit (.bool false), .nil], .agg [.lit (.bool true), .lit (.bool true), .lit (.bool true), .nil], .agg [.lit (.bool true), .lit (.bool false), .lit (.bool false), .nil]]

/-- 'redresslaw23.LroOneWay': WHATEVER THE INPUT: true; the input reads as it did. -/
def lroOneWaySpec : ChangeSpec := { name := "lroOneWay", fn := fun _ => fun
  | [d1, d2] => { results := [.lit (.bool true)], args := [d1, d2] }
  | _ => none }
def lroOneWayRow : OpenClaim := { program := "ytfnfbnfjgpfmfaadoor", sum := "7f8ab2e44fd916ef2ee395d4202f8d7361fd2b9eaa685d6411b42bc305c552f3", func := "redress/redresslaw23.LroOneWay", spec := "lroOneWay", named := ["redress/lro.rules"], apart := false, laid := [("redress/lro.rules", laid_redress_lro_rules)] }
def LroOneWaySaid : Prop := lroOneWayRow.holds Tryd.pinned (OpenSpec.ofChange lroOneWaySpec)

/-- ITS FALSE NEIGHBOUR: 'it returns false'. Refute it at one input. -/
def lroOneWayWrong : ChangeSpec := { name := "lroOneWay", fn := fun _ => fun
  | [d1, d2] => { results := [.lit (.bool false)], args := [d1, d2] }
  | _ => none }
def LroOneWayWrongFalsely : Prop := lroOneWayRow.holds Tryd.pinned (OpenSpec.ofChange lroOneWayWrong)

/-- 'redresslaw23.LroTells': WHATEVER THE INPUT: true; the input reads as it did. -/
def lroTellsSpec : ChangeSpec := { name := "lroTells", fn := fun _ => fun
  | [d1, d2, d3, d4, d5, d6] => { results := [.lit (.bool true)], args := [d1, d2, d3, d4, d5, d6] }
  | _ => none }
def lroTellsRow : OpenClaim := { program := "ytfnfbnfjgpfmfaadoor", sum := "7f8ab2e44fd916ef2ee395d4202f8d7361fd2b9eaa685d6411b42bc305c552f3", func := "redress/redresslaw23.LroTells", spec := "lroTells", named := ["redress/lro.rules"], apart := false, laid := [("redress/lro.rules", laid_redress_lro_rules)] }
def LroTellsSaid : Prop := lroTellsRow.holds Tryd.pinned (OpenSpec.ofChange lroTellsSpec)

/-- ITS FALSE NEIGHBOUR: 'it returns false'. Refute it at one input. -/
def lroTellsWrong : ChangeSpec := { name := "lroTells", fn := fun _ => fun
  | [d1, d2, d3, d4, d5, d6] => { results := [.lit (.bool false)], args := [d1, d2, d3, d4, d5, d6] }
  | _ => none }
def LroTellsWrongFalsely : Prop := lroTellsRow.holds Tryd.pinned (OpenSpec.ofChange lroTellsWrong)

/- THE SECOND FORM. 'bulk': how many values and letters a reading holds, each counted each time it is reached (what is shared counts as often as it is met; a slice's spare places count too). A statement '..UptoSaid' is the law's where the arguments, and the package variables that the reading takes, are together of bulk at most 1048576: NARROWER than '..Said'. Prove '..Said' where nothing that the law and all that it calls make is longer than what came in: it says more and counts as full. Else prove '..UptoSaid'. A law counts once. -/
mutual
def uptoBulk {H : Type} : DataW H → Nat
  | .lit (.string bytes) => bytes.length + 1
  | .lit _ => 1
  | .nil => 1
  | .ptr d => uptoBulk d + 1
  | .slice elems spare => uptoBulkAll elems + uptoBulkAll spare + 1
  | .agg parts => uptoBulkAll parts + 1
  | .iface _ d => uptoBulk d + 1
  | .map entries => uptoBulkEntries entries + 1
  | .held _ => 1
def uptoBulkAll {H : Type} : List (DataW H) → Nat
  | [] => 0
  | d :: r => uptoBulk d + uptoBulkAll r
def uptoBulkEntries {H : Type} : List (Lit × DataW H) → Nat
  | [] => 0
  | x :: r => uptoBulkEntry x + uptoBulkEntries r
def uptoBulkEntry {H : Type} : Lit × DataW H → Nat
  | (.string bytes, d) => bytes.length + uptoBulk d + 1
  | (_, d) => uptoBulk d + 1
 end
def uptoSmall : (H : Type) → List (DataW H) → Bool := fun _ ds => decide (uptoBulkAll ds ≤ 1048576)
def OpenSpec.upto (s : _root_.Go.ChangeSpec) : _root_.Go.OpenSpec := { _root_.Go.OpenSpec.ofChange s with cond := some uptoSmall }

/-- 'redresslaw23.LroOneWay', WHERE WHAT IT READS IS OF BULK AT MOST 1048576: true; the input reads as it did. -/
def lroOneWayUptoRow : OpenClaim := { program := "ytfnfbnfjgpfmfaadoor", sum := "7f8ab2e44fd916ef2ee395d4202f8d7361fd2b9eaa685d6411b42bc305c552f3", func := "redress/redresslaw23.LroOneWay", spec := "lroOneWay", named := ["redress/lro.rules"], apart := false, laid := [("redress/lro.rules", laid_redress_lro_rules)], narrowed := true }
def LroOneWayUptoSaid : Prop := lroOneWayUptoRow.holds Tryd.pinned (OpenSpec.upto lroOneWaySpec)

/-- 'redresslaw23.LroTells', WHERE WHAT IT READS IS OF BULK AT MOST 1048576: true; the input reads as it did. -/
def lroTellsUptoRow : OpenClaim := { program := "ytfnfbnfjgpfmfaadoor", sum := "7f8ab2e44fd916ef2ee395d4202f8d7361fd2b9eaa685d6411b42bc305c552f3", func := "redress/redresslaw23.LroTells", spec := "lroTells", named := ["redress/lro.rules"], apart := false, laid := [("redress/lro.rules", laid_redress_lro_rules)], narrowed := true }
def LroTellsUptoSaid : Prop := lroTellsUptoRow.holds Tryd.pinned (OpenSpec.upto lroTellsSpec)

end Rows
end Go.Proofs.YtfnfbnfjgpfmfaaDoor
