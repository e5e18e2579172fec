/-
  No cell of these rows narrows 'for every input' (looked for: loops, veiled, ifaces, maps, wideKeys, modest, calm, conditions, laid).
  DERIVED. THE GIVEN ROWS OF THIS SEAT. 4 by the template 'for every input the law returns true; each argument reads behind the call as it read before'; 0 by the template 'total and deterministic' (their statements: YtiiafpbonkcokaaGreatTotals.lean).
  GIVEN WITH THE SEED: the statements are not yours to turn. If you find one false, say at which input.
  Laid BY PROGRAM, IN A SANDBOX (cutbox-rows.mjs): the forced cells as the released guide's own fill.sh prints them over the translation 6c094545fb1669d4… (all of the seat's roots in one cut). By AI agents, Wed Nov 11 2026. No macro, syntax, notation, axiom, sorry.
-/
import Derived.Test.YtiiafpbonkcokaaGreatChecked
import GoSem.Claim
import GoSem.ClaimJoined
import GoSem.ClaimMapViews
import Derived.JoinedTies
import Derived.KernelRfl
namespace Go.Proofs.YtiiafpbonkcokaaGreat
/- THE CELL 'sum', in the pinned program and in every row, IS THE sha256 OF THE DUMP (.gsa) THAT YtiiafpbonkcokaaGreatProg.lean LOADS. Nothing in Lean hashes anything: it is a label: what it is worth is what the hold of that sum in a sandbox is worth. -/
noncomputable def Tryz.pinned : Pinned := { name := "ytiiafpbonkcokaagreat", sum := "6c094545fb1669d49776bf5e41382b36fda728fa6f734f6f558af9b1c8ac2d96", checked := Tryz.checked }
namespace Rows
def none {H : Type} : Left H := { results := [], args := [] }

/-- 'redresslaw08.ManifestKnown': WHATEVER THE INPUT: true; the input reads as it did. -/
def manifestKnownSpec : ChangeSpec := { name := "manifestKnown", fn := fun _ => fun
  | [] => { results := [.lit (.bool true)], args := [] }
  | _ => none }
def manifestKnownRow : OpenClaim := { program := "ytiiafpbonkcokaagreat", sum := "6c094545fb1669d49776bf5e41382b36fda728fa6f734f6f558af9b1c8ac2d96", func := "redress/redresslaw08.ManifestKnown", spec := "manifestKnown", unfollowed := true, recurses := true, apart := false }
def ManifestKnownSaid : Prop := manifestKnownRow.holds Tryz.pinned (OpenSpec.ofChange manifestKnownSpec)

/-- ITS FALSE NEIGHBOUR: 'it returns false'. Refute it at one input. -/
def manifestKnownWrong : ChangeSpec := { name := "manifestKnown", fn := fun _ => fun
  | [] => { results := [.lit (.bool false)], args := [] }
  | _ => none }
def ManifestKnownWrongFalsely : Prop := manifestKnownRow.holds Tryz.pinned (OpenSpec.ofChange manifestKnownWrong)

/-- 'redresslaw08.ManifestApplies': WHATEVER THE INPUT: true; the input reads as it did. -/
def manifestAppliesSpec : ChangeSpec := { name := "manifestApplies", fn := fun _ => fun
  | [d1, d2] => { results := [.lit (.bool true)], args := [d1, d2] }
  | _ => none }
def manifestAppliesRow : OpenClaim := { program := "ytiiafpbonkcokaagreat", sum := "6c094545fb1669d49776bf5e41382b36fda728fa6f734f6f558af9b1c8ac2d96", func := "redress/redresslaw08.ManifestApplies", spec := "manifestApplies", unfollowed := true, recurses := true, apart := false }
def ManifestAppliesSaid : Prop := manifestAppliesRow.holds Tryz.pinned (OpenSpec.ofChange manifestAppliesSpec)

/-- ITS FALSE NEIGHBOUR: 'it returns false'. Refute it at one input. -/
def manifestAppliesWrong : ChangeSpec := { name := "manifestApplies", fn := fun _ => fun
  | [d1, d2] => { results := [.lit (.bool false)], args := [d1, d2] }
  | _ => none }
def ManifestAppliesWrongFalsely : Prop := manifestAppliesRow.holds Tryz.pinned (OpenSpec.ofChange manifestAppliesWrong)

/-- 'redresslaw08.ManifestKept': WHATEVER THE INPUT: true; the input reads as it did. -/
def manifestKeptSpec : ChangeSpec := { name := "manifestKept", fn := fun _ => fun
  | [d1, d2, d3, d4] => { results := [.lit (.bool true)], args := [d1, d2, d3, d4] }
  | _ => none }
def manifestKeptRow : OpenClaim := { program := "ytiiafpbonkcokaagreat", sum := "6c094545fb1669d49776bf5e41382b36fda728fa6f734f6f558af9b1c8ac2d96", func := "redress/redresslaw08.ManifestKept", spec := "manifestKept", unfollowed := true, recurses := true, apart := false }
def ManifestKeptSaid : Prop := manifestKeptRow.holds Tryz.pinned (OpenSpec.ofChange manifestKeptSpec)

/-- ITS FALSE NEIGHBOUR: 'it returns false'. Refute it at one input. -/
def manifestKeptWrong : ChangeSpec := { name := "manifestKept", fn := fun _ => fun
  | [d1, d2, d3, d4] => { results := [.lit (.bool false)], args := [d1, d2, d3, d4] }
  | _ => none }
def ManifestKeptWrongFalsely : Prop := manifestKeptRow.holds Tryz.pinned (OpenSpec.ofChange manifestKeptWrong)

/-- 'redresslaw08.ManifestPlays': WHATEVER THE INPUT: true; the input reads as it did. -/
def manifestPlaysSpec : ChangeSpec := { name := "manifestPlays", fn := fun _ => fun
  | [d] => { results := [.lit (.bool true)], args := [d] }
  | _ => none }
def manifestPlaysRow : OpenClaim := { program := "ytiiafpbonkcokaagreat", sum := "6c094545fb1669d49776bf5e41382b36fda728fa6f734f6f558af9b1c8ac2d96", func := "redress/redresslaw08.ManifestPlays", spec := "manifestPlays", unfollowed := true, recurses := true, apart := false }
def ManifestPlaysSaid : Prop := manifestPlaysRow.holds Tryz.pinned (OpenSpec.ofChange manifestPlaysSpec)

/-- ITS FALSE NEIGHBOUR: 'it returns false'. Refute it at one input. -/
def manifestPlaysWrong : ChangeSpec := { name := "manifestPlays", fn := fun _ => fun
  | [d] => { results := [.lit (.bool false)], args := [d] }
  | _ => none }
def ManifestPlaysWrongFalsely : Prop := manifestPlaysRow.holds Tryz.pinned (OpenSpec.ofChange manifestPlaysWrong)

/- THE SECOND FORM. 'bulk': how many values and letters a reading holds, each counted each time it is reached (what is shared counts as often as it is met; a slice's spare places count too). A statement '..UptoSaid' is the law's where the arguments, and the package variables that the reading takes, are together of bulk at most 1048576: NARROWER than '..Said'. Prove '..Said' where nothing that the law and all that it calls make is longer than what came in: it says more and counts as full. Else prove '..UptoSaid'. A law counts once. -/
mutual
def uptoBulk {H : Type} : DataW H → Nat
  | .lit (.string bytes) => bytes.length + 1
  | .lit _ => 1
  | .nil => 1
  | .ptr d => uptoBulk d + 1
  | .slice elems spare => uptoBulkAll elems + uptoBulkAll spare + 1
  | .agg parts => uptoBulkAll parts + 1
  | .iface _ d => uptoBulk d + 1
  | .map entries => uptoBulkEntries entries + 1
  | .held _ => 1
def uptoBulkAll {H : Type} : List (DataW H) → Nat
  | [] => 0
  | d :: r => uptoBulk d + uptoBulkAll r
def uptoBulkEntries {H : Type} : List (Lit × DataW H) → Nat
  | [] => 0
  | x :: r => uptoBulkEntry x + uptoBulkEntries r
def uptoBulkEntry {H : Type} : Lit × DataW H → Nat
  | (.string bytes, d) => bytes.length + uptoBulk d + 1
  | (_, d) => uptoBulk d + 1
 end
def uptoSmall : (H : Type) → List (DataW H) → Bool := fun _ ds => decide (uptoBulkAll ds ≤ 1048576)
def OpenSpec.upto (s : _root_.Go.ChangeSpec) : _root_.Go.OpenSpec := { _root_.Go.OpenSpec.ofChange s with cond := some uptoSmall }

/-- 'redresslaw08.ManifestKnown', WHERE WHAT IT READS IS OF BULK AT MOST 1048576: true; the input reads as it did. -/
def manifestKnownUptoRow : OpenClaim := { program := "ytiiafpbonkcokaagreat", sum := "6c094545fb1669d49776bf5e41382b36fda728fa6f734f6f558af9b1c8ac2d96", func := "redress/redresslaw08.ManifestKnown", spec := "manifestKnown", unfollowed := true, recurses := true, apart := false, narrowed := true }
def ManifestKnownUptoSaid : Prop := manifestKnownUptoRow.holds Tryz.pinned (OpenSpec.upto manifestKnownSpec)

/-- 'redresslaw08.ManifestApplies', WHERE WHAT IT READS IS OF BULK AT MOST 1048576: true; the input reads as it did. -/
def manifestAppliesUptoRow : OpenClaim := { program := "ytiiafpbonkcokaagreat", sum := "6c094545fb1669d49776bf5e41382b36fda728fa6f734f6f558af9b1c8ac2d96", func := "redress/redresslaw08.ManifestApplies", spec := "manifestApplies", unfollowed := true, recurses := true, apart := false, narrowed := true }
def ManifestAppliesUptoSaid : Prop := manifestAppliesUptoRow.holds Tryz.pinned (OpenSpec.upto manifestAppliesSpec)

/-- 'redresslaw08.ManifestKept', WHERE WHAT IT READS IS OF BULK AT MOST 1048576: true; the input reads as it did. -/
def manifestKeptUptoRow : OpenClaim := { program := "ytiiafpbonkcokaagreat", sum := "6c094545fb1669d49776bf5e41382b36fda728fa6f734f6f558af9b1c8ac2d96", func := "redress/redresslaw08.ManifestKept", spec := "manifestKept", unfollowed := true, recurses := true, apart := false, narrowed := true }
def ManifestKeptUptoSaid : Prop := manifestKeptUptoRow.holds Tryz.pinned (OpenSpec.upto manifestKeptSpec)

/-- 'redresslaw08.ManifestPlays', WHERE WHAT IT READS IS OF BULK AT MOST 1048576: true; the input reads as it did. -/
def manifestPlaysUptoRow : OpenClaim := { program := "ytiiafpbonkcokaagreat", sum := "6c094545fb1669d49776bf5e41382b36fda728fa6f734f6f558af9b1c8ac2d96", func := "redress/redresslaw08.ManifestPlays", spec := "manifestPlays", unfollowed := true, recurses := true, apart := false, narrowed := true }
def ManifestPlaysUptoSaid : Prop := manifestPlaysUptoRow.holds Tryz.pinned (OpenSpec.upto manifestPlaysSpec)

end Rows
end Go.Proofs.YtiiafpbonkcokaaGreat
