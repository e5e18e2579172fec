/-
  redresslaw19.OutboxBars: the row's closed facts.
-/
import Derived.Test.YtcohbfabcdjefaaGreatDoorCards
import Derived.Conc.HoldsTime
import Derived.SevenTiedAt
import Derived.KernelRfl
namespace Go.Proofs.YtcohbfabcdjefaaGreatDoor
theorem ob_joined : joinedFacts Tryz.pinned.checked.prog 3 Tryz.f3 Rows.outboxBarsSpec Rows.outboxBarsRow = true := by kernel_rfl
theorem ob_goes : true = Rows.outboxBarsRow.goesBy Tryz.pinned.checked.prog := by kernel_rfl
theorem ob_wf : Rows.outboxBarsRow.wfByText (OpenSpec.ofChange Rows.outboxBarsSpec) = true := by kernel_rfl
theorem ob_named : Tryz.pinned.checked.prog.funcNamed Rows.outboxBarsRow.func = some 3 := by kernel_rfl
end Go.Proofs.YtcohbfabcdjefaaGreatDoor
