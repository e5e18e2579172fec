/-
  'redress/redresslaw19.OutboxBars' returns true for every input: the statement and the tied card, of the row that is given with a calm start and a clock that may go on; no condition of ours.
-/
import Derived.Test.YtcohbfabcdjefaaGreatDoorGj
import Derived.Test.YtcohbfabcdjefaaGreatDoorGk
namespace Go.Proofs.YtcohbfabcdjefaaGreatDoor
open Go.Conc Go.ConcM Go.ChangeShapes Go.WideShapes Go.ChangeAt Go.RowKit

/-- THE STATEMENT. -/
theorem outboxBars_holds : Rows.OutboxBarsSaid :=
  OpenClaim.holds_of_wide_leaving_time 3 Tryz.f3 rfl rfl rfl rfl rfl rfl rfl ⟨rfl, rfl, rfl, rfl, rfl⟩ rfl rfl rfl rfl rfl ob_named Tryz.func3 ob_joined
    (of_decide_eq_true (by kernel_rfl)) (by unfold Func.isWrapper; first | (rw [if_pos (by decide +kernel)]; kernel_rfl) | (rw [if_neg (by decide +kernel)]; exact ⟨rfl, rfl⟩))
    (fun os started H enc _ F => outboxBars_lifted os started H enc F)
/-- THE TIED CARD. -/
theorem outboxBars_card : Rows.OutboxBarsCardSaid :=
  holds_tied_goes .later _ _ _ _ outboxBars_holds ob_wf outboxBars_row_tie rfl ⟨rfl, rfl⟩ (by kernel_rfl) rfl
    (fun f fn hf hfn => by
      obtain rfl : f = 3 := Option.some.inj ((show Tryz.prog.funcNamed "redress/redresslaw19.OutboxBars" = some 3 by kernel_rfl).symm.trans hf) |>.symm
      obtain rfl : fn = Tryz.f3 := (Option.some.inj (Tryz.func3.symm.trans hfn)).symm
      exact ⟨by kernel_rfl, fun j t ht => by
        rw [Tryz.params3] at ht
        have hm : t ∈ [3, 9, 2, 5] := by simpa using Array.mem_of_getElem? ht
        have hall : ([3, 9, 2, 5].all fun u => !Tryz.prog.wantsStandIn u) = true := by kernel_rfl
        exact (show Tryz.prog.wantsStandIn t = false by simpa using List.all_eq_true.1 hall t hm)⟩)
    ob_goes
end Go.Proofs.YtcohbfabcdjefaaGreatDoor
