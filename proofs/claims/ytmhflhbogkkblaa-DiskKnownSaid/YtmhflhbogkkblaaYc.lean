/-
  'redress/redresslaw02.DiskKnown' returns true for every input; no condition.
-/
import Derived.Test.YtmhflhbogkkblaaKn
import Derived.Test.YtmhflhbogkkblaaFr
namespace Go.Proofs.Ytmhflhbogkkblaa
open Go.ChangeShapes Go.WideShapes Go.ChangeAt Go.RowKit

theorem diskKnown_params : ∀ t ∈ Try.f7.params.toList, Try.prog.readableRec t = true ∧ t < Try.prog.types.size := by
  have hall : (Try.f7.params.toList.all fun t => Try.prog.readableRec t && decide (t < Try.prog.types.size)) = true := by kernel_rfl
  intro t ht
  simpa using List.all_eq_true.1 hall t ht

set_option maxRecDepth 100000 in
theorem diskKnown_lifted (os : Os) (started : os.Started) (H : Type) (enc : TypeId × Value → H) :
    ReturnsInHanded {} Try.checked os 7 .any (Rows.diskKnownSpec.pre6 enc Try.prog Try.f7 Rows.diskKnownRow.domain false) (Rows.diskKnownSpec.post enc Try.prog Try.f7 false true false false) := by
  refine returnsInHanded_of_change (C := Try.checked) own started (by kernel_rfl) Try.func7
    (ChangeSpec.witness6 (enc := enc) (C := Try.checked) false ⟨#[], #[], []⟩ 8 (by kernel_rfl) (by kernel_rfl) (by kernel_rfl) (by kernel_rfl)) ?_
  intro W base args ds gs before hval0 hW _ _
  have hval : ∀ (j : Nat) t v, Try.f7.params[j]? = some t → args[j]? = some v → Value.okWide Try.prog W .any base t v := hval0
  have hW' := hW
  obtain ⟨p, q, hA0, hV, rfl, hfz, hnd⟩ := hW
  have hA : DataW.TrodAll enc Try.prog W 0 (fun _ => true) true Try.f7.params.toList args.toList ds p := hA0
  have hA1 := hA
  rw [Try.params7] at hA1 hval
  obtain ⟨rfl, rfl, rfl⟩ := trodAll_none hA1
  obtain ⟨rfl, rfl⟩ := trodVars_none hV
  simp only [List.append_nil] at hW' hA
  clear hA0 hval0
  refine (known_walk W).mono fun e W' ⟨he, hb⟩ => ?_
  subst he
  exact ⟨_, rfl, law_end (tb := 4) (by kernel_rfl) diskKnown_params (by kernel_rfl) Try.underlying4 rfl hW' hA rfl hb⟩

/-- THE STATEMENT. -/
theorem diskKnown_holds : Rows.DiskKnownSaid :=
  OpenClaim.holds_of_wide 7 Try.f7 rfl rfl rfl rfl rfl rfl rfl ⟨rfl, rfl, rfl, rfl, rfl⟩ rfl rfl rfl rfl rfl (by kernel_rfl) Try.func7 (by kernel_rfl)
    (of_decide_eq_true (by kernel_rfl)) (by unfold Func.isWrapper; first | (rw [if_pos (by decide +kernel)]; kernel_rfl) | (rw [if_neg (by decide +kernel)]; exact ⟨rfl, rfl⟩))
    (fun os started H enc _ => diskKnown_lifted os started H enc)
end Go.Proofs.Ytmhflhbogkkblaa
