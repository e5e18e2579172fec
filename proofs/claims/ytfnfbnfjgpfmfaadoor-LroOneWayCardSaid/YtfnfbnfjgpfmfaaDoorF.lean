/-
  What is proved here: 'redressref23.Terminal' and 'redressref23.Right', for every argument.
-/
import Derived.Test.YtfnfbnfjgpfmfaaDoorE
namespace Go.Proofs.YtfnfbnfjgpfmfaaDoor
open Go.RowKit

theorem rterm_any (st : Int) (w : World) :
    Calls Tryd.prog 14 #[.int .i64 st] w fun e w' => e = .returned (.bool (termB st)) ∧ Below w.heap.size w w' := by
  by_cases h3 : st = 3
  · subst h3
    go_enter Tryd.func14, Tryd.ntmps14
    go_wp2
    go_ret
    exact ⟨rfl, Below.refl _ _⟩
  by_cases h4 : st = 4
  · subst h4
    go_enter Tryd.func14, Tryd.ntmps14
    go_wp2
    go_ret
    exact ⟨rfl, Below.refl _ _⟩
  by_cases h5 : st = 5
  · subst h5
    go_enter Tryd.func14, Tryd.ntmps14
    go_wp2
    go_ret
    exact ⟨rfl, Below.refl _ _⟩
  have hz : termB st = false := by unfold termB; simp; omega
  rw [hz]
  have b3 : (st == 3) = false := by simpa using h3
  have b4 : (st == 4) = false := by simpa using h4
  have b5 : (st == 5) = false := by simpa using h5
  clear h3 h4 h5
  go_enter Tryd.func14, Tryd.ntmps14
  go_wp2
  go_ret
  exact ⟨ret_bool (by rfl), Below.refl _ _⟩

set_option maxHeartbeats 400000 in
theorem right_any (st c : Int) (v : ByteArray) (d : Int) (w : World) :
    Calls Tryd.prog 13 #[opV st c v d] w fun e w' => e = .returned (.bool (rightB st c v d)) ∧ Below w.heap.size w w' := by
  go_enter Tryd.func13, Tryd.ntmps13
  go_wp2
  all_goals go_ret
  all_goals refine ⟨ret_bool ?_, bl1 _ _⟩
  all_goals go_tidy
  all_goals rw [Bool.eq_iff_iff]
  all_goals simp [rightB]
  all_goals try simp only [beq_iff_eq, beq_eq_false_iff_ne] at *
  all_goals try (first | omega | (simp_all; done) | (simp_all; omega))
end Go.Proofs.YtfnfbnfjgpfmfaaDoor
