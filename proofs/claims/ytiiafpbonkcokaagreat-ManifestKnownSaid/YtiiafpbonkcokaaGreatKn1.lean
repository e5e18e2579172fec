/-
  ManifestKnown: the chapter's examples, plain.
-/
import Derived.Test.YtiiafpbonkcokaaGreatQd
namespace Go.Proofs.YtiiafpbonkcokaaGreat
open Go.RowKit Go.Maps

def f3 : Fi := ⟨3, 1, 2, ⟨#[97]⟩, ⟨#[99]⟩⟩
theorem kn_s : applyS ⟨1, 0, []⟩ ⟨[], [f1], 2, 0⟩ = (0, ⟨2, 0, [f1]⟩) := by
  have h1 : checkB ⟨1, 0, []⟩ = true := by decide
  have h2 : checkB ⟨2, 0, [f1]⟩ = true := by kernel_rfl
  have h3 : addL [] [f1] = some [f1] := by rfl
  have h4 : [f1].mergeSort leN = [f1] := by simp
  simp only [applyS, h1, if_true, dropL, h3, h4]
  show (if checkB ⟨2, 0, [f1]⟩ = true then _ else _) = _
  rw [if_pos h2]
  rfl
theorem kn_t : applyS ⟨2, 0, [f1]⟩ ⟨[1], [f2], 3, 5⟩ = (0, ⟨3, 5, [f2]⟩) := by
  have h1 : checkB ⟨2, 0, [f1]⟩ = true := by kernel_rfl
  have h2 : checkB ⟨3, 5, [f2]⟩ = true := by kernel_rfl
  have h0 : dropL [f1] [1] = some [] := by rfl
  have h3 : addL [] [f2] = some [f2] := by rfl
  have h4 : [f2].mergeSort leN = [f2] := by simp
  simp only [applyS, h1, if_true, h0, h3, h4]
  show (if checkB ⟨3, 5, [f2]⟩ = true then _ else _) = _
  rw [if_pos h2]
  rfl
theorem kn_g : applyS ⟨1, 0, []⟩ ⟨[1], [], 0, 0⟩ = (4, s0) := by
  have h1 : checkB ⟨1, 0, []⟩ = true := by decide
  have h0 : dropL [] [1] = none := by rfl
  simp only [applyS, h1, if_true, h0]
theorem kn_h : applyS ⟨1, 0, []⟩ ⟨[], [f1], 0, 0⟩ = (1, s0) := by
  have h1 : checkB ⟨1, 0, []⟩ = true := by decide
  have h2 : checkB ⟨1, 0, [f1]⟩ = false := by kernel_rfl
  have h3 : addL [] [f1] = some [f1] := by rfl
  have h4 : [f1].mergeSort leN = [f1] := by simp
  simp only [applyS, h1, if_true, dropL, h3, h4]
  show (if checkB ⟨1, 0, [f1]⟩ = true then _ else _) = _
  rw [if_neg (by rw [h2]; decide)]
theorem kn_i : applyS ⟨2, 0, [f1]⟩ ⟨[], [f1], 0, 0⟩ = (5, s0) := by
  have h1 : checkB ⟨2, 0, [f1]⟩ = true := by kernel_rfl
  have h3 : addL [f1] [f1] = none := by rfl
  simp only [applyS, h1, if_true, dropL, h3]
theorem kn_c1 : checkB ⟨3, 0, [f1, f2]⟩ = true := by kernel_rfl
theorem kn_c2 : checkB ⟨4, 0, [f2, f3]⟩ = false := by kernel_rfl
theorem kn_c3 : checkB ⟨0, 0, []⟩ = false := by decide
end Go.Proofs.YtiiafpbonkcokaaGreat
