/-
  sagadef.letter, Call.
-/
import Derived.Test.YtgoejmheihgpfaaGreatDoorRq
namespace Go.Proofs.YtgoejmheihgpfaaGreatDoor
open Go.RowKit

def stpOf (s : Sch) (a : Tx) (i : Int) : Stp := (foundA s a).1.steps.getD i.toNat ⟨[], [], 0⟩
def letE (s : Sch) (a id : Tx) (i fr : Int) : Nat := if (foundA s a).2 = 0 then (if idA id = true ∧ 0 ≤ fr ∧ fr < 4 then (if 0 ≤ i ∧ i < ((foundA s a).1.steps.length : Nat) then 0 else 241) else 1) else (foundA s a).2
def ltr (f t p : Int) (k sv mt : Tx) : Array Value := #[.int .u8 0, .int .i64 f, .int .i64 t, .int .u64 0, .string (bT k), .int .u64 p, .string (bT sv), .string (bT mt), .int .i64 0, .string ⟨#[]⟩]
theorem set_blk {w : World} {b : Nat} {cs : Array Value} {T : TypeId} {f : Nat × Nat} (h : w.heap[b]? = some (.cells cs T f)) (k : Nat) (X : Value) : (w.setCell ⟨b, k, none⟩ X).heap[b]? = some (.cells (cs.setIfInBounds k X) T f) := by
  simp [World.setCell, Array.getElem?_modify, h]
theorem laid10_blk {w : World} {b : Nat} {x0 x1 x2 x3 x4 x5 x6 x7 x8 x9 : Value} {T : TypeId} (h : w.heap[b]? = some (.cells #[x0, x1, x2, x3, x4, x5, x6, x7, x8, x9] T (0, 0))) : (w.heap[b]? = some (.cells #[x0, x1, x2, x3, x4, x5, x6, x7, x8, x9] T (0, 0))) ∧ (∀ X0, (w.setCell ⟨b, 0, none⟩ X0).heap[b]? = some (.cells #[X0, x1, x2, x3, x4, x5, x6, x7, x8, x9] T (0, 0))) ∧ (∀ X0 X1, ((w.setCell ⟨b, 0, none⟩ X0).setCell ⟨b, 1, none⟩ X1).heap[b]? = some (.cells #[X0, X1, x2, x3, x4, x5, x6, x7, x8, x9] T (0, 0))) ∧ (∀ X0 X1 X2, (((w.setCell ⟨b, 0, none⟩ X0).setCell ⟨b, 1, none⟩ X1).setCell ⟨b, 2, none⟩ X2).heap[b]? = some (.cells #[X0, X1, X2, x3, x4, x5, x6, x7, x8, x9] T (0, 0))) ∧ (∀ X0 X1 X2 X3, ((((w.setCell ⟨b, 0, none⟩ X0).setCell ⟨b, 1, none⟩ X1).setCell ⟨b, 2, none⟩ X2).setCell ⟨b, 3, none⟩ X3).heap[b]? = some (.cells #[X0, X1, X2, X3, x4, x5, x6, x7, x8, x9] T (0, 0))) ∧ (∀ X0 X1 X2 X3 X4, (((((w.setCell ⟨b, 0, none⟩ X0).setCell ⟨b, 1, none⟩ X1).setCell ⟨b, 2, none⟩ X2).setCell ⟨b, 3, none⟩ X3).setCell ⟨b, 4, none⟩ X4).heap[b]? = some (.cells #[X0, X1, X2, X3, X4, x5, x6, x7, x8, x9] T (0, 0))) ∧ (∀ X0 X1 X2 X3 X4 X5, ((((((w.setCell ⟨b, 0, none⟩ X0).setCell ⟨b, 1, none⟩ X1).setCell ⟨b, 2, none⟩ X2).setCell ⟨b, 3, none⟩ X3).setCell ⟨b, 4, none⟩ X4).setCell ⟨b, 5, none⟩ X5).heap[b]? = some (.cells #[X0, X1, X2, X3, X4, X5, x6, x7, x8, x9] T (0, 0))) ∧ (∀ X0 X1 X2 X3 X4 X5 X6, (((((((w.setCell ⟨b, 0, none⟩ X0).setCell ⟨b, 1, none⟩ X1).setCell ⟨b, 2, none⟩ X2).setCell ⟨b, 3, none⟩ X3).setCell ⟨b, 4, none⟩ X4).setCell ⟨b, 5, none⟩ X5).setCell ⟨b, 6, none⟩ X6).heap[b]? = some (.cells #[X0, X1, X2, X3, X4, X5, X6, x7, x8, x9] T (0, 0))) ∧ (∀ X0 X1 X2 X3 X4 X5 X6 X7, ((((((((w.setCell ⟨b, 0, none⟩ X0).setCell ⟨b, 1, none⟩ X1).setCell ⟨b, 2, none⟩ X2).setCell ⟨b, 3, none⟩ X3).setCell ⟨b, 4, none⟩ X4).setCell ⟨b, 5, none⟩ X5).setCell ⟨b, 6, none⟩ X6).setCell ⟨b, 7, none⟩ X7).heap[b]? = some (.cells #[X0, X1, X2, X3, X4, X5, X6, X7, x8, x9] T (0, 0))) ∧ (∀ X0 X1 X2 X3 X4 X5 X6 X7 X8, (((((((((w.setCell ⟨b, 0, none⟩ X0).setCell ⟨b, 1, none⟩ X1).setCell ⟨b, 2, none⟩ X2).setCell ⟨b, 3, none⟩ X3).setCell ⟨b, 4, none⟩ X4).setCell ⟨b, 5, none⟩ X5).setCell ⟨b, 6, none⟩ X6).setCell ⟨b, 7, none⟩ X7).setCell ⟨b, 8, none⟩ X8).heap[b]? = some (.cells #[X0, X1, X2, X3, X4, X5, X6, X7, X8, x9] T (0, 0))) ∧ (∀ X0 X1 X2 X3 X4 X5 X6 X7 X8 X9, ((((((((((w.setCell ⟨b, 0, none⟩ X0).setCell ⟨b, 1, none⟩ X1).setCell ⟨b, 2, none⟩ X2).setCell ⟨b, 3, none⟩ X3).setCell ⟨b, 4, none⟩ X4).setCell ⟨b, 5, none⟩ X5).setCell ⟨b, 6, none⟩ X6).setCell ⟨b, 7, none⟩ X7).setCell ⟨b, 8, none⟩ X8).setCell ⟨b, 9, none⟩ X9).heap[b]? = some (.cells #[X0, X1, X2, X3, X4, X5, X6, X7, X8, X9] T (0, 0))) := by
  have h0 : w.heap[b]? = some (.cells #[x0, x1, x2, x3, x4, x5, x6, x7, x8, x9] T (0, 0)) := h
  have h1 : ∀ X0, (w.setCell ⟨b, 0, none⟩ X0).heap[b]? = some (.cells #[X0, x1, x2, x3, x4, x5, x6, x7, x8, x9] T (0, 0)) := fun X0 => (set_blk (h0) 0 X0).trans rfl
  have h2 : ∀ X0 X1, ((w.setCell ⟨b, 0, none⟩ X0).setCell ⟨b, 1, none⟩ X1).heap[b]? = some (.cells #[X0, X1, x2, x3, x4, x5, x6, x7, x8, x9] T (0, 0)) := fun X0 X1 => (set_blk (h1 X0) 1 X1).trans rfl
  have h3 : ∀ X0 X1 X2, (((w.setCell ⟨b, 0, none⟩ X0).setCell ⟨b, 1, none⟩ X1).setCell ⟨b, 2, none⟩ X2).heap[b]? = some (.cells #[X0, X1, X2, x3, x4, x5, x6, x7, x8, x9] T (0, 0)) := fun X0 X1 X2 => (set_blk (h2 X0 X1) 2 X2).trans rfl
  have h4 : ∀ X0 X1 X2 X3, ((((w.setCell ⟨b, 0, none⟩ X0).setCell ⟨b, 1, none⟩ X1).setCell ⟨b, 2, none⟩ X2).setCell ⟨b, 3, none⟩ X3).heap[b]? = some (.cells #[X0, X1, X2, X3, x4, x5, x6, x7, x8, x9] T (0, 0)) := fun X0 X1 X2 X3 => (set_blk (h3 X0 X1 X2) 3 X3).trans rfl
  have h5 : ∀ X0 X1 X2 X3 X4, (((((w.setCell ⟨b, 0, none⟩ X0).setCell ⟨b, 1, none⟩ X1).setCell ⟨b, 2, none⟩ X2).setCell ⟨b, 3, none⟩ X3).setCell ⟨b, 4, none⟩ X4).heap[b]? = some (.cells #[X0, X1, X2, X3, X4, x5, x6, x7, x8, x9] T (0, 0)) := fun X0 X1 X2 X3 X4 => (set_blk (h4 X0 X1 X2 X3) 4 X4).trans rfl
  have h6 : ∀ X0 X1 X2 X3 X4 X5, ((((((w.setCell ⟨b, 0, none⟩ X0).setCell ⟨b, 1, none⟩ X1).setCell ⟨b, 2, none⟩ X2).setCell ⟨b, 3, none⟩ X3).setCell ⟨b, 4, none⟩ X4).setCell ⟨b, 5, none⟩ X5).heap[b]? = some (.cells #[X0, X1, X2, X3, X4, X5, x6, x7, x8, x9] T (0, 0)) := fun X0 X1 X2 X3 X4 X5 => (set_blk (h5 X0 X1 X2 X3 X4) 5 X5).trans rfl
  have h7 : ∀ X0 X1 X2 X3 X4 X5 X6, (((((((w.setCell ⟨b, 0, none⟩ X0).setCell ⟨b, 1, none⟩ X1).setCell ⟨b, 2, none⟩ X2).setCell ⟨b, 3, none⟩ X3).setCell ⟨b, 4, none⟩ X4).setCell ⟨b, 5, none⟩ X5).setCell ⟨b, 6, none⟩ X6).heap[b]? = some (.cells #[X0, X1, X2, X3, X4, X5, X6, x7, x8, x9] T (0, 0)) := fun X0 X1 X2 X3 X4 X5 X6 => (set_blk (h6 X0 X1 X2 X3 X4 X5) 6 X6).trans rfl
  have h8 : ∀ X0 X1 X2 X3 X4 X5 X6 X7, ((((((((w.setCell ⟨b, 0, none⟩ X0).setCell ⟨b, 1, none⟩ X1).setCell ⟨b, 2, none⟩ X2).setCell ⟨b, 3, none⟩ X3).setCell ⟨b, 4, none⟩ X4).setCell ⟨b, 5, none⟩ X5).setCell ⟨b, 6, none⟩ X6).setCell ⟨b, 7, none⟩ X7).heap[b]? = some (.cells #[X0, X1, X2, X3, X4, X5, X6, X7, x8, x9] T (0, 0)) := fun X0 X1 X2 X3 X4 X5 X6 X7 => (set_blk (h7 X0 X1 X2 X3 X4 X5 X6) 7 X7).trans rfl
  have h9 : ∀ X0 X1 X2 X3 X4 X5 X6 X7 X8, (((((((((w.setCell ⟨b, 0, none⟩ X0).setCell ⟨b, 1, none⟩ X1).setCell ⟨b, 2, none⟩ X2).setCell ⟨b, 3, none⟩ X3).setCell ⟨b, 4, none⟩ X4).setCell ⟨b, 5, none⟩ X5).setCell ⟨b, 6, none⟩ X6).setCell ⟨b, 7, none⟩ X7).setCell ⟨b, 8, none⟩ X8).heap[b]? = some (.cells #[X0, X1, X2, X3, X4, X5, X6, X7, X8, x9] T (0, 0)) := fun X0 X1 X2 X3 X4 X5 X6 X7 X8 => (set_blk (h8 X0 X1 X2 X3 X4 X5 X6 X7) 8 X8).trans rfl
  have h10 : ∀ X0 X1 X2 X3 X4 X5 X6 X7 X8 X9, ((((((((((w.setCell ⟨b, 0, none⟩ X0).setCell ⟨b, 1, none⟩ X1).setCell ⟨b, 2, none⟩ X2).setCell ⟨b, 3, none⟩ X3).setCell ⟨b, 4, none⟩ X4).setCell ⟨b, 5, none⟩ X5).setCell ⟨b, 6, none⟩ X6).setCell ⟨b, 7, none⟩ X7).setCell ⟨b, 8, none⟩ X8).setCell ⟨b, 9, none⟩ X9).heap[b]? = some (.cells #[X0, X1, X2, X3, X4, X5, X6, X7, X8, X9] T (0, 0)) := fun X0 X1 X2 X3 X4 X5 X6 X7 X8 X9 => (set_blk (h9 X0 X1 X2 X3 X4 X5 X6 X7 X8) 9 X9).trans rfl
  exact ⟨h0, h1, h2, h3, h4, h5, h6, h7, h8, h9, h10⟩
theorem laid10_cells {w : World} {b : Nat} {x0 x1 x2 x3 x4 x5 x6 x7 x8 x9 : Value} {T : TypeId} (h : w.heap[b]? = some (.cells #[x0, x1, x2, x3, x4, x5, x6, x7, x8, x9] T (0, 0))) : (w.cell? ⟨b, 0, none⟩ = some x0) ∧ (∀ X0, (w.setCell ⟨b, 0, none⟩ X0).cell? ⟨b, 1, none⟩ = some x1) ∧ (∀ X0 X1, ((w.setCell ⟨b, 0, none⟩ X0).setCell ⟨b, 1, none⟩ X1).cell? ⟨b, 2, none⟩ = some x2) ∧ (∀ X0 X1 X2, (((w.setCell ⟨b, 0, none⟩ X0).setCell ⟨b, 1, none⟩ X1).setCell ⟨b, 2, none⟩ X2).cell? ⟨b, 3, none⟩ = some x3) ∧ (∀ X0 X1 X2 X3, ((((w.setCell ⟨b, 0, none⟩ X0).setCell ⟨b, 1, none⟩ X1).setCell ⟨b, 2, none⟩ X2).setCell ⟨b, 3, none⟩ X3).cell? ⟨b, 4, none⟩ = some x4) ∧ (∀ X0 X1 X2 X3 X4, (((((w.setCell ⟨b, 0, none⟩ X0).setCell ⟨b, 1, none⟩ X1).setCell ⟨b, 2, none⟩ X2).setCell ⟨b, 3, none⟩ X3).setCell ⟨b, 4, none⟩ X4).cell? ⟨b, 5, none⟩ = some x5) ∧ (∀ X0 X1 X2 X3 X4 X5, ((((((w.setCell ⟨b, 0, none⟩ X0).setCell ⟨b, 1, none⟩ X1).setCell ⟨b, 2, none⟩ X2).setCell ⟨b, 3, none⟩ X3).setCell ⟨b, 4, none⟩ X4).setCell ⟨b, 5, none⟩ X5).cell? ⟨b, 6, none⟩ = some x6) ∧ (∀ X0 X1 X2 X3 X4 X5 X6, (((((((w.setCell ⟨b, 0, none⟩ X0).setCell ⟨b, 1, none⟩ X1).setCell ⟨b, 2, none⟩ X2).setCell ⟨b, 3, none⟩ X3).setCell ⟨b, 4, none⟩ X4).setCell ⟨b, 5, none⟩ X5).setCell ⟨b, 6, none⟩ X6).cell? ⟨b, 7, none⟩ = some x7) ∧ (∀ X0 X1 X2 X3 X4 X5 X6 X7, ((((((((w.setCell ⟨b, 0, none⟩ X0).setCell ⟨b, 1, none⟩ X1).setCell ⟨b, 2, none⟩ X2).setCell ⟨b, 3, none⟩ X3).setCell ⟨b, 4, none⟩ X4).setCell ⟨b, 5, none⟩ X5).setCell ⟨b, 6, none⟩ X6).setCell ⟨b, 7, none⟩ X7).cell? ⟨b, 8, none⟩ = some x8) ∧ (∀ X0 X1 X2 X3 X4 X5 X6 X7 X8, (((((((((w.setCell ⟨b, 0, none⟩ X0).setCell ⟨b, 1, none⟩ X1).setCell ⟨b, 2, none⟩ X2).setCell ⟨b, 3, none⟩ X3).setCell ⟨b, 4, none⟩ X4).setCell ⟨b, 5, none⟩ X5).setCell ⟨b, 6, none⟩ X6).setCell ⟨b, 7, none⟩ X7).setCell ⟨b, 8, none⟩ X8).cell? ⟨b, 9, none⟩ = some x9) ∧ (∀ o, w.frozen? ⟨b, o, none⟩ = false) ∧ (∀ X0, ∀ o, (w.setCell ⟨b, 0, none⟩ X0).frozen? ⟨b, o, none⟩ = false) ∧ (∀ X0 X1, ∀ o, ((w.setCell ⟨b, 0, none⟩ X0).setCell ⟨b, 1, none⟩ X1).frozen? ⟨b, o, none⟩ = false) ∧ (∀ X0 X1 X2, ∀ o, (((w.setCell ⟨b, 0, none⟩ X0).setCell ⟨b, 1, none⟩ X1).setCell ⟨b, 2, none⟩ X2).frozen? ⟨b, o, none⟩ = false) ∧ (∀ X0 X1 X2 X3, ∀ o, ((((w.setCell ⟨b, 0, none⟩ X0).setCell ⟨b, 1, none⟩ X1).setCell ⟨b, 2, none⟩ X2).setCell ⟨b, 3, none⟩ X3).frozen? ⟨b, o, none⟩ = false) ∧ (∀ X0 X1 X2 X3 X4, ∀ o, (((((w.setCell ⟨b, 0, none⟩ X0).setCell ⟨b, 1, none⟩ X1).setCell ⟨b, 2, none⟩ X2).setCell ⟨b, 3, none⟩ X3).setCell ⟨b, 4, none⟩ X4).frozen? ⟨b, o, none⟩ = false) ∧ (∀ X0 X1 X2 X3 X4 X5, ∀ o, ((((((w.setCell ⟨b, 0, none⟩ X0).setCell ⟨b, 1, none⟩ X1).setCell ⟨b, 2, none⟩ X2).setCell ⟨b, 3, none⟩ X3).setCell ⟨b, 4, none⟩ X4).setCell ⟨b, 5, none⟩ X5).frozen? ⟨b, o, none⟩ = false) ∧ (∀ X0 X1 X2 X3 X4 X5 X6, ∀ o, (((((((w.setCell ⟨b, 0, none⟩ X0).setCell ⟨b, 1, none⟩ X1).setCell ⟨b, 2, none⟩ X2).setCell ⟨b, 3, none⟩ X3).setCell ⟨b, 4, none⟩ X4).setCell ⟨b, 5, none⟩ X5).setCell ⟨b, 6, none⟩ X6).frozen? ⟨b, o, none⟩ = false) ∧ (∀ X0 X1 X2 X3 X4 X5 X6 X7, ∀ o, ((((((((w.setCell ⟨b, 0, none⟩ X0).setCell ⟨b, 1, none⟩ X1).setCell ⟨b, 2, none⟩ X2).setCell ⟨b, 3, none⟩ X3).setCell ⟨b, 4, none⟩ X4).setCell ⟨b, 5, none⟩ X5).setCell ⟨b, 6, none⟩ X6).setCell ⟨b, 7, none⟩ X7).frozen? ⟨b, o, none⟩ = false) ∧ (∀ X0 X1 X2 X3 X4 X5 X6 X7 X8, ∀ o, (((((((((w.setCell ⟨b, 0, none⟩ X0).setCell ⟨b, 1, none⟩ X1).setCell ⟨b, 2, none⟩ X2).setCell ⟨b, 3, none⟩ X3).setCell ⟨b, 4, none⟩ X4).setCell ⟨b, 5, none⟩ X5).setCell ⟨b, 6, none⟩ X6).setCell ⟨b, 7, none⟩ X7).setCell ⟨b, 8, none⟩ X8).frozen? ⟨b, o, none⟩ = false) := by
  obtain ⟨h0, h1, h2, h3, h4, h5, h6, h7, h8, h9, h10⟩ := laid10_blk h
  exact ⟨by simp only [World.cell?, h0]; rfl, fun X0 => by simp only [World.cell?, h1]; rfl, fun X0 X1 => by simp only [World.cell?, h2]; rfl, fun X0 X1 X2 => by simp only [World.cell?, h3]; rfl, fun X0 X1 X2 X3 => by simp only [World.cell?, h4]; rfl, fun X0 X1 X2 X3 X4 => by simp only [World.cell?, h5]; rfl, fun X0 X1 X2 X3 X4 X5 => by simp only [World.cell?, h6]; rfl, fun X0 X1 X2 X3 X4 X5 X6 => by simp only [World.cell?, h7]; rfl, fun X0 X1 X2 X3 X4 X5 X6 X7 => by simp only [World.cell?, h8]; rfl, fun X0 X1 X2 X3 X4 X5 X6 X7 X8 => by simp only [World.cell?, h9]; rfl, fun o => by simp only [World.frozen?, h0]; simp, fun X0 o => by simp only [World.frozen?, h1]; simp, fun X0 X1 o => by simp only [World.frozen?, h2]; simp, fun X0 X1 X2 o => by simp only [World.frozen?, h3]; simp, fun X0 X1 X2 X3 o => by simp only [World.frozen?, h4]; simp, fun X0 X1 X2 X3 X4 o => by simp only [World.frozen?, h5]; simp, fun X0 X1 X2 X3 X4 X5 o => by simp only [World.frozen?, h6]; simp, fun X0 X1 X2 X3 X4 X5 X6 o => by simp only [World.frozen?, h7]; simp, fun X0 X1 X2 X3 X4 X5 X6 X7 o => by simp only [World.frozen?, h8]; simp, fun X0 X1 X2 X3 X4 X5 X6 X7 X8 o => by simp only [World.frozen?, h9]; simp⟩
theorem laid10_read {w : World} {b : Nat} {x0 x1 x2 x3 x4 x5 x6 x7 x8 x9 : Value} {T : TypeId} (h : w.heap[b]? = some (.cells #[x0, x1, x2, x3, x4, x5, x6, x7, x8, x9] T (0, 0))) (X0 X1 X2 X3 X4 X5 X6 X7 X8 X9 : Value) : ((((((((((w.setCell ⟨b, 0, none⟩ X0).setCell ⟨b, 1, none⟩ X1).setCell ⟨b, 2, none⟩ X2).setCell ⟨b, 3, none⟩ X3).setCell ⟨b, 4, none⟩ X4).setCell ⟨b, 5, none⟩ X5).setCell ⟨b, 6, none⟩ X6).setCell ⟨b, 7, none⟩ X7).setCell ⟨b, 8, none⟩ X8).setCell ⟨b, 9, none⟩ X9).cell? ⟨b, 0, none⟩ = some X0 ∧ ((((((((((w.setCell ⟨b, 0, none⟩ X0).setCell ⟨b, 1, none⟩ X1).setCell ⟨b, 2, none⟩ X2).setCell ⟨b, 3, none⟩ X3).setCell ⟨b, 4, none⟩ X4).setCell ⟨b, 5, none⟩ X5).setCell ⟨b, 6, none⟩ X6).setCell ⟨b, 7, none⟩ X7).setCell ⟨b, 8, none⟩ X8).setCell ⟨b, 9, none⟩ X9).cell? ⟨b, 1, none⟩ = some X1 ∧ ((((((((((w.setCell ⟨b, 0, none⟩ X0).setCell ⟨b, 1, none⟩ X1).setCell ⟨b, 2, none⟩ X2).setCell ⟨b, 3, none⟩ X3).setCell ⟨b, 4, none⟩ X4).setCell ⟨b, 5, none⟩ X5).setCell ⟨b, 6, none⟩ X6).setCell ⟨b, 7, none⟩ X7).setCell ⟨b, 8, none⟩ X8).setCell ⟨b, 9, none⟩ X9).cell? ⟨b, 2, none⟩ = some X2 ∧ ((((((((((w.setCell ⟨b, 0, none⟩ X0).setCell ⟨b, 1, none⟩ X1).setCell ⟨b, 2, none⟩ X2).setCell ⟨b, 3, none⟩ X3).setCell ⟨b, 4, none⟩ X4).setCell ⟨b, 5, none⟩ X5).setCell ⟨b, 6, none⟩ X6).setCell ⟨b, 7, none⟩ X7).setCell ⟨b, 8, none⟩ X8).setCell ⟨b, 9, none⟩ X9).cell? ⟨b, 3, none⟩ = some X3 ∧ ((((((((((w.setCell ⟨b, 0, none⟩ X0).setCell ⟨b, 1, none⟩ X1).setCell ⟨b, 2, none⟩ X2).setCell ⟨b, 3, none⟩ X3).setCell ⟨b, 4, none⟩ X4).setCell ⟨b, 5, none⟩ X5).setCell ⟨b, 6, none⟩ X6).setCell ⟨b, 7, none⟩ X7).setCell ⟨b, 8, none⟩ X8).setCell ⟨b, 9, none⟩ X9).cell? ⟨b, 4, none⟩ = some X4 ∧ ((((((((((w.setCell ⟨b, 0, none⟩ X0).setCell ⟨b, 1, none⟩ X1).setCell ⟨b, 2, none⟩ X2).setCell ⟨b, 3, none⟩ X3).setCell ⟨b, 4, none⟩ X4).setCell ⟨b, 5, none⟩ X5).setCell ⟨b, 6, none⟩ X6).setCell ⟨b, 7, none⟩ X7).setCell ⟨b, 8, none⟩ X8).setCell ⟨b, 9, none⟩ X9).cell? ⟨b, 5, none⟩ = some X5 ∧ ((((((((((w.setCell ⟨b, 0, none⟩ X0).setCell ⟨b, 1, none⟩ X1).setCell ⟨b, 2, none⟩ X2).setCell ⟨b, 3, none⟩ X3).setCell ⟨b, 4, none⟩ X4).setCell ⟨b, 5, none⟩ X5).setCell ⟨b, 6, none⟩ X6).setCell ⟨b, 7, none⟩ X7).setCell ⟨b, 8, none⟩ X8).setCell ⟨b, 9, none⟩ X9).cell? ⟨b, 6, none⟩ = some X6 ∧ ((((((((((w.setCell ⟨b, 0, none⟩ X0).setCell ⟨b, 1, none⟩ X1).setCell ⟨b, 2, none⟩ X2).setCell ⟨b, 3, none⟩ X3).setCell ⟨b, 4, none⟩ X4).setCell ⟨b, 5, none⟩ X5).setCell ⟨b, 6, none⟩ X6).setCell ⟨b, 7, none⟩ X7).setCell ⟨b, 8, none⟩ X8).setCell ⟨b, 9, none⟩ X9).cell? ⟨b, 7, none⟩ = some X7 ∧ ((((((((((w.setCell ⟨b, 0, none⟩ X0).setCell ⟨b, 1, none⟩ X1).setCell ⟨b, 2, none⟩ X2).setCell ⟨b, 3, none⟩ X3).setCell ⟨b, 4, none⟩ X4).setCell ⟨b, 5, none⟩ X5).setCell ⟨b, 6, none⟩ X6).setCell ⟨b, 7, none⟩ X7).setCell ⟨b, 8, none⟩ X8).setCell ⟨b, 9, none⟩ X9).cell? ⟨b, 8, none⟩ = some X8 ∧ ((((((((((w.setCell ⟨b, 0, none⟩ X0).setCell ⟨b, 1, none⟩ X1).setCell ⟨b, 2, none⟩ X2).setCell ⟨b, 3, none⟩ X3).setCell ⟨b, 4, none⟩ X4).setCell ⟨b, 5, none⟩ X5).setCell ⟨b, 6, none⟩ X6).setCell ⟨b, 7, none⟩ X7).setCell ⟨b, 8, none⟩ X8).setCell ⟨b, 9, none⟩ X9).cell? ⟨b, 9, none⟩ = some X9 := by
  obtain ⟨_, _, _, _, _, _, _, _, _, _, h10⟩ := laid10_blk h
  have := h10 X0 X1 X2 X3 X4 X5 X6 X7 X8 X9
  exact ⟨by simp only [World.cell?, this]; rfl, by simp only [World.cell?, this]; rfl, by simp only [World.cell?, this]; rfl, by simp only [World.cell?, this]; rfl, by simp only [World.cell?, this]; rfl, by simp only [World.cell?, this]; rfl, by simp only [World.cell?, this]; rfl, by simp only [World.cell?, this]; rfl, by simp only [World.cell?, this]; rfl, by simp only [World.cell?, this]; rfl⟩
theorem laid10_below {B : Nat} {w0 w : World} (hb : Below B w0 w) {b : Nat} (hl : B ≤ b) (X0 X1 X2 X3 X4 X5 X6 X7 X8 X9 : Value) : Below B w0 ((((((((((w.setCell ⟨b, 0, none⟩ X0).setCell ⟨b, 1, none⟩ X1).setCell ⟨b, 2, none⟩ X2).setCell ⟨b, 3, none⟩ X3).setCell ⟨b, 4, none⟩ X4).setCell ⟨b, 5, none⟩ X5).setCell ⟨b, 6, none⟩ X6).setCell ⟨b, 7, none⟩ X7).setCell ⟨b, 8, none⟩ X8).setCell ⟨b, 9, none⟩ X9) := ((((((((((hb.setCell (p := ⟨b, 0, none⟩) hl X0).setCell (p := ⟨b, 1, none⟩) hl X1).setCell (p := ⟨b, 2, none⟩) hl X2).setCell (p := ⟨b, 3, none⟩) hl X3).setCell (p := ⟨b, 4, none⟩) hl X4).setCell (p := ⟨b, 5, none⟩) hl X5).setCell (p := ⟨b, 6, none⟩) hl X6).setCell (p := ⟨b, 7, none⟩) hl X7).setCell (p := ⟨b, 8, none⟩) hl X8).setCell (p := ⟨b, 9, none⟩) hl X9)
theorem laid10_keep (w : World) {b k : Nat} (hk : k ≠ b) (X0 X1 X2 X3 X4 X5 X6 X7 X8 X9 : Value) : ((((((((((w.setCell ⟨b, 0, none⟩ X0).setCell ⟨b, 1, none⟩ X1).setCell ⟨b, 2, none⟩ X2).setCell ⟨b, 3, none⟩ X3).setCell ⟨b, 4, none⟩ X4).setCell ⟨b, 5, none⟩ X5).setCell ⟨b, 6, none⟩ X6).setCell ⟨b, 7, none⟩ X7).setCell ⟨b, 8, none⟩ X8).setCell ⟨b, 9, none⟩ X9).heap[k]? = w.heap[k]? := ((Below.heap_setCell _ ⟨b, 9, none⟩ _ k hk).trans ((Below.heap_setCell _ ⟨b, 8, none⟩ _ k hk).trans ((Below.heap_setCell _ ⟨b, 7, none⟩ _ k hk).trans ((Below.heap_setCell _ ⟨b, 6, none⟩ _ k hk).trans ((Below.heap_setCell _ ⟨b, 5, none⟩ _ k hk).trans ((Below.heap_setCell _ ⟨b, 4, none⟩ _ k hk).trans ((Below.heap_setCell _ ⟨b, 3, none⟩ _ k hk).trans ((Below.heap_setCell _ ⟨b, 2, none⟩ _ k hk).trans ((Below.heap_setCell _ ⟨b, 1, none⟩ _ k hk).trans ((Below.heap_setCell _ ⟨b, 0, none⟩ _ k hk)))))))))))
theorem laid10_keepd (w : World) {b k : Nat} (hk : k ≠ b) (X0 X1 X2 X3 X4 X5 X6 X7 X8 X9 : Value) : (((((((((((w.setCell ⟨b, 0, none⟩ X0).setCell ⟨b, 1, none⟩ X1).setCell ⟨b, 2, none⟩ X2).setCell ⟨b, 3, none⟩ X3).setCell ⟨b, 4, none⟩ X4).setCell ⟨b, 5, none⟩ X5).setCell ⟨b, 6, none⟩ X6).setCell ⟨b, 7, none⟩ X7).setCell ⟨b, 8, none⟩ X8).setCell ⟨b, 9, none⟩ X9).drew).heap[k]? = w.heap[k]? := by
  rw [show ∀ W : World, W.drew.heap = W.heap from fun _ => rfl]
  exact laid10_keep w hk X0 X1 X2 X3 X4 X5 X6 X7 X8 X9
set_option maxRecDepth 100000 in
set_option maxHeartbeats 4000000 in
theorem letter_any' (w : World) (hK : KwIn w) (s : Sch) (ur us ug : Value) (hS : SchR w s ur us ug) (hM : Small s) (a id : Tx) (hx : id.length ≤ 1000000) (i fr : Int) :
    Calls Tryz.prog 106 #[.agg #[.string (bT s.name), ur, us, ug], .string (bT a), .string (bT id), .int .i64 i, .int .i64 fr] w fun x w' => (∃ (f t p : Int) (k sv mt : Tx), x = .returned (.tuple #[.agg (ltr f t p k sv mt), .int .i64 (letE s a id i fr : Nat)]) ∧ (letE s a id i fr = 0 → sv = (stpOf s a i).service ∧ mt = (stpOf s a i).method ∧ k = keyA id i false)) ∧ Below w.heap.size w w' := by
  have HF := Lib.hid (fun W (h : Below w.heap.size w W) => found_any W (hK.below h) s ur us ug (hS.below h) hM a)
  have HID := Lib.hid (fun W => id_any W id hx)
  have HKY := Lib.hid (fun W => key_any W id hx i false)
  have HLE := Lib.hid (show letE s a id i fr = if (foundA s a).2 = 0 then (if idA id = true ∧ 0 ≤ fr ∧ fr < 4 then (if 0 ≤ i ∧ i < ((foundA s a).1.steps.length : Nat) then 0 else 241) else 1) else (foundA s a).2 from rfl)
  have HST := Lib.hid (show stpOf s a i = (foundA s a).1.steps.getD i.toNat ⟨[], [], 0⟩ from rfl)
  generalize letE s a id i fr = LE at *
  generalize stpOf s a i = ST at *
  generalize foundA s a = F at *
  obtain ⟨⟨gn, ga, gs⟩, fe⟩ := F
  dsimp only at HF HLE HST ⊢
  clear hS hK hM
  go_enter Tryz.func106, Tryz.ntmps106
  go_upto_region 1 with (fail)
  generalize hwa : ((w.alloc (.cells #[.string (bT s.name), ur, us, ug] 26)).alloc (.cells #[.int .u8 0, .int .i64 0, .int .i64 0, .int .u64 0, .string ⟨#[]⟩, .int .u64 0, .string ⟨#[]⟩, .string ⟨#[]⟩, .int .i64 0, .string ⟨#[]⟩] 63)) = wa
  have HBa := Lib.hid (show Below w.heap.size w wa from hwa ▸ ((Below.refl _ w).alloc (Nat.le_refl _) _).alloc (by simp) _)
  have HXa := Lib.hid (show wa.heap[w.heap.size]? = some (.cells #[.string (bT s.name), ur, us, ug] 26 (0, 0)) from hwa ▸ (Below.heap_alloc _ _ _ (by simp)).trans (heap_alloc_new _ _))
  have HYa := Lib.hid (show wa.heap[w.heap.size + 1]? = some (.cells #[.int .u8 0, .int .i64 0, .int .i64 0, .int .u64 0, .string ⟨#[]⟩, .int .u64 0, .string ⟨#[]⟩, .string ⟨#[]⟩, .int .i64 0, .string ⟨#[]⟩] 63 (0, 0)) from hwa ▸ heap_alloc_new2 _ _ _)
  have hza : wa.heap.size = w.heap.size + 2 := by rw [← hwa]; simp
  clear hwa
  have HZA := Lib.hid hza
  clear hza
  have x0 : wa.cell? ⟨w.heap.size, 0, none⟩ = some (.string (bT s.name)) := by simp only [World.cell?, HXa.out]; rfl
  have x1 : wa.cell? ⟨w.heap.size, 1, none⟩ = some ur := by simp only [World.cell?, HXa.out]; rfl
  have x2 : wa.cell? ⟨w.heap.size, 2, none⟩ = some us := by simp only [World.cell?, HXa.out]; rfl
  have x3 : wa.cell? ⟨w.heap.size, 3, none⟩ = some ug := by simp only [World.cell?, HXa.out]; rfl
  go_wp2_with fail
  refine (HF.out wa HBa.out).mono ?_
  rintro e w2 ⟨u, n, rfl, hu, hb⟩
  obtain ⟨ua, uc, rfl⟩ := own_slice hu
  have HB2 := Lib.hid (HBa.out.trans (hb.mono HBa.out.size))
  have HY2 := Lib.hid ((hb.block _ (by have := HZA.out; omega)).trans HYa.out)
  have HU := Lib.hid hu
  have hl2 : w.heap.size + 1 < w2.heap.size := (Array.getElem?_eq_some_iff.1 HY2.out).1
  clear hu hb HF x0 x1 x2 x3
  go_upto_region 2 with (fail)
  have hz3 : (w2.alloc (.cells #[.string (bT gn), .string (bT ga), .slice ua gs.length uc] 67)).heap.size = w2.heap.size + 1 := by simp
  generalize hw3 : w2.alloc (.cells #[.string (bT gn), .string (bT ga), .slice ua gs.length uc] 67) = w3 at *
  have HB3 := Lib.hid (show Below w.heap.size w w3 from hw3 ▸ HB2.out.alloc HB2.out.size _)
  have HY3 := Lib.hid (show w3.heap[w.heap.size + 1]? = _ from hw3 ▸ (Below.heap_alloc w2 (.cells #[.string (bT gn), .string (bT ga), .slice ua gs.length uc] 67) _ hl2).trans HY2.out)
  have HG3 := Lib.hid (show w3.heap[w2.heap.size]? = some (.cells #[.string (bT gn), .string (bT ga), .slice ua gs.length uc] 67 (0, 0)) from hw3 ▸ heap_alloc_new w2 _)
  have HU3 := Lib.hid (show w3.ownsRow wa.heap.size 108 3 (.slice ua gs.length uc) gs.length (pcells gs) from hw3 ▸ own_below HU.out (bl1 w2 _))
  have HZ3 := Lib.hid hz3
  clear hw3 hz3 HU
  by_cases hfe : fe = 0
  case neg =>
    have d0 : ((fe : Int) != 0) = true := by simp; omega
    have HE := Lib.hid (HLE.out.trans (if_neg hfe))
    obtain ⟨l0, l1, l2, l3, l4, l5, l6, l7, l8, l9, g0, g1, g2, g3, g4, g5, g6, g7, g8, g9⟩ := laid10_cells HY3.out
    obtain ⟨m0, m1, m2, m3, m4, m5, m6, m7, m8, m9⟩ := laid10_read HY3.out (.int .u8 0) (.int .i64 0) (.int .i64 0) (.int .u64 0) (.string ⟨#[]⟩) (.int .u64 0) (.string ⟨#[]⟩) (.string ⟨#[]⟩) (.int .i64 0) (.string ⟨#[]⟩)
    have HWf := Lib.hid (laid10_below HB3.out (show w.heap.size ≤ w.heap.size + 1 by omega) (.int .u8 0) (.int .i64 0) (.int .i64 0) (.int .u64 0) (.string ⟨#[]⟩) (.int .u64 0) (.string ⟨#[]⟩) (.string ⟨#[]⟩) (.int .i64 0) (.string ⟨#[]⟩))
    go_wp2_with fail
    exact bodyPost_ret (v := .tuple #[.agg (ltr 0 0 0 [] [] []), .int .i64 (fe : Nat)]) (by simp [results, Tryz.results106, go_sem, m0, m1, m2, m3, m4, m5, m6, m7, m8, m9, ltr, bT]) rfl ⟨⟨0, 0, 0, [], [], [], by first | (rw [HE.out]; done) | (rw [HE.out]; rfl), fun h => absurd h (by rw [HE.out]; exact hfe)⟩, HWf.out⟩
  subst hfe
  have d0 : (((0 : Nat) : Int) != 0) = false := by decide
  have HL2 := Lib.hid (HLE.out.trans (if_pos rfl))
  clear HLE
  have HIc := Lib.hid (HID.out w3)
  go_wp2_with fail
  refine HIc.out.mono ?_
  rintro e w4 ⟨rfl, hb4⟩
  have HB4 := Lib.hid (HB3.out.trans (hb4.mono HB3.out.size))
  have HY4 := Lib.hid ((hb4.block _ (by have := HZ3.out; omega)).trans HY3.out)
  have HG4 := Lib.hid ((hb4.block _ (by have := HZ3.out; omega)).trans HG3.out)
  have HU4 := Lib.hid (own_below HU3.out hb4)
  have hl4 : w2.heap.size < w4.heap.size := (Array.getElem?_eq_some_iff.1 HG4.out).1
  clear hb4 HIc HY3 HG3 HU3
  generalize idA id = ok at *
  cases ok
  · have HE := Lib.hid (show LE = 1 from HL2.out.trans (if_neg (by simp)))
    obtain ⟨l0, l1, l2, l3, l4, l5, l6, l7, l8, l9, g0, g1, g2, g3, g4, g5, g6, g7, g8, g9⟩ := laid10_cells HY4.out
    obtain ⟨m0, m1, m2, m3, m4, m5, m6, m7, m8, m9⟩ := laid10_read HY4.out (.int .u8 0) (.int .i64 0) (.int .i64 0) (.int .u64 0) (.string ⟨#[]⟩) (.int .u64 0) (.string ⟨#[]⟩) (.string ⟨#[]⟩) (.int .i64 0) (.string ⟨#[]⟩)
    have HWf := Lib.hid (laid10_below HB4.out (show w.heap.size ≤ w.heap.size + 1 by omega) (.int .u8 0) (.int .i64 0) (.int .i64 0) (.int .u64 0) (.string ⟨#[]⟩) (.int .u64 0) (.string ⟨#[]⟩) (.string ⟨#[]⟩) (.int .i64 0) (.string ⟨#[]⟩))
    go_wp2_with fail
    exact bodyPost_ret (v := .tuple #[.agg (ltr 0 0 0 [] [] []), .int .i64 1]) (by simp [results, Tryz.results106, go_sem, m0, m1, m2, m3, m4, m5, m6, m7, m8, m9, ltr, bT]) rfl ⟨⟨0, 0, 0, [], [], [], by first | (rw [HE.out]; done) | (rw [HE.out]; rfl), fun h => absurd h (by rw [HE.out]; decide)⟩, HWf.out⟩
  by_cases h1 : fr < 0
  · have HE := Lib.hid (show LE = 1 from HL2.out.trans (if_neg (by omega)))
    have d1 : decide (fr < 0) = true := decide_eq_true h1
    obtain ⟨l0, l1, l2, l3, l4, l5, l6, l7, l8, l9, g0, g1, g2, g3, g4, g5, g6, g7, g8, g9⟩ := laid10_cells HY4.out
    obtain ⟨m0, m1, m2, m3, m4, m5, m6, m7, m8, m9⟩ := laid10_read HY4.out (.int .u8 0) (.int .i64 0) (.int .i64 0) (.int .u64 0) (.string ⟨#[]⟩) (.int .u64 0) (.string ⟨#[]⟩) (.string ⟨#[]⟩) (.int .i64 0) (.string ⟨#[]⟩)
    have HWf := Lib.hid (laid10_below HB4.out (show w.heap.size ≤ w.heap.size + 1 by omega) (.int .u8 0) (.int .i64 0) (.int .i64 0) (.int .u64 0) (.string ⟨#[]⟩) (.int .u64 0) (.string ⟨#[]⟩) (.string ⟨#[]⟩) (.int .i64 0) (.string ⟨#[]⟩))
    go_wp2_with fail
    exact bodyPost_ret (v := .tuple #[.agg (ltr 0 0 0 [] [] []), .int .i64 1]) (by simp [results, Tryz.results106, go_sem, m0, m1, m2, m3, m4, m5, m6, m7, m8, m9, ltr, bT]) rfl ⟨⟨0, 0, 0, [], [], [], by first | (rw [HE.out]; done) | (rw [HE.out]; rfl), fun h => absurd h (by rw [HE.out]; decide)⟩, HWf.out⟩
  have d1 : decide (fr < 0) = false := decide_eq_false h1
  by_cases h2 : 4 ≤ fr
  · have HE := Lib.hid (show LE = 1 from HL2.out.trans (if_neg (by omega)))
    have d2 : decide (4 ≤ fr) = true := decide_eq_true h2
    obtain ⟨l0, l1, l2, l3, l4, l5, l6, l7, l8, l9, g0, g1, g2, g3, g4, g5, g6, g7, g8, g9⟩ := laid10_cells HY4.out
    obtain ⟨m0, m1, m2, m3, m4, m5, m6, m7, m8, m9⟩ := laid10_read HY4.out (.int .u8 0) (.int .i64 0) (.int .i64 0) (.int .u64 0) (.string ⟨#[]⟩) (.int .u64 0) (.string ⟨#[]⟩) (.string ⟨#[]⟩) (.int .i64 0) (.string ⟨#[]⟩)
    have HWf := Lib.hid (laid10_below HB4.out (show w.heap.size ≤ w.heap.size + 1 by omega) (.int .u8 0) (.int .i64 0) (.int .i64 0) (.int .u64 0) (.string ⟨#[]⟩) (.int .u64 0) (.string ⟨#[]⟩) (.string ⟨#[]⟩) (.int .i64 0) (.string ⟨#[]⟩))
    go_wp2_with fail
    exact bodyPost_ret (v := .tuple #[.agg (ltr 0 0 0 [] [] []), .int .i64 1]) (by simp [results, Tryz.results106, go_sem, m0, m1, m2, m3, m4, m5, m6, m7, m8, m9, ltr, bT]) rfl ⟨⟨0, 0, 0, [], [], [], by first | (rw [HE.out]; done) | (rw [HE.out]; rfl), fun h => absurd h (by rw [HE.out]; decide)⟩, HWf.out⟩
  have d2 : decide (4 ≤ fr) = false := decide_eq_false h2
  have HL3 := Lib.hid (HL2.out.trans (if_pos ⟨rfl, by omega, by omega⟩))
  clear HL2
  have c2 : w4.cell? ⟨w2.heap.size, 2, none⟩ = some (.slice ua gs.length uc) := by simp only [World.cell?, HG4.out]; rfl
  by_cases h3 : i < 0
  · have HE := Lib.hid (show LE = 241 from HL3.out.trans (if_neg (by omega)))
    have d3 : decide (i < 0) = true := decide_eq_true h3
    obtain ⟨l0, l1, l2, l3, l4, l5, l6, l7, l8, l9, g0, g1, g2, g3, g4, g5, g6, g7, g8, g9⟩ := laid10_cells HY4.out
    obtain ⟨m0, m1, m2, m3, m4, m5, m6, m7, m8, m9⟩ := laid10_read HY4.out (.int .u8 0) (.int .i64 0) (.int .i64 0) (.int .u64 0) (.string ⟨#[]⟩) (.int .u64 0) (.string ⟨#[]⟩) (.string ⟨#[]⟩) (.int .i64 0) (.string ⟨#[]⟩)
    have HWf := Lib.hid (laid10_below HB4.out (show w.heap.size ≤ w.heap.size + 1 by omega) (.int .u8 0) (.int .i64 0) (.int .i64 0) (.int .u64 0) (.string ⟨#[]⟩) (.int .u64 0) (.string ⟨#[]⟩) (.string ⟨#[]⟩) (.int .i64 0) (.string ⟨#[]⟩))
    go_wp2_with fail
    exact bodyPost_ret (v := .tuple #[.agg (ltr 0 0 0 [] [] []), .int .i64 241]) (by simp [results, Tryz.results106, go_sem, m0, m1, m2, m3, m4, m5, m6, m7, m8, m9, ltr, bT]) rfl ⟨⟨0, 0, 0, [], [], [], by first | (rw [HE.out]; done) | (rw [HE.out]; rfl), fun h => absurd h (by rw [HE.out]; decide)⟩, HWf.out⟩
  have d3 : decide (i < 0) = false := decide_eq_false h3
  by_cases h4 : (gs.length : Int) ≤ i
  · have HE := Lib.hid (show LE = 241 from HL3.out.trans (if_neg (by omega)))
    have d4 : decide ((gs.length : Int) ≤ i) = true := decide_eq_true h4
    obtain ⟨l0, l1, l2, l3, l4, l5, l6, l7, l8, l9, g0, g1, g2, g3, g4, g5, g6, g7, g8, g9⟩ := laid10_cells HY4.out
    obtain ⟨m0, m1, m2, m3, m4, m5, m6, m7, m8, m9⟩ := laid10_read HY4.out (.int .u8 0) (.int .i64 0) (.int .i64 0) (.int .u64 0) (.string ⟨#[]⟩) (.int .u64 0) (.string ⟨#[]⟩) (.string ⟨#[]⟩) (.int .i64 0) (.string ⟨#[]⟩)
    have HWf := Lib.hid (laid10_below HB4.out (show w.heap.size ≤ w.heap.size + 1 by omega) (.int .u8 0) (.int .i64 0) (.int .i64 0) (.int .u64 0) (.string ⟨#[]⟩) (.int .u64 0) (.string ⟨#[]⟩) (.string ⟨#[]⟩) (.int .i64 0) (.string ⟨#[]⟩))
    go_wp2_with fail
    exact bodyPost_ret (v := .tuple #[.agg (ltr 0 0 0 [] [] []), .int .i64 241]) (by simp [results, Tryz.results106, go_sem, m0, m1, m2, m3, m4, m5, m6, m7, m8, m9, ltr, bT]) rfl ⟨⟨0, 0, 0, [], [], [], by first | (rw [HE.out]; done) | (rw [HE.out]; rfl), fun h => absurd h (by rw [HE.out]; decide)⟩, HWf.out⟩
  have d4 : decide ((gs.length : Int) ≤ i) = false := decide_eq_false h4
  have HE := Lib.hid (show LE = 0 from HL3.out.trans (if_pos (by omega)))
  obtain ⟨k, rfl⟩ := Int.eq_ofNat_of_zero_le (show 0 ≤ i by omega)
  have hk : k < gs.length := by omega
  have HST2 := Lib.hid (show ST = gs[k] from by rw [HST.out, Int.toNat_natCast, List.getD_eq_getElem?_getD, List.getElem?_eq_getElem hk]; rfl)
  obtain ⟨b9, o9, rfl, hb9, q0, q1, q2⟩ := stp_at (Slc.own HU4.out) hk
  generalize gs[k] = x at *
  obtain rfl := HST2.out
  have hi1 : (0 : Int) ≤ (k : Int) := by omega
  have hi2 : (k : Int) < (gs.length : Int) := by omega
  clear HL3 HST HST2 h1 h2 h3 h4
  go_upto_region 9 with (fail)
  generalize hw5 : w4.alloc (.cells #[.string (bT ST.service), .string (bT ST.method), .int .i64 ST.node] 108) = w5
  have HB5 := Lib.hid (show Below w.heap.size w w5 from hw5 ▸ HB4.out.alloc HB4.out.size _)
  have HY5 := Lib.hid (show w5.heap[w.heap.size + 1]? = _ from hw5 ▸ (Below.heap_alloc w4 (.cells #[.string (bT ST.service), .string (bT ST.method), .int .i64 ST.node] 108) _ (by omega)).trans HY4.out)
  have HG5 := Lib.hid (show w5.heap[w4.heap.size]? = some (.cells #[.string (bT ST.service), .string (bT ST.method), .int .i64 ST.node] 108 (0, 0)) from hw5 ▸ heap_alloc_new _ _)
  have hl5 : w4.heap.size < w5.heap.size := (Array.getElem?_eq_some_iff.1 HG5.out).1
  have HSX := Lib.hid (fun (W : World) (e1 : W.heap[w4.heap.size]? = w5.heap[w4.heap.size]?) => show (fun (W : World) => W.cell? ⟨w4.heap.size, 0, none⟩ = some (.string (bT ST.service)) ∧ W.cell? ⟨w4.heap.size, 1, none⟩ = some (.string (bT ST.method)) ∧ W.cell? ⟨w4.heap.size, 2, none⟩ = some (.int .i64 ST.node)) W from by simp [World.cell?, e1.trans HG5.out])
  clear hw5 HG4 HU4 HY4 c2 q0 q1 q2
  generalize hka : keyA id (k : Int) false = KA at *
  have HKA := Lib.hid hka.symm
  clear hka
  have HY7 := Lib.hid (fun W (h : Below w5.heap.size w5 W) => (h.block (w.heap.size + 1) (by omega)).trans HY5.out)
  have HL7 := Lib.hid (fun W (h : Below w5.heap.size w5 W) => laid10_cells (HY7.out W h))
  have hkd : w5.drew.heap[w4.heap.size]? = w5.heap[w4.heap.size]? := rfl
  have hne : w4.heap.size ≠ w.heap.size + 1 := by omega
  go_region_held3 (fun (W : World) => W.cell? ⟨w4.heap.size, 0, none⟩ = some (.string (bT ST.service)) ∧ W.cell? ⟨w4.heap.size, 1, none⟩ = some (.string (bT ST.method)) ∧ W.cell? ⟨w4.heap.size, 2, none⟩ = some (.int .i64 ST.node))
    (first | with_reducible exact HSX.out _ hkd | with_reducible exact HSX.out _ hk7 | with_reducible exact HSX.out _ ((laid10_keep w7 hne _ _ _ _ _ _ _ _ _ _).trans hk7) | with_reducible exact HSX.out _ ((laid10_keepd w7 hne _ _ _ _ _ _ _ _ _ _).trans hk7) | assumption)
    (first
      | (go_at_call 81; ((with_reducible refine (HKY.out _).mono ?_); rintro e w7 ⟨rfl, hb7⟩; have hk7 : w7.heap[w4.heap.size]? = w5.heap[w4.heap.size]? := hb7.block w4.heap.size hl5; obtain ⟨l0, l1, l2, l3, l4, l5, l6, l7, l8, l9, g0, g1, g2, g3, g4, g5, g6, g7, g8, g9⟩ := HL7.out w7 ((Below.refl _ w5).drew.trans hb7))))
  all_goals
    have HB7 := Lib.hid (show Below w.heap.size w w7 from HB5.out.trans (((Below.refl _ w5).drew.trans hb7).mono HB5.out.size))
    obtain ⟨m0, m1, m2, m3, m4, m5, m6, m7, m8, m9⟩ := laid10_read (HY7.out w7 ((Below.refl _ w5).drew.trans hb7)) (.int .u8 0) (.int .i64 fr) (.int .i64 ST.node) (.int .u64 0) (.string (bT KA)) (.int .u64 n) (.string (bT ST.service)) (.string (bT ST.method)) (.int .i64 0) (.string ⟨#[]⟩)
    have HWf := Lib.hid (laid10_below HB7.out (show w.heap.size ≤ w.heap.size + 1 by omega) (.int .u8 0) (.int .i64 fr) (.int .i64 ST.node) (.int .u64 0) (.string (bT KA)) (.int .u64 n) (.string (bT ST.service)) (.string (bT ST.method)) (.int .i64 0) (.string ⟨#[]⟩))
    clear hk7 hb7 l0 l1 l2 l3 l4 l5 l6 l7 l8 l9 g0 g1 g2 g3 g4 g5 g6 g7 g8 g9
    go_wp2_with fail
    exact bodyPost_ret (v := .tuple #[.agg (ltr fr ST.node n KA ST.service ST.method), .int .i64 0]) (by simp [results, Tryz.results106, go_sem, m0, m1, m2, m3, m4, m5, m6, m7, m8, m9, ltr]) rfl ⟨⟨fr, ST.node, n, KA, ST.service, ST.method, by rw [HE.out]; rfl, fun _ => ⟨rfl, rfl, HKA.out⟩⟩, HWf.out⟩
end Go.Proofs.YtgoejmheihgpfaaGreatDoor
