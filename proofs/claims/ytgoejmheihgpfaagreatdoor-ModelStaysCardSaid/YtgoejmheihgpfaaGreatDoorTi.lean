/- Lemmas for ModelStays' proof. -/
import Derived.Test.YtgoejmheihgpfaaGreatDoorTd
import Derived.Test.YtgoejmheihgpfaaGreatDoorSg
namespace Go.Proofs.YtgoejmheihgpfaaGreatDoor
set_option maxRecDepth 100000
set_option maxHeartbeats 16000000
open Go.RowKit
def LetV (l : Array Value) : Prop := ∃ (l0 l1 l2 l3 l5 l8 : Int) (l4 l6 l7 l9 : ByteArray), l = #[.int .u8 l0, iV l1, iV l2, .int .u64 l3, .string l4, .int .u64 l5, .string l6, .string l7, iV l8, .string l9]
theorem laid9_blk {w : World} {b : Nat} {x0 x1 x2 x3 x4 x5 x6 x7 x8 : Value} {T : TypeId} (h : w.heap[b]? = some (.cells #[x0, x1, x2, x3, x4, x5, x6, x7, x8] T (0, 0))) : (w.heap[b]? = some (.cells #[x0, x1, x2, x3, x4, x5, x6, x7, x8] T (0, 0))) ∧ (∀ X0, (w.setCell ⟨b, 0, none⟩ X0).heap[b]? = some (.cells #[X0, x1, x2, x3, x4, x5, x6, x7, x8] T (0, 0))) ∧ (∀ X0 X1, ((w.setCell ⟨b, 0, none⟩ X0).setCell ⟨b, 1, none⟩ X1).heap[b]? = some (.cells #[X0, X1, x2, x3, x4, x5, x6, x7, x8] T (0, 0))) ∧ (∀ X0 X1 X2, (((w.setCell ⟨b, 0, none⟩ X0).setCell ⟨b, 1, none⟩ X1).setCell ⟨b, 2, none⟩ X2).heap[b]? = some (.cells #[X0, X1, X2, x3, x4, x5, x6, x7, x8] T (0, 0))) ∧ (∀ X0 X1 X2 X3, ((((w.setCell ⟨b, 0, none⟩ X0).setCell ⟨b, 1, none⟩ X1).setCell ⟨b, 2, none⟩ X2).setCell ⟨b, 3, none⟩ X3).heap[b]? = some (.cells #[X0, X1, X2, X3, x4, x5, x6, x7, x8] T (0, 0))) ∧ (∀ X0 X1 X2 X3 X4, (((((w.setCell ⟨b, 0, none⟩ X0).setCell ⟨b, 1, none⟩ X1).setCell ⟨b, 2, none⟩ X2).setCell ⟨b, 3, none⟩ X3).setCell ⟨b, 4, none⟩ X4).heap[b]? = some (.cells #[X0, X1, X2, X3, X4, x5, x6, x7, x8] T (0, 0))) ∧ (∀ X0 X1 X2 X3 X4 X5, ((((((w.setCell ⟨b, 0, none⟩ X0).setCell ⟨b, 1, none⟩ X1).setCell ⟨b, 2, none⟩ X2).setCell ⟨b, 3, none⟩ X3).setCell ⟨b, 4, none⟩ X4).setCell ⟨b, 5, none⟩ X5).heap[b]? = some (.cells #[X0, X1, X2, X3, X4, X5, x6, x7, x8] T (0, 0))) ∧ (∀ X0 X1 X2 X3 X4 X5 X6, (((((((w.setCell ⟨b, 0, none⟩ X0).setCell ⟨b, 1, none⟩ X1).setCell ⟨b, 2, none⟩ X2).setCell ⟨b, 3, none⟩ X3).setCell ⟨b, 4, none⟩ X4).setCell ⟨b, 5, none⟩ X5).setCell ⟨b, 6, none⟩ X6).heap[b]? = some (.cells #[X0, X1, X2, X3, X4, X5, X6, x7, x8] T (0, 0))) ∧ (∀ X0 X1 X2 X3 X4 X5 X6 X7, ((((((((w.setCell ⟨b, 0, none⟩ X0).setCell ⟨b, 1, none⟩ X1).setCell ⟨b, 2, none⟩ X2).setCell ⟨b, 3, none⟩ X3).setCell ⟨b, 4, none⟩ X4).setCell ⟨b, 5, none⟩ X5).setCell ⟨b, 6, none⟩ X6).setCell ⟨b, 7, none⟩ X7).heap[b]? = some (.cells #[X0, X1, X2, X3, X4, X5, X6, X7, x8] T (0, 0))) ∧ (∀ X0 X1 X2 X3 X4 X5 X6 X7 X8, (((((((((w.setCell ⟨b, 0, none⟩ X0).setCell ⟨b, 1, none⟩ X1).setCell ⟨b, 2, none⟩ X2).setCell ⟨b, 3, none⟩ X3).setCell ⟨b, 4, none⟩ X4).setCell ⟨b, 5, none⟩ X5).setCell ⟨b, 6, none⟩ X6).setCell ⟨b, 7, none⟩ X7).setCell ⟨b, 8, none⟩ X8).heap[b]? = some (.cells #[X0, X1, X2, X3, X4, X5, X6, X7, X8] T (0, 0))) := by
 have h0 : w.heap[b]? = some (.cells #[x0, x1, x2, x3, x4, x5, x6, x7, x8] T (0, 0)) := h
 have h1 : ∀ X0, (w.setCell ⟨b, 0, none⟩ X0).heap[b]? = some (.cells #[X0, x1, x2, x3, x4, x5, x6, x7, x8] T (0, 0)) := fun X0 => (set_blk (h0) 0 X0).trans rfl
 have h2 : ∀ X0 X1, ((w.setCell ⟨b, 0, none⟩ X0).setCell ⟨b, 1, none⟩ X1).heap[b]? = some (.cells #[X0, X1, x2, x3, x4, x5, x6, x7, x8] T (0, 0)) := fun X0 X1 => (set_blk (h1 X0) 1 X1).trans rfl
 have h3 : ∀ X0 X1 X2, (((w.setCell ⟨b, 0, none⟩ X0).setCell ⟨b, 1, none⟩ X1).setCell ⟨b, 2, none⟩ X2).heap[b]? = some (.cells #[X0, X1, X2, x3, x4, x5, x6, x7, x8] T (0, 0)) := fun X0 X1 X2 => (set_blk (h2 X0 X1) 2 X2).trans rfl
 have h4 : ∀ X0 X1 X2 X3, ((((w.setCell ⟨b, 0, none⟩ X0).setCell ⟨b, 1, none⟩ X1).setCell ⟨b, 2, none⟩ X2).setCell ⟨b, 3, none⟩ X3).heap[b]? = some (.cells #[X0, X1, X2, X3, x4, x5, x6, x7, x8] T (0, 0)) := fun X0 X1 X2 X3 => (set_blk (h3 X0 X1 X2) 3 X3).trans rfl
 have h5 : ∀ X0 X1 X2 X3 X4, (((((w.setCell ⟨b, 0, none⟩ X0).setCell ⟨b, 1, none⟩ X1).setCell ⟨b, 2, none⟩ X2).setCell ⟨b, 3, none⟩ X3).setCell ⟨b, 4, none⟩ X4).heap[b]? = some (.cells #[X0, X1, X2, X3, X4, x5, x6, x7, x8] T (0, 0)) := fun X0 X1 X2 X3 X4 => (set_blk (h4 X0 X1 X2 X3) 4 X4).trans rfl
 have h6 : ∀ X0 X1 X2 X3 X4 X5, ((((((w.setCell ⟨b, 0, none⟩ X0).setCell ⟨b, 1, none⟩ X1).setCell ⟨b, 2, none⟩ X2).setCell ⟨b, 3, none⟩ X3).setCell ⟨b, 4, none⟩ X4).setCell ⟨b, 5, none⟩ X5).heap[b]? = some (.cells #[X0, X1, X2, X3, X4, X5, x6, x7, x8] T (0, 0)) := fun X0 X1 X2 X3 X4 X5 => (set_blk (h5 X0 X1 X2 X3 X4) 5 X5).trans rfl
 have h7 : ∀ X0 X1 X2 X3 X4 X5 X6, (((((((w.setCell ⟨b, 0, none⟩ X0).setCell ⟨b, 1, none⟩ X1).setCell ⟨b, 2, none⟩ X2).setCell ⟨b, 3, none⟩ X3).setCell ⟨b, 4, none⟩ X4).setCell ⟨b, 5, none⟩ X5).setCell ⟨b, 6, none⟩ X6).heap[b]? = some (.cells #[X0, X1, X2, X3, X4, X5, X6, x7, x8] T (0, 0)) := fun X0 X1 X2 X3 X4 X5 X6 => (set_blk (h6 X0 X1 X2 X3 X4 X5) 6 X6).trans rfl
 have h8 : ∀ X0 X1 X2 X3 X4 X5 X6 X7, ((((((((w.setCell ⟨b, 0, none⟩ X0).setCell ⟨b, 1, none⟩ X1).setCell ⟨b, 2, none⟩ X2).setCell ⟨b, 3, none⟩ X3).setCell ⟨b, 4, none⟩ X4).setCell ⟨b, 5, none⟩ X5).setCell ⟨b, 6, none⟩ X6).setCell ⟨b, 7, none⟩ X7).heap[b]? = some (.cells #[X0, X1, X2, X3, X4, X5, X6, X7, x8] T (0, 0)) := fun X0 X1 X2 X3 X4 X5 X6 X7 => (set_blk (h7 X0 X1 X2 X3 X4 X5 X6) 7 X7).trans rfl
 have h9 : ∀ X0 X1 X2 X3 X4 X5 X6 X7 X8, (((((((((w.setCell ⟨b, 0, none⟩ X0).setCell ⟨b, 1, none⟩ X1).setCell ⟨b, 2, none⟩ X2).setCell ⟨b, 3, none⟩ X3).setCell ⟨b, 4, none⟩ X4).setCell ⟨b, 5, none⟩ X5).setCell ⟨b, 6, none⟩ X6).setCell ⟨b, 7, none⟩ X7).setCell ⟨b, 8, none⟩ X8).heap[b]? = some (.cells #[X0, X1, X2, X3, X4, X5, X6, X7, X8] T (0, 0)) := fun X0 X1 X2 X3 X4 X5 X6 X7 X8 => (set_blk (h8 X0 X1 X2 X3 X4 X5 X6 X7) 8 X8).trans rfl
 exact ⟨h0, h1, h2, h3, h4, h5, h6, h7, h8, h9⟩
theorem laid9_cells {w : World} {b : Nat} {x0 x1 x2 x3 x4 x5 x6 x7 x8 : Value} {T : TypeId} (h : w.heap[b]? = some (.cells #[x0, x1, x2, x3, x4, x5, x6, x7, x8] T (0, 0))) : (w.cell? ⟨b, 0, none⟩ = some x0) ∧ (∀ X0, (w.setCell ⟨b, 0, none⟩ X0).cell? ⟨b, 1, none⟩ = some x1) ∧ (∀ X0 X1, ((w.setCell ⟨b, 0, none⟩ X0).setCell ⟨b, 1, none⟩ X1).cell? ⟨b, 2, none⟩ = some x2) ∧ (∀ X0 X1 X2, (((w.setCell ⟨b, 0, none⟩ X0).setCell ⟨b, 1, none⟩ X1).setCell ⟨b, 2, none⟩ X2).cell? ⟨b, 3, none⟩ = some x3) ∧ (∀ X0 X1 X2 X3, ((((w.setCell ⟨b, 0, none⟩ X0).setCell ⟨b, 1, none⟩ X1).setCell ⟨b, 2, none⟩ X2).setCell ⟨b, 3, none⟩ X3).cell? ⟨b, 4, none⟩ = some x4) ∧ (∀ X0 X1 X2 X3 X4, (((((w.setCell ⟨b, 0, none⟩ X0).setCell ⟨b, 1, none⟩ X1).setCell ⟨b, 2, none⟩ X2).setCell ⟨b, 3, none⟩ X3).setCell ⟨b, 4, none⟩ X4).cell? ⟨b, 5, none⟩ = some x5) ∧ (∀ X0 X1 X2 X3 X4 X5, ((((((w.setCell ⟨b, 0, none⟩ X0).setCell ⟨b, 1, none⟩ X1).setCell ⟨b, 2, none⟩ X2).setCell ⟨b, 3, none⟩ X3).setCell ⟨b, 4, none⟩ X4).setCell ⟨b, 5, none⟩ X5).cell? ⟨b, 6, none⟩ = some x6) ∧ (∀ X0 X1 X2 X3 X4 X5 X6, (((((((w.setCell ⟨b, 0, none⟩ X0).setCell ⟨b, 1, none⟩ X1).setCell ⟨b, 2, none⟩ X2).setCell ⟨b, 3, none⟩ X3).setCell ⟨b, 4, none⟩ X4).setCell ⟨b, 5, none⟩ X5).setCell ⟨b, 6, none⟩ X6).cell? ⟨b, 7, none⟩ = some x7) ∧ (∀ X0 X1 X2 X3 X4 X5 X6 X7, ((((((((w.setCell ⟨b, 0, none⟩ X0).setCell ⟨b, 1, none⟩ X1).setCell ⟨b, 2, none⟩ X2).setCell ⟨b, 3, none⟩ X3).setCell ⟨b, 4, none⟩ X4).setCell ⟨b, 5, none⟩ X5).setCell ⟨b, 6, none⟩ X6).setCell ⟨b, 7, none⟩ X7).cell? ⟨b, 8, none⟩ = some x8) ∧ (∀ o, w.frozen? ⟨b, o, none⟩ = false) ∧ (∀ X0, ∀ o, (w.setCell ⟨b, 0, none⟩ X0).frozen? ⟨b, o, none⟩ = false) ∧ (∀ X0 X1, ∀ o, ((w.setCell ⟨b, 0, none⟩ X0).setCell ⟨b, 1, none⟩ X1).frozen? ⟨b, o, none⟩ = false) ∧ (∀ X0 X1 X2, ∀ o, (((w.setCell ⟨b, 0, none⟩ X0).setCell ⟨b, 1, none⟩ X1).setCell ⟨b, 2, none⟩ X2).frozen? ⟨b, o, none⟩ = false) ∧ (∀ X0 X1 X2 X3, ∀ o, ((((w.setCell ⟨b, 0, none⟩ X0).setCell ⟨b, 1, none⟩ X1).setCell ⟨b, 2, none⟩ X2).setCell ⟨b, 3, none⟩ X3).frozen? ⟨b, o, none⟩ = false) ∧ (∀ X0 X1 X2 X3 X4, ∀ o, (((((w.setCell ⟨b, 0, none⟩ X0).setCell ⟨b, 1, none⟩ X1).setCell ⟨b, 2, none⟩ X2).setCell ⟨b, 3, none⟩ X3).setCell ⟨b, 4, none⟩ X4).frozen? ⟨b, o, none⟩ = false) ∧ (∀ X0 X1 X2 X3 X4 X5, ∀ o, ((((((w.setCell ⟨b, 0, none⟩ X0).setCell ⟨b, 1, none⟩ X1).setCell ⟨b, 2, none⟩ X2).setCell ⟨b, 3, none⟩ X3).setCell ⟨b, 4, none⟩ X4).setCell ⟨b, 5, none⟩ X5).frozen? ⟨b, o, none⟩ = false) ∧ (∀ X0 X1 X2 X3 X4 X5 X6, ∀ o, (((((((w.setCell ⟨b, 0, none⟩ X0).setCell ⟨b, 1, none⟩ X1).setCell ⟨b, 2, none⟩ X2).setCell ⟨b, 3, none⟩ X3).setCell ⟨b, 4, none⟩ X4).setCell ⟨b, 5, none⟩ X5).setCell ⟨b, 6, none⟩ X6).frozen? ⟨b, o, none⟩ = false) ∧ (∀ X0 X1 X2 X3 X4 X5 X6 X7, ∀ o, ((((((((w.setCell ⟨b, 0, none⟩ X0).setCell ⟨b, 1, none⟩ X1).setCell ⟨b, 2, none⟩ X2).setCell ⟨b, 3, none⟩ X3).setCell ⟨b, 4, none⟩ X4).setCell ⟨b, 5, none⟩ X5).setCell ⟨b, 6, none⟩ X6).setCell ⟨b, 7, none⟩ X7).frozen? ⟨b, o, none⟩ = false) := by
 obtain ⟨h0, h1, h2, h3, h4, h5, h6, h7, h8, h9⟩ := laid9_blk h
 exact ⟨by simp only [World.cell?, h0]; rfl, fun X0 => by simp only [World.cell?, h1]; rfl, fun X0 X1 => by simp only [World.cell?, h2]; rfl, fun X0 X1 X2 => by simp only [World.cell?, h3]; rfl, fun X0 X1 X2 X3 => by simp only [World.cell?, h4]; rfl, fun X0 X1 X2 X3 X4 => by simp only [World.cell?, h5]; rfl, fun X0 X1 X2 X3 X4 X5 => by simp only [World.cell?, h6]; rfl, fun X0 X1 X2 X3 X4 X5 X6 => by simp only [World.cell?, h7]; rfl, fun X0 X1 X2 X3 X4 X5 X6 X7 => by simp only [World.cell?, h8]; rfl, fun o => by simp only [World.frozen?, h0]; simp, fun X0 o => by simp only [World.frozen?, h1]; simp, fun X0 X1 o => by simp only [World.frozen?, h2]; simp, fun X0 X1 X2 o => by simp only [World.frozen?, h3]; simp, fun X0 X1 X2 X3 o => by simp only [World.frozen?, h4]; simp, fun X0 X1 X2 X3 X4 o => by simp only [World.frozen?, h5]; simp, fun X0 X1 X2 X3 X4 X5 o => by simp only [World.frozen?, h6]; simp, fun X0 X1 X2 X3 X4 X5 X6 o => by simp only [World.frozen?, h7]; simp, fun X0 X1 X2 X3 X4 X5 X6 X7 o => by simp only [World.frozen?, h8]; simp⟩
theorem laid9_read {w : World} {b : Nat} {x0 x1 x2 x3 x4 x5 x6 x7 x8 : Value} {T : TypeId} (h : w.heap[b]? = some (.cells #[x0, x1, x2, x3, x4, x5, x6, x7, x8] T (0, 0))) (X0 X1 X2 X3 X4 X5 X6 X7 X8 : Value) : (((((((((w.setCell ⟨b, 0, none⟩ X0).setCell ⟨b, 1, none⟩ X1).setCell ⟨b, 2, none⟩ X2).setCell ⟨b, 3, none⟩ X3).setCell ⟨b, 4, none⟩ X4).setCell ⟨b, 5, none⟩ X5).setCell ⟨b, 6, none⟩ X6).setCell ⟨b, 7, none⟩ X7).setCell ⟨b, 8, none⟩ X8).cell? ⟨b, 0, none⟩ = some X0 ∧ (((((((((w.setCell ⟨b, 0, none⟩ X0).setCell ⟨b, 1, none⟩ X1).setCell ⟨b, 2, none⟩ X2).setCell ⟨b, 3, none⟩ X3).setCell ⟨b, 4, none⟩ X4).setCell ⟨b, 5, none⟩ X5).setCell ⟨b, 6, none⟩ X6).setCell ⟨b, 7, none⟩ X7).setCell ⟨b, 8, none⟩ X8).cell? ⟨b, 1, none⟩ = some X1 ∧ (((((((((w.setCell ⟨b, 0, none⟩ X0).setCell ⟨b, 1, none⟩ X1).setCell ⟨b, 2, none⟩ X2).setCell ⟨b, 3, none⟩ X3).setCell ⟨b, 4, none⟩ X4).setCell ⟨b, 5, none⟩ X5).setCell ⟨b, 6, none⟩ X6).setCell ⟨b, 7, none⟩ X7).setCell ⟨b, 8, none⟩ X8).cell? ⟨b, 2, none⟩ = some X2 ∧ (((((((((w.setCell ⟨b, 0, none⟩ X0).setCell ⟨b, 1, none⟩ X1).setCell ⟨b, 2, none⟩ X2).setCell ⟨b, 3, none⟩ X3).setCell ⟨b, 4, none⟩ X4).setCell ⟨b, 5, none⟩ X5).setCell ⟨b, 6, none⟩ X6).setCell ⟨b, 7, none⟩ X7).setCell ⟨b, 8, none⟩ X8).cell? ⟨b, 3, none⟩ = some X3 ∧ (((((((((w.setCell ⟨b, 0, none⟩ X0).setCell ⟨b, 1, none⟩ X1).setCell ⟨b, 2, none⟩ X2).setCell ⟨b, 3, none⟩ X3).setCell ⟨b, 4, none⟩ X4).setCell ⟨b, 5, none⟩ X5).setCell ⟨b, 6, none⟩ X6).setCell ⟨b, 7, none⟩ X7).setCell ⟨b, 8, none⟩ X8).cell? ⟨b, 4, none⟩ = some X4 ∧ (((((((((w.setCell ⟨b, 0, none⟩ X0).setCell ⟨b, 1, none⟩ X1).setCell ⟨b, 2, none⟩ X2).setCell ⟨b, 3, none⟩ X3).setCell ⟨b, 4, none⟩ X4).setCell ⟨b, 5, none⟩ X5).setCell ⟨b, 6, none⟩ X6).setCell ⟨b, 7, none⟩ X7).setCell ⟨b, 8, none⟩ X8).cell? ⟨b, 5, none⟩ = some X5 ∧ (((((((((w.setCell ⟨b, 0, none⟩ X0).setCell ⟨b, 1, none⟩ X1).setCell ⟨b, 2, none⟩ X2).setCell ⟨b, 3, none⟩ X3).setCell ⟨b, 4, none⟩ X4).setCell ⟨b, 5, none⟩ X5).setCell ⟨b, 6, none⟩ X6).setCell ⟨b, 7, none⟩ X7).setCell ⟨b, 8, none⟩ X8).cell? ⟨b, 6, none⟩ = some X6 ∧ (((((((((w.setCell ⟨b, 0, none⟩ X0).setCell ⟨b, 1, none⟩ X1).setCell ⟨b, 2, none⟩ X2).setCell ⟨b, 3, none⟩ X3).setCell ⟨b, 4, none⟩ X4).setCell ⟨b, 5, none⟩ X5).setCell ⟨b, 6, none⟩ X6).setCell ⟨b, 7, none⟩ X7).setCell ⟨b, 8, none⟩ X8).cell? ⟨b, 7, none⟩ = some X7 ∧ (((((((((w.setCell ⟨b, 0, none⟩ X0).setCell ⟨b, 1, none⟩ X1).setCell ⟨b, 2, none⟩ X2).setCell ⟨b, 3, none⟩ X3).setCell ⟨b, 4, none⟩ X4).setCell ⟨b, 5, none⟩ X5).setCell ⟨b, 6, none⟩ X6).setCell ⟨b, 7, none⟩ X7).setCell ⟨b, 8, none⟩ X8).cell? ⟨b, 8, none⟩ = some X8 := by
 obtain ⟨_, _, _, _, _, _, _, _, _, h9⟩ := laid9_blk h
 have := h9 X0 X1 X2 X3 X4 X5 X6 X7 X8
 exact ⟨by simp only [World.cell?, this]; rfl, by simp only [World.cell?, this]; rfl, by simp only [World.cell?, this]; rfl, by simp only [World.cell?, this]; rfl, by simp only [World.cell?, this]; rfl, by simp only [World.cell?, this]; rfl, by simp only [World.cell?, this]; rfl, by simp only [World.cell?, this]; rfl, by simp only [World.cell?, this]; rfl⟩
theorem laid9_below {B : Nat} {w0 w : World} (hb : Below B w0 w) {b : Nat} (hl : B ≤ b) (X0 X1 X2 X3 X4 X5 X6 X7 X8 : Value) : Below B w0 (((((((((w.setCell ⟨b, 0, none⟩ X0).setCell ⟨b, 1, none⟩ X1).setCell ⟨b, 2, none⟩ X2).setCell ⟨b, 3, none⟩ X3).setCell ⟨b, 4, none⟩ X4).setCell ⟨b, 5, none⟩ X5).setCell ⟨b, 6, none⟩ X6).setCell ⟨b, 7, none⟩ X7).setCell ⟨b, 8, none⟩ X8) := (((((((((hb.setCell (p := ⟨b, 0, none⟩) hl X0).setCell (p := ⟨b, 1, none⟩) hl X1).setCell (p := ⟨b, 2, none⟩) hl X2).setCell (p := ⟨b, 3, none⟩) hl X3).setCell (p := ⟨b, 4, none⟩) hl X4).setCell (p := ⟨b, 5, none⟩) hl X5).setCell (p := ⟨b, 6, none⟩) hl X6).setCell (p := ⟨b, 7, none⟩) hl X7).setCell (p := ⟨b, 8, none⟩) hl X8)
theorem laid9_keep (w : World) {b k : Nat} (hk : k ≠ b) (X0 X1 X2 X3 X4 X5 X6 X7 X8 : Value) : (((((((((w.setCell ⟨b, 0, none⟩ X0).setCell ⟨b, 1, none⟩ X1).setCell ⟨b, 2, none⟩ X2).setCell ⟨b, 3, none⟩ X3).setCell ⟨b, 4, none⟩ X4).setCell ⟨b, 5, none⟩ X5).setCell ⟨b, 6, none⟩ X6).setCell ⟨b, 7, none⟩ X7).setCell ⟨b, 8, none⟩ X8).heap[k]? = w.heap[k]? := ((Below.heap_setCell _ ⟨b, 8, none⟩ _ k hk).trans ((Below.heap_setCell _ ⟨b, 7, none⟩ _ k hk).trans ((Below.heap_setCell _ ⟨b, 6, none⟩ _ k hk).trans ((Below.heap_setCell _ ⟨b, 5, none⟩ _ k hk).trans ((Below.heap_setCell _ ⟨b, 4, none⟩ _ k hk).trans ((Below.heap_setCell _ ⟨b, 3, none⟩ _ k hk).trans ((Below.heap_setCell _ ⟨b, 2, none⟩ _ k hk).trans ((Below.heap_setCell _ ⟨b, 1, none⟩ _ k hk).trans ((Below.heap_setCell _ ⟨b, 0, none⟩ _ k hk))))))))))
theorem sbegin_any (w : World) (hK : KwIn w) (s : Sch) (ur us ug : Value) (hS : SchR w s ur us ug) (hM : Small s) (a id bd : Tx) (hx : id.length ≤ 1000000) (hb : bd.length ≤ 1000000) (fr : Int) :
  Calls Tryz.prog 68 #[.agg #[sT s.name, ur, us, ug], sT a, sT id, iV fr, sT bd] w fun x w' => (∃ (r : Run) (l : Array Value) (e : Nat), LetV l ∧ x = .returned (.tuple #[.agg (runC r), .agg l, iV (e : Nat)])) ∧ Below w.heap.size w w' := by
 have HL := zD (fun W (h : Below w.heap.size w W) => call_any W (hK.below h) s ur us ug (hS.below h) hM a id hx 0 false fr (bT bd))
 have HA := zD (fun W (h : Below w.heap.size w W) => sarg_any W (hK.below h) s ur us ug (hS.below h) hM a bd hb)
 generalize callE s a id 0 false fr = CE at *
 generalize argA s a bd = AE at *
 clear hK hM hS
 go_enter Tryz.func68, Tryz.ntmps68
 go_upto_region 1 with (fail)
 generalize hwa : (((w.alloc (.cells #[sT s.name, ur, us, ug] 26)).alloc (.cells #[eS, eS, eS, iV 0, .int .u8 0, iV 0, .bool false, iV 0, eS] 53)).alloc (.cells #[.int .u8 0, iV 0, iV 0, .int .u64 0, eS, .int .u64 0, eS, eS, iV 0, eS] 63)) = wa
 have HBa := zD (show Below w.heap.size w wa from hwa ▸ (((Below.refl _ w).alloc zn _).alloc (by simp) _).alloc (by simp; omega) _)
 obtain ⟨hXa, hYa, hZa⟩ := heap3 w #[sT s.name, ur, us, ug] #[eS, eS, eS, iV 0, .int .u8 0, iV 0, .bool false, iV 0, eS] #[.int .u8 0, iV 0, iV 0, .int .u64 0, eS, .int .u64 0, eS, eS, iV 0, eS] (a := 26) (b := 53) (c := 63)
 rw [hwa] at hXa hYa hZa
 have HXa := zD hXa
 have HYa := zD hYa
 have HZa := zD hZa
 have hza : wa.heap.size = w.heap.size + 3 := by rw [← hwa]; simp
 have HZA := zD hza
 clear hwa hza hXa hYa hZa
 have x0 := zF HXa 0 rfl
 have x1 := zF HXa 1 rfl
 have x2 := zF HXa 2 rfl
 have x3 := zF HXa 3 rfl
 go_wp2_with fail
 refine (HL.out wa HBa.out).mono ?_
 rintro e w2 ⟨⟨kd, f, tt, p, c, k, sv, mt, b, rfl⟩, hb2⟩
 have HX2 := zD ((hb2.block _ (by have := HZA.out; omega)).trans HXa.out)
 have HY2 := zD ((hb2.block _ (by have := HZA.out; omega)).trans HYa.out)
 have HZ2 := zD ((hb2.block _ (by have := HZA.out; omega)).trans HZa.out)
 have HB2 := zT HBa hb2
 have hl2 : wa.heap.size ≤ w2.heap.size := hb2.size
 have hl2 : w.heap.size + 3 ≤ w2.heap.size := by have := HZA.out; omega
 clear hb2 x0 x1 x2 x3 HL
 go_upto_region 2 with (fail)
 generalize hw3 : w2.alloc (.cells #[.int .u8 kd, iV f, iV tt, .int .u64 0, .string k, .int .u64 p, .string sv, .string mt, iV c, .string b] 63) = w3 at *
 have HB3 := zD (show Below w.heap.size w w3 from hw3 ▸ HB2.out.alloc HB2.out.size _)
 have HX3 := zD (show w3.heap[w.heap.size]? = some (.cells #[sT s.name, ur, us, ug] 26 (0, 0)) from hw3 ▸ (Below.heap_alloc w2 (.cells #[.int .u8 kd, iV f, iV tt, .int .u64 0, .string k, .int .u64 p, .string sv, .string mt, iV c, .string b] 63) _ (by omega)).trans HX2.out)
 have HY3 := zD (show w3.heap[w.heap.size + 1]? = some (.cells #[eS, eS, eS, iV 0, .int .u8 0, iV 0, .bool false, iV 0, eS] 53 (0, 0)) from hw3 ▸ (Below.heap_alloc w2 (.cells #[.int .u8 kd, iV f, iV tt, .int .u64 0, .string k, .int .u64 p, .string sv, .string mt, iV c, .string b] 63) _ (by omega)).trans HY2.out)
 have HZ3 := zD (show w3.heap[w.heap.size + 1 + 1]? = some (.cells #[.int .u8 0, iV 0, iV 0, .int .u64 0, eS, .int .u64 0, eS, eS, iV 0, eS] 63 (0, 0)) from hw3 ▸ (Below.heap_alloc w2 (.cells #[.int .u8 kd, iV f, iV tt, .int .u64 0, .string k, .int .u64 p, .string sv, .string mt, iV c, .string b] 63) _ (by omega)).trans HZ2.out)
 have HL3 := zD (show w3.heap[w2.heap.size]? = some (.cells #[.int .u8 kd, iV f, iV tt, .int .u64 0, .string k, .int .u64 p, .string sv, .string mt, iV c, .string b] 63 (0, 0)) from hw3 ▸ zw w2 _)
 have hl3 : w2.heap.size < w3.heap.size := (zq HL3.out).1
 clear hw3 HX2 HY2 HZ2
 by_cases hce : CE = 0
 case neg =>
  have d0 : ((CE : Int) == 0) = false := by simp; omega
  have d1 : ((CE : Int) != 0) = true := by simp; omega
  obtain ⟨a0, a1, a2, a3, a4, a5, a6, a7, a8, f0, f1, f2, f3, f4, f5, f6, f7, f8⟩ := laid9_cells HY3.out; have HZp := zD ((laid9_keep w3 (k := w.heap.size + 1 + 1) (b := w.heap.size + 1) (by omega) (eS) (eS) (eS) (iV 0) (.int .u8 0) (iV 0) (.bool false) (iV 0) (eS)).trans HZ3.out); obtain ⟨b0, b1, b2, b3, b4, b5, b6, b7, b8, b9, g0, g1, g2, g3, g4, g5, g6, g7, g8, g9⟩ := laid10_cells HZp.out; obtain ⟨c0, c1, c2, c3, c4, c5, c6, c7, c8⟩ := laid9_read HY3.out (eS) (eS) (eS) (iV 0) (.int .u8 0) (iV 0) (.bool false) (iV 0) (eS); obtain ⟨m0, m1, m2, m3, m4, m5, m6, m7, m8, m9⟩ := laid10_read HZp.out (.int .u8 0) (iV 0) (iV 0) (.int .u64 0) (eS) (.int .u64 0) (eS) (eS) (iV 0) (eS); have qk := fun W => laid10_keep W (k := w.heap.size + 1) (b := w.heap.size + 1 + 1) (by omega) (.int .u8 0) (iV 0) (iV 0) (.int .u64 0) (eS) (.int .u64 0) (eS) (eS) (iV 0) (eS)
  have n0 := (zk (a := ⟨w.heap.size + 1, 0, none⟩) (qk _)).trans c0; have n1 := (zk (a := ⟨w.heap.size + 1, 1, none⟩) (qk _)).trans c1; have n2 := (zk (a := ⟨w.heap.size + 1, 2, none⟩) (qk _)).trans c2; have n3 := (zk (a := ⟨w.heap.size + 1, 3, none⟩) (qk _)).trans c3; have n4 := (zk (a := ⟨w.heap.size + 1, 4, none⟩) (qk _)).trans c4; have n5 := (zk (a := ⟨w.heap.size + 1, 5, none⟩) (qk _)).trans c5; have n6 := (zk (a := ⟨w.heap.size + 1, 6, none⟩) (qk _)).trans c6; have n7 := (zk (a := ⟨w.heap.size + 1, 7, none⟩) (qk _)).trans c7; have n8 := (zk (a := ⟨w.heap.size + 1, 8, none⟩) (qk _)).trans c8; have HWf := zD (laid10_below (laid9_below HB3.out (show w.heap.size ≤ w.heap.size + 1 by omega) (eS) (eS) (eS) (iV 0) (.int .u8 0) (iV 0) (.bool false) (iV 0) (eS)) (show w.heap.size ≤ w.heap.size + 1 + 1 by omega) (.int .u8 0) (iV 0) (iV 0) (.int .u64 0) (eS) (.int .u64 0) (eS) (eS) (iV 0) (eS)); go_wp2_with fail; exact bodyPost_ret (v := .tuple #[.agg #[eS, eS, eS, iV 0, .int .u8 0, iV 0, .bool false, iV 0, eS], .agg #[.int .u8 0, iV 0, iV 0, .int .u64 0, eS, .int .u64 0, eS, eS, iV 0, eS], iV (CE : Nat)]) (by simp [results, Tryz.results68, go_sem, n0, n1, n2, n3, n4, n5, n6, n7, n8, m0, m1, m2, m3, m4, m5, m6, m7, m8, m9]) rfl ⟨⟨⟨[], [], [], 0, 0, 0, false, 0, []⟩, _, CE, ⟨_, _, _, _, _, _, _, _, _, _, rfl⟩, rfl⟩, HWf.out⟩
 subst hce
 have d0 : (((0 : Nat) : Int) == 0) = true := by decide
 have x0 := zF HX3 0 rfl
 have x1 := zF HX3 1 rfl
 have x2 := zF HX3 2 rfl
 have x3 := zF HX3 3 rfl
 go_wp2_with fail
 refine (HA.out w3 HB3.out).mono ?_
 rintro e w4 ⟨rfl, hb4⟩
 have HX4 := zD ((hb4.block _ (by omega)).trans HX3.out)
 have HY4 := zD ((hb4.block _ (by omega)).trans HY3.out)
 have HZ4 := zD ((hb4.block _ (by omega)).trans HZ3.out)
 have HL4 := zD ((hb4.block _ (by omega)).trans HL3.out)
 have HB4 := zT HB3 hb4
 clear hb4 x0 x1 x2 x3 HA HX3 HY3 HZ3 HL3 HB3
 by_cases hae : AE = 0
 case neg =>
  have d1 : ((AE : Int) != 0) = true := by simp; omega
  obtain ⟨a0, a1, a2, a3, a4, a5, a6, a7, a8, f0, f1, f2, f3, f4, f5, f6, f7, f8⟩ := laid9_cells HY4.out; have HZp := zD ((laid9_keep w4 (k := w.heap.size + 1 + 1) (b := w.heap.size + 1) (by omega) (eS) (eS) (eS) (iV 0) (.int .u8 0) (iV 0) (.bool false) (iV 0) (eS)).trans HZ4.out); obtain ⟨b0, b1, b2, b3, b4, b5, b6, b7, b8, b9, g0, g1, g2, g3, g4, g5, g6, g7, g8, g9⟩ := laid10_cells HZp.out; obtain ⟨c0, c1, c2, c3, c4, c5, c6, c7, c8⟩ := laid9_read HY4.out (eS) (eS) (eS) (iV 0) (.int .u8 0) (iV 0) (.bool false) (iV 0) (eS); obtain ⟨m0, m1, m2, m3, m4, m5, m6, m7, m8, m9⟩ := laid10_read HZp.out (.int .u8 0) (iV 0) (iV 0) (.int .u64 0) (eS) (.int .u64 0) (eS) (eS) (iV 0) (eS); have qk := fun W => laid10_keep W (k := w.heap.size + 1) (b := w.heap.size + 1 + 1) (by omega) (.int .u8 0) (iV 0) (iV 0) (.int .u64 0) (eS) (.int .u64 0) (eS) (eS) (iV 0) (eS)
  have n0 := (zk (a := ⟨w.heap.size + 1, 0, none⟩) (qk _)).trans c0; have n1 := (zk (a := ⟨w.heap.size + 1, 1, none⟩) (qk _)).trans c1; have n2 := (zk (a := ⟨w.heap.size + 1, 2, none⟩) (qk _)).trans c2; have n3 := (zk (a := ⟨w.heap.size + 1, 3, none⟩) (qk _)).trans c3; have n4 := (zk (a := ⟨w.heap.size + 1, 4, none⟩) (qk _)).trans c4; have n5 := (zk (a := ⟨w.heap.size + 1, 5, none⟩) (qk _)).trans c5; have n6 := (zk (a := ⟨w.heap.size + 1, 6, none⟩) (qk _)).trans c6; have n7 := (zk (a := ⟨w.heap.size + 1, 7, none⟩) (qk _)).trans c7; have n8 := (zk (a := ⟨w.heap.size + 1, 8, none⟩) (qk _)).trans c8; have HWf := zD (laid10_below (laid9_below HB4.out (show w.heap.size ≤ w.heap.size + 1 by omega) (eS) (eS) (eS) (iV 0) (.int .u8 0) (iV 0) (.bool false) (iV 0) (eS)) (show w.heap.size ≤ w.heap.size + 1 + 1 by omega) (.int .u8 0) (iV 0) (iV 0) (.int .u64 0) (eS) (.int .u64 0) (eS) (eS) (iV 0) (eS)); go_wp2_with fail; exact bodyPost_ret (v := .tuple #[.agg #[eS, eS, eS, iV 0, .int .u8 0, iV 0, .bool false, iV 0, eS], .agg #[.int .u8 0, iV 0, iV 0, .int .u64 0, eS, .int .u64 0, eS, eS, iV 0, eS], iV (AE : Nat)]) (by simp [results, Tryz.results68, go_sem, n0, n1, n2, n3, n4, n5, n6, n7, n8, m0, m1, m2, m3, m4, m5, m6, m7, m8, m9]) rfl ⟨⟨⟨[], [], [], 0, 0, 0, false, 0, []⟩, _, AE, ⟨_, _, _, _, _, _, _, _, _, _, rfl⟩, rfl⟩, HWf.out⟩
 subst hae
 have d1 : (((0 : Nat) : Int) != 0) = false := by decide
 go_upto_region 6 with (fail)
 clear HX4
 have y0 := zF HL4 0 rfl
 have y1 := zF HL4 1 rfl
 have y2 := zF HL4 2 rfl
 have y3 := zF HL4 3 rfl
 have y4 := zF HL4 4 rfl
 have y5 := zF HL4 5 rfl
 have y6 := zF HL4 6 rfl
 have y7 := zF HL4 7 rfl
 have y8 := zF HL4 8 rfl
 have y9 := zF HL4 9 rfl
 have u0 := zF HY4 0 rfl
 have u1 := zF HY4 1 rfl
 have u2 := zF HY4 2 rfl
 have u3 := zF HY4 3 rfl
 have u4 := zF HY4 4 rfl
 have u5 := zF HY4 5 rfl
 have u6 := zF HY4 6 rfl
 have u7 := zF HY4 7 rfl
 have u8 := zF HY4 8 rfl
 have v0 := zF HZ4 0 rfl
 have v1 := zF HZ4 1 rfl
 have v2 := zF HZ4 2 rfl
 have v3 := zF HZ4 3 rfl
 have v4 := zF HZ4 4 rfl
 have v5 := zF HZ4 5 rfl
 have v6 := zF HZ4 6 rfl
 have v7 := zF HZ4 7 rfl
 have v8 := zF HZ4 8 rfl
 have v9 := zF HZ4 9 rfl
 have fzY : ∀ o, w4.frozen? ⟨w.heap.size + 1, o, none⟩ = false := fun o => by simp [World.frozen?, HY4.out]
 have fzZ : ∀ o, w4.frozen? ⟨w.heap.size + 1 + 1, o, none⟩ = false := fun o => by simp [World.frozen?, HZ4.out]
 have fzL : ∀ o, w4.frozen? ⟨w2.heap.size, o, none⟩ = false := fun o => by simp [World.frozen?, HL4.out]
 have e1 : w2.heap.size ≠ w.heap.size + 1 := by omega
 have e2 : w2.heap.size ≠ w.heap.size + 1 + 1 := by omega
 have e3 : w.heap.size + 1 ≠ w2.heap.size := by omega
 have e4 : w.heap.size + 1 + 1 ≠ w2.heap.size := by omega
 have e5 : w.heap.size + 1 + 1 ≠ w.heap.size + 1 := by omega
 have e6 : w.heap.size + 1 ≠ w.heap.size + 1 + 1 := by omega
 go_region
 obtain ⟨a0, a1, a2, a3, a4, a5, a6, a7, a8, f0, f1, f2, f3, f4, f5, f6, f7, f8⟩ := laid9_cells HY4.out
 have HZp := zD ((laid9_keep w4 (k := w.heap.size + 1 + 1) (b := w.heap.size + 1) (by omega) (sT id) (sT a) (sT bd) (iV 0) (.int .u8 1) (iV 0) (.bool false) (iV 0) (eS)).trans HZ4.out)
 obtain ⟨b0, b1, b2, b3, b4, b5, b6, b7, b8, b9, g0, g1, g2, g3, g4, g5, g6, g7, g8, g9⟩ := laid10_cells HZp.out
 obtain ⟨c0, c1, c2, c3, c4, c5, c6, c7, c8⟩ := laid9_read HY4.out (sT id) (sT a) (sT bd) (iV 0) (.int .u8 1) (iV 0) (.bool false) (iV 0) (eS)
 obtain ⟨m0, m1, m2, m3, m4, m5, m6, m7, m8, m9⟩ := laid10_read HZp.out (.int .u8 kd) (iV f) (iV tt) (.int .u64 0) (.string k) (.int .u64 p) (.string sv) (.string mt) (iV c) (.string b)
 have qk := fun W => laid10_keep W (k := w.heap.size + 1) (b := w.heap.size + 1 + 1) (by omega) (.int .u8 kd) (iV f) (iV tt) (.int .u64 0) (.string k) (.int .u64 p) (.string sv) (.string mt) (iV c) (.string b)
 have n0 := (zk (a := ⟨w.heap.size + 1, 0, none⟩) (qk _)).trans c0
 have n1 := (zk (a := ⟨w.heap.size + 1, 1, none⟩) (qk _)).trans c1
 have n2 := (zk (a := ⟨w.heap.size + 1, 2, none⟩) (qk _)).trans c2
 have n3 := (zk (a := ⟨w.heap.size + 1, 3, none⟩) (qk _)).trans c3
 have n4 := (zk (a := ⟨w.heap.size + 1, 4, none⟩) (qk _)).trans c4
 have n5 := (zk (a := ⟨w.heap.size + 1, 5, none⟩) (qk _)).trans c5
 have n6 := (zk (a := ⟨w.heap.size + 1, 6, none⟩) (qk _)).trans c6
 have n7 := (zk (a := ⟨w.heap.size + 1, 7, none⟩) (qk _)).trans c7
 have n8 := (zk (a := ⟨w.heap.size + 1, 8, none⟩) (qk _)).trans c8
 have HWf := zD (laid10_below (laid9_below HB4.out (show w.heap.size ≤ w.heap.size + 1 by omega) (sT id) (sT a) (sT bd) (iV 0) (.int .u8 1) (iV 0) (.bool false) (iV 0) (eS)) (show w.heap.size ≤ w.heap.size + 1 + 1 by omega) (.int .u8 kd) (iV f) (iV tt) (.int .u64 0) (.string k) (.int .u64 p) (.string sv) (.string mt) (iV c) (.string b))
 go_wp2_with fail
 exact bodyPost_ret (v := .tuple #[.agg #[sT id, sT a, sT bd, iV 0, .int .u8 1, iV 0, .bool false, iV 0, eS], .agg #[.int .u8 kd, iV f, iV tt, .int .u64 0, .string k, .int .u64 p, .string sv, .string mt, iV c, .string b], iV 0]) (by simp [results, Tryz.results68, go_sem, n0, n1, n2, n3, n4, n5, n6, n7, n8, m0, m1, m2, m3, m4, m5, m6, m7, m8, m9]) rfl ⟨⟨⟨id, a, bd, 0, 1, 0, false, 0, []⟩, _, 0, ⟨_, _, _, _, _, _, _, _, _, _, rfl⟩, rfl⟩, HWf.out.drew⟩
def StopR (r q : Run) (e : Nat) : Prop := e = 0 → r.ph = 1 ∧ q.id = r.id
theorem heap4 (w : World) (x y z v : Array Value) {a b c d : TypeId} : ((((w.alloc (.cells x a)).alloc (.cells y b)).alloc (.cells z c)).alloc (.cells v d)).heap[w.heap.size]? = some (.cells x a (0, 0)) ∧ ((((w.alloc (.cells x a)).alloc (.cells y b)).alloc (.cells z c)).alloc (.cells v d)).heap[w.heap.size + 1]? = some (.cells y b (0, 0)) ∧ ((((w.alloc (.cells x a)).alloc (.cells y b)).alloc (.cells z c)).alloc (.cells v d)).heap[w.heap.size + 2]? = some (.cells z c (0, 0)) ∧ ((((w.alloc (.cells x a)).alloc (.cells y b)).alloc (.cells z c)).alloc (.cells v d)).heap[w.heap.size + 3]? = some (.cells v d (0, 0)) := by
 obtain ⟨h1, h2, h3⟩ := heap3 w x y z (a := a) (b := b) (c := c)
 refine ⟨(Below.heap_alloc _ _ _ (by simp; omega)).trans h1, (Below.heap_alloc _ _ _ (by simp)).trans h2, (Below.heap_alloc _ _ _ (by simp)).trans h3, ?_⟩
 have h := zw (((w.alloc (.cells x a)).alloc (.cells y b)).alloc (.cells z c)) (.cells v d)
 rwa [show (((w.alloc (.cells x a)).alloc (.cells y b)).alloc (.cells z c)).heap.size = w.heap.size + 3 by simp] at h
theorem sstop_any (w : World) (hK : KwIn w) (s : Sch) (ur us ug : Value) (hS : SchR w s ur us ug) (hM : Small s) (r : Run) (hR : RunSmall r) (fr : Int) :
  Calls Tryz.prog 73 #[.agg #[sT s.name, ur, us, ug], .agg (runC r), iV fr] w fun x w' => (∃ (q : Run) (l : Array Value) (e : Nat), LetV l ∧ x = .returned (.tuple #[.agg (runC q), .agg l, iV (e : Nat)]) ∧ StopR r q e) ∧ Below w.heap.size w w' := by
 have HRI := zD (fun W (h : Below w.heap.size w W) => sright_any W (hK.below h) s ur us ug (hS.below h) hM r hR)
 have HCA := zD (fun W (h : Below w.heap.size w W) => cancel_any W (hK.below h) s ur us ug (hS.below h) hM r.sg r.id (by have := hR.id; omega) r.at_ fr)
 generalize letE s r.sg r.id r.at_ fr = LE at *
 generalize rightR s r = RR at *
 clear hK hM hS hR
 obtain ⟨id, sg, arg, at_, ph, tr, st, wh, vl⟩ := r
 dsimp only at HCA ⊢
 unfold runC at HRI ⊢
 dsimp only at HRI ⊢
 go_enter Tryz.func73, Tryz.ntmps73
 go_upto_region 1 with (fail)
 generalize hwa : ((((w.alloc (.cells #[sT s.name, ur, us, ug] 26)).alloc (.cells #[sT id, sT sg, sT arg, iV at_, .int .u8 (ph : Nat), iV tr, .bool st, iV wh, sT vl] 53)).alloc (.cells #[eS, eS, eS, iV 0, .int .u8 0, iV 0, .bool false, iV 0, eS] 53)).alloc (.cells #[.int .u8 0, iV 0, iV 0, .int .u64 0, eS, .int .u64 0, eS, eS, iV 0, eS] 63)) = wa
 have HBa := zD (show Below w.heap.size w wa from hwa ▸ ((((Below.refl _ w).alloc zn _).alloc (by simp) _).alloc (by simp; omega) _).alloc (by simp; omega) _)
 obtain ⟨hXa, hVa, hYa, hZa⟩ := heap4 w #[sT s.name, ur, us, ug] #[sT id, sT sg, sT arg, iV at_, .int .u8 (ph : Nat), iV tr, .bool st, iV wh, sT vl] #[eS, eS, eS, iV 0, .int .u8 0, iV 0, .bool false, iV 0, eS] #[.int .u8 0, iV 0, iV 0, .int .u64 0, eS, .int .u64 0, eS, eS, iV 0, eS] (a := 26) (b := 53) (c := 53) (d := 63)
 rw [hwa] at hXa hVa hYa hZa
 have HXa := zD hXa
 have HVa := zD hVa
 have HYa := zD hYa
 have HZa := zD hZa
 have hza : wa.heap.size = w.heap.size + 4 := by rw [← hwa]; simp
 have HZA := zD hza
 clear hwa hza hXa hVa hYa hZa
 have x0 := zF HXa 0 rfl
 have x1 := zF HXa 1 rfl
 have x2 := zF HXa 2 rfl
 have x3 := zF HXa 3 rfl
 have z0 := zF HVa 0 rfl
 have z1 := zF HVa 1 rfl
 have z2 := zF HVa 2 rfl
 have z3 := zF HVa 3 rfl
 have z4 := zF HVa 4 rfl
 have z5 := zF HVa 5 rfl
 have z6 := zF HVa 6 rfl
 have z7 := zF HVa 7 rfl
 have z8 := zF HVa 8 rfl
 go_wp2_with fail
 refine (HRI.out wa HBa.out).mono ?_
 rintro e w2 ⟨rfl, hb2⟩
 have HX2 := zD ((hb2.block _ (by have := HZA.out; omega)).trans HXa.out)
 have HV2 := zD ((hb2.block _ (by have := HZA.out; omega)).trans HVa.out)
 have HY2 := zD ((hb2.block _ (by have := HZA.out; omega)).trans HYa.out)
 have HZ2 := zD ((hb2.block _ (by have := HZA.out; omega)).trans HZa.out)
 have HB2 := zT HBa hb2
 have hl2 : w.heap.size + 4 ≤ w2.heap.size := by have := hb2.size; have := HZA.out; omega
 clear hb2 x0 x1 x2 x3 z0 z1 z2 z3 z4 z5 z6 z7 z8 HRI HXa HVa HYa HZa HZA
 cases RR with
 | false =>
  obtain ⟨a0, a1, a2, a3, a4, a5, a6, a7, a8, f0, f1, f2, f3, f4, f5, f6, f7, f8⟩ := laid9_cells HY2.out; have HZp := zD ((laid9_keep w2 (k := w.heap.size + 3) (b := w.heap.size + 2) (by omega) (eS) (eS) (eS) (iV 0) (.int .u8 0) (iV 0) (.bool false) (iV 0) (eS)).trans HZ2.out); obtain ⟨b0, b1, b2, b3, b4, b5, b6, b7, b8, b9, g0, g1, g2, g3, g4, g5, g6, g7, g8, g9⟩ := laid10_cells HZp.out; obtain ⟨c0, c1, c2, c3, c4, c5, c6, c7, c8⟩ := laid9_read HY2.out (eS) (eS) (eS) (iV 0) (.int .u8 0) (iV 0) (.bool false) (iV 0) (eS); obtain ⟨m0, m1, m2, m3, m4, m5, m6, m7, m8, m9⟩ := laid10_read HZp.out (.int .u8 0) (iV 0) (iV 0) (.int .u64 0) (eS) (.int .u64 0) (eS) (eS) (iV 0) (eS); have qk := fun W => laid10_keep W (k := w.heap.size + 2) (b := w.heap.size + 3) (by omega) (.int .u8 0) (iV 0) (iV 0) (.int .u64 0) (eS) (.int .u64 0) (eS) (eS) (iV 0) (eS)
  have n0 := (zk (a := ⟨w.heap.size + 2, 0, none⟩) (qk _)).trans c0; have n1 := (zk (a := ⟨w.heap.size + 2, 1, none⟩) (qk _)).trans c1; have n2 := (zk (a := ⟨w.heap.size + 2, 2, none⟩) (qk _)).trans c2; have n3 := (zk (a := ⟨w.heap.size + 2, 3, none⟩) (qk _)).trans c3; have n4 := (zk (a := ⟨w.heap.size + 2, 4, none⟩) (qk _)).trans c4; have n5 := (zk (a := ⟨w.heap.size + 2, 5, none⟩) (qk _)).trans c5; have n6 := (zk (a := ⟨w.heap.size + 2, 6, none⟩) (qk _)).trans c6; have n7 := (zk (a := ⟨w.heap.size + 2, 7, none⟩) (qk _)).trans c7; have n8 := (zk (a := ⟨w.heap.size + 2, 8, none⟩) (qk _)).trans c8; have HWf := zD (laid10_below (laid9_below HB2.out (show w.heap.size ≤ w.heap.size + 2 by omega) (eS) (eS) (eS) (iV 0) (.int .u8 0) (iV 0) (.bool false) (iV 0) (eS)) (show w.heap.size ≤ w.heap.size + 3 by omega) (.int .u8 0) (iV 0) (iV 0) (.int .u64 0) (eS) (.int .u64 0) (eS) (eS) (iV 0) (eS)); go_wp2_with fail; exact bodyPost_ret (v := .tuple #[.agg #[eS, eS, eS, iV 0, .int .u8 0, iV 0, .bool false, iV 0, eS], .agg #[.int .u8 0, iV 0, iV 0, .int .u64 0, eS, .int .u64 0, eS, eS, iV 0, eS], iV 1]) (by simp [results, Tryz.results73, go_sem, n0, n1, n2, n3, n4, n5, n6, n7, n8, m0, m1, m2, m3, m4, m5, m6, m7, m8, m9]) rfl ⟨⟨⟨[], [], [], 0, 0, 0, false, 0, []⟩, _, 1, ⟨_, _, _, _, _, _, _, _, _, _, rfl⟩, rfl, fun h => by simp at h⟩, HWf.out⟩
 | true =>
 by_cases h1 : fr < 0
 case pos =>
  have d1 : decide (fr < 0) = true := by simp [h1]
  obtain ⟨a0, a1, a2, a3, a4, a5, a6, a7, a8, f0, f1, f2, f3, f4, f5, f6, f7, f8⟩ := laid9_cells HY2.out; have HZp := zD ((laid9_keep w2 (k := w.heap.size + 3) (b := w.heap.size + 2) (by omega) (eS) (eS) (eS) (iV 0) (.int .u8 0) (iV 0) (.bool false) (iV 0) (eS)).trans HZ2.out); obtain ⟨b0, b1, b2, b3, b4, b5, b6, b7, b8, b9, g0, g1, g2, g3, g4, g5, g6, g7, g8, g9⟩ := laid10_cells HZp.out; obtain ⟨c0, c1, c2, c3, c4, c5, c6, c7, c8⟩ := laid9_read HY2.out (eS) (eS) (eS) (iV 0) (.int .u8 0) (iV 0) (.bool false) (iV 0) (eS); obtain ⟨m0, m1, m2, m3, m4, m5, m6, m7, m8, m9⟩ := laid10_read HZp.out (.int .u8 0) (iV 0) (iV 0) (.int .u64 0) (eS) (.int .u64 0) (eS) (eS) (iV 0) (eS); have qk := fun W => laid10_keep W (k := w.heap.size + 2) (b := w.heap.size + 3) (by omega) (.int .u8 0) (iV 0) (iV 0) (.int .u64 0) (eS) (.int .u64 0) (eS) (eS) (iV 0) (eS)
  have n0 := (zk (a := ⟨w.heap.size + 2, 0, none⟩) (qk _)).trans c0; have n1 := (zk (a := ⟨w.heap.size + 2, 1, none⟩) (qk _)).trans c1; have n2 := (zk (a := ⟨w.heap.size + 2, 2, none⟩) (qk _)).trans c2; have n3 := (zk (a := ⟨w.heap.size + 2, 3, none⟩) (qk _)).trans c3; have n4 := (zk (a := ⟨w.heap.size + 2, 4, none⟩) (qk _)).trans c4; have n5 := (zk (a := ⟨w.heap.size + 2, 5, none⟩) (qk _)).trans c5; have n6 := (zk (a := ⟨w.heap.size + 2, 6, none⟩) (qk _)).trans c6; have n7 := (zk (a := ⟨w.heap.size + 2, 7, none⟩) (qk _)).trans c7; have n8 := (zk (a := ⟨w.heap.size + 2, 8, none⟩) (qk _)).trans c8; have HWf := zD (laid10_below (laid9_below HB2.out (show w.heap.size ≤ w.heap.size + 2 by omega) (eS) (eS) (eS) (iV 0) (.int .u8 0) (iV 0) (.bool false) (iV 0) (eS)) (show w.heap.size ≤ w.heap.size + 3 by omega) (.int .u8 0) (iV 0) (iV 0) (.int .u64 0) (eS) (.int .u64 0) (eS) (eS) (iV 0) (eS)); go_wp2_with fail; exact bodyPost_ret (v := .tuple #[.agg #[eS, eS, eS, iV 0, .int .u8 0, iV 0, .bool false, iV 0, eS], .agg #[.int .u8 0, iV 0, iV 0, .int .u64 0, eS, .int .u64 0, eS, eS, iV 0, eS], iV 1]) (by simp [results, Tryz.results73, go_sem, n0, n1, n2, n3, n4, n5, n6, n7, n8, m0, m1, m2, m3, m4, m5, m6, m7, m8, m9]) rfl ⟨⟨⟨[], [], [], 0, 0, 0, false, 0, []⟩, _, 1, ⟨_, _, _, _, _, _, _, _, _, _, rfl⟩, rfl, fun h => by simp at h⟩, HWf.out⟩
 have d1 : decide (fr < 0) = false := by simp; omega
 by_cases h2 : 4 ≤ fr
 case pos =>
  have d2 : decide (4 ≤ fr) = true := by simp [h2]
  obtain ⟨a0, a1, a2, a3, a4, a5, a6, a7, a8, f0, f1, f2, f3, f4, f5, f6, f7, f8⟩ := laid9_cells HY2.out; have HZp := zD ((laid9_keep w2 (k := w.heap.size + 3) (b := w.heap.size + 2) (by omega) (eS) (eS) (eS) (iV 0) (.int .u8 0) (iV 0) (.bool false) (iV 0) (eS)).trans HZ2.out); obtain ⟨b0, b1, b2, b3, b4, b5, b6, b7, b8, b9, g0, g1, g2, g3, g4, g5, g6, g7, g8, g9⟩ := laid10_cells HZp.out; obtain ⟨c0, c1, c2, c3, c4, c5, c6, c7, c8⟩ := laid9_read HY2.out (eS) (eS) (eS) (iV 0) (.int .u8 0) (iV 0) (.bool false) (iV 0) (eS); obtain ⟨m0, m1, m2, m3, m4, m5, m6, m7, m8, m9⟩ := laid10_read HZp.out (.int .u8 0) (iV 0) (iV 0) (.int .u64 0) (eS) (.int .u64 0) (eS) (eS) (iV 0) (eS); have qk := fun W => laid10_keep W (k := w.heap.size + 2) (b := w.heap.size + 3) (by omega) (.int .u8 0) (iV 0) (iV 0) (.int .u64 0) (eS) (.int .u64 0) (eS) (eS) (iV 0) (eS)
  have n0 := (zk (a := ⟨w.heap.size + 2, 0, none⟩) (qk _)).trans c0; have n1 := (zk (a := ⟨w.heap.size + 2, 1, none⟩) (qk _)).trans c1; have n2 := (zk (a := ⟨w.heap.size + 2, 2, none⟩) (qk _)).trans c2; have n3 := (zk (a := ⟨w.heap.size + 2, 3, none⟩) (qk _)).trans c3; have n4 := (zk (a := ⟨w.heap.size + 2, 4, none⟩) (qk _)).trans c4; have n5 := (zk (a := ⟨w.heap.size + 2, 5, none⟩) (qk _)).trans c5; have n6 := (zk (a := ⟨w.heap.size + 2, 6, none⟩) (qk _)).trans c6; have n7 := (zk (a := ⟨w.heap.size + 2, 7, none⟩) (qk _)).trans c7; have n8 := (zk (a := ⟨w.heap.size + 2, 8, none⟩) (qk _)).trans c8; have HWf := zD (laid10_below (laid9_below HB2.out (show w.heap.size ≤ w.heap.size + 2 by omega) (eS) (eS) (eS) (iV 0) (.int .u8 0) (iV 0) (.bool false) (iV 0) (eS)) (show w.heap.size ≤ w.heap.size + 3 by omega) (.int .u8 0) (iV 0) (iV 0) (.int .u64 0) (eS) (.int .u64 0) (eS) (eS) (iV 0) (eS)); go_wp2_with fail; exact bodyPost_ret (v := .tuple #[.agg #[eS, eS, eS, iV 0, .int .u8 0, iV 0, .bool false, iV 0, eS], .agg #[.int .u8 0, iV 0, iV 0, .int .u64 0, eS, .int .u64 0, eS, eS, iV 0, eS], iV 1]) (by simp [results, Tryz.results73, go_sem, n0, n1, n2, n3, n4, n5, n6, n7, n8, m0, m1, m2, m3, m4, m5, m6, m7, m8, m9]) rfl ⟨⟨⟨[], [], [], 0, 0, 0, false, 0, []⟩, _, 1, ⟨_, _, _, _, _, _, _, _, _, _, rfl⟩, rfl, fun h => by simp at h⟩, HWf.out⟩
 have d2 : decide (4 ≤ fr) = false := by simp; omega
 have z0 := zF HV2 0 rfl
 have z1 := zF HV2 1 rfl
 have z2 := zF HV2 2 rfl
 have z3 := zF HV2 3 rfl
 have z4 := zF HV2 4 rfl
 have z5 := zF HV2 5 rfl
 have z6 := zF HV2 6 rfl
 have z7 := zF HV2 7 rfl
 have z8 := zF HV2 8 rfl
 by_cases h3 : ph = 1
 case neg =>
  have d3 : ((ph : Int) != 1) = true := by simp; omega
  obtain ⟨a0, a1, a2, a3, a4, a5, a6, a7, a8, f0, f1, f2, f3, f4, f5, f6, f7, f8⟩ := laid9_cells HY2.out; have HZp := zD ((laid9_keep w2 (k := w.heap.size + 3) (b := w.heap.size + 2) (by omega) (eS) (eS) (eS) (iV 0) (.int .u8 0) (iV 0) (.bool false) (iV 0) (eS)).trans HZ2.out); obtain ⟨b0, b1, b2, b3, b4, b5, b6, b7, b8, b9, g0, g1, g2, g3, g4, g5, g6, g7, g8, g9⟩ := laid10_cells HZp.out; obtain ⟨c0, c1, c2, c3, c4, c5, c6, c7, c8⟩ := laid9_read HY2.out (eS) (eS) (eS) (iV 0) (.int .u8 0) (iV 0) (.bool false) (iV 0) (eS); obtain ⟨m0, m1, m2, m3, m4, m5, m6, m7, m8, m9⟩ := laid10_read HZp.out (.int .u8 0) (iV 0) (iV 0) (.int .u64 0) (eS) (.int .u64 0) (eS) (eS) (iV 0) (eS); have qk := fun W => laid10_keep W (k := w.heap.size + 2) (b := w.heap.size + 3) (by omega) (.int .u8 0) (iV 0) (iV 0) (.int .u64 0) (eS) (.int .u64 0) (eS) (eS) (iV 0) (eS)
  have n0 := (zk (a := ⟨w.heap.size + 2, 0, none⟩) (qk _)).trans c0; have n1 := (zk (a := ⟨w.heap.size + 2, 1, none⟩) (qk _)).trans c1; have n2 := (zk (a := ⟨w.heap.size + 2, 2, none⟩) (qk _)).trans c2; have n3 := (zk (a := ⟨w.heap.size + 2, 3, none⟩) (qk _)).trans c3; have n4 := (zk (a := ⟨w.heap.size + 2, 4, none⟩) (qk _)).trans c4; have n5 := (zk (a := ⟨w.heap.size + 2, 5, none⟩) (qk _)).trans c5; have n6 := (zk (a := ⟨w.heap.size + 2, 6, none⟩) (qk _)).trans c6; have n7 := (zk (a := ⟨w.heap.size + 2, 7, none⟩) (qk _)).trans c7; have n8 := (zk (a := ⟨w.heap.size + 2, 8, none⟩) (qk _)).trans c8; have HWf := zD (laid10_below (laid9_below HB2.out (show w.heap.size ≤ w.heap.size + 2 by omega) (eS) (eS) (eS) (iV 0) (.int .u8 0) (iV 0) (.bool false) (iV 0) (eS)) (show w.heap.size ≤ w.heap.size + 3 by omega) (.int .u8 0) (iV 0) (iV 0) (.int .u64 0) (eS) (.int .u64 0) (eS) (eS) (iV 0) (eS)); go_wp2_with fail; exact bodyPost_ret (v := .tuple #[.agg #[eS, eS, eS, iV 0, .int .u8 0, iV 0, .bool false, iV 0, eS], .agg #[.int .u8 0, iV 0, iV 0, .int .u64 0, eS, .int .u64 0, eS, eS, iV 0, eS], iV 202]) (by simp [results, Tryz.results73, go_sem, n0, n1, n2, n3, n4, n5, n6, n7, n8, m0, m1, m2, m3, m4, m5, m6, m7, m8, m9]) rfl ⟨⟨⟨[], [], [], 0, 0, 0, false, 0, []⟩, _, 202, ⟨_, _, _, _, _, _, _, _, _, _, rfl⟩, rfl, fun h => by simp at h⟩, HWf.out⟩
 subst h3
 have d3 : (((1 : Nat) : Int) != 1) = false := by decide
 cases st with
 | true =>
  obtain ⟨a0, a1, a2, a3, a4, a5, a6, a7, a8, f0, f1, f2, f3, f4, f5, f6, f7, f8⟩ := laid9_cells HY2.out; have HZp := zD ((laid9_keep w2 (k := w.heap.size + 3) (b := w.heap.size + 2) (by omega) (eS) (eS) (eS) (iV 0) (.int .u8 0) (iV 0) (.bool false) (iV 0) (eS)).trans HZ2.out); obtain ⟨b0, b1, b2, b3, b4, b5, b6, b7, b8, b9, g0, g1, g2, g3, g4, g5, g6, g7, g8, g9⟩ := laid10_cells HZp.out; obtain ⟨c0, c1, c2, c3, c4, c5, c6, c7, c8⟩ := laid9_read HY2.out (eS) (eS) (eS) (iV 0) (.int .u8 0) (iV 0) (.bool false) (iV 0) (eS); obtain ⟨m0, m1, m2, m3, m4, m5, m6, m7, m8, m9⟩ := laid10_read HZp.out (.int .u8 0) (iV 0) (iV 0) (.int .u64 0) (eS) (.int .u64 0) (eS) (eS) (iV 0) (eS); have qk := fun W => laid10_keep W (k := w.heap.size + 2) (b := w.heap.size + 3) (by omega) (.int .u8 0) (iV 0) (iV 0) (.int .u64 0) (eS) (.int .u64 0) (eS) (eS) (iV 0) (eS)
  have n0 := (zk (a := ⟨w.heap.size + 2, 0, none⟩) (qk _)).trans c0; have n1 := (zk (a := ⟨w.heap.size + 2, 1, none⟩) (qk _)).trans c1; have n2 := (zk (a := ⟨w.heap.size + 2, 2, none⟩) (qk _)).trans c2; have n3 := (zk (a := ⟨w.heap.size + 2, 3, none⟩) (qk _)).trans c3; have n4 := (zk (a := ⟨w.heap.size + 2, 4, none⟩) (qk _)).trans c4; have n5 := (zk (a := ⟨w.heap.size + 2, 5, none⟩) (qk _)).trans c5; have n6 := (zk (a := ⟨w.heap.size + 2, 6, none⟩) (qk _)).trans c6; have n7 := (zk (a := ⟨w.heap.size + 2, 7, none⟩) (qk _)).trans c7; have n8 := (zk (a := ⟨w.heap.size + 2, 8, none⟩) (qk _)).trans c8; have HWf := zD (laid10_below (laid9_below HB2.out (show w.heap.size ≤ w.heap.size + 2 by omega) (eS) (eS) (eS) (iV 0) (.int .u8 0) (iV 0) (.bool false) (iV 0) (eS)) (show w.heap.size ≤ w.heap.size + 3 by omega) (.int .u8 0) (iV 0) (iV 0) (.int .u64 0) (eS) (.int .u64 0) (eS) (eS) (iV 0) (eS)); go_wp2_with fail; exact bodyPost_ret (v := .tuple #[.agg #[eS, eS, eS, iV 0, .int .u8 0, iV 0, .bool false, iV 0, eS], .agg #[.int .u8 0, iV 0, iV 0, .int .u64 0, eS, .int .u64 0, eS, eS, iV 0, eS], iV 5]) (by simp [results, Tryz.results73, go_sem, n0, n1, n2, n3, n4, n5, n6, n7, n8, m0, m1, m2, m3, m4, m5, m6, m7, m8, m9]) rfl ⟨⟨⟨[], [], [], 0, 0, 0, false, 0, []⟩, _, 5, ⟨_, _, _, _, _, _, _, _, _, _, rfl⟩, rfl, fun h => by simp at h⟩, HWf.out⟩
 | false =>
  have x0 := zF HX2 0 rfl; have x1 := zF HX2 1 rfl; have x2 := zF HX2 2 rfl; have x3 := zF HX2 3 rfl; go_wp2_with fail; refine (HCA.out w2 HB2.out).mono ?_; rintro e w4 ⟨⟨kd, f, tt, p, c, k, sv, mt, b, rfl⟩, hb4⟩; have HV4 := zD ((hb4.block _ (by omega)).trans HV2.out); have HY4 := zD ((hb4.block _ (by omega)).trans HY2.out); have HZ4 := zD ((hb4.block _ (by omega)).trans HZ2.out); have HB4 := zT HB2 hb4; have hl4 : w.heap.size + 4 ≤ w4.heap.size := by have := hb4.size; omega
  clear hb4 x0 x1 x2 x3 z0 z1 z2 z3 z4 z5 z6 z7 z8 HCA HX2 HV2 HY2 HZ2 HB2 d1 d2 d3; go_upto_region 8 with (fail); generalize hw5 : w4.alloc (.cells #[.int .u8 kd, iV f, iV tt, .int .u64 0, .string k, .int .u64 p, .string sv, .string mt, iV c, .string b] 63) = w5 at *; have HB5 := zD (show Below w.heap.size w w5 from hw5 ▸ HB4.out.alloc HB4.out.size _); have HV5 := zD (show w5.heap[w.heap.size + 1]? = some (.cells #[sT id, sT sg, sT arg, iV at_, .int .u8 1, iV tr, .bool false, iV wh, sT vl] 53 (0, 0)) from hw5 ▸ (Below.heap_alloc w4 (.cells #[.int .u8 kd, iV f, iV tt, .int .u64 0, .string k, .int .u64 p, .string sv, .string mt, iV c, .string b] 63) _ (by omega)).trans HV4.out); have HY5 := zD (show w5.heap[w.heap.size + 2]? = some (.cells #[eS, eS, eS, iV 0, .int .u8 0, iV 0, .bool false, iV 0, eS] 53 (0, 0)) from hw5 ▸ (Below.heap_alloc w4 (.cells #[.int .u8 kd, iV f, iV tt, .int .u64 0, .string k, .int .u64 p, .string sv, .string mt, iV c, .string b] 63) _ (by omega)).trans HY4.out); have HZ5 := zD (show w5.heap[w.heap.size + 3]? = some (.cells #[.int .u8 0, iV 0, iV 0, .int .u64 0, eS, .int .u64 0, eS, eS, iV 0, eS] 63 (0, 0)) from hw5 ▸ (Below.heap_alloc w4 (.cells #[.int .u8 kd, iV f, iV tt, .int .u64 0, .string k, .int .u64 p, .string sv, .string mt, iV c, .string b] 63) _ (by omega)).trans HZ4.out); have HL5 := zD (show w5.heap[w4.heap.size]? = some (.cells #[.int .u8 kd, iV f, iV tt, .int .u64 0, .string k, .int .u64 p, .string sv, .string mt, iV c, .string b] 63 (0, 0)) from hw5 ▸ zw w4 _); have hl5 : w4.heap.size < w5.heap.size := (zq HL5.out).1; clear hw5 HV4 HY4 HZ4 HB4; have p6 := zF HV5 6 rfl; have pf : ∀ o, w5.frozen? ⟨w.heap.size + 1, o, none⟩ = false := fun o => by simp [World.frozen?, HV5.out]
  go_upto_region 9 with (fail); have HB6 := zD (HB5.out.setCell (p := ⟨w.heap.size + 1, 6, none⟩) (by show w.heap.size ≤ w.heap.size + 1; omega) (.bool true)); have HV6 := zD (show (w5.setCell ⟨w.heap.size + 1, 6, none⟩ (.bool true)).heap[w.heap.size + 1]? = some (.cells #[sT id, sT sg, sT arg, iV at_, .int .u8 1, iV tr, .bool true, iV wh, sT vl] 53 (0, 0)) from (set_blk HV5.out 6 (.bool true)).trans rfl); have HY6 := zD (show (w5.setCell ⟨w.heap.size + 1, 6, none⟩ (.bool true)).heap[w.heap.size + 2]? = some (.cells #[eS, eS, eS, iV 0, .int .u8 0, iV 0, .bool false, iV 0, eS] 53 (0, 0)) from (Below.heap_setCell _ _ _ _ (by show w.heap.size + 2 ≠ w.heap.size + 1; omega)).trans HY5.out); have HZ6 := zD (show (w5.setCell ⟨w.heap.size + 1, 6, none⟩ (.bool true)).heap[w.heap.size + 3]? = some (.cells #[.int .u8 0, iV 0, iV 0, .int .u64 0, eS, .int .u64 0, eS, eS, iV 0, eS] 63 (0, 0)) from (Below.heap_setCell _ _ _ _ (by show w.heap.size + 3 ≠ w.heap.size + 1; omega)).trans HZ5.out); have HL6 := zD (show (w5.setCell ⟨w.heap.size + 1, 6, none⟩ (.bool true)).heap[w4.heap.size]? = some (.cells #[.int .u8 kd, iV f, iV tt, .int .u64 0, .string k, .int .u64 p, .string sv, .string mt, iV c, .string b] 63 (0, 0)) from (Below.heap_setCell _ _ _ _ (by show w4.heap.size ≠ w.heap.size + 1; omega)).trans HL5.out); clear p6 pf HV5 HY5 HZ5 HL5 HB5; generalize w5.setCell ⟨w.heap.size + 1, 6, none⟩ (.bool true) = w6 at *; have y0 := zF HL6 0 rfl; have y1 := zF HL6 1 rfl; have y2 := zF HL6 2 rfl; have y3 := zF HL6 3 rfl; have y4 := zF HL6 4 rfl; have y5 := zF HL6 5 rfl; have y6 := zF HL6 6 rfl; have y7 := zF HL6 7 rfl; have y8 := zF HL6 8 rfl; have y9 := zF HL6 9 rfl; have z0 := zF HV6 0 rfl; have z1 := zF HV6 1 rfl; have z2 := zF HV6 2 rfl; have z3 := zF HV6 3 rfl; have z4 := zF HV6 4 rfl; have z5 := zF HV6 5 rfl; have z6 := zF HV6 6 rfl; have z7 := zF HV6 7 rfl; have z8 := zF HV6 8 rfl; have u0 := zF HY6 0 rfl; have u1 := zF HY6 1 rfl; have u2 := zF HY6 2 rfl; have u3 := zF HY6 3 rfl; have u4 := zF HY6 4 rfl; have u5 := zF HY6 5 rfl; have u6 := zF HY6 6 rfl; have u7 := zF HY6 7 rfl; have u8 := zF HY6 8 rfl; have v0 := zF HZ6 0 rfl; have v1 := zF HZ6 1 rfl; have v2 := zF HZ6 2 rfl; have v3 := zF HZ6 3 rfl; have v4 := zF HZ6 4 rfl; have v5 := zF HZ6 5 rfl; have v6 := zF HZ6 6 rfl; have v7 := zF HZ6 7 rfl; have v8 := zF HZ6 8 rfl; have v9 := zF HZ6 9 rfl; have fzV : ∀ o, w6.frozen? ⟨w.heap.size + 1, o, none⟩ = false := fun o => by simp [World.frozen?, HV6.out]
  have fzY : ∀ o, w6.frozen? ⟨w.heap.size + 2, o, none⟩ = false := fun o => by simp [World.frozen?, HY6.out]
  have fzZ : ∀ o, w6.frozen? ⟨w.heap.size + 3, o, none⟩ = false := fun o => by simp [World.frozen?, HZ6.out]
  have fzL : ∀ o, w6.frozen? ⟨w4.heap.size, o, none⟩ = false := fun o => by simp [World.frozen?, HL6.out]
  have e0 : w.heap.size + 1 ≠ w.heap.size + 2 := by omega
  have e1 : w.heap.size + 1 ≠ w.heap.size + 3 := by omega
  have e2 : w.heap.size + 1 ≠ w4.heap.size := by omega
  have e3 : w.heap.size + 2 ≠ w.heap.size + 1 := by omega
  have e4 : w.heap.size + 2 ≠ w.heap.size + 3 := by omega
  have e5 : w.heap.size + 2 ≠ w4.heap.size := by omega
  have e6 : w.heap.size + 3 ≠ w.heap.size + 1 := by omega
  have e7 : w.heap.size + 3 ≠ w.heap.size + 2 := by omega
  have e8 : w.heap.size + 3 ≠ w4.heap.size := by omega
  have e9 : w4.heap.size ≠ w.heap.size + 1 := by omega
  have e10 : w4.heap.size ≠ w.heap.size + 2 := by omega
  have e11 : w4.heap.size ≠ w.heap.size + 3 := by omega
  go_region; have HY7 := zD (show w6.heap[w.heap.size + 1 + 1]? = some (.cells #[eS, eS, eS, iV 0, .int .u8 0, iV 0, .bool false, iV 0, eS] 53 (0, 0)) from HY6.out); have HZ7 := zD (show w6.heap[w.heap.size + 1 + 1 + 1]? = some (.cells #[.int .u8 0, iV 0, iV 0, .int .u64 0, eS, .int .u64 0, eS, eS, iV 0, eS] 63 (0, 0)) from HZ6.out); obtain ⟨a0, a1, a2, a3, a4, a5, a6, a7, a8, f0, f1, f2, f3, f4, f5, f6, f7, f8⟩ := laid9_cells HY7.out; have HZp := zD ((laid9_keep w6 (k := w.heap.size + 1 + 1 + 1) (b := w.heap.size + 1 + 1) (by omega) (sT id) (sT sg) (sT arg) (iV at_) (.int .u8 1) (iV tr) (.bool true) (iV wh) (sT vl)).trans HZ7.out); obtain ⟨b0, b1, b2, b3, b4, b5, b6, b7, b8, b9, g0, g1, g2, g3, g4, g5, g6, g7, g8, g9⟩ := laid10_cells HZp.out; obtain ⟨c0, c1, c2, c3, c4, c5, c6, c7, c8⟩ := laid9_read HY7.out (sT id) (sT sg) (sT arg) (iV at_) (.int .u8 1) (iV tr) (.bool true) (iV wh) (sT vl); obtain ⟨m0, m1, m2, m3, m4, m5, m6, m7, m8, m9⟩ := laid10_read HZp.out (.int .u8 kd) (iV f) (iV tt) (.int .u64 0) (.string k) (.int .u64 p) (.string sv) (.string mt) (iV c) (.string b); have qk := fun W => laid10_keep W (k := w.heap.size + 1 + 1) (b := w.heap.size + 1 + 1 + 1) (by omega) (.int .u8 kd) (iV f) (iV tt) (.int .u64 0) (.string k) (.int .u64 p) (.string sv) (.string mt) (iV c) (.string b)
  have n0 := (zk (a := ⟨w.heap.size + 1 + 1, 0, none⟩) (qk _)).trans c0; have n1 := (zk (a := ⟨w.heap.size + 1 + 1, 1, none⟩) (qk _)).trans c1; have n2 := (zk (a := ⟨w.heap.size + 1 + 1, 2, none⟩) (qk _)).trans c2; have n3 := (zk (a := ⟨w.heap.size + 1 + 1, 3, none⟩) (qk _)).trans c3; have n4 := (zk (a := ⟨w.heap.size + 1 + 1, 4, none⟩) (qk _)).trans c4; have n5 := (zk (a := ⟨w.heap.size + 1 + 1, 5, none⟩) (qk _)).trans c5; have n6 := (zk (a := ⟨w.heap.size + 1 + 1, 6, none⟩) (qk _)).trans c6; have n7 := (zk (a := ⟨w.heap.size + 1 + 1, 7, none⟩) (qk _)).trans c7; have n8 := (zk (a := ⟨w.heap.size + 1 + 1, 8, none⟩) (qk _)).trans c8; have HWf := zD (laid10_below (laid9_below HB6.out (show w.heap.size ≤ w.heap.size + 1 + 1 by omega) (sT id) (sT sg) (sT arg) (iV at_) (.int .u8 1) (iV tr) (.bool true) (iV wh) (sT vl)) (show w.heap.size ≤ w.heap.size + 1 + 1 + 1 by omega) (.int .u8 kd) (iV f) (iV tt) (.int .u64 0) (.string k) (.int .u64 p) (.string sv) (.string mt) (iV c) (.string b)); go_wp2_with fail; exact bodyPost_ret (v := .tuple #[.agg #[sT id, sT sg, sT arg, iV at_, .int .u8 1, iV tr, .bool true, iV wh, sT vl], .agg #[.int .u8 kd, iV f, iV tt, .int .u64 0, .string k, .int .u64 p, .string sv, .string mt, iV c, .string b], iV (LE : Nat)]) (by simp [results, Tryz.results73, go_sem, n0, n1, n2, n3, n4, n5, n6, n7, n8, m0, m1, m2, m3, m4, m5, m6, m7, m8, m9]) rfl ⟨⟨⟨id, sg, arg, at_, 1, tr, true, wh, vl⟩, _, LE, ⟨_, _, _, _, _, _, _, _, _, _, rfl⟩, rfl, fun _ => ⟨rfl, rfl⟩⟩, HWf.out.drew⟩
end Go.Proofs.YtgoejmheihgpfaaGreatDoor
