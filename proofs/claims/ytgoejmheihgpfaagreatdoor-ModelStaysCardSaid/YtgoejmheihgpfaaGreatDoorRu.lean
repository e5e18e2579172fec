/- Lemmas for ModelStays' proof. -/
import Derived.Test.YtgoejmheihgpfaaGreatDoorRq
namespace Go.Proofs.YtgoejmheihgpfaaGreatDoor
set_option maxRecDepth 100000
set_option maxHeartbeats 16000000
open Go.RowKit
def stpOf (s : Sch) (a : Tx) (i : Int) : Stp := (foundA s a).1.steps.getD i.toNat ⟨[], [], 0⟩
def letE (s : Sch) (a id : Tx) (i fr : Int) : Nat := if (foundA s a).2 = 0 then (if idA id = true ∧ 0 ≤ fr ∧ fr < 4 then (if 0 ≤ i ∧ i < ((foundA s a).1.steps.length : Nat) then 0 else 241) else 1) else (foundA s a).2
def ltr (f t p : Int) (k sv mt : Tx) : Array Value := #[.int .u8 0, iV f, iV t, .int .u64 0, sT k, .int .u64 p, sT sv, sT mt, iV 0, eS]
theorem set_blk {w : World} {b : Nat} {cs : Array Value} {T : TypeId} {f : Nat × Nat} (h : w.heap[b]? = some (.cells cs T f)) (k : Nat) (X : Value) : (w.setCell ⟨b, k, none⟩ X).heap[b]? = some (.cells (cs.setIfInBounds k X) T f) := by
 simp [World.setCell, Array.getElem?_modify, h]
theorem laid10_blk {w : World} {b : Nat} {x0 x1 x2 x3 x4 x5 x6 x7 x8 x9 : Value} {T : TypeId} (h : w.heap[b]? = some (.cells #[x0, x1, x2, x3, x4, x5, x6, x7, x8, x9] T (0, 0))) : (w.heap[b]? = some (.cells #[x0, x1, x2, x3, x4, x5, x6, x7, x8, x9] T (0, 0))) ∧ (∀ X0, (w.setCell ⟨b, 0, none⟩ X0).heap[b]? = some (.cells #[X0, x1, x2, x3, x4, x5, x6, x7, x8, x9] T (0, 0))) ∧ (∀ X0 X1, ((w.setCell ⟨b, 0, none⟩ X0).setCell ⟨b, 1, none⟩ X1).heap[b]? = some (.cells #[X0, X1, x2, x3, x4, x5, x6, x7, x8, x9] T (0, 0))) ∧ (∀ X0 X1 X2, (((w.setCell ⟨b, 0, none⟩ X0).setCell ⟨b, 1, none⟩ X1).setCell ⟨b, 2, none⟩ X2).heap[b]? = some (.cells #[X0, X1, X2, x3, x4, x5, x6, x7, x8, x9] T (0, 0))) ∧ (∀ X0 X1 X2 X3, ((((w.setCell ⟨b, 0, none⟩ X0).setCell ⟨b, 1, none⟩ X1).setCell ⟨b, 2, none⟩ X2).setCell ⟨b, 3, none⟩ X3).heap[b]? = some (.cells #[X0, X1, X2, X3, x4, x5, x6, x7, x8, x9] T (0, 0))) ∧ (∀ X0 X1 X2 X3 X4, (((((w.setCell ⟨b, 0, none⟩ X0).setCell ⟨b, 1, none⟩ X1).setCell ⟨b, 2, none⟩ X2).setCell ⟨b, 3, none⟩ X3).setCell ⟨b, 4, none⟩ X4).heap[b]? = some (.cells #[X0, X1, X2, X3, X4, x5, x6, x7, x8, x9] T (0, 0))) ∧ (∀ X0 X1 X2 X3 X4 X5, ((((((w.setCell ⟨b, 0, none⟩ X0).setCell ⟨b, 1, none⟩ X1).setCell ⟨b, 2, none⟩ X2).setCell ⟨b, 3, none⟩ X3).setCell ⟨b, 4, none⟩ X4).setCell ⟨b, 5, none⟩ X5).heap[b]? = some (.cells #[X0, X1, X2, X3, X4, X5, x6, x7, x8, x9] T (0, 0))) ∧ (∀ X0 X1 X2 X3 X4 X5 X6, (((((((w.setCell ⟨b, 0, none⟩ X0).setCell ⟨b, 1, none⟩ X1).setCell ⟨b, 2, none⟩ X2).setCell ⟨b, 3, none⟩ X3).setCell ⟨b, 4, none⟩ X4).setCell ⟨b, 5, none⟩ X5).setCell ⟨b, 6, none⟩ X6).heap[b]? = some (.cells #[X0, X1, X2, X3, X4, X5, X6, x7, x8, x9] T (0, 0))) ∧ (∀ X0 X1 X2 X3 X4 X5 X6 X7, ((((((((w.setCell ⟨b, 0, none⟩ X0).setCell ⟨b, 1, none⟩ X1).setCell ⟨b, 2, none⟩ X2).setCell ⟨b, 3, none⟩ X3).setCell ⟨b, 4, none⟩ X4).setCell ⟨b, 5, none⟩ X5).setCell ⟨b, 6, none⟩ X6).setCell ⟨b, 7, none⟩ X7).heap[b]? = some (.cells #[X0, X1, X2, X3, X4, X5, X6, X7, x8, x9] T (0, 0))) ∧ (∀ X0 X1 X2 X3 X4 X5 X6 X7 X8, (((((((((w.setCell ⟨b, 0, none⟩ X0).setCell ⟨b, 1, none⟩ X1).setCell ⟨b, 2, none⟩ X2).setCell ⟨b, 3, none⟩ X3).setCell ⟨b, 4, none⟩ X4).setCell ⟨b, 5, none⟩ X5).setCell ⟨b, 6, none⟩ X6).setCell ⟨b, 7, none⟩ X7).setCell ⟨b, 8, none⟩ X8).heap[b]? = some (.cells #[X0, X1, X2, X3, X4, X5, X6, X7, X8, x9] T (0, 0))) ∧ (∀ X0 X1 X2 X3 X4 X5 X6 X7 X8 X9, ((((((((((w.setCell ⟨b, 0, none⟩ X0).setCell ⟨b, 1, none⟩ X1).setCell ⟨b, 2, none⟩ X2).setCell ⟨b, 3, none⟩ X3).setCell ⟨b, 4, none⟩ X4).setCell ⟨b, 5, none⟩ X5).setCell ⟨b, 6, none⟩ X6).setCell ⟨b, 7, none⟩ X7).setCell ⟨b, 8, none⟩ X8).setCell ⟨b, 9, none⟩ X9).heap[b]? = some (.cells #[X0, X1, X2, X3, X4, X5, X6, X7, X8, X9] T (0, 0))) := by
 have h0 : w.heap[b]? = some (.cells #[x0, x1, x2, x3, x4, x5, x6, x7, x8, x9] T (0, 0)) := h
 have h1 : ∀ X0, (w.setCell ⟨b, 0, none⟩ X0).heap[b]? = some (.cells #[X0, x1, x2, x3, x4, x5, x6, x7, x8, x9] T (0, 0)) := fun X0 => (set_blk (h0) 0 X0).trans rfl
 have h2 : ∀ X0 X1, ((w.setCell ⟨b, 0, none⟩ X0).setCell ⟨b, 1, none⟩ X1).heap[b]? = some (.cells #[X0, X1, x2, x3, x4, x5, x6, x7, x8, x9] T (0, 0)) := fun X0 X1 => (set_blk (h1 X0) 1 X1).trans rfl
 have h3 : ∀ X0 X1 X2, (((w.setCell ⟨b, 0, none⟩ X0).setCell ⟨b, 1, none⟩ X1).setCell ⟨b, 2, none⟩ X2).heap[b]? = some (.cells #[X0, X1, X2, x3, x4, x5, x6, x7, x8, x9] T (0, 0)) := fun X0 X1 X2 => (set_blk (h2 X0 X1) 2 X2).trans rfl
 have h4 : ∀ X0 X1 X2 X3, ((((w.setCell ⟨b, 0, none⟩ X0).setCell ⟨b, 1, none⟩ X1).setCell ⟨b, 2, none⟩ X2).setCell ⟨b, 3, none⟩ X3).heap[b]? = some (.cells #[X0, X1, X2, X3, x4, x5, x6, x7, x8, x9] T (0, 0)) := fun X0 X1 X2 X3 => (set_blk (h3 X0 X1 X2) 3 X3).trans rfl
 have h5 : ∀ X0 X1 X2 X3 X4, (((((w.setCell ⟨b, 0, none⟩ X0).setCell ⟨b, 1, none⟩ X1).setCell ⟨b, 2, none⟩ X2).setCell ⟨b, 3, none⟩ X3).setCell ⟨b, 4, none⟩ X4).heap[b]? = some (.cells #[X0, X1, X2, X3, X4, x5, x6, x7, x8, x9] T (0, 0)) := fun X0 X1 X2 X3 X4 => (set_blk (h4 X0 X1 X2 X3) 4 X4).trans rfl
 have h6 : ∀ X0 X1 X2 X3 X4 X5, ((((((w.setCell ⟨b, 0, none⟩ X0).setCell ⟨b, 1, none⟩ X1).setCell ⟨b, 2, none⟩ X2).setCell ⟨b, 3, none⟩ X3).setCell ⟨b, 4, none⟩ X4).setCell ⟨b, 5, none⟩ X5).heap[b]? = some (.cells #[X0, X1, X2, X3, X4, X5, x6, x7, x8, x9] T (0, 0)) := fun X0 X1 X2 X3 X4 X5 => (set_blk (h5 X0 X1 X2 X3 X4) 5 X5).trans rfl
 have h7 : ∀ X0 X1 X2 X3 X4 X5 X6, (((((((w.setCell ⟨b, 0, none⟩ X0).setCell ⟨b, 1, none⟩ X1).setCell ⟨b, 2, none⟩ X2).setCell ⟨b, 3, none⟩ X3).setCell ⟨b, 4, none⟩ X4).setCell ⟨b, 5, none⟩ X5).setCell ⟨b, 6, none⟩ X6).heap[b]? = some (.cells #[X0, X1, X2, X3, X4, X5, X6, x7, x8, x9] T (0, 0)) := fun X0 X1 X2 X3 X4 X5 X6 => (set_blk (h6 X0 X1 X2 X3 X4 X5) 6 X6).trans rfl
 have h8 : ∀ X0 X1 X2 X3 X4 X5 X6 X7, ((((((((w.setCell ⟨b, 0, none⟩ X0).setCell ⟨b, 1, none⟩ X1).setCell ⟨b, 2, none⟩ X2).setCell ⟨b, 3, none⟩ X3).setCell ⟨b, 4, none⟩ X4).setCell ⟨b, 5, none⟩ X5).setCell ⟨b, 6, none⟩ X6).setCell ⟨b, 7, none⟩ X7).heap[b]? = some (.cells #[X0, X1, X2, X3, X4, X5, X6, X7, x8, x9] T (0, 0)) := fun X0 X1 X2 X3 X4 X5 X6 X7 => (set_blk (h7 X0 X1 X2 X3 X4 X5 X6) 7 X7).trans rfl
 have h9 : ∀ X0 X1 X2 X3 X4 X5 X6 X7 X8, (((((((((w.setCell ⟨b, 0, none⟩ X0).setCell ⟨b, 1, none⟩ X1).setCell ⟨b, 2, none⟩ X2).setCell ⟨b, 3, none⟩ X3).setCell ⟨b, 4, none⟩ X4).setCell ⟨b, 5, none⟩ X5).setCell ⟨b, 6, none⟩ X6).setCell ⟨b, 7, none⟩ X7).setCell ⟨b, 8, none⟩ X8).heap[b]? = some (.cells #[X0, X1, X2, X3, X4, X5, X6, X7, X8, x9] T (0, 0)) := fun X0 X1 X2 X3 X4 X5 X6 X7 X8 => (set_blk (h8 X0 X1 X2 X3 X4 X5 X6 X7) 8 X8).trans rfl
 have h10 : ∀ X0 X1 X2 X3 X4 X5 X6 X7 X8 X9, ((((((((((w.setCell ⟨b, 0, none⟩ X0).setCell ⟨b, 1, none⟩ X1).setCell ⟨b, 2, none⟩ X2).setCell ⟨b, 3, none⟩ X3).setCell ⟨b, 4, none⟩ X4).setCell ⟨b, 5, none⟩ X5).setCell ⟨b, 6, none⟩ X6).setCell ⟨b, 7, none⟩ X7).setCell ⟨b, 8, none⟩ X8).setCell ⟨b, 9, none⟩ X9).heap[b]? = some (.cells #[X0, X1, X2, X3, X4, X5, X6, X7, X8, X9] T (0, 0)) := fun X0 X1 X2 X3 X4 X5 X6 X7 X8 X9 => (set_blk (h9 X0 X1 X2 X3 X4 X5 X6 X7 X8) 9 X9).trans rfl
 exact ⟨h0, h1, h2, h3, h4, h5, h6, h7, h8, h9, h10⟩
theorem laid10_cells {w : World} {b : Nat} {x0 x1 x2 x3 x4 x5 x6 x7 x8 x9 : Value} {T : TypeId} (h : w.heap[b]? = some (.cells #[x0, x1, x2, x3, x4, x5, x6, x7, x8, x9] T (0, 0))) : (w.cell? ⟨b, 0, none⟩ = some x0) ∧ (∀ X0, (w.setCell ⟨b, 0, none⟩ X0).cell? ⟨b, 1, none⟩ = some x1) ∧ (∀ X0 X1, ((w.setCell ⟨b, 0, none⟩ X0).setCell ⟨b, 1, none⟩ X1).cell? ⟨b, 2, none⟩ = some x2) ∧ (∀ X0 X1 X2, (((w.setCell ⟨b, 0, none⟩ X0).setCell ⟨b, 1, none⟩ X1).setCell ⟨b, 2, none⟩ X2).cell? ⟨b, 3, none⟩ = some x3) ∧ (∀ X0 X1 X2 X3, ((((w.setCell ⟨b, 0, none⟩ X0).setCell ⟨b, 1, none⟩ X1).setCell ⟨b, 2, none⟩ X2).setCell ⟨b, 3, none⟩ X3).cell? ⟨b, 4, none⟩ = some x4) ∧ (∀ X0 X1 X2 X3 X4, (((((w.setCell ⟨b, 0, none⟩ X0).setCell ⟨b, 1, none⟩ X1).setCell ⟨b, 2, none⟩ X2).setCell ⟨b, 3, none⟩ X3).setCell ⟨b, 4, none⟩ X4).cell? ⟨b, 5, none⟩ = some x5) ∧ (∀ X0 X1 X2 X3 X4 X5, ((((((w.setCell ⟨b, 0, none⟩ X0).setCell ⟨b, 1, none⟩ X1).setCell ⟨b, 2, none⟩ X2).setCell ⟨b, 3, none⟩ X3).setCell ⟨b, 4, none⟩ X4).setCell ⟨b, 5, none⟩ X5).cell? ⟨b, 6, none⟩ = some x6) ∧ (∀ X0 X1 X2 X3 X4 X5 X6, (((((((w.setCell ⟨b, 0, none⟩ X0).setCell ⟨b, 1, none⟩ X1).setCell ⟨b, 2, none⟩ X2).setCell ⟨b, 3, none⟩ X3).setCell ⟨b, 4, none⟩ X4).setCell ⟨b, 5, none⟩ X5).setCell ⟨b, 6, none⟩ X6).cell? ⟨b, 7, none⟩ = some x7) ∧ (∀ X0 X1 X2 X3 X4 X5 X6 X7, ((((((((w.setCell ⟨b, 0, none⟩ X0).setCell ⟨b, 1, none⟩ X1).setCell ⟨b, 2, none⟩ X2).setCell ⟨b, 3, none⟩ X3).setCell ⟨b, 4, none⟩ X4).setCell ⟨b, 5, none⟩ X5).setCell ⟨b, 6, none⟩ X6).setCell ⟨b, 7, none⟩ X7).cell? ⟨b, 8, none⟩ = some x8) ∧ (∀ X0 X1 X2 X3 X4 X5 X6 X7 X8, (((((((((w.setCell ⟨b, 0, none⟩ X0).setCell ⟨b, 1, none⟩ X1).setCell ⟨b, 2, none⟩ X2).setCell ⟨b, 3, none⟩ X3).setCell ⟨b, 4, none⟩ X4).setCell ⟨b, 5, none⟩ X5).setCell ⟨b, 6, none⟩ X6).setCell ⟨b, 7, none⟩ X7).setCell ⟨b, 8, none⟩ X8).cell? ⟨b, 9, none⟩ = some x9) ∧ (∀ o, w.frozen? ⟨b, o, none⟩ = false) ∧ (∀ X0, ∀ o, (w.setCell ⟨b, 0, none⟩ X0).frozen? ⟨b, o, none⟩ = false) ∧ (∀ X0 X1, ∀ o, ((w.setCell ⟨b, 0, none⟩ X0).setCell ⟨b, 1, none⟩ X1).frozen? ⟨b, o, none⟩ = false) ∧ (∀ X0 X1 X2, ∀ o, (((w.setCell ⟨b, 0, none⟩ X0).setCell ⟨b, 1, none⟩ X1).setCell ⟨b, 2, none⟩ X2).frozen? ⟨b, o, none⟩ = false) ∧ (∀ X0 X1 X2 X3, ∀ o, ((((w.setCell ⟨b, 0, none⟩ X0).setCell ⟨b, 1, none⟩ X1).setCell ⟨b, 2, none⟩ X2).setCell ⟨b, 3, none⟩ X3).frozen? ⟨b, o, none⟩ = false) ∧ (∀ X0 X1 X2 X3 X4, ∀ o, (((((w.setCell ⟨b, 0, none⟩ X0).setCell ⟨b, 1, none⟩ X1).setCell ⟨b, 2, none⟩ X2).setCell ⟨b, 3, none⟩ X3).setCell ⟨b, 4, none⟩ X4).frozen? ⟨b, o, none⟩ = false) ∧ (∀ X0 X1 X2 X3 X4 X5, ∀ o, ((((((w.setCell ⟨b, 0, none⟩ X0).setCell ⟨b, 1, none⟩ X1).setCell ⟨b, 2, none⟩ X2).setCell ⟨b, 3, none⟩ X3).setCell ⟨b, 4, none⟩ X4).setCell ⟨b, 5, none⟩ X5).frozen? ⟨b, o, none⟩ = false) ∧ (∀ X0 X1 X2 X3 X4 X5 X6, ∀ o, (((((((w.setCell ⟨b, 0, none⟩ X0).setCell ⟨b, 1, none⟩ X1).setCell ⟨b, 2, none⟩ X2).setCell ⟨b, 3, none⟩ X3).setCell ⟨b, 4, none⟩ X4).setCell ⟨b, 5, none⟩ X5).setCell ⟨b, 6, none⟩ X6).frozen? ⟨b, o, none⟩ = false) ∧ (∀ X0 X1 X2 X3 X4 X5 X6 X7, ∀ o, ((((((((w.setCell ⟨b, 0, none⟩ X0).setCell ⟨b, 1, none⟩ X1).setCell ⟨b, 2, none⟩ X2).setCell ⟨b, 3, none⟩ X3).setCell ⟨b, 4, none⟩ X4).setCell ⟨b, 5, none⟩ X5).setCell ⟨b, 6, none⟩ X6).setCell ⟨b, 7, none⟩ X7).frozen? ⟨b, o, none⟩ = false) ∧ (∀ X0 X1 X2 X3 X4 X5 X6 X7 X8, ∀ o, (((((((((w.setCell ⟨b, 0, none⟩ X0).setCell ⟨b, 1, none⟩ X1).setCell ⟨b, 2, none⟩ X2).setCell ⟨b, 3, none⟩ X3).setCell ⟨b, 4, none⟩ X4).setCell ⟨b, 5, none⟩ X5).setCell ⟨b, 6, none⟩ X6).setCell ⟨b, 7, none⟩ X7).setCell ⟨b, 8, none⟩ X8).frozen? ⟨b, o, none⟩ = false) := by
 obtain ⟨h0, h1, h2, h3, h4, h5, h6, h7, h8, h9, h10⟩ := laid10_blk h
 exact ⟨by simp only [World.cell?, h0]; rfl, fun X0 => by simp only [World.cell?, h1]; rfl, fun X0 X1 => by simp only [World.cell?, h2]; rfl, fun X0 X1 X2 => by simp only [World.cell?, h3]; rfl, fun X0 X1 X2 X3 => by simp only [World.cell?, h4]; rfl, fun X0 X1 X2 X3 X4 => by simp only [World.cell?, h5]; rfl, fun X0 X1 X2 X3 X4 X5 => by simp only [World.cell?, h6]; rfl, fun X0 X1 X2 X3 X4 X5 X6 => by simp only [World.cell?, h7]; rfl, fun X0 X1 X2 X3 X4 X5 X6 X7 => by simp only [World.cell?, h8]; rfl, fun X0 X1 X2 X3 X4 X5 X6 X7 X8 => by simp only [World.cell?, h9]; rfl, fun o => by simp only [World.frozen?, h0]; simp, fun X0 o => by simp only [World.frozen?, h1]; simp, fun X0 X1 o => by simp only [World.frozen?, h2]; simp, fun X0 X1 X2 o => by simp only [World.frozen?, h3]; simp, fun X0 X1 X2 X3 o => by simp only [World.frozen?, h4]; simp, fun X0 X1 X2 X3 X4 o => by simp only [World.frozen?, h5]; simp, fun X0 X1 X2 X3 X4 X5 o => by simp only [World.frozen?, h6]; simp, fun X0 X1 X2 X3 X4 X5 X6 o => by simp only [World.frozen?, h7]; simp, fun X0 X1 X2 X3 X4 X5 X6 X7 o => by simp only [World.frozen?, h8]; simp, fun X0 X1 X2 X3 X4 X5 X6 X7 X8 o => by simp only [World.frozen?, h9]; simp⟩
theorem laid10_read {w : World} {b : Nat} {x0 x1 x2 x3 x4 x5 x6 x7 x8 x9 : Value} {T : TypeId} (h : w.heap[b]? = some (.cells #[x0, x1, x2, x3, x4, x5, x6, x7, x8, x9] T (0, 0))) (X0 X1 X2 X3 X4 X5 X6 X7 X8 X9 : Value) : ((((((((((w.setCell ⟨b, 0, none⟩ X0).setCell ⟨b, 1, none⟩ X1).setCell ⟨b, 2, none⟩ X2).setCell ⟨b, 3, none⟩ X3).setCell ⟨b, 4, none⟩ X4).setCell ⟨b, 5, none⟩ X5).setCell ⟨b, 6, none⟩ X6).setCell ⟨b, 7, none⟩ X7).setCell ⟨b, 8, none⟩ X8).setCell ⟨b, 9, none⟩ X9).cell? ⟨b, 0, none⟩ = some X0 ∧ ((((((((((w.setCell ⟨b, 0, none⟩ X0).setCell ⟨b, 1, none⟩ X1).setCell ⟨b, 2, none⟩ X2).setCell ⟨b, 3, none⟩ X3).setCell ⟨b, 4, none⟩ X4).setCell ⟨b, 5, none⟩ X5).setCell ⟨b, 6, none⟩ X6).setCell ⟨b, 7, none⟩ X7).setCell ⟨b, 8, none⟩ X8).setCell ⟨b, 9, none⟩ X9).cell? ⟨b, 1, none⟩ = some X1 ∧ ((((((((((w.setCell ⟨b, 0, none⟩ X0).setCell ⟨b, 1, none⟩ X1).setCell ⟨b, 2, none⟩ X2).setCell ⟨b, 3, none⟩ X3).setCell ⟨b, 4, none⟩ X4).setCell ⟨b, 5, none⟩ X5).setCell ⟨b, 6, none⟩ X6).setCell ⟨b, 7, none⟩ X7).setCell ⟨b, 8, none⟩ X8).setCell ⟨b, 9, none⟩ X9).cell? ⟨b, 2, none⟩ = some X2 ∧ ((((((((((w.setCell ⟨b, 0, none⟩ X0).setCell ⟨b, 1, none⟩ X1).setCell ⟨b, 2, none⟩ X2).setCell ⟨b, 3, none⟩ X3).setCell ⟨b, 4, none⟩ X4).setCell ⟨b, 5, none⟩ X5).setCell ⟨b, 6, none⟩ X6).setCell ⟨b, 7, none⟩ X7).setCell ⟨b, 8, none⟩ X8).setCell ⟨b, 9, none⟩ X9).cell? ⟨b, 3, none⟩ = some X3 ∧ ((((((((((w.setCell ⟨b, 0, none⟩ X0).setCell ⟨b, 1, none⟩ X1).setCell ⟨b, 2, none⟩ X2).setCell ⟨b, 3, none⟩ X3).setCell ⟨b, 4, none⟩ X4).setCell ⟨b, 5, none⟩ X5).setCell ⟨b, 6, none⟩ X6).setCell ⟨b, 7, none⟩ X7).setCell ⟨b, 8, none⟩ X8).setCell ⟨b, 9, none⟩ X9).cell? ⟨b, 4, none⟩ = some X4 ∧ ((((((((((w.setCell ⟨b, 0, none⟩ X0).setCell ⟨b, 1, none⟩ X1).setCell ⟨b, 2, none⟩ X2).setCell ⟨b, 3, none⟩ X3).setCell ⟨b, 4, none⟩ X4).setCell ⟨b, 5, none⟩ X5).setCell ⟨b, 6, none⟩ X6).setCell ⟨b, 7, none⟩ X7).setCell ⟨b, 8, none⟩ X8).setCell ⟨b, 9, none⟩ X9).cell? ⟨b, 5, none⟩ = some X5 ∧ ((((((((((w.setCell ⟨b, 0, none⟩ X0).setCell ⟨b, 1, none⟩ X1).setCell ⟨b, 2, none⟩ X2).setCell ⟨b, 3, none⟩ X3).setCell ⟨b, 4, none⟩ X4).setCell ⟨b, 5, none⟩ X5).setCell ⟨b, 6, none⟩ X6).setCell ⟨b, 7, none⟩ X7).setCell ⟨b, 8, none⟩ X8).setCell ⟨b, 9, none⟩ X9).cell? ⟨b, 6, none⟩ = some X6 ∧ ((((((((((w.setCell ⟨b, 0, none⟩ X0).setCell ⟨b, 1, none⟩ X1).setCell ⟨b, 2, none⟩ X2).setCell ⟨b, 3, none⟩ X3).setCell ⟨b, 4, none⟩ X4).setCell ⟨b, 5, none⟩ X5).setCell ⟨b, 6, none⟩ X6).setCell ⟨b, 7, none⟩ X7).setCell ⟨b, 8, none⟩ X8).setCell ⟨b, 9, none⟩ X9).cell? ⟨b, 7, none⟩ = some X7 ∧ ((((((((((w.setCell ⟨b, 0, none⟩ X0).setCell ⟨b, 1, none⟩ X1).setCell ⟨b, 2, none⟩ X2).setCell ⟨b, 3, none⟩ X3).setCell ⟨b, 4, none⟩ X4).setCell ⟨b, 5, none⟩ X5).setCell ⟨b, 6, none⟩ X6).setCell ⟨b, 7, none⟩ X7).setCell ⟨b, 8, none⟩ X8).setCell ⟨b, 9, none⟩ X9).cell? ⟨b, 8, none⟩ = some X8 ∧ ((((((((((w.setCell ⟨b, 0, none⟩ X0).setCell ⟨b, 1, none⟩ X1).setCell ⟨b, 2, none⟩ X2).setCell ⟨b, 3, none⟩ X3).setCell ⟨b, 4, none⟩ X4).setCell ⟨b, 5, none⟩ X5).setCell ⟨b, 6, none⟩ X6).setCell ⟨b, 7, none⟩ X7).setCell ⟨b, 8, none⟩ X8).setCell ⟨b, 9, none⟩ X9).cell? ⟨b, 9, none⟩ = some X9 := by
 obtain ⟨_, _, _, _, _, _, _, _, _, _, h10⟩ := laid10_blk h
 have := h10 X0 X1 X2 X3 X4 X5 X6 X7 X8 X9
 exact ⟨by simp only [World.cell?, this]; rfl, by simp only [World.cell?, this]; rfl, by simp only [World.cell?, this]; rfl, by simp only [World.cell?, this]; rfl, by simp only [World.cell?, this]; rfl, by simp only [World.cell?, this]; rfl, by simp only [World.cell?, this]; rfl, by simp only [World.cell?, this]; rfl, by simp only [World.cell?, this]; rfl, by simp only [World.cell?, this]; rfl⟩
theorem laid10_below {B : Nat} {w0 w : World} (hb : Below B w0 w) {b : Nat} (hl : B ≤ b) (X0 X1 X2 X3 X4 X5 X6 X7 X8 X9 : Value) : Below B w0 ((((((((((w.setCell ⟨b, 0, none⟩ X0).setCell ⟨b, 1, none⟩ X1).setCell ⟨b, 2, none⟩ X2).setCell ⟨b, 3, none⟩ X3).setCell ⟨b, 4, none⟩ X4).setCell ⟨b, 5, none⟩ X5).setCell ⟨b, 6, none⟩ X6).setCell ⟨b, 7, none⟩ X7).setCell ⟨b, 8, none⟩ X8).setCell ⟨b, 9, none⟩ X9) := ((((((((((hb.setCell (p := ⟨b, 0, none⟩) hl X0).setCell (p := ⟨b, 1, none⟩) hl X1).setCell (p := ⟨b, 2, none⟩) hl X2).setCell (p := ⟨b, 3, none⟩) hl X3).setCell (p := ⟨b, 4, none⟩) hl X4).setCell (p := ⟨b, 5, none⟩) hl X5).setCell (p := ⟨b, 6, none⟩) hl X6).setCell (p := ⟨b, 7, none⟩) hl X7).setCell (p := ⟨b, 8, none⟩) hl X8).setCell (p := ⟨b, 9, none⟩) hl X9)
theorem laid10_keep (w : World) {b k : Nat} (hk : k ≠ b) (X0 X1 X2 X3 X4 X5 X6 X7 X8 X9 : Value) : ((((((((((w.setCell ⟨b, 0, none⟩ X0).setCell ⟨b, 1, none⟩ X1).setCell ⟨b, 2, none⟩ X2).setCell ⟨b, 3, none⟩ X3).setCell ⟨b, 4, none⟩ X4).setCell ⟨b, 5, none⟩ X5).setCell ⟨b, 6, none⟩ X6).setCell ⟨b, 7, none⟩ X7).setCell ⟨b, 8, none⟩ X8).setCell ⟨b, 9, none⟩ X9).heap[k]? = w.heap[k]? := ((Below.heap_setCell _ ⟨b, 9, none⟩ _ k hk).trans ((Below.heap_setCell _ ⟨b, 8, none⟩ _ k hk).trans ((Below.heap_setCell _ ⟨b, 7, none⟩ _ k hk).trans ((Below.heap_setCell _ ⟨b, 6, none⟩ _ k hk).trans ((Below.heap_setCell _ ⟨b, 5, none⟩ _ k hk).trans ((Below.heap_setCell _ ⟨b, 4, none⟩ _ k hk).trans ((Below.heap_setCell _ ⟨b, 3, none⟩ _ k hk).trans ((Below.heap_setCell _ ⟨b, 2, none⟩ _ k hk).trans ((Below.heap_setCell _ ⟨b, 1, none⟩ _ k hk).trans ((Below.heap_setCell _ ⟨b, 0, none⟩ _ k hk)))))))))))
theorem laid10_keepd (w : World) {b k : Nat} (hk : k ≠ b) (X0 X1 X2 X3 X4 X5 X6 X7 X8 X9 : Value) : (((((((((((w.setCell ⟨b, 0, none⟩ X0).setCell ⟨b, 1, none⟩ X1).setCell ⟨b, 2, none⟩ X2).setCell ⟨b, 3, none⟩ X3).setCell ⟨b, 4, none⟩ X4).setCell ⟨b, 5, none⟩ X5).setCell ⟨b, 6, none⟩ X6).setCell ⟨b, 7, none⟩ X7).setCell ⟨b, 8, none⟩ X8).setCell ⟨b, 9, none⟩ X9).drew).heap[k]? = w.heap[k]? := by
 rw [show ∀ W : World, W.drew.heap = W.heap from fun _ => rfl]
 exact laid10_keep w hk X0 X1 X2 X3 X4 X5 X6 X7 X8 X9
theorem letter_any' (w : World) (hK : KwIn w) (s : Sch) (ur us ug : Value) (hS : SchR w s ur us ug) (hM : Small s) (a id : Tx) (hx : id.length ≤ 1000000) (i fr : Int) :
  Calls Tryz.prog 106 #[.agg #[sT s.name, ur, us, ug], sT a, sT id, iV i, iV fr] w fun x w' => (∃ (f t p : Int) (k sv mt : Tx), x = .returned (.tuple #[.agg (ltr f t p k sv mt), iV (letE s a id i fr : Nat)]) ∧ (letE s a id i fr = 0 → sv = (stpOf s a i).service ∧ mt = (stpOf s a i).method ∧ k = keyA id i false)) ∧ Below w.heap.size w w' := by
 have HF := zD (fun W (h : Below w.heap.size w W) => found_any W (hK.below h) s ur us ug (hS.below h) hM a)
 have HID := zD (fun W => id_any W id hx)
 have HKY := zD (fun W => key_any W id hx i false)
 have HLE := zD (show letE s a id i fr = if (foundA s a).2 = 0 then (if idA id = true ∧ 0 ≤ fr ∧ fr < 4 then (if 0 ≤ i ∧ i < ((foundA s a).1.steps.length : Nat) then 0 else 241) else 1) else (foundA s a).2 from rfl)
 have HST := zD (show stpOf s a i = (foundA s a).1.steps.getD i.toNat ⟨[], [], 0⟩ from rfl)
 generalize letE s a id i fr = LE at *
 generalize stpOf s a i = ST at *
 generalize foundA s a = F at *
 obtain ⟨⟨gn, ga, gs⟩, fe⟩ := F
 dsimp only at HF HLE HST ⊢
 clear hS hK hM
 go_enter Tryz.func106, Tryz.ntmps106
 go_upto_region 1 with (fail)
 generalize hwa : ((w.alloc (.cells #[sT s.name, ur, us, ug] 26)).alloc (.cells #[.int .u8 0, iV 0, iV 0, .int .u64 0, eS, .int .u64 0, eS, eS, iV 0, eS] 63)) = wa
 have HBa := zD (show Below w.heap.size w wa from hwa ▸ ((Below.refl _ w).alloc zn _).alloc (by simp) _)
 have HXa := zD (show wa.heap[w.heap.size]? = some (.cells #[sT s.name, ur, us, ug] 26 (0, 0)) from hwa ▸ (Below.heap_alloc _ _ _ (by simp)).trans (zw _ _))
 have HYa := zD (show wa.heap[w.heap.size + 1]? = some (.cells #[.int .u8 0, iV 0, iV 0, .int .u64 0, eS, .int .u64 0, eS, eS, iV 0, eS] 63 (0, 0)) from hwa ▸ heap_alloc_new2 _ _ _)
 have hza : wa.heap.size = w.heap.size + 2 := by rw [← hwa]; simp
 clear hwa
 have HZA := zD hza
 clear hza
 have x0 := zF HXa 0 rfl
 have x1 : wa.cell? ⟨w.heap.size, 1, none⟩ = some ur := by simp only [World.cell?, HXa.out]; rfl
 have x2 : wa.cell? ⟨w.heap.size, 2, none⟩ = some us := by simp only [World.cell?, HXa.out]; rfl
 have x3 : wa.cell? ⟨w.heap.size, 3, none⟩ = some ug := by simp only [World.cell?, HXa.out]; rfl
 go_wp2_with fail
 refine (HF.out wa HBa.out).mono ?_
 rintro e w2 ⟨u, n, rfl, hu, hb⟩
 obtain ⟨ua, uc, rfl⟩ := own_slice hu
 have HB2 := zT HBa hb
 have HY2 := zD ((hb.block _ (by have := HZA.out; omega)).trans HYa.out)
 have HU := zD hu
 have hl2 : w.heap.size + 1 < w2.heap.size := (zq HY2.out).1
 clear hu hb HF x0 x1 x2 x3
 go_upto_region 2 with (fail)
 have hz3 : (w2.alloc (.cells #[sT gn, sT ga, .slice ua gs.length uc] 67)).heap.size = w2.heap.size + 1 := by simp
 generalize hw3 : w2.alloc (.cells #[sT gn, sT ga, .slice ua gs.length uc] 67) = w3 at *
 have HB3 := zD (show Below w.heap.size w w3 from hw3 ▸ HB2.out.alloc HB2.out.size _)
 have HY3 := zD (show w3.heap[w.heap.size + 1]? = _ from hw3 ▸ (Below.heap_alloc w2 (.cells #[sT gn, sT ga, .slice ua gs.length uc] 67) _ hl2).trans HY2.out)
 have HG3 := zD (show w3.heap[w2.heap.size]? = some (.cells #[sT gn, sT ga, .slice ua gs.length uc] 67 (0, 0)) from hw3 ▸ zw w2 _)
 have HU3 := zD (show w3.ownsRow wa.heap.size 108 3 (.slice ua gs.length uc) gs.length (pcells gs) from hw3 ▸ own_below HU.out (bl1 w2 _))
 have HZ3 := zD hz3
 clear hw3 hz3 HU
 by_cases hfe : fe = 0
 case neg =>
  have d0 : ((fe : Int) != 0) = true := by simp; omega
  have HE := zD (HLE.out.trans (if_neg hfe)); obtain ⟨l0, l1, l2, l3, l4, l5, l6, l7, l8, l9, g0, g1, g2, g3, g4, g5, g6, g7, g8, g9⟩ := laid10_cells HY3.out; obtain ⟨m0, m1, m2, m3, m4, m5, m6, m7, m8, m9⟩ := laid10_read HY3.out (.int .u8 0) (iV 0) (iV 0) (.int .u64 0) (eS) (.int .u64 0) (eS) (eS) (iV 0) (eS); have HWf := zD (laid10_below HB3.out (show w.heap.size ≤ w.heap.size + 1 by omega) (.int .u8 0) (iV 0) (iV 0) (.int .u64 0) (eS) (.int .u64 0) (eS) (eS) (iV 0) (eS)); go_wp2_with fail; exact bodyPost_ret (v := .tuple #[.agg (ltr 0 0 0 [] [] []), iV (fe : Nat)]) (by simp [results, Tryz.results106, go_sem, m0, m1, m2, m3, m4, m5, m6, m7, m8, m9, ltr, bT]) rfl ⟨⟨0, 0, 0, [], [], [], by first | (rw [HE.out]; done) | (rw [HE.out]; rfl), fun h => absurd h (by rw [HE.out]; exact hfe)⟩, HWf.out⟩
 subst hfe
 have d0 : (((0 : Nat) : Int) != 0) = false := by decide
 have HL2 := zD (HLE.out.trans (if_pos rfl))
 clear HLE
 have HIc := zD (HID.out w3)
 go_wp2_with fail
 refine HIc.out.mono ?_
 rintro e w4 ⟨rfl, hb4⟩
 have HB4 := zT HB3 hb4
 have HY4 := zD ((hb4.block _ (by have := HZ3.out; omega)).trans HY3.out)
 have HG4 := zD ((hb4.block _ (by have := HZ3.out; omega)).trans HG3.out)
 have HU4 := zD (own_below HU3.out hb4)
 have hl4 : w2.heap.size < w4.heap.size := (zq HG4.out).1
 clear hb4 HIc HY3 HG3 HU3
 generalize idA id = ok at *
 cases ok
 ·have HE := zD (show LE = 1 from HL2.out.trans (if_neg (by simp)))
  obtain ⟨l0, l1, l2, l3, l4, l5, l6, l7, l8, l9, g0, g1, g2, g3, g4, g5, g6, g7, g8, g9⟩ := laid10_cells HY4.out; obtain ⟨m0, m1, m2, m3, m4, m5, m6, m7, m8, m9⟩ := laid10_read HY4.out (.int .u8 0) (iV 0) (iV 0) (.int .u64 0) (eS) (.int .u64 0) (eS) (eS) (iV 0) (eS); have HWf := zD (laid10_below HB4.out (show w.heap.size ≤ w.heap.size + 1 by omega) (.int .u8 0) (iV 0) (iV 0) (.int .u64 0) (eS) (.int .u64 0) (eS) (eS) (iV 0) (eS)); go_wp2_with fail; exact bodyPost_ret (v := .tuple #[.agg (ltr 0 0 0 [] [] []), iV 1]) (by simp [results, Tryz.results106, go_sem, m0, m1, m2, m3, m4, m5, m6, m7, m8, m9, ltr, bT]) rfl ⟨⟨0, 0, 0, [], [], [], by first | (rw [HE.out]; done) | (rw [HE.out]; rfl), fun h => absurd h (by rw [HE.out]; decide)⟩, HWf.out⟩
 by_cases h1 : fr < 0
 ·have HE := zD (show LE = 1 from HL2.out.trans (if_neg (by omega)))
  have d1 : decide (fr < 0) = true := zt h1; obtain ⟨l0, l1, l2, l3, l4, l5, l6, l7, l8, l9, g0, g1, g2, g3, g4, g5, g6, g7, g8, g9⟩ := laid10_cells HY4.out; obtain ⟨m0, m1, m2, m3, m4, m5, m6, m7, m8, m9⟩ := laid10_read HY4.out (.int .u8 0) (iV 0) (iV 0) (.int .u64 0) (eS) (.int .u64 0) (eS) (eS) (iV 0) (eS); have HWf := zD (laid10_below HB4.out (show w.heap.size ≤ w.heap.size + 1 by omega) (.int .u8 0) (iV 0) (iV 0) (.int .u64 0) (eS) (.int .u64 0) (eS) (eS) (iV 0) (eS)); go_wp2_with fail; exact bodyPost_ret (v := .tuple #[.agg (ltr 0 0 0 [] [] []), iV 1]) (by simp [results, Tryz.results106, go_sem, m0, m1, m2, m3, m4, m5, m6, m7, m8, m9, ltr, bT]) rfl ⟨⟨0, 0, 0, [], [], [], by first | (rw [HE.out]; done) | (rw [HE.out]; rfl), fun h => absurd h (by rw [HE.out]; decide)⟩, HWf.out⟩
 have d1 : decide (fr < 0) = false := zf h1
 by_cases h2 : 4 ≤ fr
 ·have HE := zD (show LE = 1 from HL2.out.trans (if_neg (by omega)))
  have d2 : decide (4 ≤ fr) = true := zt h2; obtain ⟨l0, l1, l2, l3, l4, l5, l6, l7, l8, l9, g0, g1, g2, g3, g4, g5, g6, g7, g8, g9⟩ := laid10_cells HY4.out; obtain ⟨m0, m1, m2, m3, m4, m5, m6, m7, m8, m9⟩ := laid10_read HY4.out (.int .u8 0) (iV 0) (iV 0) (.int .u64 0) (eS) (.int .u64 0) (eS) (eS) (iV 0) (eS); have HWf := zD (laid10_below HB4.out (show w.heap.size ≤ w.heap.size + 1 by omega) (.int .u8 0) (iV 0) (iV 0) (.int .u64 0) (eS) (.int .u64 0) (eS) (eS) (iV 0) (eS)); go_wp2_with fail; exact bodyPost_ret (v := .tuple #[.agg (ltr 0 0 0 [] [] []), iV 1]) (by simp [results, Tryz.results106, go_sem, m0, m1, m2, m3, m4, m5, m6, m7, m8, m9, ltr, bT]) rfl ⟨⟨0, 0, 0, [], [], [], by first | (rw [HE.out]; done) | (rw [HE.out]; rfl), fun h => absurd h (by rw [HE.out]; decide)⟩, HWf.out⟩
 have d2 : decide (4 ≤ fr) = false := zf h2
 have HL3 := zD (HL2.out.trans (if_pos ⟨rfl, by omega, by omega⟩))
 clear HL2
 have c2 := zF HG4 2 rfl
 by_cases h3 : i < 0
 ·have HE := zD (show LE = 241 from HL3.out.trans (if_neg (by omega)))
  have d3 : decide (i < 0) = true := zt h3; obtain ⟨l0, l1, l2, l3, l4, l5, l6, l7, l8, l9, g0, g1, g2, g3, g4, g5, g6, g7, g8, g9⟩ := laid10_cells HY4.out; obtain ⟨m0, m1, m2, m3, m4, m5, m6, m7, m8, m9⟩ := laid10_read HY4.out (.int .u8 0) (iV 0) (iV 0) (.int .u64 0) (eS) (.int .u64 0) (eS) (eS) (iV 0) (eS); have HWf := zD (laid10_below HB4.out (show w.heap.size ≤ w.heap.size + 1 by omega) (.int .u8 0) (iV 0) (iV 0) (.int .u64 0) (eS) (.int .u64 0) (eS) (eS) (iV 0) (eS)); go_wp2_with fail; exact bodyPost_ret (v := .tuple #[.agg (ltr 0 0 0 [] [] []), iV 241]) (by simp [results, Tryz.results106, go_sem, m0, m1, m2, m3, m4, m5, m6, m7, m8, m9, ltr, bT]) rfl ⟨⟨0, 0, 0, [], [], [], by first | (rw [HE.out]; done) | (rw [HE.out]; rfl), fun h => absurd h (by rw [HE.out]; decide)⟩, HWf.out⟩
 have d3 : decide (i < 0) = false := zf h3
 by_cases h4 : (gs.length : Int) ≤ i
 ·have HE := zD (show LE = 241 from HL3.out.trans (if_neg (by omega)))
  have d4 : decide ((gs.length : Int) ≤ i) = true := zt h4; obtain ⟨l0, l1, l2, l3, l4, l5, l6, l7, l8, l9, g0, g1, g2, g3, g4, g5, g6, g7, g8, g9⟩ := laid10_cells HY4.out; obtain ⟨m0, m1, m2, m3, m4, m5, m6, m7, m8, m9⟩ := laid10_read HY4.out (.int .u8 0) (iV 0) (iV 0) (.int .u64 0) (eS) (.int .u64 0) (eS) (eS) (iV 0) (eS); have HWf := zD (laid10_below HB4.out (show w.heap.size ≤ w.heap.size + 1 by omega) (.int .u8 0) (iV 0) (iV 0) (.int .u64 0) (eS) (.int .u64 0) (eS) (eS) (iV 0) (eS)); go_wp2_with fail; exact bodyPost_ret (v := .tuple #[.agg (ltr 0 0 0 [] [] []), iV 241]) (by simp [results, Tryz.results106, go_sem, m0, m1, m2, m3, m4, m5, m6, m7, m8, m9, ltr, bT]) rfl ⟨⟨0, 0, 0, [], [], [], by first | (rw [HE.out]; done) | (rw [HE.out]; rfl), fun h => absurd h (by rw [HE.out]; decide)⟩, HWf.out⟩
 have d4 : decide ((gs.length : Int) ≤ i) = false := zf h4
 have HE := zD (show LE = 0 from HL3.out.trans (if_pos (by omega)))
 obtain ⟨k, rfl⟩ := Int.eq_ofNat_of_zero_le (show 0 ≤ i by omega)
 have hk : k < gs.length := by omega
 have HST2 := zD (show ST = gs[k] from by rw [HST.out, Int.toNat_natCast, List.getD_eq_getElem?_getD, List.getElem?_eq_getElem hk]; rfl)
 obtain ⟨b9, o9, rfl, hb9, q0, q1, q2⟩ := stp_at (Slc.own HU4.out) hk
 generalize gs[k] = x at *
 obtain rfl := HST2.out
 have hi1 : (0 : Int) ≤ (k : Int) := by omega
 have hi2 : (k : Int) < (gs.length : Int) := by omega
 clear HL3 HST HST2 h1 h2 h3 h4
 go_upto_region 9 with (fail)
 generalize hw5 : w4.alloc (.cells #[sT ST.service, sT ST.method, iV ST.node] 108) = w5
 have HB5 := zD (show Below w.heap.size w w5 from hw5 ▸ HB4.out.alloc HB4.out.size _)
 have HY5 := zD (show w5.heap[w.heap.size + 1]? = _ from hw5 ▸ (Below.heap_alloc w4 (.cells #[sT ST.service, sT ST.method, iV ST.node] 108) _ (by omega)).trans HY4.out)
 have HG5 := zD (show w5.heap[w4.heap.size]? = some (.cells #[sT ST.service, sT ST.method, iV ST.node] 108 (0, 0)) from hw5 ▸ zw _ _)
 have hl5 : w4.heap.size < w5.heap.size := (zq HG5.out).1
 have HSX := zD (fun (W : World) (e1 : W.heap[w4.heap.size]? = w5.heap[w4.heap.size]?) => show (fun (W : World) => W.cell? ⟨w4.heap.size, 0, none⟩ = some (sT ST.service) ∧ W.cell? ⟨w4.heap.size, 1, none⟩ = some (sT ST.method) ∧ W.cell? ⟨w4.heap.size, 2, none⟩ = some (iV ST.node)) W from by simp [World.cell?, e1.trans HG5.out])
 clear hw5 HG4 HU4 HY4 c2 q0 q1 q2
 generalize hka : keyA id (k : Int) false = KA at *
 have HKA := zD hka.symm
 clear hka
 have HY7 := zD (fun W (h : Below w5.heap.size w5 W) => (h.block (w.heap.size + 1) (by omega)).trans HY5.out)
 have HL7 := zD (fun W (h : Below w5.heap.size w5 W) => laid10_cells (HY7.out W h))
 have hkd : w5.drew.heap[w4.heap.size]? = w5.heap[w4.heap.size]? := rfl
 have hne : w4.heap.size ≠ w.heap.size + 1 := by omega
 go_region_held3 (fun (W : World) => W.cell? ⟨w4.heap.size, 0, none⟩ = some (sT ST.service) ∧ W.cell? ⟨w4.heap.size, 1, none⟩ = some (sT ST.method) ∧ W.cell? ⟨w4.heap.size, 2, none⟩ = some (iV ST.node))
  (first | with_reducible exact HSX.out _ hkd | with_reducible exact HSX.out _ hk7 | with_reducible exact HSX.out _ ((laid10_keep w7 hne _ _ _ _ _ _ _ _ _ _).trans hk7) | with_reducible exact HSX.out _ ((laid10_keepd w7 hne _ _ _ _ _ _ _ _ _ _).trans hk7) | assumption)
  (first
   | (go_at_call 81; ((with_reducible refine (HKY.out _).mono ?_); rintro e w7 ⟨rfl, hb7⟩; have hk7 : w7.heap[w4.heap.size]? = w5.heap[w4.heap.size]? := hb7.block w4.heap.size hl5; obtain ⟨l0, l1, l2, l3, l4, l5, l6, l7, l8, l9, g0, g1, g2, g3, g4, g5, g6, g7, g8, g9⟩ := HL7.out w7 ((Below.refl _ w5).drew.trans hb7))))
 all_goals
  have HB7 := zD (show Below w.heap.size w w7 from HB5.out.trans (((Below.refl _ w5).drew.trans hb7).mono HB5.out.size)); obtain ⟨m0, m1, m2, m3, m4, m5, m6, m7, m8, m9⟩ := laid10_read (HY7.out w7 ((Below.refl _ w5).drew.trans hb7)) (.int .u8 0) (iV fr) (iV ST.node) (.int .u64 0) (sT KA) (.int .u64 n) (sT ST.service) (sT ST.method) (iV 0) (eS); have HWf := zD (laid10_below HB7.out (show w.heap.size ≤ w.heap.size + 1 by omega) (.int .u8 0) (iV fr) (iV ST.node) (.int .u64 0) (sT KA) (.int .u64 n) (sT ST.service) (sT ST.method) (iV 0) (eS)); clear hk7 hb7 l0 l1 l2 l3 l4 l5 l6 l7 l8 l9 g0 g1 g2 g3 g4 g5 g6 g7 g8 g9; go_wp2_with fail; exact bodyPost_ret (v := .tuple #[.agg (ltr fr ST.node n KA ST.service ST.method), iV 0]) (by simp [results, Tryz.results106, go_sem, m0, m1, m2, m3, m4, m5, m6, m7, m8, m9, ltr]) rfl ⟨⟨fr, ST.node, n, KA, ST.service, ST.method, by rw [HE.out]; rfl, fun _ => ⟨rfl, rfl, HKA.out⟩⟩, HWf.out⟩
def undoOf (s : Sch) (a : Tx) (i : Int) : Tx := (mOr (mthOf s (stpOf s a i).service (stpOf s a i).method)).undo
def callE (s : Sch) (a id : Tx) (i : Int) (back : Bool) (fr : Int) : Nat := if letE s a id i fr = 0 then (if back = true ∧ undoOf s a i = [] then 133 else 0) else letE s a id i fr
theorem call_any (w : World) (hK : KwIn w) (s : Sch) (ur us ug : Value) (hS : SchR w s ur us ug) (hM : Small s) (a id : Tx) (hx : id.length ≤ 1000000) (i : Int) (back : Bool) (fr : Int) (bd : ByteArray) :
  Calls Tryz.prog 79 #[.agg #[sT s.name, ur, us, ug], sT a, sT id, iV i, .bool back, iV fr, .string bd] w fun x w' => (∃ (kd f t p c : Int) (k sv mt b : ByteArray), x = .returned (.tuple #[.agg #[.int .u8 kd, iV f, iV t, .int .u64 0, .string k, .int .u64 p, .string sv, .string mt, iV c, .string b], iV (callE s a id i back fr : Nat)])) ∧ Below w.heap.size w w' := by
 have HL := zD (fun W (h : Below w.heap.size w W) => letter_any' W (hK.below h) s ur us ug (hS.below h) hM a id hx i fr)
 have HME := zD (fun W (h : Below w.heap.size w W) => method_any W s ur us ug (hS.below h) hM (stpOf s a i).service (stpOf s a i).method)
 have HKY := zD (fun W => key_any W id hx i true)
 have HCE := zD (show callE s a id i back fr = if letE s a id i fr = 0 then (if back = true ∧ undoOf s a i = [] then 133 else 0) else letE s a id i fr from rfl)
 have HU := zD (show undoOf s a i = (mOr (mthOf s (stpOf s a i).service (stpOf s a i).method)).undo from rfl)
 generalize callE s a id i back fr = CE at *
 generalize undoOf s a i = UN at *
 generalize stpOf s a i = ST at *
 generalize letE s a id i fr = LE at *
 clear hK hM
 go_enter Tryz.func79, Tryz.ntmps79
 go_upto_region 1 with (fail)
 generalize hwa : ((w.alloc (.cells #[sT s.name, ur, us, ug] 26)).alloc (.cells #[.int .u8 0, iV 0, iV 0, .int .u64 0, eS, .int .u64 0, eS, eS, iV 0, eS] 63)) = wa
 have HBa := zD (show Below w.heap.size w wa from hwa ▸ ((Below.refl _ w).alloc zn _).alloc (by simp) _)
 have HXa := zD (show wa.heap[w.heap.size]? = some (.cells #[sT s.name, ur, us, ug] 26 (0, 0)) from hwa ▸ (Below.heap_alloc _ _ _ (by simp)).trans (zw _ _))
 have HYa := zD (show wa.heap[w.heap.size + 1]? = some (.cells #[.int .u8 0, iV 0, iV 0, .int .u64 0, eS, .int .u64 0, eS, eS, iV 0, eS] 63 (0, 0)) from hwa ▸ heap_alloc_new2 _ _ _)
 have hza : wa.heap.size = w.heap.size + 2 := by rw [← hwa]; simp
 have HZA := zD hza
 clear hwa hza
 have HS := zD hS
 clear hS
 have x0 := zF HXa 0 rfl
 have x1 : wa.cell? ⟨w.heap.size, 1, none⟩ = some ur := by simp only [World.cell?, HXa.out]; rfl
 have x2 : wa.cell? ⟨w.heap.size, 2, none⟩ = some us := by simp only [World.cell?, HXa.out]; rfl
 have x3 : wa.cell? ⟨w.heap.size, 3, none⟩ = some ug := by simp only [World.cell?, HXa.out]; rfl
 go_wp2_with fail
 refine (HL.out wa HBa.out).mono ?_
 rintro e w2 ⟨⟨f, tt, p, k, sv, mt, rfl, heq⟩, hb⟩
 unfold ltr
 have HEQ := zD heq
 have HB2 := zT HBa hb
 have HX2 := zD ((hb.block _ (by have := HZA.out; omega)).trans HXa.out)
 have HY2 := zD ((hb.block _ (by have := HZA.out; omega)).trans HYa.out)
 have hl2 : w.heap.size + 1 < w2.heap.size := (zq HY2.out).1
 clear hb heq HL x0 x1 x2 x3
 go_upto_region 2 with (fail)
 generalize hw3 : w2.alloc (.cells #[.int .u8 0, iV f, iV tt, .int .u64 0, sT k, .int .u64 p, sT sv, sT mt, iV 0, eS] 63) = w3 at *
 have HB3 := zD (show Below w.heap.size w w3 from hw3 ▸ HB2.out.alloc HB2.out.size _)
 have HY3 := zD (show w3.heap[w.heap.size + 1]? = some (.cells #[.int .u8 0, iV 0, iV 0, .int .u64 0, eS, .int .u64 0, eS, eS, iV 0, eS] 63 (0, 0)) from hw3 ▸ (Below.heap_alloc w2 (.cells #[.int .u8 0, iV f, iV tt, .int .u64 0, sT k, .int .u64 p, sT sv, sT mt, iV 0, eS] 63) _ hl2).trans HY2.out)
 have HX3 := zD (show w3.heap[w.heap.size]? = some (.cells #[sT s.name, ur, us, ug] 26 (0, 0)) from hw3 ▸ (Below.heap_alloc w2 (.cells #[.int .u8 0, iV f, iV tt, .int .u64 0, sT k, .int .u64 p, sT sv, sT mt, iV 0, eS] 63) _ (by omega)).trans HX2.out)
 have HL3 := zD (show w3.heap[w2.heap.size]? = some (.cells #[.int .u8 0, iV f, iV tt, .int .u64 0, sT k, .int .u64 p, sT sv, sT mt, iV 0, eS] 63 (0, 0)) from hw3 ▸ zw w2 _)
 have hl3 : w2.heap.size < w3.heap.size := (zq HL3.out).1
 clear hw3
 by_cases hfe : LE = 0
 case neg =>
  have d0 : ((LE : Int) != 0) = true := by simp; omega
  have HE := zD (HCE.out.trans (if_neg hfe)); obtain ⟨l0, l1, l2, l3, l4, l5, l6, l7, l8, l9, g0, g1, g2, g3, g4, g5, g6, g7, g8, g9⟩ := laid10_cells HY3.out; obtain ⟨m0, m1, m2, m3, m4, m5, m6, m7, m8, m9⟩ := laid10_read HY3.out (.int .u8 0) (iV 0) (iV 0) (.int .u64 0) (eS) (.int .u64 0) (eS) (eS) (iV 0) (eS); have HWf := zD (laid10_below HB3.out (show w.heap.size ≤ w.heap.size + 1 by omega) (.int .u8 0) (iV 0) (iV 0) (.int .u64 0) (eS) (.int .u64 0) (eS) (eS) (iV 0) (eS)); go_wp2_with fail; exact bodyPost_ret (v := .tuple #[.agg #[.int .u8 0, iV 0, iV 0, .int .u64 0, eS, .int .u64 0, eS, eS, iV 0, eS], iV (LE : Nat)]) (by simp [results, Tryz.results79, go_sem, m0, m1, m2, m3, m4, m5, m6, m7, m8, m9]) rfl ⟨⟨0, 0, 0, 0, 0, ⟨#[]⟩, ⟨#[]⟩, ⟨#[]⟩, ⟨#[]⟩, by first | (rw [HE.out]; done) | (rw [HE.out]; rfl)⟩, HWf.out⟩
 have HC2 := zD (HCE.out.trans (if_pos hfe))
 obtain ⟨rfl, rfl, -⟩ := HEQ.out hfe
 clear HEQ
 subst hfe
 have d0 : (((0 : Nat) : Int) != 0) = false := by decide
 clear HCE
 obtain ⟨y0, y1, y2, y3, y4, y5, y6, y7, y8, y9, -⟩ := laid10_blk HL3.out
 have p0 := zG y0 0 rfl
 have pf : ∀ o, w3.frozen? ⟨w2.heap.size, o, none⟩ = false := fun o => by simp [World.frozen?, y0]
 have p9 : ∀ X, (w3.setCell ⟨w2.heap.size, 0, none⟩ X).cell? ⟨w2.heap.size, 9, none⟩ = some (eS) := fun X => by simp only [World.cell?, y1 X]; rfl
 have pf2 : ∀ X o, (w3.setCell ⟨w2.heap.size, 0, none⟩ X).frozen? ⟨w2.heap.size, o, none⟩ = false := fun X o => by simp [World.frozen?, y1 X]
 clear y0 y1 y2 y3 y4 y5 y6 y7 y8 y9
 go_upto_region 5 with (fail)
 have HB5 := zD ((HB3.out.setCell (p := ⟨w2.heap.size, 0, none⟩) HB2.out.size (.int .u8 1)).setCell (p := ⟨w2.heap.size, 9, none⟩) HB2.out.size (.string bd))
 have HL5 := zD (show ((w3.setCell ⟨w2.heap.size, 0, none⟩ (.int .u8 1)).setCell ⟨w2.heap.size, 9, none⟩ (.string bd)).heap[w2.heap.size]? = some (.cells #[.int .u8 1, iV f, iV tt, .int .u64 0, sT k, .int .u64 p, sT ST.service, sT ST.method, iV 0, .string bd] 63 (0, 0)) from (set_blk (set_blk HL3.out 0 (.int .u8 1)) 9 (.string bd)).trans rfl)
 have HY5 := zD (show ((w3.setCell ⟨w2.heap.size, 0, none⟩ (.int .u8 1)).setCell ⟨w2.heap.size, 9, none⟩ (.string bd)).heap[w.heap.size + 1]? = some (.cells #[.int .u8 0, iV 0, iV 0, .int .u64 0, eS, .int .u64 0, eS, eS, iV 0, eS] 63 (0, 0)) from (Below.heap_setCell _ _ _ _ (by show w.heap.size + 1 ≠ w2.heap.size; omega)).trans ((Below.heap_setCell _ _ _ _ (by show w.heap.size + 1 ≠ w2.heap.size; omega)).trans HY3.out))
 have HX5 := zD (show ((w3.setCell ⟨w2.heap.size, 0, none⟩ (.int .u8 1)).setCell ⟨w2.heap.size, 9, none⟩ (.string bd)).heap[w.heap.size]? = some (.cells #[sT s.name, ur, us, ug] 26 (0, 0)) from (Below.heap_setCell _ _ _ _ (by show w.heap.size ≠ w2.heap.size; omega)).trans ((Below.heap_setCell _ _ _ _ (by show w.heap.size ≠ w2.heap.size; omega)).trans HX3.out))
 clear p0 pf p9 pf2 HL3 HX3 HY3 HB3
 generalize (w3.setCell ⟨w2.heap.size, 0, none⟩ (.int .u8 1)).setCell ⟨w2.heap.size, 9, none⟩ (.string bd) = w5 at *
 have hl5 : w2.heap.size < w5.heap.size := (zq HL5.out).1
 cases back
 ·have HE := zD (show CE = 0 from HC2.out.trans (if_neg (by simp)))
  have y0 := zF HL5 0 rfl; have y1 := zF HL5 1 rfl; have y2 := zF HL5 2 rfl; have y3 := zF HL5 3 rfl; have y4 := zF HL5 4 rfl; have y5 := zF HL5 5 rfl; have y6 := zF HL5 6 rfl; have y7 := zF HL5 7 rfl; have y8 := zF HL5 8 rfl; have y9 := zF HL5 9 rfl; obtain ⟨l0, l1, l2, l3, l4, l5, l6, l7, l8, l9, g0, g1, g2, g3, g4, g5, g6, g7, g8, g9⟩ := laid10_cells HY5.out; obtain ⟨m0, m1, m2, m3, m4, m5, m6, m7, m8, m9⟩ := laid10_read HY5.out (.int .u8 1) (iV f) (iV tt) (.int .u64 0) (sT k) (.int .u64 p) (sT ST.service) (sT ST.method) (iV 0) (.string bd); have HWf := zD (laid10_below HB5.out (show w.heap.size ≤ w.heap.size + 1 by omega) (.int .u8 1) (iV f) (iV tt) (.int .u64 0) (sT k) (.int .u64 p) (sT ST.service) (sT ST.method) (iV 0) (.string bd)); go_wp2_with fail; exact bodyPost_ret (v := .tuple #[.agg #[.int .u8 1, iV f, iV tt, .int .u64 0, sT k, .int .u64 p, sT ST.service, sT ST.method, iV 0, .string bd], iV 0]) (by simp [results, Tryz.results79, go_sem, m0, m1, m2, m3, m4, m5, m6, m7, m8, m9]) rfl ⟨⟨1, f, tt, p, 0, (bT k), bT ST.service, (bT ST.method), bd, by rw [HE.out]; rfl⟩, HWf.out⟩
 have hx5 := HX5.out
 have x0 := zG hx5 0 rfl
 have x1 : w5.cell? ⟨w.heap.size, 1, none⟩ = some ur := by simp only [World.cell?, hx5]; rfl
 have x2 : w5.cell? ⟨w.heap.size, 2, none⟩ = some us := by simp only [World.cell?, hx5]; rfl
 have x3 : w5.cell? ⟨w.heap.size, 3, none⟩ = some ug := by simp only [World.cell?, hx5]; rfl
 have y6 := zF HL5 6 rfl
 have y7 := zF HL5 7 rfl
 clear hx5
 have HMc := zD (HME.out w5 HB5.out)
 generalize mthOf s ST.service ST.method = M at *
 generalize mOr M = mm at *
 obtain ⟨mn, ma, mr, me, mu⟩ := mm
 dsimp only at HU
 obtain rfl : mu = UN := HU.out.symm
 unfold mV at HMc
 go_wp2_with fail
 refine HMc.out.mono ?_
 rintro e w6 ⟨rfl, hb6⟩
 have HB6 := zT HB5 hb6
 have HL6 := zD ((hb6.block _ hl5).trans HL5.out)
 have HY6 := zD ((hb6.block _ (by omega)).trans HY5.out)
 have hl6 : w2.heap.size < w6.heap.size := (zq HL6.out).1
 clear hb6 x0 x1 x2 x3 y6 y7 HMc HME
 go_upto_region 7 with (fail)
 generalize hw7 : w6.alloc (.cells #[sT mn, sT ma, .int .u8 (mr : Nat), sT me, sT mu] 92) = w7 at *
 have HB7 := zD (show Below w.heap.size w w7 from hw7 ▸ HB6.out.alloc HB6.out.size _)
 have HL7 := zD (show w7.heap[w2.heap.size]? = some (.cells #[.int .u8 1, iV f, iV tt, .int .u64 0, sT k, .int .u64 p, sT ST.service, sT ST.method, iV 0, .string bd] 63 (0, 0)) from hw7 ▸ (Below.heap_alloc w6 (.cells #[sT mn, sT ma, .int .u8 (mr : Nat), sT me, sT mu] 92) _ hl6).trans HL6.out)
 have HY7 := zD (show w7.heap[w.heap.size + 1]? = some (.cells #[.int .u8 0, iV 0, iV 0, .int .u64 0, eS, .int .u64 0, eS, eS, iV 0, eS] 63 (0, 0)) from hw7 ▸ (Below.heap_alloc w6 (.cells #[sT mn, sT ma, .int .u8 (mr : Nat), sT me, sT mu] 92) _ (by omega)).trans HY6.out)
 have HM7 := zD (show w7.heap[w6.heap.size]? = some (.cells #[sT mn, sT ma, .int .u8 (mr : Nat), sT me, sT mu] 92 (0, 0)) from hw7 ▸ zw w6 _)
 have hl7 : w6.heap.size < w7.heap.size := (zq HM7.out).1
 clear hw7 HL6 HY6
 have u4 := zF HM7 4 rfl
 have HTe := zD (show (bT mu).toList.isEmpty = decide (mu = []) from by rw [bT_list]; cases mu <;> rfl)
 by_cases hu : mu = []
 ·have e1 := HTe.out
  rw [zt hu] at e1; have HE := zD (show CE = 133 from HC2.out.trans (if_pos ⟨by simp, hu⟩)); clear hu; obtain ⟨l0, l1, l2, l3, l4, l5, l6, l7, l8, l9, g0, g1, g2, g3, g4, g5, g6, g7, g8, g9⟩ := laid10_cells HY7.out; obtain ⟨m0, m1, m2, m3, m4, m5, m6, m7, m8, m9⟩ := laid10_read HY7.out (.int .u8 0) (iV 0) (iV 0) (.int .u64 0) (eS) (.int .u64 0) (eS) (eS) (iV 0) (eS); have HWf := zD (laid10_below HB7.out (show w.heap.size ≤ w.heap.size + 1 by omega) (.int .u8 0) (iV 0) (iV 0) (.int .u64 0) (eS) (.int .u64 0) (eS) (eS) (iV 0) (eS)); go_wp2_with fail; exact bodyPost_ret (v := .tuple #[.agg #[.int .u8 0, iV 0, iV 0, .int .u64 0, eS, .int .u64 0, eS, eS, iV 0, eS], iV 133]) (by simp [results, Tryz.results79, go_sem, m0, m1, m2, m3, m4, m5, m6, m7, m8, m9]) rfl ⟨⟨0, 0, 0, 0, 0, ⟨#[]⟩, ⟨#[]⟩, ⟨#[]⟩, ⟨#[]⟩, by first | (rw [HE.out]; done) | (rw [HE.out]; rfl)⟩, HWf.out⟩
 have e1 := HTe.out
 rw [zf hu] at e1
 have HE := zD (show CE = 0 from HC2.out.trans (if_neg (fun h => hu h.2)))
 clear hu HTe HC2
 go_upto_region 9 with (fail)
 have HSX := zD (fun (W : World) (e1 : W.heap[w6.heap.size]? = w7.heap[w6.heap.size]?) => show (fun (W : World) => W.cell? ⟨w6.heap.size, 4, none⟩ = some (sT mu)) W from by simp [World.cell?, e1.trans HM7.out])
 have hkd : w7.drew.heap[w6.heap.size]? = w7.heap[w6.heap.size]? := rfl
 have hne : w6.heap.size ≠ w2.heap.size := by omega
 have HLW := zD (fun W (h : Below w7.heap.size w7 W) => show W.heap[w2.heap.size]? = some (.cells #[.int .u8 1, iV f, iV tt, .int .u64 0, sT k, .int .u64 p, sT ST.service, sT ST.method, iV 0, .string bd] 63 (0, 0)) from (h.block _ (by omega)).trans HL7.out)
 have HLF := zD (fun W (h : Below w7.heap.size w7 W) => show (∀ o, W.frozen? ⟨w2.heap.size, o, none⟩ = false) ∧ W.cell? ⟨w2.heap.size, 7, none⟩ = some (sT ST.method) ∧ (∀ X, (W.setCell ⟨w2.heap.size, 7, none⟩ X).cell? ⟨w2.heap.size, 4, none⟩ = some (sT k)) ∧ (∀ X o, (W.setCell ⟨w2.heap.size, 7, none⟩ X).frozen? ⟨w2.heap.size, o, none⟩ = false) from ⟨fun o => by simp [World.frozen?, HLW.out W h], by simp only [World.cell?, HLW.out W h]; rfl, fun X => by simp only [World.cell?, set_blk (HLW.out W h) 7 X]; rfl, fun X o => by simp [World.frozen?, set_blk (HLW.out W h) 7 X]⟩)
 have hsk : ∀ (W : World) o X, (W.setCell ⟨w2.heap.size, o, none⟩ X).heap[w6.heap.size]? = W.heap[w6.heap.size]? := fun W o X => Below.heap_setCell W ⟨w2.heap.size, o, none⟩ X _ hne
 have hskd : ∀ (W : World) o X, (W.setCell ⟨w2.heap.size, o, none⟩ X).drew.heap[w6.heap.size]? = W.heap[w6.heap.size]? := fun W o X => Below.heap_setCell W ⟨w2.heap.size, o, none⟩ X _ hne
 have HSK := zD hsk
 have HSKD := zD hskd
 clear hsk hskd u4
 generalize keyA id i true = KA at *
 go_region_held3 (fun (W : World) => W.cell? ⟨w6.heap.size, 4, none⟩ = some (sT mu))
  (first | with_reducible exact HSX.out _ hkd | with_reducible exact HSX.out _ hk8 | with_reducible exact HSX.out _ ((HSK.out _ _ _).trans hk8) | with_reducible exact HSX.out _ ((HSKD.out _ _ _).trans hk8) | with_reducible exact HSX.out _ ((HSK.out _ _ _).trans ((HSK.out _ _ _).trans hk8)) | with_reducible exact HSX.out _ ((HSKD.out _ _ _).trans ((HSK.out _ _ _).trans hk8)) | assumption)
  (first
   | (go_at_call 81; ((with_reducible refine (HKY.out _).mono ?_); rintro e w8 ⟨rfl, hb8⟩; have hk8 : w8.heap[w6.heap.size]? = w7.heap[w6.heap.size]? := hb8.block w6.heap.size hl7; obtain ⟨v0, v1, v2, v3⟩ := HLF.out w8 ((Below.refl _ w7).drew.trans hb8))))
 all_goals
  have hbq : Below w7.heap.size w7 w8 := (Below.refl _ w7).drew.trans hb8; have HB9 := zD (((HB7.out.trans (hbq.mono HB7.out.size)).setCell (p := ⟨w2.heap.size, 7, none⟩) HB2.out.size (sT mu)).setCell (p := ⟨w2.heap.size, 4, none⟩) HB2.out.size (sT KA)); have HL9 := zD (show ((w8.setCell ⟨w2.heap.size, 7, none⟩ (sT mu)).setCell ⟨w2.heap.size, 4, none⟩ (sT KA)).heap[w2.heap.size]? = some (.cells #[.int .u8 1, iV f, iV tt, .int .u64 0, sT KA, .int .u64 p, sT ST.service, sT mu, iV 0, .string bd] 63 (0, 0)) from (set_blk (set_blk (HLW.out w8 hbq) 7 (sT mu)) 4 (sT KA)).trans rfl); have HY9 := zD (show ((w8.setCell ⟨w2.heap.size, 7, none⟩ (sT mu)).setCell ⟨w2.heap.size, 4, none⟩ (sT KA)).heap[w.heap.size + 1]? = some (.cells #[.int .u8 0, iV 0, iV 0, .int .u64 0, eS, .int .u64 0, eS, eS, iV 0, eS] 63 (0, 0)) from (Below.heap_setCell _ _ _ _ (by show w.heap.size + 1 ≠ w2.heap.size; omega)).trans ((Below.heap_setCell _ _ _ _ (by show w.heap.size + 1 ≠ w2.heap.size; omega)).trans ((hbq.block _ (by omega)).trans HY7.out))); clear hk8 hbq hb8 v0 v1 v2 v3; generalize (w8.setCell ⟨w2.heap.size, 7, none⟩ (sT mu)).setCell ⟨w2.heap.size, 4, none⟩ (sT KA) = w9 at *; have y0 := zF HL9 0 rfl; have y1 := zF HL9 1 rfl; have y2 := zF HL9 2 rfl; have y3 := zF HL9 3 rfl; have y4 := zF HL9 4 rfl; have y5 := zF HL9 5 rfl; have y6 := zF HL9 6 rfl; have y7 := zF HL9 7 rfl; have y8 := zF HL9 8 rfl; have y9 := zF HL9 9 rfl; obtain ⟨l0, l1, l2, l3, l4, l5, l6, l7, l8, l9, g0, g1, g2, g3, g4, g5, g6, g7, g8, g9⟩ := laid10_cells HY9.out; obtain ⟨m0, m1, m2, m3, m4, m5, m6, m7, m8, m9⟩ := laid10_read HY9.out (.int .u8 1) (iV f) (iV tt) (.int .u64 0) (sT KA) (.int .u64 p) (sT ST.service) (sT mu) (iV 0) (.string bd); have HWf := zD (laid10_below HB9.out (show w.heap.size ≤ w.heap.size + 1 by omega) (.int .u8 1) (iV f) (iV tt) (.int .u64 0) (sT KA) (.int .u64 p) (sT ST.service) (sT mu) (iV 0) (.string bd)); go_wp2_with fail; exact bodyPost_ret (v := .tuple #[.agg #[.int .u8 1, iV f, iV tt, .int .u64 0, sT KA, .int .u64 p, sT ST.service, sT mu, iV 0, .string bd], iV 0]) (by simp [results, Tryz.results79, go_sem, m0, m1, m2, m3, m4, m5, m6, m7, m8, m9]) rfl ⟨⟨1, f, tt, p, 0, (bT KA), bT ST.service, (bT mu), bd, by rw [HE.out]; rfl⟩, HWf.out⟩
structure Run where
 id : Tx
 sg : Tx
 arg : Tx
 at_ : Int
 ph : Nat
 tr : Int
 st : Bool
 wh : Int
 vl : Tx
def runC (r : Run) : Array Value := #[sT r.id, sT r.sg, sT r.arg, iV r.at_, .int .u8 (r.ph : Nat), iV r.tr, .bool r.st, iV r.wh, sT r.vl]
structure RunSmall (r : Run) : Prop where
 id : r.id.length ≤ 5000
 arg : r.arg.length ≤ 5000
 vl : r.vl.length ≤ 5000
def numsA (n : Nat) (r : Run) : Bool := decide (0 ≤ r.at_) && decide (r.at_ < (n : Int)) && decide (0 ≤ r.tr) && decide (r.tr ≤ 29) && decide (0 ≤ r.wh) && decide (r.wh ≤ 999) && decide (r.vl.length ≤ 4096)
def phaseA (s : Sch) (n : Nat) (r : Run) : Bool :=
 if r.ph = 1 then decide (r.wh = 0)
 else if r.ph = 3 then decide (r.wh = 0) && decide (r.at_ = (n : Int) - 1)
 else if r.ph = 4 then !decide (r.wh = 0) && decide (r.at_ = 0)
 else if r.ph = 2 ∨ r.ph = 5 then decide (callE s r.sg r.id r.at_ true 0 = 0) && !decide (r.wh = 0)
 else false
def endsA (r : Run) : Bool := (decide (r.ph = 2) || decide (r.ph = 5) || decide (r.tr = 0)) && (decide (r.ph = 1) || !r.st) && (decide (r.ph = 3) || decide (r.vl = []))
def rightR (s : Sch) (r : Run) : Bool := decide ((foundA s r.sg).2 = 0) && idA r.id && decide (argA s r.sg r.arg = 0) && numsA (foundA s r.sg).1.steps.length r && phaseA s (foundA s r.sg).1.steps.length r && endsA r
theorem found_small {s : Sch} (h : Small s) (a : Tx) : (foundA s a).1.steps.length ≤ 40 := by
 unfold foundA sagOf
 split
 ·cases hf : s.sagas.find? (fun v => decide (v.name = a)) with
  | none => exact Nat.zero_le _
  | some g => exact (h.sg g (List.mem_of_find?_eq_some hf)).2.2.1
 ·exact Nat.zero_le _
theorem sright_any (w : World) (hK : KwIn w) (s : Sch) (ur us ug : Value) (hS : SchR w s ur us ug) (hM : Small s) (r : Run) (hR : RunSmall r) :
  Calls Tryz.prog 43 #[.agg #[sT s.name, ur, us, ug], .agg (runC r)] w fun x w' => x = .returned (.bool (rightR s r)) ∧ Below w.heap.size w w' := by
 have HST := zD (fun W (h : Below w.heap.size w W) => sdsteps_any W (hK.below h) s ur us ug (hS.below h) hM r.sg)
 have HID := zD (fun W => id_any W r.id (by have := hR.id; omega))
 have HAR := zD (fun W (h : Below w.heap.size w W) => sarg_any W (hK.below h) s ur us ug (hS.below h) hM r.sg r.arg (by have := hR.arg; omega))
 have HCA := zD (fun W (h : Below w.heap.size w W) => call_any W (hK.below h) s ur us ug (hS.below h) hM r.sg r.id (by have := hR.id; omega) r.at_ true 0 ⟨#[]⟩)
 have HRR := zD (show rightR s r = (decide ((foundA s r.sg).2 = 0) && idA r.id && decide (argA s r.sg r.arg = 0) && numsA (foundA s r.sg).1.steps.length r && phaseA s (foundA s r.sg).1.steps.length r && endsA r) from rfl)
 have hn40 := found_small hM r.sg
 unfold runC
 generalize rightR s r = RR at *
 generalize foundA s r.sg = F at *
 obtain ⟨G, fe⟩ := F
 dsimp only at HST HRR hn40
 generalize G.steps.length = n at *
 generalize argA s r.sg r.arg = AE at *
 clear hK hM
 have HS := zD hS
 clear hS
 go_enter Tryz.func43, Tryz.ntmps43
 go_upto_region 1 with (fail)
 generalize hwa : ((w.alloc (.cells #[sT s.name, ur, us, ug] 26)).alloc (.cells #[sT r.id, sT r.sg, sT r.arg, iV r.at_, .int .u8 (r.ph : Nat), iV r.tr, .bool r.st, iV r.wh, sT r.vl] 53)) = wa
 have HBa := zD (show Below w.heap.size w wa from hwa ▸ ((Below.refl _ w).alloc zn _).alloc (by simp) _)
 have HXa := zD (show wa.heap[w.heap.size]? = some (.cells #[sT s.name, ur, us, ug] 26 (0, 0)) from hwa ▸ (Below.heap_alloc _ _ _ (by simp)).trans (zw _ _))
 have HYa := zD (show wa.heap[w.heap.size + 1]? = some (.cells #[sT r.id, sT r.sg, sT r.arg, iV r.at_, .int .u8 (r.ph : Nat), iV r.tr, .bool r.st, iV r.wh, sT r.vl] 53 (0, 0)) from hwa ▸ heap_alloc_new2 _ _ _)
 have hza : wa.heap.size = w.heap.size + 2 := by rw [← hwa]; simp
 clear hwa
 have HXS := zD (fun W (h : Below wa.heap.size wa W) => show W.cell? ⟨w.heap.size, 0, none⟩ = some (sT s.name) ∧ W.cell? ⟨w.heap.size, 1, none⟩ = some ur ∧ W.cell? ⟨w.heap.size, 2, none⟩ = some us ∧ W.cell? ⟨w.heap.size, 3, none⟩ = some ug from by
  have := (h.block w.heap.size (by omega)).trans HXa.out; simp [World.cell?, this])
 have HXR := zD (fun W (h : Below wa.heap.size wa W) => show W.cell? ⟨w.heap.size + 1, 0, none⟩ = some (sT r.id) ∧ W.cell? ⟨w.heap.size + 1, 1, none⟩ = some (sT r.sg) ∧ W.cell? ⟨w.heap.size + 1, 2, none⟩ = some (sT r.arg) ∧ W.cell? ⟨w.heap.size + 1, 3, none⟩ = some (iV r.at_) ∧ W.cell? ⟨w.heap.size + 1, 4, none⟩ = some (.int .u8 (r.ph : Nat)) ∧ W.cell? ⟨w.heap.size + 1, 5, none⟩ = some (iV r.tr) ∧ W.cell? ⟨w.heap.size + 1, 6, none⟩ = some (.bool r.st) ∧ W.cell? ⟨w.heap.size + 1, 7, none⟩ = some (iV r.wh) ∧ W.cell? ⟨w.heap.size + 1, 8, none⟩ = some (sT r.vl) from by
  have := (h.block (w.heap.size + 1) (by omega)).trans HYa.out; simp [World.cell?, this])
 have HDa := zD (Below.refl wa.heap.size wa)
 clear hza
 obtain ⟨r0, r1, r2, r3, r4, r5, r6, r7, r8⟩ := HXR.out wa HDa.out
 obtain ⟨x0, x1, x2, x3⟩ := HXS.out wa HDa.out
 go_wp2_with fail
 refine (HST.out wa HBa.out).mono ?_
 rintro e w2 ⟨rfl, hb⟩
 have HB2 := zT HBa hb
 have HD2 := zD hb
 clear hb HST
 clear r0 r1 r2 r3 r4 r5 r6 r7 r8 x0 x1 x2 x3
 obtain ⟨r0, r1, r2, r3, r4, r5, r6, r7, r8⟩ := HXR.out w2 HD2.out
 obtain ⟨x0, x1, x2, x3⟩ := HXS.out w2 HD2.out
 by_cases hfe : fe = 0
 case neg =>
  have d0 : ((fe : Int) != 0) = true := by simp; omega
  have HE := zD (show RR = false from by rw [HRR.out]; simp [hfe]); go_wp2_with fail; exact zR (v := .bool false) ⟨by rw [HE.out], HB2.out⟩
 subst hfe
 have d0 : (((0 : Nat) : Int) != 0) = false := by decide
 have HIc := zD (HID.out w2)
 go_wp2_with fail
 refine HIc.out.mono ?_
 rintro e w3 ⟨rfl, hb⟩
 have HB3 := zT HB2 hb
 have HD3 := zT HD2 hb
 clear hb HIc
 clear r0 r1 r2 r3 r4 r5 r6 r7 r8 x0 x1 x2 x3
 obtain ⟨r0, r1, r2, r3, r4, r5, r6, r7, r8⟩ := HXR.out w3 HD3.out
 obtain ⟨x0, x1, x2, x3⟩ := HXS.out w3 HD3.out
 generalize idA r.id = ok at *
 cases ok
 ·have HE := zD (show RR = false from by rw [HRR.out]; simp)
  go_wp2_with fail; exact zR (v := .bool false) ⟨by rw [HE.out], HB3.out⟩
 have HAc := zD (HAR.out w3 HB3.out)
 go_wp2_with fail
 refine HAc.out.mono ?_
 rintro e w4 ⟨rfl, hb⟩
 have HB4 := zT HB3 hb
 have HD4 := zT HD3 hb
 clear hb HAc
 clear r0 r1 r2 r3 r4 r5 r6 r7 r8 x0 x1 x2 x3
 obtain ⟨r0, r1, r2, r3, r4, r5, r6, r7, r8⟩ := HXR.out w4 HD4.out
 obtain ⟨x0, x1, x2, x3⟩ := HXS.out w4 HD4.out
 by_cases hae : AE = 0
 case neg =>
  have d1 : ((AE : Int) != 0) = true := by simp; omega
  have HE := zD (show RR = false from by rw [HRR.out]; simp [hae]); go_wp2_with fail; exact zR (v := .bool false) ⟨by rw [HE.out], HB4.out⟩
 subst hae
 have d1 : (((0 : Nat) : Int) != 0) = false := by decide
 have HR2 := zD (show RR = (numsA n r && phaseA s n r && endsA r) from by rw [HRR.out]; simp)
 clear HRR
 have hsz := bT_size r.vl
 by_cases t0 : r.at_ < 0
 ·have e0 : decide (r.at_ < 0) = true := zt t0
  have HNu : numsA n r = false := by unfold numsA; simp only [Bool.and_eq_false_iff, decide_eq_false_iff_not]; omega
  have HE := zD (show RR = false from by rw [HR2.out, HNu]; rfl); go_wp2_with fail; exact zR (v := .bool false) ⟨by rw [HE.out], HB4.out⟩
 have e0 : decide (r.at_ < 0) = false := zf t0
 by_cases t1 : (n : Int) ≤ r.at_
 ·have e1 : decide ((n : Int) ≤ r.at_) = true := zt t1
  have HNu : numsA n r = false := by unfold numsA; simp only [Bool.and_eq_false_iff, decide_eq_false_iff_not]; omega
  have HE := zD (show RR = false from by rw [HR2.out, HNu]; rfl); go_wp2_with fail; exact zR (v := .bool false) ⟨by rw [HE.out], HB4.out⟩
 have e1 : decide ((n : Int) ≤ r.at_) = false := zf t1
 by_cases t2 : r.tr < 0
 ·have e2 : decide (r.tr < 0) = true := zt t2
  have HNu : numsA n r = false := by unfold numsA; simp only [Bool.and_eq_false_iff, decide_eq_false_iff_not]; omega
  have HE := zD (show RR = false from by rw [HR2.out, HNu]; rfl); go_wp2_with fail; exact zR (v := .bool false) ⟨by rw [HE.out], HB4.out⟩
 have e2 : decide (r.tr < 0) = false := zf t2
 by_cases t3 : 29 < r.tr
 ·have e3 : decide (29 < r.tr) = true := zt t3
  have HNu : numsA n r = false := by unfold numsA; simp only [Bool.and_eq_false_iff, decide_eq_false_iff_not]; omega
  have HE := zD (show RR = false from by rw [HR2.out, HNu]; rfl); go_wp2_with fail; exact zR (v := .bool false) ⟨by rw [HE.out], HB4.out⟩
 have e3 : decide (29 < r.tr) = false := zf t3
 by_cases t4 : r.wh < 0
 ·have e4 : decide (r.wh < 0) = true := zt t4
  have HNu : numsA n r = false := by unfold numsA; simp only [Bool.and_eq_false_iff, decide_eq_false_iff_not]; omega
  have HE := zD (show RR = false from by rw [HR2.out, HNu]; rfl); go_wp2_with fail; exact zR (v := .bool false) ⟨by rw [HE.out], HB4.out⟩
 have e4 : decide (r.wh < 0) = false := zf t4
 by_cases t5 : 999 < r.wh
 ·have e5 : decide (999 < r.wh) = true := zt t5
  have HNu : numsA n r = false := by unfold numsA; simp only [Bool.and_eq_false_iff, decide_eq_false_iff_not]; omega
  have HE := zD (show RR = false from by rw [HR2.out, HNu]; rfl); go_wp2_with fail; exact zR (v := .bool false) ⟨by rw [HE.out], HB4.out⟩
 have e5 : decide (999 < r.wh) = false := zf t5
 by_cases t6 : 4096 < (r.vl.length : Int)
 ·have e6 : decide (4096 < (r.vl.length : Int)) = true := zt t6
  have HNu : numsA n r = false := by unfold numsA; simp only [Bool.and_eq_false_iff, decide_eq_false_iff_not]; omega
  have HE := zD (show RR = false from by rw [HR2.out, HNu]; rfl); go_wp2_with fail; exact zR (v := .bool false) ⟨by rw [HE.out], HB4.out⟩
 have e6 : decide (4096 < (r.vl.length : Int)) = false := zf t6
 have HR3 := zD (show RR = (phaseA s n r && endsA r) from by
  rw [HR2.out, show numsA n r = true from by unfold numsA; simp only [Bool.and_eq_true, decide_eq_true_eq]; omega]; rfl)
 have hwn : IntKind.i64.wrap ((n : Int) - 1) = (n : Int) - 1 := IntWalk.i64_in _ (by omega)
 clear HR2
 by_cases p1 : r.ph = 1
 ·have k1 : ((r.ph : Int) == 1) = true := by rw [beq_iff_eq]; omega
  have k2 : ((r.ph : Int) == 2) = false := by rw [zb]; omega
  have k3 : ((r.ph : Int) == 3) = false := by rw [zb]; omega
  have k4 : ((r.ph : Int) == 4) = false := by rw [zb]; omega
  have k5 : ((r.ph : Int) == 5) = false := by rw [zb]; omega
  by_cases z1 : r.wh = 0
  ·have wz : (r.wh != 0) = false := by simp [z1]
   have wy : (r.wh == 0) = true := by simp [z1]
   have HRZ := zD (show RR = endsA r from by rw [HR3.out]; unfold phaseA; simp [p1, z1]); clear z1; generalize hst : r.st = st at *; by_cases v1 : r.tr = 0 <;> by_cases v2 : r.vl = [] <;> cases st
   all_goals
    first | (have b1 : (r.tr == 0) = true := by rw [beq_iff_eq]; exact v1) | (have b1 : (r.tr == 0) = false := by rw [zb]; exact v1)
    first | (have b2 : (bT r.vl).toList.isEmpty = true := by rw [bT_list, v2]; rfl) | (have b2 : (bT r.vl).toList.isEmpty = false := by rw [bT_list, List.isEmpty_eq_false_iff]; exact v2)
    have V1 := zD v1; have V2 := zD v2; have V3 := zD hst; clear v1 v2 hst; go_wp2_with fail; refine bodyPost_ret (v := .bool _) (by simp [results, Tryz.results43, go_sem]; rfl) rfl ⟨?_, HB4.out⟩; rw [HRZ.out]; unfold endsA; have h1 := V1.out; have h2 := V2.out; have h3 := V3.out; simp [h1, h2, h3, p1]
  ·have wz : (r.wh != 0) = true := by simp [z1]
   have wy : (r.wh == 0) = false := by simp [z1]
   have HE := zD (show RR = false from by rw [HR3.out]; unfold phaseA; simp [p1, z1]); go_wp2_with fail; exact zR (v := .bool false) ⟨by rw [HE.out], HB4.out⟩
 by_cases p3 : r.ph = 3
 ·have k1 : ((r.ph : Int) == 1) = false := by rw [zb]; omega
  have k2 : ((r.ph : Int) == 2) = false := by rw [zb]; omega
  have k3 : ((r.ph : Int) == 3) = true := by rw [beq_iff_eq]; omega
  have k4 : ((r.ph : Int) == 4) = false := by rw [zb]; omega
  have k5 : ((r.ph : Int) == 5) = false := by rw [zb]; omega
  by_cases z1 : r.wh = 0
  ·have wz : (r.wh != 0) = false := by simp [z1]
   have wy : (r.wh == 0) = true := by simp [z1]
   by_cases z2 : r.at_ = (n : Int) - 1
   ·have az : (r.at_ != (n : Int) - 1) = false := by simp [z2]
    have HRZ := zD (show RR = endsA r from by rw [HR3.out]; unfold phaseA; simp [p3, z1, z2]); clear z1 z2; generalize hst : r.st = st at *; by_cases v1 : r.tr = 0 <;> by_cases v2 : r.vl = [] <;> cases st
    all_goals
     first | (have b1 : (r.tr == 0) = true := by rw [beq_iff_eq]; exact v1) | (have b1 : (r.tr == 0) = false := by rw [zb]; exact v1)
     first | (have b2 : (bT r.vl).toList.isEmpty = true := by rw [bT_list, v2]; rfl) | (have b2 : (bT r.vl).toList.isEmpty = false := by rw [bT_list, List.isEmpty_eq_false_iff]; exact v2)
     have V1 := zD v1; have V2 := zD v2; have V3 := zD hst; clear v1 v2 hst; go_wp2_with fail; refine bodyPost_ret (v := .bool _) (by simp [results, Tryz.results43, go_sem]; rfl) rfl ⟨?_, HB4.out⟩; rw [HRZ.out]; unfold endsA; have h1 := V1.out; have h2 := V2.out; have h3 := V3.out; simp [h1, h2, h3, p3]
   ·have az : (r.at_ != (n : Int) - 1) = true := by simp [z2]
    have HE := zD (show RR = false from by rw [HR3.out]; unfold phaseA; simp [p3, z1, z2]); go_wp2_with fail; exact zR (v := .bool false) ⟨by rw [HE.out], HB4.out⟩
  ·have wz : (r.wh != 0) = true := by simp [z1]
   have wy : (r.wh == 0) = false := by simp [z1]
   have HE := zD (show RR = false from by rw [HR3.out]; unfold phaseA; simp [p3, z1]); go_wp2_with fail; exact zR (v := .bool false) ⟨by rw [HE.out], HB4.out⟩
 by_cases p4 : r.ph = 4
 ·have k1 : ((r.ph : Int) == 1) = false := by rw [zb]; omega
  have k2 : ((r.ph : Int) == 2) = false := by rw [zb]; omega
  have k3 : ((r.ph : Int) == 3) = false := by rw [zb]; omega
  have k4 : ((r.ph : Int) == 4) = true := by rw [beq_iff_eq]; omega
  have k5 : ((r.ph : Int) == 5) = false := by rw [zb]; omega
  by_cases z1 : r.wh = 0
  ·have wz : (r.wh != 0) = false := by simp [z1]
   have wy : (r.wh == 0) = true := by simp [z1]
   have HE := zD (show RR = false from by rw [HR3.out]; unfold phaseA; simp [p4, z1]); go_wp2_with fail; exact zR (v := .bool false) ⟨by rw [HE.out], HB4.out⟩
  ·have wz : (r.wh != 0) = true := by simp [z1]
   have wy : (r.wh == 0) = false := by simp [z1]
   by_cases z2 : r.at_ = 0
   ·have az : (r.at_ != 0) = false := by simp [z2]
    have HRZ := zD (show RR = endsA r from by rw [HR3.out]; unfold phaseA; simp [p4, z1, z2]); clear z1 z2; generalize hst : r.st = st at *; by_cases v1 : r.tr = 0 <;> by_cases v2 : r.vl = [] <;> cases st
    all_goals
     first | (have b1 : (r.tr == 0) = true := by rw [beq_iff_eq]; exact v1) | (have b1 : (r.tr == 0) = false := by rw [zb]; exact v1)
     first | (have b2 : (bT r.vl).toList.isEmpty = true := by rw [bT_list, v2]; rfl) | (have b2 : (bT r.vl).toList.isEmpty = false := by rw [bT_list, List.isEmpty_eq_false_iff]; exact v2)
     have V1 := zD v1; have V2 := zD v2; have V3 := zD hst; clear v1 v2 hst; go_wp2_with fail; refine bodyPost_ret (v := .bool _) (by simp [results, Tryz.results43, go_sem]; rfl) rfl ⟨?_, HB4.out⟩; rw [HRZ.out]; unfold endsA; have h1 := V1.out; have h2 := V2.out; have h3 := V3.out; simp [h1, h2, h3, p4]
   ·have az : (r.at_ != 0) = true := by simp [z2]
    have HE := zD (show RR = false from by rw [HR3.out]; unfold phaseA; simp [p4, z1, z2]); go_wp2_with fail; exact zR (v := .bool false) ⟨by rw [HE.out], HB4.out⟩
 have HCc := zD (HCA.out w4 HB4.out)
 generalize hce : callE s r.sg r.id r.at_ true 0 = CE at *
 have HCE := zD hce
 clear hce
 by_cases p2 : r.ph = 2
 ·have k1 : ((r.ph : Int) == 1) = false := by rw [zb]; omega
  have k2 : ((r.ph : Int) == 2) = true := by rw [beq_iff_eq]; omega
  have k3 : ((r.ph : Int) == 3) = false := by rw [zb]; omega
  have k4 : ((r.ph : Int) == 4) = false := by rw [zb]; omega
  have k5 : ((r.ph : Int) == 5) = false := by rw [zb]; omega
  have HR4 := zD (show RR = (decide (CE = 0) && !decide (r.wh = 0) && endsA r) from by rw [HR3.out]; unfold phaseA; rw [HCE.out]; simp [p2]); go_wp2_with fail; refine HCc.out.mono ?_; rintro e w5 ⟨⟨y0, y1, y2, y3, y4, y5, y6, y7, y8, rfl⟩, hb⟩; have HB5 := zT HB4 hb; have HD5 := zT HD4 hb; clear hb HCc; clear r0 r1 r2 r3 r4 r5 r6 r7 r8 x0 x1 x2 x3; have HB6 := zD (HB5.out.alloc HB5.out.size (.cells #[.int .u8 y0, iV y1, iV y2, .int .u64 0, .string y5, .int .u64 y3, .string y6, .string y7, iV y4, .string y8] 63)); have HD6 := zD (HD5.out.alloc HD5.out.size (.cells #[.int .u8 y0, iV y1, iV y2, .int .u64 0, .string y5, .int .u64 y3, .string y6, .string y7, iV y4, .string y8] 63)); obtain ⟨r0, r1, r2, r3, r4, r5, r6, r7, r8⟩ := HXR.out _ HD6.out; obtain ⟨x0, x1, x2, x3⟩ := HXS.out _ HD6.out; by_cases c1 : CE = 0
  case neg =>
   have d2 : ((CE : Int) != 0) = true := by simp; omega
   have HE := zD (show RR = false from by rw [HR4.out]; simp [c1]); go_wp2_with fail; exact zR (v := .bool false) ⟨by rw [HE.out], HB6.out⟩
  subst c1; have d2 : (((0 : Nat) : Int) != 0) = false := by decide
  by_cases z1 : r.wh = 0
  ·have wz : (r.wh != 0) = false := by simp [z1]
   have wy : (r.wh == 0) = true := by simp [z1]
   have HE := zD (show RR = false from by rw [HR4.out]; simp [z1]); go_wp2_with fail; exact zR (v := .bool false) ⟨by rw [HE.out], HB6.out⟩
  ·have wz : (r.wh != 0) = true := by simp [z1]
   have wy : (r.wh == 0) = false := by simp [z1]
   have HRZ := zD (show RR = endsA r from by rw [HR4.out]; simp [z1]); clear z1; generalize hst : r.st = st at *; by_cases v1 : r.tr = 0 <;> by_cases v2 : r.vl = [] <;> cases st
   all_goals
    first | (have b1 : (r.tr == 0) = true := by rw [beq_iff_eq]; exact v1) | (have b1 : (r.tr == 0) = false := by rw [zb]; exact v1)
    first | (have b2 : (bT r.vl).toList.isEmpty = true := by rw [bT_list, v2]; rfl) | (have b2 : (bT r.vl).toList.isEmpty = false := by rw [bT_list, List.isEmpty_eq_false_iff]; exact v2)
    have V1 := zD v1; have V2 := zD v2; have V3 := zD hst; clear v1 v2 hst; go_wp2_with fail; refine bodyPost_ret (v := .bool _) (by simp [results, Tryz.results43, go_sem]; rfl) rfl ⟨?_, HB6.out⟩; rw [HRZ.out]; unfold endsA; have h1 := V1.out; have h2 := V2.out; have h3 := V3.out; simp [h1, h2, h3, p2]
 by_cases p5 : r.ph = 5
 ·have k1 : ((r.ph : Int) == 1) = false := by rw [zb]; omega
  have k2 : ((r.ph : Int) == 2) = false := by rw [zb]; omega
  have k3 : ((r.ph : Int) == 3) = false := by rw [zb]; omega
  have k4 : ((r.ph : Int) == 4) = false := by rw [zb]; omega
  have k5 : ((r.ph : Int) == 5) = true := by rw [beq_iff_eq]; omega
  have HR4 := zD (show RR = (decide (CE = 0) && !decide (r.wh = 0) && endsA r) from by rw [HR3.out]; unfold phaseA; rw [HCE.out]; simp [p5]); go_wp2_with fail; refine HCc.out.mono ?_; rintro e w5 ⟨⟨y0, y1, y2, y3, y4, y5, y6, y7, y8, rfl⟩, hb⟩; have HB5 := zT HB4 hb; have HD5 := zT HD4 hb; clear hb HCc; clear r0 r1 r2 r3 r4 r5 r6 r7 r8 x0 x1 x2 x3; have HB6 := zD (HB5.out.alloc HB5.out.size (.cells #[.int .u8 y0, iV y1, iV y2, .int .u64 0, .string y5, .int .u64 y3, .string y6, .string y7, iV y4, .string y8] 63)); have HD6 := zD (HD5.out.alloc HD5.out.size (.cells #[.int .u8 y0, iV y1, iV y2, .int .u64 0, .string y5, .int .u64 y3, .string y6, .string y7, iV y4, .string y8] 63)); obtain ⟨r0, r1, r2, r3, r4, r5, r6, r7, r8⟩ := HXR.out _ HD6.out; obtain ⟨x0, x1, x2, x3⟩ := HXS.out _ HD6.out; by_cases c1 : CE = 0
  case neg =>
   have d2 : ((CE : Int) != 0) = true := by simp; omega
   have HE := zD (show RR = false from by rw [HR4.out]; simp [c1]); go_wp2_with fail; exact zR (v := .bool false) ⟨by rw [HE.out], HB6.out⟩
  subst c1; have d2 : (((0 : Nat) : Int) != 0) = false := by decide
  by_cases z1 : r.wh = 0
  ·have wz : (r.wh != 0) = false := by simp [z1]
   have wy : (r.wh == 0) = true := by simp [z1]
   have HE := zD (show RR = false from by rw [HR4.out]; simp [z1]); go_wp2_with fail; exact zR (v := .bool false) ⟨by rw [HE.out], HB6.out⟩
  ·have wz : (r.wh != 0) = true := by simp [z1]
   have wy : (r.wh == 0) = false := by simp [z1]
   have HRZ := zD (show RR = endsA r from by rw [HR4.out]; simp [z1]); clear z1; generalize hst : r.st = st at *; by_cases v1 : r.tr = 0 <;> by_cases v2 : r.vl = [] <;> cases st
   all_goals
    first | (have b1 : (r.tr == 0) = true := by rw [beq_iff_eq]; exact v1) | (have b1 : (r.tr == 0) = false := by rw [zb]; exact v1)
    first | (have b2 : (bT r.vl).toList.isEmpty = true := by rw [bT_list, v2]; rfl) | (have b2 : (bT r.vl).toList.isEmpty = false := by rw [bT_list, List.isEmpty_eq_false_iff]; exact v2)
    have V1 := zD v1; have V2 := zD v2; have V3 := zD hst; clear v1 v2 hst; go_wp2_with fail; refine bodyPost_ret (v := .bool _) (by simp [results, Tryz.results43, go_sem]; rfl) rfl ⟨?_, HB6.out⟩; rw [HRZ.out]; unfold endsA; have h1 := V1.out; have h2 := V2.out; have h3 := V3.out; simp [h1, h2, h3, p5]
 have k1 : ((r.ph : Int) == 1) = false := by rw [zb]; omega
 have k2 : ((r.ph : Int) == 2) = false := by rw [zb]; omega
 have k3 : ((r.ph : Int) == 3) = false := by rw [zb]; omega
 have k4 : ((r.ph : Int) == 4) = false := by rw [zb]; omega
 have k5 : ((r.ph : Int) == 5) = false := by rw [zb]; omega
 have HE := zD (show RR = false from by rw [HR3.out]; unfold phaseA; simp [p1, p2, p3, p4, p5])
 go_wp2_with fail
 exact zR (v := .bool false) ⟨by rw [HE.out], HB4.out⟩
end Go.Proofs.YtgoejmheihgpfaaGreatDoor
