/-
  ManifestKnown: rows of cells, blocks through the worlds, and what Apply, Check, Same answer at the chapter's examples.
-/
import Derived.Test.YtiiafpbonkcokaaGreatKn1
namespace Go.Proofs.YtiiafpbonkcokaaGreat
open Go.RowKit Go.Maps

theorem row_of1 {w : World} {k : Nat} {T : TypeId} {x : Fi} (hx : FiOk x) (h : w.heap[k]? = some (.cells #[.int .i64 x.n, .int .i64 x.level, .int .i64 x.count, .string x.first, .string x.last] T (0, 0))) : FRow (fun _ => True) w (.slice (some ⟨k, 0, none⟩) 1 1) [x] := by
  refine ⟨⟨some ⟨k, 0, none⟩, 1, rfl, by simp, by omega, (fun e => by cases e), fun _ => ⟨k, 0, rfl, trivial, heap_lt h, fun i hi => ?_⟩⟩, fun f hf => by rw [List.mem_singleton.1 hf]; exact hx⟩
  obtain rfl : i = 0 := by simpa using hi
  exact ⟨by simp [World.cell?, h], by simp [World.cell?, h], by simp [World.cell?, h], by simp [World.cell?, h], by simp [World.cell?, h]⟩
theorem row_of2 {w : World} {k : Nat} {T : TypeId} {x y : Fi} (hx : FiOk x) (hy : FiOk y) (h : w.heap[k]? = some (.cells #[.int .i64 x.n, .int .i64 x.level, .int .i64 x.count, .string x.first, .string x.last, .int .i64 y.n, .int .i64 y.level, .int .i64 y.count, .string y.first, .string y.last] T (0, 0))) : FRow (fun _ => True) w (.slice (some ⟨k, 0, none⟩) 2 2) [x, y] := by
  refine ⟨⟨some ⟨k, 0, none⟩, 2, rfl, by simp, by omega, (fun e => by cases e), fun _ => ⟨k, 0, rfl, trivial, heap_lt h, fun i hi => ?_⟩⟩, fun f hf => by rcases List.mem_cons.1 hf with rfl | hf; exact hx; rw [List.mem_singleton.1 hf]; exact hy⟩
  have h2 : i < 2 := by simpa using hi
  match i, h2 with
  | 0, _ => exact ⟨by simp [World.cell?, h], by simp [World.cell?, h], by simp [World.cell?, h], by simp [World.cell?, h], by simp [World.cell?, h]⟩
  | 1, _ => exact ⟨by simp [World.cell?, h], by simp [World.cell?, h], by simp [World.cell?, h], by simp [World.cell?, h], by simp [World.cell?, h]⟩
theorem irow_of1 {w : World} {k : Nat} {T : TypeId} {n : Int} (h : w.heap[k]? = some (.cells #[.int .i64 n] T (0, 0))) : IRow (fun _ => True) w (.slice (some ⟨k, 0, none⟩) 1 1) [n] := by
  refine ⟨⟨some ⟨k, 0, none⟩, 1, rfl, by simp, by omega, (fun e => by cases e), fun _ => ⟨k, 0, rfl, trivial, heap_lt h, fun i hi => ?_⟩⟩⟩
  obtain rfl : i = 0 := by simpa using hi
  simp [World.cell?, h]
theorem ok1 : FiOk f1 := ⟨by decide, by decide, by decide, by decide⟩
theorem ok2 : FiOk f2 := ⟨by decide, by decide, by decide, by decide⟩
theorem ok3 : FiOk f3 := ⟨by decide, by decide, by decide, by decide⟩
/-- block k holds a state -/
structure StAt (w : World) (k : Nat) (s : St) : Prop where
  ex : ∃ v, w.heap[k]? = some (.cells #[.int .i64 s.next, .int .i64 s.log, v] 24 (0, 0)) ∧ FRow (fun _ => True) w v s.fs
theorem StAt.below {w w' : World} {k : Nat} {s : St} (h : StAt w k s) (hb : Below w.heap.size w w') : StAt w' k s := by
  obtain ⟨v, h1, h2⟩ := h.ex
  exact ⟨v, (hb.block k (heap_lt h1)).trans h1, h2.below hb⟩
theorem bel_alloc {W w : World} (h : Below W.heap.size W w) (x : Obj) : Below W.heap.size W (w.alloc x) := h.alloc h.size x
theorem bel_store {W w : World} {k : Nat} (h : Below W.heap.size W w) (hk : W.heap.size ≤ k) (o : Nat) (v : Value) : Below W.heap.size W (w.setCell ⟨k, o, none⟩ v) := h.setCell (p := ⟨k, o, none⟩) hk v
theorem bel_step {W V w : World} (h : Below W.heap.size W V) (hb : Below V.heap.size V w) : Below W.heap.size W w := h.trans (hb.mono h.size)
theorem use_fact {T G : Prop} (h : T) (k : T → G) : G := k h
theorem heap_alloc_at (w : World) (x : Obj) {k : Nat} (h : k = w.heap.size) : (w.alloc x).heap[k]? = some x := by rw [h]; exact heap_alloc_new w x
theorem blk3 {w : World} {k : Nat} {a b c : Value} {T : TypeId} (h : w.heap[k]? = some (.cells #[a, b, c] T (0, 0))) : w.cell? ⟨k, 0, none⟩ = some a ∧ w.cell? ⟨k, 1, none⟩ = some b ∧ w.cell? ⟨k, 2, none⟩ = some c ∧ w.frozen? ⟨k, 0, none⟩ = false ∧ w.frozen? ⟨k, 1, none⟩ = false ∧ w.frozen? ⟨k, 2, none⟩ = false :=
  ⟨by simp [World.cell?, h], by simp [World.cell?, h], by simp [World.cell?, h], by simp [World.frozen?, h], by simp [World.frozen?, h], by simp [World.frozen?, h]⟩
theorem blk_drew {w : World} {k : Nat} {o : Obj} (h : w.heap[k]? = some o) : w.drew.heap[k]? = some o := h
theorem blk_alloc {w : World} {k : Nat} {o : Obj} (h : w.heap[k]? = some o) (x : Obj) : (w.alloc x).heap[k]? = some o := ((bl1 w x).block k (heap_lt h)).trans h
theorem blk_below {w w' : World} {k : Nat} {o : Obj} (h : w.heap[k]? = some o) (hb : Below w.heap.size w w') : w'.heap[k]? = some o := (hb.block k (heap_lt h)).trans h
/-- what a region that applies an edit leaves: block k holds the state, e the answer -/
def KnR (W2 wc : World) (s : St) (e : Int) (v3 v4 : Value) : Prop := ∃ k, v3 = .pointer (some ⟨k, 0, none⟩) ∧ v4 = .int .i64 e ∧ Below W2.heap.size W2 wc ∧ StAt wc k s
theorem knr_alloc {W2 V wA : World} {n l : Int} {L : List Fi} {e : Int} {v : Value} (hy : Below W2.heap.size W2 wA) (hr : FRow (V.heap.size ≤ ·) wA v L) : KnR W2 (wA.alloc (.cells #[.int .i64 n, .int .i64 l, v] 24)) ⟨n, l, L⟩ e (.pointer (some ⟨wA.heap.size, 0, none⟩)) (.int .i64 e) :=
  ⟨_, rfl, rfl, bel_alloc hy _, v, heap_alloc_new wA _, (hr.below (bl1 wA _)).wider (fun _ _ _ => trivial)⟩
theorem knr_set {W2 V wA : World} {k : Nat} {n l : Int} {L : List Fi} {e : Int} {v : Value} (hy : Below W2.heap.size W2 wA) (hr : FRow (V.heap.size ≤ ·) wA v L) {x y z : Value} (zb : wA.heap[k]? = some (.cells #[x, y, z] 24 (0, 0))) (h1 : W2.heap.size ≤ k) (h2 : k < V.heap.size) :
    KnR W2 (((wA.setCell ⟨k, 0, none⟩ (.int .i64 n)).setCell ⟨k, 1, none⟩ (.int .i64 l)).setCell ⟨k, 2, none⟩ v) ⟨n, l, L⟩ e (.pointer (some ⟨k, 0, none⟩)) (.int .i64 e) := by
  have hs : (((wA.setCell ⟨k, 0, none⟩ (.int .i64 n)).setCell ⟨k, 1, none⟩ (.int .i64 l)).setCell ⟨k, 2, none⟩ v).heap[k]? = some (.cells #[.int .i64 n, .int .i64 l, v] 24 (0, 0)) :=
    heap_setCell_same _ _ _ _ _ _ (heap_setCell_same _ _ _ _ _ _ (heap_setCell_same _ _ _ _ _ _ zb))
  have hb : But [k] wA (((wA.setCell ⟨k, 0, none⟩ (.int .i64 n)).setCell ⟨k, 1, none⟩ (.int .i64 l)).setCell ⟨k, 2, none⟩ v) := (((But.refl [k] wA).setCell (.inl (by simp)) _).setCell (.inl (by simp)) _).setCell (.inl (by simp)) _
  exact ⟨k, rfl, rfl, bel_store (bel_store (bel_store hy h1 _ _) h1 _ _) h1 _ _, v, hs, hr.but hb (fun b hb _ hm => by rw [List.mem_singleton.1 hm] at hb; omega) (fun _ _ _ => trivial)⟩
theorem shape_of {S : Nat → Prop} {w : World} {v : Value} {L : List Fi} (h : FRow S w v L) : ∃ a c, v = .slice a L.length c := by obtain ⟨⟨a, c, e, _⟩, _⟩ := h; exact ⟨a, c, e⟩
theorem ap1 (V : World) (k2 : Nat) (h2 : V.heap[k2]? = some (.cells #[.int .i64 1, .int .i64 0, .int .i64 2, .string ⟨#[97]⟩, .string ⟨#[99]⟩] 29 (0, 0))) :
    Calls Tryz.prog 7 #[.agg #[.int .i64 1, .int .i64 0, .slice none 0 0], .agg #[.slice none 0 0, .slice (some ⟨k2, 0, none⟩) 1 1, .int .i64 2, .int .i64 0]] V fun e w' => ∃ a3 c3, e = .returned (.tuple #[.agg #[.int .i64 2, .int .i64 0, .slice a3 1 c3], .int .i64 0]) ∧ FRow (V.heap.size ≤ ·) w' (.slice a3 1 c3) [f1] ∧ Below V.heap.size V w' := by
  have h := apply_any (fun _ => True) (fun _ => True) (fun _ => True) V ⟨1, 0, []⟩ ⟨[], [f1], 2, 0⟩ _ _ _ (FRow.nil _ _) (IRow.nil _ _) (row_of1 (T := 29) ok1 h2) (by simp) (by simp)
  rw [kn_s] at h
  refine h.mono fun e w' ⟨v, he, hr, hb⟩ => ?_
  obtain ⟨a3, c3, rfl⟩ := shape_of hr
  exact ⟨a3, c3, he, hr, hb⟩
theorem ap2 (V : World) (a : Option Addr) (c k1 k2 : Nat) (hS : FRow (fun _ => True) V (.slice a 1 c) [f1]) (h1 : V.heap[k1]? = some (.cells #[.int .i64 1] 3 (0, 0))) (h2 : V.heap[k2]? = some (.cells #[.int .i64 2, .int .i64 1, .int .i64 1, .string ⟨#[98]⟩, .string ⟨#[98]⟩] 29 (0, 0))) :
    Calls Tryz.prog 7 #[.agg #[.int .i64 2, .int .i64 0, .slice a 1 c], .agg #[.slice (some ⟨k1, 0, none⟩) 1 1, .slice (some ⟨k2, 0, none⟩) 1 1, .int .i64 3, .int .i64 5]] V fun e w' => ∃ a3 c3, e = .returned (.tuple #[.agg #[.int .i64 3, .int .i64 5, .slice a3 1 c3], .int .i64 0]) ∧ FRow (V.heap.size ≤ ·) w' (.slice a3 1 c3) [f2] ∧ Below V.heap.size V w' := by
  have h := apply_any (fun _ => True) (fun _ => True) (fun _ => True) V ⟨2, 0, [f1]⟩ ⟨[1], [f2], 3, 5⟩ _ _ _ hS (irow_of1 h1) (row_of1 (T := 29) ok2 h2) (by simp) (by simp)
  rw [kn_t] at h
  refine h.mono fun e w' ⟨v, he, hr, hb⟩ => ?_
  obtain ⟨a3, c3, rfl⟩ := shape_of hr
  exact ⟨a3, c3, he, hr, hb⟩
theorem ap3 (V : World) (k1 : Nat) (h1 : V.heap[k1]? = some (.cells #[.int .i64 1] 3 (0, 0))) :
    Calls Tryz.prog 7 #[.agg #[.int .i64 1, .int .i64 0, .slice none 0 0], .agg #[.slice (some ⟨k1, 0, none⟩) 1 1, .slice none 0 0, .int .i64 0, .int .i64 0]] V fun e w' => ∃ a3 c3, e = .returned (.tuple #[.agg #[.int .i64 0, .int .i64 0, .slice a3 0 c3], .int .i64 4]) ∧ FRow (V.heap.size ≤ ·) w' (.slice a3 0 c3) [] ∧ Below V.heap.size V w' := by
  have h := apply_any (fun _ => True) (fun _ => True) (fun _ => True) V ⟨1, 0, []⟩ ⟨[1], [], 0, 0⟩ _ _ _ (FRow.nil _ _) (irow_of1 h1) (FRow.nil _ _) (by simp) (by simp)
  rw [kn_g] at h
  refine h.mono fun e w' ⟨v, he, hr, hb⟩ => ?_
  obtain ⟨a3, c3, rfl⟩ := shape_of hr
  exact ⟨a3, c3, he, hr, hb⟩
theorem ap4 (V : World) (k2 : Nat) (h2 : V.heap[k2]? = some (.cells #[.int .i64 1, .int .i64 0, .int .i64 2, .string ⟨#[97]⟩, .string ⟨#[99]⟩] 29 (0, 0))) :
    Calls Tryz.prog 7 #[.agg #[.int .i64 1, .int .i64 0, .slice none 0 0], .agg #[.slice none 0 0, .slice (some ⟨k2, 0, none⟩) 1 1, .int .i64 0, .int .i64 0]] V fun e w' => ∃ a3 c3, e = .returned (.tuple #[.agg #[.int .i64 0, .int .i64 0, .slice a3 0 c3], .int .i64 1]) ∧ FRow (V.heap.size ≤ ·) w' (.slice a3 0 c3) [] ∧ Below V.heap.size V w' := by
  have h := apply_any (fun _ => True) (fun _ => True) (fun _ => True) V ⟨1, 0, []⟩ ⟨[], [f1], 0, 0⟩ _ _ _ (FRow.nil _ _) (IRow.nil _ _) (row_of1 (T := 29) ok1 h2) (by simp) (by simp)
  rw [kn_h] at h
  refine h.mono fun e w' ⟨v, he, hr, hb⟩ => ?_
  obtain ⟨a3, c3, rfl⟩ := shape_of hr
  exact ⟨a3, c3, he, hr, hb⟩
theorem ap5 (V : World) (a : Option Addr) (c k2 : Nat) (hS : FRow (fun _ => True) V (.slice a 1 c) [f1]) (h2 : V.heap[k2]? = some (.cells #[.int .i64 1, .int .i64 0, .int .i64 2, .string ⟨#[97]⟩, .string ⟨#[99]⟩] 29 (0, 0))) :
    Calls Tryz.prog 7 #[.agg #[.int .i64 2, .int .i64 0, .slice a 1 c], .agg #[.slice none 0 0, .slice (some ⟨k2, 0, none⟩) 1 1, .int .i64 0, .int .i64 0]] V fun e w' => ∃ a3 c3, e = .returned (.tuple #[.agg #[.int .i64 0, .int .i64 0, .slice a3 0 c3], .int .i64 5]) ∧ FRow (V.heap.size ≤ ·) w' (.slice a3 0 c3) [] ∧ Below V.heap.size V w' := by
  have h := apply_any (fun _ => True) (fun _ => True) (fun _ => True) V ⟨2, 0, [f1]⟩ ⟨[], [f1], 0, 0⟩ _ _ _ hS (IRow.nil _ _) (row_of1 (T := 29) ok1 h2) (by simp) (by simp)
  rw [kn_i] at h
  refine h.mono fun e w' ⟨v, he, hr, hb⟩ => ?_
  obtain ⟨a3, c3, rfl⟩ := shape_of hr
  exact ⟨a3, c3, he, hr, hb⟩
theorem sm6 (V : World) (a : Option Addr) (c k2 : Nat) (hS : FRow (fun _ => True) V (.slice a 1 c) [f2]) (h2 : V.heap[k2]? = some (.cells #[.int .i64 2, .int .i64 1, .int .i64 1, .string ⟨#[98]⟩, .string ⟨#[98]⟩] 35 (0, 0))) :
    Calls Tryz.prog 10 #[.agg #[.int .i64 3, .int .i64 5, .slice a 1 c], .agg #[.int .i64 3, .int .i64 5, .slice (some ⟨k2, 0, none⟩) 1 1]] V fun e w' => e = .returned (.bool true) ∧ Below V.heap.size V w' := by
  have h := lsame_any (fun _ => True) (fun _ => True) V ⟨3, 5, [f2]⟩ ⟨3, 5, [f2]⟩ _ _ hS (row_of1 (T := 35) ok2 h2) (by simp)
  rw [show stEq ⟨3, 5, [f2]⟩ ⟨3, 5, [f2]⟩ = true from stEq_iff.2 rfl] at h
  exact h
theorem sm16 (V : World) : Calls Tryz.prog 10 #[.agg #[.int .i64 0, .int .i64 0, .slice none 0 0], .agg #[.int .i64 0, .int .i64 0, .slice none 0 0]] V fun e w' => e = .returned (.bool true) ∧ Below V.heap.size V w' := by
  have h := lsame_any (fun _ => True) (fun _ => True) V ⟨0, 0, []⟩ ⟨0, 0, []⟩ _ _ (FRow.nil _ _) (FRow.nil _ _) (by simp)
  rw [show stEq ⟨0, 0, []⟩ ⟨0, 0, []⟩ = true from stEq_iff.2 rfl] at h
  exact h
theorem ck1 (V : World) (k : Nat) (h2 : V.heap[k]? = some (.cells #[.int .i64 1, .int .i64 0, .int .i64 2, .string ⟨#[97]⟩, .string ⟨#[99]⟩, .int .i64 2, .int .i64 1, .int .i64 1, .string ⟨#[98]⟩, .string ⟨#[98]⟩] 29 (0, 0))) : Calls Tryz.prog 11 #[.agg #[.int .i64 3, .int .i64 0, .slice (some ⟨k, 0, none⟩) 2 2]] V fun e w' => e = .returned (.int .i64 0) ∧ Below V.heap.size V w' := by
  have h := check_any (fun _ => True) V ⟨3, 0, [f1, f2]⟩ _ (row_of2 (T := 29) ok1 ok2 h2)
  rw [show checkE ⟨3, 0, [f1, f2]⟩ = 0 by rw [checkE, kn_c1]; rfl] at h
  exact h
theorem ck2 (V : World) (k : Nat) (h2 : V.heap[k]? = some (.cells #[.int .i64 2, .int .i64 1, .int .i64 1, .string ⟨#[98]⟩, .string ⟨#[98]⟩, .int .i64 3, .int .i64 1, .int .i64 2, .string ⟨#[97]⟩, .string ⟨#[99]⟩] 29 (0, 0))) : Calls Tryz.prog 11 #[.agg #[.int .i64 4, .int .i64 0, .slice (some ⟨k, 0, none⟩) 2 2]] V fun e w' => e = .returned (.int .i64 1) ∧ Below V.heap.size V w' := by
  have h := check_any (fun _ => True) V ⟨4, 0, [f2, f3]⟩ _ (row_of2 (T := 29) ok2 ok3 h2)
  rw [show checkE ⟨4, 0, [f2, f3]⟩ = 1 by rw [checkE, kn_c2]; rfl] at h
  exact h
theorem ck3 (V : World) : Calls Tryz.prog 11 #[.agg #[.int .i64 0, .int .i64 0, .slice none 0 0]] V fun e w' => e = .returned (.int .i64 1) ∧ Below V.heap.size V w' := by
  have h := check_any (fun _ => True) V ⟨0, 0, []⟩ _ (FRow.nil _ _)
  rw [show checkE ⟨0, 0, []⟩ = 1 by rw [checkE, kn_c3]; rfl] at h
  exact h
theorem cm_nil (V : World) : Calls Tryz.prog 16 #[.pointer none, .agg #[.slice none 0 0, .slice none 0 0, .int .i64 0, .int .i64 0]] V fun e w' => e = .returned (.int .i64 2) ∧ Below V.heap.size V w' := commit_nil V _ _ _ _
theorem cm_none (V : World) (b : Nat) (h : V.cell? ⟨b, 0, none⟩ = some (.pointer none)) : Calls Tryz.prog 16 #[.pointer (some ⟨b, 0, none⟩), .agg #[.slice none 0 0, .slice none 0 0, .int .i64 0, .int .i64 0]] V fun e w' => e = .returned (.int .i64 2) ∧ Below V.heap.size V w' := by
  have h2 : (V.alloc (.cells #[.slice none 0 0, .slice none 0 0, .int .i64 0, .int .i64 0] 33)).cell? ⟨b, 0, none⟩ = some (.pointer none) := ((bl1 V _).cell (p := ⟨b, 0, none⟩) (cell_lt h)).trans h
  go_enter Tryz.func16, Tryz.ntmps16
  go_wp2_with fail
  go_ret
  exact ⟨rfl, bl1 _ _⟩
theorem st_nil (V : World) : Calls Tryz.prog 17 #[.pointer none] V fun e w' => e = .returned (.agg #[.int .i64 0, .int .i64 0, .slice none 0 0]) ∧ Below V.heap.size V w' := state_nil V
end Go.Proofs.YtiiafpbonkcokaaGreat
