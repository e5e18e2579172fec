/-
  What is proved here: 'lro.of', at each state, out of the rules as the program's text lays them in memory ('RulesAt').
-/
import Derived.Test.YtfnfbnfjgpfmfaaDoorProg
import Derived.WalkKit
import Derived.WalkLawsBesides
import Derived.WalkSpells
import Derived.Lib.Hide
namespace Go.Proofs.YtfnfbnfjgpfmfaaDoor
open Go.RowKit

abbrev opV (st c : Int) (v : ByteArray) (d : Int) : Value := .agg #[.int .i64 st, .int .i64 c, .string v, .int .i64 d]

/-- the rules in memory -/
structure RulesAt (w : World) (b1 o1 b2 o2 : Nat) : Prop where
  hsz : 0 < w.heap.size
  h1 : b1 < w.heap.size
  h2 : b2 < w.heap.size
  c0 : w.cell? ⟨0, 0, none⟩ = some (.bool false)
  c1 : w.cell? ⟨0, 1, none⟩ = some (.bool false)
  c2 : w.cell? ⟨0, 2, none⟩ = some (.bool false)
  c3 : w.cell? ⟨0, 3, none⟩ = some (.slice none 0 0)
  c4 : w.cell? ⟨0, 4, none⟩ = some (.bool false)
  c5 : w.cell? ⟨0, 5, none⟩ = some (.bool false)
  c6 : w.cell? ⟨0, 6, none⟩ = some (.bool false)
  c7 : w.cell? ⟨0, 7, none⟩ = some (.slice (some ⟨b1, o1, none⟩) 3 3)
  c8 : w.cell? ⟨0, 8, none⟩ = some (.bool false)
  c9 : w.cell? ⟨0, 9, none⟩ = some (.bool false)
  c10 : w.cell? ⟨0, 10, none⟩ = some (.bool false)
  c11 : w.cell? ⟨0, 11, none⟩ = some (.slice (some ⟨b2, o2, none⟩) 4 4)
  c12 : w.cell? ⟨0, 12, none⟩ = some (.bool true)
  c13 : w.cell? ⟨0, 13, none⟩ = some (.bool true)
  c14 : w.cell? ⟨0, 14, none⟩ = some (.bool false)
  c15 : w.cell? ⟨0, 15, none⟩ = some (.slice none 0 0)
  c16 : w.cell? ⟨0, 16, none⟩ = some (.bool true)
  c17 : w.cell? ⟨0, 17, none⟩ = some (.bool true)
  c18 : w.cell? ⟨0, 18, none⟩ = some (.bool true)
  c19 : w.cell? ⟨0, 19, none⟩ = some (.slice none 0 0)
  c20 : w.cell? ⟨0, 20, none⟩ = some (.bool true)
  c21 : w.cell? ⟨0, 21, none⟩ = some (.bool false)
  c22 : w.cell? ⟨0, 22, none⟩ = some (.bool false)
  c23 : w.cell? ⟨0, 23, none⟩ = some (.slice none 0 0)
  d0 : w.cell? ⟨b1, o1 + 0, none⟩ = some (.int .i64 2)
  d1 : w.cell? ⟨b1, o1 + 1, none⟩ = some (.int .i64 3)
  d2 : w.cell? ⟨b1, o1 + 2, none⟩ = some (.int .i64 4)
  e0 : w.cell? ⟨b2, o2 + 0, none⟩ = some (.int .i64 2)
  e1 : w.cell? ⟨b2, o2 + 1, none⟩ = some (.int .i64 3)
  e2 : w.cell? ⟨b2, o2 + 2, none⟩ = some (.int .i64 4)
  e3 : w.cell? ⟨b2, o2 + 3, none⟩ = some (.int .i64 5)

theorem RulesAt.below {w w' : World} {b1 o1 b2 o2 : Nat} (h : RulesAt w b1 o1 b2 o2) (hb : Below w.heap.size w w') : RulesAt w' b1 o1 b2 o2 := by
  have e0 : ∀ i, w'.cell? ⟨0, i, none⟩ = w.cell? ⟨0, i, none⟩ := fun i => hb.cell (p := ⟨0, i, none⟩) h.hsz
  have e1 : ∀ i, w'.cell? ⟨b1, i, none⟩ = w.cell? ⟨b1, i, none⟩ := fun i => hb.cell (p := ⟨b1, i, none⟩) h.h1
  have e2 : ∀ i, w'.cell? ⟨b2, i, none⟩ = w.cell? ⟨b2, i, none⟩ := fun i => hb.cell (p := ⟨b2, i, none⟩) h.h2
  have hs := hb.size
  obtain ⟨hsz, h1, h2, c0, c1, c2, c3, c4, c5, c6, c7, c8, c9, c10, c11, c12, c13, c14, c15, c16, c17, c18, c19, c20, c21, c22, c23, d0, d1, d2, e3, e4, e5, e6⟩ := h
  constructor <;> first | omega | (simp only [e0, e1, e2]; assumption)

theorem of_lo (st : Int) (w : World) (h : st < 1) :
    Calls Tryd.prog 17 #[.int .i64 st] w fun e w' => e = .returned (.tuple #[.agg #[.bool false, .bool false, .bool false, .slice none 0 0], .bool false]) ∧ Below w.heap.size w w' := by
  go_enter Tryd.func17, Tryd.ntmps17
  go_wp2
  exact bodyPost_ret (v := .tuple #[.agg #[.bool false, .bool false, .bool false, .slice none 0 0], .bool false]) (by simp [results, Tryd.results17, go_sem]) rfl ⟨rfl, (Below.refl _ _).alloc (Nat.le_refl _) _⟩
theorem of_hi (st : Int) (w : World) (h : 5 < st) :
    Calls Tryd.prog 17 #[.int .i64 st] w fun e w' => e = .returned (.tuple #[.agg #[.bool false, .bool false, .bool false, .slice none 0 0], .bool false]) ∧ Below w.heap.size w w' := by
  have h' : ¬ st < 1 := by omega
  have h'' : 6 ≤ st := by omega
  clear h
  go_enter Tryd.func17, Tryd.ntmps17
  go_wp2
  exact bodyPost_ret (v := .tuple #[.agg #[.bool false, .bool false, .bool false, .slice none 0 0], .bool false]) (by simp [results, Tryd.results17, go_sem]) rfl ⟨rfl, (Below.refl _ _).alloc (Nat.le_refl _) _⟩
theorem of_1 (w : World) (b1 o1 b2 o2 : Nat) (h : RulesAt w b1 o1 b2 o2) :
    Calls Tryd.prog 17 #[.int .i64 1] w fun e w' => e = .returned (.tuple #[.agg #[.bool false, .bool false, .bool false, .slice (some ⟨b1, o1, none⟩) 3 3], .bool true]) ∧ Below w.heap.size w w' := by
  have hsz := h.hsz
  have c0 := h.c4
  have c1 := h.c5
  have c2 := h.c6
  have c3 := h.c7
  clear h
  go_enter Tryd.func17, Tryd.ntmps17
  go_wp2
  exact bodyPost_ret (v := .tuple #[.agg #[.bool false, .bool false, .bool false, .slice (some ⟨b1, o1, none⟩) 3 3], .bool true]) (by simp [results, Tryd.results17, go_sem]) rfl ⟨rfl, (Below.refl _ _).alloc (Nat.le_refl _) _⟩
theorem of_2 (w : World) (b1 o1 b2 o2 : Nat) (h : RulesAt w b1 o1 b2 o2) :
    Calls Tryd.prog 17 #[.int .i64 2] w fun e w' => e = .returned (.tuple #[.agg #[.bool false, .bool false, .bool false, .slice (some ⟨b2, o2, none⟩) 4 4], .bool true]) ∧ Below w.heap.size w w' := by
  have hsz := h.hsz
  have c0 := h.c8
  have c1 := h.c9
  have c2 := h.c10
  have c3 := h.c11
  clear h
  go_enter Tryd.func17, Tryd.ntmps17
  go_wp2
  exact bodyPost_ret (v := .tuple #[.agg #[.bool false, .bool false, .bool false, .slice (some ⟨b2, o2, none⟩) 4 4], .bool true]) (by simp [results, Tryd.results17, go_sem]) rfl ⟨rfl, (Below.refl _ _).alloc (Nat.le_refl _) _⟩
theorem of_3 (w : World) (b1 o1 b2 o2 : Nat) (h : RulesAt w b1 o1 b2 o2) :
    Calls Tryd.prog 17 #[.int .i64 3] w fun e w' => e = .returned (.tuple #[.agg #[.bool true, .bool true, .bool false, .slice none 0 0], .bool true]) ∧ Below w.heap.size w w' := by
  have hsz := h.hsz
  have c0 := h.c12
  have c1 := h.c13
  have c2 := h.c14
  have c3 := h.c15
  clear h
  go_enter Tryd.func17, Tryd.ntmps17
  go_wp2
  exact bodyPost_ret (v := .tuple #[.agg #[.bool true, .bool true, .bool false, .slice none 0 0], .bool true]) (by simp [results, Tryd.results17, go_sem]) rfl ⟨rfl, (Below.refl _ _).alloc (Nat.le_refl _) _⟩
theorem of_4 (w : World) (b1 o1 b2 o2 : Nat) (h : RulesAt w b1 o1 b2 o2) :
    Calls Tryd.prog 17 #[.int .i64 4] w fun e w' => e = .returned (.tuple #[.agg #[.bool true, .bool true, .bool true, .slice none 0 0], .bool true]) ∧ Below w.heap.size w w' := by
  have hsz := h.hsz
  have c0 := h.c16
  have c1 := h.c17
  have c2 := h.c18
  have c3 := h.c19
  clear h
  go_enter Tryd.func17, Tryd.ntmps17
  go_wp2
  exact bodyPost_ret (v := .tuple #[.agg #[.bool true, .bool true, .bool true, .slice none 0 0], .bool true]) (by simp [results, Tryd.results17, go_sem]) rfl ⟨rfl, (Below.refl _ _).alloc (Nat.le_refl _) _⟩
theorem of_5 (w : World) (b1 o1 b2 o2 : Nat) (h : RulesAt w b1 o1 b2 o2) :
    Calls Tryd.prog 17 #[.int .i64 5] w fun e w' => e = .returned (.tuple #[.agg #[.bool true, .bool false, .bool false, .slice none 0 0], .bool true]) ∧ Below w.heap.size w w' := by
  have hsz := h.hsz
  have c0 := h.c20
  have c1 := h.c21
  have c2 := h.c22
  have c3 := h.c23
  clear h
  go_enter Tryd.func17, Tryd.ntmps17
  go_wp2
  exact bodyPost_ret (v := .tuple #[.agg #[.bool true, .bool false, .bool false, .slice none 0 0], .bool true]) (by simp [results, Tryd.results17, go_sem]) rfl ⟨rfl, (Below.refl _ _).alloc (Nat.le_refl _) _⟩
end Go.Proofs.YtfnfbnfjgpfmfaaDoor
