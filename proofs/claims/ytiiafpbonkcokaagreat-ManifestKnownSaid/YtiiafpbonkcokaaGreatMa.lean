/-
  Tables and states as plain data; how a slice of tables lies in memory ('FRow').
-/
import Derived.Test.YtiiafpbonkcokaaGreatIn
namespace Go.Proofs.YtiiafpbonkcokaaGreat
open Go.RowKit Go.Maps

/-- a table -/
structure Fi where
  n : Int
  level : Int
  count : Int
  first : ByteArray
  last : ByteArray
instance : Inhabited Fi := ⟨⟨0, 0, 0, ⟨#[]⟩, ⟨#[]⟩⟩⟩
/-- a state -/
structure St where
  next : Int
  log : Int
  fs : List Fi
def ficells (f : Fi) : List Value := [.int .i64 f.n, .int .i64 f.level, .int .i64 f.count, .string f.first, .string f.last]
def fiv (f : Fi) : Value := .agg #[.int .i64 f.n, .int .i64 f.level, .int .i64 f.count, .string f.first, .string f.last]
def rcells : List Fi → List Value
  | [] => []
  | f :: r => .int .i64 f.n :: .int .i64 f.level :: .int .i64 f.count :: .string f.first :: .string f.last :: rcells r
theorem rcells_append : ∀ (l r : List Fi), rcells (l ++ r) = rcells l ++ rcells r
  | [], _ => rfl
  | f :: l, r => by simp [rcells, rcells_append l r]
theorem rcells_len : ∀ l : List Fi, (rcells l).length = l.length * 5
  | [] => rfl
  | f :: r => by simp [rcells, rcells_len r]; omega
theorem rcells_at : ∀ (l : List Fi) (i : Nat) (h : i < l.length), (rcells l)[i * 5]? = some (.int .i64 l[i].n) ∧ (rcells l)[i * 5 + 1]? = some (.int .i64 l[i].level) ∧ (rcells l)[i * 5 + 2]? = some (.int .i64 l[i].count) ∧ (rcells l)[i * 5 + 3]? = some (.string l[i].first) ∧ (rcells l)[i * 5 + 4]? = some (.string l[i].last)
  | f :: r, 0, _ => ⟨rfl, rfl, rfl, rfl, rfl⟩
  | f :: r, i + 1, h => by
    have := rcells_at r i (by simpa using h)
    rw [show (i + 1) * 5 = i * 5 + 5 by omega]
    simpa [rcells] using this

/-- at block b, place o the five cells of a table stand -/
structure FiAt (w : World) (b o : Nat) (f : Fi) : Prop where
  c0 : w.cell? ⟨b, o, none⟩ = some (.int .i64 f.n)
  c1 : w.cell? ⟨b, o + 1, none⟩ = some (.int .i64 f.level)
  c2 : w.cell? ⟨b, o + 2, none⟩ = some (.int .i64 f.count)
  c3 : w.cell? ⟨b, o + 3, none⟩ = some (.string f.first)
  c4 : w.cell? ⟨b, o + 4, none⟩ = some (.string f.last)
theorem FiAt.block {w w' : World} {b o : Nat} {f : Fi} (h : FiAt w b o f) (e : w'.heap[b]? = w.heap[b]?) : FiAt w' b o f :=
  have k : ∀ j, w'.cell? ⟨b, j, none⟩ = w.cell? ⟨b, j, none⟩ := fun j => World.cell?_of_block (w := w) e
  ⟨(k _).trans h.c0, (k _).trans h.c1, (k _).trans h.c2, (k _).trans h.c3, (k _).trans h.c4⟩
/-- what fits of a table -/
structure FiOk (f : Fi) : Prop where
  n0 : -9223372036854775808 ≤ f.n
  n1 : f.n ≤ 9223372036854775807
  s1 : f.first.size ≤ 9223372036854775807
  s2 : f.last.size ≤ 9223372036854775807
/-- v is a slice of the tables L; their block, if any, is one of S -/
structure FRow (S : Nat → Prop) (w : World) (v : Value) (L : List Fi) : Prop where
  ex : ∃ a c, v = .slice a L.length c ∧ L.length ≤ c ∧ c ≤ 9223372036854775807 ∧ (a = none → c = 0) ∧ (0 < L.length → ∃ b o, a = some ⟨b, o, none⟩ ∧ S b ∧ b < w.heap.size ∧ ∀ i (_ : i < L.length), FiAt w b (o + i * 5) L[i])
  ok : ∀ f ∈ L, FiOk f
theorem FRow.keep {S S' : Nat → Prop} {w w' : World} {v : Value} {L : List Fi} (h : FRow S w v L) (hk : ∀ b, S b → b < w.heap.size → w'.heap[b]? = w.heap[b]?) (hs : w.heap.size ≤ w'.heap.size) (hS : ∀ b, S b → b < w.heap.size → S' b) : FRow S' w' v L := by
  obtain ⟨⟨a, c, rfl, h1, h2, h0, h3⟩, ok⟩ := h
  refine ⟨⟨a, c, rfl, h1, h2, h0, fun hl => ?_⟩, ok⟩
  obtain ⟨b, o, rfl, hb, hlt, hc⟩ := h3 hl
  exact ⟨b, o, rfl, hS b hb hlt, by omega, fun i hi => (hc i hi).block (hk b hb hlt)⟩
theorem FRow.below {S : Nat → Prop} {w w' : World} {v : Value} {L : List Fi} (h : FRow S w v L) (hb : Below w.heap.size w w') : FRow S w' v L :=
  h.keep (fun b _ hlt => hb.block b hlt) hb.size (fun _ h _ => h)
theorem FRow.but {S S' : Nat → Prop} {w w' : World} {v : Value} {L : List Fi} {l : List Nat} (h : FRow S w v L) (hb : But l w w') (hn : ∀ b, S b → b < w.heap.size → b ∉ l) (hS : ∀ b, S b → b < w.heap.size → S' b) : FRow S' w' v L :=
  h.keep (fun b hs hlt => hb.block b hlt (hn b hs hlt)) hb.size hS
theorem FRow.wider {S S' : Nat → Prop} {w : World} {v : Value} {L : List Fi} (h : FRow S w v L) (hS : ∀ b, S b → b < w.heap.size → S' b) : FRow S' w v L := h.keep (fun _ _ _ => rfl) (Nat.le_refl _) hS
theorem FRow.nil (S : Nat → Prop) (w : World) : FRow S w (.slice none 0 0) [] := ⟨⟨none, 0, rfl, by simp, by omega, fun _ => rfl, fun h => absurd h (by simp)⟩, fun _ h => by cases h⟩
theorem FRow.own {w : World} {B : Nat} {T : TypeId} {v : Value} {L : List Fi} (h : w.ownsRow B T 5 v L.length (rcells L)) (ok : ∀ f ∈ L, FiOk f) : FRow (B ≤ ·) w v L := by
  obtain ⟨h1, h2⟩ := h
  rcases h2 with ⟨rfl, hn⟩ | ⟨g, cap, cur, rfl, hg, hb, hnc, hm, hcs, ht⟩
  · have hL : L = [] := List.eq_nil_of_length_eq_zero hn
    subst hL
    exact FRow.nil _ _
  · refine ⟨⟨_, cap, rfl, hnc, hm, (fun e => by cases e), fun _ => ⟨g, 0, rfl, hg, (Array.getElem?_eq_some_iff.1 hb).1, fun i hi => ?_⟩⟩, ok⟩
    have e : ∀ j, w.cell? ⟨g, j, none⟩ = cur[j]? := fun j => by simp [World.cell?, hb]
    have h3 : ∀ (j : Nat) (u : Value), (rcells L)[j]? = some u → w.cell? ⟨g, j, none⟩ = some u := by
      intro j u hj
      rw [e]
      rw [← ht, List.getElem?_take] at hj
      split at hj
      · simpa using hj
      · cases hj
    obtain ⟨a0, a1, a2, a3, a4⟩ := rcells_at L i hi
    rw [Nat.zero_add]
    exact ⟨h3 _ _ a0, h3 _ _ a1, h3 _ _ a2, h3 _ _ a3, h3 _ _ a4⟩
/-- v is a slice of the numbers L -/
structure IRow (S : Nat → Prop) (w : World) (v : Value) (L : List Int) : Prop where
  ex : ∃ a c, v = .slice a L.length c ∧ L.length ≤ c ∧ c ≤ 9223372036854775807 ∧ (a = none → c = 0) ∧ (0 < L.length → ∃ b o, a = some ⟨b, o, none⟩ ∧ S b ∧ b < w.heap.size ∧ ∀ i (_ : i < L.length), w.cell? ⟨b, o + i, none⟩ = some (.int .i64 L[i]))
theorem IRow.keep {S S' : Nat → Prop} {w w' : World} {v : Value} {L : List Int} (h : IRow S w v L) (hk : ∀ b, S b → b < w.heap.size → w'.heap[b]? = w.heap[b]?) (hs : w.heap.size ≤ w'.heap.size) (hS : ∀ b, S b → b < w.heap.size → S' b) : IRow S' w' v L := by
  obtain ⟨⟨a, c, rfl, h1, h2, h0, h3⟩⟩ := h
  refine ⟨⟨a, c, rfl, h1, h2, h0, fun hl => ?_⟩⟩
  obtain ⟨b, o, rfl, hb, hlt, hc⟩ := h3 hl
  exact ⟨b, o, rfl, hS b hb hlt, by omega, fun i hi => (World.cell?_of_block (w := w) (hk b hb hlt)).trans (hc i hi)⟩
theorem IRow.below {S : Nat → Prop} {w w' : World} {v : Value} {L : List Int} (h : IRow S w v L) (hb : Below w.heap.size w w') : IRow S w' v L :=
  h.keep (fun b _ hlt => hb.block b hlt) hb.size (fun _ h _ => h)
theorem IRow.but {S S' : Nat → Prop} {w w' : World} {v : Value} {L : List Int} {l : List Nat} (h : IRow S w v L) (hb : But l w w') (hn : ∀ b, S b → b < w.heap.size → b ∉ l) (hS : ∀ b, S b → b < w.heap.size → S' b) : IRow S' w' v L :=
  h.keep (fun b hs hlt => hb.block b hlt (hn b hs hlt)) hb.size hS
/-- 'a < b' and 'a <= b' on texts, in the walk's own spelling -/
def sLt (a b : ByteArray) : Bool := Op.bytesLess a.toList b.toList
def sLe (a b : ByteArray) : Bool := Op.bytesLess a.toList b.toList || a.toList == b.toList
def sEq (a b : ByteArray) : Bool := a.toList == b.toList
/-- may a text be a key? -/
def keyB (a : ByteArray) : Bool := decide (0 < a.size) && decide (a.size ≤ 128)
/-- is a table right? -/
def rightB (f : Fi) : Bool := decide (0 ≤ f.level) && decide (f.level < 4) && decide (1 ≤ f.count) && decide (f.count ≤ 4096) && keyB f.first && keyB f.last && sLe f.first f.last && (sEq f.first f.last == (f.count == 1))
end Go.Proofs.YtiiafpbonkcokaaGreat
