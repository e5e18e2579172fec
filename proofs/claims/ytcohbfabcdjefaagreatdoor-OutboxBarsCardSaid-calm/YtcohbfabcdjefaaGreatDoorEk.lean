/-
  package store: put. A frame by types.
-/
import Derived.Test.YtcohbfabcdjefaaGreatDoorEj
namespace Go.Proofs.YtcohbfabcdjefaaGreatDoor
open Go.RowKit Go.Maps

/-- blocks below B, and all blocks of other types, stay -/
structure Kp (B : Nat) (ts : List TypeId) (w w' : World) : Prop where
  os : w'.os = w.os
  tape : w'.tape = w.tape
  output : w'.output = w.output
  size : w.heap.size ≤ w'.heap.size
  blk : ∀ k o, w.heap[k]? = some o → (k < B ∨ ∀ cs T fr, o = .cells cs T fr → T ∉ ts) → w'.heap[k]? = some o
theorem Kp.refl (B : Nat) (ts : List TypeId) (w : World) : Kp B ts w w := ⟨rfl, rfl, rfl, Nat.le_refl _, fun _ _ h _ => h⟩
theorem Kp.trans {B : Nat} {ts : List TypeId} {a b c : World} (h : Kp B ts a b) (k : Kp B ts b c) : Kp B ts a c :=
  ⟨k.os.trans h.os, k.tape.trans h.tape, k.output.trans h.output, Nat.le_trans h.size k.size, fun i o hi ho => k.blk i o (h.blk i o hi ho) ho⟩
theorem Kp.of_below {B : Nat} {ts : List TypeId} {w w' : World} (h : Below w.heap.size w w') : Kp B ts w w' :=
  ⟨h.os, h.tape, h.output, h.size, fun k o hk _ => (h.block k (Array.getElem?_eq_some_iff.1 hk).1).trans hk⟩
theorem Kp.of_but {B : Nat} {ts : List TypeId} {l : List Nat} {w w' : World} (h : But l w w') (hl : ∀ k ∈ l, B ≤ k ∧ ∃ cs T fr, w.heap[k]? = some (.cells cs T fr) ∧ T ∈ ts) : Kp B ts w w' :=
  ⟨h.os, h.tape, h.output, h.size, fun k o hk ho => (h.block k (Array.getElem?_eq_some_iff.1 hk).1 (fun e => by
    obtain ⟨h1, cs, T, fr, h2, h3⟩ := hl k e
    rw [hk] at h2; injection h2 with h2
    rcases ho with ho | ho
    · omega
    · exact ho cs T fr h2 h3)).trans hk⟩
theorem Kp.setCell {B : Nat} {ts : List TypeId} {a w : World} (h : Kp B ts a w) {g : Nat} {cs : Array Value} {T : TypeId} {fr : Nat × Nat} (hg : w.heap[g]? = some (.cells cs T fr)) (hT : T ∈ ts) (hB : B ≤ g) (o : Nat) (v : Value) : Kp B ts a (w.setCell ⟨g, o, none⟩ v) :=
  ⟨h.os, h.tape, h.output, by simpa using h.size, fun k x hk hx => by
    have h1 := h.blk k x hk hx
    rw [Below.heap_setCell w _ v k (fun e => ?_)]
    · exact h1
    · have e' : k = g := e
      subst e'
      rw [hg] at h1; injection h1 with h1
      rcases hx with hx | hx
      · omega
      · exact hx cs T fr h1.symm hT⟩
theorem Kp.alloc {B : Nat} {ts : List TypeId} {a w : World} (h : Kp B ts a w) (o : Obj) : Kp B ts a (w.alloc o) := h.trans (.of_below ((Below.refl _ _).alloc (Nat.le_refl _) _))
theorem Kp.drew {B : Nat} {ts : List TypeId} {a w : World} (h : Kp B ts a w) : Kp B ts a w.drew := ⟨h.os, h.tape, h.output, h.size, h.blk⟩
theorem Kp.own {B B' : Nat} {ts : List TypeId} {w w' : World} {T : TypeId} {size n : Nat} {v : Value} {xs : List Value} (h : Kp B ts w w') (ho : w.ownsRow B' T size v n xs) (hT : T ∉ ts) : w'.ownsRow B' T size v n xs :=
  own_keep ho fun g cs _ e => h.blk g _ e (.inr (fun cs' T' fr' e2 => by injection e2 with _ e3; rw [← e3]; exact hT))

def stC (mb db lb nb size logged : Nat) (dead : Bool) : Array Value := #[.pointer (some ⟨mb, 0, none⟩), .slice none 0 0, .slice none 0 0, .slice none 0 0, .slice none 0 0, .pointer (some ⟨db, 0, none⟩), .pointer (some ⟨lb, 0, none⟩), .pointer (some ⟨nb, 0, none⟩), .int .i64 size, .int .i64 logged, .bool dead]
/-- a store without tables at block sb -/
def StB (w : World) (sb mb db lb nb size logged : Nat) (dead : Bool) : Prop := w.heap[sb]? = some (.cells (stC mb db lb nb size logged dead) 106 (0, 0))
abbrev tsM : List TypeId := [176, 144, 106]
def putAll (M L : List It) : List It := L.foldl putL M
theorem putAll_succ (M L : List It) (i : Nat) (h : i < L.length) : putAll M (L.take (i + 1)) = putL (putAll M (L.take i)) L[i] := by
  unfold putAll; rw [List.take_add_one, List.getElem?_eq_getElem h, List.foldl_append]; rfl
theorem sumE_mem : ∀ {M : List It} {y : It}, y ∈ M → szE y ≤ sumE M
  | x :: r, y, h => by
    rcases List.mem_cons.1 h with rfl | h
    · simp only [sumE]; omega
    · have := sumE_mem h; simp only [sumE]; omega
theorem sumE_putL_none : ∀ {M : List It} (x : It), Up M → getL M x.key = none → sumE (putL M x) = sumE M + szE x
  | [], x, _, _ => by rw [putL_nil]; simp [sumE]
  | z :: r, x, hU, h => by
    rw [getL_cons] at h
    rw [putL_cons z r x]
    split at h
    · cases h
    rename_i hne
    split
    · simp only [sumE]; rw [sumE_putL_none x hU.2 h]; omega
    · split
      · rename_i h0; exact absurd (cmpK_zero h0) hne
      · simp only [sumE]; omega
theorem sumE_putL_some : ∀ {M : List It} (x y : It), Up M → getL M x.key = some y → sumE (putL M x) + szE y = sumE M + szE x
  | [], x, y, _, h => by cases h
  | z :: r, x, y, hU, h => by
    rw [getL_cons] at h
    rw [putL_cons z r x]
    split at h
    · rename_i he
      injection h with h; subst h
      have h1 : cmpK z.key x.key = 0 := by rw [he]; exact cmpK_self _
      rw [if_neg (by omega), if_pos h1]
      simp only [sumE]; omega
    · rename_i hne
      split
      · simp only [sumE]; have := sumE_putL_some x y hU.2 h; omega
      · split
        · rename_i h0; exact absurd (cmpK_zero h0) hne
        · rename_i h1 h2
          exfalso
          have h3 : cmpK x.key z.key < 0 := by
            have := cmpK_anti z.key x.key
            rcases cmpK_vals z.key x.key with h | h | h <;> omega
          unfold getL at h
          have hm := List.mem_of_find?_eq_some h
          have hk := List.find?_some h
          have := cmpK_trans h3 (hU.1 y hm)
          rw [show y.key = x.key by simpa using hk, cmpK_self] at this
          omega
end Go.Proofs.YtcohbfabcdjefaaGreatDoor
