/-
  A disk's map in memory ('HasMap'): what a look-up, a store, a delete and len do to it.
-/
import Derived.Test.YtiiafpbonkcokaaGreatA
import Derived.Test.YtiiafpbonkcokaaGreatProg
import Derived.WalkKit
import Derived.WalkLawsBesides
import Derived.WalkSpells
import Derived.Lib.Hide
import Derived.Maps.OwnSet
namespace Go.Proofs.YtiiafpbonkcokaaGreat
open Go.RowKit Go.Maps Go.WideMaps Go.WideElems

theorem keyLaw : Keyed Tryz.prog 9 := string_keyed Tryz.underlying9
theorem zeroFile (w : World) : (zeroValue 95).run Tryz.prog w = .ok zval w := by kernel_rfl

/-- block m of w is a map that reads as F -/
def HasMap (w : World) (m : Nat) (F : Fs) : Prop := w.ownsMap Tryz.prog 9 fileElem m F.length (dat F)

theorem HasMap.of {w : World} {m n : Nat} {F : Fs} (h : w.ownsMap Tryz.prog 9 fileElem m n (dat F)) : HasMap w m F := by
  obtain ⟨es, clock, hb, hf, _, hd⟩ := h
  refine ⟨es, clock, hb, hf, ?_, hd⟩
  have e1 : Maps.size (dat F) = es.size := by rw [hd]; simp [Maps.size, length_sorted]
  rw [dat_size] at e1
  omega
theorem HasMap.lt {w : World} {m : Nat} {F : Fs} (h : HasMap w m F) : m < w.heap.size := World.ownsMap.lt h
theorem HasMap.heap {w w' : World} {m : Nat} {F : Fs} (h : HasMap w m F) (e : w'.heap[m]? = w.heap[m]?) : HasMap w' m F := by
  obtain ⟨es, clock, hb, r⟩ := h
  exact ⟨es, clock, e.trans hb, r⟩
theorem HasMap.alloc {w : World} {m : Nat} {F : Fs} (h : HasMap w m F) (o : Obj) : HasMap (w.alloc o) m F := h.heap (Below.heap_alloc w o m h.lt)
theorem HasMap.drew {w : World} {m : Nat} {F : Fs} (h : HasMap w m F) : HasMap w.drew m F := h
theorem HasMap.ne_cell {w : World} {m b o : Nat} {F : Fs} {v : Value} (h : HasMap w m F) (hc : w.cell? ⟨b, o, none⟩ = some v) : b ≠ m := by
  rintro rfl
  obtain ⟨es, clock, hb, _⟩ := h
  simp [World.cell?, hb] at hc
theorem HasMap.setCell {w : World} {m : Nat} {F : Fs} (h : HasMap w m F) (a : Addr) (u : Value) : HasMap (w.setCell a u) m F := by
  obtain ⟨es, clock, hb, r⟩ := h
  refine ⟨es, clock, ?_, r⟩
  simp only [World.setCell, Array.getElem?_modify]
  split
  · rename_i e; subst e; rw [hb]; rfl
  · exact hb

theorem keyOk {s : ByteArray} (hs : s.size ≤ maxLen) : keyOf Tryz.prog 9 (.string s) = some (.string s.data.toList) := keyOf_string_mk Tryz.underlying9 hs

/-- what a look-up finds -/
def found (F : Fs) (k : Nm) : Value := match fget F k with | some f => fval f | none => zval

theorem HasMap.look_ok {w : World} {m : Nat} {F : Fs} (h : HasMap w m F) {s : ByteArray} (hs : s.size ≤ maxLen) :
    (Instr.lookup 89 (.map (some m)) (.string s) true).run Tryz.prog w = .ok (.tuple #[found F s.data.toList, .bool (fhas F s.data.toList)]) w := by
  obtain ⟨v, ps, hrun, hv⟩ := World.ownsMap.look_ok h keyLaw Tryz.underlying89 (zeroFile w) (zd := .held zval) (zp := []) rfl (keyOk hs)
  rw [hrun, dat_has]
  rw [dat_at] at hv
  simp only [fileElem, Option.some.injEq, Prod.mk.injEq] at hv
  have e : v = found F s.data.toList := by
    unfold found
    cases hg : fget F s.data.toList with
    | none => rw [hg] at hv; simpa using hv.1
    | some f => rw [hg] at hv; simpa using hv.1
  rw [e]
theorem HasMap.look {w : World} {m : Nat} {F : Fs} (h : HasMap w m F) {s : ByteArray} (hs : s.size ≤ maxLen) :
    (Instr.lookup 89 (.map (some m)) (.string s) false).run Tryz.prog w = .ok (found F s.data.toList) w := by
  obtain ⟨v, ps, hrun, hv⟩ := World.ownsMap.lookup h keyLaw Tryz.underlying89 (zeroFile w) (zd := .held zval) (zp := []) rfl (keyOk hs)
  rw [hrun]
  rw [dat_at] at hv
  simp only [fileElem, Option.some.injEq, Prod.mk.injEq] at hv
  have e : v = found F s.data.toList := by
    unfold found
    cases hg : fget F s.data.toList with
    | none => rw [hg] at hv; simpa using hv.1
    | some f => rw [hg] at hv; simpa using hv.1
  rw [e]
theorem HasMap.len {w : World} {m : Nat} {F : Fs} (h : HasMap w m F) (ty : TypeId) :
    (Builtin.len_ #[89] ty #[.map (some m)]).run Tryz.prog w = .ok (.int .i64 F.length) w := by
  have := World.ownsMap.len h Tryz.underlying89 ty
  rwa [dat_size] at this

/-- 'm[s] = v' -/
theorem HasMap.put {w : World} {m : Nat} {F : Fs} (h : HasMap w m F) {s : ByteArray} (hs : s.size ≤ maxLen) (hn : F.length < maxLen) (f : Fl) :
    ∃ w', (Instr.mapUpdate 89 (.map (some m)) (.string s) (fval f)).run Tryz.prog w = .ok () w' ∧ HasMap w' m (fput F s.data.toList f) ∧ w.mapTurned w' m := by
  obtain ⟨w', hrun, hown, hturn⟩ := World.ownsMap.store h keyLaw Tryz.underlying89 hn (keyOk hs) (val := fval f) (d := .held (fval f)) (ps := []) rfl
  exact ⟨w', hrun, .of (by rw [dat_put] at hown; exact hown), hturn⟩
/-- 'delete(m, s)' -/
theorem HasMap.del {w : World} {m : Nat} {F : Fs} (h : HasMap w m F) {s : ByteArray} (hs : s.size ≤ maxLen) (ty : TypeId) :
    ∃ w', (Builtin.delete_ #[89, 9] ty #[.map (some m), .string s]).run Tryz.prog w = .ok (.tuple #[]) w' ∧ HasMap w' m (fdel F s.data.toList) ∧ w.mapTurned w' m := by
  obtain ⟨w', hrun, hown, hturn⟩ := World.ownsMap.drop h keyLaw Tryz.underlying89 (keyOk hs) ty
  exact ⟨w', hrun, .of (by rw [dat_del] at hown; exact hown), hturn⟩

/-- but for the blocks on the list nothing has turned -/
structure But (l : List Nat) (w w' : World) : Prop where
  os : w'.os = w.os
  tape : w'.tape = w.tape
  output : w'.output = w.output
  size : w.heap.size ≤ w'.heap.size
  block : ∀ k, k < w.heap.size → k ∉ l → w'.heap[k]? = w.heap[k]?
theorem But.refl (l : List Nat) (w : World) : But l w w := ⟨rfl, rfl, rfl, Nat.le_refl _, fun _ _ _ => rfl⟩
theorem But.trans {l : List Nat} {a b c : World} (h : But l a b) (k : But l b c) : But l a c :=
  ⟨k.os.trans h.os, k.tape.trans h.tape, k.output.trans h.output, Nat.le_trans h.size k.size, fun i hi hn => (k.block i (Nat.lt_of_lt_of_le hi h.size) hn).trans (h.block i hi hn)⟩
theorem But.of_below {l : List Nat} {w w' : World} (h : Below w.heap.size w w') : But l w w' := ⟨h.os, h.tape, h.output, h.size, fun k hk _ => h.block k hk⟩
theorem But.wider {l l' : List Nat} {w w' : World} (h : But l w w') (hs : ∀ x ∈ l, x ∈ l') : But l' w w' := ⟨h.os, h.tape, h.output, h.size, fun k hk hn => h.block k hk (fun e => hn (hs k e))⟩
theorem But.below {l : List Nat} {B : Nat} {w w' : World} (h : But l w w') (hB : B ≤ w.heap.size) (hl : ∀ x ∈ l, B ≤ x) : Below B w w' :=
  ⟨h.os, h.tape, h.output, h.size, fun k hk => h.block k (Nat.lt_of_lt_of_le hk hB) (fun e => Nat.lt_irrefl _ (Nat.lt_of_lt_of_le hk (hl k e)))⟩
theorem But.alloc {l : List Nat} {a w : World} (h : But l a w) (o : Obj) : But l a (w.alloc o) := h.trans (.of_below ((Below.refl _ _).alloc (Nat.le_refl _) _))
theorem But.drew {l : List Nat} {a w : World} (h : But l a w) : But l a w.drew := ⟨h.os, h.tape, h.output, h.size, h.block⟩
theorem But.setCell {l : List Nat} {a w : World} (h : But l a w) {p : Addr} (hp : p.block ∈ l ∨ a.heap.size ≤ p.block) (u : Value) : But l a (w.setCell p u) :=
  ⟨h.os, h.tape, h.output, by simpa [World.setCell] using h.size, fun k hk hn => (Below.heap_setCell w p u k (fun e => by subst e; rcases hp with hp | hp; exact hn hp; omega)).trans (h.block k hk hn)⟩
theorem But.turned {l : List Nat} {a w w' : World} {m : Nat} (h : But l a w) (ht : w.mapTurned w' m) (hm : m ∈ l) : But l a w' := by
  have g := ht.grown
  exact h.trans ⟨g.os, g.tape, g.output, g.size, fun k hk hn => g.block k hk (fun e => hn (by injection e with e; rw [e]; exact hm))⟩
theorem But.cell {l : List Nat} {w w' : World} (h : But l w w') {b o : Nat} (hb : b < w.heap.size) (hn : b ∉ l) : w'.cell? ⟨b, o, none⟩ = w.cell? ⟨b, o, none⟩ := World.cell?_of_block (w := w) (h.block b hb hn)
theorem But.frozen {l : List Nat} {w w' : World} (h : But l w w') {b o : Nat} (hb : b < w.heap.size) (hn : b ∉ l) : w'.frozen? ⟨b, o, none⟩ = w.frozen? ⟨b, o, none⟩ := World.frozen?_of_block (w := w) (h.block b hb hn)
theorem turned_cell {w w' : World} {m : Nat} (ht : w.mapTurned w' m) {b o : Nat} {v : Value} (hc : w.cell? ⟨b, o, none⟩ = some v) : w'.cell? ⟨b, o, none⟩ = some v := by
  have hlt := World.block_lt_of_cell? w _ hc
  have hne : b ≠ m := by
    rintro rfl
    obtain ⟨es, c, es', c', hb, _⟩ := ht
    simp [World.cell?, hb] at hc
  exact (World.cell?_of_block (w := w) (ht.grown.block b hlt (fun e => hne (by injection e)))).trans hc
theorem turned_size {w w' : World} {m : Nat} (ht : w.mapTurned w' m) : w'.heap.size = w.heap.size := by
  obtain ⟨es, c, es', c', hb, rfl⟩ := ht
  simp [ChangeMaps.setBlock]
end Go.Proofs.YtiiafpbonkcokaaGreat
