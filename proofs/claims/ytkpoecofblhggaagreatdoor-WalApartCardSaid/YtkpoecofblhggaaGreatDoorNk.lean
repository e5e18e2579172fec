/-
  For 'scan': the files of a log, records in memory, marks of several ranges over functions, what a round keeps.
-/
import Derived.Test.YtkpoecofblhggaaGreatDoorNj
import Derived.Test.YtkpoecofblhggaaGreatDoorNf
namespace Go.Proofs.YtkpoecofblhggaaGreatDoor
open Go.RowKit Go.Shelf

/-- a record: its number, its body -/
abbrev Rc := Nat × ByteArray
def rccells : List Rc → List Value
  | [] => []
  | r :: l => .int .i64 (r.1 : Nat) :: .string r.2 :: rccells l
theorem rccells_len : ∀ l : List Rc, (rccells l).length = l.length * 2
  | [] => rfl
  | r :: l => by simp [rccells, rccells_len l]; omega
theorem rccells_append : ∀ (l r : List Rc), rccells (l ++ r) = rccells l ++ rccells r
  | [], _ => rfl
  | a :: l, r => by simp [rccells, rccells_append l r]
theorem rccells_at : ∀ (l : List Rc) (i : Nat) (h : i < l.length), (rccells l)[i * 2]? = some (.int .i64 (l[i].1 : Nat)) ∧ (rccells l)[i * 2 + 1]? = some (.string l[i].2)
  | r :: l, 0, _ => ⟨rfl, rfl⟩
  | r :: l, i + 1, h => by
    have := rccells_at l i (by simpa using h)
    rw [show (i + 1) * 2 = i * 2 + 2 by omega]
    simpa [rccells] using this
/-- bodies numbered from n on -/
def numb : Nat → List ByteArray → List Rc
  | _, [] => []
  | n, b :: r => (n, b) :: numb (n + 1) r
theorem numb_len : ∀ (n : Nat) (l : List ByteArray), (numb n l).length = l.length
  | _, [] => rfl
  | n, b :: r => by simp [numb, numb_len (n + 1) r]
theorem numb_append : ∀ (n : Nat) (l r : List ByteArray), numb n (l ++ r) = numb n l ++ numb (n + l.length) r
  | n, [], r => by simp [numb]
  | n, b :: l, r => by rw [List.cons_append, numb, numb_append (n + 1) l r, numb, List.cons_append, List.length_cons, show n + 1 + l.length = n + (l.length + 1) by omega]
theorem numb_get : ∀ (n : Nat) (l : List ByteArray) (i : Nat) (h : i < l.length), (numb n l)[i]? = some (n + i, l[i])
  | n, b :: r, 0, _ => rfl
  | n, b :: r, i + 1, h => by
    have := numb_get (n + 1) r i (by simpa using h)
    simp only [numb, List.getElem?_cons_succ, List.getElem_cons_succ]
    rw [this]; congr 2; omega
/-- v: a slice of the call's own that holds the records l -/
def RecsAt (w : World) (B : Nat) (v : Value) (l : List Rc) : Prop := w.ownsRow B 38 2 v l.length (rccells l)

/-- a file of a log: the number of its first record, its bodies, what stands behind their frames, all its bytes -/
structure Sg where
  fr : Nat
  bs : List ByteArray
  t : List UInt8
  data : ByteArray
structure SgOk (d : Dk) (log : ByteArray) (g : Sg) : Prop where
  text : Text g.data g.bs g.t
  ends : Ends g.data (offs g.bs g.bs.length)
  file : ∃ syn, fget d.fs (fileL log g.fr) = some ⟨g.data, syn⟩
  lo : 1 ≤ g.fr
  hi : g.fr < 100
  sz : g.data.size ≤ 1048576
/-- each file begins where the one ahead ends -/
def Chain : Nat → List Sg → Prop
  | _, [] => True
  | n, g :: r => g.fr = n ∧ Chain (n + g.bs.length) r
/-- the records of the first files -/
def bods (S : List Sg) : List ByteArray := S.flatMap (·.bs)
theorem bods_append (S T : List Sg) : bods (S ++ T) = bods S ++ bods T := by simp [bods]
theorem chain_at : ∀ (n : Nat) (S : List Sg) (i : Nat) (h : i < S.length), Chain n S → S[i].fr = n + (bods (S.take i)).length
  | n, g :: r, 0, _, hc => by simpa [bods] using hc.1
  | n, g :: r, i + 1, h, hc => by
    have := chain_at (n + g.bs.length) r i (by simpa using h) hc.2
    simp only [List.getElem_cons_succ, List.take_succ_cons]
    rw [this, show bods (g :: r.take i) = g.bs ++ bods (r.take i) by simp [bods], List.length_append]; omega
theorem bods_snoc (S : List Sg) (i : Nat) (h : i < S.length) : bods (S.take (i + 1)) = bods (S.take i) ++ S[i].bs := by
  rw [List.take_succ_eq_append_getElem h, bods_append]; simp [bods]

/-- the mark that a range over a function leaves among the deferred calls -/
def mark (D : Nat) : Deferred := { target := .collected D, args := #[] }
theorem marks_leave {F : Fence} {n : Nat} {P : Program} {fn : Func} {tmps : Array Value} {R : Ending → World → Prop} : ∀ (Ds : List Nat) (W : World), (∀ D ∈ Ds, W.heap[D]? = some (.deferred (some []))) → Ds.Nodup →
    (∀ W' : World, W'.os = W.os → W'.tape = W.tape → W'.output = W.output → W'.heap.size = W.heap.size → (∀ k, k ∉ Ds → W'.heap[k]? = W.heap[k]?) → ∃ v, (results fn tmps).run P W' = .ok v W' ∧ R (.returned v) W') →
    LeavesInM F n P fn tmps R (Ds.map mark) .returning W
  | [], W, _, _, h => h W rfl rfl rfl rfl (fun _ _ => rfl)
  | D :: Ds, W, hd, hn, h => by
    refine ⟨by simp, .inl ⟨D, _, rfl, run_takeDeferred (hd D (List.mem_cons_self ..)), ?_⟩⟩
    have hn' := List.nodup_cons.1 hn
    have hg := grownBy_putObj' W D (.deferred none)
    have hsz : (W.putObj D (.deferred none)).heap.size = W.heap.size := by simp [World.putObj]
    have hk : ∀ k, k ≠ D → (W.putObj D (.deferred none)).heap[k]? = W.heap[k]? := fun k hk => World.putObj_heap_other hk
    refine marks_leave Ds _ (fun E hE => ?_) hn'.2 (fun W' h1 h2 h3 h4 h5 => h W' (h1.trans hg.os) (h2.trans hg.tape) (h3.trans hg.output) (h4.trans hsz) (fun k hkk => ?_))
    · rw [hk E (fun e => hn'.1 (e ▸ hE))]; exact hd E (List.mem_cons_of_mem _ hE)
    · rw [h5 k (fun e => hkk (List.mem_cons_of_mem _ e)), hk k (fun e => hkk (e ▸ List.mem_cons_self ..))]

/-- what a range over a file's records keeps: all but the box of the records, that of the next number, and rows of records of the call's own -/
structure KeepR (n R : Nat) (A B : World) : Prop where
  os : B.os = A.os
  tape : B.tape = A.tape
  output : B.output = A.output
  size : A.heap.size ≤ B.heap.size
  block : ∀ k o, A.heap[k]? = some o → k ≠ R → k ≠ R + 1 → (k < n ∨ ∀ cs fr, o ≠ .cells cs 38 fr) → B.heap[k]? = some o
theorem KeepR.refl (n R : Nat) (A : World) : KeepR n R A A := ⟨rfl, rfl, rfl, Nat.le_refl _, fun _ _ h _ _ _ => h⟩
theorem KeepR.trans {n R : Nat} {A B C : World} (h : KeepR n R A B) (k : KeepR n R B C) : KeepR n R A C :=
  ⟨k.os.trans h.os, k.tape.trans h.tape, k.output.trans h.output, Nat.le_trans h.size k.size, fun i o h1 h2 h3 h4 => k.block i o (h.block i o h1 h2 h3 h4) h2 h3 h4⟩
theorem KeepR.below {n R : Nat} {A B : World} (h : Below A.heap.size A B) : KeepR n R A B := ⟨h.os, h.tape, h.output, h.size, fun k o h1 _ _ _ => (h.block k (heap_lt h1)).trans h1⟩
theorem KeepR.grown {n R : Nat} {A B : World} {v : Value} {c : Nat} {xs : List Value} (hr : A.ownsRow n 38 2 v c xs) (hg : A.grownBy B v.ownBlock) : KeepR n R A B := by
  refine ⟨hg.os, hg.tape, hg.output, hg.size, fun k o h1 h2 h3 h4 => (hg.block k (heap_lt h1) (fun e => ?_)).trans h1⟩
  rcases hr.2 with ⟨rfl, _⟩ | ⟨g, cap, cur, rfl, hb, hh, _⟩
  · cases e
  · have : k = g := by simpa [Value.ownBlock] using e
    subst this
    rw [hh] at h1; injection h1 with h1; subst h1
    rcases h4 with h4 | h4
    · omega
    · exact h4 _ _ rfl
theorem KeepR.setCell {n R : Nat} {A : World} (o : Nat) (v : Value) {b : Nat} (hb : b = R ∨ b = R + 1) : KeepR n R A (A.setCell ⟨b, o, none⟩ v) :=
  ⟨rfl, rfl, rfl, by simp [World.setCell], fun k o h1 h2 h3 _ => (Below.heap_setCell _ _ _ _ (by rcases hb with rfl | rfl <;> assumption)).trans h1⟩
theorem ownFrom_keepR {β : Type} {n R B : Nat} {A : World} (hn : n ≤ B) (hA : A.heap.size ≤ B) : OwnFrom B (fun (_ : β) (W : World) => KeepR n R A W) := fun s X Y row hs hg hr =>
  ⟨hg.os.trans hs.os, hg.tape.trans hs.tape, hg.output.trans hs.output, Nat.le_trans hs.size hg.size, fun k o h1 h2 h3 h4 => by
    have h5 := hs.block k o h1 h2 h3 h4
    exact (hg.block k (heap_lt h5) (fun e => by have := (hr _ e.symm).1; have := heap_lt h1; omega)).trans h5⟩
/-- the boxes of the records and of the next number -/
structure RcM (n R : Nat) (W : World) (l : List Rc) (nx : Nat) : Prop where
  ex : ∃ v, W.heap[R]? = some (.cells #[v] 28 (0, 0)) ∧ RecsAt W n v l
  nx : W.heap[R + 1]? = some (.cells #[.int .i64 nx] 3 (0, 0))
theorem recs_keep {n : Nat} {X Y : World} {v : Value} {c : Nat} {xs : List Value} (h : X.ownsRow n 38 2 v c xs) (hk : ∀ g cs, v.ownBlock = some g → X.heap[g]? = some (.cells cs 38 (0, 0)) → Y.heap[g]? = some (.cells cs 38 (0, 0))) : Y.ownsRow n 38 2 v c xs := by
  obtain ⟨h1, h2⟩ := h
  refine ⟨h1, h2.imp id ?_⟩
  rintro ⟨g, cap, cur, rfl, hg, hh, r⟩
  exact ⟨g, cap, cur, rfl, hg, hk g cur rfl hh, r⟩
theorem ownFrom_rcM {n R B : Nat} {f : List ByteArray → List Rc} {g : List ByteArray → Nat} (hR : R + 1 < B) : OwnFrom B (fun (s : List ByteArray) (W : World) => RcM n R W (f s) (g s)) := fun s X Y row hs hg hr => by
  obtain ⟨⟨v, h1, h2⟩, h3⟩ := hs
  refine ⟨⟨v, (hg.block _ (heap_lt h1) (fun e => by have := (hr _ e.symm).1; omega)).trans h1, recs_keep h2 fun k cs _ hk => (hg.block k (heap_lt hk) (fun e => ?_)).trans hk⟩, (hg.block _ (heap_lt h3) (fun e => by have := (hr _ e.symm).1; omega)).trans h3⟩
  obtain ⟨o, ho, hc⟩ := (hr _ e.symm).2
  rw [hk] at ho; injection ho with ho; subst ho; cases hc
theorem RcM.facts {n R : Nat} {W : World} {l : List Rc} {nx : Nat} (h : RcM n R W l nx) : ∃ a c, W.cell? ⟨R, 0, none⟩ = some (.slice a l.length c) ∧ W.frozen? ⟨R, 0, none⟩ = false ∧ RecsAt W n (.slice a l.length c) l ∧ W.heap[R]? = some (.cells #[.slice a l.length c] 28 (0, 0)) ∧ W.cell? ⟨R + 1, 0, none⟩ = some (.int .i64 nx) ∧ W.frozen? ⟨R + 1, 0, none⟩ = false := by
  obtain ⟨⟨v, h1, h2⟩, h3⟩ := h
  obtain ⟨a, c, rfl⟩ := own_slice h2
  exact ⟨a, c, by simp [World.cell?, h1], by simp [World.frozen?, h1], h2, h1, by simp [World.cell?, h3], by simp [World.frozen?, h3]⟩
theorem RcM.below {n R : Nat} {W W' : World} {l : List Rc} {nx : Nat} (h : RcM n R W l nx) (hb : Below W.heap.size W W') : RcM n R W' l nx := by
  obtain ⟨⟨v, h1, h2⟩, h3⟩ := h
  exact ⟨⟨v, (hb.block _ (heap_lt h1)).trans h1, recs_keep h2 fun k cs _ hk => (hb.block k (heap_lt hk)).trans hk⟩, (hb.block _ (heap_lt h3)).trans h3⟩
/-- one record more -/
theorem RcM.push {n R : Nat} {W w1 : World} {l : List Rc} {nx : Nat} {x : ByteArray} {a a' : Option Addr} {c c' : Nat} {o : Obj} {M : Int} (hM : M = ((nx + 1 : Nat) : Int)) (hRn : R < n) (h3 : W.heap[R + 1]? = some (.cells #[.int .i64 nx] 3 (0, 0))) (h1 : W.heap[R]? = some (.cells #[.slice a l.length c] 28 (0, 0)))
    (h2 : RecsAt W n (.slice a l.length c) l) (hg : (W.alloc o).grownBy w1 (Value.slice a l.length c).ownBlock) (ho : w1.ownsRow n 38 2 (.slice a' (l.length + 1) c') (l.length + 1) (rccells l ++ [.int .i64 nx, .string x])) :
    (w1.cell? ⟨R, 0, none⟩ = some (.slice a l.length c) ∧ w1.frozen? ⟨R, 0, none⟩ = false ∧ w1.cell? ⟨R + 1, 0, none⟩ = some (.int .i64 nx) ∧ w1.frozen? ⟨R + 1, 0, none⟩ = false) ∧
    RcM n R ((w1.setCell ⟨R, 0, none⟩ (.slice a' (l.length + 1) c')).setCell ⟨R + 1, 0, none⟩ (.int .i64 M)) (l ++ [(nx, x)]) (nx + 1) ∧
    KeepR n R W ((w1.setCell ⟨R, 0, none⟩ (.slice a' (l.length + 1) c')).setCell ⟨R + 1, 0, none⟩ (.int .i64 M)) ∧
    (∀ B, KeepsFrom B W ((w1.setCell ⟨R, 0, none⟩ (.slice a' (l.length + 1) c')).setCell ⟨R + 1, 0, none⟩ (.int .i64 M))) := by
  subst hM
  have hno : ∀ (k : Nat) (cs : Array Value) (T : TypeId), W.heap[k]? = some (Obj.cells cs T (0, 0)) → T ≠ 38 → w1.heap[k]? = some (Obj.cells cs T (0, 0)) := fun k cs T hk hT => by
    rw [hg.block k (by have := heap_lt hk; simp; omega) (fun e => ?_), Below.heap_alloc _ _ _ (heap_lt hk), hk]
    exact own_type h2 hk hT e.symm
  have e1 := hno R _ _ h1 (by decide)
  have e3 := hno (R + 1) _ _ h3 (by decide)
  have s1 := heap_setCell_same _ R 0 _ _ (.slice a' (l.length + 1) c') e1
  have s3 : (w1.setCell ⟨R, 0, none⟩ (.slice a' (l.length + 1) c')).heap[R + 1]? = some (.cells #[.int .i64 nx] 3 (0, 0)) := (Below.heap_setCell _ _ _ _ (by simp)).trans e3
  refine ⟨⟨by simp [World.cell?, e1], by simp [World.frozen?, e1], by simp [World.cell?, e3], by simp [World.frozen?, e3]⟩, ⟨⟨.slice a' (l.length + 1) c', (Below.heap_setCell _ _ _ _ (by simp)).trans s1, ?_⟩, heap_setCell_same _ (R + 1) 0 _ _ _ s3⟩, ?_, fun B => ?_⟩
  · unfold RecsAt
    rw [List.length_append, rccells_append]
    refine recs_keep ho fun k cs hv hk => ?_
    have hkn : n ≤ k := (ho.lt k hv).1
    have k1 : k ≠ R := by omega
    have k2 : k ≠ R + 1 := by
      rintro rfl
      rw [e3] at hk; injection hk with e; injection e with _ e2; exact absurd e2 (by decide)
    rw [Below.heap_setCell _ _ _ _ k2, Below.heap_setCell _ _ _ _ k1, hk]
  · have g1 : KeepR n R W w1 := (KeepR.below (bl1 W o)).trans (KeepR.grown (World.ownsRow.alloc h2 o) hg)
    exact (g1.trans (KeepR.setCell _ _ (.inl rfl))).trans (KeepR.setCell _ _ (.inr rfl))
  · refine KeepsOthers.from ((((KeepsOthers.alloc W o).trans (KeepsOthers.of_grownBy hg fun j o' ej hj => ?_)).trans (KeepsOthers.setCell _ _ _)).trans (KeepsOthers.setCell _ _ _)) _
    rcases (World.ownsRow.alloc h2 o).2 with ⟨he, _⟩ | ⟨g, cap, cur, he, _, hgb, _⟩
    · rw [he] at ej; cases ej
    · rw [he] at ej
      obtain rfl : g = j := by simpa [Value.ownBlock] using ej
      rw [hgb] at hj; cases hj; rfl
theorem info_rec : (Tryz.prog.info? 38).map (fun i => (i.zero, i.size, i.bytes)) = some (some (.agg #[.int .i64 0, .string ⟨#[]⟩]), 2, 24) := by kernel_rfl
end Go.Proofs.YtkpoecofblhggaaGreatDoor
