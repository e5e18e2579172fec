/-
  'scan': a log's files are read.
-/
import Derived.Test.YtkpoecofblhggaaGreatDoorNk
import Derived.Test.YtkpoecofblhggaaGreatDoorRq
namespace Go.Proofs.YtkpoecofblhggaaGreatDoor
open Go.RowKit Go.Shelf

attribute [local go_sem] Oper.semAt_some

def froms (S : List Sg) : List Nat := S.map (·.fr)
/-- the log as the files leave it -/
def scanX (log : ByteArray) (n0 : Nat) (S : List Sg) (g : Sg) : Lg := ⟨log, g.fr, g.data.size, (froms S).dropLast, n0 + (bods S).length - 1, false⟩
/-- what 'scan' makes of the disk and the log -/
def scanS (d : Dk) (log : ByteArray) (n0 : Nat) (S : List Sg) (g : Sg) : Rs :=
  if flen g.bs = g.data.size then (0, syncD d (fileL log g.fr), scanX log n0 S g) else rotateS (syncD d (fileL log g.fr)) (scanX log n0 S g)
/-- the state ahead of file i -/
structure ScM (w wr : World) (b : Nat) (log : ByteArray) (vl : Value) (n0 : Nat) (S : List Sg) (i : Nat) (Ds : List Nat) : Prop where
  fr : But [b] w wr
  lb : wr.heap[w.heap.size]? = some (.cells #[vl] 23 (0, 0))
  rc : RcM (w.heap.size + 3) (w.heap.size + 1) wr (numb n0 (bods (S.take i))) (n0 + (bods (S.take i)).length)
  ds : ∀ D ∈ Ds, w.heap.size ≤ D ∧ wr.heap[D]? = some (.deferred (some []))
  nd : Ds.Nodup
  wal : ∃ p a c ob, wr.heap[b]? = some (.cells #[p, .string log, .slice a i c, .int .i64 ((0 : Nat) : Int), .bool false] 45 (0, 0)) ∧ OldAt wr ob (.slice a i c) (froms (S.take i)) ∧ w.heap.size ≤ ob ∧ ob ≠ w.heap.size + 1 + 1
/-- the state behind them all -/
structure ScF (w wr : World) (b db m : Nat) (n0 : Nat) (S : List Sg) (r : Rs) (Ds : List Nat) : Prop where
  rc : ∃ v, wr.heap[w.heap.size + 1]? = some (.cells #[v] 28 (0, 0)) ∧ RecsAt wr w.heap.size v (numb n0 (bods S))
  wd : ∃ sb ob, WD wr b sb ob db m r.2.1 r.2.2 ∧ w.heap.size ≤ sb ∧ w.heap.size ≤ ob
  fr : But [b, db, m] w wr
  ds : ∀ D ∈ Ds, w.heap.size ≤ D ∧ wr.heap[D]? = some (.deferred (some []))
  nd : Ds.Nodup
/-- what 'scan' answers -/
def ScanR (w : World) (b db m : Nat) (n0 : Nat) (S : List Sg) (r : Rs) (e : Ending) (w' : World) : Prop :=
  ∃ v sb ob, e = .returned (.tuple #[v, .int .i64 r.1]) ∧ RecsAt w' w.heap.size v (numb n0 (bods S)) ∧ WD w' b sb ob db m r.2.1 r.2.2 ∧ w.heap.size ≤ sb ∧ w.heap.size ≤ ob ∧ But [b, db, m] w w'
theorem sc_start {w : World} {b : Nat} {log : ByteArray} {vl : Value} {n0 : Nat} {S : List Sg} (hb : w.heap[b]? = some (.cells #[.pointer none, .string log, .slice none 0 0, .int .i64 ((0 : Nat) : Int), .bool false] 45 (0, 0))) :
    ScM w (((w.alloc (.cells #[vl] 23)).alloc (.cells #[.slice none 0 0] 28)).alloc (.cells #[.int .i64 (n0 : Nat)] 3)) b log vl n0 S 0 [] := by
  have hbl := heap_lt hb
  have e0 : (((w.alloc (.cells #[vl] 23)).alloc (.cells #[.slice none 0 0] 28)).alloc (.cells #[.int .i64 (n0 : Nat)] 3)).heap[w.heap.size]? = some (.cells #[vl] 23 (0, 0)) := by
    rw [Below.heap_alloc _ _ _ (by simp; omega), Below.heap_alloc _ _ _ (by simp)]; exact heap_alloc_new w _
  have e1 : (((w.alloc (.cells #[vl] 23)).alloc (.cells #[.slice none 0 0] 28)).alloc (.cells #[.int .i64 (n0 : Nat)] 3)).heap[w.heap.size + 1]? = some (.cells #[.slice none 0 0] 28 (0, 0)) := by
    rw [Below.heap_alloc _ _ _ (by simp)]
    have := heap_alloc_new (w.alloc (.cells #[vl] 23)) (.cells #[.slice none 0 0] 28)
    rwa [World.size_alloc] at this
  have e2 : (((w.alloc (.cells #[vl] 23)).alloc (.cells #[.slice none 0 0] 28)).alloc (.cells #[.int .i64 (n0 : Nat)] 3)).heap[w.heap.size + 1 + 1]? = some (.cells #[.int .i64 (n0 : Nat)] 3 (0, 0)) := by
    have := heap_alloc_new ((w.alloc (.cells #[vl] 23)).alloc (.cells #[.slice none 0 0] 28)) (.cells #[.int .i64 (n0 : Nat)] 3)
    rwa [World.size_alloc, World.size_alloc] at this
  refine ⟨.of_below (bl3 _ _ _ _), e0, ⟨⟨_, e1, World.ownsRow_nil _ _ _ _⟩, e2⟩, by simp, by simp, .pointer none, none, 0, w.heap.size, ?_, OldAt.nil _ _, Nat.le_refl _, by omega⟩
  rw [Below.heap_alloc _ _ _ (by simp; omega), Below.heap_alloc _ _ _ (by simp; omega), Below.heap_alloc _ _ _ hbl]
  exact hb
theorem DAt.keepR {A B : World} {n b m : Nat} {d : Dk} (h : DAt A b m d) (hk : KeepR (n + 3) (n + 1) A B) (hb : b < n) (hm : m < n) : DAt B b m d := by
  have e : ∀ k, k < n → k < A.heap.size → B.heap[k]? = A.heap[k]? := fun k hk1 hk2 => by
    obtain ⟨o, ho⟩ : ∃ o, A.heap[k]? = some o := ⟨_, Array.getElem?_eq_getElem hk2⟩
    rw [ho]
    exact hk.block k o ho (by omega) (by omega) (.inl (by omega))
  have eb := e b hb h.lt
  have em := e m hm h.map.lt
  have hc : ∀ o, B.cell? ⟨b, o, none⟩ = A.cell? ⟨b, o, none⟩ := fun o => World.cell?_of_block (w := A) eb
  have hf : ∀ o, B.frozen? ⟨b, o, none⟩ = A.frozen? ⟨b, o, none⟩ := fun o => World.frozen?_of_block (w := A) eb
  exact ⟨(hc 0).trans h.c0, (hc 1).trans h.c1, (hc 2).trans h.c2, (hc 3).trans h.c3, (hf 0).trans h.f0, (hf 1).trans h.f1, (hf 2).trans h.f2, (hf 3).trans h.f3, Nat.lt_of_lt_of_le h.lt hk.size, h.map.heap em⟩
/-- what stands in memory when the file's records are read, its segment laid -/
structure ScS (w W2 : World) (b db m sb ob : Nat) (d : Dk) (log : ByteArray) (vl : Value) (n0 : Nat) (S : List Sg) (i : Nat) (oa : Option Addr) (oc ib : Nat) (nm : ByteArray) (nx sz : Nat) (Ds : List Nat) : Prop where
  blk : W2.heap[b]? = some (.cells #[.pointer (some ⟨sb, 0, none⟩), .string log, .slice oa i oc, .int .i64 ((0 : Nat) : Int), .bool false] 45 (0, 0))
  seg : W2.heap[sb]? = some (.cells #[.pointer (some ⟨db, 0, none⟩), .string nm, .int .i64 (nx : Nat), .int .i64 (sz : Nat)] 68 (0, 0))
  sbl : w.heap.size ≤ sb
  old : OldAt W2 ob (.slice oa i oc) (froms (S.take i))
  obl : w.heap.size ≤ ob
  obn : ob ≠ w.heap.size + 1 + 1
  dat : DAt W2 db m d
  fr : But [b] w W2
  ds : ∀ D ∈ Ds, w.heap.size ≤ D ∧ W2.heap[D]? = some (.deferred (some []))
  lb : W2.heap[w.heap.size]? = some (.cells #[vl] 23 (0, 0))
  ib : W2.heap[ib]? = some (.cells #[.int .i64 (i : Nat)] 3 (0, 0))
  rc : RcM (w.heap.size + 3) (w.heap.size + 1) W2 (numb n0 (bods (S.take (i + 1)))) (n0 + (bods (S.take (i + 1))).length)
theorem RcM.keep {n R b : Nat} {W W' : World} {l : List Rc} {nx : Nat} (h : RcM n R W l nx) (hk : ∀ k o, W.heap[k]? = some o → k ≠ b → W'.heap[k]? = some o) (hb : ∃ cs, W.heap[b]? = some (.cells cs 45 (0, 0))) : RcM n R W' l nx := by
  obtain ⟨cs, hb⟩ := hb
  obtain ⟨⟨v, h1, h2⟩, h3⟩ := h
  refine ⟨⟨v, hk R _ h1 ?_, recs_keep h2 fun k cs2 _ hk2 => hk k _ hk2 ?_⟩, hk (R + 1) _ h3 ?_⟩
  · rintro rfl; rw [hb] at h1; injection h1 with e; injection e with _ e2; exact absurd e2 (by decide)
  · rintro rfl; rw [hb] at hk2; injection hk2 with e; injection e with _ e2; exact absurd e2 (by decide)
  · rintro rfl; rw [hb] at h3; injection h3 with e; injection e with _ e2; exact absurd e2 (by decide)
theorem sc_seg {w W : World} {b db m ob : Nat} {d : Dk} {log nm : ByteArray} {vl p0 : Value} {n0 nx sz i ib oc : Nat} {oa : Option Addr} {S : List Sg} {Ds : List Nat}
    (hbl : b < w.heap.size) (_ : w.heap.size + 1 + 1 < W.heap.size) (hb : W.heap[b]? = some (.cells #[p0, .string log, .slice oa i oc, .int .i64 ((0 : Nat) : Int), .bool false] 45 (0, 0)))
    (ho : OldAt W ob (.slice oa i oc) (froms (S.take i))) (hd : DAt W db m d) (h1 : b ≠ db) (h2 : b ≠ m) (hf : But [b] w W) (hds : ∀ D ∈ Ds, w.heap.size ≤ D ∧ W.heap[D]? = some (.deferred (some [])))
    (hl : W.heap[w.heap.size]? = some (.cells #[vl] 23 (0, 0))) (hi : W.heap[ib]? = some (.cells #[.int .i64 (i : Nat)] 3 (0, 0))) (hr : RcM (w.heap.size + 3) (w.heap.size + 1) W (numb n0 (bods (S.take (i + 1)))) (n0 + (bods (S.take (i + 1))).length)) (hob : w.heap.size ≤ ob) (hobn : ob ≠ w.heap.size + 1 + 1) :
    ScS w ((W.setCell ⟨b, 0, none⟩ (.pointer (some ⟨W.heap.size, 0, none⟩))).alloc (.cells #[.pointer (some ⟨db, 0, none⟩), .string nm, .int .i64 (nx : Nat), .int .i64 (sz : Nat)] 68)) b db m W.heap.size ob d log vl n0 S i oa oc ib nm nx sz Ds := by
  have hk : ∀ k o, W.heap[k]? = some o → k ≠ b → ((W.setCell ⟨b, 0, none⟩ (.pointer (some ⟨W.heap.size, 0, none⟩))).alloc (.cells #[.pointer (some ⟨db, 0, none⟩), .string nm, .int .i64 (nx : Nat), .int .i64 (sz : Nat)] 68)).heap[k]? = some o := fun k o hk hne => by
    rw [Below.heap_alloc _ _ _ (by simpa using heap_lt hk), Below.heap_setCell _ _ _ _ hne, hk]
  have hbw := heap_lt hb
  have hsz := hf.size
  refine ⟨?_, ?_, hsz, ho.block fun cur hc => hk ob _ hc ?_, hob, hobn, ?_, ((hf.setCell (.inl (by simp)) _).alloc _), fun D hD => ⟨(hds D hD).1, hk D _ (hds D hD).2 ?_⟩, hk _ _ hl (by omega), hk _ _ hi ?_, hr.keep hk ⟨_, hb⟩⟩
  · rw [Below.heap_alloc _ _ _ (by simpa using hbw)]; exact heap_setCell_same _ b 0 _ _ _ hb
  · have := heap_alloc_new (W.setCell ⟨b, 0, none⟩ (.pointer (some ⟨W.heap.size, 0, none⟩))) (.cells #[.pointer (some ⟨db, 0, none⟩), .string nm, .int .i64 (nx : Nat), .int .i64 (sz : Nat)] 68)
    rwa [show (W.setCell ⟨b, 0, none⟩ (.pointer (some ⟨W.heap.size, 0, none⟩))).heap.size = W.heap.size by simp] at this
  · rintro rfl; rw [hb] at hc; injection hc with e; injection e with _ e2; exact absurd e2 (by decide)
  · exact (hd.but (l := [b]) ((But.refl [b] W).setCell (.inl (by simp)) _) (by simpa using Ne.symm h1) (by simpa using Ne.symm h2)).below (bl1 _ _)
  · rintro rfl; have := (hds D hD).2; rw [hb] at this; cases this
  · rintro rfl; rw [hb] at hi; injection hi with e; injection e with _ e2; exact absurd e2 (by decide)
theorem RcM.keep2 {n R b ob : Nat} {W W' : World} {l : List Rc} {nx : Nat} (h : RcM n R W l nx) (hk : ∀ k o, W.heap[k]? = some o → k ≠ b → (k = ob → ∀ cs, o ≠ .cells cs 3 (0, 0)) → W'.heap[k]? = some o) (hb : ∃ cs, W.heap[b]? = some (.cells cs 45 (0, 0))) (hob : ob ≠ R + 1) : RcM n R W' l nx := by
  obtain ⟨cs, hb⟩ := hb
  obtain ⟨⟨v, h1, h2⟩, h3⟩ := h
  refine ⟨⟨v, hk R _ h1 ?_ ?_, recs_keep h2 fun k cs2 _ hk2 => hk k _ hk2 ?_ ?_⟩, hk (R + 1) _ h3 ?_ ?_⟩
  · rintro rfl; rw [hb] at h1; injection h1 with e; injection e with _ e2; exact absurd e2 (by decide)
  · intro _ cs3 e; injection e with _ e2; exact absurd e2 (by decide)
  · rintro rfl; rw [hb] at hk2; injection hk2 with e; injection e with _ e2; exact absurd e2 (by decide)
  · intro _ cs3 e; injection e with _ e2; exact absurd e2 (by decide)
  · rintro rfl; rw [hb] at h3; injection h3 with e; injection e with _ e2; exact absurd e2 (by decide)
  · intro e; exact absurd e.symm hob
theorem ex_f {T : (Nat → Value) → Array Value} {a : Act} {Ds : List Deferred} {R : Prop} (h1 : a.tmps = T (fun k => a.tmps.getD k undef)) (h2 : a.defers = Ds) (hr : R) : ∃ f : Nat → Value, a = { tmps := T f, defers := Ds } ∧ R :=
  ⟨fun k => a.tmps.getD k undef, by cases a; dsimp only at h1 h2 ⊢; rw [← h1, h2], hr⟩
/-- a file more among the older ones -/
theorem ScS.next {w W2 w3 : World} {b db m sb ob g3 : Nat} {d : Dk} {log nm : ByteArray} {vl : Value} {n0 nx sz i ib oc c3 : Nat} {oa a3 : Option Addr} {S : List Sg} {Ds : List Nat} {o : Obj}
    (h : ScS w W2 b db m sb ob d log vl n0 S i oa oc ib nm nx sz Ds) (hbl : b < w.heap.size) (hi : i < S.length) (hf : froms (S.take (i + 1)) = froms (S.take i) ++ [nx])
    (ho : OldAt w3 g3 (.slice a3 ((froms (S.take i)).length + 1) c3) (froms (S.take i) ++ [nx])) (hg : (W2.alloc o).grownBy w3 (Value.slice oa i oc).ownBlock) (hat : (Value.slice oa i oc).ownBlock = some g3 ∧ g3 = ob ∨ g3 = (W2.alloc o).heap.size) (hnd : Ds.Nodup) :
    ScM w (w3.setCell ⟨b, 2, none⟩ (.slice a3 ((froms (S.take i)).length + 1) c3)) b log vl n0 S (i + 1) Ds := by
  have hfl : (froms (S.take i)).length = i := by simp [froms]; omega
  obtain ⟨k23, _, _⟩ := old_facts (v := .slice oa i oc) h.blk h.old hg
  have hb2 := heap_lt h.blk
  have hsz := h.fr.size
  have hlb := heap_lt h.lb
  have hk : ∀ k o', W2.heap[k]? = some o' → k ≠ b → (k = ob → ∀ cs, o' ≠ .cells cs 3 (0, 0)) → (w3.setCell ⟨b, 2, none⟩ (.slice a3 ((froms (S.take i)).length + 1) c3)).heap[k]? = some o' := fun k o' hk hkb hko => by
    rw [Below.heap_setCell _ _ _ _ hkb, hg.block k (by have := heap_lt hk; simp; omega) (fun e => ?_), Below.heap_alloc _ _ _ (heap_lt hk), hk]
    rcases h.old.own with h1 | ⟨h1, cur, hc⟩
    · rw [h1] at e; cases e
    · rw [h1] at e; injection e with e; subst e
      rw [hk] at hc; injection hc with hc; exact hko rfl cur hc
  have hbut : But [b] w (w3.setCell ⟨b, 2, none⟩ (.slice a3 ((froms (S.take i)).length + 1) c3)) := ((h.fr.alloc o).grownB hg (fun k hk => .inr (by
    rcases h.old.own with h1 | ⟨h1, _⟩
    · rw [h1] at hk; cases hk
    · rw [h1] at hk; injection hk with hk; subst hk; exact h.obl))).setCell (.inl (by simp)) _
  refine ⟨hbut, hk _ _ h.lb (by omega) (fun _ cs e => by injection e with _ e2; exact absurd e2 (by decide)), h.rc.keep2 hk ⟨_, h.blk⟩ h.obn, fun D hD => ⟨(h.ds D hD).1, hk D _ (h.ds D hD).2 ?_ (fun _ cs e => by cases e)⟩, hnd, .pointer (some ⟨sb, 0, none⟩), a3, c3, g3, ?_, ?_, ?_, ?_⟩
  · rintro rfl; have := (h.ds D hD).2; rw [h.blk] at this; cases this
  · have := heap_setCell_same _ b 2 _ _ (.slice a3 ((froms (S.take i)).length + 1) c3) k23
    rw [hfl] at this ⊢
    exact this
  · rw [hf]
    rw [hfl] at ho ⊢
    refine ho.block fun cur hc => (Below.heap_setCell _ _ _ _ ?_).trans hc
    rintro rfl
    rw [k23] at hc; injection hc with e; injection e with _ e2; exact absurd e2 (by decide)
  · rcases hat with ⟨_, rfl⟩ | e
    · exact h.obl
    · simp at e; omega
  · rcases hat with ⟨_, rfl⟩ | e
    · exact h.obn
    · have := heap_lt h.rc.nx
      simp at e; omega
theorem fin_leave {w wr : World} {b db m n0 : Nat} {S : List Sg} {r : Rs} {Ds : List Nat} {tmps : Array Value} {v8 : Value} (h : ScF w wr b db m n0 S r Ds) (hbl : b < w.heap.size ∧ db < w.heap.size ∧ m < w.heap.size) (hv : wr.heap[w.heap.size + 1]? = some (.cells #[v8] 28 (0, 0))) (h6 : tmps.getD 6 undef = v8) (h7 : tmps.getD 7 undef = .int .i64 r.1) :
    LeavesInM Fence.wide 5 Tryz.prog Tryz.f28 tmps (ScanR w b db m n0 S r) (Ds.map mark) .returning wr := by
  refine marks_leave Ds wr (fun D hD => (h.ds D hD).2) h.nd fun W' e1 e2 e3 e4 hk => ?_
  obtain ⟨v, hv1, hv2⟩ := h.rc
  obtain rfl : v = v8 := by rw [hv] at hv1; injection hv1 with e; injection e with e _; simpa using e.symm
  obtain ⟨sb, ob, hwd, h8, h9⟩ := h.wd
  have hc : ∀ (k : Nat) (cs : Array Value) (T : TypeId) (fr : Nat × Nat), wr.heap[k]? = some (Obj.cells cs T fr) → W'.heap[k]? = some (Obj.cells cs T fr) := fun k cs T fr hkk => by
    rw [hk k (fun hD => by have := (h.ds k hD).2; rw [hkk] at this; cases this), hkk]
  have hbut : But Ds wr W' := ⟨e1, e2, e3, by omega, fun k _ hn => hk k hn⟩
  have hlow : ∀ k, k < w.heap.size → k ∉ Ds := fun k hkk hD => by have := (h.ds k hD).1; omega
  obtain ⟨u, hu1, hu2⟩ := hwd.wal.blk
  refine ⟨_, results_tmp2 rfl _ _ _, v, sb, ob, by rw [h6, h7], recs_keep hv2 fun k cs _ hkk => hc _ _ _ _ hkk, ⟨⟨⟨u, hc _ _ _ _ hu1, hu2.block fun cur hcc => hc _ _ _ _ hcc⟩, hc _ _ _ _ hwd.wal.seg⟩, hwd.dat.but hbut (hlow _ hbl.2.1) (hlow _ hbl.2.2), hwd.ok, hwd.dk⟩, h8, h9, ?_⟩
  exact ⟨e1.trans h.fr.os, e2.trans h.fr.tape, e3.trans h.fr.output, by have := h.fr.size; omega, fun k hkk hn => (hk k (hlow k hkk)).trans (h.fr.block k hkk hn)⟩
/-- the log as the last file leaves it -/
theorem sc_last {w W2 w5 : World} {b db m sb ob : Nat} {d : Dk} {log : ByteArray} {vl : Value} {n0 nx sz i ib oc : Nat} {oa : Option Addr} {S : List Sg} {g : Sg} {Ds : List Nat} {M : Int}
    (h : ScS w W2 b db m sb ob d log vl n0 S i oa oc ib (fileB log nx) nx sz Ds) (hw : b < w.heap.size ∧ db < w.heap.size ∧ m < w.heap.size) (hbd : b ≠ db ∧ b ≠ m) (ok : Fit d) (hi : i + 1 = S.length) (hg : g.fr = nx) (hz : g.data.size = sz) (hM : M = ((n0 + (bods S).length - 1 : Nat) : Int))
    (hd5 : DAt w5 db m (syncD d (fileL log nx))) (hb5 : But [db, m] W2 w5) (hnd : Ds.Nodup) :
    ∃ o2, (WD (w5.setCell ⟨b, 3, none⟩ (.int .i64 M)) b sb o2 db m (syncD d (fileL log nx)) (scanX log n0 S g) ∧ w.heap.size ≤ o2 ∧ (o2 = w.heap.size ∨ ∃ cur, (w5.setCell ⟨b, 3, none⟩ (.int .i64 M)).heap[o2]? = some (.cells cur 3 (0, 0)))) ∧ But [b, db, m] w (w5.setCell ⟨b, 3, none⟩ (.int .i64 M)) ∧ (∀ D ∈ Ds, w.heap.size ≤ D ∧ (w5.setCell ⟨b, 3, none⟩ (.int .i64 M)).heap[D]? = some (.deferred (some []))) ∧
    RcM (w.heap.size + 3) (w.heap.size + 1) (w5.setCell ⟨b, 3, none⟩ (.int .i64 M)) (numb n0 (bods S)) (n0 + (bods S).length) := by
  subst hM
  have hsz := h.fr.size
  have hk5 : ∀ (k : Nat) (o : Obj), W2.heap[k]? = some o → k ≠ db → k ≠ m → w5.heap[k]? = some o := fun k o hk h1 h2 => (hb5.block k (heap_lt hk) (by simp [h1, h2])).trans hk
  have hk : ∀ (k : Nat) (o : Obj), W2.heap[k]? = some o → k ≠ b → k ≠ db → k ≠ m → (w5.setCell ⟨b, 3, none⟩ (.int .i64 ((n0 + (bods S).length - 1 : Nat) : Int))).heap[k]? = some o := fun k o hk h0 h1 h2 => by
    rw [Below.heap_setCell _ _ _ _ h0]; exact hk5 k o hk h1 h2
  have hfd : (froms S).dropLast = froms (S.take i) := by
    unfold froms
    rw [← List.map_dropLast, List.dropLast_eq_take, show S.length - 1 = i by omega]
  have htk : S.take (i + 1) = S := List.take_of_length_le (by omega)
  have hb3 := hk5 b _ h.blk hbd.1 hbd.2
  have hsb := h.sbl
  have hnb : sb ≠ b := by omega
  obtain ⟨o2, ho2, hl2, hi2⟩ : ∃ o2, OldAt (w5.setCell ⟨b, 3, none⟩ (.int .i64 ((n0 + (bods S).length - 1 : Nat) : Int))) o2 (.slice oa i oc) (froms (S.take i)) ∧ w.heap.size ≤ o2 ∧ (o2 = w.heap.size ∨ ∃ cur, (w5.setCell ⟨b, 3, none⟩ (.int .i64 ((n0 + (bods S).length - 1 : Nat) : Int))).heap[o2]? = some (.cells cur 3 (0, 0))) := by
    rcases h.old with ⟨h1, h2⟩ | ⟨off, cap, cur, h1, h2, h3⟩
    · exact ⟨w.heap.size, .inl ⟨h1, h2⟩, Nat.le_refl _, .inl rfl⟩
    · have := h.obl
      have e := hk ob _ h2 (by omega) (by omega) (by omega)
      exact ⟨ob, .inr ⟨off, cap, cur, h1, e, h3⟩, h.obl, .inr ⟨cur, e⟩⟩
  refine ⟨o2, ⟨⟨⟨⟨.slice oa i oc, ?_, ?_⟩, ?_⟩, ?_, ok.sync _, ?_⟩, hl2, hi2⟩, ?_, fun D hD => ⟨(h.ds D hD).1, hk D _ (h.ds D hD).2 ?_ ?_ ?_⟩, ?_⟩
  · exact heap_setCell_same _ b 3 _ _ _ hb3
  · show OldAt _ _ _ ((froms S).dropLast)
    rw [hfd]
    exact ho2
  · have := hk sb _ h.seg hnb (by omega) (by omega)
    show _ = some (Obj.cells #[.pointer (some ⟨db, 0, none⟩), .string (fileB log g.fr), .int .i64 (g.fr : Nat), .int .i64 (g.data.size : Nat)] 68 (0, 0))
    rw [hg, hz]; exact this
  · exact hd5.but (l := [b]) ((But.refl [b] w5).setCell (.inl (by simp)) _) (by simpa using Ne.symm hbd.1) (by simpa using Ne.symm hbd.2)
  · rintro k (rfl | rfl | rfl)
    · exact hbd
    · omega
    · omega
  · exact (((h.fr.wider (l' := [b, db, m]) (by simp)).trans (hb5.wider (by simp))).setCell (.inl (by simp)) _)
  · have := (h.ds D hD).1; omega
  · have := (h.ds D hD).1; omega
  · have := (h.ds D hD).1; omega
  · have := h.rc
    rw [htk] at this
    obtain ⟨⟨v, h1, h2⟩, h3⟩ := this
    refine ⟨⟨v, hk _ _ h1 (by omega) (by omega) (by omega), recs_keep h2 fun k cs hv hk2 => hk _ _ hk2 ?_ ?_ ?_⟩, hk _ _ h3 (by omega) (by omega) (by omega)⟩
    · have := (h2.lt k hv).1; omega
    · have := (h2.lt k hv).1; omega
    · have := (h2.lt k hv).1; omega
/-- behind 'rotate' -/
theorem sc_torn {w w7 w8 : World} {b db m sb ob n0 : Nat} {d d1 : Dk} {log : ByteArray} {S : List Sg} {g : Sg} {x : Lg} {Ds : List Nat} {v8 : Value} (hs : scanS d log n0 S g = rotateS d1 x) (h : WD w7 b sb ob db m d1 x) (hw : b < w.heap.size ∧ db < w.heap.size ∧ m < w.heap.size) (hsb : w.heap.size ≤ sb) (hob : w.heap.size ≤ ob)
    (hoi : ob = w.heap.size ∨ ∃ cur, w7.heap[ob]? = some (.cells cur 3 (0, 0))) (hf : But [b, db, m] w w7)
    (hds : ∀ E ∈ Ds, w.heap.size + 1 ≤ E ∧ w7.heap[E]? = some (.deferred (some []))) (hr1 : w7.heap[w.heap.size + 1]? = some (.cells #[v8] 28 (0, 0))) (hr2 : RecsAt w7 (w.heap.size + 3) v8 (numb n0 (bods S))) (hnd : Ds.Nodup) (hr : WR w7.drew b sb ob db m (rotateS d1 x).2.1 (rotateS d1 x).2.2 w8) :
    w8.heap[w.heap.size + 1]? = some (.cells #[v8] 28 (0, 0)) ∧ w8.cell? ⟨w.heap.size + 1, 0, none⟩ = some v8 ∧ ScF w w8 b db m n0 S (scanS d log n0 S g) Ds := by
  obtain ⟨s2, o2, h1, h2, h3, h4⟩ := hr
  have hsz := hf.size
  obtain ⟨u, hu1, hu2⟩ := h.wal.blk
  have hk : ∀ (k : Nat) (o : Obj), w7.heap[k]? = some o → w.heap.size < k → (∀ cs, o ≠ .cells cs 68 (0, 0)) → (∀ cs, o ≠ .cells cs 3 (0, 0)) → w8.heap[k]? = some o := fun k o hk e0 e4 e5 => by
    refine (h2.block k (heap_lt hk) ?_).trans hk
    simp only [List.mem_cons, List.not_mem_nil, or_false, not_or]
    refine ⟨by omega, by omega, by omega, ?_, ?_⟩
    · rintro rfl; rw [h.wal.seg] at hk; injection hk with hk; exact e4 _ hk.symm
    · rintro rfl
      rcases hoi with hoi | ⟨cur, hoi⟩
      · omega
      · rw [hoi] at hk; injection hk with hk; exact e5 _ hk.symm
  have e8 := hk _ _ hr1 (by omega) (fun cs e => by injection e with _ e2; exact absurd e2 (by decide)) (fun cs e => by injection e with _ e2; exact absurd e2 (by decide))
  have hz2 : w7.heap.size ≤ w8.heap.size := h2.size
  refine ⟨e8, by simp [World.cell?, e8], ⟨v8, e8, own_base (recs_keep hr2 fun k cs hv hk2 => hk k _ hk2 ?_ ?_ ?_) (by omega)⟩, ?_, ?_, fun E hE => ⟨by have := (hds E hE).1; omega, hk E _ (hds E hE).2 ?_ (fun cs e => by cases e) (fun cs e => by cases e)⟩, hnd⟩
  · have := (hr2.lt k hv).1; omega
  · intro cs e; injection e with _ e2; exact absurd e2 (by decide)
  · intro cs e; injection e with _ e2; exact absurd e2 (by decide)
  · rw [hs]
    have hz1 : w7.drew.heap.size = w7.heap.size := rfl
    refine ⟨s2, o2, h1, ?_, ?_⟩
    · rcases h3 with rfl | h3
      · exact hsb
      · omega
    · rcases h4 with h4 | h4
      · simp only [List.mem_cons, List.not_mem_nil, or_false] at h4
        rcases h4 with rfl | rfl
        · exact hsb
        · exact hob
      · omega
  · refine ⟨h2.os.trans hf.os, h2.tape.trans hf.tape, h2.output.trans hf.output, by omega, fun k hk1 hn => ?_⟩
    refine (h2.block k (show k < w7.heap.size by omega) ?_).trans (hf.block k hk1 hn)
    simp only [List.mem_cons, List.not_mem_nil, or_false, not_or] at hn ⊢
    omega
  · have := (hds E hE).1; omega
theorem df_ne {w wr : World} {b D : Nat} {log : ByteArray} {vl : Value} {n0 i : Nat} {S : List Sg} {Ds : List Nat} (h : ScM w wr b log vl n0 S i Ds) (hc : wr.heap[D]? = some (.deferred (some []))) : D ≠ w.heap.size + 1 + 1 := by
  rintro rfl
  have := h.rc.nx
  rw [hc] at this; cases this
theorem froms_len (S : List Sg) : (froms S).length = S.length := by simp [froms]
theorem froms_get (S : List Sg) (i : Nat) (h : i < S.length) : (froms S)[i]'(by rw [froms_len]; exact h) = S[i].fr := by simp [froms]
theorem NumsAt.cell {w : World} {B : Nat} {a : Option Addr} {c : Nat} {l : List Nat} (h : NumsAt w B (.slice a l.length c) l) (hl : 0 < l.length) : ∃ g, a = some ⟨g, 0, none⟩ ∧ l.length ≤ c ∧ c ≤ 9223372036854775807 ∧ g < w.heap.size ∧ ∀ i (hi : i < l.length), w.cell? ⟨g, i, none⟩ = some (.int .i64 (l[i] : Nat)) := by
  rcases h.2 with ⟨_, h0⟩ | ⟨g, cap, cur, hv, _, hg, h1, h2, _⟩
  · omega
  · injection hv with e1 _ e3
    subst e1 e3
    exact ⟨g, rfl, h1, h2, heap_lt hg, fun i hi => by rw [World.ownsRow.cellAt h i (by omega)]; simp [icellsN, List.getElem?_map, List.getElem?_eq_getElem hi]⟩
set_option maxRecDepth 100000 in
set_option maxHeartbeats 8000000 in
theorem scan_any (w : World) (b db m : Nat) (d : Dk) (log : ByteArray) (vl : Value) (B0 n0 : Nat) (S : List Sg) (g : Sg)
    (hb : w.heap[b]? = some (.cells #[.pointer none, .string log, .slice none 0 0, .int .i64 ((0 : Nat) : Int), .bool false] 45 (0, 0))) (hd : DAt w db m d) (ok : Fit d) (hbd : b ≠ db ∧ b ≠ m) (hl : log.size ≤ 1000)
    (hup : d.down = false) (hfu : d.fuse = 0) (hg : S.getLast? = some g) (hC : Chain n0 S) (hok : ∀ g ∈ S, SgOk d log g) (hlen : S.length ≤ 99) (hn : n0 + (bods S).length ≤ 99) (hE : (scanS d log n0 S g).1 = 0) (hvl : NumsAt w B0 vl (froms S)) :
    Calls Tryz.prog 28 #[.pointer (some ⟨b, 0, none⟩), .pointer (some ⟨db, 0, none⟩), vl] w (ScanR w b db m n0 S (scanS d log n0 S g)) := by
  have hpos : 0 < S.length := by cases S with | nil => cases hg | cons x r => simp
  obtain ⟨va, lc, rfl⟩ := own_slice hvl
  rw [froms_len] at hvl ⊢
  have hvl' : NumsAt w B0 (.slice va (froms S).length lc) (froms S) := by rw [froms_len]; exact hvl
  obtain ⟨lg, rfl, hlc1, hlc2, hlg, hcl⟩ := hvl'.cell (by rw [froms_len]; exact hpos)
  rw [froms_len] at hlc1
  have hbl := heap_lt hb
  have hneb : lg ≠ b := by
    rintro rfl
    have := hcl 0 (by rw [froms_len]; exact hpos)
    simp [World.cell?, hb] at this
  have HCL := Lib.hid (show ∀ i (hi : i < S.length), w.cell? ⟨lg, i, none⟩ = some (.int .i64 (S[i].fr : Nat)) from fun i hi => by rw [hcl i (by rw [froms_len]; exact hi), froms_get S i hi])
  have HC := Lib.hid hC
  have HK := Lib.hid hok
  have HG := Lib.hid hg
  have HD := Lib.hid hd
  have HOK := Lib.hid ok
  have HB := Lib.hid hb
  have HBD := Lib.hid hbd
  have HE := Lib.hid hE
  have HUP := Lib.hid hup
  have HFU := Lib.hid hfu
  have hfr0 : S[0].fr = n0 := by have := chain_at n0 S 0 hpos hC; simpa [bods] using this
  have hc0 : w.cell? ⟨lg, 0, none⟩ = some (.int .i64 (n0 : Nat)) := by rw [← hfr0]; exact HCL.out 0 hpos
  have HF0 := Lib.hid hfr0
  clear hC hok hg hd ok hb hbd hE hvl hvl' hcl hup hfu hfr0
  refine (callsIn_wide (n := 5)).1 (callsIn_of_wp_marks Tryz.func28 rfl trivial ?_ rfl)
  refine wpIn_wide.2 ?_
  simp only [Tryz.ntmps28, List.size_toArray, List.length_cons, List.length_nil, Nat.reduceAdd, Nat.reduceSub, Array.replicate_succ, Array.replicate_zero, List.push_toArray, List.append_toArray, List.nil_append, List.cons_append]
  have hp0 : (0 : Nat) < S.length := hpos
  go_wp2_with fail
  refine wp_loop (fun a' w' => ∃ (i : Nat) (Ds : List Nat), ∃ f : Nat → Value, a' = { tmps := #[.pointer (some ⟨b, 0, none⟩), .pointer (some ⟨db, 0, none⟩), .slice (some ⟨lg, 0, none⟩) S.length lc, undef, undef, .pointer (some ⟨w.heap.size, 0, none⟩), f 6, f 7, .pointer (some ⟨w.heap.size + 1, 0, none⟩), .pointer (some ⟨w.heap.size + 1 + 1, 0, none⟩), f 10, f 11, f 12, f 13, f 14, f 15, f 16, .slice (some ⟨lg, 0, none⟩) S.length lc, .pointer (some ⟨lg, 0, none⟩), .int .i64 (n0 : Nat), .slice (some ⟨lg, 0, none⟩) S.length lc, .int .i64 (S.length : Nat), .int .i64 (i : Nat), f 23, f 24, f 25, f 26, f 27, f 28, f 29, f 30, f 31, f 32, f 33, f 34, f 35, f 36, f 37, f 38, f 39, f 40, f 41, f 42, f 43, f 44, f 45, f 46, f 47, f 48, f 49, f 50, f 51, f 52, f 53, f 54, f 55, f 56, f 57, f 58, f 59, f 60, f 61, f 62, f 63, f 64, f 65, f 66, f 67, f 68, f 69, f 70, f 71, f 72, f 73, f 74, f 75, f 76, f 77, f 78, f 79, f 80, f 81, f 82, f 83, f 84, f 85, f 86, f 87, f 88, f 89, f 90, f 91, f 92, f 93, f 94, f 95, f 96, f 97, f 98, f 99, f 100, f 101, f 102, f 103, f 104, f 105, f 106, f 107, f 108, f 109, f 110, f 111, f 112, f 113, f 114, undef], defers := Ds.map mark } ∧ ((i < S.length ∧ Hid (ScM w w' b log (.slice (some ⟨lg, 0, none⟩) S.length lc) n0 S i Ds)) ∨ (i = S.length ∧ Hid (ScF w w' b db m n0 S (scanS d log n0 S g) Ds) ∧ flen g.bs = g.data.size))) (fun a' _ => S.length - (intOf (a'.tmps.getD 22 undef)).toNat) ?_ ?_
  · exact ⟨0, [], fun k => if k = 6 then .slice none 0 0 else if k = 7 then .int .i64 0 else undef, rfl, .inl ⟨hpos, sc_start HB.out⟩⟩
  rintro a' wr ⟨i, Ds, f, rfl, hrel⟩
  dsimp only
  rcases hrel with ⟨hlt, HM⟩ | ⟨rfl, HFN, hwh⟩
  · obtain ⟨p0, oa, oc, ob, hblk, hold, hob, hobn⟩ := HM.out.wal
    obtain ⟨ra, rcap, r0, rz0, hrecs, hrb, r1, rz1⟩ := HM.out.rc.facts
    have hnx : S[i].fr = n0 + (bods (S.take i)).length := chain_at n0 S i hlt HC.out
    have hSk := HK.out S[i] (List.getElem_mem hlt)
    have hcnt : (bods (S.take i)).length + S[i].bs.length ≤ (bods S).length := by
      have h1 := bods_snoc S i hlt
      have h2 := congrArg List.length (bods_append (S.take (i + 1)) (S.drop (i + 1)))
      rw [List.take_append_drop, h1, List.length_append, List.length_append] at h2
      omega
    have HSN := Lib.hid (bods_snoc S i hlt)
    have HTK := Lib.hid (show froms (S.take (i + 1)) = froms (S.take i) ++ [S[i].fr] by unfold froms; rw [List.take_succ_eq_append_getElem hlt, List.map_append]; rfl)
    have hli : wr.cell? ⟨lg, i, none⟩ = some (.int .i64 ((n0 + (bods (S.take i)).length : Nat) : Int)) := by
      rw [← hnx, ← HCL.out i hlt]
      exact HM.out.fr.cell hlg (by simp [hneb])
    obtain ⟨syn, hfile⟩ := hSk.file
    have HLAST := Lib.hid (show i + 1 = S.length → S[i] = g from fun e => by
      have h1 := HG.out
      rw [List.getLast?_eq_getElem?, List.getElem?_eq_getElem (by omega)] at h1
      have h2 := Option.some.inj h1
      rw [← h2]; congr 1; omega)
    rw [numb_len] at r0 hrecs hrb
    have HX := Lib.hid hSk
    have HNX := Lib.hid hnx
    have h1n := hSk.lo
    have h2n := hSk.hi
    rw [hnx] at h1n h2n hfile
    have hfrl := HM.out.fr.size
    have HBLK := Lib.hid hblk
    have HOLD := Lib.hid hold
    have b1 : wr.cell? ⟨b, 1, none⟩ = some (.string log) := by simp [World.cell?, hblk]
    have hbw : b < wr.heap.size := by omega
    have HRC := Lib.hid hrecs
    have HRB := Lib.hid hrb
    have hlb := HM.out.lb
    have l5 : wr.cell? ⟨w.heap.size, 0, none⟩ = some (.slice (some ⟨lg, 0, none⟩) S.length lc) := by simp [World.cell?, hlb]
    have HLB := Lib.hid hlb
    have hlbs := heap_lt hlb
    have hrbs := heap_lt hrb
    have hnbs := World.block_lt_of_cell? wr _ r1
    clear hSk hnx hblk hold hrecs hrb hlb
    generalize S[i] = x at *
    have HRD := Lib.hid (show readE d (fileL log (n0 + (bods (S.take i)).length)) = 0 ∧ readS d (fileL log (n0 + (bods (S.take i)).length)) = x.data from by
      unfold readE readS; simp [HUP.out, hfile])
    generalize hNX : n0 + (bods (S.take i)).length = nx at *
    generalize hCN : (bods (S.take i)).length = cn at *
    have hnx99 : nx + x.bs.length ≤ 99 := by omega
    have hcn99 : cn ≤ 99 := by omega
    have HNC := Lib.hid hNX
    have HCC := Lib.hid hCN
    have HFILE := Lib.hid hfile
    clear hNX hCN hfile
    go_wp2_with fail
    refine (file_any log nx nx rfl h2n hl _).mono ?_
    rintro e w1 ⟨rfl, hb1⟩
    have HB1 := Lib.hid ((bl1 wr (.cells #[.int .i64 (i : Nat)] 3)).trans (hb1.mono (by simp)))
    have hi1 : w1.heap[wr.heap.size]? = some (.cells #[.int .i64 (i : Nat)] 3 (0, 0)) := (hb1.block wr.heap.size (by simp)).trans (heap_alloc_new wr _)
    have HI1 := Lib.hid hi1
    clear hb1 hi1
    go_wp2_with fail
    have hD1 : DAt w1 db m d := (HD.out.but HM.out.fr (by simpa using Ne.symm HBD.out.1) (by simpa using Ne.symm HBD.out.2)).below HB1.out
    have HRE := Lib.hid (read_any w1 db m d (fileB log nx) hD1 (fileB_le log nx hl))
    rw [fileB_list, HRD.out.1, HRD.out.2] at HRE
    clear hD1
    refine HRE.out.mono ?_
    rintro e w2 ⟨rfl, hb2⟩
    have HB2 := Lib.hid (HB1.out.trans (hb2.mono HB1.out.size))
    have HI2 := Lib.hid ((hb2.block _ (heap_lt HI1.out)).trans HI1.out)
    clear hb2 HRE
    go_wp2_with fail
    refine (all_any _ _).mono ?_
    rintro e w3 ⟨rfl, rfl⟩
    go_wp2_with fail
    have hw2 := HB2.out.size
    obtain ⟨W0, hW0⟩ : ∃ W0, W0 = w2.alloc (.cells #[.string x.data] 9) := ⟨_, rfl⟩
    have hz : W0.heap.size = w2.heap.size + 1 := by rw [hW0]; simp
    have r3 : W0.heap[w2.heap.size]? = some (.cells #[.string x.data] 9 (0, 0)) := by rw [hW0]; exact heap_alloc_new w2 _
    have r2 : W0.cell? ⟨w2.heap.size, 0, none⟩ = some (.string x.data) := by simp [World.cell?, r3]
    have HB0 := Lib.hid (show Below wr.heap.size wr W0 by rw [hW0]; exact HB2.out.trans ((bl1 w2 _).mono hw2))
    have HRC0 := Lib.hid (show RcM (w.heap.size + 3) (w.heap.size + 1) W0 (numb n0 (bods (S.take i))) nx from by have := HM.out.rc.below HB0.out; rw [HCC.out, HNC.out] at this; exact this)
    have HI0 := Lib.hid (show W0.heap[wr.heap.size]? = some (.cells #[.int .i64 (i : Nat)] 3 (0, 0)) by rw [hW0]; exact (Below.heap_alloc _ _ _ (heap_lt HI2.out)).trans HI2.out)
    have HLB0 := Lib.hid ((HB0.out.block _ hlbs).trans HLB.out)
    have hrow0 : ∀ j (hj : j < S.length), W0.cell? ⟨lg, j, none⟩ = some (.int .i64 (S[j].fr : Nat)) := fun j hj => by
      rw [HB0.out.cell (p := ⟨lg, j, none⟩) (by show lg < wr.heap.size; omega), HM.out.fr.cell hlg (by simp [hneb])]
      exact HCL.out j hj
    have HROW0 := Lib.hid hrow0
    have HW := Lib.hid hW0.symm
    have HZ := Lib.hid hz
    have hsz : x.data.size ≤ 9223372036854775807 := by have := HX.out.sz; omega
    clear hW0 hz hrow0 hw2
    by_cases hla : i + 1 = S.length
    · have HLX := Lib.hid (HLAST.out hla)
      have HLA := Lib.hid hla
      have hla1 : S.length ≤ i + 1 := by omega
      clear hla
      rw [HW.out]
      refine (wpIn_wide (n := 5)).1 (wpIn_rangeFunc_ownG rfl (by omega) (gf := 67) (lb := #[.pointer (some ⟨w2.heap.size, 0, none⟩)]) rfl trivial (enters_of Tryz.func67 (by kernel_rfl) rfl)
        (all_stops 4 (by omega) w2.heap.size x.data x.bs x.t hsz HX.out.text HX.out.ends W0 r2) boxK_t (boxK_b (by rw [HZ.out]; omega)) (Below.refl _ _) (fun _ => rfl)
        (fun pre W => RcM (w.heap.size + 3) (w.heap.size + 1) W (numb n0 (bods (S.take i)) ++ numb nx pre) (nx + pre.length) ∧ KeepR (w.heap.size + 3) (w.heap.size + 1) W0 W)
        (fun _ _ _ => False)
        (OwnFrom.and (ownFrom_rcM (by rw [HZ.out]; have := HB2.out.size; omega)) (ownFrom_keepR (by rw [HZ.out]; have := HB2.out.size; omega) (Nat.le_refl _)))
        (fun _ _ _ _ _ hs _ _ => hs)
        ⟨by simpa [numb] using HRC0.out, KeepR.refl _ _ _⟩
        (fun y => { tmps := #[.pointer (some ⟨b, 0, none⟩), .pointer (some ⟨db, 0, none⟩), .slice (some ⟨lg, 0, none⟩) S.length lc, undef, undef, .pointer (some ⟨w.heap.size, 0, none⟩), f 6, f 7, .pointer (some ⟨w.heap.size + 1, 0, none⟩), .pointer (some ⟨w.heap.size + 1 + 1, 0, none⟩), .pointer (some ⟨wr.heap.size, 0, none⟩), .int .i64 (nx : Nat), .string (fileB log nx), .string x.data, .int .i64 0, .string y, f 16, .slice (some ⟨lg, 0, none⟩) S.length lc, .pointer (some ⟨lg, 0, none⟩), .int .i64 (n0 : Nat), .slice (some ⟨lg, 0, none⟩) S.length lc, .int .i64 (S.length : Nat), .int .i64 (i : Nat), .bool true, .int .i64 (i : Nat), .pointer (some ⟨lg, i, none⟩), .int .i64 (nx : Nat), .int .i64 (nx : Nat), .int .i64 (nx : Nat), .bool false, .pointer (some ⟨b, 0, none⟩), .pointer (some ⟨b, 0, none⟩), .pointer (some ⟨b, 1, none⟩), .string log, .int .i64 (nx : Nat), .string (fileB log nx), .tuple #[.string x.data, .int .i64 0], .pointer (some ⟨db, 0, none⟩), .string (fileB log nx), .tuple #[.string x.data, .int .i64 0], .string x.data, .int .i64 0, .int .i64 0, .bool false, f 44, .string x.data, .func (.func 67) #[] #[.pointer (some ⟨w2.heap.size, 0, none⟩)], .string y, f 48, f 49, f 50, f 51, f 52, f 53, f 54, f 55, f 56, f 57, f 58, f 59, f 60, f 61, f 62, f 63, f 64, f 65, f 66, f 67, f 68, f 69, f 70, f 71, f 72, f 73, f 74, f 75, f 76, f 77, f 78, f 79, f 80, f 81, f 82, f 83, f 84, f 85, f 86, f 87, f 88, f 89, f 90, f 91, f 92, f 93, f 94, f 95, f 96, f 97, f 98, f 99, f 100, f 101, f 102, f 103, f 104, f 105, f 106, f 107, f 108, f 109, f 110, f 111, f 112, f 113, f 114, undef], defers := [] }) ?assign ?body ?done ?stop)
      case assign =>
        intro l y W K hK
        gi_wp2
        exact hK
      case stop =>
        rintro D c pre W _ _ h _
        exact h.elim
      case body =>
        rintro l pre y W ⟨hrc, hkp⟩ hplt
        obtain ⟨qa, qc, q0, qz0, qrecs, qb, q1, qz1⟩ := hrc.facts
        have hlr : W.heap[w.heap.size]? = some (.cells #[.slice (some ⟨lg, 0, none⟩) S.length lc] 23 (0, 0)) := hkp.block _ _ HLB0.out (by omega) (by omega) (.inl (by omega))
        have l5r : W.cell? ⟨w.heap.size, 0, none⟩ = some (.slice (some ⟨lg, 0, none⟩) S.length lc) := by simp [World.cell?, hlr]
        have hir : W.heap[wr.heap.size]? = some (.cells #[.int .i64 (i : Nat)] 3 (0, 0)) := hkp.block _ _ HI0.out (by omega) (by omega) (.inr (fun cs fr e => by injection e with _ e2; exact absurd e2 (by decide)))
        have i0r : W.cell? ⟨wr.heap.size, 0, none⟩ = some (.int .i64 (i : Nat)) := by simp [World.cell?, hir]
        rw [List.length_append, numb_len, numb_len] at q0 qrecs qb
        have hwi : IntKind.i64.wrap ((i : Int) + 1) = (i : Int) + 1 := IntWalk.i64_in _ (by omega)
        have hpl : pre.length ≤ 99 := by omega
        have HKP := Lib.hid hkp
        have HQR := Lib.hid qrecs
        have HQB := Lib.hid qb
        have HQN := Lib.hid hrc.nx
        generalize hN : nx + pre.length = N at *
        have hN9 : N ≤ 99 + 99 := by omega
        have HN := Lib.hid hN
        clear hrc hkp hlr hir qrecs qb
        have hgd : decide ((i : Int) + 1 < S.length) = false := by rw [decide_eq_false_iff_not]; omega
        have hgd2 : ¬ ((i : Int) + 1 < S.length) := by omega
        clear hN
        gi_wp2
        refine wpIn_region_round l rfl (by kernel_rfl) (by kernel_rfl) (by kernel_rfl) ?_
        repeat (gi_big_quiet_step (fail))
        refine wpQuietIn_nil ?_
        intro _ hw'
        obtain ⟨nq, hw''⟩ := hw'
        subst hw''
        have d0 : (W.drewN nq).cell? ⟨w.heap.size + 1, 0, none⟩ = some (.slice qa ((bods (S.take i)).length + pre.length) qc) := q0
        have d1 : (W.drewN nq).cell? ⟨w.heap.size + 1 + 1, 0, none⟩ = some (.int .i64 (N : Nat)) := q1
        have HD0 := Lib.hid (show KeepR (w.heap.size + 3) (w.heap.size + 1) W (W.drewN nq) ∧ RecsAt (W.drewN nq) (w.heap.size + 3) (.slice qa ((bods (S.take i)).length + pre.length) qc) (numb n0 (bods (S.take i)) ++ numb nx pre) ∧ (W.drewN nq).heap[w.heap.size + 1]? = some (.cells #[.slice qa ((bods (S.take i)).length + pre.length) qc] 28 (0, 0)) ∧ (W.drewN nq).heap[w.heap.size + 1 + 1]? = some (.cells #[.int .i64 (N : Nat)] 3 (0, 0)) ∧ (∀ B, KeepsFrom B W (W.drewN nq)) ∧ (W.drewN nq).heap.size = W.heap.size from ⟨KeepR.below (below_drewN (Below.refl _ _) nq), HQR.out, HQB.out, HQN.out, fun B => ⟨Nat.le_refl _, fun _ _ _ h _ => h⟩, rfl⟩)
        have hrs : w.heap.size + 1 + 1 < W.heap.size := World.block_lt_of_cell? W _ q1
        have hlw : W.heap.size ≤ (W.drewN nq).heap.size := Nat.le_refl _
        generalize W.drewN nq = W1 at *
        have HLEN := Lib.hid (show (numb n0 (bods (S.take i)) ++ numb nx pre).length = (bods (S.take i)).length + pre.length by rw [List.length_append, numb_len, numb_len])
        have hcb : (bods (S.take i)).length ≤ 99 := by have := HCC.out; omega
        obtain ⟨i0, hi0, hz0, hz1, hz2⟩ := info_parts info_rec
        have HPU := Lib.hid (show ∀ (a' : Option Addr) (c' : Nat) (w9 : World), w9.ownsRow (w.heap.size + 3) 38 2 (.slice a' ((bods (S.take i)).length + pre.length + 1) c') ((bods (S.take i)).length + pre.length + 1) (rccells (numb n0 (bods (S.take i)) ++ numb nx pre) ++ [.int .i64 (N : Nat), .string y]) → (W1.alloc (.cells #[.int .i64 (N : Nat), .string y] 38)).grownBy w9 (Value.slice qa ((bods (S.take i)).length + pre.length) qc).ownBlock → _ from fun a' c' w9 ho hg => RcM.push (n := w.heap.size + 3) (R := w.heap.size + 1) (M := (N : Int) + 1) (x := y) (a := qa) (c := qc) (a' := a') (c' := c') (l := numb n0 (bods (S.take i)) ++ numb nx pre) (nx := N) rfl (by omega) HD0.out.2.2.2.1 (by rw [HLEN.out]; exact HD0.out.2.2.1) (by rw [HLEN.out]; exact HD0.out.2.1) (by rw [HLEN.out]; exact hg) (by rw [HLEN.out]; exact ho))
        rw [HLEN.out] at HPU
        have hown0 : W1.ownsRow (w.heap.size + 3) 38 2 (.slice qa ((bods (S.take i)).length + pre.length) qc) ((bods (S.take i)).length + pre.length) (rccells (numb n0 (bods (S.take i)) ++ numb nx pre)) := by have := HD0.out.2.1; unfold RecsAt at this; rw [HLEN.out] at this; exact this
        have HOW := Lib.hid hown0
        clear hown0
        generalize hLL : numb n0 (bods (S.take i)) ++ numb nx pre = LL at *
        have HLL := Lib.hid hLL
        generalize hCL : (bods (S.take i)).length + pre.length = CL at *
        have hcl9 : CL ≤ 200 := by omega
        clear hLL hCL HLEN
        gi_wp2_with (gi_at_builtin; refine wpListIn_append_own _ rfl _ _ 28 rfl (w.heap.size + 3) 38 i0 (.agg #[.int .i64 0, .string ⟨#[]⟩]) 2 24 Tryz.underlying28 hi0 hz0 hz1 hz2 rfl (by decide) _ _ _ rfl (World.ownsRow.alloc HOW.out _) ⟨W1.heap.size, 0, none⟩ 1 1 [.int .i64 (N : Nat), .string y] rfl rfl (World.news_of_block (heap_alloc_new W1 _)) (by simp [Value.oneCell']) (by unfold maxLen; omega) (by omega) (by simp; omega) ?_; intro v' w9 hown' hgrow _; obtain ⟨g', cap', rfl⟩ := ownsRow_succ hown'; obtain ⟨⟨e0, z0, e1, z1⟩, hrcN, hkN, hkfN⟩ := HPU.out _ _ _ hown' hgrow; have HRN := Lib.hid hrcN; have HKN := Lib.hid hkN; have HKF := Lib.hid hkfN; clear hrcN hkN hkfN)
        simp only [ownPostG]
        have hk9 : KeepR (w.heap.size + 3) (w.heap.size + 1) W ((w9.setCell ⟨w.heap.size + 1, 0, none⟩ (.slice (some ⟨g', 0, none⟩) (CL + 1) cap')).setCell ⟨w.heap.size + 1 + 1, 0, none⟩ (.int .i64 ((N : Int) + 1))) := HD0.out.1.trans HKN.out
        have hz2 := HB2.out.size
        refine ⟨(HD0.out.2.2.2.2.1 _).trans (HKF.out _), fun v hv => ?_, ?_, HKP.out.trans hk9⟩
        · have e1 := HKP.out.block _ _ r3 (by omega) (by omega) (.inr (fun cs fr e => by injection e with _ e2; exact absurd e2 (by decide)))
          have e2 := hk9.block _ _ e1 (by omega) (by omega) (.inr (fun cs fr e => by injection e with _ e2; exact absurd e2 (by decide)))
          rw [← hv]
          exact World.cell?_of_block (w := W) (a := ⟨w2.heap.size, 0, none⟩) (e2.trans e1.symm)
        · rw [numb_append, ← List.append_assoc, HLL.out, HN.out, List.length_append, ← Nat.add_assoc, HN.out]
          exact HRN.out
      case done =>
        rintro D ys W hD rfl ⟨hrc, hkp⟩ hK
        have hz2 := HB2.out.size
        have hz0 := HZ.out
        have hbW : W.heap[b]? = some (.cells #[p0, .string log, .slice oa i oc, .int .i64 ((0 : Nat) : Int), .bool false] 45 (0, 0)) :=
          hkp.block _ _ ((HB0.out.block b (by omega)).trans HBLK.out) (by omega) (by omega) (.inl (by omega))
        have hoW : OldAt W ob (.slice oa i oc) (froms (S.take i)) := HOLD.out.block fun cur hcu =>
          hkp.block _ _ ((HB0.out.block ob (heap_lt hcu)).trans hcu) (by rintro rfl; have := HRB.out; rw [hcu] at this; injection this with e; injection e with _ e2; exact absurd e2 (by decide)) hobn (.inr (fun cs fr e => by injection e with _ e2; exact absurd e2 (by decide)))
        have hdW : DAt W db m d := ((HD.out.but HM.out.fr (by simpa using Ne.symm HBD.out.1) (by simpa using Ne.symm HBD.out.2)).below HB0.out).keepR hkp HD.out.lt HD.out.map.lt
        have hfW : But [b] w W := ⟨hkp.os.trans (HB0.out.os.trans HM.out.fr.os), hkp.tape.trans (HB0.out.tape.trans HM.out.fr.tape), hkp.output.trans (HB0.out.output.trans HM.out.fr.output), by have := hkp.size; omega, fun k hk hn => by
          have h1 := HM.out.fr.block k hk hn
          have h2 := HB0.out.block k (by omega)
          obtain ⟨q, hq⟩ : ∃ q, w.heap[k]? = some q := ⟨_, Array.getElem?_eq_getElem hk⟩
          rw [hq]
          exact hkp.block k q (by rw [h2, h1, hq]) (by omega) (by omega) (.inl (by omega))⟩
        have hdsW : ∀ E ∈ D :: Ds, w.heap.size ≤ E ∧ W.heap[E]? = some (.deferred (some [])) := fun E hE => by
          rcases List.mem_cons.1 hE with rfl | hE
          · exact ⟨by omega, hK⟩
          · obtain ⟨h1, h2⟩ := HM.out.ds E hE
            refine ⟨h1, hkp.block E _ ((HB0.out.block E (heap_lt h2)).trans h2) (by rintro rfl; rw [HRB.out] at h2; cases h2) (df_ne HM.out h2) (.inr (fun cs fr e => by cases e))⟩
        have hndW : (D :: Ds).Nodup := List.nodup_cons.2 ⟨fun hm => by have := heap_lt (HM.out.ds D hm).2; omega, HM.out.nd⟩
        have hlW : W.heap[w.heap.size]? = some (.cells #[.slice (some ⟨lg, 0, none⟩) S.length lc] 23 (0, 0)) := hkp.block _ _ HLB0.out (by omega) (by omega) (.inl (by omega))
        have hiW : W.heap[wr.heap.size]? = some (.cells #[.int .i64 (i : Nat)] 3 (0, 0)) := hkp.block _ _ HI0.out (by omega) (by omega) (.inr (fun cs fr e => by injection e with _ e2; exact absurd e2 (by decide)))
        have hrW : RcM (w.heap.size + 3) (w.heap.size + 1) W (numb n0 (bods (S.take (i + 1)))) (n0 + (bods (S.take (i + 1))).length) := by
          rw [HSN.out, numb_append, List.length_append, HCC.out, ← Nat.add_assoc, HNC.out]
          exact hrc
        have hdl : w.heap.size + 1 + 1 < W.heap.size := by have := hkp.size; omega
        have hbW0 : W.cell? ⟨b, 0, none⟩ = some p0 := by simp [World.cell?, hbW]
        have hbz : W.frozen? ⟨b, 0, none⟩ = false := by simp [World.frozen?, hbW]
        have hbl2 : b < W.heap.size := by omega
        have HST := Lib.hid (sc_seg (db := db) (nm := fileB log nx) (nx := nx) (sz := x.data.size) hbl hdl hbW hoW hdW (HBD.out.1) (HBD.out.2) hfW hdsW hlW hiW hrW (by omega) hobn)
        clear hbW hoW hdW hfW hdsW hlW hiW hrW hkp hrc hK hD hz0
        have HND := Lib.hid hndW
        clear hndW
        go_upto_region 18 with (fail)
        generalize hsb : W.heap.size = sb at *
        generalize hW2 : (W.setCell ⟨b, 0, none⟩ (.pointer (some ⟨sb, 0, none⟩))).alloc (.cells #[.pointer (some ⟨db, 0, none⟩), .string (fileB log nx), .int .i64 (nx : Nat), .int .i64 (x.data.size : Nat)] 68) = W2 at *
        clear hW2 hsb hbW0 hbz
        have hlb2 := HST.out.lb
        have hib2 := HST.out.ib
        have hbk2 := HST.out.blk
        have l52 : W2.cell? ⟨w.heap.size, 0, none⟩ = some (.slice (some ⟨lg, 0, none⟩) S.length lc) := by simp [World.cell?, hlb2]
        have i02 : W2.cell? ⟨wr.heap.size, 0, none⟩ = some (.int .i64 (i : Nat)) := by simp [World.cell?, hib2]
        have c22 : W2.cell? ⟨b, 2, none⟩ = some (.slice oa i oc) := by simp [World.cell?, hbk2]
        have z22 : W2.frozen? ⟨b, 2, none⟩ = false := by simp [World.frozen?, hbk2]
        have hb2l := heap_lt hbk2
        clear hlb2 hib2 hbk2
        have hgd2 : ¬ ((i : Int) + 1 < S.length) := by omega
        have HSY := Lib.hid (show syncE d (fileL log nx) = 0 by unfold syncE chgE; simp [HUP.out, HFILE.out, HFU.out])
        have HSC := Lib.hid (sync_any W2 db m d (fileB log nx) HST.out.dat (fileB_le log nx hl) HOK.out)
        rw [fileB_list, HSY.out] at HSC
        have hn1 : 1 ≤ n0 := by have := HK.out S[0] (List.getElem_mem hpos); have h2 := HF0.out; have := this.lo; omega
        have hdl := HD.out.lt
        have hml := HD.out.map.lt
        have HX1 := Lib.hid (show g.fr = nx ∧ g.data.size = x.data.size from by rw [← HLX.out]; exact ⟨by rw [HNX.out], rfl⟩)
        go_wp2_with fail
        refine HSC.out.mono ?_
        rintro e w5 ⟨rfl, hd5, hb5⟩
        have hn5 : w5.cell? ⟨w.heap.size + 1 + 1, 0, none⟩ = some (.int .i64 ((n0 + (bods S).length : Nat) : Int)) := by
          have h1 := HST.out.rc.nx
          rw [show S.take (i + 1) = S from List.take_of_length_le (by omega)] at h1
          have h2 := (hb5.block _ (heap_lt h1) (by simp; omega)).trans h1
          simp [World.cell?, h2]
        have hb5b := (hb5.block b (heap_lt HST.out.blk) (by simp [HBD.out])).trans HST.out.blk
        have c35 : w5.cell? ⟨b, 3, none⟩ = some (.int .i64 ((0 : Nat) : Int)) := by simp [World.cell?, hb5b]
        have z35 : w5.frozen? ⟨b, 3, none⟩ = false := by simp [World.frozen?, hb5b]
        have hb5l := heap_lt hb5b
        have hfin := sc_last (g := g) (M := ((n0 + (bods S).length : Nat) : Int) - 1) HST.out ⟨hbl, hdl, hml⟩ HBD.out HOK.out HLA.out HX1.out.1 HX1.out.2 (by omega) hd5 hb5 HND.out
        have HFIN := Lib.hid hfin
        clear hfin hd5 hb5 hb5b HSC
        generalize hnn : n0 + (bods S).length = nn at *
        have HNN := Lib.hid hnn
        clear hnn
        go_wp2_with fail
        generalize w5.setCell ⟨b, 3, none⟩ (.int .i64 ((nn : Int) - 1)) = w6 at *
        refine (wholeN_any w6 x.data x.bs x.t (by have := HX.out.sz; omega) HX.out.text HX.out.ends).mono ?_
        rintro e w7 ⟨rfl, hb7⟩
        obtain ⟨ob2, ⟨f1, hobl, hoi6⟩, f2, f3, f4⟩ := HFIN.out
        have hW7 : WD w7 b sb ob2 db m (syncD d (fileL log nx)) (scanX log n0 S g) := f1.below hb7
        have hF7 : But [b, db, m] w w7 := f2.trans (.of_below hb7)
        have hD7 : ∀ E ∈ D :: Ds, w.heap.size ≤ E ∧ w7.heap[E]? = some (.deferred (some [])) := fun E hE => ⟨(f3 E hE).1, (hb7.block E (heap_lt (f3 E hE).2)).trans (f3 E hE).2⟩
        obtain ⟨⟨v8, hr81, hr82⟩, _⟩ := f4.below hb7
        have hr83 : RecsAt w7 w.heap.size v8 (numb n0 (bods S)) := own_base hr82 (by omega)
        have hsbl := HST.out.sbl
        have hgx : flen g.bs = flen x.bs ∧ g.data.size = x.data.size := by rw [← HLX.out]; exact ⟨rfl, rfl⟩
        have hgfr := HX1.out.1
        have HOI := Lib.hid (show ob2 = w.heap.size ∨ ∃ cur, w7.heap[ob2]? = some (.cells cur 3 (0, 0)) from hoi6.imp id (fun ⟨cur, hc⟩ => ⟨cur, (hb7.block _ (heap_lt hc)).trans hc⟩))
        have hds1 : ∀ E ∈ D :: Ds, w.heap.size + 1 ≤ E ∧ w7.heap[E]? = some (.deferred (some [])) := by
          intro E hE
          refine ⟨?_, (hD7 E hE).2⟩
          have h1 := (hD7 E hE).1
          rcases Nat.lt_or_ge w.heap.size E with h3 | h3
          · exact h3
          · obtain rfl : E = w.heap.size := by omega
            have h4 := (HST.out.ds _ hE).2
            rw [HST.out.lb] at h4
            cases h4
        have HDS1 := Lib.hid hds1
        clear hds1
        clear hoi6
        have H7 := Lib.hid (And.intro hW7 (And.intro hF7 (And.intro hD7 (And.intro hr81 hr83))))
        clear f1 f2 f3 f4 HFIN hb7 hW7 hF7 hD7
        by_cases hwh : flen x.bs = x.data.size
        · have hscS : scanS d log n0 S g = (0, syncD d (fileL log nx), scanX log n0 S g) := by unfold scanS; rw [if_pos (by rw [hgx.1, hgx.2]; exact hwh), hgfr]
          have hScF : ScF w w7 b db m n0 S (scanS d log n0 S g) (D :: Ds) := by
            rw [hscS]
            exact ⟨⟨v8, hr81, hr83⟩, ⟨sb, ob2, H7.out.1, hsbl, hobl⟩, H7.out.2.1, H7.out.2.2.1, HND.out⟩
          have HSCF := Lib.hid hScF
          have HWH := Lib.hid (show flen g.bs = g.data.size by rw [hgx.1, hgx.2]; exact hwh)
          have HLA2 := Lib.hid hwh
          have hne : (((flen x.bs : Nat) : Int) != ((x.data.size : Nat) : Int)) = false := by rw [hwh]; simp
          clear hwh hscS hScF hgx hr81 hr82 hr83 hgfr
          go_wp2_with fail
          refine ⟨⟨i + 1, D :: Ds, ex_f rfl rfl (.inr ⟨HLA.out, HSCF, HWH.out⟩)⟩, ?_⟩
          show S.length - ((i : Int) + 1).toNat < S.length - ((i : Int)).toNat
          omega
        · have hscS : scanS d log n0 S g = rotateS (syncD d (fileL log nx)) (scanX log n0 S g) := by unfold scanS; rw [if_neg (by rw [hgx.1, hgx.2]; exact hwh), hgfr]
          have hne : (((flen x.bs : Nat) : Int) != ((x.data.size : Nat) : Int)) = true := by simp only [bne_iff_ne, ne_eq]; omega
          have HSS := Lib.hid hscS
          have hc8 : w7.drew.cell? ⟨w.heap.size + 1, 0, none⟩ = some v8 := by
            have : w7.cell? ⟨w.heap.size + 1, 0, none⟩ = some v8 := by simp [World.cell?, hr81]
            exact this
          have HRT := Lib.hid (rotate_any w7.drew b sb ob2 db m (syncD d (fileL log nx)) (scanX log n0 S g) H7.out.1.drew hl (by show n0 + (bods S).length - 1 < 99; have := HNN.out; omega) (by show ((froms S).dropLast).length ≤ 1000; rw [List.length_dropLast, froms_len]; omega))
          have HR81 := Lib.hid hr81
          have HR82 := Lib.hid hr82
          have HKP8 := Lib.hid (show ∀ w8, WR w7.drew b sb ob2 db m (rotateS (syncD d (fileL log nx)) (scanX log n0 S g)).2.1 (rotateS (syncD d (fileL log nx)) (scanX log n0 S g)).2.2 w8 → w8.heap[w.heap.size + 1]? = some (.cells #[v8] 28 (0, 0)) ∧ w8.cell? ⟨w.heap.size + 1, 0, none⟩ = some v8 ∧ ScF w w8 b db m n0 S (scanS d log n0 S g) (D :: Ds) from fun w8 hr8 => sc_torn HSS.out H7.out.1 ⟨hbl, hdl, hml⟩ hsbl hobl HOI.out H7.out.2.1 HDS1.out HR81.out HR82.out HND.out hr8)
          clear hwh hscS hgx hr81 hr82 hr83 hgfr
          go_wp2_with fail
          go_region_held3 (fun w' => w'.cell? ⟨w.heap.size + 1, 0, none⟩ = some v8)
            (first | exact hc8 | exact (HKP8.out _ hr8).2.1 | assumption)
            (first | (go_at_call 32; ((with_reducible refine HRT.out.mono ?_); rintro e w8 ⟨rfl, hr8⟩)))
          all_goals
            obtain ⟨g1, g2, g3⟩ := HKP8.out _ hr8
            have HG3 := Lib.hid g3
            have HG1 := Lib.hid g1
            clear g1 g2 g3 hr8 hc8
            go_wp2_with fail
            exact fin_leave HG3.out ⟨hbl, hdl, hml⟩ HG1.out rfl (by rw [HSS.out]; rfl)
    · have hlx : i + 1 < S.length := by omega
      rw [HW.out]
      refine (wpIn_wide (n := 5)).1 (wpIn_rangeFunc_ownG rfl (by omega) (gf := 67) (lb := #[.pointer (some ⟨w2.heap.size, 0, none⟩)]) rfl trivial (enters_of Tryz.func67 (by kernel_rfl) rfl)
        (all_stops 4 (by omega) w2.heap.size x.data x.bs x.t hsz HX.out.text HX.out.ends W0 r2) boxK_t (boxK_b (by rw [HZ.out]; omega)) (Below.refl _ _) (fun _ => rfl)
        (fun pre W => RcM (w.heap.size + 3) (w.heap.size + 1) W (numb n0 (bods (S.take i)) ++ numb nx pre) (nx + pre.length) ∧ KeepR (w.heap.size + 3) (w.heap.size + 1) W0 W)
        (fun _ _ _ => False)
        (OwnFrom.and (ownFrom_rcM (by rw [HZ.out]; have := HB2.out.size; omega)) (ownFrom_keepR (by rw [HZ.out]; have := HB2.out.size; omega) (Nat.le_refl _)))
        (fun _ _ _ _ _ hs _ _ => hs)
        ⟨by simpa [numb] using HRC0.out, KeepR.refl _ _ _⟩
        (fun y => { tmps := #[.pointer (some ⟨b, 0, none⟩), .pointer (some ⟨db, 0, none⟩), .slice (some ⟨lg, 0, none⟩) S.length lc, undef, undef, .pointer (some ⟨w.heap.size, 0, none⟩), f 6, f 7, .pointer (some ⟨w.heap.size + 1, 0, none⟩), .pointer (some ⟨w.heap.size + 1 + 1, 0, none⟩), .pointer (some ⟨wr.heap.size, 0, none⟩), .int .i64 (nx : Nat), .string (fileB log nx), .string x.data, .int .i64 0, .string y, f 16, .slice (some ⟨lg, 0, none⟩) S.length lc, .pointer (some ⟨lg, 0, none⟩), .int .i64 (n0 : Nat), .slice (some ⟨lg, 0, none⟩) S.length lc, .int .i64 (S.length : Nat), .int .i64 (i : Nat), .bool true, .int .i64 (i : Nat), .pointer (some ⟨lg, i, none⟩), .int .i64 (nx : Nat), .int .i64 (nx : Nat), .int .i64 (nx : Nat), .bool false, .pointer (some ⟨b, 0, none⟩), .pointer (some ⟨b, 0, none⟩), .pointer (some ⟨b, 1, none⟩), .string log, .int .i64 (nx : Nat), .string (fileB log nx), .tuple #[.string x.data, .int .i64 0], .pointer (some ⟨db, 0, none⟩), .string (fileB log nx), .tuple #[.string x.data, .int .i64 0], .string x.data, .int .i64 0, .int .i64 0, .bool false, f 44, .string x.data, .func (.func 67) #[] #[.pointer (some ⟨w2.heap.size, 0, none⟩)], .string y, f 48, f 49, f 50, f 51, f 52, f 53, f 54, f 55, f 56, f 57, f 58, f 59, f 60, f 61, f 62, f 63, f 64, f 65, f 66, f 67, f 68, f 69, f 70, f 71, f 72, f 73, f 74, f 75, f 76, f 77, f 78, f 79, f 80, f 81, f 82, f 83, f 84, f 85, f 86, f 87, f 88, f 89, f 90, f 91, f 92, f 93, f 94, f 95, f 96, f 97, f 98, f 99, f 100, f 101, f 102, f 103, f 104, f 105, f 106, f 107, f 108, f 109, f 110, f 111, f 112, f 113, f 114, undef], defers := [] }) ?assign ?body ?done ?stop)
      case assign =>
        intro l y W K hK
        gi_wp2
        exact hK
      case stop =>
        rintro D c pre W _ _ h _
        exact h.elim
      case body =>
        rintro l pre y W ⟨hrc, hkp⟩ hplt
        obtain ⟨qa, qc, q0, qz0, qrecs, qb, q1, qz1⟩ := hrc.facts
        have hlr : W.heap[w.heap.size]? = some (.cells #[.slice (some ⟨lg, 0, none⟩) S.length lc] 23 (0, 0)) := hkp.block _ _ HLB0.out (by omega) (by omega) (.inl (by omega))
        have l5r : W.cell? ⟨w.heap.size, 0, none⟩ = some (.slice (some ⟨lg, 0, none⟩) S.length lc) := by simp [World.cell?, hlr]
        have hir : W.heap[wr.heap.size]? = some (.cells #[.int .i64 (i : Nat)] 3 (0, 0)) := hkp.block _ _ HI0.out (by omega) (by omega) (.inr (fun cs fr e => by injection e with _ e2; exact absurd e2 (by decide)))
        have i0r : W.cell? ⟨wr.heap.size, 0, none⟩ = some (.int .i64 (i : Nat)) := by simp [World.cell?, hir]
        rw [List.length_append, numb_len, numb_len] at q0 qrecs qb
        have hwi : IntKind.i64.wrap ((i : Int) + 1) = (i : Int) + 1 := IntWalk.i64_in _ (by omega)
        have hpl : pre.length ≤ 99 := by omega
        have HKP := Lib.hid hkp
        have HQR := Lib.hid qrecs
        have HQB := Lib.hid qb
        have HQN := Lib.hid hrc.nx
        generalize hN : nx + pre.length = N at *
        have hN9 : N ≤ 99 + 99 := by omega
        have HN := Lib.hid hN
        clear hrc hkp hlr hir qrecs qb
        have hgd : decide ((i : Int) + 1 < S.length) = true := by rw [decide_eq_true_iff]; omega
        have hgd2 : (i : Int) + 1 < S.length := by omega
        have hgt : (0 : Int) ≤ (i : Int) + 1 := by omega
        have hn2 : ((i : Int) + 1).toNat = i + 1 := by omega
        have hn1r : W.cell? ⟨lg, i + 1, none⟩ = some (.int .i64 ((nx + x.bs.length : Nat) : Int)) := by
          have h1 := HROW0.out (i + 1) (by omega)
          have h2 := chain_at n0 S (i + 1) (by omega) HC.out
          rw [HSN.out, List.length_append] at h2
          have h3 : S[i + 1].fr = nx + x.bs.length := by have h8 := HNC.out; have h9 := HCC.out; omega
          rw [h3] at h1
          rw [← h1]
          obtain ⟨o, ho⟩ : ∃ o, W0.heap[lg]? = some o := by
            have : lg < W0.heap.size := World.block_lt_of_cell? W0 _ h1
            exact ⟨_, Array.getElem?_eq_getElem this⟩
          exact World.cell?_of_block (w := W0) ((HKP.out.block lg o ho (by omega) (by omega) (.inl (by omega))).trans ho.symm)
        have hnt0 : N < nx + x.bs.length := by omega
        generalize nx + x.bs.length = NE at *
        have hnt : ((N : Int) == (NE : Int)) = false := by rw [beq_eq_false_iff_ne]; omega
        clear hN
        gi_wp2
        refine wpIn_region_round l rfl (by kernel_rfl) (by kernel_rfl) (by kernel_rfl) ?_
        repeat (gi_big_quiet_step (fail))
        refine wpQuietIn_nil ?_
        intro _ hw'
        obtain ⟨nq, hw''⟩ := hw'
        subst hw''
        have d0 : (W.drewN nq).cell? ⟨w.heap.size + 1, 0, none⟩ = some (.slice qa ((bods (S.take i)).length + pre.length) qc) := q0
        have d1 : (W.drewN nq).cell? ⟨w.heap.size + 1 + 1, 0, none⟩ = some (.int .i64 (N : Nat)) := q1
        have HD0 := Lib.hid (show KeepR (w.heap.size + 3) (w.heap.size + 1) W (W.drewN nq) ∧ RecsAt (W.drewN nq) (w.heap.size + 3) (.slice qa ((bods (S.take i)).length + pre.length) qc) (numb n0 (bods (S.take i)) ++ numb nx pre) ∧ (W.drewN nq).heap[w.heap.size + 1]? = some (.cells #[.slice qa ((bods (S.take i)).length + pre.length) qc] 28 (0, 0)) ∧ (W.drewN nq).heap[w.heap.size + 1 + 1]? = some (.cells #[.int .i64 (N : Nat)] 3 (0, 0)) ∧ (∀ B, KeepsFrom B W (W.drewN nq)) ∧ (W.drewN nq).heap.size = W.heap.size from ⟨KeepR.below (below_drewN (Below.refl _ _) nq), HQR.out, HQB.out, HQN.out, fun B => ⟨Nat.le_refl _, fun _ _ _ h _ => h⟩, rfl⟩)
        have hrs : w.heap.size + 1 + 1 < W.heap.size := World.block_lt_of_cell? W _ q1
        have hlw : W.heap.size ≤ (W.drewN nq).heap.size := Nat.le_refl _
        generalize W.drewN nq = W1 at *
        have HLEN := Lib.hid (show (numb n0 (bods (S.take i)) ++ numb nx pre).length = (bods (S.take i)).length + pre.length by rw [List.length_append, numb_len, numb_len])
        have hcb : (bods (S.take i)).length ≤ 99 := by have := HCC.out; omega
        obtain ⟨i0, hi0, hz0, hz1, hz2⟩ := info_parts info_rec
        have HPU := Lib.hid (show ∀ (a' : Option Addr) (c' : Nat) (w9 : World), w9.ownsRow (w.heap.size + 3) 38 2 (.slice a' ((bods (S.take i)).length + pre.length + 1) c') ((bods (S.take i)).length + pre.length + 1) (rccells (numb n0 (bods (S.take i)) ++ numb nx pre) ++ [.int .i64 (N : Nat), .string y]) → (W1.alloc (.cells #[.int .i64 (N : Nat), .string y] 38)).grownBy w9 (Value.slice qa ((bods (S.take i)).length + pre.length) qc).ownBlock → _ from fun a' c' w9 ho hg => RcM.push (n := w.heap.size + 3) (R := w.heap.size + 1) (M := (N : Int) + 1) (x := y) (a := qa) (c := qc) (a' := a') (c' := c') (l := numb n0 (bods (S.take i)) ++ numb nx pre) (nx := N) rfl (by omega) HD0.out.2.2.2.1 (by rw [HLEN.out]; exact HD0.out.2.2.1) (by rw [HLEN.out]; exact HD0.out.2.1) (by rw [HLEN.out]; exact hg) (by rw [HLEN.out]; exact ho))
        rw [HLEN.out] at HPU
        have hown0 : W1.ownsRow (w.heap.size + 3) 38 2 (.slice qa ((bods (S.take i)).length + pre.length) qc) ((bods (S.take i)).length + pre.length) (rccells (numb n0 (bods (S.take i)) ++ numb nx pre)) := by have := HD0.out.2.1; unfold RecsAt at this; rw [HLEN.out] at this; exact this
        have HOW := Lib.hid hown0
        clear hown0
        generalize hLL : numb n0 (bods (S.take i)) ++ numb nx pre = LL at *
        have HLL := Lib.hid hLL
        generalize hCL : (bods (S.take i)).length + pre.length = CL at *
        have hcl9 : CL ≤ 200 := by omega
        clear hLL hCL HLEN
        gi_wp2_with (gi_at_builtin; refine wpListIn_append_own _ rfl _ _ 28 rfl (w.heap.size + 3) 38 i0 (.agg #[.int .i64 0, .string ⟨#[]⟩]) 2 24 Tryz.underlying28 hi0 hz0 hz1 hz2 rfl (by decide) _ _ _ rfl (World.ownsRow.alloc HOW.out _) ⟨W1.heap.size, 0, none⟩ 1 1 [.int .i64 (N : Nat), .string y] rfl rfl (World.news_of_block (heap_alloc_new W1 _)) (by simp [Value.oneCell']) (by unfold maxLen; omega) (by omega) (by simp; omega) ?_; intro v' w9 hown' hgrow _; obtain ⟨g', cap', rfl⟩ := ownsRow_succ hown'; obtain ⟨⟨e0, z0, e1, z1⟩, hrcN, hkN, hkfN⟩ := HPU.out _ _ _ hown' hgrow; have HRN := Lib.hid hrcN; have HKN := Lib.hid hkN; have HKF := Lib.hid hkfN; clear hrcN hkN hkfN)
        simp only [ownPostG]
        have hk9 : KeepR (w.heap.size + 3) (w.heap.size + 1) W ((w9.setCell ⟨w.heap.size + 1, 0, none⟩ (.slice (some ⟨g', 0, none⟩) (CL + 1) cap')).setCell ⟨w.heap.size + 1 + 1, 0, none⟩ (.int .i64 ((N : Int) + 1))) := HD0.out.1.trans HKN.out
        have hz2 := HB2.out.size
        refine ⟨(HD0.out.2.2.2.2.1 _).trans (HKF.out _), fun v hv => ?_, ?_, HKP.out.trans hk9⟩
        · have e1 := HKP.out.block _ _ r3 (by omega) (by omega) (.inr (fun cs fr e => by injection e with _ e2; exact absurd e2 (by decide)))
          have e2 := hk9.block _ _ e1 (by omega) (by omega) (.inr (fun cs fr e => by injection e with _ e2; exact absurd e2 (by decide)))
          rw [← hv]
          exact World.cell?_of_block (w := W) (a := ⟨w2.heap.size, 0, none⟩) (e2.trans e1.symm)
        · rw [numb_append, ← List.append_assoc, HLL.out, HN.out, List.length_append, ← Nat.add_assoc, HN.out]
          exact HRN.out
      case done =>
        rintro D ys W hD rfl ⟨hrc, hkp⟩ hK
        have hz2 := HB2.out.size
        have hz0 := HZ.out
        have hbW : W.heap[b]? = some (.cells #[p0, .string log, .slice oa i oc, .int .i64 ((0 : Nat) : Int), .bool false] 45 (0, 0)) :=
          hkp.block _ _ ((HB0.out.block b (by omega)).trans HBLK.out) (by omega) (by omega) (.inl (by omega))
        have hoW : OldAt W ob (.slice oa i oc) (froms (S.take i)) := HOLD.out.block fun cur hcu =>
          hkp.block _ _ ((HB0.out.block ob (heap_lt hcu)).trans hcu) (by rintro rfl; have := HRB.out; rw [hcu] at this; injection this with e; injection e with _ e2; exact absurd e2 (by decide)) hobn (.inr (fun cs fr e => by injection e with _ e2; exact absurd e2 (by decide)))
        have hdW : DAt W db m d := ((HD.out.but HM.out.fr (by simpa using Ne.symm HBD.out.1) (by simpa using Ne.symm HBD.out.2)).below HB0.out).keepR hkp HD.out.lt HD.out.map.lt
        have hfW : But [b] w W := ⟨hkp.os.trans (HB0.out.os.trans HM.out.fr.os), hkp.tape.trans (HB0.out.tape.trans HM.out.fr.tape), hkp.output.trans (HB0.out.output.trans HM.out.fr.output), by have := hkp.size; omega, fun k hk hn => by
          have h1 := HM.out.fr.block k hk hn
          have h2 := HB0.out.block k (by omega)
          obtain ⟨q, hq⟩ : ∃ q, w.heap[k]? = some q := ⟨_, Array.getElem?_eq_getElem hk⟩
          rw [hq]
          exact hkp.block k q (by rw [h2, h1, hq]) (by omega) (by omega) (.inl (by omega))⟩
        have hdsW : ∀ E ∈ D :: Ds, w.heap.size ≤ E ∧ W.heap[E]? = some (.deferred (some [])) := fun E hE => by
          rcases List.mem_cons.1 hE with rfl | hE
          · exact ⟨by omega, hK⟩
          · obtain ⟨h1, h2⟩ := HM.out.ds E hE
            refine ⟨h1, hkp.block E _ ((HB0.out.block E (heap_lt h2)).trans h2) (by rintro rfl; rw [HRB.out] at h2; cases h2) (df_ne HM.out h2) (.inr (fun cs fr e => by cases e))⟩
        have hndW : (D :: Ds).Nodup := List.nodup_cons.2 ⟨fun hm => by have := heap_lt (HM.out.ds D hm).2; omega, HM.out.nd⟩
        have hlW : W.heap[w.heap.size]? = some (.cells #[.slice (some ⟨lg, 0, none⟩) S.length lc] 23 (0, 0)) := hkp.block _ _ HLB0.out (by omega) (by omega) (.inl (by omega))
        have hiW : W.heap[wr.heap.size]? = some (.cells #[.int .i64 (i : Nat)] 3 (0, 0)) := hkp.block _ _ HI0.out (by omega) (by omega) (.inr (fun cs fr e => by injection e with _ e2; exact absurd e2 (by decide)))
        have hrW : RcM (w.heap.size + 3) (w.heap.size + 1) W (numb n0 (bods (S.take (i + 1)))) (n0 + (bods (S.take (i + 1))).length) := by
          rw [HSN.out, numb_append, List.length_append, HCC.out, ← Nat.add_assoc, HNC.out]
          exact hrc
        have hdl : w.heap.size + 1 + 1 < W.heap.size := by have := hkp.size; omega
        have hbW0 : W.cell? ⟨b, 0, none⟩ = some p0 := by simp [World.cell?, hbW]
        have hbz : W.frozen? ⟨b, 0, none⟩ = false := by simp [World.frozen?, hbW]
        have hbl2 : b < W.heap.size := by omega
        have HST := Lib.hid (sc_seg (db := db) (nm := fileB log nx) (nx := nx) (sz := x.data.size) hbl hdl hbW hoW hdW (HBD.out.1) (HBD.out.2) hfW hdsW hlW hiW hrW (by omega) hobn)
        clear hbW hoW hdW hfW hdsW hlW hiW hrW hkp hrc hK hD hz0
        have HND := Lib.hid hndW
        clear hndW
        go_upto_region 18 with (fail)
        generalize hsb : W.heap.size = sb at *
        generalize hW2 : (W.setCell ⟨b, 0, none⟩ (.pointer (some ⟨sb, 0, none⟩))).alloc (.cells #[.pointer (some ⟨db, 0, none⟩), .string (fileB log nx), .int .i64 (nx : Nat), .int .i64 (x.data.size : Nat)] 68) = W2 at *
        clear hW2 hsb hbW0 hbz
        have hlb2 := HST.out.lb
        have hib2 := HST.out.ib
        have hbk2 := HST.out.blk
        have l52 : W2.cell? ⟨w.heap.size, 0, none⟩ = some (.slice (some ⟨lg, 0, none⟩) S.length lc) := by simp [World.cell?, hlb2]
        have i02 : W2.cell? ⟨wr.heap.size, 0, none⟩ = some (.int .i64 (i : Nat)) := by simp [World.cell?, hib2]
        have c22 : W2.cell? ⟨b, 2, none⟩ = some (.slice oa i oc) := by simp [World.cell?, hbk2]
        have z22 : W2.frozen? ⟨b, 2, none⟩ = false := by simp [World.frozen?, hbk2]
        have hb2l := heap_lt hbk2
        clear hlb2 hib2 hbk2
        have HT2 := Lib.hid (show froms (S.take (i + 1)) = froms (S.take i) ++ [nx] by rw [HTK.out, HNX.out])
        have HFL := Lib.hid (show (froms (S.take i)).length ≤ 1000 by simp [froms]; omega)
        go_wp2_with (at_builtin; refine wpList_append_old _ rfl _ _ rfl ob (.slice oa i oc) (froms (S.take i)) rfl (HST.out.old.alloc _) HFL.out nx W2.heap.size 3 rfl (heap_alloc_new W2 _) ?_; intro a3 c3 w3 g3 ho3 hg3 hat3; obtain ⟨k23, c23, z23⟩ := old_facts HST.out.blk HST.out.old hg3)
        have hScM := HST.out.next hbl hlt HT2.out ho3 hg3 hat3 HND.out
        refine ⟨⟨i + 1, D :: Ds, ex_f rfl rfl (.inl ⟨hlx, Lib.hid hScM⟩)⟩, ?_⟩
        show S.length - ((i : Int) + 1).toNat < S.length - ((i : Int)).toNat
        omega
  · obtain ⟨v8, hv8, hr8⟩ := HFN.out.rc
    have c8 : wr.cell? ⟨w.heap.size + 1, 0, none⟩ = some v8 := by simp [World.cell?, hv8]
    have HV8 := Lib.hid hv8
    have hdl := HD.out.lt
    have hml := HD.out.map.lt
    clear hv8 hr8 hwh
    go_wp2_with fail
    exact fin_leave HFN.out ⟨hbl, hdl, hml⟩ HV8.out rfl (by rw [HE.out]; rfl)
end Go.Proofs.YtkpoecofblhggaaGreatDoor
