/-
  package store: a log on a disk of one file ('LgA'), a store ('SD'); off, told.
-/
import Derived.Test.YtcohbfabcdjefaaGreatDoorEl
import Derived.Test.YtcohbfabcdjefaaGreatDoorEn
namespace Go.Proofs.YtcohbfabcdjefaaGreatDoor
open Go.RowKit Go.Maps

/-- blocks of cells that aren't in l and whose type isn't in ts stay -/
structure Kx (l : List Nat) (ts : List TypeId) (w w' : World) : Prop where
  size : w.heap.size ≤ w'.heap.size
  blk : ∀ k cs T fr, w.heap[k]? = some (.cells cs T fr) → k ∉ l → T ∉ ts → w'.heap[k]? = some (.cells cs T fr)
theorem Kx.refl (l : List Nat) (ts : List TypeId) (w : World) : Kx l ts w w := ⟨Nat.le_refl _, fun _ _ _ _ h _ _ => h⟩
theorem Kx.trans {l : List Nat} {ts : List TypeId} {a b c : World} (h : Kx l ts a b) (k : Kx l ts b c) : Kx l ts a c :=
  ⟨Nat.le_trans h.size k.size, fun i cs T fr hi hl hT => k.blk i cs T fr (h.blk i cs T fr hi hl hT) hl hT⟩
theorem Kx.of_below {l : List Nat} {ts : List TypeId} {w w' : World} (h : Below w.heap.size w w') : Kx l ts w w' :=
  ⟨h.size, fun k cs T fr hk _ _ => (h.block k (heap_lt hk)).trans hk⟩
theorem Kx.of_kp {B : Nat} {l : List Nat} {ts ts' : List TypeId} {w w' : World} (h : Kp B ts w w') (hs : ∀ T, T ∈ ts → T ∈ ts') : Kx l ts' w w' :=
  ⟨h.size, fun k cs T fr hk _ hT => h.blk k _ hk (.inr (fun cs' T' fr' e hm => by injection e with _ e2; subst e2; exact hT (hs _ hm)))⟩
abbrev tsL : List TypeId := [167, 192, 3]
theorem Kx.wide {l : List Nat} {ts ts' : List TypeId} {w w' : World} (h : Kx l ts w w') (hs : ∀ T, T ∈ ts → T ∈ ts') : Kx l ts' w w' := ⟨h.size, fun k cs T fr hk hl hT => h.blk k cs T fr hk hl (fun e => hT (hs T e))⟩
abbrev tsW : List TypeId := [176, 144, 106, 167, 192, 3]
theorem Kp.at {B : Nat} {ts : List TypeId} {w w' : World} (h : Kp B ts w w') {k : Nat} (hk : k < B) (hw : k < w.heap.size) : w'.heap[k]? = w.heap[k]? := by
  have e : w.heap[k]? = some w.heap[k] := Array.getElem?_eq_getElem _
  rw [e]; exact h.blk k _ e (.inl hk)
theorem Kp.below {A B : Nat} {ts : List TypeId} {w w' : World} (h : Kp B ts w w') (hA : A ≤ B) (hw : A ≤ w.heap.size) : Below A w w' := ⟨h.os, h.tape, h.output, h.size, fun k hk => h.at (by omega) (by omega)⟩
/-- the log's name -/
def lgB : ByteArray := ⟨#[108, 111, 103]⟩
/-- a log, and its disk, which has the log's file alone: n records, z bytes; the disk lies below B -/
structure LgA (A B : Nat) (w : World) (lb db m n z : Nat) : Prop where
  ex : ∃ sgb ob y s0, WD w lb sgb ob db m (D1 (fileL lgB 1) y s0 false) (X1 lgB n z) ∧ y.size = z ∧ (ob = sgb ∨ ∃ cur, w.heap[ob]? = some (.cells cur 3 (0, 0))) ∧ A ≤ sgb ∧ A ≤ ob
  hlb : A ≤ lb
  ldb : A ≤ db
  lm : A ≤ m
  hdb : db < B
  hm : m < B
theorem LgA.below {A B : Nat} {w w' : World} {lb db m n z : Nat} (h : LgA A B w lb db m n z) (hb : Below w.heap.size w w') : LgA A B w' lb db m n z := by
  obtain ⟨sgb, ob, y, s0, h1, h2, h3, h4⟩ := h.ex
  exact ⟨⟨sgb, ob, y, s0, h1.below hb, h2, h3.imp id (fun ⟨c, hc⟩ => ⟨c, (hb.block ob (heap_lt hc)).trans hc⟩), h4⟩, h.hlb, h.ldb, h.lm, h.hdb, h.hm⟩
theorem LgA.kpT {A B : Nat} {ts : List TypeId} {w w' : World} {lb db m n z : Nat} (h : LgA A B w lb db m n z) (hk : Kp B ts w w') (ht1 : 167 ∉ ts) (ht2 : 192 ∉ ts) (ht3 : 3 ∉ ts) : LgA A B w' lb db m n z := by
  obtain ⟨sgb, ob, y, s0, h1, h2, h3, h4⟩ := h.ex
  obtain ⟨v, hv, hO⟩ := h1.wal.blk
  have hdl := h1.dat.lt
  have hml := h1.dat.map.lt
  have hcl : ∀ (k : Nat) (cs : Array Value) (T : TypeId) (fr : Nat × Nat), w.heap[k]? = some (.cells cs T fr) → T ∉ ts → w'.heap[k]? = some (.cells cs T fr) := fun k cs T fr e hT => hk.blk k _ e (.inr (fun _ _ _ e2 => by injection e2 with _ e3; rw [← e3]; exact hT))
  have eb : w'.heap[db]? = w.heap[db]? := hk.at h.hdb hdl
  have hd : DAt w' db m (D1 (fileL lgB 1) y s0 false) := by
    have d := h1.dat
    have ce : ∀ o, w'.cell? ⟨db, o, none⟩ = w.cell? ⟨db, o, none⟩ := fun o => World.cell?_of_block (w := w) eb
    have fe : ∀ o, w'.frozen? ⟨db, o, none⟩ = w.frozen? ⟨db, o, none⟩ := fun o => World.frozen?_of_block (w := w) eb
    exact ⟨(ce _).trans d.c0, (ce _).trans d.c1, (ce _).trans d.c2, (ce _).trans d.c3, (fe _).trans d.f0, (fe _).trans d.f1, (fe _).trans d.f2, (fe _).trans d.f3, Nat.lt_of_lt_of_le d.lt hk.size, d.map.heap (hk.at h.hm hml)⟩
  refine ⟨⟨sgb, ob, y, s0, ⟨⟨⟨v, hcl _ _ _ _ hv ht1, hO.block (fun cur e => hcl _ _ _ _ e ht3)⟩, hcl _ _ _ _ h1.wal.seg ht2⟩, hd, h1.ok, h1.dk⟩, h2, h3.imp id (fun ⟨c, hc⟩ => ⟨c, hcl _ _ _ _ hc ht3⟩), h4⟩, h.hlb, h.ldb, h.lm, h.hdb, h.hm⟩
theorem LgA.kp {A B : Nat} {w w' : World} {lb db m n z : Nat} (h : LgA A B w lb db m n z) (hk : Kp B tsM w w') : LgA A B w' lb db m n z := h.kpT hk (by decide) (by decide) (by decide)
theorem LgA.of_wr {A B : Nat} {w w' : World} {lb sgb ob db m n' z' : Nat} {d : Dk} {x : Lg} {y' : ByteArray} {s0' : Nat} (h : WD w lb sgb ob db m d x) (ho : ob = sgb ∨ ∃ cur, w.heap[ob]? = some (.cells cur 3 (0, 0)))
    (hsg : A ≤ sgb) (hob : A ≤ ob) (hlb : A ≤ lb) (ldb : A ≤ db) (lm : A ≤ m) (hdb : db < B) (hm : m < B)
    (hr : WR w lb sgb ob db m (D1 (fileL lgB 1) y' s0' false) (X1 lgB n' z') w') (hy : y'.size = z') : LgA A B w' lb db m n' z' ∧ Below A w w' ∧ Kx [db] tsL w w' := by
  obtain ⟨s2, o2, h1, h2, h3, h4⟩ := hr
  obtain ⟨v0, hv0, _⟩ := h.wal.blk
  have hAw : A ≤ w.heap.size := by have := heap_lt hv0; omega
  have hs2 : A ≤ s2 := by rcases h3 with rfl | h3 <;> omega
  have ho2 : A ≤ o2 := by
    rcases h4 with h4 | h4
    · simp only [List.mem_cons, List.not_mem_nil, or_false] at h4; omega
    · omega
  refine ⟨⟨?_, hlb, ldb, lm, hdb, hm⟩, h2.below hAw (fun k hk => by simp only [List.mem_cons, List.not_mem_nil, or_false] at hk; omega), h2.size, fun k cs T fr hk hn hT => ?_⟩
  · obtain ⟨v, hv, hO⟩ := h1.wal.blk
    rcases hO with ⟨rfl, _⟩ | ⟨off, cap, cur, hv2, hg, hrest⟩
    · exact ⟨s2, s2, y', s0', ⟨⟨⟨_, hv, .inl ⟨rfl, rfl⟩⟩, h1.wal.seg⟩, h1.dat, h1.ok, fun k hk => h1.dk k (by rcases hk with e | e | e; exact .inl e; exact .inr (.inl e); exact .inr (.inl e))⟩, hy, .inl rfl, hs2, hs2⟩
    · exact ⟨s2, o2, y', s0', h1, hy, .inr ⟨cur, hg⟩, hs2, ho2⟩
  · rw [h2.block k (heap_lt hk) (fun e => ?_)]
    · exact hk
    · simp only [List.mem_cons, List.not_mem_nil, or_false] at e
      have hsegT : ∀ j, j = sgb → w.heap[j]? = some (.cells cs T fr) → False := fun j e1 e2 => by
        subst e1
        have := h.wal.seg.symm.trans e2; injection this with e3; injection e3 with _ e4
        exact hT (by rw [← e4]; decide)
      rcases e with rfl | rfl | rfl | rfl | rfl
      · exact hn (by simp)
      · obtain ⟨es, clock, hb, _⟩ := h.dat.map
        rw [hb] at hk; cases hk
      · have := hv0.symm.trans hk; injection this with e3; injection e3 with _ e4
        exact hT (by rw [← e4]; decide)
      · exact hsegT _ rfl hk
      · rcases ho with e | ⟨cur, hc⟩
        · exact hsegT _ e hk
        · have := hc.symm.trans hk; injection this with e3; injection e3 with _ e4
          exact hT (by rw [← e4]; decide)
/-- one more record -/
theorem LgA.put {A B : Nat} {w : World} {lb db m n z : Nat} (h : LgA A B w lb db m n z) (hn : n < 98) (hz : z < 16384) (s : ByteArray) (hs : s.size ≤ 65536) :
    Calls Tryz.prog 102 #[.pointer (some ⟨lb, 0, none⟩), .string s] w fun e w' => e = .returned (.tuple #[.int .i64 ((n + 1 : Nat) : Int), .int .i64 0]) ∧ LgA A B w' lb db m (n + 1) (z + (8 + s.size)) ∧ Below A w w' ∧ Kx [db] tsL w w' := by
  obtain ⟨sgb, ob, y, s0, h1, h2, h3, h4, h5⟩ := h.ex
  have hp := put1S (log := lgB) (n := n) (y := s0) h2 hs hz
  refine (wappend_put w lb sgb ob db m _ _ s h1 (by show (3 : Nat) ≤ 1000; decide) hn hz hs (off1 h2 _)).mono fun e w' ⟨he, hw⟩ => ?_
  unfold appendN at he
  rw [hp] at he hw
  refine ⟨he, ?_⟩
  have hfs : (frame s).size = 8 + s.size := frame_size s
  rw [hfs] at hw
  exact LgA.of_wr h1 h3 h4 h5 h.hlb h.ldb h.lm h.hdb h.hm hw (by rw [ByteArray.size_append, hfs, h2])
theorem LgA.sync {A B : Nat} {w : World} {lb db m n z : Nat} (h : LgA A B w lb db m n z) :
    Calls Tryz.prog 104 #[.pointer (some ⟨lb, 0, none⟩)] w fun e w' => e = .returned (.int .i64 0) ∧ LgA A B w' lb db m n z ∧ Below A w w' ∧ Kx [db] tsL w w' := by
  obtain ⟨sgb, ob, y, s0, h1, h2, h3, h4, h5⟩ := h.ex
  have hp := sync1S (log := lgB) (n := n) (y := s0) h2
  refine (wsync_any w lb sgb ob db m _ _ h1 (by show (3 : Nat) ≤ 1000; decide)).mono fun e w' ⟨he, hw⟩ => ?_
  rw [hp] at he hw
  exact ⟨he, LgA.of_wr h1 h3 h4 h5 h.hlb h.ldb h.lm h.hdb h.hm hw h2⟩
theorem LgA.last {A B : Nat} {w : World} {lb db m n z : Nat} (h : LgA A B w lb db m n z) : Calls Tryz.prog 53 #[.pointer (some ⟨lb, 0, none⟩)] w fun e w' => e = .returned (.int .i64 (n : Nat)) ∧ w = w' := by
  obtain ⟨sgb, ob, y, s0, h1, _⟩ := h.ex
  exact last_any w lb sgb ob db m _ _ h1
theorem LgA.first {A B : Nat} {w : World} {lb db m n z : Nat} (h : LgA A B w lb db m n z) : Calls Tryz.prog 54 #[.pointer (some ⟨lb, 0, none⟩)] w fun e w' => e = .returned (.int .i64 1) ∧ w = w' := by
  obtain ⟨sgb, ob, y, s0, h1, _⟩ := h.ex
  exact first_any w lb sgb ob db m _ _ h1 (by simp [X1])
theorem LgA.down {A B : Nat} {w : World} {lb db m n z : Nat} (h : LgA A B w lb db m n z) : Calls Tryz.prog 86 #[.pointer (some ⟨db, 0, none⟩)] w fun e w' => e = .returned (.bool false) ∧ w = w' := by
  obtain ⟨sgb, ob, y, s0, h1, _⟩ := h.ex
  exact down_any w db m _ h1.dat

/-- a store without tables: what is in memory is M -/
structure SD (A B : Nat) (w : World) (sb mb db m lb nb : Nat) (M : List It) (logged n z : Nat) : Prop where
  st : StB w sb mb db lb nb (sumE M) logged false
  mem : ∃ u, MemAt w mb u false ∧ OwnI w B u M
  up : Up M
  log : LgA A B w lb db m n z
  hA : A ≤ B
  hsb : B ≤ sb
  hmb : B ≤ mb
theorem StB.lt {w : World} {sb mb db lb nb size logged : Nat} {dead : Bool} (h : StB w sb mb db lb nb size logged dead) : sb < w.heap.size := heap_lt h
theorem SD.below {A B : Nat} {w w' : World} {sb mb db m lb nb : Nat} {M : List It} {logged n z : Nat} (h : SD A B w sb mb db m lb nb M logged n z) (hb : Below w.heap.size w w') : SD A B w' sb mb db m lb nb M logged n z := by
  obtain ⟨u, h1, h2⟩ := h.mem
  exact ⟨(hb.block sb h.st.lt).trans h.st, ⟨u, ⟨(hb.block mb h1.lt).trans h1.blk⟩, own_below h2 hb⟩, h.up, h.log.below hb, h.hA, h.hsb, h.hmb⟩
theorem SD.drew {A B : Nat} {w : World} {sb mb db m lb nb : Nat} {M : List It} {logged n z : Nat} (h : SD A B w sb mb db m lb nb M logged n z) : SD A B w.drew sb mb db m lb nb M logged n z := h.below (Below.refl _ _).drew
/-- the log has turned -/
theorem SD.loged {A B : Nat} {w w' : World} {sb mb db m lb nb : Nat} {M : List It} {logged n z n' z' : Nat} (h : SD A B w sb mb db m lb nb M logged n z) (hl : LgA A B w' lb db m n' z') (hk : Kx [db] tsL w w') : SD A B w' sb mb db m lb nb M logged n' z' := by
  obtain ⟨u, h1, h2⟩ := h.mem
  have hsb := h.hsb
  have hmb := h.hmb
  have hdb := h.log.hdb
  refine ⟨hk.blk sb _ _ _ h.st (by simp; omega) (by decide), ⟨u, ⟨hk.blk mb _ _ _ h1.blk (by simp; omega) (by decide)⟩, own_keep h2 (fun g cs hg e => hk.blk g _ _ _ e (by have := (h2.lt g hg).1; simp; omega) (by decide))⟩, h.up, hl, h.hA, h.hsb, h.hmb⟩
end Go.Proofs.YtcohbfabcdjefaaGreatDoor
