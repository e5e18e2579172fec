/-
  'copied': a state and an edit of their own.
-/
import Derived.Test.YtiiafpbonkcokaaGreatRa
import Derived.Test.YtiiafpbonkcokaaGreatQd
namespace Go.Proofs.YtiiafpbonkcokaaGreat
open Go.RowKit Go.Maps

/-- what stands in memory while 'copied' goes on -/
structure CpM (w wr : World) (sv ev : Array Value) : Prop where
  sb : wr.heap[w.heap.size]? = some (.cells sv 24 (0, 0))
  eb : wr.heap[w.heap.size + 1]? = some (.cells ev 33 (0, 0))
  rb : wr.heap[w.heap.size + 1 + 1]? = some (.cells #[.int .i64 0, .int .i64 0, .slice none 0 0] 24 (0, 0))
  qb : wr.heap[w.heap.size + 1 + 1 + 1]? = some (.cells #[.slice none 0 0, .slice none 0 0, .int .i64 0, .int .i64 0] 33 (0, 0))
  bel : Below w.heap.size w wr
theorem CpM.below {w wr w' : World} {sv ev : Array Value} (h : CpM w wr sv ev) (hb : Below wr.heap.size wr w') : CpM w w' sv ev :=
  ⟨(hb.block _ (heap_lt h.sb)).trans h.sb, (hb.block _ (heap_lt h.eb)).trans h.eb, (hb.block _ (heap_lt h.rb)).trans h.rb, (hb.block _ (heap_lt h.qb)).trans h.qb, h.bel.trans (hb.mono h.bel.size)⟩
theorem CpM.setS {w wr : World} {sv ev : Array Value} (h : CpM w wr sv ev) (o : Nat) (v : Value) : CpM w (wr.setCell ⟨w.heap.size, o, none⟩ v) (sv.setIfInBounds o v) ev := by
  have hs : ∀ k, k ≠ w.heap.size → (wr.setCell ⟨w.heap.size, o, none⟩ v).heap[k]? = wr.heap[k]? := fun k hk => Below.heap_setCell wr ⟨w.heap.size, o, none⟩ v k hk
  exact ⟨heap_setCell_same wr _ o _ _ v h.sb, (hs _ (by omega)).trans h.eb, (hs _ (by omega)).trans h.rb, (hs _ (by omega)).trans h.qb, h.bel.setCell (Nat.le_refl _) _⟩
theorem CpM.setE {w wr : World} {sv ev : Array Value} (h : CpM w wr sv ev) (o : Nat) (v : Value) : CpM w (wr.setCell ⟨w.heap.size + 1, o, none⟩ v) sv (ev.setIfInBounds o v) := by
  have hs : ∀ k, k ≠ w.heap.size + 1 → (wr.setCell ⟨w.heap.size + 1, o, none⟩ v).heap[k]? = wr.heap[k]? := fun k hk => Below.heap_setCell wr ⟨w.heap.size + 1, o, none⟩ v k hk
  exact ⟨(hs _ (by omega)).trans h.sb, heap_setCell_same wr _ o _ _ v h.eb, (hs _ (by omega)).trans h.rb, (hs _ (by omega)).trans h.qb, h.bel.setCell (by show w.heap.size ≤ w.heap.size + 1; omega) _⟩
theorem CpM.cells {w wr : World} {v vd va : Value} {a b c d : Int} (h : CpM w wr #[.int .i64 a, .int .i64 b, v] #[vd, va, .int .i64 c, .int .i64 d]) :
    (wr.cell? ⟨w.heap.size, 0, none⟩ = some (.int .i64 a) ∧ wr.cell? ⟨w.heap.size, 1, none⟩ = some (.int .i64 b) ∧ wr.cell? ⟨w.heap.size, 2, none⟩ = some v) ∧ (wr.cell? ⟨w.heap.size + 1, 0, none⟩ = some vd ∧ wr.cell? ⟨w.heap.size + 1, 1, none⟩ = some va ∧ wr.cell? ⟨w.heap.size + 1, 2, none⟩ = some (.int .i64 c) ∧ wr.cell? ⟨w.heap.size + 1, 3, none⟩ = some (.int .i64 d)) ∧
    (∀ o, wr.frozen? ⟨w.heap.size, o, none⟩ = false) ∧ (∀ o, wr.frozen? ⟨w.heap.size + 1, o, none⟩ = false) ∧ w.heap.size + 1 < wr.heap.size := by
  have e0 := h.sb
  have e1 := h.eb
  exact ⟨⟨by simp [World.cell?, e0], by simp [World.cell?, e0], by simp [World.cell?, e0]⟩, ⟨by simp [World.cell?, e1], by simp [World.cell?, e1], by simp [World.cell?, e1], by simp [World.cell?, e1]⟩, fun o => by simp [World.frozen?, e0], fun o => by simp [World.frozen?, e1], heap_lt e1⟩
/-- the numbers' cells -/
def icells (L : List Int) : List Value := L.map (Value.int .i64)
theorem IRow.own {w : World} {B : Nat} {T : TypeId} {v : Value} {L : List Int} (h : w.ownsRow B T 1 v L.length (icells L)) : IRow (B ≤ ·) w v L := by
  obtain ⟨h1, h2⟩ := h
  rcases h2 with ⟨rfl, hn⟩ | ⟨g, cap, cur, rfl, hg, hb, hnc, hm, hcs, ht⟩
  · have hL : L = [] := List.eq_nil_of_length_eq_zero hn
    subst hL
    exact IRow.nil _ _
  · refine ⟨⟨_, cap, rfl, hnc, hm, (fun e => by cases e), fun _ => ⟨g, 0, rfl, hg, (Array.getElem?_eq_some_iff.1 hb).1, fun i hi => ?_⟩⟩⟩
    have e : w.cell? ⟨g, 0 + i, none⟩ = cur[i]? := by simp [World.cell?, hb]
    rw [e]
    have h3 : (icells L)[i]? = some (.int .i64 L[i]) := by simp [icells, hi]
    rw [← ht, List.getElem?_take] at h3
    split at h3
    · simpa using h3
    · cases h3
theorem info_int1 : (Tryz.prog.info? 3).map (fun i => (i.zero, i.size, i.bytes)) = some (some (.int .i64 0), 1, 8) := by kernel_rfl
theorem wpList_append_irow {w : World} {ops : Array Oper} {rest : List Oper} {o : Oper} {a : Act} {Q : Exit → Act → World → Prop} (hgd : o.guard = none) (s x : Operand) (t : TypeId)
    (ho : o.op = .call { callee := .builtin .append, args := #[s, x], argTypes := #[t, t] })
    (base : Nat) (e : TypeId) (i : TypeInfo) (ht : Tryz.prog.underlying t = some (.slice e)) (hi : Tryz.prog.info? e = some i) (hz : i.zero = some (.int .i64 0)) (hsize : i.size = 1) (hby : i.bytes = 8)
    (v : Value) (n : Nat) (xs : List Value) (hs : a.eval s = v) (hown : w.ownsRow base e 1 v n xs)
    {S : Nat → Prop} (src : Value) (L : List Int) (hx : a.eval x = src) (hrow : IRow S w src L) (hn : n + L.length ≤ 1000000) (hbase : base ≤ w.heap.size)
    (h : ∀ v' w', w'.ownsRow base e 1 v' (n + L.length) (xs ++ icells L) → w.grownBy w' v.ownBlock → wpList Tryz.prog ops Q rest (a.put o.dst v') w') : wpList Tryz.prog ops Q (o :: rest) a w := by
  obtain ⟨⟨ad, c, rfl, q1, q2, q3, q4⟩⟩ := hrow
  cases ad with
  | none =>
    have hc := q3 rfl
    subst hc
    have hL : L = [] := List.eq_nil_of_length_eq_zero (by omega)
    subst hL
    refine wpList_append_own_none hgd s x t ho base e i 1 ht hi v n xs hs hown hx ?_
    exact h v w (by simpa [icells] using hown) ⟨rfl, rfl, rfl, Nat.le_refl _, fun _ _ _ => rfl⟩
  | some ad =>
    refine wpList_append_own w hgd s x t ho base e i _ 1 8 ht hi hz hsize hby rfl (by decide) v n xs hs hown ad L.length c (icells L) hx (by simp [icells]) (fun j u hu => ?_) (fun u hu => ?_) (by unfold maxLen; omega) (by omega) hbase (fun v' w' h1 h2 _ => h v' w' h1 h2)
    · have hj : j < L.length := by have := (List.getElem?_eq_some_iff.1 hu).1; simpa [icells] using this
      obtain ⟨b, o, e, _, _, hc⟩ := q4 (by omega)
      cases e
      have hu' : u = .int .i64 L[j] := by simp [icells, hj] at hu; exact hu.symm
      rw [Addr.add_lit, hu']
      exact hc j hj
    · obtain ⟨x, _, rfl⟩ := List.mem_map.1 hu
      rfl
theorem kept_low {S : Nat → Prop} {w w1 w' : World} {v : Value} {L : List Fi} {B : Nat} (h : FRow S w1 v L) (hS : ∀ b, S b → b < w1.heap.size → B ≤ b) (hk : ∀ k, k < w1.heap.size → B ≤ k → w'.heap[k]? = w1.heap[k]?) (hs : w1.heap.size ≤ w'.heap.size) : FRow S w' v L :=
  h.keep (fun b hb hlt => hk b hlt (hS b hb hlt)) hs (fun _ h _ => h)
theorem CpM.grow {w wr w' : World} {sv ev : Array Value} {v : Value} (h : CpM w wr sv ev) (hg : wr.grownBy w' v.ownBlock) (hr : ∀ k, v.ownBlock = some k → w.heap.size + 4 ≤ k) : CpM w w' sv ev := by
  have hk : ∀ k, k < wr.heap.size → k < w.heap.size + 4 → w'.heap[k]? = wr.heap[k]? := fun k hk h4 => hg.block k hk (fun e => by have := hr k e.symm; omega)
  exact ⟨(hk _ (heap_lt h.sb) (by omega)).trans h.sb, (hk _ (heap_lt h.eb) (by omega)).trans h.eb, (hk _ (heap_lt h.rb) (by omega)).trans h.rb, (hk _ (heap_lt h.qb) (by omega)).trans h.qb, h.bel.grown hg h.bel.size (fun k e => by have := hr k e; omega)⟩
theorem frow_step {S : Nat → Prop} {wa wb : World} {v : Value} {L : List Fi} {ty : TypeId} {u : Value} {k o : Nat} {x : Value} (h : FRow S wa v L) (hS : ∀ b, S b → b < wa.heap.size → b ≠ k) (hg : (wa.alloc (.cells #[] ty)).grownBy wb u.ownBlock) (hu : ∀ j, u.ownBlock = some j → wa.heap.size = j) : FRow S (wb.setCell ⟨k, o, none⟩ x) v L := by
  have hz : wa.heap.size ≤ wb.heap.size := by have := hg.size; simp at this; omega
  refine h.keep (fun b hb hlt => ?_) (by simpa using hz) (fun _ h _ => h)
  rw [Below.heap_setCell _ _ _ _ (hS b hb hlt), hg.block b (by simp; omega) (fun e => by have := hu b e.symm; omega)]
  exact Below.heap_alloc wa _ b hlt
theorem frow_set {S : Nat → Prop} {wb : World} {v : Value} {L : List Fi} {k o : Nat} {x : Value} (h : FRow S wb v L) (hS : ∀ b, S b → b < wb.heap.size → b ≠ k) : FRow S (wb.setCell ⟨k, o, none⟩ x) v L :=
  h.keep (fun b hb hlt => Below.heap_setCell _ _ _ _ (hS b hb hlt)) (by simp) (fun _ h _ => h)
theorem irow_set {S : Nat → Prop} {wb : World} {v : Value} {L : List Int} {k o : Nat} {x : Value} (h : IRow S wb v L) (hS : ∀ b, S b → b < wb.heap.size → b ≠ k) : IRow S (wb.setCell ⟨k, o, none⟩ x) v L :=
  h.keep (fun b hb hlt => Below.heap_setCell _ _ _ _ (hS b hb hlt)) (by simp) (fun _ h _ => h)
/-- nothing below B has turned -/
def Low (B : Nat) (w w' : World) : Prop := (∀ k, k < B → w'.heap[k]? = w.heap[k]?)
theorem Low.set {B : Nat} {w w' : World} (h : Low B w w') {p : Addr} (hp : B ≤ p.block) (v : Value) : Low B w (w'.setCell p v) := fun k hk => (Below.heap_setCell w' p v k (by omega)).trans (h k hk)
theorem Low.drew {B : Nat} {w w' : World} (h : Low B w w') : Low B w w'.drew := h
theorem CpM.zcells {w wr : World} {sv ev : Array Value} (h : CpM w wr sv ev) : (wr.cell? ⟨w.heap.size + 1 + 1, 0, none⟩ = some (.int .i64 0) ∧ wr.cell? ⟨w.heap.size + 1 + 1, 1, none⟩ = some (.int .i64 0) ∧ wr.cell? ⟨w.heap.size + 1 + 1, 2, none⟩ = some (.slice none 0 0)) ∧
    (wr.cell? ⟨w.heap.size + 1 + 1 + 1, 0, none⟩ = some (.slice none 0 0) ∧ wr.cell? ⟨w.heap.size + 1 + 1 + 1, 1, none⟩ = some (.slice none 0 0) ∧ wr.cell? ⟨w.heap.size + 1 + 1 + 1, 2, none⟩ = some (.int .i64 0) ∧ wr.cell? ⟨w.heap.size + 1 + 1 + 1, 3, none⟩ = some (.int .i64 0)) ∧
    (∀ o, wr.frozen? ⟨w.heap.size + 1 + 1, o, none⟩ = false) ∧ (∀ o, wr.frozen? ⟨w.heap.size + 1 + 1 + 1, o, none⟩ = false) ∧ w.heap.size + 1 + 1 + 1 < wr.heap.size := by
  have e0 := h.rb
  have e1 := h.qb
  exact ⟨⟨by simp [World.cell?, e0], by simp [World.cell?, e0], by simp [World.cell?, e0]⟩, ⟨by simp [World.cell?, e1], by simp [World.cell?, e1], by simp [World.cell?, e1], by simp [World.cell?, e1]⟩, fun o => by simp [World.frozen?, e0], fun o => by simp [World.frozen?, e1], heap_lt e1⟩
structure FinM (w : World) (B : Nat) (w8 w' : World) : Prop where
  high : ∀ k, B ≤ k → w'.heap[k]? = w8.heap[k]?
  sz : w8.heap.size ≤ w'.heap.size
  bel : Below w.heap.size w w'
theorem FinM.set {w : World} {B : Nat} {w8 w' : World} (h : FinM w B w8 w') {p : Addr} (h1 : w.heap.size ≤ p.block) (h2 : p.block < B) (v : Value) : FinM w B w8 (w'.setCell p v) :=
  ⟨fun k hk => (Below.heap_setCell w' p v k (by omega)).trans (h.high k hk), by simpa using h.sz, h.bel.setCell h1 v⟩
theorem FinM.drew {w : World} {B : Nat} {w8 w' : World} (h : FinM w B w8 w') : FinM w B w8 w'.drew := ⟨h.high, h.sz, h.bel.drew⟩
theorem made_ne {w1 : World} {k : Nat} (e : (Value.slice (some ⟨w1.heap.size, 0, none⟩) 0 0).ownBlock = some k) : w1.heap.size = k := by simpa [Value.ownBlock] using e
set_option maxRecDepth 100000 in
set_option maxHeartbeats 4000000 in
theorem copied_any (S1 S2 S3 : Nat → Prop) (w : World) (s : St) (ed : Ed) (v vd va : Value) (h1 : FRow S1 w v s.fs) (h2 : IRow S2 w vd ed.drop) (h3 : FRow S3 w va ed.add)
    (b1 : s.fs.length ≤ 1000) (b2 : ed.drop.length ≤ 1000) (b3 : ed.add.length ≤ 1000) :
    Calls Tryz.prog 19 #[stv s.next s.log v, edv vd va ed.next ed.log] w fun e w' => ∃ a1 c1 a2 c2 a3 c3, e = .returned (.tuple #[.agg #[.int .i64 s.next, .int .i64 s.log, .slice a1 s.fs.length c1], .agg #[.slice a2 ed.drop.length c2, .slice a3 ed.add.length c3, .int .i64 ed.next, .int .i64 ed.log]]) ∧
      FRow (w.heap.size ≤ ·) w' (.slice a1 s.fs.length c1) s.fs ∧ IRow (w.heap.size ≤ ·) w' (.slice a2 ed.drop.length c2) ed.drop ∧ FRow (w.heap.size ≤ ·) w' (.slice a3 ed.add.length c3) ed.add ∧ Below w.heap.size w w' := by
  have HR1 := Lib.hid (fun (W : World) (hb : Below w.heap.size w W) => h1.below hb)
  have HR2 := Lib.hid (fun (W : World) (hb : Below w.heap.size w W) => h2.below hb)
  have HR3 := Lib.hid (fun (W : World) (hb : Below w.heap.size w W) => h3.below hb)
  have HK1 := Lib.hid h1.ok
  have HK3 := Lib.hid h3.ok
  obtain ⟨⟨a1, c1, rfl, -, -, -, -⟩, -⟩ := h1
  obtain ⟨⟨a2, c2, rfl, -, -, -, -⟩⟩ := h2
  obtain ⟨⟨a3, c3, rfl, -, -, -, -⟩, -⟩ := h3
  obtain ⟨next, log, L⟩ := s
  obtain ⟨drop, add, enext, elog⟩ := ed
  dsimp only at *
  unfold stv edv
  obtain ⟨W1, hW1⟩ : ∃ W1, W1 = (((w.alloc (.cells #[.int .i64 next, .int .i64 log, .slice a1 L.length c1] 24)).alloc (.cells #[.slice a2 drop.length c2, .slice a3 add.length c3, .int .i64 enext, .int .i64 elog] 33)).alloc (.cells #[.int .i64 0, .int .i64 0, .slice none 0 0] 24)).alloc (.cells #[.slice none 0 0, .slice none 0 0, .int .i64 0, .int .i64 0] 33) := ⟨_, rfl⟩
  have z1 : W1.heap.size = w.heap.size + 4 := by rw [hW1]; simp
  have hM1 : CpM w W1 #[.int .i64 next, .int .i64 log, .slice a1 L.length c1] #[.slice a2 drop.length c2, .slice a3 add.length c3, .int .i64 enext, .int .i64 elog] := by
    rw [hW1]
    refine ⟨?_, ?_, ?_, ?_, (bl3 _ _ _ _).alloc (by first | (simp; done) | (simp; omega)) _⟩
    · rw [Below.heap_alloc _ _ _ (by simp; omega), Below.heap_alloc _ _ _ (by simp; omega), Below.heap_alloc _ _ _ (by simp)]; exact heap_alloc_new w _
    · rw [Below.heap_alloc _ _ _ (by simp), Below.heap_alloc _ _ _ (by simp)]; have := heap_alloc_new (w.alloc (.cells #[.int .i64 next, .int .i64 log, .slice a1 L.length c1] 24)) (.cells #[.slice a2 drop.length c2, .slice a3 add.length c3, .int .i64 enext, .int .i64 elog] 33); rwa [World.size_alloc] at this
    · rw [Below.heap_alloc _ _ _ (by simp)]; have := heap_alloc_new ((w.alloc (.cells #[.int .i64 next, .int .i64 log, .slice a1 L.length c1] 24)).alloc (.cells #[.slice a2 drop.length c2, .slice a3 add.length c3, .int .i64 enext, .int .i64 elog] 33)) (.cells #[.int .i64 0, .int .i64 0, .slice none 0 0] 24); rwa [World.size_alloc, World.size_alloc] at this
    · have := heap_alloc_new (((w.alloc (.cells #[.int .i64 next, .int .i64 log, .slice a1 L.length c1] 24)).alloc (.cells #[.slice a2 drop.length c2, .slice a3 add.length c3, .int .i64 enext, .int .i64 elog] 33)).alloc (.cells #[.int .i64 0, .int .i64 0, .slice none 0 0] 24)) (.cells #[.slice none 0 0, .slice none 0 0, .int .i64 0, .int .i64 0] 33); rwa [World.size_alloc, World.size_alloc, World.size_alloc] at this
  have HW1 := Lib.hid hW1.symm
  have HM1 := Lib.hid hM1
  have HZ1 := Lib.hid z1
  clear hW1 hM1 z1
  obtain ⟨⟨k0, k1, k2⟩, ⟨e0, e1, e2, e3⟩, f0, f1, hlt⟩ := HM1.out.cells
  have hlt0 : w.heap.size < W1.heap.size := by omega
  obtain ⟨i0, hi0, hz0, hz1, hz2⟩ := info_parts info_file
  obtain ⟨i1, hi1, hy0, hy1, hy2⟩ := info_parts info_int1
  have HRa := Lib.hid (HR1.out _ (HM1.out.below (bl1 W1 (.cells #[] 29))).bel)
  go_enter Tryz.func19, Tryz.ntmps19
  go_upto_region 1 with (fail)
  rw [HW1.out]
  go_upto_region 2 with (first
    | (at_builtin; refine wpList_append_frow rfl _ _ 22 rfl W1.heap.size 29 i0 Tryz.underlying22 hi0 hz0 hz1 hz2 _ 0 [] rfl (World.ownsRow_made W1 #[] 0 (Nat.le_refl _) (by unfold maxLen; omega) rfl) (S := S1) _ L rfl HRa.out (by omega) (by simp) ?_; intro v3 w3 hown3' hgrow3; have hown3 : w3.ownsRow W1.heap.size 29 5 v3 L.length (rcells L) := (by simpa using hown3'); obtain ⟨va1, vc1, rfl⟩ := own_slice hown3; have hM3 := (HM1.out.below (bl1 W1 (.cells #[] 29))).grow hgrow3 (fun k e => by have := made_ne e; have := HZ1.out; omega); obtain ⟨-, -, j0, -, jl⟩ := hM3.cells; have jc := hM3.cells.1.2.2; have HM3 := Lib.hid hM3; clear hM3)
    | fail)
  obtain ⟨w4, hw4⟩ : ∃ w4, w3.setCell ⟨w.heap.size, 2, none⟩ (.slice va1 L.length vc1) = w4 := ⟨_, rfl⟩
  have HM4 := Lib.hid (show CpM w w4 #[.int .i64 next, .int .i64 log, .slice va1 L.length vc1] #[.slice a2 drop.length c2, .slice a3 add.length c3, .int .i64 enext, .int .i64 elog] by rw [← hw4]; exact HM3.out.setS 2 _)
  have HV1 := Lib.hid (show FRow (W1.heap.size ≤ ·) w4 (.slice va1 L.length vc1) L by rw [← hw4]; exact frow_set (FRow.own hown3 HK1.out) (fun b hb _ => by have := HZ1.out; omega))
  have hz4 : W1.heap.size ≤ w4.heap.size := by have := hgrow3.size; rw [← hw4]; simp at this ⊢; omega
  have HW4 := Lib.hid hw4
  rw [HW4.out]
  clear hw4 hown3 hown3' hgrow3 j0 jl jc k0 k1 k2 e0 e1 e2 e3 f0 f1 hlt hlt0
  obtain ⟨⟨k0, k1, k2⟩, ⟨e0, e1, e2, e3⟩, f0, f1, hlt⟩ := HM4.out.cells
  have HRb := Lib.hid (HR3.out _ (HM4.out.below (bl1 w4 (.cells #[] 29))).bel)
  go_upto_region 3 with (first
    | (at_builtin; refine wpList_append_frow rfl _ _ 22 rfl w4.heap.size 29 i0 Tryz.underlying22 hi0 hz0 hz1 hz2 _ 0 [] rfl (World.ownsRow_made w4 #[] 0 (Nat.le_refl _) (by unfold maxLen; omega) rfl) (S := S3) _ add rfl HRb.out (by omega) (by simp) ?_; intro v5 w5 hown5' hgrow5; have hown5 : w5.ownsRow w4.heap.size 29 5 v5 add.length (rcells add) := (by simpa using hown5'); obtain ⟨va5, vc5, rfl⟩ := own_slice hown5; have hM5 := (HM4.out.below (bl1 w4 (.cells #[] 29))).grow hgrow5 (fun k e => by have := made_ne e; have := HZ1.out; omega); obtain ⟨-, -, -, j0, jl⟩ := hM5.cells; have jc := hM5.cells.2.1.2.1; have HM5 := Lib.hid hM5; clear hM5)
    | fail)
  obtain ⟨w6, hw6⟩ : ∃ w6, w5.setCell ⟨w.heap.size + 1, 1, none⟩ (.slice va5 add.length vc5) = w6 := ⟨_, rfl⟩
  have HM6 := Lib.hid (show CpM w w6 #[.int .i64 next, .int .i64 log, .slice va1 L.length vc1] #[.slice a2 drop.length c2, .slice va5 add.length vc5, .int .i64 enext, .int .i64 elog] by rw [← hw6]; exact HM5.out.setE 1 _)
  have HV1b := Lib.hid (show FRow (W1.heap.size ≤ ·) w6 (.slice va1 L.length vc1) L by rw [← hw6]; exact frow_step HV1.out (fun b hb _ => by have := HZ1.out; omega) hgrow5 (fun j e => made_ne e))
  have HV3 := Lib.hid (show FRow (W1.heap.size ≤ ·) w6 (.slice va5 add.length vc5) add by rw [← hw6]; exact (frow_set (FRow.own hown5 HK3.out) (fun b hb _ => by have := HZ1.out; omega)).wider (fun b hb _ => by omega))
  have hz6 : W1.heap.size ≤ w6.heap.size := by have := hgrow5.size; rw [← hw6]; simp at this ⊢; omega
  have HW6 := Lib.hid hw6
  rw [HW6.out]
  clear hw6 hown5 hown5' hgrow5 j0 jl jc k0 k1 k2 e0 e1 e2 e3 f0 f1 hlt HV1
  obtain ⟨⟨k0, k1, k2⟩, ⟨e0, e1, e2, e3⟩, f0, f1, hlt⟩ := HM6.out.cells
  have HRc := Lib.hid (HR2.out _ (HM6.out.below (bl1 w6 (.cells #[] 3))).bel)
  go_upto_region 4 with (first
    | (at_builtin; refine wpList_append_irow rfl _ _ 31 rfl w6.heap.size 3 i1 Tryz.underlying31 hi1 hy0 hy1 hy2 _ 0 [] rfl (World.ownsRow_made w6 #[] 0 (Nat.le_refl _) (by unfold maxLen; omega) rfl) (S := S2) _ drop rfl HRc.out (by omega) (by simp) ?_; intro v7 w7 hown7' hgrow7; have hown7 : w7.ownsRow w6.heap.size 3 1 v7 drop.length (icells drop) := (by simpa using hown7'); obtain ⟨va7, vc7, rfl⟩ := own_slice hown7; have hM7 := (HM6.out.below (bl1 w6 (.cells #[] 3))).grow hgrow7 (fun k e => by have := made_ne e; have := HZ1.out; omega); obtain ⟨-, -, -, j0, jl⟩ := hM7.cells; have jc := hM7.cells.2.1.1; have HM7 := Lib.hid hM7; clear hM7)
    | fail)
  obtain ⟨w8, hw8⟩ : ∃ w8, w7.setCell ⟨w.heap.size + 1, 0, none⟩ (.slice va7 drop.length vc7) = w8 := ⟨_, rfl⟩
  have HM8 := Lib.hid (show CpM w w8 #[.int .i64 next, .int .i64 log, .slice va1 L.length vc1] #[.slice va7 drop.length vc7, .slice va5 add.length vc5, .int .i64 enext, .int .i64 elog] by rw [← hw8]; exact HM7.out.setE 0 _)
  have HV1c := Lib.hid (show FRow (W1.heap.size ≤ ·) w8 (.slice va1 L.length vc1) L by rw [← hw8]; exact frow_step HV1b.out (fun b hb _ => by have := HZ1.out; omega) hgrow7 (fun j e => made_ne e))
  have HV3c := Lib.hid (show FRow (W1.heap.size ≤ ·) w8 (.slice va5 add.length vc5) add by rw [← hw8]; exact frow_step HV3.out (fun b hb _ => by have := HZ1.out; omega) hgrow7 (fun j e => made_ne e))
  have HV2c := Lib.hid (show IRow (W1.heap.size ≤ ·) w8 (.slice va7 drop.length vc7) drop by rw [← hw8]; exact irow_set ((IRow.own hown7).keep (fun _ _ _ => rfl) (Nat.le_refl _) (fun b hb _ => by omega)) (fun b hb _ => by have := HZ1.out; omega))
  have HW8 := Lib.hid hw8
  rw [HW8.out]
  clear hw8 hown7 hown7' hgrow7 j0 jl jc k0 k1 k2 e0 e1 e2 e3 f0 f1 hlt HV1b HV3
  obtain ⟨⟨k0, k1, k2⟩, ⟨e0, e1, e2, e3⟩, f0, f1, hlt⟩ := HM8.out.cells
  obtain ⟨⟨r0, r1, r2⟩, ⟨q0, q1, q2, q3⟩, rf, qf, hlt2⟩ := HM8.out.zcells
  have HS4 := Lib.hid (show ∀ w', Low (w.heap.size + 2) w8 w' → ((w'.cell? ⟨w.heap.size, 0, none⟩ = some (.int .i64 next) ∧ w'.cell? ⟨w.heap.size, 1, none⟩ = some (.int .i64 log) ∧ w'.cell? ⟨w.heap.size, 2, none⟩ = some (.slice va1 L.length vc1)) ∧ (w'.cell? ⟨w.heap.size + 1, 0, none⟩ = some (.slice va7 drop.length vc7) ∧ w'.cell? ⟨w.heap.size + 1, 1, none⟩ = some (.slice va5 add.length vc5) ∧ w'.cell? ⟨w.heap.size + 1, 2, none⟩ = some (.int .i64 enext) ∧ w'.cell? ⟨w.heap.size + 1, 3, none⟩ = some (.int .i64 elog))) from fun w' hl => by
    have x0 := hl w.heap.size (by omega)
    have x1 := hl (w.heap.size + 1) (by omega)
    have y : ∀ o, w'.cell? ⟨w.heap.size, o, none⟩ = w8.cell? ⟨w.heap.size, o, none⟩ := fun o => World.cell?_of_block (w := w8) x0
    have z : ∀ o, w'.cell? ⟨w.heap.size + 1, o, none⟩ = w8.cell? ⟨w.heap.size + 1, o, none⟩ := fun o => World.cell?_of_block (w := w8) x1
    exact ⟨⟨(y _).trans k0, (y _).trans k1, (y _).trans k2⟩, (z _).trans e0, (z _).trans e1, (z _).trans e2, (z _).trans e3⟩)
  have h2 : w.heap.size + 2 ≤ w.heap.size + 1 + 1 := by omega
  have h3 : w.heap.size + 2 ≤ w.heap.size + 1 + 1 + 1 := by omega
  have HL0 := Lib.hid (show Low (w.heap.size + 2) w8 w8 from fun _ _ => rfl)
  go_region_held3 (fun w' => (w'.cell? ⟨w.heap.size, 0, none⟩ = some (.int .i64 next) ∧ w'.cell? ⟨w.heap.size, 1, none⟩ = some (.int .i64 log) ∧ w'.cell? ⟨w.heap.size, 2, none⟩ = some (.slice va1 L.length vc1)) ∧ (w'.cell? ⟨w.heap.size + 1, 0, none⟩ = some (.slice va7 drop.length vc7) ∧ w'.cell? ⟨w.heap.size + 1, 1, none⟩ = some (.slice va5 add.length vc5) ∧ w'.cell? ⟨w.heap.size + 1, 2, none⟩ = some (.int .i64 enext) ∧ w'.cell? ⟨w.heap.size + 1, 3, none⟩ = some (.int .i64 elog)))
    (first | with_reducible exact HS4.out _ HL0.out.drew | with_reducible exact HS4.out _ (((HL0.out.set h2 _).set h2 _).set h2 _).drew | with_reducible exact HS4.out _ ((((HL0.out.set h3 _).set h3 _).set h3 _).set h3 _).drew | with_reducible exact HS4.out _ (((((((HL0.out.set h2 _).set h2 _).set h2 _).set h3 _).set h3 _).set h3 _).set h3 _).drew | with_reducible exact HS4.out _ (((((((HL0.out.set h3 _).set h3 _).set h3 _).set h3 _).set h2 _).set h2 _).set h2 _).drew | assumption)
    (fail)
  all_goals
    have y1 : w.heap.size ≤ w.heap.size + 1 + 1 := by omega
    have y2 : w.heap.size + 1 + 1 < W1.heap.size := by have := HZ1.out; omega
    have y3 : w.heap.size ≤ w.heap.size + 1 + 1 + 1 := by omega
    have y4 : w.heap.size + 1 + 1 + 1 < W1.heap.size := by have := HZ1.out; omega
    have HF0 := Lib.hid (show FinM w W1.heap.size w8 w8 from ⟨fun _ _ => rfl, Nat.le_refl _, HM8.out.bel⟩)
    have HEND := Lib.hid (show ∀ w', FinM w W1.heap.size w8 w' → ∃ a1 c1 a2 c2 a3 c3, Ending.returned (.tuple #[.agg #[.int .i64 next, .int .i64 log, .slice va1 L.length vc1], .agg #[.slice va7 drop.length vc7, .slice va5 add.length vc5, .int .i64 enext, .int .i64 elog]]) = .returned (.tuple #[.agg #[.int .i64 next, .int .i64 log, .slice a1 L.length c1], .agg #[.slice a2 drop.length c2, .slice a3 add.length c3, .int .i64 enext, .int .i64 elog]]) ∧
        FRow (w.heap.size ≤ ·) w' (.slice a1 L.length c1) L ∧ IRow (w.heap.size ≤ ·) w' (.slice a2 drop.length c2) drop ∧ FRow (w.heap.size ≤ ·) w' (.slice a3 add.length c3) add ∧ Below w.heap.size w w' from fun w' h =>
      ⟨_, _, _, _, _, _, rfl, HV1c.out.keep (fun b hb _ => h.high b hb) h.sz (fun b hb _ => by omega), HV2c.out.keep (fun b hb _ => h.high b hb) h.sz (fun b hb _ => by omega), HV3c.out.keep (fun b hb _ => h.high b hb) h.sz (fun b hb _ => by omega), h.bel⟩)
    go_wp2_with fail
    refine bodyPost_ret (v := .tuple #[.agg #[.int .i64 next, .int .i64 log, .slice va1 L.length vc1], .agg #[.slice va7 drop.length vc7, .slice va5 add.length vc5, .int .i64 enext, .int .i64 elog]]) (by simp [results, Tryz.results19, go_sem, r0, r1, r2, q0, q1, q2, q3]) rfl (HEND.out _ ?_)
    first
      | with_reducible exact (((((((HF0.out.set y1 y2 _).set y1 y2 _).set y1 y2 _).set y3 y4 _).set y3 y4 _).set y3 y4 _).set y3 y4 _).drew
      | with_reducible exact (((((((HF0.out.set y3 y4 _).set y3 y4 _).set y3 y4 _).set y3 y4 _).set y1 y2 _).set y1 y2 _).set y1 y2 _).drew
end Go.Proofs.YtiiafpbonkcokaaGreat
