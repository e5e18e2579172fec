/-
  'Apply', whole: the walk.
-/
import Derived.Test.YtiiafpbonkcokaaGreatMp
namespace Go.Proofs.YtiiafpbonkcokaaGreat
open Go.RowKit Go.Maps

/-- what stands in memory while Apply goes on -/
structure ApM (w wr : World) (fb : Nat) (sv ev : Array Value) (v : Value) (cur : List Fi) : Prop where
  sb : wr.heap[w.heap.size]? = some (.cells sv 24 (0, 0))
  eb : wr.heap[w.heap.size + 1]? = some (.cells ev 33 (0, 0))
  rb : wr.heap[w.heap.size + 2]? = some (.cells #[.int .i64 0, .int .i64 0, .slice none 0 0] 24 (0, 0))
  vb : wr.heap[fb]? = some (.cells #[v] 22 (0, 0))
  own : wr.ownsRow w.heap.size 29 5 v cur.length (rcells cur)
  ok : ∀ f ∈ cur, FiOk f
  bel : Below w.heap.size w wr
  lfb : w.heap.size + 2 < fb
theorem heap_lt {w : World} {k : Nat} {o : Obj} (h : w.heap[k]? = some o) : k < w.heap.size := (Array.getElem?_eq_some_iff.1 h).1
theorem ApM.below {w wr w' : World} {fb : Nat} {sv ev : Array Value} {v : Value} {cur : List Fi} (h : ApM w wr fb sv ev v cur) (hb : Below wr.heap.size wr w') : ApM w w' fb sv ev v cur :=
  ⟨(hb.block _ (heap_lt h.sb)).trans h.sb, (hb.block _ (heap_lt h.eb)).trans h.eb, (hb.block _ (heap_lt h.rb)).trans h.rb, (hb.block _ (heap_lt h.vb)).trans h.vb,
   h.own.kept (row := none) ⟨hb.os, hb.tape, hb.output, hb.size, fun k hk _ => hb.block k hk⟩ (by cases hv : v.ownBlock <;> simp), h.ok, h.bel.trans (hb.mono h.bel.size), h.lfb⟩
theorem own_type {w : World} {B : Nat} {T T' : TypeId} {v : Value} {n : Nat} {xs : List Value} {k : Nat} {cs : Array Value} (h : w.ownsRow B T 5 v n xs) (hk : w.heap[k]? = some (.cells cs T' (0, 0))) (hne : T' ≠ T) : v.ownBlock ≠ some k := by
  intro e
  rcases h.2 with ⟨rfl, _⟩ | ⟨g, cap, cur, rfl, _, hg, _⟩
  · cases e
  · injection e with e
    subst e
    rw [hg] at hk
    injection hk with hk
    injection hk with _ hk
    exact hne hk.symm
theorem ApM.turn {w wr w' : World} {fb : Nat} {sv ev : Array Value} {v v' : Value} {cur cur' : List Fi} (h : ApM w wr fb sv ev v cur) (hg : wr.grownBy w' v.ownBlock) (ho : w'.ownsRow w.heap.size 29 5 v' cur'.length (rcells cur')) (hok : ∀ f ∈ cur', FiOk f) : ApM w (w'.setCell ⟨fb, 0, none⟩ v') fb sv ev v' cur' := by
  have k0 := (hg.block _ (heap_lt h.sb) (fun e => own_type h.own h.sb (by decide) e.symm)).trans h.sb
  have k1 := (hg.block _ (heap_lt h.eb) (fun e => own_type h.own h.eb (by decide) e.symm)).trans h.eb
  have k2 := (hg.block _ (heap_lt h.rb) (fun e => own_type h.own h.rb (by decide) e.symm)).trans h.rb
  have k3 := (hg.block _ (heap_lt h.vb) (fun e => own_type h.own h.vb (by decide) e.symm)).trans h.vb
  have hlf := h.lfb
  have hs : ∀ k, k ≠ fb → (w'.setCell ⟨fb, 0, none⟩ v').heap[k]? = w'.heap[k]? := fun k hk => Below.heap_setCell w' ⟨fb, 0, none⟩ v' k hk
  refine ⟨(hs _ (by omega)).trans k0, (hs _ (by omega)).trans k1, (hs _ (by omega)).trans k2, one_setCell k3, ownsRow_setCell_other ho (own_type (T' := 22) ho k3 (by decide)) _, hok, ?_, h.lfb⟩
  exact (h.bel.grown hg h.bel.size (fun k hk => (h.own.lt k hk).1)).setCell (by show w.heap.size ≤ fb; omega) _
theorem ApM.same {w wr w' : World} {fb : Nat} {sv ev : Array Value} {v : Value} {cur cur' : List Fi} (h : ApM w wr fb sv ev v cur) (hg : wr.grownBy w' v.ownBlock) (ho : w'.ownsRow w.heap.size 29 5 v cur'.length (rcells cur')) (hok : ∀ f ∈ cur', FiOk f) : ApM w w' fb sv ev v cur' :=
  ⟨(hg.block _ (heap_lt h.sb) (fun e => own_type h.own h.sb (by decide) e.symm)).trans h.sb, (hg.block _ (heap_lt h.eb) (fun e => own_type h.own h.eb (by decide) e.symm)).trans h.eb, (hg.block _ (heap_lt h.rb) (fun e => own_type h.own h.rb (by decide) e.symm)).trans h.rb, (hg.block _ (heap_lt h.vb) (fun e => own_type h.own h.vb (by decide) e.symm)).trans h.vb, ho, hok, h.bel.grown hg h.bel.size (fun k hk => (h.own.lt k hk).1), h.lfb⟩
theorem ap_vb {w wr w' : World} {fb : Nat} {sv ev : Array Value} {v : Value} {cur : List Fi} (h : ApM w wr fb sv ev v cur) (hg : wr.grownBy w' v.ownBlock) : w'.cell? ⟨fb, 0, none⟩ = some v ∧ w'.frozen? ⟨fb, 0, none⟩ = false := by
  have k3 := (hg.block _ (heap_lt h.vb) (fun e => own_type h.own h.vb (by decide) e.symm)).trans h.vb
  exact ⟨cell_of_one k3, free_of_one k3⟩
theorem ApM.row {w wr : World} {fb : Nat} {sv ev : Array Value} {v : Value} {cur : List Fi} (h : ApM w wr fb sv ev v cur) : FRow (w.heap.size ≤ ·) wr v cur := FRow.own h.own h.ok

theorem dropL_ok : ∀ (r : List Int) (L M : List Fi), dropL L r = some M → (∀ f ∈ L, FiOk f) → (∀ f ∈ M, FiOk f) ∧ M.length ≤ L.length
  | [], L, M, h, hok => by cases h; exact ⟨hok, Nat.le_refl _⟩
  | n :: r, L, M, h, hok => by
    unfold dropL at h
    split at h
    · have := dropL_ok r _ M h (fun f hf => hok f (List.mem_of_mem_eraseP hf))
      exact ⟨this.1, Nat.le_trans this.2 (List.length_eraseP_le)⟩
    · cases h
theorem dropL_snoc : ∀ (r : List Int) (L : List Fi) (n : Int), dropL L (r ++ [n]) = (dropL L r).bind fun M => if hasN M n then some (M.eraseP fun x => x.n == n) else none
  | [], L, n => by simp [dropL]
  | m :: r, L, n => by
    rw [List.cons_append, dropL, dropL]
    split
    · exact dropL_snoc r _ n
    · rfl
theorem dropL_app_none : ∀ (r q : List Int) (L : List Fi), dropL L r = none → dropL L (r ++ q) = none
  | [], q, L, h => by cases h
  | m :: r, q, L, h => by
    rw [List.cons_append, dropL]
    rw [dropL] at h
    split
    · rename_i hh; rw [if_pos hh] at h; exact dropL_app_none r q _ h
    · rfl
theorem addL_snoc : ∀ (r : List Fi) (L : List Fi) (f : Fi), addL L (r ++ [f]) = (addL L r).bind fun M => if hasN M f.n then none else some (M ++ [f])
  | [], L, f => by simp [addL]
  | m :: r, L, f => by
    rw [List.cons_append, addL, addL]
    split
    · rfl
    · exact addL_snoc r _ f
theorem addL_app_none : ∀ (r q : List Fi) (L : List Fi), addL L r = none → addL L (r ++ q) = none
  | [], q, L, h => by cases h
  | m :: r, q, L, h => by
    rw [List.cons_append, addL]
    rw [addL] at h
    split
    · rfl
    · rename_i hh; rw [if_neg hh] at h; exact addL_app_none r q _ h
theorem addL_ok : ∀ (r L M : List Fi), addL L r = some M → (∀ f ∈ L, FiOk f) → (∀ f ∈ r, FiOk f) → (∀ f ∈ M, FiOk f) ∧ M.length = L.length + r.length
  | [], L, M, h, hok, _ => by cases h; exact ⟨hok, rfl⟩
  | g :: r, L, M, h, hok, hr => by
    unfold addL at h
    split at h
    · cases h
    · have := addL_ok r _ M h (fun f hf => by
        rcases List.mem_append.1 hf with hf | hf
        · exact hok f hf
        · rw [List.mem_singleton.1 hf]; exact hr g (List.mem_cons_self ..)) (fun f hf => hr f (List.mem_cons_of_mem _ hf))
      exact ⟨this.1, by rw [this.2, List.length_append, List.length_cons]; simp; omega⟩

theorem applyS_bad {s : St} {e : Ed} (h : checkB s = false) : applyS s e = (1, s0) := by simp [applyS, h]
theorem applyS_none {s : St} {e : Ed} (h : checkB s = true) (h2 : dropL s.fs e.drop = none) : applyS s e = (4, s0) := by simp [applyS, h, h2]
theorem applyS_there {s : St} {e : Ed} {L : List Fi} (h : checkB s = true) (h2 : dropL s.fs e.drop = some L) (h3 : addL L e.add = none) : applyS s e = (5, s0) := by simp [applyS, h, h2, h3]
theorem applyS_wrong {s : St} {e : Ed} {L M : List Fi} (h : checkB s = true) (h2 : dropL s.fs e.drop = some L) (h3 : addL L e.add = some M) (h4 : checkB ⟨max s.next e.next, max s.log e.log, M.mergeSort leN⟩ = false) : applyS s e = (1, s0) := by simp [applyS, h, h2, h3, h4]
theorem applyS_ok {s : St} {e : Ed} {L M : List Fi} (h : checkB s = true) (h2 : dropL s.fs e.drop = some L) (h3 : addL L e.add = some M) (h4 : checkB ⟨max s.next e.next, max s.log e.log, M.mergeSort leN⟩ = true) : applyS s e = (0, ⟨max s.next e.next, max s.log e.log, M.mergeSort leN⟩) := by simp [applyS, h, h2, h3, h4]
def edv (vd va : Value) (next log : Int) : Value := .agg #[vd, va, .int .i64 next, .int .i64 log]
/-- what Apply answers -/
def ApR (w : World) (r : Int × St) (e : Ending) (w' : World) : Prop := ∃ v, e = .returned (.tuple #[.agg #[.int .i64 r.2.next, .int .i64 r.2.log, v], .int .i64 r.1]) ∧ FRow (w.heap.size ≤ ·) w' v r.2.fs ∧ Below w.heap.size w w'

theorem own_base {w : World} {B B' : Nat} {T : TypeId} {k : Nat} {v : Value} {n : Nat} {xs : List Value} (h : w.ownsRow B T k v n xs) (hB : B' ≤ B) : w.ownsRow B' T k v n xs := by
  obtain ⟨h1, h2⟩ := h
  rcases h2 with h2 | ⟨g, cap, cur, hv, hg, r⟩
  · exact ⟨h1, .inl h2⟩
  · exact ⟨h1, .inr ⟨g, cap, cur, hv, by omega, r⟩⟩
theorem own_slice {w : World} {B : Nat} {T : TypeId} {k : Nat} {v : Value} {n : Nat} {xs : List Value} (h : w.ownsRow B T k v n xs) : ∃ a c, v = .slice a n c := by
  rcases h.2 with ⟨rfl, rfl⟩ | ⟨g, cap, cur, rfl, r⟩
  · exact ⟨_, _, rfl⟩
  · exact ⟨_, _, rfl⟩
theorem rb_facts {w w2 : World} (e : w2.heap[w.heap.size + 2]? = some (.cells #[.int .i64 0, .int .i64 0, .slice none 0 0] 24 (0, 0))) :
    w2.cell? ⟨w.heap.size + 1 + 1, 0, none⟩ = some (.int .i64 0) ∧ w2.cell? ⟨w.heap.size + 1 + 1, 1, none⟩ = some (.int .i64 0) ∧ w2.cell? ⟨w.heap.size + 1 + 1, 2, none⟩ = some (.slice none 0 0) ∧ (∀ o, w2.frozen? ⟨w.heap.size + 1 + 1, o, none⟩ = false) ∧ w.heap.size + 1 + 1 < w2.heap.size := by
  have e' : w2.heap[w.heap.size + 1 + 1]? = some (.cells #[.int .i64 0, .int .i64 0, .slice none 0 0] 24 (0, 0)) := e
  exact ⟨by simp [World.cell?, e'], by simp [World.cell?, e'], by simp [World.cell?, e'], fun o => by simp [World.frozen?, e'], heap_lt e'⟩
/-- three stores into the result's block -/
theorem set3_below {w w2 : World} (hb : Below w.heap.size w w2) (a b c : Value) : Below w.heap.size w (((w2.setCell ⟨w.heap.size + 1 + 1, 0, none⟩ a).setCell ⟨w.heap.size + 1 + 1, 1, none⟩ b).setCell ⟨w.heap.size + 1 + 1, 2, none⟩ c) :=
  ((hb.setCell (by show w.heap.size ≤ w.heap.size + 1 + 1; omega) _).setCell (by show w.heap.size ≤ w.heap.size + 1 + 1; omega) _).setCell (by show w.heap.size ≤ w.heap.size + 1 + 1; omega) _
theorem apR_bad {w w2 : World} (hb : Below w.heap.size w w2) (E : Int) : ApR w (E, s0) (.returned (.tuple #[.agg #[.int .i64 0, .int .i64 0, .slice none 0 0], .int .i64 E])) (((w2.setCell ⟨w.heap.size + 1 + 1, 0, none⟩ (.int .i64 0)).setCell ⟨w.heap.size + 1 + 1, 1, none⟩ (.int .i64 0)).setCell ⟨w.heap.size + 1 + 1, 2, none⟩ (.slice none 0 0)) :=
  ⟨_, rfl, FRow.nil _ _, set3_below hb _ _ _⟩
theorem set3_row {w w2 : World} {fb : Nat} {sv ev : Array Value} {v : Value} {cur : List Fi} (h : ApM w w2 fb sv ev v cur) {a b c : Value} : FRow (w.heap.size ≤ ·) (((w2.setCell ⟨w.heap.size + 1 + 1, 0, none⟩ a).setCell ⟨w.heap.size + 1 + 1, 1, none⟩ b).setCell ⟨w.heap.size + 1 + 1, 2, none⟩ c) v cur := by
  have hn := own_type (T' := 24) h.own h.rb (by decide)
  exact FRow.own (ownsRow_setCell_other (ownsRow_setCell_other (ownsRow_setCell_other h.own hn _) hn _) hn _) h.ok
set_option maxRecDepth 100000 in
set_option maxHeartbeats 4000000 in
theorem apply_any (S1 S2 S3 : Nat → Prop) (w : World) (s : St) (ed : Ed) (v vd va : Value) (h1 : FRow S1 w v s.fs) (h2 : IRow S2 w vd ed.drop) (h3 : FRow S3 w va ed.add)
    (b1 : s.fs.length ≤ 1000 ) (b3 : ed.add.length ≤ 1000) :
    Calls Tryz.prog 7 #[stv s.next s.log v, edv vd va ed.next ed.log] w (ApR w (applyS s ed)) := by
  obtain ⟨⟨a1, c1, rfl, p1, p2, p3, p4⟩, pk⟩ := h1
  obtain ⟨⟨a2, c2, rfl, q1, q2, q3, q4⟩⟩ := h2
  obtain ⟨⟨a3, c3, rfl, r1, r2, r3, r4⟩, rk⟩ := h3
  have H1 := Lib.hid (show FRow S1 w (.slice a1 s.fs.length c1) s.fs from ⟨⟨a1, c1, rfl, p1, p2, p3, p4⟩, pk⟩)
  have H2 := Lib.hid q4
  have H3 := Lib.hid (show FRow S3 w (.slice a3 ed.add.length c3) ed.add from ⟨⟨a3, c3, rfl, r1, r2, r3, r4⟩, rk⟩)
  have H34 := Lib.hid r4
  clear p3 p4 pk q3 q4 r3 r4 rk
  obtain ⟨next, log, L⟩ := s
  obtain ⟨drop, add, enext, elog⟩ := ed
  dsimp only at *
  generalize hap : applyS ⟨next, log, L⟩ ⟨drop, add, enext, elog⟩ = ap
  have HA := Lib.hid hap
  clear hap
  unfold stv edv
  obtain ⟨W1, hW1⟩ : ∃ W1, W1 = ((w.alloc (.cells #[.int .i64 next, .int .i64 log, .slice a1 L.length c1] 24)).alloc (.cells #[.slice a2 drop.length c2, .slice a3 add.length c3, .int .i64 enext, .int .i64 elog] 33)).alloc (.cells #[.int .i64 0, .int .i64 0, .slice none 0 0] 24) := ⟨_, rfl⟩
  have HW1 := Lib.hid hW1.symm
  have HB1 := Lib.hid (show Below w.heap.size w W1 by rw [hW1]; exact bl3 _ _ _ _)
  have HCK := Lib.hid (fun (W : World) (hb : Below w.heap.size w W) => check_any S1 W ⟨next, log, L⟩ _ (H1.out.below hb))
  have k1 : W1.cell? ⟨w.heap.size, 0, none⟩ = some (.int .i64 next) := by rw [hW1]; simp [go_sem]
  have k2 : W1.cell? ⟨w.heap.size, 1, none⟩ = some (.int .i64 log) := by rw [hW1]; simp [go_sem]
  have k3 : W1.cell? ⟨w.heap.size, 2, none⟩ = some (.slice a1 L.length c1) := by rw [hW1]; simp [go_sem]
  have z1 : W1.heap.size = w.heap.size + 3 := by rw [hW1]; simp
  have HZ1 := Lib.hid z1
  have HBK := Lib.hid (show W1.heap[w.heap.size]? = some (.cells #[.int .i64 next, .int .i64 log, .slice a1 L.length c1] 24 (0, 0)) ∧ W1.heap[w.heap.size + 1]? = some (.cells #[.slice a2 drop.length c2, .slice a3 add.length c3, .int .i64 enext, .int .i64 elog] 33 (0, 0)) ∧ W1.heap[w.heap.size + 2]? = some (.cells #[.int .i64 0, .int .i64 0, .slice none 0 0] 24 (0, 0)) by
    rw [hW1]
    refine ⟨?_, ?_, ?_⟩
    · rw [Below.heap_alloc _ _ _ (by simp; omega), Below.heap_alloc _ _ _ (by simp)]; exact heap_alloc_new w _
    · rw [Below.heap_alloc _ _ _ (by simp)]; have := heap_alloc_new (w.alloc (.cells #[.int .i64 next, .int .i64 log, .slice a1 L.length c1] 24)) (.cells #[.slice a2 drop.length c2, .slice a3 add.length c3, .int .i64 enext, .int .i64 elog] 33); rwa [World.size_alloc] at this
    · have := heap_alloc_new ((w.alloc (.cells #[.int .i64 next, .int .i64 log, .slice a1 L.length c1] 24)).alloc (.cells #[.slice a2 drop.length c2, .slice a3 add.length c3, .int .i64 enext, .int .i64 elog] 33)) (.cells #[.int .i64 0, .int .i64 0, .slice none 0 0] 24); rwa [World.size_alloc, World.size_alloc] at this)
  clear hW1 z1
  cases hck : checkB ⟨next, log, L⟩ with
  | false =>
    have HE := Lib.hid (show checkE ⟨next, log, L⟩ = 1 by unfold checkE; rw [hck]; rfl)
    obtain rfl : (1, s0) = ap := by rw [← HA.out, applyS_bad hck]
    clear hck HA
    go_enter Tryz.func7, Tryz.ntmps7
    go_wp2_with fail
    rw [HW1.out]
    refine (HCK.out _ HB1.out).mono ?_
    rintro e w2 ⟨rfl, hb⟩
    rw [HE.out]
    have hr2 := rb_facts ((hb.block (w.heap.size + 2) (by rw [HZ1.out]; omega)).trans HBK.out.2.2)
    obtain ⟨g1, g2, g3, g4, g5⟩ := hr2
    have HB2 := Lib.hid (HB1.out.trans (hb.mono HB1.out.size))
    clear hb
    go_wp2_with fail
    exact bodyPost_ret (v := .tuple #[.agg #[.int .i64 0, .int .i64 0, .slice none 0 0], .int .i64 1]) (by simp [results, Tryz.results7, go_sem, g1, g2, g3]) rfl (apR_bad HB2.out 1)
  | true =>
    have HE := Lib.hid (show checkE ⟨next, log, L⟩ = 0 by unfold checkE; rw [hck]; rfl)
    have HCT := Lib.hid hck
    clear hck
    go_enter Tryz.func7, Tryz.ntmps7
    go_wp2_with fail
    rw [HW1.out]
    refine (HCK.out _ HB1.out).mono ?_
    rintro e w2 ⟨rfl, hb⟩
    rw [HE.out]
    have HBK2 := Lib.hid (show _ ∧ _ ∧ _ from ⟨(hb.block _ (by rw [HZ1.out]; omega)).trans HBK.out.1, (hb.block _ (by rw [HZ1.out]; omega)).trans HBK.out.2.1, (hb.block _ (by rw [HZ1.out]; omega)).trans HBK.out.2.2⟩)
    have m3 : w2.cell? ⟨w.heap.size, 2, none⟩ = some (.slice a1 L.length c1) := (hb.cell (p := ⟨w.heap.size, 2, none⟩) (by show w.heap.size < _; rw [HZ1.out]; omega)).trans k3
    have HB2 := Lib.hid (HB1.out.trans (hb.mono HB1.out.size))
    have hz2 : w.heap.size + 3 ≤ w2.heap.size := by have := hb.size; rw [HZ1.out] at this; omega
    have HZ2 := Lib.hid hz2
    clear hb hz2
    go_wp2_with fail
    refine (clone_any S1 w2 _ L (H1.out.below HB2.out) (by omega)).mono ?_
    rintro e w3 ⟨u, rfl, hown, hb3⟩
    obtain ⟨ua, uc, rfl⟩ := own_slice hown
    have HM := Lib.hid (show ApM w (w3.alloc (.cells #[.slice ua L.length uc] 22)) w3.heap.size #[.int .i64 next, .int .i64 log, .slice a1 L.length c1] #[.slice a2 drop.length c2, .slice a3 add.length c3, .int .i64 enext, .int .i64 elog] (.slice ua L.length uc) L from by
      have hz := HZ2.out
      have hz3 := hb3.size
      have hbl := fun k hk => (Below.heap_alloc w3 (.cells #[.slice ua L.length uc] 22) k (Nat.lt_of_lt_of_le hk hz3)).trans (hb3.block k hk)
      exact ⟨(hbl _ (by omega)).trans HBK2.out.1, (hbl _ (by omega)).trans HBK2.out.2.1, (hbl _ (by omega)).trans HBK2.out.2.2, heap_alloc_new w3 _, (own_base hown HB2.out.size).alloc _, H1.out.ok, (HB2.out.trans (hb3.mono HB2.out.size)).alloc (by omega) _, by omega⟩)
    have j0 : w3.cell? ⟨w.heap.size + 1, 0, none⟩ = some (.slice a2 drop.length c2) := by
      have := (hb3.block (w.heap.size + 1) (by have := HZ2.out; omega)).trans HBK2.out.2.1; simp [World.cell?, this]
    have jz : w.heap.size + 1 < w3.heap.size := by have := HZ2.out; have := hb3.size; omega
    clear hown hb3
    go_wp2_with fail
    go_loopw [9, 10, 25] (fun _ _ i wr => ∃ k : Nat, k ≤ drop.length ∧ i = .int .i64 k ∧ Hid (∃ cur v, dropL L (drop.take k) = some cur ∧ ApM w wr w3.heap.size #[.int .i64 next, .int .i64 log, .slice a1 L.length c1] #[.slice a2 drop.length c2, .slice a3 add.length c3, .int .i64 enext, .int .i64 elog] v cur)) (fun _ _ i _ => drop.length - (intOf i).toNat)
    case atStart => exact ⟨0, by omega, rfl, L, _, rfl, HM.out⟩
    case round =>
      obtain ⟨k, hk, rfl, HC⟩ := hrel
      by_cases hlt : k < drop.length
      · obtain ⟨cur, cv, hd, hM⟩ := HC.out
        clear HC
        obtain ⟨va, vc, rfl⟩ := own_slice hM.own
        obtain ⟨b, o, rfl, _, hb, hc⟩ := H2.out (by omega)
        have hcell : wr.cell? ⟨b, o + k, none⟩ = some (.int .i64 drop[k]) := (World.cell?_of_block (w := w) (hM.bel.block b hb)).trans (hc k hlt)
        have HS := Lib.hid (show dropL L (drop.take (k + 1)) = if hasN cur drop[k] then some (cur.eraseP fun x => x.n == drop[k]) else none by
          rw [List.take_succ_eq_append_getElem hlt, dropL_snoc, hd]; rfl)
        have HD := Lib.hid (show dropL L drop = (dropL L (drop.take (k + 1) ++ drop.drop (k + 1))) by rw [List.take_append_drop])
        have HLen := Lib.hid (show cur.length ≤ 1000 from Nat.le_trans (dropL_ok _ _ _ hd H1.out.ok).2 b1)
        have HOk := Lib.hid hM.ok
        have hfl := heap_lt hM.vb
        have hfc := cell_of_one hM.vb
        have hff := free_of_one hM.vb
        have HFI := Lib.hid (fun n => find_any _ wr n w3.heap.size _ cur hM.row hfc hfl)
        have HM := Lib.hid hM
        clear hc hd hM hb
        generalize drop[k] = n at *
        cases hh : hasN cur n with
        | false =>
          have HN := Lib.hid (findN_none hh)
          obtain rfl : (4, s0) = ap := by
            rw [← HA.out, applyS_none HCT.out]
            show dropL L drop = none
            rw [HD.out]
            exact dropL_app_none _ _ _ (by rw [HS.out, hh]; rfl)
          clear hh
          go_wp2_with fail
          refine (HFI.out _).mono ?_
          rintro e w5 ⟨rfl, hb5⟩
          rw [HN.out]
          have HM5 := Lib.hid (HM.out.below hb5)
          obtain ⟨g1, g2, g3, g4, g5⟩ := rb_facts HM5.out.rb
          clear hb5
          go_wp2_with fail
          exact bodyPost_ret (v := .tuple #[.agg #[.int .i64 0, .int .i64 0, .slice none 0 0], .int .i64 4]) (by simp [results, Tryz.results7, go_sem, g1, g2, g3]) rfl (apR_bad HM5.out.bel 4)
        | true =>
          obtain ⟨i, hi, hfn, her⟩ := findN_some hh
          have HN := Lib.hid hfn
          have HER := Lib.hid her
          rw [hh] at HS
          clear hh hfn her
          have hiL : i < 1000 := Nat.lt_of_lt_of_le hi HLen.out
          go_wp2_with fail
          refine (HFI.out _).mono ?_
          rintro e w5 ⟨rfl, hb5⟩
          rw [HN.out]
          have HM5 := Lib.hid (HM.out.below hb5)
          have hfc5 := cell_of_one HM5.out.vb
          have hfl5 := heap_lt HM5.out.vb
          clear hb5
          go_wp2_with fail
          refine (delete_any w.heap.size w5 _ cur i hi (by have := HLen.out; omega) HM5.out.own).mono ?_
          rintro e w6 ⟨u, rfl, hown, hgr⟩
          obtain ⟨xa, xc, rfl⟩ := own_slice hown
          have HM6 := Lib.hid (HM5.out.turn hgr hown (fun f hf => HOk.out f (List.mem_of_mem_eraseIdx hf)))
          have hx := (hgr.block _ (heap_lt HM5.out.vb) (fun e => own_type HM5.out.own HM5.out.vb (by decide) e.symm)).trans HM5.out.vb
          have hfc6 := cell_of_one hx
          have hff6 := free_of_one hx
          clear hown hgr hx
          go_wp2_with fail
          exact ⟨⟨k + 1, by omega, by go_num, cur.eraseIdx i, _, by rw [HS.out, HER.out]; rfl, HM6.out⟩, by simp [intOf]; omega⟩
      · obtain ⟨M0, cv, hd, hM⟩ := HC.out
        clear HC
        rw [List.take_of_length_le (by omega)] at hd
        obtain ⟨va, vc, rfl⟩ := own_slice hM.own
        have HD := Lib.hid hd
        have HL0 := Lib.hid (Nat.le_trans (dropL_ok _ _ _ hd H1.out.ok).2 b1 : M0.length ≤ 1000)
        have HM0 := Lib.hid hM
        have HM0ok := Lib.hid hM.ok
        have jj1 : wr.cell? ⟨w.heap.size + 1, 1, none⟩ = some (.slice a3 add.length c3) := by simp [World.cell?, hM.eb]
        clear hM hd
        obtain ⟨wo, rfl⟩ : ∃ wo : World, wo = wr := ⟨_, rfl⟩
        go_wp2_with fail
        go_loopw [12, 44] (fun _ i wr => ∃ k : Nat, k ≤ add.length ∧ i = .int .i64 k ∧ Hid (∃ cur v, addL M0 (add.take k) = some cur ∧ ApM w wr w3.heap.size #[.int .i64 next, .int .i64 log, .slice a1 L.length c1] #[.slice a2 drop.length c2, .slice a3 add.length c3, .int .i64 enext, .int .i64 elog] v cur)) (fun _ i _ => add.length - (intOf i).toNat)
        case atStart => exact ⟨0, by omega, rfl, M0, _, rfl, HM0.out⟩
        case round =>
          obtain ⟨k2, hk2, rfl, HC⟩ := hrel
          clear HM0 jj1
          by_cases hlt2 : k2 < add.length
          · obtain ⟨cur, cv, hd, hM⟩ := HC.out
            clear HC
            obtain ⟨va, vc, rfl⟩ := own_slice hM.own
            obtain ⟨b, o, rfl, _, hb, hc⟩ := H34.out (by omega)
            have hcell : FiAt wr b (o + k2 * 5) add[k2] := (hc k2 hlt2).block (hM.bel.block b hb)
            have HS := Lib.hid (show addL M0 (add.take (k2 + 1)) = if hasN cur add[k2].n then none else some (cur ++ [add[k2]]) by
              rw [List.take_succ_eq_append_getElem hlt2, addL_snoc, hd]; rfl)
            have HDD := Lib.hid (show addL M0 add = (addL M0 (add.take (k2 + 1) ++ add.drop (k2 + 1))) by rw [List.take_append_drop])
            have HLen := Lib.hid (show cur.length ≤ 2000 from by
              have := (addL_ok _ _ _ hd HM0ok.out (fun f hf => H3.out.ok f (List.mem_of_mem_take hf))).2
              rw [List.length_take] at this
              have := HL0.out
              omega)
            have HOk := Lib.hid hM.ok
            have HX := Lib.hid (H3.out.ok _ (List.getElem_mem hlt2))
            have hfl := heap_lt hM.vb
            have hfc := cell_of_one hM.vb
            have hff := free_of_one hM.vb
            have HM := Lib.hid hM
            clear hc hd hM hb
            generalize add[k2] = x at *
            have p0 := hcell.c0
            have p1 := hcell.c1
            have p2 := hcell.c2
            have p3 := hcell.c3
            have p4 := hcell.c4
            clear hcell
            have HBX := Lib.hid (bl1 wr (.cells #[.int .i64 x.n, .int .i64 x.level, .int .i64 x.count, .string x.first, .string x.last] 29))
            have HMX := Lib.hid (HM.out.below HBX.out)
            have HFI := Lib.hid (fun n => find_any _ _ n w3.heap.size _ cur HMX.out.row (cell_of_one HMX.out.vb) (heap_lt HMX.out.vb))
            go_wp2_with fail
            refine (HFI.out _).mono ?_
            rintro e w5 ⟨rfl, hb5⟩
            have HM5 := Lib.hid (HMX.out.below hb5)
            have e0 : w5.heap[wr.heap.size]? = some (.cells #[.int .i64 x.n, .int .i64 x.level, .int .i64 x.count, .string x.first, .string x.last] 29 (0, 0)) := (hb5.block _ (by simp)).trans (heap_alloc_new wr _)
            have d0 : w5.cell? ⟨wr.heap.size, 0, none⟩ = some (.int .i64 x.n) := by simp [World.cell?, e0]
            have d1 : w5.cell? ⟨wr.heap.size, 1, none⟩ = some (.int .i64 x.level) := by simp [World.cell?, e0]
            have d2 : w5.cell? ⟨wr.heap.size, 2, none⟩ = some (.int .i64 x.count) := by simp [World.cell?, e0]
            have d3 : w5.cell? ⟨wr.heap.size, 3, none⟩ = some (.string x.first) := by simp [World.cell?, e0]
            have d4 : w5.cell? ⟨wr.heap.size, 4, none⟩ = some (.string x.last) := by simp [World.cell?, e0]
            have hfc5 := cell_of_one HM5.out.vb
            have hfl5 := heap_lt HM5.out.vb
            clear hb5 e0 p0 p1 p2 p3 p4
            cases hh : hasN cur x.n with
            | true =>
              obtain ⟨i, hi, hfn, _⟩ := findN_some hh
              rw [hfn]
              clear hfn
              obtain rfl : (5, s0) = ap := by
                rw [← HA.out, applyS_there HCT.out HD.out]
                show addL M0 add = none
                rw [HDD.out]
                exact addL_app_none _ _ _ (by rw [HS.out, hh]; rfl)
              clear hh
              obtain ⟨g1, g2, g3, g4, g5⟩ := rb_facts HM5.out.rb
              go_wp2_with fail
              exact bodyPost_ret (v := .tuple #[.agg #[.int .i64 0, .int .i64 0, .slice none 0 0], .int .i64 5]) (by simp [results, Tryz.results7, go_sem, g1, g2, g3]) rfl (apR_bad HM5.out.bel 5)
            | false =>
              rw [findN_none hh]
              rw [hh] at HS
              clear hh
              obtain ⟨i0, hi0, hz0, hz1, hz2⟩ := info_parts info_file
              go_wp2_with (first
                | (at_builtin; refine wpList_append_own _ rfl _ _ 22 rfl w.heap.size 29 i0 (.agg #[.int .i64 0, .int .i64 0, .int .i64 0, .string ⟨#[]⟩, .string ⟨#[]⟩]) 5 56 Tryz.underlying22 hi0 hz0 hz1 hz2 rfl (by decide) _ _ _ rfl (HM5.out.own.alloc _) ⟨w5.heap.size, 0, none⟩ 1 1 [.int .i64 x.n, .int .i64 x.level, .int .i64 x.count, .string x.first, .string x.last] rfl rfl (World.news_of_block (cs := #[.int .i64 x.n, .int .i64 x.level, .int .i64 x.count, .string x.first, .string x.last]) (t := 29) (fr := (0, 0)) (heap_alloc_new w5 _)) (by simp [Value.oneCell']) (by have := HLen.out; unfold maxLen; omega) (by have := HLen.out; omega) (by have := HM5.out.bel.size; simp; omega) ?_; intro v' w6 hown6 hgrow _; obtain ⟨xa, xc, rfl⟩ := own_slice hown6; have hfc6 := ap_vb (HM5.out.below (bl1 w5 _)) hgrow; have hff6 := hfc6.2)
                | fail)
              have HM6 := Lib.hid ((HM5.out.below (bl1 w5 _)).turn (cur' := cur ++ [x]) hgrow (by rw [rcells_append, List.length_append]; exact hown6) (fun f hf => by
                rcases List.mem_append.1 hf with hf | hf
                · exact HOk.out f hf
                · rw [List.mem_singleton.1 hf]; exact HX.out))
              exact ⟨⟨k2 + 1, by omega, by go_num, cur ++ [x], _, by rw [HS.out]; rfl, HM6.out⟩, by simp [intOf]; omega⟩
          · obtain ⟨M, cv, hd, hM⟩ := HC.out
            clear HC
            rw [List.take_of_length_le (by omega)] at hd
            obtain ⟨va, vc, rfl⟩ := own_slice hM.own
            have HD2 := Lib.hid hd
            have hML : M.length ≤ 2000 := by
              have := (addL_ok _ _ _ hd HM0ok.out H3.out.ok).2
              have := HL0.out
              omega
            have HOk := Lib.hid hM.ok
            have HND := Lib.hid (nd_add _ _ _ hd (nd_drop _ _ _ HD.out (check_up HCT.out).nd))
            have hfl := heap_lt hM.vb
            have hfc := cell_of_one hM.vb
            have HM := Lib.hid hM
            clear hM hd
            go_wp2_with fail
            refine (sort_any w.heap.size wr _ M (by omega) HM.out.own).mono ?_
            rintro e w5 ⟨rfl, R, hp, hs, hown, hgr⟩
            have hR := sort_told hp hs HND.out
            have HRl := Lib.hid hp.length_eq
            have HM5 := Lib.hid (HM.out.same hgr hown (fun f hf => HOk.out f (hp.mem_iff.1 hf)))
            subst hR
            have u0 : w5.cell? ⟨w.heap.size, 0, none⟩ = some (.int .i64 next) := by simp [World.cell?, HM5.out.sb]
            have u1 : w5.cell? ⟨w.heap.size, 1, none⟩ = some (.int .i64 log) := by simp [World.cell?, HM5.out.sb]
            have u2 : w5.cell? ⟨w.heap.size + 1, 2, none⟩ = some (.int .i64 enext) := by simp [World.cell?, HM5.out.eb]
            have u3 : w5.cell? ⟨w.heap.size + 1, 3, none⟩ = some (.int .i64 elog) := by simp [World.cell?, HM5.out.eb]
            have hfc5 := cell_of_one HM5.out.vb
            clear hp hs hown hgr
            have HC6 := Lib.hid (check_any (w.heap.size ≤ ·) _ ⟨max next enext, max log elog, M.mergeSort leN⟩ _ (HM5.out.row.below (bl1 w5 (.cells #[.int .i64 (max next enext), .int .i64 (max log elog), .slice va M.length vc] 24))))
            have HM6 := Lib.hid (HM5.out.below (bl1 w5 (.cells #[.int .i64 (max next enext), .int .i64 (max log elog), .slice va M.length vc] 24)))
            have HT6 := Lib.hid (heap_alloc_new w5 (.cells #[.int .i64 (max next enext), .int .i64 (max log elog), .slice va M.length vc] 24))
            cases hc : checkB ⟨max next enext, max log elog, M.mergeSort leN⟩ with
            | false =>
              obtain rfl : (1, s0) = ap := by rw [← HA.out, applyS_wrong HCT.out HD.out HD2.out hc]
              have HE6 := Lib.hid (show checkE ⟨max next enext, max log elog, M.mergeSort leN⟩ = 1 by unfold checkE; rw [hc]; rfl)
              clear hc
              go_wp2_with fail
              refine HC6.out.mono ?_
              rintro e w7 ⟨rfl, hb7⟩
              rw [HE6.out]
              have HM7 := Lib.hid (HM6.out.below hb7)
              obtain ⟨g1, g2, g3, g4, g5⟩ := rb_facts HM7.out.rb
              clear hb7
              go_wp2_with fail
              exact bodyPost_ret (v := .tuple #[.agg #[.int .i64 0, .int .i64 0, .slice none 0 0], .int .i64 1]) (by simp [results, Tryz.results7, go_sem, g1, g2, g3]) rfl (apR_bad HM7.out.bel 1)
            | true =>
              obtain rfl : (0, ⟨max next enext, max log elog, M.mergeSort leN⟩) = ap := by rw [← HA.out, applyS_ok HCT.out HD.out HD2.out hc]
              have HE6 := Lib.hid (show checkE ⟨max next enext, max log elog, M.mergeSort leN⟩ = 0 by unfold checkE; rw [hc]; rfl)
              clear hc
              go_wp2_with fail
              refine HC6.out.mono ?_
              rintro e w7 ⟨rfl, hb7⟩
              rw [HE6.out]
              have HM7 := Lib.hid (HM6.out.below hb7)
              have e7 := (hb7.block _ (heap_lt HT6.out)).trans HT6.out
              have t0 : w7.cell? ⟨w5.heap.size, 0, none⟩ = some (.int .i64 (max next enext)) := by simp [World.cell?, e7]
              have t1 : w7.cell? ⟨w5.heap.size, 1, none⟩ = some (.int .i64 (max log elog)) := by simp [World.cell?, e7]
              have t2 : w7.cell? ⟨w5.heap.size, 2, none⟩ = some (.slice va M.length vc) := by simp [World.cell?, e7]
              obtain ⟨g1, g2, g3, g4, g5⟩ := rb_facts HM7.out.rb
              clear hb7 e7
              go_wp2_with fail
              exact bodyPost_ret (v := .tuple #[.agg #[.int .i64 (max next enext), .int .i64 (max log elog), .slice va M.length vc], .int .i64 0]) (by simp [results, Tryz.results7, go_sem, g1, g2, g3]) rfl ⟨_, rfl, set3_row HM7.out, set3_below HM7.out.bel _ _ _⟩
end Go.Proofs.YtiiafpbonkcokaaGreat
