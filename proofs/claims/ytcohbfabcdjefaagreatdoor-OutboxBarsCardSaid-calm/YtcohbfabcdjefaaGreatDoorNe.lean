/-
  'append' onto the numbers of the older files; 'rotate'.
-/
import Derived.Test.YtcohbfabcdjefaaGreatDoorNd
import Derived.Deep.AppendSrc
import Derived.Deep.AppendLies
import Derived.StillTailTactics
namespace Go.Proofs.YtcohbfabcdjefaaGreatDoor
open Go.RowKit Go.Maps

theorem info_int : (Tryz.prog.info? 3).map (fun i => (i.zero, i.size, i.bytes)) = some (some (.int .i64 0), 1, 8) := by kernel_rfl
theorem run_append_old (w : World) (ty : TypeId) (g : Nat) (v : Value) (l : List Nat) (h : OldAt w g v l) (hl : l.length ≤ 1000) (k p : Nat) (T : TypeId) (hp : w.heap[p]? = some (.cells #[.int .i64 (k : Nat)] T (0, 0))) :
    ∃ a c w' g', (Builtin.append_ #[162, 162] ty #[v, .slice (some ⟨p, 0, none⟩) 1 1]).run Tryz.prog w = .ok (.slice a (l.length + 1) c) w' ∧ OldAt w' g' (.slice a (l.length + 1) c) (l ++ [k]) ∧ w.grownBy w' v.ownBlock ∧ (v.ownBlock = some g' ∧ g' = g ∨ g' = w.heap.size) := by
  obtain ⟨i0, hi, hz0, hz1, hz2⟩ := info_parts info_int
  have hu := Tryz.underlying162
  have hs : Src Tryz.prog i0.size 162 (.slice (some ⟨p, 0, none⟩) 1 1) 1 [.int .i64 (k : Nat)] w := by
    refine Src.ofSlice w hu ⟨p, 0, none⟩ 1 1 _ (by rw [hz1]; rfl) (World.news_of_block hp) (by simp [Value.oneCell'])
  have hgrow : ∀ (ba : Option Addr) (cap : Nat), v = .slice ba l.length cap → cap < l.length + 1 →
      (Builtin.firstCells i0.size l.length (.slice ba l.length cap)).run Tryz.prog w.drew = .ok ((l.map fun n : Nat => Value.int .i64 n)).toArray w.drew →
      ∃ a c w' g', (Builtin.append_ #[162, 162] ty #[v, .slice (some ⟨p, 0, none⟩) 1 1]).run Tryz.prog w = .ok (.slice a (l.length + 1) c) w' ∧ OldAt w' g' (.slice a (l.length + 1) c) (l ++ [k]) ∧ w.grownBy w' v.ownBlock ∧ (v.ownBlock = some g' ∧ g' = g ∨ g' = w.heap.size) := by
    rintro ba cap rfl hcap hold
    have hr := run_append_grow_src (P := Tryz.prog) w 162 162 ty 3 i0 (.int .i64 0) hu hi hz0 ba l.length cap _ hold _ 1 _ hs (by omega) (by omega) (growslice_fits (by omega) (by rw [hz2]; omega))
    have hge := grownCap_ge w (l.length + 1) cap 3
    have hcm := grownCap_le_maxLen w (l.length + 1) cap 3 (by unfold maxLen; omega)
    refine ⟨_, _, _, w.heap.size, hr, .inr ⟨0, _, _, ?_, heap_alloc_new w.drew _, ?_, hcm, ?_, ?_⟩, ⟨rfl, rfl, rfl, by simp, fun k hk _ => Below.heap_alloc w.drew _ k hk⟩, .inr rfl⟩
    · simp
    · simpa using hge
    · simp only [Array.size_append, List.size_toArray, size_zeroCells, List.length_append, List.length_map, List.length_singleton]
      have : (Value.cells (.int .i64 0)).size = 1 := rfl
      rw [this]; omega
    · intro i hi
      rw [List.length_append, List.length_singleton] at hi
      rw [Nat.zero_add, Array.getElem?_append_left (by simp; omega), List.getElem?_toArray]
      by_cases hlt : i < l.length
      · rw [List.getElem?_append_left (by simpa using hlt), List.getElem_append_left hlt, List.getElem?_map, List.getElem?_eq_getElem hlt]; rfl
      · have : i = l.length := by omega
        subst this
        rw [List.getElem?_append_right (by simp)]
        simp
  rcases h with ⟨rfl, rfl⟩ | ⟨off, cap, cur, rfl, h2, h3, h4, h5, h6⟩
  · exact hgrow none 0 rfl (by simp) (by simp [Builtin.firstCells, loadCells, loadCellsFrom])
  · have hcell : ∀ j, off ≤ j → j < off + l.length → w.cell? ⟨g, j, none⟩ = some (.int .i64 ((l.getD (j - off) 0 : Nat))) := fun j h1 h7 => by
      have := h6 (j - off) (by omega)
      rw [show off + (j - off) = j by omega] at this
      simp [World.cell?, h2, this, List.getD_eq_getElem?_getD, List.getElem?_eq_getElem (show j - off < l.length by omega)]
    by_cases hroom : l.length + 1 ≤ cap
    · have hsome : ∀ j, j < [Value.int .i64 (k : Nat)].length → (w.cell? ⟨g, off + l.length * i0.size + j, none⟩).isSome = true := fun j hj => by
        have : j = 0 := by simpa using hj
        subst this
        rw [hz1]
        simp only [World.cell?, h2]
        simp only [Nat.mul_one, Nat.add_zero]
        rw [Array.getElem?_eq_getElem (by omega)]; rfl
      have hr := run_append_room_src (P := Tryz.prog) w 162 162 ty 3 i0 hu hi g off l.length cap _ 1 _ hs hroom hsome (fun j hj => by simp [World.frozen?, h2])
      have hset : w.setCells g (off + l.length * i0.size) [.int .i64 (k : Nat)] = w.setCell ⟨g, off + l.length, none⟩ (.int .i64 (k : Nat)) := by
        rw [hz1, Nat.mul_one]; rfl
      rw [hset] at hr
      refine ⟨_, _, _, g, hr, .inr ⟨off, cap, _, by simp, heap_setCell_same _ _ _ _ _ _ h2, by simpa using hroom, h4, by simpa using h5, ?_⟩, ?_, .inl ⟨rfl, rfl⟩⟩
      · intro i hi
        rw [List.length_append, List.length_singleton] at hi
        by_cases hlt : i < l.length
        · rw [List.getElem_append_left hlt, Array.getElem?_setIfInBounds, if_neg (by omega)]
          exact h6 i hlt
        · have : i = l.length := by omega
          subst this
          rw [Array.getElem?_setIfInBounds, if_pos rfl, if_pos (by omega)]
          simp
      · exact ⟨rfl, rfl, rfl, by simp [World.setCell], fun k _ hk => Below.heap_setCell w ⟨g, off + l.length, none⟩ _ k (fun e => hk (by simp [Value.ownBlock, e]))⟩
    · refine hgrow (some ⟨g, off, none⟩) cap rfl (by omega) ?_
      have hl1 : ((l.map fun n : Nat => Value.int .i64 n)).length = l.length * i0.size := by rw [hz1]; simp
      refine run_firstCells_some w.drew i0.size l.length ⟨g, off, none⟩ l.length cap _ hl1 (fun j u hu => ?_)
      rw [Addr.add_lit]
      have hj : j < l.length := by
        have := (List.getElem?_eq_some_iff.1 hu).1
        simpa using this
      show w.cell? _ = _
      rw [hcell (off + j) (by omega) (by omega), ← hu, List.getElem?_map, show off + j - off = j by omega, List.getD_eq_getElem?_getD, List.getElem?_eq_getElem hj]
      rfl
theorem wpList_append_old {ops : Array Oper} {rest : List Oper} {o : Oper} {ac : Act} {Q : Exit → Act → World → Prop} (w : World) (hgd : o.guard = none) (s x : Operand)
    (ho : o.op = .call { callee := .builtin .append, args := #[s, x], argTypes := #[162, 162] })
    (g : Nat) (v : Value) (l : List Nat) (hs : ac.eval s = v) (h : OldAt w g v l) (hl : l.length ≤ 1000) (k p : Nat) (T : TypeId) (hx : ac.eval x = .slice (some ⟨p, 0, none⟩) 1 1) (hp : w.heap[p]? = some (.cells #[.int .i64 (k : Nat)] T (0, 0)))
    (hK : ∀ a c w' g', OldAt w' g' (.slice a (l.length + 1) c) (l ++ [k]) → w.grownBy w' v.ownBlock → (v.ownBlock = some g' ∧ g' = g ∨ g' = w.heap.size) → wpList Tryz.prog ops Q rest (ac.put o.dst (.slice a (l.length + 1) c)) w') :
    wpList Tryz.prog ops Q (o :: rest) ac w := by
  refine wpList_plain hgd fun K hKK => ?_
  obtain ⟨a, c, w', g', hr, h2, h3, h4⟩ := run_append_old w o.type g v l h hl k p T hp
  unfold Oper.wp execOp
  simp only [ho, resolve, invoke, builtin, Sem.run_bind, Sem.run_pure, Result.andThen_ok, List.map_toArray, List.map_cons, List.map_nil, hs, hx, hr]
  exact hKK _ _ (hK a c w' g' h2 h3 h4)
theorem OldAt.own {w : World} {g : Nat} {v : Value} {l : List Nat} (h : OldAt w g v l) : v.ownBlock = none ∨ (v.ownBlock = some g ∧ ∃ cur, w.heap[g]? = some (.cells cur 3 (0, 0))) := by
  rcases h with ⟨rfl, _⟩ | ⟨off, cap, cur, rfl, h2, _⟩
  · exact .inl rfl
  · exact .inr ⟨rfl, cur, h2⟩
theorem But.grownB {l : List Nat} {a w w' : World} {row : Option Nat} (h : But l a w) (hg : w.grownBy w' row) (hr : ∀ k, row = some k → k ∈ l ∨ a.heap.size ≤ k) : But l a w' :=
  ⟨hg.os.trans h.os, hg.tape.trans h.tape, hg.output.trans h.output, Nat.le_trans h.size hg.size, fun k hk hn => (hg.block k (Nat.lt_of_lt_of_le hk h.size) (fun e => by rcases hr k e.symm with h1 | h1; exact hn h1; omega)).trans (h.block k hk hn)⟩
theorem BeginR.z {w w' : World} {b db m : Nat} {d : Dk} {log : ByteArray} {k : Nat} {v : Value} {dead : Bool} (h : BeginR w b db m d log k v dead w') : w'.frozen? ⟨b, 4, none⟩ = false := by
  obtain ⟨sb, _, h1, _⟩ := h
  simp [World.frozen?, h1]
theorem OldAt.alloc {w : World} {g : Nat} {v : Value} {l : List Nat} (h : OldAt w g v l) (o : Obj) : OldAt (w.alloc o) g v l := h.block fun _ hc => (Below.heap_alloc w o g (heap_lt hc)).trans hc
theorem WAt.zd {w : World} {b sb ob db : Nat} {x : Lg} (h : WAt w b sb ob db x) : w.drew.frozen? ⟨b, 4, none⟩ = false := by
  obtain ⟨v, hc, _⟩ := h.cells
  exact hc.zb 4
theorem old_facts {w w' : World} {b g : Nat} {cs : Array Value} {v v2 : Value} {l : List Nat} {o : Obj} (hk : w.heap[b]? = some (.cells cs 167 (0, 0))) (ho : OldAt w g v l) (hg : (w.alloc o).grownBy w' v.ownBlock) (h2 : cs[2]? = some v2 := by rfl) : w'.heap[b]? = some (.cells cs 167 (0, 0)) ∧ w'.cell? ⟨b, 2, none⟩ = some v2 ∧ w'.frozen? ⟨b, 2, none⟩ = false := by
  have e : w'.heap[b]? = some (.cells cs 167 (0, 0)) := by
    rw [hg.block b (by have := heap_lt hk; simp; omega) (fun e => ?_), Below.heap_alloc _ _ _ (heap_lt hk), hk]
    rcases ho.own with h1 | ⟨h1, cur, hc⟩
    · rw [h1] at e; cases e
    · rw [h1] at e; injection e with e; subst e
      rw [hk] at hc; injection hc with e1; injection e1 with _ e3; exact absurd e3 (by decide)
  exact ⟨e, by simp [World.cell?, e, h2], by simp [World.frozen?, e]⟩
/-- a log and its disk behind a call: which blocks may have turned, and which are the log's now -/
def WR (w : World) (b sb ob db m : Nat) (d : Dk) (x : Lg) (w' : World) : Prop :=
  ∃ sb' ob', WD w' b sb' ob' db m d x ∧ But [db, m, b, sb, ob] w w' ∧ (sb' = sb ∨ w.heap.size ≤ sb') ∧ (ob' ∈ [sb, ob] ∨ w.heap.size ≤ ob')
theorem WR.stay {w w' : World} {b sb ob db m : Nat} {d : Dk} {x : Lg} {l : List Nat} (h : WD w' b sb ob db m d x) (hb : But l w w') (hl : ∀ k ∈ l, k ∈ [db, m, b, sb, ob]) : WR w b sb ob db m d x w' :=
  ⟨sb, ob, h, hb.wider hl, .inl rfl, .inl (by simp)⟩
set_option maxHeartbeats 2000000 in
set_option maxRecDepth 100000 in
theorem rotate_any (w : World) (b sb ob db m : Nat) (d : Dk) (x : Lg) (h : WD w b sb ob db m d x) (hl : x.log.size ≤ 1000) (hla : x.last < 99) (hol : x.old.length ≤ 1000) :
    Calls Tryz.prog 153 #[.pointer (some ⟨b, 0, none⟩)] w fun e w' => e = .returned (.int .i64 (rotateS d x).1) ∧ WR w b sb ob db m (rotateS d x).2.1 (rotateS d x).2.2 w' := by
  obtain ⟨v, hc, hold⟩ := h.wal.cells
  obtain ⟨va, vc, rfl⟩ := hold.shape
  have b0 := hc.b0
  have b3 := hc.b3
  have s0 := hc.s0
  have s2 := hc.s2
  have HD := Lib.hid h
  have HO := Lib.hid hold
  obtain ⟨v', hblk, _⟩ := h.wal.blk
  obtain rfl : v' = .slice va x.old.length vc := by
    have e := hc.b2
    unfold walCells at hblk
    simp [World.cell?, hblk] at e
    exact e
  have HBK := Lib.hid hblk
  clear hc h hold hblk
  by_cases hlt : x.last < x.fr
  · have e1 : rotateS d x = emptyS d x := by simp [rotateS, hlt]
    rw [e1]
    clear e1
    have HE := Lib.hid (fun W (hW : WD W b sb ob db m d x) => empty_any W b sb ob db m d x hW hl)
    go_enter Tryz.func153, Tryz.ntmps153
    go_wp2_with fail
    go_quiet (fail)
    rename_i nq
    have HW := Lib.hid (HD.out.drewN nq)
    have HB := Lib.hid (below_drewN (Below.refl w.heap.size w) nq)
    generalize w.drewN nq = w1 at *
    go_wp2_with fail
    refine (HE.out _ HW.out).mono ?_
    rintro e w2 ⟨rfl, h2, hb2⟩
    have HH := Lib.hid h2
    have HHB := Lib.hid hb2
    clear h2 hb2
    go_wp2_with fail
    go_ret
    exact ⟨rfl, WR.stay HH.out ((But.of_below HB.out).trans HHB.out) (by simp)⟩
  · have hlt2 : ¬ ((x.last : Int) < x.fr) := by omega
    generalize hE : createE d (fileL x.log (x.last + 1)) = E
    by_cases h0 : E = 0
    · have e1 : rotateS d x = (0, createD d (fileL x.log (x.last + 1)), { x with fr := x.last + 1, size := 0, last := x.last, old := x.old ++ [x.fr] }) := by simp [rotateS, hlt, hE, h0]
      rw [e1]
      subst h0
      clear e1
      have HE := Lib.hid hE
      clear hE hlt
      go_enter Tryz.func153, Tryz.ntmps153
      go_wp2_with fail
      go_quiet (fail)
      rename_i nq
      have HW := Lib.hid (HD.out.drewN nq)
      have HB := Lib.hid (below_drewN (Below.refl w.heap.size w) nq)
      have HO1 := Lib.hid (show OldAt (w.drewN nq) ob (.slice va x.old.length vc) x.old from HO.out)
      have HBK1 := Lib.hid (show (w.drewN nq).heap[b]? = some (.cells (walCells sb x (.slice va x.old.length vc)) 167 (0, 0)) from HBK.out)
      generalize w.drewN nq = w1 at *
      have hbl := HW.out.wal.lt
      obtain ⟨v1, hc1, _⟩ := HW.out.wal.cells
      have b01 := hc1.b0
      have s01 := hc1.s0
      have s21 := hc1.s2
      have b31 := hc1.b3
      clear hc1
      go_wp2_with fail
      have b01d : w1.drew.cell? ⟨b, 0, none⟩ = some (.pointer (some ⟨sb, 0, none⟩)) := b01
      have s01d : w1.drew.cell? ⟨sb, 0, none⟩ = some (.pointer (some ⟨db, 0, none⟩)) := s01
      have b31d : w1.drew.cell? ⟨b, 3, none⟩ = some (.int .i64 x.last) := b31
      have hw : IntKind.i64.wrap ((x.last : Int) + 1) = (x.last : Int) + 1 := IntWalk.i64_in _ (by omega)
      have HBG := Lib.hid (begin_ok w1.drew b db m d x.log (x.last + 1) ((x.last : Int) + 1) (by omega) (.pointer (some ⟨sb, 0, none⟩)) (.slice va x.old.length vc) (.int .i64 x.last) x.dead HBK1.out HW.out.dat.drew HW.out.ok (HW.out.dk b (.inl rfl)) (by omega) (by omega) hl HE.out)
      go_still_tail 13, (by kernel_rfl)
      change wpList _ _ _ _ _ w1.drew
      go_wp2_with fail
      refine HBG.out.mono ?_
      rintro e w2 ⟨rfl, hb2⟩
      · obtain ⟨sb2, hs2, hk2, hg2, hd2, hbt2⟩ := hb2
        have ho2 : OldAt w2 ob (.slice va x.old.length vc) x.old := HO1.out.block fun cur hcu => by
          have hf := HW.out.wal.far hcu (by decide) (by decide)
          have hdk := HW.out.dk ob (.inr (.inr rfl))
          exact (hbt2.block ob (heap_lt hcu) (by simp [hdk, hf.1])).trans hcu
        have c02 : w2.cell? ⟨b, 2, none⟩ = some (.slice va x.old.length vc) := by simp [World.cell?, hk2]
        have z02 : w2.frozen? ⟨b, 2, none⟩ = false := by simp [World.frozen?, hk2]
        have HK2 := Lib.hid hk2
        have HG2 := Lib.hid hg2
        have HD2 := Lib.hid hd2
        have HT2 := Lib.hid hbt2
        have HO2 := Lib.hid ho2
        have HS2 := Lib.hid hs2
        have hsz2 := hbt2.size
        have hsz1 := HB.out.size
        clear hk2 hg2 hd2 hbt2 ho2 hs2
        go_wp2_with (at_builtin; refine wpList_append_old _ rfl _ _ rfl ob (.slice va x.old.length vc) x.old rfl (HO2.out.alloc _) hol x.fr w2.heap.size 3 rfl (heap_alloc_new w2 _) ?_; intro a3 c3 w3 g3 ho3 hg3 hat3; obtain ⟨k23, c23, z23⟩ := old_facts HK2.out HO2.out hg3)
        go_ret
        have hdk := HW.out.dk
        have hne : sb2 ≠ b := by have := hbl.1; have := HS2.out; simp at this; omega
        have hobb : ∀ cur, w2.heap[ob]? = some (.cells cur 3 (0, 0)) → ob ≠ b ∧ ob ≠ sb2 := fun cur hcu => by
          refine ⟨fun e => ?_, fun e => ?_⟩
          · subst e; rw [HK2.out] at hcu; injection hcu with e1; injection e1 with _ e3; exact absurd e3 (by decide)
          · subst e; rw [HG2.out] at hcu; injection hcu with e1; injection e1 with _ e3; exact absurd e3 (by decide)
        have hrow : ∀ k, (Value.slice va x.old.length vc).ownBlock = some k → k = ob ∧ k ≠ b ∧ k ≠ sb2 := fun k hk => by
          rcases HO2.out.own with h1 | ⟨h1, cur, hcu⟩
          · rw [h1] at hk; cases hk
          · rw [h1] at hk; injection hk with hk; subst hk
            exact ⟨rfl, hobb cur hcu⟩
        have hg3b : ∀ k, k < w2.heap.size → k ≠ b → (∀ j, (Value.slice va x.old.length vc).ownBlock = some j → k ≠ j) → (w3.setCell ⟨b, 2, none⟩ (.slice a3 (x.old.length + 1) c3)).heap[k]? = w2.heap[k]? := fun k hk hkb hkr => by
          rw [Below.heap_setCell _ _ _ _ hkb, hg3.block k (by simp; omega) (fun e => hkr k e.symm rfl), Below.heap_alloc _ _ _ hk]
        have hbut2 : But [b, ob] w2 (w3.setCell ⟨b, 2, none⟩ (.slice a3 (x.old.length + 1) c3)) :=
          (((But.refl [b, ob] w2).alloc _).grownB hg3 (fun k hk => .inl (by simp [(hrow k hk).1]))).setCell (.inl (by simp)) _
        have hsb2 : sb2 < w2.heap.size := heap_lt HG2.out
        have hs3 := hg3.size
        rw [World.size_alloc] at hs3
        have hdb : ∀ k, k = db ∨ k = m → (w3.setCell ⟨b, 2, none⟩ (.slice a3 (x.old.length + 1) c3)).heap[k]? = w2.heap[k]? := fun k hk => by
          refine hg3b k ?_ ?_ ?_
          · rcases hk with rfl | rfl
            · exact HD2.out.lt
            · exact HD2.out.map.lt
          · rintro rfl
            rcases hk with rfl | rfl
            · exact (hdk k (.inl rfl)).1 rfl
            · exact (hdk k (.inl rfl)).2 rfl
          · rintro j hj rfl
            have e := (hrow k hj).1
            subst e
            rcases hk with rfl | rfl
            · exact (hdk k (.inr (.inr rfl))).1 rfl
            · exact (hdk k (.inr (.inr rfl))).2 rfl
        have hsbdk : sb2 ≠ db ∧ sb2 ≠ m := by
          have h1 := HW.out.dat.lt
          have h2 := HW.out.dat.map.lt
          have h3 := HS2.out
          simp at h3
          omega
        have hg3dk : g3 ≠ db ∧ g3 ≠ m := by
          rcases hat3 with ⟨_, rfl⟩ | e
          · exact hdk g3 (.inr (.inr rfl))
          · have h1 := HD2.out.lt
            have h2 := HD2.out.map.lt
            simp at e
            omega
        have hdat : DAt (w3.setCell ⟨b, 2, none⟩ (.slice a3 (x.old.length + 1) c3)) db m (createD d (fileL x.log (x.last + 1))) := by
          have hb9 : But [] (w2) (w2) := But.refl _ _
          refine HD2.out.but (l := [b, ob].filter (fun k => decide (k ≠ db ∧ k ≠ m))) ⟨hbut2.os, hbut2.tape, hbut2.output, hbut2.size, fun k hk hn => ?_⟩ (by simp) (by simp)
          by_cases hkd : k = db ∨ k = m
          · exact hdb k hkd
          · refine hbut2.block k hk (fun e => hn ?_)
            rw [List.mem_filter]
            exact ⟨e, by simp; omega⟩
        refine ⟨rfl, sb2, g3, ⟨⟨⟨.slice a3 (x.old.length + 1) c3, ?_, ?_⟩, ?_⟩, hdat, HW.out.ok.create _, ?_⟩, ?_, .inr ?_, ?_⟩
        · exact heap_setCell_same _ _ _ _ _ _ k23
        · refine ho3.block fun cur hcu => (Below.heap_setCell _ _ _ _ ?_).trans hcu
          rintro rfl
          rw [k23] at hcu; injection hcu with e1; injection e1 with _ e3; exact absurd e3 (by decide)
        · refine (hg3b sb2 hsb2 hne (fun j hj => ?_)).trans HG2.out
          exact fun e => (hrow j hj).2.2 e.symm
        · rintro k (rfl | rfl | rfl)
          · exact hdk k (.inl rfl)
          · exact hsbdk
          · exact hg3dk
        · exact (((But.of_below HB.out).drew.trans (HT2.out.wider (l' := [db, m, b, sb, ob]) (by simp))).trans (hbut2.wider (by simp)))
        · have := HS2.out; simp at this; omega
        · rcases hat3 with ⟨_, rfl⟩ | e
          · exact .inl (by simp)
          · right; have h9 : w1.heap.size ≤ w2.heap.size := hsz2; simp at e; omega
    · have e1 : rotateS d x = (E, createD d (fileL x.log (x.last + 1)), x) := by simp [rotateS, hlt, hE, h0]
      rw [e1]
      clear e1
      have hE0 : (E != 0) = true := by simpa using h0
      have HE := Lib.hid hE
      clear hE hlt
      go_enter Tryz.func153, Tryz.ntmps153
      go_wp2_with fail
      go_quiet (fail)
      rename_i nq
      have HW := Lib.hid (HD.out.drewN nq)
      have HB := Lib.hid (below_drewN (Below.refl w.heap.size w) nq)
      have HBK1 := Lib.hid (show (w.drewN nq).heap[b]? = some (.cells (walCells sb x (.slice va x.old.length vc)) 167 (0, 0)) from HBK.out)
      generalize w.drewN nq = w1 at *
      obtain ⟨v1, hc1, _⟩ := HW.out.wal.cells
      have b01 := hc1.b0
      have s01 := hc1.s0
      have s21 := hc1.s2
      have b31 := hc1.b3
      clear hc1
      go_wp2_with fail
      have hw : IntKind.i64.wrap ((x.last : Int) + 1) = (x.last : Int) + 1 := IntWalk.i64_in _ (by omega)
      have HBG := Lib.hid (begin_no w1.drew b db m d x.log (x.last + 1) ((x.last : Int) + 1) (by omega) (.pointer (some ⟨sb, 0, none⟩)) (.slice va x.old.length vc) (.int .i64 x.last) x.dead E HBK1.out HW.out.dat.drew HW.out.ok (HW.out.dk b (.inl rfl)) (by omega) hl HE.out h0)
      clear h0
      go_still_tail 13, (by kernel_rfl)
      change wpList _ _ _ _ _ w1.drew
      go_wp2_with fail
      refine HBG.out.mono ?_
      rintro e w2 ⟨rfl, hd2, hb2⟩
      have HH := Lib.hid (HW.out.drew.disk hd2 hb2 (HW.out.ok.create _))
      have HHB := Lib.hid ((But.of_below HB.out).drew.trans hb2)
      clear hd2 hb2 HBG
      go_wp2_with fail
      go_ret
      exact ⟨rfl, WR.stay HH.out HHB.out (by simp)⟩
end Go.Proofs.YtcohbfabcdjefaaGreatDoor
