/-
  The law's 'state', 'edit': as the document has them.
-/
import Derived.Test.YtiiafpbonkcokaaGreatMo
import Derived.Deep.RegionLaw
namespace Go.Proofs.YtiiafpbonkcokaaGreat
open Go.RowKit Go.Maps

/-- a row of tables that grows in cell o of block sbx -/
structure RwM (T1 T2 : TypeId) (cs : Value → Array Value) (wc wr : World) (sbx : Nat) (v : Value) (cur : List Fi) : Prop where
  sb : wr.heap[sbx]? = some (.cells (cs v) T1 (0, 0))
  own : wr.ownsRow wc.heap.size T2 5 v cur.length (rcells cur)
  kept : But [sbx] wc wr
  lt : sbx < wc.heap.size
theorem RwM.drew {T1 T2 : TypeId} {cs : Value → Array Value} {wc wr : World} {sbx : Nat} {v : Value} {cur : List Fi} (h : RwM T1 T2 cs wc wr sbx v cur) : RwM T1 T2 cs wc wr.drew sbx v cur := ⟨h.sb, h.own.drew, h.kept.drew, h.lt⟩
theorem RwM.alloc {T1 T2 : TypeId} {cs : Value → Array Value} {wc wr : World} {sbx : Nat} {v : Value} {cur : List Fi} (h : RwM T1 T2 cs wc wr sbx v cur) (o : Obj) : RwM T1 T2 cs wc (wr.alloc o) sbx v cur :=
  ⟨(Below.heap_alloc _ _ _ (heap_lt h.sb)).trans h.sb, h.own.alloc _, h.kept.alloc _, h.lt⟩
theorem RwM.fz {T1 T2 : TypeId} {cs : Value → Array Value} {wc wr : World} {sbx : Nat} {v : Value} {cur : List Fi} (h : RwM T1 T2 cs wc wr sbx v cur) (o : Nat) : wr.frozen? ⟨sbx, o, none⟩ = false := by simp [World.frozen?, h.sb]
theorem RwM.cell {T1 T2 : TypeId} {cs : Value → Array Value} {wc wr : World} {sbx : Nat} {v : Value} {cur : List Fi} (h : RwM T1 T2 cs wc wr sbx v cur) {o : Nat} {u : Value} (hc : (cs v)[o]? = some u) : wr.cell? ⟨sbx, o, none⟩ = some u := by simp [World.cell?, h.sb, hc]
theorem RwM.push {T1 T2 : TypeId} {cs : Value → Array Value} {wc W w1 : World} {sbx : Nat} {v v' : Value} {cur : List Fi} {x : Fi} (o : Nat) (hset : ∀ v v', (cs v).setIfInBounds o v' = cs v') (hget : ∀ v, (cs v)[o]? = some v) (h : RwM T1 T2 cs wc W sbx v cur) (hg : W.grownBy w1 v.ownBlock)
    (ho : w1.ownsRow wc.heap.size T2 5 v' (cur.length + 1) (rcells cur ++ ficells x)) :
    (w1.frozen? ⟨sbx, o, none⟩ = false ∧ w1.cell? ⟨sbx, o, none⟩ = some v) ∧ (∀ k, k < W.heap.size → v.ownBlock ≠ some k → w1.heap[k]? = W.heap[k]?) ∧ RwM T1 T2 cs wc (w1.setCell ⟨sbx, o, none⟩ v') sbx v' (cur ++ [x]) := by
  have hne : some sbx ≠ v.ownBlock := fun e => by have := (h.own.lt sbx e.symm).1; have := h.lt; omega
  have h1 : w1.heap[sbx]? = some (.cells (cs v) T1 (0, 0)) := (hg.block sbx (heap_lt h.sb) hne).trans h.sb
  have hne2 : v'.ownBlock = none ∨ v'.ownBlock ≠ some sbx := .inr (fun e => by have := (ho.lt sbx e).1; have := h.lt; omega)
  refine ⟨⟨by simp [World.frozen?, h1], by simp [World.cell?, h1, hget]⟩, fun k hk hn => hg.block k hk (fun e => hn e.symm), ⟨?_, ?_, ?_, h.lt⟩⟩
  · have := heap_setCell_same w1 sbx o _ _ v' h1
    rw [hset] at this
    exact this
  · have hgs : w1.grownBy (w1.setCell ⟨sbx, o, none⟩ v') (some sbx) := ⟨rfl, rfl, rfl, by simp [World.setCell], fun k _ hk => Below.heap_setCell w1 ⟨sbx, o, none⟩ v' k (fun e => hk (congrArg some e))⟩
    rw [rcells_append, List.length_append]
    exact ho.kept hgs hne2
  · exact But.setCell ⟨hg.os.trans h.kept.os, hg.tape.trans h.kept.tape, hg.output.trans h.kept.output, Nat.le_trans h.kept.size hg.size, fun k hk hn => (hg.block k (Nat.lt_of_lt_of_le hk h.kept.size) (fun e => by have := (h.own.lt k e.symm).1; omega)).trans (h.kept.block k hk hn)⟩ (.inl (by simp)) v'
theorem own_typeR {w : World} {B : Nat} {T T' : TypeId} {v : Value} {n : Nat} {xs : List Value} {k : Nat} {cs : Array Value} (h : w.ownsRow B T 5 v n xs) (hk : w.heap[k]? = some (.cells cs T' (0, 0))) (hne : T' ≠ T) : v.ownBlock ≠ some k := own_type h hk hne
theorem info_rfile : (Tryz.prog.info? 35).map (fun i => (i.zero, i.size, i.bytes)) = some (some (.agg #[.int .i64 0, .int .i64 0, .int .i64 0, .string ⟨#[]⟩, .string ⟨#[]⟩]), 5, 56) := by kernel_rfl

set_option maxRecDepth 100000 in
set_option maxHeartbeats 4000000 in
theorem lstate_any (S : Nat → Prop) (w : World) (s : St) (v : Value) (h : FRow S w v s.fs) (hL : s.fs.length ≤ 1000000) : Calls Tryz.prog 21 #[stv s.next s.log v] w fun e w' => ∃ u, e = .returned (stv s.next s.log u) ∧ w'.ownsRow w.heap.size 35 5 u s.fs.length (rcells s.fs) ∧ Below w.heap.size w w' := by
  have HF := Lib.hid h
  obtain ⟨⟨a, c, rfl, q1, q2, q3, q4⟩, qk⟩ := h
  have HQ := Lib.hid q4
  clear q3 q4 qk
  unfold stv
  obtain ⟨W0, hW0⟩ : ∃ W0, ((w.alloc (.cells #[.int .i64 s.next, .int .i64 s.log, .slice a s.fs.length c] 24)).alloc (.cells #[.int .i64 0, .int .i64 0, .slice none 0 0] 38)).alloc (.cells #[.int .i64 s.next, .int .i64 s.log, .slice none 0 0] 38) = W0 := ⟨_, rfl⟩
  have hz : W0.heap.size = w.heap.size + 3 := by rw [← hW0]; simp
  have k1 : W0.heap[w.heap.size]? = some (.cells #[.int .i64 s.next, .int .i64 s.log, .slice a s.fs.length c] 24 (0, 0)) := by rw [← hW0, Below.heap_alloc _ _ _ (by simp; omega), Below.heap_alloc _ _ _ (by simp)]; exact heap_alloc_new w _
  have k2 : W0.heap[w.heap.size + 1]? = some (.cells #[.int .i64 0, .int .i64 0, .slice none 0 0] 38 (0, 0)) := by
    rw [← hW0, Below.heap_alloc _ _ _ (by simp)]
    have := heap_alloc_new (w.alloc (.cells #[.int .i64 s.next, .int .i64 s.log, .slice a s.fs.length c] 24)) (.cells #[.int .i64 0, .int .i64 0, .slice none 0 0] 38)
    rwa [World.size_alloc] at this
  have k3 : W0.heap[w.heap.size + 1 + 1]? = some (.cells #[.int .i64 s.next, .int .i64 s.log, .slice none 0 0] 38 (0, 0)) := by
    rw [← hW0]
    have := heap_alloc_new ((w.alloc (.cells #[.int .i64 s.next, .int .i64 s.log, .slice a s.fs.length c] 24)).alloc (.cells #[.int .i64 0, .int .i64 0, .slice none 0 0] 38)) (.cells #[.int .i64 s.next, .int .i64 s.log, .slice none 0 0] 38)
    rwa [World.size_alloc, World.size_alloc] at this
  have HB0 := Lib.hid (show Below w.heap.size w W0 by rw [← hW0]; exact bl3 _ _ _ _)
  have HW := Lib.hid hW0
  have K1 := Lib.hid k1
  have K2 := Lib.hid k2
  have K3 := Lib.hid k3
  clear hW0 k1 k2 k3
  go_enter Tryz.func21, Tryz.ntmps21
  go_wp2_with fail
  rw [HW.out]
  go_loopw [4] (fun i wr => ∃ k : Nat, k ≤ s.fs.length ∧ i = .int .i64 k ∧ Hid (∃ u, RwM 38 35 (fun v => #[.int .i64 s.next, .int .i64 s.log, v]) W0 wr (w.heap.size + 1 + 1) u (s.fs.take k))) (fun i _ => s.fs.length - (intOf i).toNat)
  case atStart => exact ⟨0, by omega, rfl, _, ⟨K3.out, World.ownsRow_nil _ _ _ _, But.refl _ _, by omega⟩⟩
  case round =>
    obtain ⟨k, hk, rfl, HCUR⟩ := hrel
    obtain ⟨u, hM⟩ := HCUR.out
    obtain ⟨ua, uc, rfl⟩ := own_slice hM.own
    have j1 : wr.heap[w.heap.size]? = some (.cells #[.int .i64 s.next, .int .i64 s.log, .slice a s.fs.length c] 24 (0, 0)) := (hM.kept.block _ (by omega) (by simp; omega)).trans K1.out
    have v1 : wr.cell? ⟨w.heap.size, 2, none⟩ = some (.slice a s.fs.length c) := by simp [World.cell?, j1]
    by_cases hlt : k < s.fs.length
    · obtain ⟨bb, oo, rfl, _, hb1, hc1⟩ := HQ.out (by omega)
      have hfi : FiAt wr bb (oo + k * 5) s.fs[k] := (hc1 k hlt).block ((hM.kept.block bb (by omega) (by simp; omega)).trans (HB0.out.block bb hb1))
      have HS := Lib.hid (show s.fs.take (k + 1) = s.fs.take k ++ [s.fs[k]] from List.take_succ_eq_append_getElem hlt)
      have htl : (s.fs.take k).length ≤ 1000000 := by rw [List.length_take]; omega
      have v3 : wr.cell? ⟨w.heap.size + 1 + 1, 2, none⟩ = some (.slice ua (s.fs.take k).length uc) := hM.cell (by rfl)
      have f3 := hM.fz 2
      have HM := Lib.hid hM
      have hblt : bb < wr.heap.size := World.block_lt_of_cell? wr _ hfi.c0
      have hwl : w.heap.size < wr.heap.size := heap_lt j1
      clear hM HCUR hc1 j1
      generalize s.fs.take k = cur at *
      generalize s.fs[k] = x at *
      obtain ⟨p0, p1, p2, p3, p4⟩ := hfi
      obtain ⟨i9, hi9, hz90, hz91, hz92⟩ := info_parts info_rfile
      have HONE := Lib.hid (show ∀ u ∈ ficells x, u.oneCell' = true by simp [ficells, Value.oneCell'])
      have nn3 := World.new_ne wr _ v3
      have nn4 := World.new_ne wr _ v1
      have nn5 := World.new_ne wr _ p0
      have hlr := World.block_lt_of_cell? wr _ v3
      have HSt := Lib.hid (show ∀ w' : World, w'.frozen? ⟨w.heap.size + 1 + 1, 2, none⟩ = false → w'.heap[w.heap.size]? = wr.heap[w.heap.size]? → w'.heap[bb]? = wr.heap[bb]? → w'.frozen? ⟨w.heap.size + 1 + 1, 2, none⟩ = false ∧ w'.cell? ⟨w.heap.size, 2, none⟩ = some (.slice (some ⟨bb, oo, none⟩) s.fs.length c) ∧ w'.cell? ⟨bb, oo + k * 5, none⟩ = some (.int .i64 x.n) ∧ w'.cell? ⟨bb, oo + k * 5 + 1, none⟩ = some (.int .i64 x.level) ∧ w'.cell? ⟨bb, oo + k * 5 + 2, none⟩ = some (.int .i64 x.count) ∧ w'.cell? ⟨bb, oo + k * 5 + 3, none⟩ = some (.string x.first) ∧ w'.cell? ⟨bb, oo + k * 5 + 4, none⟩ = some (.string x.last) from fun w' hf h1 h2 =>
        ⟨hf, (World.cell?_of_block (w := wr) (a := ⟨w.heap.size, 2, none⟩) h1).trans v1, (World.cell?_of_block (w := wr) (a := ⟨bb, _, none⟩) h2).trans p0, (World.cell?_of_block (w := wr) (a := ⟨bb, _, none⟩) h2).trans p1, (World.cell?_of_block (w := wr) (a := ⟨bb, _, none⟩) h2).trans p2, (World.cell?_of_block (w := wr) (a := ⟨bb, _, none⟩) h2).trans p3, (World.cell?_of_block (w := wr) (a := ⟨bb, _, none⟩) h2).trans p4⟩)
      have HFar := Lib.hid (show ∀ (Wx w10 : World), RwM 38 35 (fun v => #[.int .i64 s.next, .int .i64 s.log, v]) W0 Wx (w.heap.size + 1 + 1) (.slice ua cur.length uc) cur → (∀ k, k < Wx.heap.size → (Value.slice ua cur.length uc).ownBlock ≠ some k → w10.heap[k]? = Wx.heap[k]?) → Wx.heap[w.heap.size]? = wr.heap[w.heap.size]? → Wx.heap[bb]? = wr.heap[bb]? → w10.heap[w.heap.size]? = wr.heap[w.heap.size]? ∧ w10.heap[bb]? = wr.heap[bb]? from fun Wx w10 hx hoth e1 e2 => by
        have l0 : ∀ k, k < W0.heap.size → (Value.slice ua cur.length uc).ownBlock ≠ some k := fun k hk e => by have := (hx.own.lt k e).1; omega
        have ls := hx.kept.size
        exact ⟨(hoth _ (by omega) (l0 _ (by omega))).trans e1, (hoth _ (by have := HB0.out.size; omega) (l0 _ (by have := HB0.out.size; omega))).trans e2⟩)
      go_upto_region 5 with (fail)
      refine wp_region_noPanic ?_
      refine wp_region_held_drew (S := (fun w' => w'.frozen? ⟨w.heap.size + 1 + 1, 2, none⟩ = false ∧ w'.cell? ⟨w.heap.size, 2, none⟩ = some (.slice (some ⟨bb, oo, none⟩) s.fs.length c) ∧ w'.cell? ⟨bb, oo + k * 5, none⟩ = some (.int .i64 x.n) ∧ w'.cell? ⟨bb, oo + k * 5 + 1, none⟩ = some (.int .i64 x.level) ∧ w'.cell? ⟨bb, oo + k * 5 + 2, none⟩ = some (.int .i64 x.count) ∧ w'.cell? ⟨bb, oo + k * 5 + 3, none⟩ = some (.string x.first) ∧ w'.cell? ⟨bb, oo + k * 5 + 4, none⟩ = some (.string x.last))) (by kernel_rfl) (by (first | exact HSt.out _ f3 rfl rfl | exact HSt.out _ ((HM.out.drew.alloc _).fz _) (Below.heap_alloc wr.drew _ _ hwl) (Below.heap_alloc wr.drew _ _ hblt) | exact HSt.out _ ((HM.out.alloc _).drew.fz _) (Below.heap_alloc wr _ _ hwl) (Below.heap_alloc wr _ _ hblt) | exact HSt.out _ y10 (X10 (Below.heap_alloc _ _ _ hwl) (Below.heap_alloc _ _ _ hblt)).1 (X10 (Below.heap_alloc _ _ _ hwl) (Below.heap_alloc _ _ _ hblt)).2 | exact HSt.out _ (hP.fz _) ((Below.heap_setCell _ _ _ _ (by show _ ≠ w.heap.size + 1 + 1; omega)).trans (X10 (Below.heap_alloc _ _ _ hwl) (Below.heap_alloc _ _ _ hblt)).1) ((Below.heap_setCell _ _ _ _ (by show _ ≠ w.heap.size + 1 + 1; omega)).trans (X10 (Below.heap_alloc _ _ _ hwl) (Below.heap_alloc _ _ _ hblt)).2) | assumption)) (fun hHeld => ?_)
      refine wpAnyH_take (i := 0) (oi := { dst := Option.some 17, op := Op.fieldAddr 38 (Operand.tmp 3) 2, type := 0, pos := _, after := #[], guard := Option.none }) (v := ?_) rfl (by kernel_rfl) (by kernel_rfl) (by kernel_rfl) (fun _ _ _ h => h) (Or.inl ⟨by rfl, ?_⟩) (by assumption) ?_
      rotate_left
      · (intro wS hSw; (try dsimp only at hSw); go_simp; try with_reducible rfl)
      try simp only [Act.put, List.setIfInBounds_toArray, List.set_cons_zero, List.set_cons_succ]
      refine wpAnyH_take (i := 2) (oi := { dst := Option.some 19, op := Op.fieldAddr 24 (Operand.tmp 1) 2, type := 0, pos := _, after := #[], guard := Option.none }) (v := ?_) rfl (by kernel_rfl) (by kernel_rfl) (by kernel_rfl) (fun _ _ _ h => h) (Or.inl ⟨by rfl, ?_⟩) (by assumption) ?_
      rotate_left
      · (intro wS hSw; (try dsimp only at hSw); go_simp; try with_reducible rfl)
      try simp only [Act.put, List.setIfInBounds_toArray, List.set_cons_zero, List.set_cons_succ]
      refine wpAnyH_take (i := 3) (oi := { dst := Option.some 20, op := Op.load 22 (Operand.tmp 19), type := 22, pos := _, after := #[{ on := 2, ground := Ground.data }], guard := Option.none }) (v := ?_) rfl (by kernel_rfl) (by kernel_rfl) (by kernel_rfl) (fun _ _ _ h => h) (Or.inl ⟨by rfl, ?_⟩) (by assumption) ?_
      rotate_left
      · (intro wS hSw; (try dsimp only at hSw); go_simp; try with_reducible rfl)
      try simp only [Act.put, List.setIfInBounds_toArray, List.set_cons_zero, List.set_cons_succ]
      refine wpAnyH_take (i := 4) (oi := { dst := Option.some 21, op := Op.move (Operand.tmp 4), type := 3, pos := _, after := #[], guard := Option.none }) (v := ?_) rfl (by kernel_rfl) (by kernel_rfl) (by kernel_rfl) (fun _ _ _ h => h) (Or.inl ⟨by rfl, ?_⟩) (by assumption) ?_
      rotate_left
      · (intro wS hSw; (try dsimp only at hSw); go_simp; try with_reducible rfl)
      try simp only [Act.put, List.setIfInBounds_toArray, List.set_cons_zero, List.set_cons_succ]
      refine wpAnyH_take (i := 5) (oi := { dst := Option.some 22, op := Op.indexAddr 22 (Operand.tmp 20) (Operand.tmp 21), type := 0, pos := _, after := #[{ on := 3, ground := Ground.data }, { on := 4, ground := Ground.data }], guard := Option.none }) (v := ?_) rfl (by kernel_rfl) (by kernel_rfl) (by kernel_rfl) (fun _ _ _ h => h) (Or.inl ⟨by rfl, ?_⟩) (by assumption) ?_
      rotate_left
      · (intro wS hSw; (try dsimp only at hSw); go_simp; try with_reducible rfl)
      try simp only [Act.put, List.setIfInBounds_toArray, List.set_cons_zero, List.set_cons_succ]
      refine wpAnyH_take (i := 6) (oi := { dst := Option.some 23, op := Op.load 29 (Operand.tmp 22), type := 29, pos := _, after := #[{ on := 5, ground := Ground.data }], guard := Option.none }) (v := ?_) rfl (by kernel_rfl) (by kernel_rfl) (by kernel_rfl) (fun _ _ _ h => h) (Or.inl ⟨by rfl, ?_⟩) (by assumption) ?_
      rotate_left
      · (intro wS hSw; (try dsimp only at hSw); go_simp; try with_reducible rfl)
      try simp only [Act.put, List.setIfInBounds_toArray, List.set_cons_zero, List.set_cons_succ]
      refine wpAnyH_ready (rs := [1, 7]) (by kernel_rfl) (by simp) ?_
      refine AllReadyH.cons (o := { dst := Option.some 18, op := Op.load 36 (Operand.tmp 17), type := 36, pos := _, after := #[{ on := 0, ground := Ground.data }], guard := Option.none }) rfl (fun K hK => ?_) ?_
      · go_simp
        refine hK.out _ _ (by (first | exact HSt.out _ f3 rfl rfl | exact HSt.out _ ((HM.out.drew.alloc _).fz _) (Below.heap_alloc wr.drew _ _ hwl) (Below.heap_alloc wr.drew _ _ hblt) | exact HSt.out _ ((HM.out.alloc _).drew.fz _) (Below.heap_alloc wr _ _ hwl) (Below.heap_alloc wr _ _ hblt) | exact HSt.out _ y10 (X10 (Below.heap_alloc _ _ _ hwl) (Below.heap_alloc _ _ _ hblt)).1 (X10 (Below.heap_alloc _ _ _ hwl) (Below.heap_alloc _ _ _ hblt)).2 | exact HSt.out _ (hP.fz _) ((Below.heap_setCell _ _ _ _ (by show _ ≠ w.heap.size + 1 + 1; omega)).trans (X10 (Below.heap_alloc _ _ _ hwl) (Below.heap_alloc _ _ _ hblt)).1) ((Below.heap_setCell _ _ _ _ (by show _ ≠ w.heap.size + 1 + 1; omega)).trans (X10 (Below.heap_alloc _ _ _ hwl) (Below.heap_alloc _ _ _ hblt)).2) | assumption)) (fun hHeld => ?_)
        clear hK K
        try simp only [Act.put, List.setIfInBounds_toArray, List.set_cons_zero, List.set_cons_succ]
        refine wpAnyH_ready (rs := [7]) (by kernel_rfl) (by simp) ?_
        refine AllReadyH.cons (o := { dst := Option.some 24, op := Op.buildSlice 36 1 #[(0, Operand.tmp 23)], type := 36, pos := _, after := #[{ on := 6, ground := Ground.data }], guard := Option.none }) rfl (fun K hK => ?_) ?_
        · go_simp
          refine hK.out _ _ (by (first | exact HSt.out _ f3 rfl rfl | exact HSt.out _ ((HM.out.drew.alloc _).fz _) (Below.heap_alloc wr.drew _ _ hwl) (Below.heap_alloc wr.drew _ _ hblt) | exact HSt.out _ ((HM.out.alloc _).drew.fz _) (Below.heap_alloc wr _ _ hwl) (Below.heap_alloc wr _ _ hblt) | exact HSt.out _ y10 (X10 (Below.heap_alloc _ _ _ hwl) (Below.heap_alloc _ _ _ hblt)).1 (X10 (Below.heap_alloc _ _ _ hwl) (Below.heap_alloc _ _ _ hblt)).2 | exact HSt.out _ (hP.fz _) ((Below.heap_setCell _ _ _ _ (by show _ ≠ w.heap.size + 1 + 1; omega)).trans (X10 (Below.heap_alloc _ _ _ hwl) (Below.heap_alloc _ _ _ hblt)).1) ((Below.heap_setCell _ _ _ _ (by show _ ≠ w.heap.size + 1 + 1; omega)).trans (X10 (Below.heap_alloc _ _ _ hwl) (Below.heap_alloc _ _ _ hblt)).2) | assumption)) (fun hHeld => ?_)
          clear hK K
          try simp only [Act.put, List.setIfInBounds_toArray, List.set_cons_zero, List.set_cons_succ]
          refine wpAnyH_ready (rs := [8]) (by kernel_rfl) (by simp) ?_
          refine AllReadyH.cons (o := { dst := Option.some 25, op := Op.call { callee := Callee.builtin Builtin.append, args := #[Operand.tmp 18, Operand.tmp 24], argTypes := #[36, 36] }, type := 36, pos := _, after := #[{ on := 1, ground := Ground.data }, { on := 7, ground := Ground.data }], guard := Option.none }) rfl (fun K hK => ?_) ?_
          · (first | (refine step_append_lies _ (by rfl) _ _ _ (by rfl) _ 35 i9 (.agg #[.int .i64 0, .int .i64 0, .int .i64 0, .string ⟨#[]⟩, .string ⟨#[]⟩]) 5 56 Tryz.underlying36 hi9 hz90 hz91 hz92 rfl (by decide) _ cur.length (rcells cur) (by rfl) (HM.out.drew.alloc _).own ⟨wr.heap.size, 0, none⟩ 1 1 (ficells x) (by rfl) (by rfl) (World.news_of_block (cs := #[.int .i64 x.n, .int .i64 x.level, .int .i64 x.count, .string x.first, .string x.last]) (t := 35) (fr := (0, 0)) (heap_alloc_new wr.drew _)) HONE.out Nat.one_pos (by unfold maxLen; omega) (by omega) (HM.out.drew.alloc _).kept.size _ rfl ?_; intro gg cap3 w10 hown1 hgrow hat hlt9; obtain ⟨⟨y10, z10⟩, hoth, hP⟩ := (HM.out.drew.alloc _).push 2 (fun _ _ => rfl) (fun _ => rfl) hgrow hown1; have X10 := HFar.out _ _ (HM.out.drew.alloc _) hoth) | (refine step_append_lies _ (by rfl) _ _ _ (by rfl) _ 35 i9 (.agg #[.int .i64 0, .int .i64 0, .int .i64 0, .string ⟨#[]⟩, .string ⟨#[]⟩]) 5 56 Tryz.underlying36 hi9 hz90 hz91 hz92 rfl (by decide) _ cur.length (rcells cur) (by rfl) ((HM.out.alloc _).drew).own ⟨wr.heap.size, 0, none⟩ 1 1 (ficells x) (by rfl) (by rfl) (World.news_of_block (cs := #[.int .i64 x.n, .int .i64 x.level, .int .i64 x.count, .string x.first, .string x.last]) (t := 35) (fr := (0, 0)) (heap_alloc_new wr _)) HONE.out Nat.one_pos (by unfold maxLen; omega) (by omega) ((HM.out.alloc _).drew).kept.size _ rfl ?_; intro gg cap3 w10 hown1 hgrow hat hlt9; obtain ⟨⟨y10, z10⟩, hoth, hP⟩ := ((HM.out.alloc _).drew).push 2 (fun _ _ => rfl) (fun _ => rfl) hgrow hown1; have X10 := HFar.out _ _ ((HM.out.alloc _).drew) hoth))
            refine hK.out _ _ (by (first | exact HSt.out _ f3 rfl rfl | exact HSt.out _ ((HM.out.drew.alloc _).fz _) (Below.heap_alloc wr.drew _ _ hwl) (Below.heap_alloc wr.drew _ _ hblt) | exact HSt.out _ ((HM.out.alloc _).drew.fz _) (Below.heap_alloc wr _ _ hwl) (Below.heap_alloc wr _ _ hblt) | exact HSt.out _ y10 (X10 (Below.heap_alloc _ _ _ hwl) (Below.heap_alloc _ _ _ hblt)).1 (X10 (Below.heap_alloc _ _ _ hwl) (Below.heap_alloc _ _ _ hblt)).2 | exact HSt.out _ (hP.fz _) ((Below.heap_setCell _ _ _ _ (by show _ ≠ w.heap.size + 1 + 1; omega)).trans (X10 (Below.heap_alloc _ _ _ hwl) (Below.heap_alloc _ _ _ hblt)).1) ((Below.heap_setCell _ _ _ _ (by show _ ≠ w.heap.size + 1 + 1; omega)).trans (X10 (Below.heap_alloc _ _ _ hwl) (Below.heap_alloc _ _ _ hblt)).2) | assumption)) (fun hHeld => ?_)
            clear hK K
            try simp only [Act.put, List.setIfInBounds_toArray, List.set_cons_zero, List.set_cons_succ]
            refine wpAnyH_take (i := 9) (oi := { dst := Option.some 26, op := Op.fieldAddr 38 (Operand.tmp 3) 2, type := 0, pos := _, after := #[{ on := 0, ground := Ground.phase }, { on := 1, ground := Ground.phase }, { on := 2, ground := Ground.phase }, { on := 3, ground := Ground.phase }, { on := 4, ground := Ground.phase }, { on := 5, ground := Ground.phase }, { on := 6, ground := Ground.phase }, { on := 7, ground := Ground.phase }, { on := 8, ground := Ground.phase }], guard := Option.none }) (v := ?_) rfl (by kernel_rfl) (by kernel_rfl) (by kernel_rfl) (fun _ _ _ h => h) (Or.inl ⟨by rfl, ?_⟩) (by assumption) ?_
            rotate_left
            · (intro wS hSw; (try dsimp only at hSw); go_simp; try with_reducible rfl)
            try simp only [Act.put, List.setIfInBounds_toArray, List.set_cons_zero, List.set_cons_succ]
            refine wpAnyH_ready (rs := [10]) (by kernel_rfl) (by simp) ?_
            refine AllReadyH.cons (o := { dst := Option.none, op := Op.store 36 (Operand.tmp 26) (Operand.tmp 25), type := 0, pos := _, after := #[{ on := 9, ground := Ground.data }, { on := 8, ground := Ground.data }, { on := 8, ground := Ground.chain }, { on := 0, ground := Ground.phase }, { on := 1, ground := Ground.phase }, { on := 2, ground := Ground.phase }, { on := 3, ground := Ground.phase }, { on := 4, ground := Ground.phase }, { on := 5, ground := Ground.phase }, { on := 6, ground := Ground.phase }, { on := 7, ground := Ground.phase }, { on := 8, ground := Ground.phase }], guard := Option.none }) rfl (fun K hK => ?_) ?_
            · go_simp
              refine hK.out _ _ (by (first | exact HSt.out _ f3 rfl rfl | exact HSt.out _ ((HM.out.drew.alloc _).fz _) (Below.heap_alloc wr.drew _ _ hwl) (Below.heap_alloc wr.drew _ _ hblt) | exact HSt.out _ ((HM.out.alloc _).drew.fz _) (Below.heap_alloc wr _ _ hwl) (Below.heap_alloc wr _ _ hblt) | exact HSt.out _ y10 (X10 (Below.heap_alloc _ _ _ hwl) (Below.heap_alloc _ _ _ hblt)).1 (X10 (Below.heap_alloc _ _ _ hwl) (Below.heap_alloc _ _ _ hblt)).2 | exact HSt.out _ (hP.fz _) ((Below.heap_setCell _ _ _ _ (by show _ ≠ w.heap.size + 1 + 1; omega)).trans (X10 (Below.heap_alloc _ _ _ hwl) (Below.heap_alloc _ _ _ hblt)).1) ((Below.heap_setCell _ _ _ _ (by show _ ≠ w.heap.size + 1 + 1; omega)).trans (X10 (Below.heap_alloc _ _ _ hwl) (Below.heap_alloc _ _ _ hblt)).2) | assumption)) (fun hHeld => ?_)
              clear hK K
              try simp only [Act.put, List.setIfInBounds_toArray, List.set_cons_zero, List.set_cons_succ]
              refine wpAnyH_done (by kernel_rfl) ?_ _
              refine NoPanic.normal ?_
              have HPP := Lib.hid hP
              clear hP hown1 hgrow
              go_wp2_with fail
              exact ⟨⟨k + 1, by omega, by go_num, by rw [HS.out]; exact ⟨_, HPP.out⟩⟩, by simp [intOf]; omega⟩
            exact AllReadyH.nil
          exact AllReadyH.nil
        exact AllReadyH.nil
      refine AllReadyH.cons (o := { dst := Option.some 24, op := Op.buildSlice 36 1 #[(0, Operand.tmp 23)], type := 36, pos := _, after := #[{ on := 6, ground := Ground.data }], guard := Option.none }) rfl (fun K hK => ?_) ?_
      · go_simp
        refine hK.out _ _ (by (first | exact HSt.out _ f3 rfl rfl | exact HSt.out _ ((HM.out.drew.alloc _).fz _) (Below.heap_alloc wr.drew _ _ hwl) (Below.heap_alloc wr.drew _ _ hblt) | exact HSt.out _ ((HM.out.alloc _).drew.fz _) (Below.heap_alloc wr _ _ hwl) (Below.heap_alloc wr _ _ hblt) | exact HSt.out _ y10 (X10 (Below.heap_alloc _ _ _ hwl) (Below.heap_alloc _ _ _ hblt)).1 (X10 (Below.heap_alloc _ _ _ hwl) (Below.heap_alloc _ _ _ hblt)).2 | exact HSt.out _ (hP.fz _) ((Below.heap_setCell _ _ _ _ (by show _ ≠ w.heap.size + 1 + 1; omega)).trans (X10 (Below.heap_alloc _ _ _ hwl) (Below.heap_alloc _ _ _ hblt)).1) ((Below.heap_setCell _ _ _ _ (by show _ ≠ w.heap.size + 1 + 1; omega)).trans (X10 (Below.heap_alloc _ _ _ hwl) (Below.heap_alloc _ _ _ hblt)).2) | assumption)) (fun hHeld => ?_)
        clear hK K
        try simp only [Act.put, List.setIfInBounds_toArray, List.set_cons_zero, List.set_cons_succ]
        refine wpAnyH_ready (rs := [1]) (by kernel_rfl) (by simp) ?_
        refine AllReadyH.cons (o := { dst := Option.some 18, op := Op.load 36 (Operand.tmp 17), type := 36, pos := _, after := #[{ on := 0, ground := Ground.data }], guard := Option.none }) rfl (fun K hK => ?_) ?_
        · go_simp
          refine hK.out _ _ (by (first | exact HSt.out _ f3 rfl rfl | exact HSt.out _ ((HM.out.drew.alloc _).fz _) (Below.heap_alloc wr.drew _ _ hwl) (Below.heap_alloc wr.drew _ _ hblt) | exact HSt.out _ ((HM.out.alloc _).drew.fz _) (Below.heap_alloc wr _ _ hwl) (Below.heap_alloc wr _ _ hblt) | exact HSt.out _ y10 (X10 (Below.heap_alloc _ _ _ hwl) (Below.heap_alloc _ _ _ hblt)).1 (X10 (Below.heap_alloc _ _ _ hwl) (Below.heap_alloc _ _ _ hblt)).2 | exact HSt.out _ (hP.fz _) ((Below.heap_setCell _ _ _ _ (by show _ ≠ w.heap.size + 1 + 1; omega)).trans (X10 (Below.heap_alloc _ _ _ hwl) (Below.heap_alloc _ _ _ hblt)).1) ((Below.heap_setCell _ _ _ _ (by show _ ≠ w.heap.size + 1 + 1; omega)).trans (X10 (Below.heap_alloc _ _ _ hwl) (Below.heap_alloc _ _ _ hblt)).2) | assumption)) (fun hHeld => ?_)
          clear hK K
          try simp only [Act.put, List.setIfInBounds_toArray, List.set_cons_zero, List.set_cons_succ]
          refine wpAnyH_ready (rs := [8]) (by kernel_rfl) (by simp) ?_
          refine AllReadyH.cons (o := { dst := Option.some 25, op := Op.call { callee := Callee.builtin Builtin.append, args := #[Operand.tmp 18, Operand.tmp 24], argTypes := #[36, 36] }, type := 36, pos := _, after := #[{ on := 1, ground := Ground.data }, { on := 7, ground := Ground.data }], guard := Option.none }) rfl (fun K hK => ?_) ?_
          · (first | (refine step_append_lies _ (by rfl) _ _ _ (by rfl) _ 35 i9 (.agg #[.int .i64 0, .int .i64 0, .int .i64 0, .string ⟨#[]⟩, .string ⟨#[]⟩]) 5 56 Tryz.underlying36 hi9 hz90 hz91 hz92 rfl (by decide) _ cur.length (rcells cur) (by rfl) (HM.out.drew.alloc _).own ⟨wr.heap.size, 0, none⟩ 1 1 (ficells x) (by rfl) (by rfl) (World.news_of_block (cs := #[.int .i64 x.n, .int .i64 x.level, .int .i64 x.count, .string x.first, .string x.last]) (t := 35) (fr := (0, 0)) (heap_alloc_new wr.drew _)) HONE.out Nat.one_pos (by unfold maxLen; omega) (by omega) (HM.out.drew.alloc _).kept.size _ rfl ?_; intro gg cap3 w10 hown1 hgrow hat hlt9; obtain ⟨⟨y10, z10⟩, hoth, hP⟩ := (HM.out.drew.alloc _).push 2 (fun _ _ => rfl) (fun _ => rfl) hgrow hown1; have X10 := HFar.out _ _ (HM.out.drew.alloc _) hoth) | (refine step_append_lies _ (by rfl) _ _ _ (by rfl) _ 35 i9 (.agg #[.int .i64 0, .int .i64 0, .int .i64 0, .string ⟨#[]⟩, .string ⟨#[]⟩]) 5 56 Tryz.underlying36 hi9 hz90 hz91 hz92 rfl (by decide) _ cur.length (rcells cur) (by rfl) ((HM.out.alloc _).drew).own ⟨wr.heap.size, 0, none⟩ 1 1 (ficells x) (by rfl) (by rfl) (World.news_of_block (cs := #[.int .i64 x.n, .int .i64 x.level, .int .i64 x.count, .string x.first, .string x.last]) (t := 35) (fr := (0, 0)) (heap_alloc_new wr _)) HONE.out Nat.one_pos (by unfold maxLen; omega) (by omega) ((HM.out.alloc _).drew).kept.size _ rfl ?_; intro gg cap3 w10 hown1 hgrow hat hlt9; obtain ⟨⟨y10, z10⟩, hoth, hP⟩ := ((HM.out.alloc _).drew).push 2 (fun _ _ => rfl) (fun _ => rfl) hgrow hown1; have X10 := HFar.out _ _ ((HM.out.alloc _).drew) hoth))
            refine hK.out _ _ (by (first | exact HSt.out _ f3 rfl rfl | exact HSt.out _ ((HM.out.drew.alloc _).fz _) (Below.heap_alloc wr.drew _ _ hwl) (Below.heap_alloc wr.drew _ _ hblt) | exact HSt.out _ ((HM.out.alloc _).drew.fz _) (Below.heap_alloc wr _ _ hwl) (Below.heap_alloc wr _ _ hblt) | exact HSt.out _ y10 (X10 (Below.heap_alloc _ _ _ hwl) (Below.heap_alloc _ _ _ hblt)).1 (X10 (Below.heap_alloc _ _ _ hwl) (Below.heap_alloc _ _ _ hblt)).2 | exact HSt.out _ (hP.fz _) ((Below.heap_setCell _ _ _ _ (by show _ ≠ w.heap.size + 1 + 1; omega)).trans (X10 (Below.heap_alloc _ _ _ hwl) (Below.heap_alloc _ _ _ hblt)).1) ((Below.heap_setCell _ _ _ _ (by show _ ≠ w.heap.size + 1 + 1; omega)).trans (X10 (Below.heap_alloc _ _ _ hwl) (Below.heap_alloc _ _ _ hblt)).2) | assumption)) (fun hHeld => ?_)
            clear hK K
            try simp only [Act.put, List.setIfInBounds_toArray, List.set_cons_zero, List.set_cons_succ]
            refine wpAnyH_take (i := 9) (oi := { dst := Option.some 26, op := Op.fieldAddr 38 (Operand.tmp 3) 2, type := 0, pos := _, after := #[{ on := 0, ground := Ground.phase }, { on := 1, ground := Ground.phase }, { on := 2, ground := Ground.phase }, { on := 3, ground := Ground.phase }, { on := 4, ground := Ground.phase }, { on := 5, ground := Ground.phase }, { on := 6, ground := Ground.phase }, { on := 7, ground := Ground.phase }, { on := 8, ground := Ground.phase }], guard := Option.none }) (v := ?_) rfl (by kernel_rfl) (by kernel_rfl) (by kernel_rfl) (fun _ _ _ h => h) (Or.inl ⟨by rfl, ?_⟩) (by assumption) ?_
            rotate_left
            · (intro wS hSw; (try dsimp only at hSw); go_simp; try with_reducible rfl)
            try simp only [Act.put, List.setIfInBounds_toArray, List.set_cons_zero, List.set_cons_succ]
            refine wpAnyH_ready (rs := [10]) (by kernel_rfl) (by simp) ?_
            refine AllReadyH.cons (o := { dst := Option.none, op := Op.store 36 (Operand.tmp 26) (Operand.tmp 25), type := 0, pos := _, after := #[{ on := 9, ground := Ground.data }, { on := 8, ground := Ground.data }, { on := 8, ground := Ground.chain }, { on := 0, ground := Ground.phase }, { on := 1, ground := Ground.phase }, { on := 2, ground := Ground.phase }, { on := 3, ground := Ground.phase }, { on := 4, ground := Ground.phase }, { on := 5, ground := Ground.phase }, { on := 6, ground := Ground.phase }, { on := 7, ground := Ground.phase }, { on := 8, ground := Ground.phase }], guard := Option.none }) rfl (fun K hK => ?_) ?_
            · go_simp
              refine hK.out _ _ (by (first | exact HSt.out _ f3 rfl rfl | exact HSt.out _ ((HM.out.drew.alloc _).fz _) (Below.heap_alloc wr.drew _ _ hwl) (Below.heap_alloc wr.drew _ _ hblt) | exact HSt.out _ ((HM.out.alloc _).drew.fz _) (Below.heap_alloc wr _ _ hwl) (Below.heap_alloc wr _ _ hblt) | exact HSt.out _ y10 (X10 (Below.heap_alloc _ _ _ hwl) (Below.heap_alloc _ _ _ hblt)).1 (X10 (Below.heap_alloc _ _ _ hwl) (Below.heap_alloc _ _ _ hblt)).2 | exact HSt.out _ (hP.fz _) ((Below.heap_setCell _ _ _ _ (by show _ ≠ w.heap.size + 1 + 1; omega)).trans (X10 (Below.heap_alloc _ _ _ hwl) (Below.heap_alloc _ _ _ hblt)).1) ((Below.heap_setCell _ _ _ _ (by show _ ≠ w.heap.size + 1 + 1; omega)).trans (X10 (Below.heap_alloc _ _ _ hwl) (Below.heap_alloc _ _ _ hblt)).2) | assumption)) (fun hHeld => ?_)
              clear hK K
              try simp only [Act.put, List.setIfInBounds_toArray, List.set_cons_zero, List.set_cons_succ]
              refine wpAnyH_done (by kernel_rfl) ?_ _
              refine NoPanic.normal ?_
              have HPP := Lib.hid hP
              clear hP hown1 hgrow
              go_wp2_with fail
              exact ⟨⟨k + 1, by omega, by go_num, by rw [HS.out]; exact ⟨_, HPP.out⟩⟩, by simp [intOf]; omega⟩
            exact AllReadyH.nil
          exact AllReadyH.nil
        exact AllReadyH.nil
      exact AllReadyH.nil
    · rw [List.take_of_length_le (by omega)] at hM
      have hj := hM.sb
      have HM := Lib.hid hM
      have k2 : wr.heap[w.heap.size + 1]? = some (.cells #[.int .i64 0, .int .i64 0, .slice none 0 0] 38 (0, 0)) := (hM.kept.block _ (by omega) (by simp)).trans K2.out
      clear hM HCUR j1
      have m0 : wr.cell? ⟨w.heap.size + 1 + 1, 0, none⟩ = some (.int .i64 s.next) := HM.out.cell (by rfl)
      have m1 : wr.cell? ⟨w.heap.size + 1 + 1, 1, none⟩ = some (.int .i64 s.log) := HM.out.cell (by rfl)
      have m2 : wr.cell? ⟨w.heap.size + 1 + 1, 2, none⟩ = some (.slice ua s.fs.length uc) := HM.out.cell (by rfl)
      have g0 : wr.cell? ⟨w.heap.size + 1, 0, none⟩ = some (.int .i64 0) := by simp [World.cell?, k2]
      have g1 : wr.cell? ⟨w.heap.size + 1, 1, none⟩ = some (.int .i64 0) := by simp [World.cell?, k2]
      have g2 : wr.cell? ⟨w.heap.size + 1, 2, none⟩ = some (.slice none 0 0) := by simp [World.cell?, k2]
      have gz : ∀ o, wr.frozen? ⟨w.heap.size + 1, o, none⟩ = false := fun o => by simp [World.frozen?, k2]
      have hwl : w.heap.size + 1 + 1 < wr.heap.size := heap_lt hj
      have HJ := Lib.hid k2
      clear hj k2
      go_wp2_with fail
      refine bodyPost_ret (v := .agg #[.int .i64 s.next, .int .i64 s.log, .slice ua s.fs.length uc]) (by simp [results, Tryz.results21, go_sem, g0, g1, g2]) rfl ⟨.slice ua s.fs.length uc, rfl, ?_, ?_⟩
      · have hn := own_typeR (T' := 38) HM.out.own HJ.out (by decide)
        exact ownsRow_setCell_other (ownsRow_setCell_other (ownsRow_setCell_other (own_base HM.out.own (by omega)) hn _) hn _) hn _
      · exact (((HB0.out.trans (HM.out.kept.below (by omega) (by simp; omega))).setCell (by show w.heap.size ≤ w.heap.size + 1; omega) _).setCell (by show w.heap.size ≤ w.heap.size + 1; omega) _).setCell (by show w.heap.size ≤ w.heap.size + 1; omega) _

set_option maxRecDepth 100000 in
set_option maxHeartbeats 4000000 in
theorem ledit_any (S : Nat → Prop) (S2 : Nat → Prop) (w : World) (s : Ed) (v vd : Value) (h : FRow S w v s.add) (h2 : IRow S2 w vd s.drop) (hL : s.add.length ≤ 1000000) : Calls Tryz.prog 22 #[edv vd v s.next s.log] w fun e w' => ∃ u, e = .returned (edv vd u s.next s.log) ∧ w'.ownsRow w.heap.size 35 5 u s.add.length (rcells s.add) ∧ Below w.heap.size w w' := by
  have HF := Lib.hid h
  obtain ⟨⟨a2, kc2, rfl, p1, p2, p3, p4⟩⟩ := h2
  clear p3 p4
  obtain ⟨⟨a, c, rfl, q1, q2, q3, q4⟩, qk⟩ := h
  have HQ := Lib.hid q4
  clear q3 q4 qk
  unfold edv
  obtain ⟨W0, hW0⟩ : ∃ W0, ((w.alloc (.cells #[.slice a2 s.drop.length kc2, .slice a s.add.length c, .int .i64 s.next, .int .i64 s.log] 33)).alloc (.cells #[.slice none 0 0, .slice none 0 0, .int .i64 0, .int .i64 0] 58)).alloc (.cells #[.slice a2 s.drop.length kc2, .slice none 0 0, .int .i64 s.next, .int .i64 s.log] 58) = W0 := ⟨_, rfl⟩
  have hz : W0.heap.size = w.heap.size + 3 := by rw [← hW0]; simp
  have k1 : W0.heap[w.heap.size]? = some (.cells #[.slice a2 s.drop.length kc2, .slice a s.add.length c, .int .i64 s.next, .int .i64 s.log] 33 (0, 0)) := by rw [← hW0, Below.heap_alloc _ _ _ (by simp; omega), Below.heap_alloc _ _ _ (by simp)]; exact heap_alloc_new w _
  have k2 : W0.heap[w.heap.size + 1]? = some (.cells #[.slice none 0 0, .slice none 0 0, .int .i64 0, .int .i64 0] 58 (0, 0)) := by
    rw [← hW0, Below.heap_alloc _ _ _ (by simp)]
    have := heap_alloc_new (w.alloc (.cells #[.slice a2 s.drop.length kc2, .slice a s.add.length c, .int .i64 s.next, .int .i64 s.log] 33)) (.cells #[.slice none 0 0, .slice none 0 0, .int .i64 0, .int .i64 0] 58)
    rwa [World.size_alloc] at this
  have k3 : W0.heap[w.heap.size + 1 + 1]? = some (.cells #[.slice a2 s.drop.length kc2, .slice none 0 0, .int .i64 s.next, .int .i64 s.log] 58 (0, 0)) := by
    rw [← hW0]
    have := heap_alloc_new ((w.alloc (.cells #[.slice a2 s.drop.length kc2, .slice a s.add.length c, .int .i64 s.next, .int .i64 s.log] 33)).alloc (.cells #[.slice none 0 0, .slice none 0 0, .int .i64 0, .int .i64 0] 58)) (.cells #[.slice a2 s.drop.length kc2, .slice none 0 0, .int .i64 s.next, .int .i64 s.log] 58)
    rwa [World.size_alloc, World.size_alloc] at this
  have HB0 := Lib.hid (show Below w.heap.size w W0 by rw [← hW0]; exact bl3 _ _ _ _)
  have HW := Lib.hid hW0
  have K1 := Lib.hid k1
  have K2 := Lib.hid k2
  have K3 := Lib.hid k3
  clear hW0 k1 k2 k3
  go_enter Tryz.func22, Tryz.ntmps22
  go_wp2_with fail
  rw [HW.out]
  go_loopw [4] (fun i wr => ∃ k : Nat, k ≤ s.add.length ∧ i = .int .i64 k ∧ Hid (∃ u, RwM 58 35 (fun v => #[.slice a2 s.drop.length kc2, v, .int .i64 s.next, .int .i64 s.log]) W0 wr (w.heap.size + 1 + 1) u (s.add.take k))) (fun i _ => s.add.length - (intOf i).toNat)
  case atStart => exact ⟨0, by omega, rfl, _, ⟨K3.out, World.ownsRow_nil _ _ _ _, But.refl _ _, by omega⟩⟩
  case round =>
    obtain ⟨k, hk, rfl, HCUR⟩ := hrel
    obtain ⟨u, hM⟩ := HCUR.out
    obtain ⟨ua, uc, rfl⟩ := own_slice hM.own
    have j1 : wr.heap[w.heap.size]? = some (.cells #[.slice a2 s.drop.length kc2, .slice a s.add.length c, .int .i64 s.next, .int .i64 s.log] 33 (0, 0)) := (hM.kept.block _ (by omega) (by simp; omega)).trans K1.out
    have v1 : wr.cell? ⟨w.heap.size, 1, none⟩ = some (.slice a s.add.length c) := by simp [World.cell?, j1]
    by_cases hlt : k < s.add.length
    · obtain ⟨bb, oo, rfl, _, hb1, hc1⟩ := HQ.out (by omega)
      have hfi : FiAt wr bb (oo + k * 5) s.add[k] := (hc1 k hlt).block ((hM.kept.block bb (by omega) (by simp; omega)).trans (HB0.out.block bb hb1))
      have HS := Lib.hid (show s.add.take (k + 1) = s.add.take k ++ [s.add[k]] from List.take_succ_eq_append_getElem hlt)
      have htl : (s.add.take k).length ≤ 1000000 := by rw [List.length_take]; omega
      have v3 : wr.cell? ⟨w.heap.size + 1 + 1, 1, none⟩ = some (.slice ua (s.add.take k).length uc) := hM.cell (by rfl)
      have f3 := hM.fz 1
      have HM := Lib.hid hM
      have hblt : bb < wr.heap.size := World.block_lt_of_cell? wr _ hfi.c0
      have hwl : w.heap.size < wr.heap.size := heap_lt j1
      clear hM HCUR hc1 j1
      generalize s.add.take k = cur at *
      generalize s.add[k] = x at *
      obtain ⟨p0, p1, p2, p3, p4⟩ := hfi
      obtain ⟨i9, hi9, hz90, hz91, hz92⟩ := info_parts info_rfile
      have HONE := Lib.hid (show ∀ u ∈ ficells x, u.oneCell' = true by simp [ficells, Value.oneCell'])
      have nn3 := World.new_ne wr _ v3
      have nn4 := World.new_ne wr _ v1
      have nn5 := World.new_ne wr _ p0
      have hlr := World.block_lt_of_cell? wr _ v3
      have HSt := Lib.hid (show ∀ w' : World, w'.frozen? ⟨w.heap.size + 1 + 1, 1, none⟩ = false → w'.heap[w.heap.size]? = wr.heap[w.heap.size]? → w'.heap[bb]? = wr.heap[bb]? → w'.frozen? ⟨w.heap.size + 1 + 1, 1, none⟩ = false ∧ w'.cell? ⟨w.heap.size, 1, none⟩ = some (.slice (some ⟨bb, oo, none⟩) s.add.length c) ∧ w'.cell? ⟨bb, oo + k * 5, none⟩ = some (.int .i64 x.n) ∧ w'.cell? ⟨bb, oo + k * 5 + 1, none⟩ = some (.int .i64 x.level) ∧ w'.cell? ⟨bb, oo + k * 5 + 2, none⟩ = some (.int .i64 x.count) ∧ w'.cell? ⟨bb, oo + k * 5 + 3, none⟩ = some (.string x.first) ∧ w'.cell? ⟨bb, oo + k * 5 + 4, none⟩ = some (.string x.last) from fun w' hf h1 h2 =>
        ⟨hf, (World.cell?_of_block (w := wr) (a := ⟨w.heap.size, 1, none⟩) h1).trans v1, (World.cell?_of_block (w := wr) (a := ⟨bb, _, none⟩) h2).trans p0, (World.cell?_of_block (w := wr) (a := ⟨bb, _, none⟩) h2).trans p1, (World.cell?_of_block (w := wr) (a := ⟨bb, _, none⟩) h2).trans p2, (World.cell?_of_block (w := wr) (a := ⟨bb, _, none⟩) h2).trans p3, (World.cell?_of_block (w := wr) (a := ⟨bb, _, none⟩) h2).trans p4⟩)
      have HFar := Lib.hid (show ∀ (Wx w10 : World), RwM 58 35 (fun v => #[.slice a2 s.drop.length kc2, v, .int .i64 s.next, .int .i64 s.log]) W0 Wx (w.heap.size + 1 + 1) (.slice ua cur.length uc) cur → (∀ k, k < Wx.heap.size → (Value.slice ua cur.length uc).ownBlock ≠ some k → w10.heap[k]? = Wx.heap[k]?) → Wx.heap[w.heap.size]? = wr.heap[w.heap.size]? → Wx.heap[bb]? = wr.heap[bb]? → w10.heap[w.heap.size]? = wr.heap[w.heap.size]? ∧ w10.heap[bb]? = wr.heap[bb]? from fun Wx w10 hx hoth e1 e2 => by
        have l0 : ∀ k, k < W0.heap.size → (Value.slice ua cur.length uc).ownBlock ≠ some k := fun k hk e => by have := (hx.own.lt k e).1; omega
        have ls := hx.kept.size
        exact ⟨(hoth _ (by omega) (l0 _ (by omega))).trans e1, (hoth _ (by have := HB0.out.size; omega) (l0 _ (by have := HB0.out.size; omega))).trans e2⟩)
      go_upto_region 5 with (fail)
      refine wp_region_noPanic ?_
      refine wp_region_held_drew (S := (fun w' => w'.frozen? ⟨w.heap.size + 1 + 1, 1, none⟩ = false ∧ w'.cell? ⟨w.heap.size, 1, none⟩ = some (.slice (some ⟨bb, oo, none⟩) s.add.length c) ∧ w'.cell? ⟨bb, oo + k * 5, none⟩ = some (.int .i64 x.n) ∧ w'.cell? ⟨bb, oo + k * 5 + 1, none⟩ = some (.int .i64 x.level) ∧ w'.cell? ⟨bb, oo + k * 5 + 2, none⟩ = some (.int .i64 x.count) ∧ w'.cell? ⟨bb, oo + k * 5 + 3, none⟩ = some (.string x.first) ∧ w'.cell? ⟨bb, oo + k * 5 + 4, none⟩ = some (.string x.last))) (by kernel_rfl) (by (first | exact HSt.out _ f3 rfl rfl | exact HSt.out _ ((HM.out.drew.alloc _).fz _) (Below.heap_alloc wr.drew _ _ hwl) (Below.heap_alloc wr.drew _ _ hblt) | exact HSt.out _ ((HM.out.alloc _).drew.fz _) (Below.heap_alloc wr _ _ hwl) (Below.heap_alloc wr _ _ hblt) | exact HSt.out _ y10 (X10 (Below.heap_alloc _ _ _ hwl) (Below.heap_alloc _ _ _ hblt)).1 (X10 (Below.heap_alloc _ _ _ hwl) (Below.heap_alloc _ _ _ hblt)).2 | exact HSt.out _ (hP.fz _) ((Below.heap_setCell _ _ _ _ (by show _ ≠ w.heap.size + 1 + 1; omega)).trans (X10 (Below.heap_alloc _ _ _ hwl) (Below.heap_alloc _ _ _ hblt)).1) ((Below.heap_setCell _ _ _ _ (by show _ ≠ w.heap.size + 1 + 1; omega)).trans (X10 (Below.heap_alloc _ _ _ hwl) (Below.heap_alloc _ _ _ hblt)).2) | assumption)) (fun hHeld => ?_)
      refine wpAnyH_take (i := 0) (oi := { dst := Option.some 19, op := Op.fieldAddr 58 (Operand.tmp 3) 1, type := 0, pos := _, after := #[], guard := Option.none }) (v := ?_) rfl (by kernel_rfl) (by kernel_rfl) (by kernel_rfl) (fun _ _ _ h => h) (Or.inl ⟨by rfl, ?_⟩) (by assumption) ?_
      rotate_left
      · (intro wS hSw; (try dsimp only at hSw); go_simp; try with_reducible rfl)
      try simp only [Act.put, List.setIfInBounds_toArray, List.set_cons_zero, List.set_cons_succ]
      refine wpAnyH_take (i := 2) (oi := { dst := Option.some 21, op := Op.fieldAddr 33 (Operand.tmp 1) 1, type := 0, pos := _, after := #[], guard := Option.none }) (v := ?_) rfl (by kernel_rfl) (by kernel_rfl) (by kernel_rfl) (fun _ _ _ h => h) (Or.inl ⟨by rfl, ?_⟩) (by assumption) ?_
      rotate_left
      · (intro wS hSw; (try dsimp only at hSw); go_simp; try with_reducible rfl)
      try simp only [Act.put, List.setIfInBounds_toArray, List.set_cons_zero, List.set_cons_succ]
      refine wpAnyH_take (i := 3) (oi := { dst := Option.some 22, op := Op.load 22 (Operand.tmp 21), type := 22, pos := _, after := #[{ on := 2, ground := Ground.data }], guard := Option.none }) (v := ?_) rfl (by kernel_rfl) (by kernel_rfl) (by kernel_rfl) (fun _ _ _ h => h) (Or.inl ⟨by rfl, ?_⟩) (by assumption) ?_
      rotate_left
      · (intro wS hSw; (try dsimp only at hSw); go_simp; try with_reducible rfl)
      try simp only [Act.put, List.setIfInBounds_toArray, List.set_cons_zero, List.set_cons_succ]
      refine wpAnyH_take (i := 4) (oi := { dst := Option.some 23, op := Op.move (Operand.tmp 4), type := 3, pos := _, after := #[], guard := Option.none }) (v := ?_) rfl (by kernel_rfl) (by kernel_rfl) (by kernel_rfl) (fun _ _ _ h => h) (Or.inl ⟨by rfl, ?_⟩) (by assumption) ?_
      rotate_left
      · (intro wS hSw; (try dsimp only at hSw); go_simp; try with_reducible rfl)
      try simp only [Act.put, List.setIfInBounds_toArray, List.set_cons_zero, List.set_cons_succ]
      refine wpAnyH_take (i := 5) (oi := { dst := Option.some 24, op := Op.indexAddr 22 (Operand.tmp 22) (Operand.tmp 23), type := 0, pos := _, after := #[{ on := 3, ground := Ground.data }, { on := 4, ground := Ground.data }], guard := Option.none }) (v := ?_) rfl (by kernel_rfl) (by kernel_rfl) (by kernel_rfl) (fun _ _ _ h => h) (Or.inl ⟨by rfl, ?_⟩) (by assumption) ?_
      rotate_left
      · (intro wS hSw; (try dsimp only at hSw); go_simp; try with_reducible rfl)
      try simp only [Act.put, List.setIfInBounds_toArray, List.set_cons_zero, List.set_cons_succ]
      refine wpAnyH_take (i := 6) (oi := { dst := Option.some 25, op := Op.load 29 (Operand.tmp 24), type := 29, pos := _, after := #[{ on := 5, ground := Ground.data }], guard := Option.none }) (v := ?_) rfl (by kernel_rfl) (by kernel_rfl) (by kernel_rfl) (fun _ _ _ h => h) (Or.inl ⟨by rfl, ?_⟩) (by assumption) ?_
      rotate_left
      · (intro wS hSw; (try dsimp only at hSw); go_simp; try with_reducible rfl)
      try simp only [Act.put, List.setIfInBounds_toArray, List.set_cons_zero, List.set_cons_succ]
      refine wpAnyH_ready (rs := [1, 7]) (by kernel_rfl) (by simp) ?_
      refine AllReadyH.cons (o := { dst := Option.some 20, op := Op.load 36 (Operand.tmp 19), type := 36, pos := _, after := #[{ on := 0, ground := Ground.data }], guard := Option.none }) rfl (fun K hK => ?_) ?_
      · go_simp
        refine hK.out _ _ (by (first | exact HSt.out _ f3 rfl rfl | exact HSt.out _ ((HM.out.drew.alloc _).fz _) (Below.heap_alloc wr.drew _ _ hwl) (Below.heap_alloc wr.drew _ _ hblt) | exact HSt.out _ ((HM.out.alloc _).drew.fz _) (Below.heap_alloc wr _ _ hwl) (Below.heap_alloc wr _ _ hblt) | exact HSt.out _ y10 (X10 (Below.heap_alloc _ _ _ hwl) (Below.heap_alloc _ _ _ hblt)).1 (X10 (Below.heap_alloc _ _ _ hwl) (Below.heap_alloc _ _ _ hblt)).2 | exact HSt.out _ (hP.fz _) ((Below.heap_setCell _ _ _ _ (by show _ ≠ w.heap.size + 1 + 1; omega)).trans (X10 (Below.heap_alloc _ _ _ hwl) (Below.heap_alloc _ _ _ hblt)).1) ((Below.heap_setCell _ _ _ _ (by show _ ≠ w.heap.size + 1 + 1; omega)).trans (X10 (Below.heap_alloc _ _ _ hwl) (Below.heap_alloc _ _ _ hblt)).2) | assumption)) (fun hHeld => ?_)
        clear hK K
        try simp only [Act.put, List.setIfInBounds_toArray, List.set_cons_zero, List.set_cons_succ]
        refine wpAnyH_ready (rs := [7]) (by kernel_rfl) (by simp) ?_
        refine AllReadyH.cons (o := { dst := Option.some 26, op := Op.buildSlice 36 1 #[(0, Operand.tmp 25)], type := 36, pos := _, after := #[{ on := 6, ground := Ground.data }], guard := Option.none }) rfl (fun K hK => ?_) ?_
        · go_simp
          refine hK.out _ _ (by (first | exact HSt.out _ f3 rfl rfl | exact HSt.out _ ((HM.out.drew.alloc _).fz _) (Below.heap_alloc wr.drew _ _ hwl) (Below.heap_alloc wr.drew _ _ hblt) | exact HSt.out _ ((HM.out.alloc _).drew.fz _) (Below.heap_alloc wr _ _ hwl) (Below.heap_alloc wr _ _ hblt) | exact HSt.out _ y10 (X10 (Below.heap_alloc _ _ _ hwl) (Below.heap_alloc _ _ _ hblt)).1 (X10 (Below.heap_alloc _ _ _ hwl) (Below.heap_alloc _ _ _ hblt)).2 | exact HSt.out _ (hP.fz _) ((Below.heap_setCell _ _ _ _ (by show _ ≠ w.heap.size + 1 + 1; omega)).trans (X10 (Below.heap_alloc _ _ _ hwl) (Below.heap_alloc _ _ _ hblt)).1) ((Below.heap_setCell _ _ _ _ (by show _ ≠ w.heap.size + 1 + 1; omega)).trans (X10 (Below.heap_alloc _ _ _ hwl) (Below.heap_alloc _ _ _ hblt)).2) | assumption)) (fun hHeld => ?_)
          clear hK K
          try simp only [Act.put, List.setIfInBounds_toArray, List.set_cons_zero, List.set_cons_succ]
          refine wpAnyH_ready (rs := [8]) (by kernel_rfl) (by simp) ?_
          refine AllReadyH.cons (o := { dst := Option.some 27, op := Op.call { callee := Callee.builtin Builtin.append, args := #[Operand.tmp 20, Operand.tmp 26], argTypes := #[36, 36] }, type := 36, pos := _, after := #[{ on := 1, ground := Ground.data }, { on := 7, ground := Ground.data }], guard := Option.none }) rfl (fun K hK => ?_) ?_
          · (first | (refine step_append_lies _ (by rfl) _ _ _ (by rfl) _ 35 i9 (.agg #[.int .i64 0, .int .i64 0, .int .i64 0, .string ⟨#[]⟩, .string ⟨#[]⟩]) 5 56 Tryz.underlying36 hi9 hz90 hz91 hz92 rfl (by decide) _ cur.length (rcells cur) (by rfl) (HM.out.drew.alloc _).own ⟨wr.heap.size, 0, none⟩ 1 1 (ficells x) (by rfl) (by rfl) (World.news_of_block (cs := #[.int .i64 x.n, .int .i64 x.level, .int .i64 x.count, .string x.first, .string x.last]) (t := 35) (fr := (0, 0)) (heap_alloc_new wr.drew _)) HONE.out Nat.one_pos (by unfold maxLen; omega) (by omega) (HM.out.drew.alloc _).kept.size _ rfl ?_; intro gg cap3 w10 hown1 hgrow hat hlt9; obtain ⟨⟨y10, z10⟩, hoth, hP⟩ := (HM.out.drew.alloc _).push 1 (fun _ _ => rfl) (fun _ => rfl) hgrow hown1; have X10 := HFar.out _ _ (HM.out.drew.alloc _) hoth) | (refine step_append_lies _ (by rfl) _ _ _ (by rfl) _ 35 i9 (.agg #[.int .i64 0, .int .i64 0, .int .i64 0, .string ⟨#[]⟩, .string ⟨#[]⟩]) 5 56 Tryz.underlying36 hi9 hz90 hz91 hz92 rfl (by decide) _ cur.length (rcells cur) (by rfl) ((HM.out.alloc _).drew).own ⟨wr.heap.size, 0, none⟩ 1 1 (ficells x) (by rfl) (by rfl) (World.news_of_block (cs := #[.int .i64 x.n, .int .i64 x.level, .int .i64 x.count, .string x.first, .string x.last]) (t := 35) (fr := (0, 0)) (heap_alloc_new wr _)) HONE.out Nat.one_pos (by unfold maxLen; omega) (by omega) ((HM.out.alloc _).drew).kept.size _ rfl ?_; intro gg cap3 w10 hown1 hgrow hat hlt9; obtain ⟨⟨y10, z10⟩, hoth, hP⟩ := ((HM.out.alloc _).drew).push 1 (fun _ _ => rfl) (fun _ => rfl) hgrow hown1; have X10 := HFar.out _ _ ((HM.out.alloc _).drew) hoth))
            refine hK.out _ _ (by (first | exact HSt.out _ f3 rfl rfl | exact HSt.out _ ((HM.out.drew.alloc _).fz _) (Below.heap_alloc wr.drew _ _ hwl) (Below.heap_alloc wr.drew _ _ hblt) | exact HSt.out _ ((HM.out.alloc _).drew.fz _) (Below.heap_alloc wr _ _ hwl) (Below.heap_alloc wr _ _ hblt) | exact HSt.out _ y10 (X10 (Below.heap_alloc _ _ _ hwl) (Below.heap_alloc _ _ _ hblt)).1 (X10 (Below.heap_alloc _ _ _ hwl) (Below.heap_alloc _ _ _ hblt)).2 | exact HSt.out _ (hP.fz _) ((Below.heap_setCell _ _ _ _ (by show _ ≠ w.heap.size + 1 + 1; omega)).trans (X10 (Below.heap_alloc _ _ _ hwl) (Below.heap_alloc _ _ _ hblt)).1) ((Below.heap_setCell _ _ _ _ (by show _ ≠ w.heap.size + 1 + 1; omega)).trans (X10 (Below.heap_alloc _ _ _ hwl) (Below.heap_alloc _ _ _ hblt)).2) | assumption)) (fun hHeld => ?_)
            clear hK K
            try simp only [Act.put, List.setIfInBounds_toArray, List.set_cons_zero, List.set_cons_succ]
            refine wpAnyH_take (i := 9) (oi := { dst := Option.some 28, op := Op.fieldAddr 58 (Operand.tmp 3) 1, type := 0, pos := _, after := #[{ on := 0, ground := Ground.phase }, { on := 1, ground := Ground.phase }, { on := 2, ground := Ground.phase }, { on := 3, ground := Ground.phase }, { on := 4, ground := Ground.phase }, { on := 5, ground := Ground.phase }, { on := 6, ground := Ground.phase }, { on := 7, ground := Ground.phase }, { on := 8, ground := Ground.phase }], guard := Option.none }) (v := ?_) rfl (by kernel_rfl) (by kernel_rfl) (by kernel_rfl) (fun _ _ _ h => h) (Or.inl ⟨by rfl, ?_⟩) (by assumption) ?_
            rotate_left
            · (intro wS hSw; (try dsimp only at hSw); go_simp; try with_reducible rfl)
            try simp only [Act.put, List.setIfInBounds_toArray, List.set_cons_zero, List.set_cons_succ]
            refine wpAnyH_ready (rs := [10]) (by kernel_rfl) (by simp) ?_
            refine AllReadyH.cons (o := { dst := Option.none, op := Op.store 36 (Operand.tmp 28) (Operand.tmp 27), type := 0, pos := _, after := #[{ on := 9, ground := Ground.data }, { on := 8, ground := Ground.data }, { on := 8, ground := Ground.chain }, { on := 0, ground := Ground.phase }, { on := 1, ground := Ground.phase }, { on := 2, ground := Ground.phase }, { on := 3, ground := Ground.phase }, { on := 4, ground := Ground.phase }, { on := 5, ground := Ground.phase }, { on := 6, ground := Ground.phase }, { on := 7, ground := Ground.phase }, { on := 8, ground := Ground.phase }], guard := Option.none }) rfl (fun K hK => ?_) ?_
            · go_simp
              refine hK.out _ _ (by (first | exact HSt.out _ f3 rfl rfl | exact HSt.out _ ((HM.out.drew.alloc _).fz _) (Below.heap_alloc wr.drew _ _ hwl) (Below.heap_alloc wr.drew _ _ hblt) | exact HSt.out _ ((HM.out.alloc _).drew.fz _) (Below.heap_alloc wr _ _ hwl) (Below.heap_alloc wr _ _ hblt) | exact HSt.out _ y10 (X10 (Below.heap_alloc _ _ _ hwl) (Below.heap_alloc _ _ _ hblt)).1 (X10 (Below.heap_alloc _ _ _ hwl) (Below.heap_alloc _ _ _ hblt)).2 | exact HSt.out _ (hP.fz _) ((Below.heap_setCell _ _ _ _ (by show _ ≠ w.heap.size + 1 + 1; omega)).trans (X10 (Below.heap_alloc _ _ _ hwl) (Below.heap_alloc _ _ _ hblt)).1) ((Below.heap_setCell _ _ _ _ (by show _ ≠ w.heap.size + 1 + 1; omega)).trans (X10 (Below.heap_alloc _ _ _ hwl) (Below.heap_alloc _ _ _ hblt)).2) | assumption)) (fun hHeld => ?_)
              clear hK K
              try simp only [Act.put, List.setIfInBounds_toArray, List.set_cons_zero, List.set_cons_succ]
              refine wpAnyH_done (by kernel_rfl) ?_ _
              refine NoPanic.normal ?_
              have HPP := Lib.hid hP
              clear hP hown1 hgrow
              go_wp2_with fail
              exact ⟨⟨k + 1, by omega, by go_num, by rw [HS.out]; exact ⟨_, HPP.out⟩⟩, by simp [intOf]; omega⟩
            exact AllReadyH.nil
          exact AllReadyH.nil
        exact AllReadyH.nil
      refine AllReadyH.cons (o := { dst := Option.some 26, op := Op.buildSlice 36 1 #[(0, Operand.tmp 25)], type := 36, pos := _, after := #[{ on := 6, ground := Ground.data }], guard := Option.none }) rfl (fun K hK => ?_) ?_
      · go_simp
        refine hK.out _ _ (by (first | exact HSt.out _ f3 rfl rfl | exact HSt.out _ ((HM.out.drew.alloc _).fz _) (Below.heap_alloc wr.drew _ _ hwl) (Below.heap_alloc wr.drew _ _ hblt) | exact HSt.out _ ((HM.out.alloc _).drew.fz _) (Below.heap_alloc wr _ _ hwl) (Below.heap_alloc wr _ _ hblt) | exact HSt.out _ y10 (X10 (Below.heap_alloc _ _ _ hwl) (Below.heap_alloc _ _ _ hblt)).1 (X10 (Below.heap_alloc _ _ _ hwl) (Below.heap_alloc _ _ _ hblt)).2 | exact HSt.out _ (hP.fz _) ((Below.heap_setCell _ _ _ _ (by show _ ≠ w.heap.size + 1 + 1; omega)).trans (X10 (Below.heap_alloc _ _ _ hwl) (Below.heap_alloc _ _ _ hblt)).1) ((Below.heap_setCell _ _ _ _ (by show _ ≠ w.heap.size + 1 + 1; omega)).trans (X10 (Below.heap_alloc _ _ _ hwl) (Below.heap_alloc _ _ _ hblt)).2) | assumption)) (fun hHeld => ?_)
        clear hK K
        try simp only [Act.put, List.setIfInBounds_toArray, List.set_cons_zero, List.set_cons_succ]
        refine wpAnyH_ready (rs := [1]) (by kernel_rfl) (by simp) ?_
        refine AllReadyH.cons (o := { dst := Option.some 20, op := Op.load 36 (Operand.tmp 19), type := 36, pos := _, after := #[{ on := 0, ground := Ground.data }], guard := Option.none }) rfl (fun K hK => ?_) ?_
        · go_simp
          refine hK.out _ _ (by (first | exact HSt.out _ f3 rfl rfl | exact HSt.out _ ((HM.out.drew.alloc _).fz _) (Below.heap_alloc wr.drew _ _ hwl) (Below.heap_alloc wr.drew _ _ hblt) | exact HSt.out _ ((HM.out.alloc _).drew.fz _) (Below.heap_alloc wr _ _ hwl) (Below.heap_alloc wr _ _ hblt) | exact HSt.out _ y10 (X10 (Below.heap_alloc _ _ _ hwl) (Below.heap_alloc _ _ _ hblt)).1 (X10 (Below.heap_alloc _ _ _ hwl) (Below.heap_alloc _ _ _ hblt)).2 | exact HSt.out _ (hP.fz _) ((Below.heap_setCell _ _ _ _ (by show _ ≠ w.heap.size + 1 + 1; omega)).trans (X10 (Below.heap_alloc _ _ _ hwl) (Below.heap_alloc _ _ _ hblt)).1) ((Below.heap_setCell _ _ _ _ (by show _ ≠ w.heap.size + 1 + 1; omega)).trans (X10 (Below.heap_alloc _ _ _ hwl) (Below.heap_alloc _ _ _ hblt)).2) | assumption)) (fun hHeld => ?_)
          clear hK K
          try simp only [Act.put, List.setIfInBounds_toArray, List.set_cons_zero, List.set_cons_succ]
          refine wpAnyH_ready (rs := [8]) (by kernel_rfl) (by simp) ?_
          refine AllReadyH.cons (o := { dst := Option.some 27, op := Op.call { callee := Callee.builtin Builtin.append, args := #[Operand.tmp 20, Operand.tmp 26], argTypes := #[36, 36] }, type := 36, pos := _, after := #[{ on := 1, ground := Ground.data }, { on := 7, ground := Ground.data }], guard := Option.none }) rfl (fun K hK => ?_) ?_
          · (first | (refine step_append_lies _ (by rfl) _ _ _ (by rfl) _ 35 i9 (.agg #[.int .i64 0, .int .i64 0, .int .i64 0, .string ⟨#[]⟩, .string ⟨#[]⟩]) 5 56 Tryz.underlying36 hi9 hz90 hz91 hz92 rfl (by decide) _ cur.length (rcells cur) (by rfl) (HM.out.drew.alloc _).own ⟨wr.heap.size, 0, none⟩ 1 1 (ficells x) (by rfl) (by rfl) (World.news_of_block (cs := #[.int .i64 x.n, .int .i64 x.level, .int .i64 x.count, .string x.first, .string x.last]) (t := 35) (fr := (0, 0)) (heap_alloc_new wr.drew _)) HONE.out Nat.one_pos (by unfold maxLen; omega) (by omega) (HM.out.drew.alloc _).kept.size _ rfl ?_; intro gg cap3 w10 hown1 hgrow hat hlt9; obtain ⟨⟨y10, z10⟩, hoth, hP⟩ := (HM.out.drew.alloc _).push 1 (fun _ _ => rfl) (fun _ => rfl) hgrow hown1; have X10 := HFar.out _ _ (HM.out.drew.alloc _) hoth) | (refine step_append_lies _ (by rfl) _ _ _ (by rfl) _ 35 i9 (.agg #[.int .i64 0, .int .i64 0, .int .i64 0, .string ⟨#[]⟩, .string ⟨#[]⟩]) 5 56 Tryz.underlying36 hi9 hz90 hz91 hz92 rfl (by decide) _ cur.length (rcells cur) (by rfl) ((HM.out.alloc _).drew).own ⟨wr.heap.size, 0, none⟩ 1 1 (ficells x) (by rfl) (by rfl) (World.news_of_block (cs := #[.int .i64 x.n, .int .i64 x.level, .int .i64 x.count, .string x.first, .string x.last]) (t := 35) (fr := (0, 0)) (heap_alloc_new wr _)) HONE.out Nat.one_pos (by unfold maxLen; omega) (by omega) ((HM.out.alloc _).drew).kept.size _ rfl ?_; intro gg cap3 w10 hown1 hgrow hat hlt9; obtain ⟨⟨y10, z10⟩, hoth, hP⟩ := ((HM.out.alloc _).drew).push 1 (fun _ _ => rfl) (fun _ => rfl) hgrow hown1; have X10 := HFar.out _ _ ((HM.out.alloc _).drew) hoth))
            refine hK.out _ _ (by (first | exact HSt.out _ f3 rfl rfl | exact HSt.out _ ((HM.out.drew.alloc _).fz _) (Below.heap_alloc wr.drew _ _ hwl) (Below.heap_alloc wr.drew _ _ hblt) | exact HSt.out _ ((HM.out.alloc _).drew.fz _) (Below.heap_alloc wr _ _ hwl) (Below.heap_alloc wr _ _ hblt) | exact HSt.out _ y10 (X10 (Below.heap_alloc _ _ _ hwl) (Below.heap_alloc _ _ _ hblt)).1 (X10 (Below.heap_alloc _ _ _ hwl) (Below.heap_alloc _ _ _ hblt)).2 | exact HSt.out _ (hP.fz _) ((Below.heap_setCell _ _ _ _ (by show _ ≠ w.heap.size + 1 + 1; omega)).trans (X10 (Below.heap_alloc _ _ _ hwl) (Below.heap_alloc _ _ _ hblt)).1) ((Below.heap_setCell _ _ _ _ (by show _ ≠ w.heap.size + 1 + 1; omega)).trans (X10 (Below.heap_alloc _ _ _ hwl) (Below.heap_alloc _ _ _ hblt)).2) | assumption)) (fun hHeld => ?_)
            clear hK K
            try simp only [Act.put, List.setIfInBounds_toArray, List.set_cons_zero, List.set_cons_succ]
            refine wpAnyH_take (i := 9) (oi := { dst := Option.some 28, op := Op.fieldAddr 58 (Operand.tmp 3) 1, type := 0, pos := _, after := #[{ on := 0, ground := Ground.phase }, { on := 1, ground := Ground.phase }, { on := 2, ground := Ground.phase }, { on := 3, ground := Ground.phase }, { on := 4, ground := Ground.phase }, { on := 5, ground := Ground.phase }, { on := 6, ground := Ground.phase }, { on := 7, ground := Ground.phase }, { on := 8, ground := Ground.phase }], guard := Option.none }) (v := ?_) rfl (by kernel_rfl) (by kernel_rfl) (by kernel_rfl) (fun _ _ _ h => h) (Or.inl ⟨by rfl, ?_⟩) (by assumption) ?_
            rotate_left
            · (intro wS hSw; (try dsimp only at hSw); go_simp; try with_reducible rfl)
            try simp only [Act.put, List.setIfInBounds_toArray, List.set_cons_zero, List.set_cons_succ]
            refine wpAnyH_ready (rs := [10]) (by kernel_rfl) (by simp) ?_
            refine AllReadyH.cons (o := { dst := Option.none, op := Op.store 36 (Operand.tmp 28) (Operand.tmp 27), type := 0, pos := _, after := #[{ on := 9, ground := Ground.data }, { on := 8, ground := Ground.data }, { on := 8, ground := Ground.chain }, { on := 0, ground := Ground.phase }, { on := 1, ground := Ground.phase }, { on := 2, ground := Ground.phase }, { on := 3, ground := Ground.phase }, { on := 4, ground := Ground.phase }, { on := 5, ground := Ground.phase }, { on := 6, ground := Ground.phase }, { on := 7, ground := Ground.phase }, { on := 8, ground := Ground.phase }], guard := Option.none }) rfl (fun K hK => ?_) ?_
            · go_simp
              refine hK.out _ _ (by (first | exact HSt.out _ f3 rfl rfl | exact HSt.out _ ((HM.out.drew.alloc _).fz _) (Below.heap_alloc wr.drew _ _ hwl) (Below.heap_alloc wr.drew _ _ hblt) | exact HSt.out _ ((HM.out.alloc _).drew.fz _) (Below.heap_alloc wr _ _ hwl) (Below.heap_alloc wr _ _ hblt) | exact HSt.out _ y10 (X10 (Below.heap_alloc _ _ _ hwl) (Below.heap_alloc _ _ _ hblt)).1 (X10 (Below.heap_alloc _ _ _ hwl) (Below.heap_alloc _ _ _ hblt)).2 | exact HSt.out _ (hP.fz _) ((Below.heap_setCell _ _ _ _ (by show _ ≠ w.heap.size + 1 + 1; omega)).trans (X10 (Below.heap_alloc _ _ _ hwl) (Below.heap_alloc _ _ _ hblt)).1) ((Below.heap_setCell _ _ _ _ (by show _ ≠ w.heap.size + 1 + 1; omega)).trans (X10 (Below.heap_alloc _ _ _ hwl) (Below.heap_alloc _ _ _ hblt)).2) | assumption)) (fun hHeld => ?_)
              clear hK K
              try simp only [Act.put, List.setIfInBounds_toArray, List.set_cons_zero, List.set_cons_succ]
              refine wpAnyH_done (by kernel_rfl) ?_ _
              refine NoPanic.normal ?_
              have HPP := Lib.hid hP
              clear hP hown1 hgrow
              go_wp2_with fail
              exact ⟨⟨k + 1, by omega, by go_num, by rw [HS.out]; exact ⟨_, HPP.out⟩⟩, by simp [intOf]; omega⟩
            exact AllReadyH.nil
          exact AllReadyH.nil
        exact AllReadyH.nil
      exact AllReadyH.nil
    · rw [List.take_of_length_le (by omega)] at hM
      have hj := hM.sb
      have HM := Lib.hid hM
      have k2 : wr.heap[w.heap.size + 1]? = some (.cells #[.slice none 0 0, .slice none 0 0, .int .i64 0, .int .i64 0] 58 (0, 0)) := (hM.kept.block _ (by omega) (by simp)).trans K2.out
      clear hM HCUR j1
      have m0 : wr.cell? ⟨w.heap.size + 1 + 1, 0, none⟩ = some (.slice a2 s.drop.length kc2) := HM.out.cell (by rfl)
      have m1 : wr.cell? ⟨w.heap.size + 1 + 1, 1, none⟩ = some (.slice ua s.add.length uc) := HM.out.cell (by rfl)
      have m2 : wr.cell? ⟨w.heap.size + 1 + 1, 2, none⟩ = some (.int .i64 s.next) := HM.out.cell (by rfl)
      have m3 : wr.cell? ⟨w.heap.size + 1 + 1, 3, none⟩ = some (.int .i64 s.log) := HM.out.cell (by rfl)
      have g0 : wr.cell? ⟨w.heap.size + 1, 0, none⟩ = some (.slice none 0 0) := by simp [World.cell?, k2]
      have g1 : wr.cell? ⟨w.heap.size + 1, 1, none⟩ = some (.slice none 0 0) := by simp [World.cell?, k2]
      have g2 : wr.cell? ⟨w.heap.size + 1, 2, none⟩ = some (.int .i64 0) := by simp [World.cell?, k2]
      have g3 : wr.cell? ⟨w.heap.size + 1, 3, none⟩ = some (.int .i64 0) := by simp [World.cell?, k2]
      have gz : ∀ o, wr.frozen? ⟨w.heap.size + 1, o, none⟩ = false := fun o => by simp [World.frozen?, k2]
      have hwl : w.heap.size + 1 + 1 < wr.heap.size := heap_lt hj
      have HJ := Lib.hid k2
      clear hj k2
      go_wp2_with fail
      refine bodyPost_ret (v := .agg #[.slice a2 s.drop.length kc2, .slice ua s.add.length uc, .int .i64 s.next, .int .i64 s.log]) (by simp [results, Tryz.results22, go_sem, g0, g1, g2, g3]) rfl ⟨.slice ua s.add.length uc, rfl, ?_, ?_⟩
      · have hn := own_typeR (T' := 58) HM.out.own HJ.out (by decide)
        exact ownsRow_setCell_other (ownsRow_setCell_other (ownsRow_setCell_other (ownsRow_setCell_other (own_base HM.out.own (by omega)) hn _) hn _) hn _) hn _
      · exact ((((HB0.out.trans (HM.out.kept.below (by omega) (by simp; omega))).setCell (by show w.heap.size ≤ w.heap.size + 1; omega) _).setCell (by show w.heap.size ≤ w.heap.size + 1; omega) _).setCell (by show w.heap.size ≤ w.heap.size + 1; omega) _).setCell (by show w.heap.size ≤ w.heap.size + 1; omega) _
end Go.Proofs.YtiiafpbonkcokaaGreat
