/- Lemmas for ModelStays' proof. -/
import Derived.Test.YtgoejmheihgpfaaGreatDoorRi
import Derived.Deep.AppendLies
namespace Go.Proofs.YtgoejmheihgpfaaGreatDoor
set_option maxRecDepth 100000
set_option maxHeartbeats 16000000
open Go.RowKit
theorem info_nd : (Tryz.prog.info? 262).map (fun i => (i.zero, i.size, i.bytes)) = some (some (.agg #[.int .u8 0, iV 0, eS, iV 0]), 4, 40) := by kernel_rfl
theorem rd_push {rb : Nat} {w0 w w1 : World} {h : Hd} {r : Rs} {v v' : Value} {xs ys : List Value} (hg : w.heap[rb]? = some (.cells (rdCells h r v) 243 (0, 0))) (ho : w.ownsRow (rb + 1) 262 4 v r.n xs) (hP : PtN rb w0 w) (h1 : w1.ownsRow (rb + 1) 262 4 v' (r.n + 1) ys) (hgr : w.grownBy w1 v.ownBlock) (_hw0 : rb < w0.heap.size) :
  (w1.frozen? ⟨rb, 6, none⟩ = false ∧ w1.cell? ⟨rb, 6, none⟩ = some v) ∧ RdR rb (w1.setCell ⟨rb, 6, none⟩ v') h { r with n := r.n + 1 } ∧ PtN rb w0 w1 ∧ PtN rb w0 (w1.setCell ⟨rb, 6, none⟩ v') := by
 have hlt := (zq hg).1
 have hg1 : w1.heap[rb]? = some (.cells (rdCells h r v) 243 (0, 0)) := (hgr.block rb hlt (fun e => by have h9 := ho.lt _ e.symm; omega)).trans hg
 have hP1 : PtN rb w0 w1 := ⟨hgr.os.trans hP.os, hgr.tape.trans hP.tape, hgr.output.trans hP.output, Nat.le_trans hP.size hgr.size, fun k hk hn hs => by
  have e := hP.keep k hk hn hs
  refine (hgr.block k (Nat.lt_of_lt_of_le hk hP.size) (fun e2 => ?_)).trans e
  have h9 := ho.lt _ e2.symm
  rcases hs with hs | hs
  ·omega
  ·obtain ⟨cs, fz, hcs⟩ := own_block_cells ho e2.symm
   exact hs cs fz (e ▸ hcs)⟩
 refine ⟨⟨by simp [World.frozen?, hg1], by simp [World.cell?, hg1, rdCells]⟩, ⟨v', ys, by simp [World.setCell, Array.getElem?_modify, hg1, rdCells], KeepsB.set w1 (Nat.lt_succ_self rb) 6 _ _ _ _ _ _ h1⟩, hP1, hP1.set 6 v'⟩
theorem pput_any (w : World) (rb : Nat) (h : Hd) (r : Rs) (H : RdR rb w h r) (hn : r.n ≤ 100000) (pb : Nat) (hpb : pb ≠ rb) (hpt0 : ∀ cs fz, w.heap[pb]? ≠ some (.cells cs 262 fz)) (hp : w.cell? ⟨pb, 0, none⟩ = some (.pointer (some ⟨rb, 0, none⟩))) (kd : Nat) (zi : Int) (tx : ByteArray) (ks : Nat) :
  Calls Tryz.prog 163 #[.agg #[.int .u8 (kd : Nat), iV zi, .string tx, iV (ks : Nat)], .pointer (some ⟨pb, 0, none⟩)] w fun x w' => x = .returned (.tuple #[]) ∧ RdR rb w' h { r with n := r.n + 1 } ∧ PtN rb w w' := by
 obtain ⟨v, xs, hg, ho⟩ := H.row
 obtain ⟨va, vc, rfl⟩ := own_slice ho
 have hlt := H.lt
 have hpl := World.block_lt_of_cell? w _ hp
 have HG := zD hg
 have HO := zD ho
 clear hg ho H
 obtain ⟨i9, hi9, hz90, hz91, hz92⟩ := info_parts info_nd
 go_enter Tryz.func163, Tryz.ntmps163
 go_wp2_with fail
 generalize hw1 : w.alloc (.cells #[.int .u8 (kd : Nat), iV zi, .string tx, iV (ks : Nat)] 262) = w1
 have hszw : w1.heap.size = w.heap.size + 1 := by rw [← hw1]; simp
 have HG1 := zD (show w1.heap[rb]? = some (.cells (rdCells h r (.slice va r.n vc)) 243 (0, 0)) from hw1 ▸ (Below.heap_alloc w _ rb hlt).trans HG.out)
 have HO1 := zD (show w1.ownsRow (rb + 1) 262 4 (.slice va r.n vc) r.n xs from hw1 ▸ own_below HO.out (bl1 w _))
 have HP1 := zD (show PtN rb w w1 from hw1 ▸ PtN.of_below (bl1 w _))
 have HC1 := zD (show w1.cell? ⟨pb, 0, none⟩ = some (.pointer (some ⟨rb, 0, none⟩)) from hw1 ▸ ((bl1 w _).cell (p := ⟨pb, 0, none⟩) hpl).trans hp)
 have HN1 := zD (show w1.heap[w.heap.size]? = some (.cells #[.int .u8 (kd : Nat), iV zi, .string tx, iV (ks : Nat)] 262 (0, 0)) from hw1 ▸ zw _ _)
 have hpt : ∀ cs fz, w1.heap[pb]? ≠ some (.cells cs 262 fz) := fun cs fz e => hpt0 cs fz (((Below.heap_alloc w _ pb hpl).symm.trans (hw1 ▸ e)))
 clear hw1
 have HS := zD (fun (W : World) (f : W.frozen? ⟨rb, 6, none⟩ = false) (e1 : W.heap[pb]? = w1.heap[pb]?) (e2 : W.heap[w.heap.size]? = w1.heap[w.heap.size]?) => show (fun (W : World) => W.frozen? ⟨rb, 6, none⟩ = false ∧ W.cell? ⟨pb, 0, none⟩ = some (.pointer (some ⟨rb, 0, none⟩)) ∧ W.cell? ⟨w.heap.size, 0, none⟩ = some (.int .u8 (kd : Nat)) ∧ W.cell? ⟨w.heap.size, 1, none⟩ = some (iV zi) ∧ W.cell? ⟨w.heap.size, 2, none⟩ = some (.string tx) ∧ W.cell? ⟨w.heap.size, 3, none⟩ = some (iV (ks : Nat))) W from ⟨f, (zk (w := w1) (a := ⟨pb, 0, none⟩) e1).trans HC1.out, by simp [World.cell?, e2.trans HN1.out], by simp [World.cell?, e2.trans HN1.out], by simp [World.cell?, e2.trans HN1.out], by simp [World.cell?, e2.trans HN1.out]⟩)
 have y6 : w1.cell? ⟨rb, 6, none⟩ = some (.slice va r.n vc) := by simp [World.cell?, HG1.out, rdCells]
 have f6 : ∀ o, w1.frozen? ⟨rb, o, none⟩ = false := fun o => by simp [World.frozen?, HG1.out]
 obtain ⟨_, y0, n0, n1, n2, n3⟩ := HS.out w1 (f6 6) rfl rfl
 have HX := zD (fun cs => show (w1.alloc (.cells cs 262)).drew.heap[rb]? = some (.cells (rdCells h r (.slice va r.n vc)) 243 (0, 0)) from (Below.heap_alloc w1 _ rb (by omega)).trans HG1.out)
 have HXO := zD (fun cs => show (w1.alloc (.cells cs 262)).drew.ownsRow (rb + 1) 262 4 (.slice va r.n vc) r.n xs from own_below HO1.out (bl1 w1 _).drew)
 have HXP := zD (fun cs => show PtN rb w (w1.alloc (.cells cs 262)).drew from HP1.out.trans (PtN.of_below (bl1 w1 _).drew))
 have x6 := fun cs => show (w1.alloc (.cells cs 262)).drew.cell? ⟨rb, 6, none⟩ = some (.slice va r.n vc) from by simp only [World.cell?, HX.out cs]; rfl
 have nn1 := World.new_ne w1 _ y6
 have hr6 := World.block_lt_of_cell? w1 _ y6
 have HNE1 := zD (show ∀ (u : Nat), some pb = (Value.slice va r.n vc).ownBlock → False from fun _ e => by
  obtain ⟨cs, fz, hcs⟩ := own_block_cells HO1.out e.symm
  exact hpt cs fz hcs)
 have HNE2 := zD (show ∀ (u : Nat), some w.heap.size = (Value.slice va r.n vc).ownBlock → False from fun _ e => by
  have := (own_ge HO.out _ e.symm).2
  omega)
 refine wp_region_noPanic ?_
 refine wp_region_held_drew (S := (fun (W : World) => W.frozen? ⟨rb, 6, none⟩ = false ∧ W.cell? ⟨pb, 0, none⟩ = some (.pointer (some ⟨rb, 0, none⟩)) ∧ W.cell? ⟨w.heap.size, 0, none⟩ = some (.int .u8 (kd : Nat)) ∧ W.cell? ⟨w.heap.size, 1, none⟩ = some (iV zi) ∧ W.cell? ⟨w.heap.size, 2, none⟩ = some (.string tx) ∧ W.cell? ⟨w.heap.size, 3, none⟩ = some (iV (ks : Nat)))) (by kernel_rfl) (by (first | exact HS.out _ (f6 6) rfl rfl | exact HS.out _ (by simp [World.frozen?, HX.out]) (Below.heap_alloc w1 _ _ (by omega)) (Below.heap_alloc w1 _ _ (by omega)) | exact HS.out _ hpu.1.1 hk2 hk3 | exact HS.out _ (hpu.2.1.froz 6) ((Below.heap_setCell _ _ _ _ (by show pb ≠ rb; omega)).trans hk2) ((Below.heap_setCell _ _ _ _ (by show w.heap.size ≠ rb; omega)).trans hk3) | assumption)) (fun hHeld => ?_)
 refine zJ 0 3 rfl ?_
 refine zJ 1 4 rfl ?_
 refine zJ 2 5 rfl ?_
 refine zJ 3 6 rfl ?_
 refine zJ 5 8 rfl ?_
 refine zy [4, 6] ?_
 refine zg (some 7) rfl (fun K hK => ?_) ?_
 ·go_simp
  refine hK.out _ _ (by (first | exact HS.out _ (f6 6) rfl rfl | exact HS.out _ (by simp [World.frozen?, HX.out]) (Below.heap_alloc w1 _ _ (by omega)) (Below.heap_alloc w1 _ _ (by omega)) | exact HS.out _ hpu.1.1 hk2 hk3 | exact HS.out _ (hpu.2.1.froz 6) ((Below.heap_setCell _ _ _ _ (by show pb ≠ rb; omega)).trans hk2) ((Below.heap_setCell _ _ _ _ (by show w.heap.size ≠ rb; omega)).trans hk3) | assumption)) (fun hHeld => ?_)
  clear hK K
  try simp only [Act.put, zX, zY, zZ]
  refine zy [6] ?_
  refine zg (some 9) rfl (fun K hK => ?_) ?_
  ·go_simp
   refine hK.out _ _ (by (first | exact HS.out _ (f6 6) rfl rfl | exact HS.out _ (by simp [World.frozen?, HX.out]) (Below.heap_alloc w1 _ _ (by omega)) (Below.heap_alloc w1 _ _ (by omega)) | exact HS.out _ hpu.1.1 hk2 hk3 | exact HS.out _ (hpu.2.1.froz 6) ((Below.heap_setCell _ _ _ _ (by show pb ≠ rb; omega)).trans hk2) ((Below.heap_setCell _ _ _ _ (by show w.heap.size ≠ rb; omega)).trans hk3) | assumption)) (fun hHeld => ?_)
   clear hK K
   try simp only [Act.put, zX, zY, zZ]
   refine zy [7] ?_
   refine zg (some 10) rfl (fun K hK => ?_) ?_
   ·(first | (refine step_append_lies _ (by rfl) _ _ _ (by rfl) _ 262 i9 (.agg #[.int .u8 0, iV 0, eS, iV 0]) 4 40 Tryz.underlying189 hi9 hz90 hz91 hz92 rfl (by decide) _ r.n xs (by rfl) (HXO.out _) ⟨w.heap.size + 1, 0, none⟩ 1 1 [.int .u8 (kd : Nat), iV zi, .string tx, iV (ks : Nat)] (by rfl) (by rfl) (World.news_of_block (cs := #[.int .u8 (kd : Nat), iV zi, .string tx, iV (ks : Nat)]) (t := 262) (fr := (0, 0)) (hszw ▸ zw w1 _)) (by simp [Value.oneCell']) Nat.one_pos (by unfold maxLen; omega) (by omega) (by simp; omega) _ rfl ?_; intro gg cap3 w10 hown1 hgrow hat hlt9; have hpu := rd_push (HX.out _) (HXO.out _) (HXP.out _) hown1 hgrow hlt; have hk2 : w10.heap[pb]? = w1.heap[pb]? := (hgrow.block pb (by simp; omega) (fun e => HNE1.out 0 e)).trans (Below.heap_alloc w1 _ _ (by omega)); have hk3 : w10.heap[w.heap.size]? = w1.heap[w.heap.size]? := (hgrow.block w.heap.size (by simp; omega) (fun e => HNE2.out 0 e)).trans (Below.heap_alloc w1 _ _ (by omega))))
    refine hK.out _ _ (by (first | exact HS.out _ (f6 6) rfl rfl | exact HS.out _ (by simp [World.frozen?]) (Below.heap_alloc w1 _ _ (by omega)) (Below.heap_alloc w1 _ _ (by omega)) | exact HS.out _ hpu.1.1 hk2 hk3 | exact HS.out _ (hpu.2.1.froz 6) ((Below.heap_setCell _ _ _ _ (by show pb ≠ rb; omega)).trans hk2) ((Below.heap_setCell _ _ _ _ (by show w.heap.size ≠ rb; omega)).trans hk3) | assumption)) (fun hHeld => ?_)
    clear hK K
    try simp only [Act.put, zX, zY, zZ]
    refine zJ 8 11 rfl ?_
    refine zJ 9 12 rfl ?_
    refine zy [10] ?_
    refine zg none rfl (fun K hK => ?_) ?_
    ·go_simp
     refine hK.out _ _ (by (first | exact HS.out _ (f6 6) rfl rfl | exact HS.out _ (by simp [World.frozen?]) (Below.heap_alloc w1 _ _ (by omega)) (Below.heap_alloc w1 _ _ (by omega)) | exact HS.out _ hpu.1.1 hk2 hk3 | exact HS.out _ (hpu.2.1.froz 6) ((Below.heap_setCell _ _ _ _ (by show pb ≠ rb; omega)).trans hk2) ((Below.heap_setCell _ _ _ _ (by show w.heap.size ≠ rb; omega)).trans hk3) | assumption)) (fun hHeld => ?_)
     clear hK K
     try simp only [Act.put, zX, zY, zZ]
     refine wpAnyH_done (by kernel_rfl) ?_ _
     refine NoPanic.normal ?_
     have HPU := zD hpu
     clear hpu hk2 hk3 hown1 hgrow hat hlt9
     go_wp2_with fail
     go_end0
     exact ⟨rfl, HPU.out.2.1, HPU.out.2.2.2⟩
    exact zh
   exact zh
  exact zh
 refine zg (some 9) rfl (fun K hK => ?_) ?_
 ·go_simp
  refine hK.out _ _ (by (first | exact HS.out _ (f6 6) rfl rfl | exact HS.out _ (by simp [World.frozen?, HX.out]) (Below.heap_alloc w1 _ _ (by omega)) (Below.heap_alloc w1 _ _ (by omega)) | exact HS.out _ hpu.1.1 hk2 hk3 | exact HS.out _ (hpu.2.1.froz 6) ((Below.heap_setCell _ _ _ _ (by show pb ≠ rb; omega)).trans hk2) ((Below.heap_setCell _ _ _ _ (by show w.heap.size ≠ rb; omega)).trans hk3) | assumption)) (fun hHeld => ?_)
  clear hK K
  try simp only [Act.put, zX, zY, zZ]
  refine zy [4] ?_
  refine zg (some 7) rfl (fun K hK => ?_) ?_
  ·go_simp
   refine hK.out _ _ (by (first | exact HS.out _ (f6 6) rfl rfl | exact HS.out _ (by simp [World.frozen?, HX.out]) (Below.heap_alloc w1 _ _ (by omega)) (Below.heap_alloc w1 _ _ (by omega)) | exact HS.out _ hpu.1.1 hk2 hk3 | exact HS.out _ (hpu.2.1.froz 6) ((Below.heap_setCell _ _ _ _ (by show pb ≠ rb; omega)).trans hk2) ((Below.heap_setCell _ _ _ _ (by show w.heap.size ≠ rb; omega)).trans hk3) | assumption)) (fun hHeld => ?_)
   clear hK K
   try simp only [Act.put, zX, zY, zZ]
   refine zy [7] ?_
   refine zg (some 10) rfl (fun K hK => ?_) ?_
   ·(first | (refine step_append_lies _ (by rfl) _ _ _ (by rfl) _ 262 i9 (.agg #[.int .u8 0, iV 0, eS, iV 0]) 4 40 Tryz.underlying189 hi9 hz90 hz91 hz92 rfl (by decide) _ r.n xs (by rfl) (HXO.out _) ⟨w.heap.size + 1, 0, none⟩ 1 1 [.int .u8 (kd : Nat), iV zi, .string tx, iV (ks : Nat)] (by rfl) (by rfl) (World.news_of_block (cs := #[.int .u8 (kd : Nat), iV zi, .string tx, iV (ks : Nat)]) (t := 262) (fr := (0, 0)) (hszw ▸ zw w1 _)) (by simp [Value.oneCell']) Nat.one_pos (by unfold maxLen; omega) (by omega) (by simp; omega) _ rfl ?_; intro gg cap3 w10 hown1 hgrow hat hlt9; have hpu := rd_push (HX.out _) (HXO.out _) (HXP.out _) hown1 hgrow hlt; have hk2 : w10.heap[pb]? = w1.heap[pb]? := (hgrow.block pb (by simp; omega) (fun e => HNE1.out 0 e)).trans (Below.heap_alloc w1 _ _ (by omega)); have hk3 : w10.heap[w.heap.size]? = w1.heap[w.heap.size]? := (hgrow.block w.heap.size (by simp; omega) (fun e => HNE2.out 0 e)).trans (Below.heap_alloc w1 _ _ (by omega))))
    refine hK.out _ _ (by (first | exact HS.out _ (f6 6) rfl rfl | exact HS.out _ (by simp [World.frozen?]) (Below.heap_alloc w1 _ _ (by omega)) (Below.heap_alloc w1 _ _ (by omega)) | exact HS.out _ hpu.1.1 hk2 hk3 | exact HS.out _ (hpu.2.1.froz 6) ((Below.heap_setCell _ _ _ _ (by show pb ≠ rb; omega)).trans hk2) ((Below.heap_setCell _ _ _ _ (by show w.heap.size ≠ rb; omega)).trans hk3) | assumption)) (fun hHeld => ?_)
    clear hK K
    try simp only [Act.put, zX, zY, zZ]
    refine zJ 8 11 rfl ?_
    refine zJ 9 12 rfl ?_
    refine zy [10] ?_
    refine zg none rfl (fun K hK => ?_) ?_
    ·go_simp
     refine hK.out _ _ (by (first | exact HS.out _ (f6 6) rfl rfl | exact HS.out _ (by simp [World.frozen?]) (Below.heap_alloc w1 _ _ (by omega)) (Below.heap_alloc w1 _ _ (by omega)) | exact HS.out _ hpu.1.1 hk2 hk3 | exact HS.out _ (hpu.2.1.froz 6) ((Below.heap_setCell _ _ _ _ (by show pb ≠ rb; omega)).trans hk2) ((Below.heap_setCell _ _ _ _ (by show w.heap.size ≠ rb; omega)).trans hk3) | assumption)) (fun hHeld => ?_)
     clear hK K
     try simp only [Act.put, zX, zY, zZ]
     refine wpAnyH_done (by kernel_rfl) ?_ _
     refine NoPanic.normal ?_
     have HPU := zD hpu
     clear hpu hk2 hk3 hown1 hgrow hat hlt9
     go_wp2_with fail
     go_end0
     exact ⟨rfl, HPU.out.2.1, HPU.out.2.2.2⟩
    exact zh
   exact zh
  exact zh
 exact zh
theorem find_own (w0 w : World) (hb0 : Below w0.heap.size w0 w) (s : Sch) (ur us ug : Value) (hS : SchR w0 s ur us ug) (hM : Small s) (a : Tx) :
  Calls Tryz.prog 92 #[.agg #[sT s.name, ur, us, ug], sT a] w fun x w' => ∃ B u ys, w.heap.size ≤ B ∧ x = .returned (.tuple #[.agg #[sT (rOr (recOf s.records a)).name, .bool (rOr (recOf s.records a)).choice, u], .bool (recOf s.records a).isSome]) ∧ w'.ownsRow B 77 2 u (rOr (recOf s.records a)).fields.length ys ∧ Rows (fldX w0 B) w' (rOr (recOf s.records a)).fields ys ∧ Below w.heap.size w w' := by
 have HM := zD hM
 obtain ⟨⟨ra, rv, rfl⟩, ⟨sa, sv, rfl⟩, ⟨ga, gv, rfl⟩⟩ := hS.shape
 have HS := zD hS
 have hn2 := hM.nr
 have HQ := zD (show recOf s.records a = (s.records.drop 0).find? (fun v => decide (v.name = a)) from rfl)
 generalize recOf s.records a = Q at *
 have HB0 := zD (show Below w.heap.size w ((w.alloc (.cells (sV s ra sa ga rv sv gv) 26)).alloc (.cells zero3 74)) from ((Below.refl _ w).alloc zn _).alloc (by simp) _)
 have hX0 : ((w.alloc (.cells (sV s ra sa ga rv sv gv) 26)).alloc (.cells zero3 74)).heap[w.heap.size]? = some (.cells (sV s ra sa ga rv sv gv) 26 (0, 0)) := (Below.heap_alloc _ _ _ (by simp)).trans (zw _ _)
 have hY0 : ((w.alloc (.cells (sV s ra sa ga rv sv gv) 26)).alloc (.cells zero3 74)).heap[w.heap.size + 1]? = some (.cells zero3 74 (0, 0)) := heap_alloc_new2 _ _ _
 have hZ0 : ((w.alloc (.cells (sV s ra sa ga rv sv gv) 26)).alloc (.cells zero3 74)).heap.size = w.heap.size + 2 := by simp
 go_enter Tryz.func92, Tryz.ntmps92
 go_wp2_with fail
 generalize ((w.alloc (.cells (sV s ra sa ga rv sv gv) 26)).alloc (.cells zero3 74)) = wM at *
 have HX := zD (fun (W : World) (h : Below wM.heap.size wM W) => show W.heap[w.heap.size]? = some (.cells (sV s ra sa ga rv sv gv) 26 (0, 0)) ∧ W.heap[w.heap.size + 1]? = some (.cells zero3 74 (0, 0)) from ⟨(h.block _ (by omega)).trans hX0, (h.block _ (by omega)).trans hY0⟩)
 clear hX0 hY0 hS hM
 go_loopw [13] (fun vi wr => ∃ k : Nat, k ≤ s.records.length ∧ vi = iV (k : Nat) ∧ Hid (Below wM.heap.size wM wr) ∧ Hid (Q = (s.records.drop k).find? (fun v => decide (v.name = a)))) (fun vi _ => s.records.length - (intOf vi).toNat)
 case atStart => exact ⟨0, by omega, rfl, zl, HQ⟩
 case round =>
  clear HQ; obtain ⟨k, hk, rfl, HBr, HQ⟩ := hrel; have HBw := zD (HB0.out.trans (HBr.out.mono (by omega))); have hszr := HBr.out.size; by_cases hlt : k < s.records.length
  ·obtain ⟨xr, hx1, hx2⟩ := HS.out.rc
   obtain ⟨b', o, fa, fc, ys, rfl, hb, q0, q1, q2, hs, hr⟩ := rec_in (hb0.trans (HBw.out.mono hb0.size)) hx1 hx2 hlt; have HH := zD (fun (h : s.records[k].name = a) => find_here (p := fun v : Rec => decide (v.name = a)) hlt (zt h)); have HN := zD (fun (h : ¬ s.records[k].name = a) => find_next (p := fun v : Rec => decide (v.name = a)) hlt (by simpa using h)); have hbd := HM.out.rc _ (List.getElem_mem hlt); have e_n := bT_same (s.records[k].name) a; generalize s.records[k] = r at *; clear hx1 hx2; by_cases hn : r.name = a
   ·rw [zt hn] at e_n
    have HQ2 := zD (HQ.out.trans (HH.out hn)); obtain rfl := HQ2.out; clear HH HN HQ hn HQ2; have hm := hbd.2.1; have HCF := zD (fun W (X : Below w.heap.size w W) => cloneField_any W (.slice fa r.fields.length fc) r.fields.length ys (hs.below (hb0.trans (X.mono hb0.size))) (fld_one hr) (by omega)); have HRS := zD hr; clear hs hr; go_wp2_with fail; generalize hwi : wr.alloc (.cells #[sT r.name, .bool r.choice, .slice fa r.fields.length fc] 74) = wi; have HBi := zD (show Below wM.heap.size wM wi from hwi ▸ HBr.out.alloc HBr.out.size _); have hszi : wi.heap.size = wr.heap.size + 1 := by rw [← hwi]; simp
    have HGi := zD (show wi.heap[wr.heap.size]? = some (.cells #[sT r.name, .bool r.choice, .slice fa r.fields.length fc] 74 (0, 0)) from hwi ▸ zw _ _); have HBwi := zD (HB0.out.trans (HBi.out.mono (by omega))); clear hwi; refine (HCF.out wi HBwi.out).mono ?_; rintro e w2 ⟨u, rfl, hu, hb2⟩; obtain ⟨uA, uc, rfl⟩ := own_slice hu; have HU := zD hu; have HB2 := zD hb2; have HRX := zD (show Rows (fldX w0 wi.heap.size) w2 r.fields ys from HRS.out.map (fun _ _ ⟨u, e, h⟩ => ⟨u, e, .inl h⟩)); generalize hwrs : wr.heap.size = rb at *; clear hu hb2 HCF HRS q0 q1 q2; go_wp2_with fail; go_loopw [26] (fun vj wj => ∃ (j : Nat) (zs : List Value), j ≤ r.fields.length ∧ vj = iV (j : Nat) ∧ Hid (Below wi.heap.size wi wj) ∧ Hid (wj.ownsRow wi.heap.size 77 2 (.slice uA r.fields.length uc) r.fields.length zs) ∧ Hid (Rows (fldX w0 wi.heap.size) wj r.fields zs)) (fun vj _ => r.fields.length - (intOf vj).toNat)
    case atStart => exact ⟨0, ys, by omega, rfl, HB2, HU, HRX⟩
    case round =>
     clear HB2 HU HRX; obtain ⟨j, zs, hj, rfl, HBj, HU, HRX⟩ := hrel; have HBwj := zD (HBwi.out.trans (HBj.out.mono (by omega))); have hszj := HBj.out.size; by_cases hlt2 : j < r.fields.length
     ·obtain ⟨g, cap, hform⟩ := own_form HU.out (by omega)
      cases hform
      obtain ⟨xa, xb, z0, z1, ⟨ux, eux, hux⟩⟩ := rows2_get fldX_len HRX.out j hlt2; cases eux
      have hslc : Slc wr 2 xb r.fields[j].type.length (scells r.fields[j].type) := hux.elim (fun h => h.below (hb0.trans (HBwj.out.mono hb0.size))) Slc.own; obtain ⟨xa, xc, rfl⟩ := hslc.shape; have d1 : wr.cell? ⟨g, j * 2 + 1, none⟩ = some (.slice xa r.fields[j].type.length xc) := (HU.out.cellAt _ (by omega)).trans z1; have df := fun o => HU.out.frozenAt o
      have HFR := zD (fun w2 v hb hv => fldX_round (w2 := w2) (v := v) rfl HU.out HRX.out hb hlt2 hv); have htl := (hbd.2.2 _ (List.getElem_mem hlt2)).2.1; have HCS := zD (cloneSort_any wr _ _ _ hslc (scells_one _) (by omega)); generalize r.fields[j] = f at *; clear hslc hux z0 z1 HRX; have hgl := (HU.out.lt _ rfl).2; go_wp2_with fail; refine HCS.out.mono ?_; rintro e w3 ⟨v, rfl, hv, hb3⟩; obtain ⟨va, vc, rfl⟩ := own_slice hv; have d2 : w3.cell? ⟨g, j * 2 + 1, none⟩ = some (.slice xa f.type.length xc) := (hb3.cell (p := ⟨g, j * 2 + 1, none⟩) hgl).trans d1; have df3 : ∀ o, w3.frozen? ⟨g, o, none⟩ = false := fun o => (own_below HU.out hb3).frozenAt o
      have HG := zD (HFR.out w3 _ hb3 (own_base hv hszj)); have HBJ := zD ((HBj.out.trans (hb3.mono hszj)).setCell (p := ⟨g, j * 2 + 1, none⟩) (show wi.heap.size ≤ g from (HU.out.lt _ rfl).1) (.slice va f.type.length vc)); clear hv hb3 d1 df; go_wp2_with fail; exact ⟨⟨j + 1, _, by omega, by go_num, HBJ, zD HG.out.1, zD HG.out.2⟩, by simp [intOf]; omega⟩
     have HGr := zD ((HBj.out.block rb (by omega)).trans HGi.out); have i2 : wr.cell? ⟨rb, 2, none⟩ = some (.slice fa r.fields.length fc) := by simp [World.cell?, HGr.out]
     have jf : ∀ o, wr.frozen? ⟨rb, o, none⟩ = false := fun o => by simp [World.frozen?, HGr.out]
     go_upto_region 12 with (fail); have HG5 := zD (show (wr.setCell ⟨rb, 2, none⟩ (.slice uA r.fields.length uc)).heap[rb]? = some (.cells #[sT r.name, .bool r.choice, .slice uA r.fields.length uc] 74 (0, 0)) from by simp [World.setCell, Array.getElem?_modify, HGr.out]); have HB5 := zD ((HBi.out.trans (HBj.out.mono (by omega))).setCell (p := ⟨rb, 2, none⟩) (show wM.heap.size ≤ rb by omega) (.slice uA r.fields.length uc)); have HBw5 := zD (HBwj.out.setCell (p := ⟨rb, 2, none⟩) (show w.heap.size ≤ rb by omega) (.slice uA r.fields.length uc)); have HK5 := zD (KeepsB.set (B := wi.heap.size) wr (show rb < wi.heap.size by omega) 2 (.slice uA r.fields.length uc)); clear i2 jf HGr; generalize wr.setCell ⟨rb, 2, none⟩ (.slice uA r.fields.length uc) = w5 at *; have i0 : w5.cell? ⟨rb, 0, none⟩ = some (sT r.name) := by simp [World.cell?, HG5.out]
     have i1 : w5.cell? ⟨rb, 1, none⟩ = some (.bool r.choice) := by simp [World.cell?, HG5.out]
     have i2 : w5.cell? ⟨rb, 2, none⟩ = some (.slice uA r.fields.length uc) := by simp [World.cell?, HG5.out]
     have HY := zD (HX.out w5 HB5.out).2; obtain ⟨l0, l1, l2, g0, g1, g2⟩ := laid3_cells HY.out; obtain ⟨m0, m1, m2⟩ := laid3_read HY.out (sT r.name) (.bool r.choice) (.slice uA r.fields.length uc); have HKf := zD (HK5.out.trans (laid3_keep w5 (show w.heap.size + 1 < wi.heap.size by omega) (sT r.name) (.bool r.choice) (.slice uA r.fields.length uc))); have HBf := zD (laid3_below HBw5.out (show w.heap.size ≤ w.heap.size + 1 by omega) (sT r.name) (.bool r.choice) (.slice uA r.fields.length uc)); go_wp2_with fail; exact bodyPost_ret (v := .tuple #[.agg #[sT r.name, .bool r.choice, .slice uA r.fields.length uc], .bool true]) (by simp [results, Tryz.results92, go_sem, m0, m1, m2]) rfl ⟨wi.heap.size, _, zs, HBwi.out.size, rfl, HKf.out _ _ _ _ _ HU.out, HRX.out.mono (fldX_keep (fun _ _ _ h => HKf.out _ _ _ _ _ h)), HBf.out⟩
   ·rw [zf hn] at e_n
    have HQ2 := zD (HQ.out.trans (HN.out hn)); clear HH HN HQ hn; go_wp2_with fail; exact ⟨⟨k + 1, by omega, by go_num, HBr.out.alloc HBr.out.size _, HQ2⟩, by simp [intOf]; omega⟩
  have HQ2 := zD (HQ.out.trans (find_end hlt)); obtain rfl := HQ2.out; clear HQ HQ2; have HY := zD (HX.out wr HBr.out).2; obtain ⟨l0, l1, l2, g0, g1, g2⟩ := laid3_cells HY.out; obtain ⟨m0, m1, m2⟩ := laid3_read HY.out (eS) (.bool false) (.slice none 0 0); go_wp2_with fail; exact bodyPost_ret (v := .tuple #[.agg #[eS, .bool false, .slice none 0 0], .bool false]) (by simp [results, Tryz.results92, go_sem, m0, m1, m2]) rfl ⟨w.heap.size, _, [], zn, rfl, ⟨rfl, .inl ⟨rfl, rfl⟩⟩, rfl, laid3_below HBw.out (by omega) _ _ _⟩
def SlcP (rb : Nat) (w : World) (k : Nat) (v : Value) (n : Nat) (xs : List Value) : Prop := ∀ w', PtN rb w w' → Slc w' k v n xs
theorem SlcP.now {rb : Nat} {w : World} {k n : Nat} {v : Value} {xs : List Value} (h : SlcP rb w k v n xs) : Slc w k v n xs := h w (PtN.refl _ _)
theorem SlcP.keep {rb : Nat} {w w' : World} {k n : Nat} {v : Value} {xs : List Value} (h : SlcP rb w k v n xs) (p : PtN rb w w') : SlcP rb w' k v n xs := fun w2 p2 => h w2 (p.trans p2)
theorem slc_tail {w : World} {t : Srt} {T : List Srt} {a : Option Addr} {c : Nat} (h : Slc w 2 (.slice a (t :: T).length c) (t :: T).length (scells (t :: T))) : ∃ b o, a = some ⟨b, o, none⟩ ∧ 1 ≤ c ∧ Slc w 2 (.slice (some ⟨b, o + 2, none⟩) T.length (c - 1)) T.length (scells T) := by
 obtain ⟨⟨a', c', e, h1, h2, h3, h4⟩, hl⟩ := h
 injection e with e1 e2 e3
 subst e1 e3
 obtain ⟨b, o, rfl, hb, hc⟩ := h4 (by simp)
 simp only [List.length_cons] at h1
 refine ⟨b, o, rfl, by omega, ⟨⟨_, _, rfl, by omega, by omega, (fun e => by cases e), fun _ => ⟨b, o + 2, rfl, hb, fun j u hu => ?_⟩⟩, by simp [scells] at hl; omega⟩⟩
 have := hc (j + 2) u (by simpa [scells] using hu)
 rw [show o + 2 + j = o + (j + 2) by omega]
 exact this
theorem SlcP.tail {rb : Nat} {w : World} {t : Srt} {T : List Srt} {b o c : Nat} (h : SlcP rb w 2 (.slice (some ⟨b, o, none⟩) (t :: T).length c) (t :: T).length (scells (t :: T))) : SlcP rb w 2 (.slice (some ⟨b, o + 2, none⟩) T.length (c - 1)) T.length (scells T) := fun w' p => by
 obtain ⟨b', o', e, _, h2⟩ := slc_tail (h w' p)
 injection e with e
 injection e with e1 e2
 subst e1 e2
 exact h2
theorem own_ptn {rb B : Nat} {w w' : World} {T : TypeId} {k n : Nat} {v : Value} {xs : List Value} (h : w.ownsRow B T k v n xs) (hT : T ≠ 262) (hB : rb < B) (p : PtN rb w w') : w'.ownsRow B T k v n xs := by
 have hr : w.grownBy w' (some rb) → w'.ownsRow B T k v n xs := fun g => h.kept g (by
  have := own_ge h; cases hv : v.ownBlock with
  | none => simp
  | some x => have := (this x hv).1; simp; omega)
 obtain ⟨h1, ⟨e1, e2⟩ | ⟨g, cap, cur, e, hg, hb, h5, h6, h7, h8⟩⟩ := h
 ·exact ⟨h1, .inl ⟨e1, e2⟩⟩
 ·exact ⟨h1, .inr ⟨g, cap, cur, e, hg, p.box hb hT (by omega), h5, h6, h7, h8⟩⟩
theorem SlcP.own {rb B : Nat} {w : World} {T : TypeId} {k n : Nat} {v : Value} {xs : List Value} (h : w.ownsRow B T k v n xs) (hT : T ≠ 262) (hB : rb < B) : SlcP rb w k v n xs := fun _ p => Slc.own (own_ptn h hT hB p)
def FldsP (rb : Nat) (w : World) (v : Value) (L : List Fld) : Prop := ∃ ys, ∀ w', PtN rb w w' → Slc w' 2 v L.length ys ∧ Rows fldR w' L ys
theorem FldsP.keep {rb : Nat} {w w' : World} {v : Value} {L : List Fld} (h : FldsP rb w v L) (p : PtN rb w w') : FldsP rb w' v L := by
 obtain ⟨ys, h⟩ := h
 exact ⟨ys, fun w2 p2 => h w2 (p.trans p2)⟩
theorem FldsP.found {rb B : Nat} {w0 w : World} {v : Value} {L : List Fld} {ys : List Value} (hb : Below w0.heap.size w0 w) (hr : w0.heap.size ≤ rb) (h : w.ownsRow B 77 2 v L.length ys) (hR : Rows (fldX w0 B) w L ys) (hB : rb < B) : FldsP rb w v L :=
 ⟨ys, fun w' p => ⟨Slc.own (own_ptn h (by decide) hB p), (hR.mono (fldX_keep (fun _ _ _ h => own_ptn h (by decide) hB p))).map (fldX_read (p.below hb hr hb.size))⟩⟩
theorem FldsP.at {rb : Nat} {w : World} {a : Option Addr} {n c : Nat} {L : List Fld} (h : FldsP rb w (.slice a n c) L) {k : Nat} (hk : k < L.length) :
  ∃ b o fa fc, a = some ⟨b, o, none⟩ ∧ b < w.heap.size ∧ w.cell? ⟨b, o + k * 2, none⟩ = some (sT L[k].name) ∧ w.cell? ⟨b, o + k * 2 + 1, none⟩ = some (.slice fa L[k].type.length fc) ∧ SlcP rb w 2 (.slice fa L[k].type.length fc) L[k].type.length (scells L[k].type) := by
 obtain ⟨ys, h⟩ := h
 obtain ⟨h1, h2⟩ := h w (PtN.refl _ _)
 obtain ⟨b, o, fa, fc, e, hb, q0, q1, q3⟩ := fld_at h1 h2 hk
 refine ⟨b, o, fa, fc, e, hb, q0, q1, fun w' p => ?_⟩
 obtain ⟨g1, g2⟩ := h w' p
 obtain ⟨b', o', fa', fc', e', _, _, r1, r3⟩ := fld_at g1 g2 hk
 obtain ⟨x, y, hx, hy, u, hu, _⟩ := rows2_get (fun _ _ h => by obtain ⟨_, e, _⟩ := h; rw [e]; rfl) h2 k hk
 obtain ⟨x', y', hx', hy', u', hu', hs⟩ := rows2_get (fun _ _ h => by obtain ⟨_, e, _⟩ := h; rw [e]; rfl) g2 k hk
 obtain ⟨_, hq⟩ := h1
 obtain ⟨⟨a0, c0, ea, _, _, _, hc⟩, _⟩ := (h w (PtN.refl _ _)).1
 injection ea with ea1 _ ea2
 obtain ⟨b2, o2, eb, _, hc2⟩ := hc (by omega)
 rw [← ea1, e] at eb
 injection eb with eb
 injection eb with eb1 eb2
 have := hc2 _ _ hy
 rw [← eb1, ← eb2, ← Nat.add_assoc, q1] at this
 injection this with this
 have e3 : y = y' := by rw [hy] at hy'; exact Option.some.inj hy'
 have hu2 : y' = u' := by simpa using (List.cons.inj hu').2
 rw [this, e3, hu2]
 exact hs
structure Ok (b : Tx) (r : Rs) : Prop where
 at_ : r.at_ ≤ b.length
 size : r.size ≤ 4096
 n : r.n ≤ 4096
theorem oneA_ok {b : Tx} {r r' : Rs} {c : UInt8} (h : oneA b r = some (c, r')) : r'.n = r.n ∧ r'.size = r.size ∧ r.at_ < r'.at_ ∧ r'.at_ ≤ b.length := by
 unfold oneA at h
 split at h
 ·injection h with h
  injection h with _ h; subst h; exact ⟨rfl, rfl, Nat.lt_succ_self _, by show r.at_ + 1 ≤ _; omega⟩
 ·cases h
theorem numA_ok {b : Tx} {fr : Nat} : ∀ {f k : Nat} {u : Int} {r : Rs} {z : Int} {r' : Rs}, numA b fr f k u r = .inr (z, r') → r'.n = r.n ∧ r'.size = r.size ∧ r.at_ < r'.at_ ∧ r'.at_ ≤ b.length
 | 0, _, _, _, _, _, h => by cases h
 | f + 1, k, u, r, z, r', h => by
  unfold numA at h
  cases ho : oneA b r with
  | none => rw [ho] at h; cases h
  | some p =>
   obtain ⟨c, r2⟩ := p
   have h1 := oneA_ok ho
   rw [ho] at h
   dsimp only at h
   split at h
   ·cases h
   ·split at h
    ·split at h
     ·cases h
     ·injection h with h
      injection h with _ h2
      rw [← h2]
      exact h1
    ·have h2 := numA_ok h
     exact ⟨h2.1.trans h1.1, h2.2.1.trans h1.2.1, by omega, h2.2.2.2⟩
theorem numberA_ok {b : Tx} {r : Rs} {z : Int} {r' : Rs} (h : numberA b r = .inr (z, r')) : 0 ≤ z ∧ r'.n = r.n ∧ r'.size = r.size ∧ r.at_ < r'.at_ ∧ r'.at_ ≤ b.length := ⟨numA_ge h, numA_ok h⟩
theorem bitA_ok {b : Tx} {r : Rs} {c : Nat} {r' : Rs} (h : bitA b r = .inr (c, r')) : c ≤ 1 ∧ r'.n = r.n ∧ r'.size = r.size ∧ r.at_ < r'.at_ ∧ r'.at_ ≤ b.length := by
 unfold bitA at h
 cases ho : oneA b r with
 | none => rw [ho] at h; cases h
 | some p =>
  obtain ⟨c', r2⟩ := p; rw [ho] at h; dsimp only at h; split at h
  ·cases h
  ·injection h with h
   injection h with h1 h2; subst h1 h2; exact ⟨by omega, oneA_ok ho⟩
def repA (P : Rs → (Nat × Nat) ⊕ Rs) : Nat → Rs → (Nat × Nat) ⊕ Rs
 | 0, r => .inr r
 | n + 1, r => match P r with
  | .inl f => .inl f
  | .inr r' => repA P n r'
def fldsA (P : List Srt → Rs → (Nat × Nat) ⊕ Rs) : List Fld → Rs → (Nat × Nat) ⊕ Rs
 | [], r => .inr r
 | f :: l, r => match P f.type r with
  | .inl f => .inl f
  | .inr r' => fldsA P l r'
def choA (P : List Srt → Rs → (Nat × Nat) ⊕ Rs) (fr : Nat) (L : List Fld) (u : Int) (r : Rs) : (Nat × Nat) ⊕ Rs :=
 if (L.length : Int) ≤ u then .inl (fr, 162) else P (L.getD u.toNat ⟨[], []⟩).type r
def namedA (s : Sch) (b : Tx) (P : List Srt → Rs → (Nat × Nat) ⊕ Rs) (fr : Nat) (nm : Tx) (r : Rs) : (Nat × Nat) ⊕ Rs :=
 if (rOr (recOf s.records nm)).choice then
  match numberA b r with
  | .inl f => .inl f
  | .inr (u, r1) => choA P fr (rOr (recOf s.records nm)).fields u { r1 with n := r1.n + 1 }
 else fldsA P (rOr (recOf s.records nm)).fields { r with n := r.n + 1 }
def txtA (b : Tx) (fr : Nat) (u : Int) (r : Rs) : (Nat × Nat) ⊕ Rs :=
 if (4096 : Int) - (r.size : Nat) < u then .inl (fr, 3) else if (b.length : Int) - (r.at_ : Nat) < u then .inl (b.length, 160) else .inr ⟨r.at_ + u.toNat, r.size + u.toNat, r.n + 1⟩
def lstA (P : Rs → (Nat × Nat) ⊕ Rs) (fr : Nat) (u : Int) (r : Rs) : (Nat × Nat) ⊕ Rs :=
 if (4096 : Int) < u then .inl (fr, 3) else repA P u.toNat r
def kindA (s : Sch) (b : Tx) (P : List Srt → Rs → (Nat × Nat) ⊕ Rs) (fr : Nat) (t : Srt) (T : List Srt) (r : Rs) : (Nat × Nat) ⊕ Rs :=
 if t.kind = 1 then .inr { r with n := r.n + 1 }
 else if t.kind = 2 then match bitA b r with
  | .inl f => .inl f
  | .inr (_, r1) => .inr { r1 with n := r1.n + 1 }
 else if t.kind = 3 then match numberA b r with
  | .inl f => .inl f
  | .inr (_, r1) => .inr { r1 with n := r1.n + 1 }
 else if t.kind = 4 then match numberA b r with
  | .inl f => .inl f
  | .inr (u, r1) => txtA b fr u r1
 else if t.kind = 5 then match numberA b r with
  | .inl f => .inl f
  | .inr (u, r1) => lstA (P T) fr u { r1 with n := r1.n + 1 }
 else if t.kind = 6 then match bitA b r with
  | .inl f => .inl f
  | .inr (c, r1) => if c = 1 then P T { r1 with n := r1.n + 1 } else .inr { r1 with n := r1.n + 1 }
 else namedA s b P fr t.name r
def partA (s : Sch) (b : Tx) : Nat → List Srt → Rs → (Nat × Nat) ⊕ Rs
 | 0, _, r => .inl (r.at_, 151)
 | d + 1, L, r => if r.n = 4096 ∨ r.size = 4096 then .inl (r.at_, 3) else match L with
  | [] => .inl (0, 0)
  | t :: T => kindA s b (partA s b d) r.at_ t T { r with size := r.size + 1 }
def TyOk : List Srt → Prop
 | [] => False
 | t :: T => t.kind = 5 ∨ t.kind = 6 → TyOk T
def FOk (s : Sch) : Prop := ∀ r ∈ s.records, ∀ x ∈ r.fields, TyOk x.type
theorem rOr_ok {s : Sch} (h : FOk s) (nm : Tx) : ∀ x ∈ (rOr (recOf s.records nm)).fields, TyOk x.type := by
 unfold rOr recOf
 cases hf : s.records.find? (fun v => decide (v.name = nm)) with
 | none => intro x hx; cases hx
 | some r => exact h r (List.mem_of_find?_eq_some hf)
theorem tyOk_ahead {s : Sch} : ∀ {L : List Srt}, L.dropLast.all aheadOk = true → (∀ t, L.getLast? = some t → lastOk s t = true) → L ≠ [] → TyOk L
 | [], _, _, h => absurd rfl h
 | [t], _, h, _ => by
  have := h t rfl
  intro hk
  unfold lastOk at this
  exfalso
  rcases hk with hk | hk <;> rw [hk] at this <;> simp at this
 | t :: u :: T, h1, h2, _ => fun _ => tyOk_ahead (L := u :: T) (by simp only [List.dropLast, List.all_cons, Bool.and_eq_true] at h1; exact h1.2) (fun x hx => h2 x (by rw [List.getLast?_cons_cons]; exact hx)) (by simp)
theorem tyOk_right {s : Sch} {L : List Srt} (h : rightA s L = true) : TyOk L := by
 unfold rightA at h
 cases hl : L.getLast? with
 | none => rw [hl] at h; cases h
 | some t =>
  rw [hl] at h; simp only [Bool.and_eq_true] at h; exact tyOk_ahead h.1.2 (fun x hx => by rw [hl] at hx; injection hx with hx; exact hx ▸ h.2) (fun e => by rw [e] at hl; cases hl)
theorem fOk_of {s : Sch} (h : (checkA s).2 = 0) : FOk s := by
 have hc := checkA_clear h (rules_num s) (typesA s flt0) (by simp [rulesA])
 have h1 := (fold_is (g := tyV) (p := fun v => ∀ x ∈ v.methods, True) (fun f v h => ⟨(fold_is (g := tyM v) (p := fun _ => True) (fun f i h => ⟨(atF_is h).1, trivial⟩) h).1, fun _ _ => trivial⟩) hc).1
 obtain ⟨_, h2⟩ := fold_is (g := tyR s) (p := fun r => ∀ x ∈ r.fields, rightA s x.type = true) (fun f r h => fold_is (g := tyF s r) (p := fun x => rightA s x.type = true) (fun f i h => atF_is h) h) h1
 exact fun r hr x hx => tyOk_right (h2 r hr x hx)
end Go.Proofs.YtgoejmheihgpfaaGreatDoor
