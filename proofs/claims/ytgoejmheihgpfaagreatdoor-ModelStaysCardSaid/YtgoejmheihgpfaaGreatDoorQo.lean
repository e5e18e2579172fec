/- Lemmas for ModelStays' proof. -/
import Derived.Test.YtgoejmheihgpfaaGreatDoorQn
namespace Go.Proofs.YtgoejmheihgpfaaGreatDoor
set_option maxRecDepth 100000
set_option maxHeartbeats 16000000
open Go.RowKit
def wayOk (s : Sch) (g : Sga) (i : Nat) (x : Stp) : Bool := decide (i + 1 = g.steps.length) || !decide ((mOr (mthOf s x.service x.method)).undo = [])
def wayI (s : Sch) (g : Sga) (f : Flt) (i : Nat) : Flt := atF f (wayOk s g i (stAt g i)) (nthT g.name i) 133
def wayG (s : Sch) (f : Flt) (g : Sga) : Flt := (List.range g.steps.length).foldl (wayI s g) f
def waysA (s : Sch) (f : Flt) : Flt := s.sagas.foldl (wayG s) f
theorem ways_any (w0 w : World) (s : Sch) (ur us ug : Value) (hS : SchR w0 s ur us ug) (hM : Small s) (f : Flt) (hF : NewB w0 w 99 (fcells f)) :
  Calls Tryz.prog 35 #[.agg #[sT s.name, ur, us, ug], .pointer (some ⟨w0.heap.size, 0, none⟩)] w fun x w' => x = .returned (.tuple #[]) ∧ FQ w0 w w' (waysA s f) := by
 have HM := zD hM
 obtain ⟨⟨ra, rv, rfl⟩, ⟨sa, sv, rfl⟩, ⟨ga, gv, rfl⟩⟩ := hS.shape
 have HS := zD (fun (wr : World) (h : Below w0.heap.size w0 wr) => hS.below h)
 have hn1 := hM.nr
 have hn2 := hM.ns
 have hn3 := hM.ng
 have HF0 := zD (FQ.start (hF.after ((Below.refl _ w).alloc zn (.cells (sV s ra sa ga rv sv gv) 26))))
 have hwf := hF.lt
 have HX := zD (fun (wr : World) (h : Aw w0.heap.size (w.alloc (.cells (sV s ra sa ga rv sv gv) 26)) wr) => show wr.heap[w.heap.size]? = some (.cells (sV s ra sa ga rv sv gv) 26 (0, 0)) from (h.block _ (by simp) (by omega)).trans (zw _ _))
 have HE := zD (fun (wr : World) (f' : Flt) (h : FQ w0 (w.alloc (.cells (sV s ra sa ga rv sv gv) 26)) wr f') => show FQ w0 w wr f' from ⟨h.nb, (Aw.below ((Below.refl _ w).alloc zn _)).trans h.aw⟩)
 have HA := zD (fun w1 w2 f h r wh e => at_any w0 w1 w2 f h r wh e)
 have HMT := zD (fun (wr : World) (h : Below w0.heap.size w0 wr) a b m hm ok hk => method_lit wr s _ _ _ (hS.below h) hM a b m hm ok hk)
 clear hS hM hF
 unfold waysA
 generalize hf2 : s.sagas.foldl (wayG s) f = f2
 have HF2 := zD hf2
 clear hf2
 go_enter Tryz.func35, Tryz.ntmps35
 go_wp2_with fail
 generalize (w.alloc (.cells (sV s ra sa ga rv sv gv) 26)) = wA at *
 go_loopw [13] (fun vi wr => ∃ k : Nat, k ≤ s.sagas.length ∧ vi = iV (k : Nat) ∧ Hid (FQ w0 wA wr ((s.sagas.take k).foldl (wayG s) f))) (fun vi _ => s.sagas.length - (intOf vi).toNat)
 case atStart => exact ⟨0, by omega, rfl, zD HF0.out⟩
 case round =>
  rename World => wo
  obtain ⟨k, hk, rfl, HFr⟩ := hrel; by_cases hlt : k < s.sagas.length
  ·obtain ⟨xr, hx1, hx2⟩ := (HS.out w0 zl).sg
   obtain ⟨b, o, fa, fc, rfl, hb, q0, q1, q2, hs⟩ := sga_in HFr.out.nb.bel hx1 hx2 hlt; have HT := zD (take_fold (wayG s) f s.sagas k hlt); have hbd := HM.out.sg _ (List.getElem_mem hlt); have hsz := HFr.out.size; generalize s.sagas[k] = r at *; clear hx1 hx2; have hns := hbd.2.2.1; generalize hF1 : (s.sagas.take k).foldl (wayG s) f = F1 at *; clear hF1; go_wp2_with fail; generalize hw1 : wo.alloc (.cells #[sT r.name, sT r.arg, .slice fa r.steps.length fc] 67) = w1; have HF1 := zD (show FQ w0 wA w1 _ from hw1 ▸ HFr.out.alloc _); have hg1 : w1.heap[wo.heap.size]? = some (.cells #[sT r.name, sT r.arg, .slice fa r.steps.length fc] 67 (0, 0)) := hw1 ▸ zw _ _; have hsz1 : w1.heap.size = wo.heap.size + 1 := by rw [← hw1]; simp
   have HX1 := zD (fun W (X : Aw w0.heap.size w1 W) => show W.heap[w.heap.size]? = some (.cells #[sT s.name, .slice ra s.records.length rv, .slice sa s.services.length sv, .slice (some ⟨b, o, none⟩) s.sagas.length gv] 26 (0, 0)) ∧ W.heap[wo.heap.size]? = some (.cells #[sT r.name, sT r.arg, .slice fa r.steps.length fc] 67 (0, 0)) from ⟨HX.out W (HF1.out.aw.trans X), (X.block _ (by omega) (by omega)).trans hg1⟩); have hszw : w.heap.size < w1.heap.size := (zq (HX1.out w1 (Aw.refl _ _)).1).1; have cr : w1.cell? ⟨wo.heap.size, 2, none⟩ = some (.slice fa r.steps.length fc) := by simp [World.cell?, hg1]
   clear hw1 hg1; go_loopw [20] (fun vi wi => ∃ j : Nat, j ≤ r.steps.length ∧ vi = iV (j : Nat) ∧ Hid (FQ w0 w1 wi ((List.range j).foldl (wayI s r) F1))) (fun vi _ => r.steps.length - (intOf vi).toNat)
   case atStart => exact ⟨0, by omega, rfl, zD (FQ.start HF1.out.nb)⟩
   case round =>
    rename World => wi
    obtain ⟨j, hj, rfl, HFi⟩ := hrel; by_cases hlt2 : j < r.steps.length
    ·obtain ⟨b2, o2, rfl, hb2, p0, p1, p2⟩ := stp_in HFi.out.nb.bel hs hlt2
     have HT2 := zD (show (List.range (j + 1)).foldl (wayI s r) F1 = atF ((List.range j).foldl (wayI s r) F1) (wayOk s r j r.steps[j]) (nthT r.name j) 133 from by rw [range_fold]; unfold wayI; rw [stAt_get hlt2]); have hbd2 := hbd.2.2.2 _ (List.getElem_mem hlt2); generalize r.steps[j] = x at *; have HF2 := zD (show FQ w0 w1 (wi.alloc (.cells #[sT x.service, sT x.method, iV x.node] 108)) _ from HFi.out.alloc _); have hszi : w1.heap.size ≤ wi.heap.size := HFi.out.aw.size; have HX2 := zD (fun W (X : Aw w0.heap.size (wi.alloc (.cells #[sT x.service, sT x.method, iV x.node] 108)) W) => show W.heap[w.heap.size]? = some (.cells #[sT s.name, .slice ra s.records.length rv, .slice sa s.services.length sv, .slice (some ⟨b, o, none⟩) s.sagas.length gv] 26 (0, 0)) ∧ W.heap[wo.heap.size]? = some (.cells #[sT r.name, sT r.arg, .slice (some ⟨b2, o2, none⟩) r.steps.length fc] 67 (0, 0)) ∧ W.heap[wi.heap.size]? = some (.cells #[sT x.service, sT x.method, iV x.node] 108 (0, 0)) from ⟨(HX1.out W (HF2.out.aw.trans X)).1, (HX1.out W (HF2.out.aw.trans X)).2, (X.block _ (by simp) (by omega)).trans (zw _ _)⟩); obtain ⟨a1, a2, a3⟩ := HX2.out (wi.alloc (.cells #[sT x.service, sT x.method, iV x.node] 108)) (Aw.refl _ _); have s0 : (wi.alloc (.cells #[sT x.service, sT x.method, iV x.node] 108)).cell? ⟨w.heap.size, 0, none⟩ = some (sT s.name) := by simp only [World.cell?, a1]; rfl
     have s1 : (wi.alloc (.cells #[sT x.service, sT x.method, iV x.node] 108)).cell? ⟨w.heap.size, 1, none⟩ = some (.slice ra s.records.length rv) := by simp only [World.cell?, a1]; rfl
     have s2 : (wi.alloc (.cells #[sT x.service, sT x.method, iV x.node] 108)).cell? ⟨w.heap.size, 2, none⟩ = some (.slice sa s.services.length sv) := by simp only [World.cell?, a1]; rfl
     have s3 : (wi.alloc (.cells #[sT x.service, sT x.method, iV x.node] 108)).cell? ⟨w.heap.size, 3, none⟩ = some (.slice (some ⟨b, o, none⟩) s.sagas.length gv) := by simp only [World.cell?, a1]; rfl
     have x0 : (wi.alloc (.cells #[sT x.service, sT x.method, iV x.node] 108)).cell? ⟨wi.heap.size, 0, none⟩ = some (sT x.service) := by simp only [World.cell?, a3]; rfl
     have x1 : (wi.alloc (.cells #[sT x.service, sT x.method, iV x.node] 108)).cell? ⟨wi.heap.size, 1, none⟩ = some (sT x.method) := by simp only [World.cell?, a3]; rfl
     clear a1 a2 a3; have HOK := zD (show wayOk s r j x = (decide (j + 1 = r.steps.length) || !decide ((mOr (mthOf s x.service x.method)).undo = [])) from rfl); have HMx := zD (fun m hm ok hk => HMT.out (wi.alloc (.cells #[sT x.service, sT x.method, iV x.node] 108)) HF2.out.nb.bel x.service x.method m hm ok hk); generalize wayOk s r j x = R at *; generalize hm : mOr (mthOf s x.service x.method) = m at *; generalize hok : (mthOf s x.service x.method).isSome = ok at *; have HMz := zD (HMx.out m rfl ok rfl); clear HMx hm hok; go_wp2_with fail; refine HMz.out.mono ?_; rintro e w5 ⟨rfl, hb5⟩; generalize hw2 : (wi.alloc (.cells #[sT x.service, sT x.method, iV x.node] 108)) = w2 at *; have hsz2' : w2.heap.size = wi.heap.size + 1 := by rw [← hw2]; simp
     clear hw2; have HB5 := zD hb5; have hsz5 := hb5.size; clear hb5 HMz s0 s1 s2 s3 x0 x1; go_wp2_with fail; generalize hw6 : w5.alloc (.cells #[sT m.name, sT m.arg, .int .u8 (m.result : Nat), sT m.effect, sT m.undo] 92) = w6; have HB6 := zD (show Below w2.heap.size w2 w6 from hw6 ▸ HB5.out.alloc HB5.out.size _); have hg6 : w6.heap[w5.heap.size]? = some (.cells #[sT m.name, sT m.arg, .int .u8 (m.result : Nat), sT m.effect, sT m.undo] 92 (0, 0)) := hw6 ▸ zw _ _; have hsz6 : w6.heap.size = w5.heap.size + 1 := by rw [← hw6]; simp
     have HF6 := zD (HF2.out.after HB6.out); clear hw6 HB5; have hw0s := HF6.out.size; have HC := zD (fun W (X : Aw w0.heap.size w6 W) => show W.cell? ⟨wo.heap.size, 0, none⟩ = some (sT r.name) ∧ W.cell? ⟨wo.heap.size, 2, none⟩ = some (.slice (some ⟨b2, o2, none⟩) r.steps.length fc) ∧ W.cell? ⟨w5.heap.size, 4, none⟩ = some (sT m.undo) from ⟨by simp [World.cell?, (HX2.out W ((Aw.below HB6.out).trans X)).2.1], by simp [World.cell?, (HX2.out W ((Aw.below HB6.out).trans X)).2.1], by simp [World.cell?, (X.block w5.heap.size (by omega) (by omega)).trans hg6]⟩); have HB := zD (Below.refl w6.heap.size w6).drew; have HNT := zD (fun W => nth_any W r.name (by omega) j (by omega)); have HAT := zD (fun W (X : Below w6.heap.size w6 W) (q : Bool) => at_z w0 W _ (HF6.out.after X).nb q (nthT r.name j) 133 133 rfl _ rfl); obtain ⟨e0, e1, e2⟩ := HC.out w6 (Aw.refl _ _); have e_a := bT_is m.undo []; have f_w : IntKind.i64.wrap ((r.steps.length : Int) - 1) = (r.steps.length : Int) - 1 := IntWalk.i64_in _ (by omega); generalize nthT r.name j = NT at *; clear hg6 p0 p1 p2 hb2; by_cases c1 : j + 1 = r.steps.length
     ·have d1 : ((j : Int) == (r.steps.length : Int) - 1) = true := by rw [beq_iff_eq]; omega
      have HR := zD (show R = true from by rw [HOK.out, zt c1]; rfl); clear HOK c1; refine wp_region_noPanic ?_; refine wp_region_held_drew (S := (fun W => W.cell? ⟨wo.heap.size, 0, none⟩ = some (sT r.name) ∧ W.cell? ⟨wo.heap.size, 2, none⟩ = some (.slice (some ⟨b2, o2, none⟩) r.steps.length fc) ∧ W.cell? ⟨w5.heap.size, 4, none⟩ = some (sT m.undo))) (by kernel_rfl) (by (first | exact HC.out _ (Aw.below HB.out) | exact hs3 | assumption)) (fun hHeld => ?_); refine zJ 0 34 rfl ?_; refine zJ 1 35 rfl ?_; refine zJ 2 36 rfl ?_; refine zJ 3 37 rfl ?_; refine zJ 4 38 rfl ?_; refine zJ 5 39 rfl ?_; refine zJ 6 40 rfl ?_; refine zJ 7 41 rfl ?_; refine zU 8 42 rfl ?_; refine zU 9 43 rfl ?_; refine zU 10 44 rfl ?_; refine zJ 11 45 rfl ?_; refine zJ 12 46 rfl ?_; refine zJ 13 47 rfl ?_; refine zJ 14 48 rfl ?_; refine zy [15] ?_; refine zg (some 49) rfl (fun K hK => ?_) ?_
      ·go_simp
       (first | (go_at_call 60; ((with_reducible refine (HNT.out _).mono ?_); rintro e w7 ⟨rfl, rfl⟩)) | (go_at_call 51; ((with_reducible refine (HAT.out _ HB.out true).mono ?_); rintro e w8 ⟨rfl, hf8⟩; have hs3 := HC.out w8 ((Aw.below HB.out).trans hf8.aw))))
       refine hK.out _ _ (by (first | exact HC.out _ (Aw.below HB.out) | exact hs3 | assumption)) (fun hHeld => ?_); clear hK K; try simp only [Act.put, zX, zY, zZ]
       refine zy [16] ?_; refine zg (some 50) rfl (fun K hK => ?_) ?_
       ·go_simp
        (first | (go_at_call 60; ((with_reducible refine (HNT.out _).mono ?_); rintro e w7 ⟨rfl, rfl⟩)) | (go_at_call 51; ((with_reducible refine (HAT.out _ HB.out true).mono ?_); rintro e w8 ⟨rfl, hf8⟩; have hs3 := HC.out w8 ((Aw.below HB.out).trans hf8.aw))))
        refine hK.out _ _ (by (first | exact HC.out _ (Aw.below HB.out) | exact hs3 | assumption)) (fun hHeld => ?_); clear hK K; try simp only [Act.put, zX, zY, zZ]
        refine wpAnyH_done (by kernel_rfl) ?_ _; refine NoPanic.normal ?_; have HF8 := zD ((HF6.out.after HB.out).step hf8); clear hf8 hs3; go_wp2_with fail; exact ⟨⟨j + 1, by omega, by go_num, zD (by rw [HT2.out, HR.out]; exact HF8.out)⟩, by simp [intOf]; omega⟩
       exact zh
      exact zh
     ·have d1 : ((j : Int) == (r.steps.length : Int) - 1) = false := by rw [zb]; omega
      have HR := zD (show R = !(bT m.undo).toList.isEmpty from by rw [HOK.out, zf c1, bT_list]; cases m.undo <;> simp); clear HOK c1 e_a
      go_region_held3 (fun W => W.cell? ⟨wo.heap.size, 0, none⟩ = some (sT r.name) ∧ W.cell? ⟨wo.heap.size, 2, none⟩ = some (.slice (some ⟨b2, o2, none⟩) r.steps.length fc) ∧ W.cell? ⟨w5.heap.size, 4, none⟩ = some (sT m.undo))
       (first | exact HC.out _ (Aw.below HB.out) | exact hs3 | assumption)
       (first
        | (go_at_call 60; ((with_reducible refine (HNT.out _).mono ?_); rintro e w7 ⟨rfl, rfl⟩))
        | (go_at_call 51; ((with_reducible refine (HAT.out _ HB.out (!(bT m.undo).toList.isEmpty)).mono ?_); rintro e w8 ⟨rfl, hf8⟩; have hs3 := HC.out w8 ((Aw.below HB.out).trans hf8.aw))))
      all_goals
       have HF8 := zD ((HF6.out.after HB.out).step hf8); clear hf8 hs3; go_wp2_with fail; exact ⟨⟨j + 1, by omega, by go_num, zD (by rw [HT2.out, HR.out]; exact HF8.out)⟩, by simp [intOf]; omega⟩
    have HFj := zD (HF1.out.step HFi.out); have hjj : j = r.steps.length := by omega
    subst hjj; go_wp2_with fail; exact ⟨⟨k + 1, by omega, by go_num, zD (by rw [HT.out]; exact HFj.out)⟩, by simp [intOf]; omega⟩
  have HFz := zD (show FQ w0 wA wo f2 from by have h := HFr.out; rw [take_all _ _ _ _ hlt, HF2.out] at h; exact h); go_wp2_with fail; go_end0; exact ⟨rfl, HE.out _ _ HFz.out⟩
def tyF (s : Sch) (r : Rec) (f : Flt) (x : Fld) : Flt := atF f (rightA s x.type) (partT r.name x.name) 131
def tyR (s : Sch) (f : Flt) (r : Rec) : Flt := r.fields.foldl (tyF s r) f
def tyM (r : Svc) (f : Flt) (x : Mth) : Flt := atF f (x.result == 3 || x.result == 1) (partT r.name x.name) 131
def tyV (f : Flt) (r : Svc) : Flt := r.methods.foldl (tyM r) f
def typesA (s : Sch) (f : Flt) : Flt := s.services.foldl tyV (s.records.foldl (tyR s) f)
theorem types_any (w0 w : World) (s : Sch) (ur us ug : Value) (hS : SchR w0 s ur us ug) (hM : Small s) (f : Flt) (hF : NewB w0 w 99 (fcells f)) :
  Calls Tryz.prog 29 #[.agg #[sT s.name, ur, us, ug], .pointer (some ⟨w0.heap.size, 0, none⟩)] w fun x w' => x = .returned (.tuple #[]) ∧ FQ w0 w w' (typesA s f) := by
 have HM := zD hM
 obtain ⟨⟨ra, rv, rfl⟩, ⟨sa, sv, rfl⟩, ⟨ga, gv, rfl⟩⟩ := hS.shape
 have HS := zD (fun (wr : World) (h : Below w0.heap.size w0 wr) => hS.below h)
 have hn1 := hM.nr
 have hn2 := hM.ns
 have hn3 := hM.ng
 have HF0 := zD (FQ.start (hF.after ((Below.refl _ w).alloc zn (.cells (sV s ra sa ga rv sv gv) 26))))
 have hwf := hF.lt
 have HX := zD (fun (wr : World) (h : Aw w0.heap.size (w.alloc (.cells (sV s ra sa ga rv sv gv) 26)) wr) => show wr.heap[w.heap.size]? = some (.cells (sV s ra sa ga rv sv gv) 26 (0, 0)) from (h.block _ (by simp) (by omega)).trans (zw _ _))
 have HE := zD (fun (wr : World) (f' : Flt) (h : FQ w0 (w.alloc (.cells (sV s ra sa ga rv sv gv) 26)) wr f') => show FQ w0 w wr f' from ⟨h.nb, (Aw.below ((Below.refl _ w).alloc zn _)).trans h.aw⟩)
 have HA := zD (fun w1 w2 f h r wh e => at_any w0 w1 w2 f h r wh e)
 clear hF
 unfold typesA
 generalize hz0 : s.records.foldl (tyR s) f = f2
 have HZ0 := zD hz0
 clear hz0
 generalize hz1 : s.services.foldl tyV f2 = f3
 have HZ1 := zD hz1
 clear hz1
 go_enter Tryz.func29, Tryz.ntmps29
 go_wp2_with fail
 generalize (w.alloc (.cells (sV s ra sa ga rv sv gv) 26)) = wA at *
 go_loopw [15] (fun vi wr => ∃ k : Nat, k ≤ s.records.length ∧ vi = iV (k : Nat) ∧ Hid (FQ w0 wA wr ((s.records.take k).foldl (tyR s) f))) (fun vi _ => s.records.length - (intOf vi).toNat)
 case atStart => exact ⟨0, by omega, rfl, zD HF0.out⟩
 case round =>
  rename World => wo
  obtain ⟨k, hk, rfl, HFr⟩ := hrel; by_cases hlt : k < s.records.length
  ·obtain ⟨xr, hx1, hx2⟩ := (HS.out w0 zl).rc
   obtain ⟨b, o, fa, fc, ys, rfl, hb, q0, q1, q2, hs, hr⟩ := rec_in HFr.out.nb.bel hx1 hx2 hlt; have HT := zD (take_fold (tyR s) f s.records k hlt); have hbd := HM.out.rc _ (List.getElem_mem hlt); have hsz := HFr.out.size; generalize s.records[k] = r at *; clear hx1 hx2; have hns := hbd.2.1; generalize hF1 : (s.records.take k).foldl (tyR s) f = F1 at *; clear hF1; go_wp2_with fail; generalize hw1 : wo.alloc (.cells #[sT r.name, .bool r.choice, .slice fa r.fields.length fc] 74) = w1; have HF1 := zD (show FQ w0 wA w1 _ from hw1 ▸ HFr.out.alloc _); have hg1 : w1.heap[wo.heap.size]? = some (.cells #[sT r.name, .bool r.choice, .slice fa r.fields.length fc] 74 (0, 0)) := hw1 ▸ zw _ _; have hsz1 : w1.heap.size = wo.heap.size + 1 := by rw [← hw1]; simp
   have HX1 := zD (fun W (X : Aw w0.heap.size w1 W) => show W.heap[w.heap.size]? = some (.cells #[sT s.name, .slice (some ⟨b, o, none⟩) s.records.length rv, .slice sa s.services.length sv, .slice ga s.sagas.length gv] 26 (0, 0)) ∧ W.heap[wo.heap.size]? = some (.cells #[sT r.name, .bool r.choice, .slice fa r.fields.length fc] 74 (0, 0)) from ⟨HX.out W (HF1.out.aw.trans X), (X.block _ (by omega) (by omega)).trans hg1⟩); have hszw : w.heap.size < w1.heap.size := (zq (HX1.out w1 (Aw.refl _ _)).1).1; have cr : w1.cell? ⟨wo.heap.size, 2, none⟩ = some (.slice fa r.fields.length fc) := by simp [World.cell?, hg1]
   clear hw1 hg1; go_loopw [22] (fun vi wi => ∃ j : Nat, j ≤ r.fields.length ∧ vi = iV (j : Nat) ∧ Hid (FQ w0 w1 wi ((r.fields.take j).foldl (tyF s r) F1))) (fun vi _ => r.fields.length - (intOf vi).toNat)
   case atStart => exact ⟨0, by omega, rfl, zD (FQ.start HF1.out.nb)⟩
   case round =>
    rename World => wi
    obtain ⟨j, hj, rfl, HFi⟩ := hrel; by_cases hlt2 : j < r.fields.length
    ·obtain ⟨b2, o2, ga2, gc2, rfl, hb2, p0, p1, hs2⟩ := fld_in HFi.out.nb.bel hs hr hlt2
     have HT2 := zD (take_fold (tyF s r) F1 r.fields j hlt2); have hbd2 := hbd.2.2 _ (List.getElem_mem hlt2); generalize r.fields[j] = x at *; have HF2 := zD (show FQ w0 w1 (wi.alloc (.cells #[sT x.name, .slice ga2 x.type.length gc2] 77)) _ from HFi.out.alloc _); have hszi : w1.heap.size ≤ wi.heap.size := HFi.out.aw.size; have HX2 := zD (fun W (X : Aw w0.heap.size (wi.alloc (.cells #[sT x.name, .slice ga2 x.type.length gc2] 77)) W) => show W.heap[w.heap.size]? = some (.cells #[sT s.name, .slice (some ⟨b, o, none⟩) s.records.length rv, .slice sa s.services.length sv, .slice ga s.sagas.length gv] 26 (0, 0)) ∧ W.heap[wo.heap.size]? = some (.cells #[sT r.name, .bool r.choice, .slice (some ⟨b2, o2, none⟩) r.fields.length fc] 74 (0, 0)) ∧ W.heap[wi.heap.size]? = some (.cells #[sT x.name, .slice ga2 x.type.length gc2] 77 (0, 0)) from ⟨(HX1.out W (HF2.out.aw.trans X)).1, (HX1.out W (HF2.out.aw.trans X)).2, (X.block _ (by simp) (by omega)).trans (zw _ _)⟩); go_wp2_with fail; generalize hw2 : (wi.alloc (.cells #[sT x.name, .slice ga2 x.type.length gc2] 77)) = w2 at *; have hsz2' : w2.heap.size = wi.heap.size + 1 := by rw [← hw2]; simp
     clear hw2; have HC := zD (fun W (X : Aw w0.heap.size w2 W) => show W.cell? ⟨w.heap.size, 0, none⟩ = some (sT s.name) ∧ W.cell? ⟨w.heap.size, 1, none⟩ = some (.slice (some ⟨b, o, none⟩) s.records.length rv) ∧ W.cell? ⟨w.heap.size, 2, none⟩ = some (.slice sa s.services.length sv) ∧ W.cell? ⟨w.heap.size, 3, none⟩ = some (.slice ga s.sagas.length gv) ∧ W.cell? ⟨wo.heap.size, 0, none⟩ = some (sT r.name) ∧ W.cell? ⟨wi.heap.size, 0, none⟩ = some (sT x.name) ∧ W.cell? ⟨wi.heap.size, 1, none⟩ = some (.slice ga2 x.type.length gc2) from ⟨by simp [World.cell?, (HX2.out W X).1], by simp [World.cell?, (HX2.out W X).1], by simp [World.cell?, (HX2.out W X).1], by simp [World.cell?, (HX2.out W X).1], by simp [World.cell?, (HX2.out W X).2.1], by simp [World.cell?, (HX2.out W X).2.2], by simp [World.cell?, (HX2.out W X).2.2]⟩); have HB := zD (Below.refl w2.heap.size w2).drew; have HRT := zD (fun W (X : Below w2.heap.size w2 W) => right_any W s _ _ _ (HS.out W (HF2.out.after X).nb.bel) HM.out _ x.type (hs2.below (HF2.out.after X).nb.bel) hbd2.2.1 hbd2.2.2); have HPT := zD (fun W => part_any W r.name x.name (by omega) (by omega)); have HAT := zD (fun W (X : Below w2.heap.size w2 W) => at_z w0 W _ (HF2.out.after X).nb (rightA s x.type) (partT r.name x.name) 131 131 rfl _ rfl); have HR := zD (show tyF s r ((r.fields.take j).foldl (tyF s r) F1) x = atF ((r.fields.take j).foldl (tyF s r) F1) (rightA s x.type) (partT r.name x.name) 131 from rfl); obtain ⟨e0, e1, e2, e3, e4, e5, e6⟩ := HC.out w2 (Aw.refl _ _); generalize partT r.name x.name = PT at *; generalize rightA s x.type = RT at *; clear p0 p1 hb2 hs2
     go_region_held3 (fun W => W.cell? ⟨w.heap.size, 0, none⟩ = some (sT s.name) ∧ W.cell? ⟨w.heap.size, 1, none⟩ = some (.slice (some ⟨b, o, none⟩) s.records.length rv) ∧ W.cell? ⟨w.heap.size, 2, none⟩ = some (.slice sa s.services.length sv) ∧ W.cell? ⟨w.heap.size, 3, none⟩ = some (.slice ga s.sagas.length gv) ∧ W.cell? ⟨wo.heap.size, 0, none⟩ = some (sT r.name) ∧ W.cell? ⟨wi.heap.size, 0, none⟩ = some (sT x.name) ∧ W.cell? ⟨wi.heap.size, 1, none⟩ = some (.slice ga2 x.type.length gc2))
      (first | exact HC.out _ (Aw.below HB.out) | exact HC.out _ (Aw.below hb1) | exact hs3 | assumption)
      (first
       | (go_at_call 56; ((with_reducible refine (HRT.out _ HB.out).mono ?_); rintro e w7 ⟨rfl, hb⟩; have hb1 := HB.out.trans (hb.mono HB.out.size)))
       | (go_at_call 55; ((with_reducible refine (HPT.out _).mono ?_); rintro e w9 ⟨rfl, rfl⟩))
       | (go_at_call 51; ((with_reducible refine (HAT.out _ hb1 ).mono ?_); rintro e w8 ⟨rfl, hf8⟩; have hs3 := HC.out w8 ((Aw.below hb1).trans hf8.aw))))
     all_goals
      have HF8 := zD ((HF2.out.after hb1).step hf8); clear hf8 hs3; go_wp2_with fail; exact ⟨⟨j + 1, by omega, by go_num, zD (by rw [HT2.out]; rw [HR.out]; exact HF8.out)⟩, by simp [intOf]; omega⟩
    have HFj := zD (HF1.out.step HFi.out); rw [take_all _ _ _ _ hlt2] at HFj; go_wp2_with fail; exact ⟨⟨k + 1, by omega, by go_num, zD (by rw [HT.out]; exact HFj.out)⟩, by simp [intOf]; omega⟩
  have HFz := zD (show FQ w0 wA wo f2 from by have h := HFr.out; rw [take_all _ _ _ _ hlt, HZ0.out] at h; exact h); clear HFr; have hbx := HX.out wo HFz.out.aw; have cbx : wo.cell? ⟨w.heap.size, 2, none⟩ = some (.slice sa s.services.length sv) := by simp [World.cell?, hbx]
  clear hbx; go_wp2_with fail; go_loopw [42] (fun vi wr => ∃ k : Nat, k ≤ s.services.length ∧ vi = iV (k : Nat) ∧ Hid (FQ w0 wA wr ((s.services.take k).foldl tyV f2))) (fun vi _ => s.services.length - (intOf vi).toNat)
  case atStart => exact ⟨0, by omega, rfl, zD HFz.out⟩
  case round =>
   clear HFz cbx; rename World => wo
   obtain ⟨k, hk, rfl, HFr⟩ := hrel; by_cases hlt : k < s.services.length
   ·obtain ⟨xr, hx1, hx2⟩ := (HS.out w0 zl).sv
    obtain ⟨b, o, fa, fc, rfl, hb, q0, q1, hs⟩ := svc_in HFr.out.nb.bel hx1 hx2 hlt; have HT := zD (take_fold tyV f2 s.services k hlt); have hbd := HM.out.sv _ (List.getElem_mem hlt); have hsz := HFr.out.size; generalize s.services[k] = r at *; clear hx1 hx2; have hns := hbd.2.1; generalize hF1 : (s.services.take k).foldl tyV f2 = F1 at *; clear hF1; go_wp2_with fail; generalize hw1 : wo.alloc (.cells #[sT r.name, .slice fa r.methods.length fc] 112) = w1; have HF1 := zD (show FQ w0 wA w1 _ from hw1 ▸ HFr.out.alloc _); have hg1 : w1.heap[wo.heap.size]? = some (.cells #[sT r.name, .slice fa r.methods.length fc] 112 (0, 0)) := hw1 ▸ zw _ _; have hsz1 : w1.heap.size = wo.heap.size + 1 := by rw [← hw1]; simp
    have HX1 := zD (fun W (X : Aw w0.heap.size w1 W) => show W.heap[w.heap.size]? = some (.cells #[sT s.name, .slice ra s.records.length rv, .slice (some ⟨b, o, none⟩) s.services.length sv, .slice ga s.sagas.length gv] 26 (0, 0)) ∧ W.heap[wo.heap.size]? = some (.cells #[sT r.name, .slice fa r.methods.length fc] 112 (0, 0)) from ⟨HX.out W (HF1.out.aw.trans X), (X.block _ (by omega) (by omega)).trans hg1⟩); have hszw : w.heap.size < w1.heap.size := (zq (HX1.out w1 (Aw.refl _ _)).1).1; have cr : w1.cell? ⟨wo.heap.size, 1, none⟩ = some (.slice fa r.methods.length fc) := by simp [World.cell?, hg1]
    clear hw1 hg1; go_loopw [49] (fun vi wi => ∃ j : Nat, j ≤ r.methods.length ∧ vi = iV (j : Nat) ∧ Hid (FQ w0 w1 wi ((r.methods.take j).foldl (tyM r) F1))) (fun vi _ => r.methods.length - (intOf vi).toNat)
    case atStart => exact ⟨0, by omega, rfl, zD (FQ.start HF1.out.nb)⟩
    case round =>
     rename World => wi
     obtain ⟨j, hj, rfl, HFi⟩ := hrel; by_cases hlt2 : j < r.methods.length
     ·obtain ⟨b2, o2, rfl, hb2, p0, p1, p2, p3, p4⟩ := mth_in HFi.out.nb.bel hs hlt2
      have HT2 := zD (take_fold (tyM r) F1 r.methods j hlt2); have hbd2 := hbd.2.2 _ (List.getElem_mem hlt2); generalize r.methods[j] = x at *; have HF2 := zD (show FQ w0 w1 (wi.alloc (.cells #[sT x.name, sT x.arg, .int .u8 (x.result : Nat), sT x.effect, sT x.undo] 92)) _ from HFi.out.alloc _); have hszi : w1.heap.size ≤ wi.heap.size := HFi.out.aw.size; have HX2 := zD (fun W (X : Aw w0.heap.size (wi.alloc (.cells #[sT x.name, sT x.arg, .int .u8 (x.result : Nat), sT x.effect, sT x.undo] 92)) W) => show W.heap[w.heap.size]? = some (.cells #[sT s.name, .slice ra s.records.length rv, .slice (some ⟨b, o, none⟩) s.services.length sv, .slice ga s.sagas.length gv] 26 (0, 0)) ∧ W.heap[wo.heap.size]? = some (.cells #[sT r.name, .slice (some ⟨b2, o2, none⟩) r.methods.length fc] 112 (0, 0)) ∧ W.heap[wi.heap.size]? = some (.cells #[sT x.name, sT x.arg, .int .u8 (x.result : Nat), sT x.effect, sT x.undo] 92 (0, 0)) from ⟨(HX1.out W (HF2.out.aw.trans X)).1, (HX1.out W (HF2.out.aw.trans X)).2, (X.block _ (by simp) (by omega)).trans (zw _ _)⟩); go_wp2_with fail; generalize hw2 : (wi.alloc (.cells #[sT x.name, sT x.arg, .int .u8 (x.result : Nat), sT x.effect, sT x.undo] 92)) = w2 at *; have hsz2' : w2.heap.size = wi.heap.size + 1 := by rw [← hw2]; simp
      clear hw2; have HC := zD (fun W (X : Aw w0.heap.size w2 W) => show W.cell? ⟨wo.heap.size, 0, none⟩ = some (sT r.name) ∧ W.cell? ⟨wi.heap.size, 0, none⟩ = some (sT x.name) ∧ W.cell? ⟨wi.heap.size, 2, none⟩ = some (.int .u8 (x.result : Nat)) from ⟨by simp [World.cell?, (HX2.out W X).2.1], by simp [World.cell?, (HX2.out W X).2.2], by simp [World.cell?, (HX2.out W X).2.2]⟩); have HB := zD (Below.refl w2.heap.size w2).drew; have HPT := zD (fun W => part_any W r.name x.name (by omega) (by omega)); have HAT := zD (fun W (X : Below w2.heap.size w2 W) (q : Bool) => at_z w0 W _ (HF2.out.after X).nb q (partT r.name x.name) 131 131 rfl _ rfl); have HR := zD (show tyM r ((r.methods.take j).foldl (tyM r) F1) x = atF ((r.methods.take j).foldl (tyM r) F1) (x.result == 3 || x.result == 1) (partT r.name x.name) 131 from rfl); obtain ⟨e1, e2, e3⟩ := HC.out w2 (Aw.refl _ _); generalize partT r.name x.name = PT at *; clear p0 p1 p2 p3 p4 hb2; by_cases c1 : x.result = 3
      ·have d1 : ((x.result : Int) == 3) = true := by simp; omega
       have HQ := zD (show (x.result == 3 || x.result == 1) = true from by rw [c1]; rfl); clear c1; refine wp_region_noPanic ?_; refine wp_region_held_drew (S := (fun W => W.cell? ⟨wo.heap.size, 0, none⟩ = some (sT r.name) ∧ W.cell? ⟨wi.heap.size, 0, none⟩ = some (sT x.name) ∧ W.cell? ⟨wi.heap.size, 2, none⟩ = some (.int .u8 (x.result : Nat)))) (by kernel_rfl) (by (first | exact HC.out _ (Aw.below HB.out) | exact HC.out _ (Aw.below hb1) | exact hs3 | assumption)) (fun hHeld => ?_); refine zJ 0 53 rfl ?_; refine zJ 1 54 rfl ?_; refine zJ 2 55 rfl ?_; refine zJ 3 56 rfl ?_; refine zJ 4 57 rfl ?_; refine zU 5 58 rfl ?_; refine zU 6 59 rfl ?_; refine zU 7 60 rfl ?_; refine zJ 8 61 rfl ?_; refine zJ 9 62 rfl ?_; refine zJ 10 63 rfl ?_; refine zJ 11 64 rfl ?_; refine zJ 12 65 rfl ?_; refine zy [13] ?_; refine zg (some 66) rfl (fun K hK => ?_) ?_
       ·go_simp
        (first | (go_at_call 55; ((with_reducible refine (HPT.out _).mono ?_); rintro e w9 ⟨rfl, rfl⟩)) | (go_at_call 51; ((with_reducible refine (HAT.out _ HB.out true).mono ?_); rintro e w8 ⟨rfl, hf8⟩; have hs3 := HC.out w8 ((Aw.below HB.out).trans hf8.aw))))
        refine hK.out _ _ (by (first | exact HC.out _ (Aw.below HB.out) | exact HC.out _ (Aw.below hb1) | exact hs3 | assumption)) (fun hHeld => ?_); clear hK K; try simp only [Act.put, zX, zY, zZ]
        refine zy [14] ?_; refine zg (some 67) rfl (fun K hK => ?_) ?_
        ·go_simp
         (first | (go_at_call 55; ((with_reducible refine (HPT.out _).mono ?_); rintro e w9 ⟨rfl, rfl⟩)) | (go_at_call 51; ((with_reducible refine (HAT.out _ HB.out true).mono ?_); rintro e w8 ⟨rfl, hf8⟩; have hs3 := HC.out w8 ((Aw.below HB.out).trans hf8.aw))))
         refine hK.out _ _ (by (first | exact HC.out _ (Aw.below HB.out) | exact HC.out _ (Aw.below hb1) | exact hs3 | assumption)) (fun hHeld => ?_); clear hK K; try simp only [Act.put, zX, zY, zZ]
         refine wpAnyH_done (by kernel_rfl) ?_ _; refine NoPanic.normal ?_; have HF8 := zD ((HF2.out.after HB.out).step hf8); clear hf8 hs3; go_wp2_with fail; exact ⟨⟨j + 1, by omega, by go_num, zD (by rw [HT2.out]; rw [HR.out, HQ.out]; exact HF8.out)⟩, by simp [intOf]; omega⟩
        exact zh
       exact zh
      ·have d1 : ((x.result : Int) == 3) = false := by simp; omega
       have HQ := zD (show (x.result == 3 || x.result == 1) = ((x.result : Int) == 1) from by rw [show (x.result == 3) = false from by simp [c1], Bool.false_or, Bool.eq_iff_iff, beq_iff_eq, beq_iff_eq]; omega); clear c1
       go_region_held3 (fun W => W.cell? ⟨wo.heap.size, 0, none⟩ = some (sT r.name) ∧ W.cell? ⟨wi.heap.size, 0, none⟩ = some (sT x.name) ∧ W.cell? ⟨wi.heap.size, 2, none⟩ = some (.int .u8 (x.result : Nat)))
        (first | exact HC.out _ (Aw.below HB.out) | exact HC.out _ (Aw.below hb1) | exact hs3 | assumption)
        (first
         | (go_at_call 55; ((with_reducible refine (HPT.out _).mono ?_); rintro e w9 ⟨rfl, rfl⟩))
         | (go_at_call 51; ((with_reducible refine (HAT.out _ HB.out ((x.result : Int) == 1)).mono ?_); rintro e w8 ⟨rfl, hf8⟩; have hs3 := HC.out w8 ((Aw.below HB.out).trans hf8.aw))))
       all_goals
        have HF8 := zD ((HF2.out.after HB.out).step hf8); clear hf8 hs3; go_wp2_with fail; exact ⟨⟨j + 1, by omega, by go_num, zD (by rw [HT2.out]; rw [HR.out, HQ.out]; exact HF8.out)⟩, by simp [intOf]; omega⟩
     have HFj := zD (HF1.out.step HFi.out); rw [take_all _ _ _ _ hlt2] at HFj; go_wp2_with fail; exact ⟨⟨k + 1, by omega, by go_num, zD (by rw [HT.out]; exact HFj.out)⟩, by simp [intOf]; omega⟩
   have HFz := zD (show FQ w0 wA wo f3 from by have h := HFr.out; rw [take_all _ _ _ _ hlt, HZ1.out] at h; exact h); clear HFr; go_wp2_with fail; go_end0; exact ⟨rfl, HE.out _ _ HFz.out⟩
end Go.Proofs.YtgoejmheihgpfaaGreatDoor
