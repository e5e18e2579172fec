/- Lemmas for ModelStays' proof. -/
import Derived.Test.YtgoejmheihgpfaaGreatDoorQj
namespace Go.Proofs.YtgoejmheihgpfaaGreatDoor
set_option maxRecDepth 100000
set_option maxHeartbeats 16000000
open Go.RowKit
theorem range_fold {β : Type} (g : β → Nat → β) (a : β) (k : Nat) : (List.range (k + 1)).foldl g a = g ((List.range k).foldl g a) k := by
 rw [List.range_succ, List.foldl_append]; rfl
def stAt (g : Sga) (i : Nat) : Stp := g.steps.getD i ⟨[], [], 0⟩
theorem stAt_get {g : Sga} {i : Nat} (h : i < g.steps.length) : stAt g i = g.steps[i] := by simp [stAt, h]
def stpOk (s : Sch) (g : Sga) (x : Stp) : Bool := (mthOf s x.service x.method).isSome && decide ((mOr (mthOf s x.service x.method)).arg = g.arg) && decide (0 ≤ x.node) && decide (x.node < 4)
def stpI (s : Sch) (g : Sga) (f : Flt) (i : Nat) : Flt := atF f (stpOk s g (stAt g i)) (nthT g.name i) 241
def stpG (s : Sch) (f : Flt) (g : Sga) : Flt := (List.range g.steps.length).foldl (stpI s g) f
def chStepsA (s : Sch) (f : Flt) : Flt := s.sagas.foldl (stpG s) f
theorem method_lit (w : World) (s : Sch) (ur us ug : Value) (hS : SchR w s ur us ug) (hM : Small s) (a b : Tx) (m : Mth) (hm : mOr (mthOf s a b) = m) (ok : Bool) (hk : (mthOf s a b).isSome = ok) :
  Calls Tryz.prog 45 #[.agg #[sT s.name, ur, us, ug], sT a, sT b] w fun x w' => x = .returned (.tuple #[.agg #[sT m.name, sT m.arg, .int .u8 (m.result : Nat), sT m.effect, sT m.undo], .bool ok]) ∧ Below w.heap.size w w' := by
 subst hm hk
 exact method_any w s ur us ug hS hM a b
theorem chsteps_any (w0 w : World) (s : Sch) (ur us ug : Value) (hS : SchR w0 s ur us ug) (hM : Small s) (f : Flt) (hF : NewB w0 w 99 (fcells f)) :
  Calls Tryz.prog 34 #[.agg #[sT s.name, ur, us, ug], .pointer (some ⟨w0.heap.size, 0, none⟩)] w fun x w' => x = .returned (.tuple #[]) ∧ FQ w0 w w' (chStepsA s f) := by
 have HM := zD hM
 obtain ⟨⟨ra, rv, rfl⟩, ⟨sa, sv, rfl⟩, ⟨ga, gv, rfl⟩⟩ := hS.shape
 have HS := zD (fun (wr : World) (h : Below w0.heap.size w0 wr) => hS.below h)
 have hn1 := hM.nr
 have hn2 := hM.ns
 have hn3 := hM.ng
 have HF0 := zD (FQ.start (hF.after ((Below.refl _ w).alloc zn (.cells (sV s ra sa ga rv sv gv) 26))))
 have hwf := hF.lt
 have HX := zD (fun (wr : World) (h : Aw w0.heap.size (w.alloc (.cells (sV s ra sa ga rv sv gv) 26)) wr) => show wr.heap[w.heap.size]? = some (.cells (sV s ra sa ga rv sv gv) 26 (0, 0)) from (h.block _ (by simp) (by omega)).trans (zw _ _))
 have HE := zD (fun (wr : World) (f' : Flt) (h : FQ w0 (w.alloc (.cells (sV s ra sa ga rv sv gv) 26)) wr f') => show FQ w0 w wr f' from ⟨h.nb, (Aw.below ((Below.refl _ w).alloc zn _)).trans h.aw⟩)
 have HA := zD (fun w1 w2 f h r wh e => at_any w0 w1 w2 f h r wh e)
 have HMT := zD (fun (wr : World) (h : Below w0.heap.size w0 wr) a b m hm ok hk => method_lit wr s _ _ _ (hS.below h) hM a b m hm ok hk)
 clear hS hM hF
 unfold chStepsA
 generalize hf2 : s.sagas.foldl (stpG s) f = f2
 have HF2 := zD hf2
 clear hf2
 go_enter Tryz.func34, Tryz.ntmps34
 go_wp2_with fail
 generalize (w.alloc (.cells (sV s ra sa ga rv sv gv) 26)) = wA at *
 go_loopw [13] (fun vi wr => ∃ k : Nat, k ≤ s.sagas.length ∧ vi = iV (k : Nat) ∧ Hid (FQ w0 wA wr ((s.sagas.take k).foldl (stpG s) f))) (fun vi _ => s.sagas.length - (intOf vi).toNat)
 case atStart => exact ⟨0, by omega, rfl, zD HF0.out⟩
 case round =>
  rename World => wo
  obtain ⟨k, hk, rfl, HFr⟩ := hrel; by_cases hlt : k < s.sagas.length
  ·obtain ⟨xr, hx1, hx2⟩ := (HS.out w0 zl).sg
   obtain ⟨b, o, fa, fc, rfl, hb, q0, q1, q2, hs⟩ := sga_in HFr.out.nb.bel hx1 hx2 hlt; have HT := zD (take_fold (stpG s) f s.sagas k hlt); have hbd := HM.out.sg _ (List.getElem_mem hlt); have hsz := HFr.out.size; generalize s.sagas[k] = r at *; clear hx1 hx2; have hns := hbd.2.2.1; generalize hF1 : (s.sagas.take k).foldl (stpG s) f = F1 at *; clear hF1; go_wp2_with fail; generalize hw1 : wo.alloc (.cells #[sT r.name, sT r.arg, .slice fa r.steps.length fc] 67) = w1; have HF1 := zD (show FQ w0 wA w1 _ from hw1 ▸ HFr.out.alloc _); have hg1 : w1.heap[wo.heap.size]? = some (.cells #[sT r.name, sT r.arg, .slice fa r.steps.length fc] 67 (0, 0)) := hw1 ▸ zw _ _; have hsz1 : w1.heap.size = wo.heap.size + 1 := by rw [← hw1]; simp
   have HX1 := zD (fun W (X : Aw w0.heap.size w1 W) => show W.heap[w.heap.size]? = some (.cells #[sT s.name, .slice ra s.records.length rv, .slice sa s.services.length sv, .slice (some ⟨b, o, none⟩) s.sagas.length gv] 26 (0, 0)) ∧ W.heap[wo.heap.size]? = some (.cells #[sT r.name, sT r.arg, .slice fa r.steps.length fc] 67 (0, 0)) from ⟨HX.out W (HF1.out.aw.trans X), (X.block _ (by omega) (by omega)).trans hg1⟩); have hszw : w.heap.size < w1.heap.size := (zq (HX1.out w1 (Aw.refl _ _)).1).1; have cr : w1.cell? ⟨wo.heap.size, 2, none⟩ = some (.slice fa r.steps.length fc) := by simp [World.cell?, hg1]
   clear hw1 hg1; go_loopw [20] (fun vi wi => ∃ j : Nat, j ≤ r.steps.length ∧ vi = iV (j : Nat) ∧ Hid (FQ w0 w1 wi ((List.range j).foldl (stpI s r) F1))) (fun vi _ => r.steps.length - (intOf vi).toNat)
   case atStart => exact ⟨0, by omega, rfl, zD (FQ.start HF1.out.nb)⟩
   case round =>
    rename World => wi
    obtain ⟨j, hj, rfl, HFi⟩ := hrel; by_cases hlt2 : j < r.steps.length
    ·obtain ⟨b2, o2, rfl, hb2, p0, p1, p2⟩ := stp_in HFi.out.nb.bel hs hlt2
     have HT2 := zD (show (List.range (j + 1)).foldl (stpI s r) F1 = atF ((List.range j).foldl (stpI s r) F1) (stpOk s r r.steps[j]) (nthT r.name j) 241 from by rw [range_fold]; unfold stpI; rw [stAt_get hlt2]); have hbd2 := hbd.2.2.2 _ (List.getElem_mem hlt2); generalize r.steps[j] = x at *; have HF2 := zD (show FQ w0 w1 (wi.alloc (.cells #[sT x.service, sT x.method, iV x.node] 108)) _ from HFi.out.alloc _); have hszi : w1.heap.size ≤ wi.heap.size := HFi.out.aw.size; have HX2 := zD (fun W (X : Aw w0.heap.size (wi.alloc (.cells #[sT x.service, sT x.method, iV x.node] 108)) W) => show W.heap[w.heap.size]? = some (.cells #[sT s.name, .slice ra s.records.length rv, .slice sa s.services.length sv, .slice (some ⟨b, o, none⟩) s.sagas.length gv] 26 (0, 0)) ∧ W.heap[wo.heap.size]? = some (.cells #[sT r.name, sT r.arg, .slice (some ⟨b2, o2, none⟩) r.steps.length fc] 67 (0, 0)) ∧ W.heap[wi.heap.size]? = some (.cells #[sT x.service, sT x.method, iV x.node] 108 (0, 0)) from ⟨(HX1.out W (HF2.out.aw.trans X)).1, (HX1.out W (HF2.out.aw.trans X)).2, (X.block _ (by simp) (by omega)).trans (zw _ _)⟩); obtain ⟨a1, a2, a3⟩ := HX2.out (wi.alloc (.cells #[sT x.service, sT x.method, iV x.node] 108)) (Aw.refl _ _); have s0 : (wi.alloc (.cells #[sT x.service, sT x.method, iV x.node] 108)).cell? ⟨w.heap.size, 0, none⟩ = some (sT s.name) := by simp only [World.cell?, a1]; rfl
     have s1 : (wi.alloc (.cells #[sT x.service, sT x.method, iV x.node] 108)).cell? ⟨w.heap.size, 1, none⟩ = some (.slice ra s.records.length rv) := by simp only [World.cell?, a1]; rfl
     have s2 : (wi.alloc (.cells #[sT x.service, sT x.method, iV x.node] 108)).cell? ⟨w.heap.size, 2, none⟩ = some (.slice sa s.services.length sv) := by simp only [World.cell?, a1]; rfl
     have s3 : (wi.alloc (.cells #[sT x.service, sT x.method, iV x.node] 108)).cell? ⟨w.heap.size, 3, none⟩ = some (.slice (some ⟨b, o, none⟩) s.sagas.length gv) := by simp only [World.cell?, a1]; rfl
     have x0 : (wi.alloc (.cells #[sT x.service, sT x.method, iV x.node] 108)).cell? ⟨wi.heap.size, 0, none⟩ = some (sT x.service) := by simp only [World.cell?, a3]; rfl
     have x1 : (wi.alloc (.cells #[sT x.service, sT x.method, iV x.node] 108)).cell? ⟨wi.heap.size, 1, none⟩ = some (sT x.method) := by simp only [World.cell?, a3]; rfl
     clear a1 a2 a3; have HOK := zD (show stpOk s r x = ((mthOf s x.service x.method).isSome && decide ((mOr (mthOf s x.service x.method)).arg = r.arg) && decide (0 ≤ x.node) && decide (x.node < 4)) from rfl); have HMx := zD (fun m hm ok hk => HMT.out (wi.alloc (.cells #[sT x.service, sT x.method, iV x.node] 108)) HF2.out.nb.bel x.service x.method m hm ok hk); generalize stpOk s r x = R at *; generalize hm : mOr (mthOf s x.service x.method) = m at *; generalize hok : (mthOf s x.service x.method).isSome = ok at *; have HMz := zD (HMx.out m rfl ok rfl); clear HMx hm hok; go_wp2_with fail; refine HMz.out.mono ?_; rintro e w5 ⟨rfl, hb5⟩; generalize hw2 : (wi.alloc (.cells #[sT x.service, sT x.method, iV x.node] 108)) = w2 at *; have hsz2' : w2.heap.size = wi.heap.size + 1 := by rw [← hw2]; simp
     clear hw2; have HB5 := zD hb5; have hsz5 := hb5.size; clear hb5 HMz s0 s1 s2 s3 x0 x1; go_wp2_with fail; generalize hw6 : w5.alloc (.cells #[sT m.name, sT m.arg, .int .u8 (m.result : Nat), sT m.effect, sT m.undo] 92) = w6; have HB6 := zD (show Below w2.heap.size w2 w6 from hw6 ▸ HB5.out.alloc HB5.out.size _); have hg6 : w6.heap[w5.heap.size]? = some (.cells #[sT m.name, sT m.arg, .int .u8 (m.result : Nat), sT m.effect, sT m.undo] 92 (0, 0)) := hw6 ▸ zw _ _; have hsz6 : w6.heap.size = w5.heap.size + 1 := by rw [← hw6]; simp
     have HF6 := zD (HF2.out.after HB6.out); clear hw6 HB5; have hw0s := HF6.out.size; have HC := zD (fun W (X : Aw w0.heap.size w6 W) => show W.cell? ⟨wo.heap.size, 0, none⟩ = some (sT r.name) ∧ W.cell? ⟨wo.heap.size, 1, none⟩ = some (sT r.arg) ∧ W.cell? ⟨wi.heap.size, 2, none⟩ = some (iV x.node) ∧ W.cell? ⟨w5.heap.size, 1, none⟩ = some (sT m.arg) from ⟨by simp [World.cell?, (HX2.out W ((Aw.below HB6.out).trans X)).2.1], by simp [World.cell?, (HX2.out W ((Aw.below HB6.out).trans X)).2.1], by simp [World.cell?, (HX2.out W ((Aw.below HB6.out).trans X)).2.2], by simp [World.cell?, (X.block w5.heap.size (by omega) (by omega)).trans hg6]⟩); have HB := zD (Below.refl w6.heap.size w6).drew; have HNT := zD (fun W => nth_any W r.name (by omega) j (by omega)); have HAT := zD (fun W (X : Below w6.heap.size w6 W) (q : Bool) => at_z w0 W _ (HF6.out.after X).nb q (nthT r.name j) 241 241 rfl _ rfl); obtain ⟨e0, e1, e2, e3⟩ := HC.out w6 (Aw.refl _ _); have e_a := bT_same m.arg r.arg; have c3 : decide ((0 : Int) ≤ x.node) = decide (0 ≤ x.node) := rfl; generalize nthT r.name j = NT at *; clear hg6 p0 p1 p2 hb2; cases ok with
     | false =>
      have HR := zD (show R = false from HOK.out); clear HOK; refine wp_region_noPanic ?_; refine wp_region_held_drew (S := (fun W => W.cell? ⟨wo.heap.size, 0, none⟩ = some (sT r.name) ∧ W.cell? ⟨wo.heap.size, 1, none⟩ = some (sT r.arg) ∧ W.cell? ⟨wi.heap.size, 2, none⟩ = some (iV x.node) ∧ W.cell? ⟨w5.heap.size, 1, none⟩ = some (sT m.arg))) (by kernel_rfl) (by (first | exact HC.out _ (Aw.below HB.out) | exact hs3 | assumption)) (fun hHeld => ?_); refine zJ 0 34 rfl ?_; refine zJ 1 35 rfl ?_; refine zJ 2 36 rfl ?_; refine zU 3 37 rfl ?_; refine zU 4 38 rfl ?_; refine zU 5 39 rfl ?_; refine zU 6 40 rfl ?_; refine zU 7 41 rfl ?_; refine zJ 8 42 rfl ?_; refine zJ 9 43 rfl ?_; refine zU 10 44 rfl ?_; refine zU 11 45 rfl ?_; refine zU 12 46 rfl ?_; refine zJ 13 47 rfl ?_; refine zJ 14 48 rfl ?_; refine zU 15 49 rfl ?_; refine zU 16 50 rfl ?_; refine zU 17 51 rfl ?_; refine zJ 18 52 rfl ?_; refine zJ 19 53 rfl ?_; refine zJ 20 54 rfl ?_; refine zJ 21 55 rfl ?_; refine zy [22] ?_; refine zg (some 56) rfl (fun K hK => ?_) ?_
      ·go_simp
       (first | (go_at_call 60; ((with_reducible refine (HNT.out _).mono ?_); rintro e w7 ⟨rfl, rfl⟩)) | (go_at_call 51; ((with_reducible refine (HAT.out _ HB.out false).mono ?_); rintro e w8 ⟨rfl, hf8⟩; have hs3 := HC.out w8 ((Aw.below HB.out).trans hf8.aw))))
       refine hK.out _ _ (by (first | exact HC.out _ (Aw.below HB.out) | exact hs3 | assumption)) (fun hHeld => ?_); clear hK K; try simp only [Act.put, zX, zY, zZ]
       refine zy [23] ?_; refine zg (some 57) rfl (fun K hK => ?_) ?_
       ·go_simp
        (first | (go_at_call 60; ((with_reducible refine (HNT.out _).mono ?_); rintro e w7 ⟨rfl, rfl⟩)) | (go_at_call 51; ((with_reducible refine (HAT.out _ HB.out false).mono ?_); rintro e w8 ⟨rfl, hf8⟩; have hs3 := HC.out w8 ((Aw.below HB.out).trans hf8.aw))))
        refine hK.out _ _ (by (first | exact HC.out _ (Aw.below HB.out) | exact hs3 | assumption)) (fun hHeld => ?_); clear hK K; try simp only [Act.put, zX, zY, zZ]
        refine wpAnyH_done (by kernel_rfl) ?_ _; refine NoPanic.normal ?_; have HF8 := zD ((HF6.out.after HB.out).step hf8); clear hf8 hs3; go_wp2_with fail; exact ⟨⟨j + 1, by omega, by go_num, zD (by rw [HT2.out, HR.out]; exact HF8.out)⟩, by simp [intOf]; omega⟩
       exact zh
      exact zh
     | true =>
      by_cases c1 : m.arg = r.arg
      ·rw [zt c1] at e_a
       by_cases c2 : 0 ≤ x.node
       ·have d2 := zt c2
        have HR := zD (show R = decide (x.node < 4) from by rw [HOK.out, zt c1, d2]; rfl); clear HOK c1 c2
        go_region_held3 (fun W => W.cell? ⟨wo.heap.size, 0, none⟩ = some (sT r.name) ∧ W.cell? ⟨wo.heap.size, 1, none⟩ = some (sT r.arg) ∧ W.cell? ⟨wi.heap.size, 2, none⟩ = some (iV x.node) ∧ W.cell? ⟨w5.heap.size, 1, none⟩ = some (sT m.arg))
         (first | exact HC.out _ (Aw.below HB.out) | exact hs3 | assumption)
         (first
          | (go_at_call 60; ((with_reducible refine (HNT.out _).mono ?_); rintro e w7 ⟨rfl, rfl⟩))
          | (go_at_call 51; ((with_reducible refine (HAT.out _ HB.out (decide (x.node < 4))).mono ?_); rintro e w8 ⟨rfl, hf8⟩; have hs3 := HC.out w8 ((Aw.below HB.out).trans hf8.aw))))
        all_goals
         have HF8 := zD ((HF6.out.after HB.out).step hf8); clear hf8 hs3; go_wp2_with fail; exact ⟨⟨j + 1, by omega, by go_num, zD (by rw [HT2.out, HR.out]; exact HF8.out)⟩, by simp [intOf]; omega⟩
       ·have d2 := zf c2
        have HR := zD (show R = false from by rw [HOK.out, zt c1, d2]; rfl); clear HOK c1 c2; refine wp_region_noPanic ?_; refine wp_region_held_drew (S := (fun W => W.cell? ⟨wo.heap.size, 0, none⟩ = some (sT r.name) ∧ W.cell? ⟨wo.heap.size, 1, none⟩ = some (sT r.arg) ∧ W.cell? ⟨wi.heap.size, 2, none⟩ = some (iV x.node) ∧ W.cell? ⟨w5.heap.size, 1, none⟩ = some (sT m.arg))) (by kernel_rfl) (by (first | exact HC.out _ (Aw.below HB.out) | exact hs3 | assumption)) (fun hHeld => ?_); refine zJ 0 34 rfl ?_; refine zJ 1 35 rfl ?_; refine zJ 2 36 rfl ?_; refine zJ 3 37 rfl ?_; refine zJ 4 38 rfl ?_; refine zJ 5 39 rfl ?_; refine zJ 6 40 rfl ?_; refine zJ 7 41 rfl ?_; refine zJ 8 42 rfl ?_; refine zJ 9 43 rfl ?_; refine zJ 10 44 rfl ?_; refine zJ 11 45 rfl ?_; refine zJ 12 46 rfl ?_; refine zJ 13 47 rfl ?_; refine zJ 14 48 rfl ?_; refine zU 15 49 rfl ?_; refine zU 16 50 rfl ?_; refine zU 17 51 rfl ?_; refine zJ 18 52 rfl ?_; refine zJ 19 53 rfl ?_; refine zJ 20 54 rfl ?_; refine zJ 21 55 rfl ?_; refine zy [22] ?_; refine zg (some 56) rfl (fun K hK => ?_) ?_
        ·go_simp
         (first | (go_at_call 60; ((with_reducible refine (HNT.out _).mono ?_); rintro e w7 ⟨rfl, rfl⟩)) | (go_at_call 51; ((with_reducible refine (HAT.out _ HB.out false).mono ?_); rintro e w8 ⟨rfl, hf8⟩; have hs3 := HC.out w8 ((Aw.below HB.out).trans hf8.aw))))
         refine hK.out _ _ (by (first | exact HC.out _ (Aw.below HB.out) | exact hs3 | assumption)) (fun hHeld => ?_); clear hK K; try simp only [Act.put, zX, zY, zZ]
         refine zy [23] ?_; refine zg (some 57) rfl (fun K hK => ?_) ?_
         ·go_simp
          (first | (go_at_call 60; ((with_reducible refine (HNT.out _).mono ?_); rintro e w7 ⟨rfl, rfl⟩)) | (go_at_call 51; ((with_reducible refine (HAT.out _ HB.out false).mono ?_); rintro e w8 ⟨rfl, hf8⟩; have hs3 := HC.out w8 ((Aw.below HB.out).trans hf8.aw))))
          refine hK.out _ _ (by (first | exact HC.out _ (Aw.below HB.out) | exact hs3 | assumption)) (fun hHeld => ?_); clear hK K; try simp only [Act.put, zX, zY, zZ]
          refine wpAnyH_done (by kernel_rfl) ?_ _; refine NoPanic.normal ?_; have HF8 := zD ((HF6.out.after HB.out).step hf8); clear hf8 hs3; go_wp2_with fail; exact ⟨⟨j + 1, by omega, by go_num, zD (by rw [HT2.out, HR.out]; exact HF8.out)⟩, by simp [intOf]; omega⟩
         exact zh
        exact zh
      ·rw [zf c1] at e_a
       have HR := zD (show R = false from by rw [HOK.out, zf c1]; rfl); clear HOK c1; refine wp_region_noPanic ?_; refine wp_region_held_drew (S := (fun W => W.cell? ⟨wo.heap.size, 0, none⟩ = some (sT r.name) ∧ W.cell? ⟨wo.heap.size, 1, none⟩ = some (sT r.arg) ∧ W.cell? ⟨wi.heap.size, 2, none⟩ = some (iV x.node) ∧ W.cell? ⟨w5.heap.size, 1, none⟩ = some (sT m.arg))) (by kernel_rfl) (by (first | exact HC.out _ (Aw.below HB.out) | exact hs3 | assumption)) (fun hHeld => ?_); refine zJ 0 34 rfl ?_; refine zJ 1 35 rfl ?_; refine zJ 2 36 rfl ?_; refine zJ 3 37 rfl ?_; refine zJ 4 38 rfl ?_; refine zJ 5 39 rfl ?_; refine zJ 6 40 rfl ?_; refine zJ 7 41 rfl ?_; refine zJ 8 42 rfl ?_; refine zJ 9 43 rfl ?_; refine zU 10 44 rfl ?_; refine zU 11 45 rfl ?_; refine zU 12 46 rfl ?_; refine zJ 13 47 rfl ?_; refine zJ 14 48 rfl ?_; refine zU 15 49 rfl ?_; refine zU 16 50 rfl ?_; refine zU 17 51 rfl ?_; refine zJ 18 52 rfl ?_; refine zJ 19 53 rfl ?_; refine zJ 20 54 rfl ?_; refine zJ 21 55 rfl ?_; refine zy [22] ?_; refine zg (some 56) rfl (fun K hK => ?_) ?_
       ·go_simp
        (first | (go_at_call 60; ((with_reducible refine (HNT.out _).mono ?_); rintro e w7 ⟨rfl, rfl⟩)) | (go_at_call 51; ((with_reducible refine (HAT.out _ HB.out false).mono ?_); rintro e w8 ⟨rfl, hf8⟩; have hs3 := HC.out w8 ((Aw.below HB.out).trans hf8.aw))))
        refine hK.out _ _ (by (first | exact HC.out _ (Aw.below HB.out) | exact hs3 | assumption)) (fun hHeld => ?_); clear hK K; try simp only [Act.put, zX, zY, zZ]
        refine zy [23] ?_; refine zg (some 57) rfl (fun K hK => ?_) ?_
        ·go_simp
         (first | (go_at_call 60; ((with_reducible refine (HNT.out _).mono ?_); rintro e w7 ⟨rfl, rfl⟩)) | (go_at_call 51; ((with_reducible refine (HAT.out _ HB.out false).mono ?_); rintro e w8 ⟨rfl, hf8⟩; have hs3 := HC.out w8 ((Aw.below HB.out).trans hf8.aw))))
         refine hK.out _ _ (by (first | exact HC.out _ (Aw.below HB.out) | exact hs3 | assumption)) (fun hHeld => ?_); clear hK K; try simp only [Act.put, zX, zY, zZ]
         refine wpAnyH_done (by kernel_rfl) ?_ _; refine NoPanic.normal ?_; have HF8 := zD ((HF6.out.after HB.out).step hf8); clear hf8 hs3; go_wp2_with fail; exact ⟨⟨j + 1, by omega, by go_num, zD (by rw [HT2.out, HR.out]; exact HF8.out)⟩, by simp [intOf]; omega⟩
        exact zh
       exact zh
    have HFj := zD (HF1.out.step HFi.out); have hjj : j = r.steps.length := by omega
    subst hjj; go_wp2_with fail; exact ⟨⟨k + 1, by omega, by go_num, zD (by rw [HT.out]; exact HFj.out)⟩, by simp [intOf]; omega⟩
  have HFz := zD (show FQ w0 wA wo f2 from by have h := HFr.out; rw [take_all _ _ _ _ hlt, HF2.out] at h; exact h); go_wp2_with fail; go_end0; exact ⟨rfl, HE.out _ _ HFz.out⟩
end Go.Proofs.YtgoejmheihgpfaaGreatDoor
