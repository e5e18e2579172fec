/- Lemmas for ModelStays' proof. -/
import Derived.Test.YtgoejmheihgpfaaGreatDoorQo
import Derived.Maps.OwnSet
import Derived.Maps.Views
namespace Go.Proofs.YtgoejmheihgpfaaGreatDoor
set_option maxRecDepth 100000
set_option maxHeartbeats 16000000
open Go.RowKit
def efM (s : Sch) (r : Svc) (f : Flt) (x : Mth) : Flt := atF f (!decide (contraT x.effect = []) && orderA s x.arg) (partT r.name x.name) 134
def efV (s : Sch) (f : Flt) (r : Svc) : Flt := r.methods.foldl (efM s r) f
def effectsA (s : Sch) (f : Flt) : Flt := s.services.foldl (efV s) f
theorem effects_any (w0 w : World) (s : Sch) (ur us ug : Value) (hS : SchR w0 s ur us ug) (hM : Small s) (f : Flt) (hF : NewB w0 w 99 (fcells f)) :
  Calls Tryz.prog 31 #[.agg #[sT s.name, ur, us, ug], .pointer (some ⟨w0.heap.size, 0, none⟩)] w fun x w' => x = .returned (.tuple #[]) ∧ FQ w0 w w' (effectsA s f) := by
 have HM := zD hM
 obtain ⟨⟨ra, rv, rfl⟩, ⟨sa, sv, rfl⟩, ⟨ga, gv, rfl⟩⟩ := hS.shape
 have HS := zD (fun (wr : World) (h : Below w0.heap.size w0 wr) => hS.below h)
 have hn1 := hM.nr
 have hn2 := hM.ns
 have hn3 := hM.ng
 have HF0 := zD (FQ.start (hF.after ((Below.refl _ w).alloc zn (.cells (sV s ra sa ga rv sv gv) 26))))
 have hwf := hF.lt
 have HX := zD (fun (wr : World) (h : Aw w0.heap.size (w.alloc (.cells (sV s ra sa ga rv sv gv) 26)) wr) => show wr.heap[w.heap.size]? = some (.cells (sV s ra sa ga rv sv gv) 26 (0, 0)) from (h.block _ (by simp) (by omega)).trans (zw _ _))
 have HE := zD (fun (wr : World) (f' : Flt) (h : FQ w0 (w.alloc (.cells (sV s ra sa ga rv sv gv) 26)) wr f') => show FQ w0 w wr f' from ⟨h.nb, (Aw.below ((Below.refl _ w).alloc zn _)).trans h.aw⟩)
 have HA := zD (fun w1 w2 f h r wh e => at_any w0 w1 w2 f h r wh e)
 clear hF
 unfold effectsA
 generalize hz0 : s.services.foldl (efV s) f = f2
 have HZ0 := zD hz0
 clear hz0
 go_enter Tryz.func31, Tryz.ntmps31
 go_wp2_with fail
 generalize (w.alloc (.cells (sV s ra sa ga rv sv gv) 26)) = wA at *
 go_loopw [11] (fun vi wr => ∃ k : Nat, k ≤ s.services.length ∧ vi = iV (k : Nat) ∧ Hid (FQ w0 wA wr ((s.services.take k).foldl (efV s) f))) (fun vi _ => s.services.length - (intOf vi).toNat)
 case atStart => exact ⟨0, by omega, rfl, zD HF0.out⟩
 case round =>
  rename World => wo
  obtain ⟨k, hk, rfl, HFr⟩ := hrel; by_cases hlt : k < s.services.length
  ·obtain ⟨xr, hx1, hx2⟩ := (HS.out w0 zl).sv
   obtain ⟨b, o, fa, fc, rfl, hb, q0, q1, hs⟩ := svc_in HFr.out.nb.bel hx1 hx2 hlt; have HT := zD (take_fold (efV s) f s.services k hlt); have hbd := HM.out.sv _ (List.getElem_mem hlt); have hsz := HFr.out.size; generalize s.services[k] = r at *; clear hx1 hx2; have hns := hbd.2.1; generalize hF1 : (s.services.take k).foldl (efV s) f = F1 at *; clear hF1; go_wp2_with fail; generalize hw1 : wo.alloc (.cells #[sT r.name, .slice fa r.methods.length fc] 112) = w1; have HF1 := zD (show FQ w0 wA w1 _ from hw1 ▸ HFr.out.alloc _); have hg1 : w1.heap[wo.heap.size]? = some (.cells #[sT r.name, .slice fa r.methods.length fc] 112 (0, 0)) := hw1 ▸ zw _ _; have hsz1 : w1.heap.size = wo.heap.size + 1 := by rw [← hw1]; simp
   have HX1 := zD (fun W (X : Aw w0.heap.size w1 W) => show W.heap[w.heap.size]? = some (.cells #[sT s.name, .slice ra s.records.length rv, .slice (some ⟨b, o, none⟩) s.services.length sv, .slice ga s.sagas.length gv] 26 (0, 0)) ∧ W.heap[wo.heap.size]? = some (.cells #[sT r.name, .slice fa r.methods.length fc] 112 (0, 0)) from ⟨HX.out W (HF1.out.aw.trans X), (X.block _ (by omega) (by omega)).trans hg1⟩); have hszw : w.heap.size < w1.heap.size := (zq (HX1.out w1 (Aw.refl _ _)).1).1; have cr : w1.cell? ⟨wo.heap.size, 1, none⟩ = some (.slice fa r.methods.length fc) := by simp [World.cell?, hg1]
   clear hw1 hg1; go_loopw [18] (fun vi wi => ∃ j : Nat, j ≤ r.methods.length ∧ vi = iV (j : Nat) ∧ Hid (FQ w0 w1 wi ((r.methods.take j).foldl (efM s r) F1))) (fun vi _ => r.methods.length - (intOf vi).toNat)
   case atStart => exact ⟨0, by omega, rfl, zD (FQ.start HF1.out.nb)⟩
   case round =>
    rename World => wi
    obtain ⟨j, hj, rfl, HFi⟩ := hrel; by_cases hlt2 : j < r.methods.length
    ·obtain ⟨b2, o2, rfl, hb2, p0, p1, p2, p3, p4⟩ := mth_in HFi.out.nb.bel hs hlt2
     have HT2 := zD (take_fold (efM s r) F1 r.methods j hlt2); have hbd2 := hbd.2.2 _ (List.getElem_mem hlt2); generalize r.methods[j] = x at *; have HF2 := zD (show FQ w0 w1 (wi.alloc (.cells #[sT x.name, sT x.arg, .int .u8 (x.result : Nat), sT x.effect, sT x.undo] 92)) _ from HFi.out.alloc _); have hszi : w1.heap.size ≤ wi.heap.size := HFi.out.aw.size; have HX2 := zD (fun W (X : Aw w0.heap.size (wi.alloc (.cells #[sT x.name, sT x.arg, .int .u8 (x.result : Nat), sT x.effect, sT x.undo] 92)) W) => show W.heap[w.heap.size]? = some (.cells #[sT s.name, .slice ra s.records.length rv, .slice (some ⟨b, o, none⟩) s.services.length sv, .slice ga s.sagas.length gv] 26 (0, 0)) ∧ W.heap[wo.heap.size]? = some (.cells #[sT r.name, .slice (some ⟨b2, o2, none⟩) r.methods.length fc] 112 (0, 0)) ∧ W.heap[wi.heap.size]? = some (.cells #[sT x.name, sT x.arg, .int .u8 (x.result : Nat), sT x.effect, sT x.undo] 92 (0, 0)) from ⟨(HX1.out W (HF2.out.aw.trans X)).1, (HX1.out W (HF2.out.aw.trans X)).2, (X.block _ (by simp) (by omega)).trans (zw _ _)⟩); go_wp2_with fail; generalize hw2 : (wi.alloc (.cells #[sT x.name, sT x.arg, .int .u8 (x.result : Nat), sT x.effect, sT x.undo] 92)) = w2 at *; have hsz2' : w2.heap.size = wi.heap.size + 1 := by rw [← hw2]; simp
     clear hw2; have HC := zD (fun W (X : Aw w0.heap.size w2 W) => show W.cell? ⟨w.heap.size, 0, none⟩ = some (sT s.name) ∧ W.cell? ⟨w.heap.size, 1, none⟩ = some (.slice ra s.records.length rv) ∧ W.cell? ⟨w.heap.size, 2, none⟩ = some (.slice (some ⟨b, o, none⟩) s.services.length sv) ∧ W.cell? ⟨w.heap.size, 3, none⟩ = some (.slice ga s.sagas.length gv) ∧ W.cell? ⟨wo.heap.size, 0, none⟩ = some (sT r.name) ∧ W.cell? ⟨wi.heap.size, 0, none⟩ = some (sT x.name) ∧ W.cell? ⟨wi.heap.size, 1, none⟩ = some (sT x.arg) ∧ W.cell? ⟨wi.heap.size, 3, none⟩ = some (sT x.effect) from ⟨by simp [World.cell?, (HX2.out W X).1], by simp [World.cell?, (HX2.out W X).1], by simp [World.cell?, (HX2.out W X).1], by simp [World.cell?, (HX2.out W X).1], by simp [World.cell?, (HX2.out W X).2.1], by simp [World.cell?, (HX2.out W X).2.2], by simp [World.cell?, (HX2.out W X).2.2], by simp [World.cell?, (HX2.out W X).2.2]⟩); have HB := zD (Below.refl w2.heap.size w2).drew; have HOR := zD (fun W (X : Below w2.heap.size w2 W) => order_any W s _ _ _ (HS.out W (HF2.out.after X).nb.bel) HM.out x.arg); have HCT := zD (fun W => contrary_any W x.effect); have HPT := zD (fun W => part_any W r.name x.name (by omega) (by omega)); have HAT := zD (fun W (X : Below w2.heap.size w2 W) (q : Bool) => at_z w0 W _ (HF2.out.after X).nb q (partT r.name x.name) 134 134 rfl _ rfl); have HR := zD (show efM s r ((r.methods.take j).foldl (efM s r) F1) x = atF ((r.methods.take j).foldl (efM s r) F1) (!decide (contraT x.effect = []) && orderA s x.arg) (partT r.name x.name) 134 from rfl); obtain ⟨e0, e1, e2, e3, e4, e5, e6, e7⟩ := HC.out w2 (Aw.refl _ _); generalize partT r.name x.name = PT at *; generalize orderA s x.arg = OR at *; generalize contraT x.effect = CT at *; have e_c := bT_is CT []; clear p0 p1 p2 p3 p4 hb2; by_cases c1 : CT = []
     ·rw [zt c1] at e_c
      have f_c : (!((bT CT).toList == [])) = false := by rw [e_c]; rfl
      have HQ := zD (show (!decide (CT = []) && OR) = false from by rw [zt c1]; rfl); clear c1; refine wp_region_noPanic ?_; refine wp_region_held_drew (S := (fun W => W.cell? ⟨w.heap.size, 0, none⟩ = some (sT s.name) ∧ W.cell? ⟨w.heap.size, 1, none⟩ = some (.slice ra s.records.length rv) ∧ W.cell? ⟨w.heap.size, 2, none⟩ = some (.slice (some ⟨b, o, none⟩) s.services.length sv) ∧ W.cell? ⟨w.heap.size, 3, none⟩ = some (.slice ga s.sagas.length gv) ∧ W.cell? ⟨wo.heap.size, 0, none⟩ = some (sT r.name) ∧ W.cell? ⟨wi.heap.size, 0, none⟩ = some (sT x.name) ∧ W.cell? ⟨wi.heap.size, 1, none⟩ = some (sT x.arg) ∧ W.cell? ⟨wi.heap.size, 3, none⟩ = some (sT x.effect))) (by kernel_rfl) (by (first | exact HC.out _ (Aw.below HB.out) | exact HC.out _ (Aw.below hb1) | exact hs3 | assumption)) (fun hHeld => ?_); refine zJ 0 22 rfl ?_; refine zJ 1 23 rfl ?_; refine zJ 2 24 rfl ?_; refine zJ 11 33 rfl ?_; refine zJ 12 34 rfl ?_; refine zJ 13 35 rfl ?_; refine zJ 14 36 rfl ?_; refine zy [3] ?_; refine zg (some 25) rfl (fun K hK => ?_) ?_
      ·go_simp
       (first | (go_at_call 58; ((with_reducible refine (HCT.out _).mono ?_); rintro e w6 ⟨rfl, rfl⟩)) | (go_at_call 55; ((with_reducible refine (HPT.out _).mono ?_); rintro e w9 ⟨rfl, rfl⟩)) | (go_at_call 51; ((with_reducible refine (HAT.out _ HB.out false).mono ?_); rintro e w8 ⟨rfl, hf8⟩; have hs3 := HC.out w8 ((Aw.below HB.out).trans hf8.aw))))
       refine hK.out _ _ (by (first | exact HC.out _ (Aw.below HB.out) | exact HC.out _ (Aw.below hb1) | exact hs3 | assumption)) (fun hHeld => ?_); clear hK K; try simp only [Act.put, zX, zY, zZ]
       refine zJ 4 26 rfl ?_; refine zJ 5 27 rfl ?_; refine zU 6 28 rfl ?_; refine zU 7 29 rfl ?_; refine zU 8 30 rfl ?_; refine zU 9 31 rfl ?_; refine zJ 10 32 rfl ?_; refine zy [15] ?_; refine zg (some 37) rfl (fun K hK => ?_) ?_
       ·go_simp
        (first | (go_at_call 58; ((with_reducible refine (HCT.out _).mono ?_); rintro e w6 ⟨rfl, rfl⟩)) | (go_at_call 55; ((with_reducible refine (HPT.out _).mono ?_); rintro e w9 ⟨rfl, rfl⟩)) | (go_at_call 51; ((with_reducible refine (HAT.out _ HB.out false).mono ?_); rintro e w8 ⟨rfl, hf8⟩; have hs3 := HC.out w8 ((Aw.below HB.out).trans hf8.aw))))
        refine hK.out _ _ (by (first | exact HC.out _ (Aw.below HB.out) | exact HC.out _ (Aw.below hb1) | exact hs3 | assumption)) (fun hHeld => ?_); clear hK K; try simp only [Act.put, zX, zY, zZ]
        refine zy [16] ?_; refine zg (some 38) rfl (fun K hK => ?_) ?_
        ·go_simp
         (first | (go_at_call 58; ((with_reducible refine (HCT.out _).mono ?_); rintro e w6 ⟨rfl, rfl⟩)) | (go_at_call 55; ((with_reducible refine (HPT.out _).mono ?_); rintro e w9 ⟨rfl, rfl⟩)) | (go_at_call 51; ((with_reducible refine (HAT.out _ HB.out false).mono ?_); rintro e w8 ⟨rfl, hf8⟩; have hs3 := HC.out w8 ((Aw.below HB.out).trans hf8.aw))))
         refine hK.out _ _ (by (first | exact HC.out _ (Aw.below HB.out) | exact HC.out _ (Aw.below hb1) | exact hs3 | assumption)) (fun hHeld => ?_); clear hK K; try simp only [Act.put, zX, zY, zZ]
         refine wpAnyH_done (by kernel_rfl) ?_ _; refine NoPanic.normal ?_; have HF8 := zD ((HF2.out.after HB.out).step hf8); clear hf8 hs3; go_wp2_with fail; exact ⟨⟨j + 1, by omega, by go_num, zD (by rw [HT2.out]; rw [HR.out, HQ.out]; exact HF8.out)⟩, by simp [intOf]; omega⟩
        exact zh
       exact zh
      exact zh
     ·rw [zf c1] at e_c
      have f_c : (!((bT CT).toList == [])) = true := by rw [e_c]; rfl
      have HQ := zD (show (!decide (CT = []) && OR) = OR from by rw [zf c1]; rfl); clear c1
      go_region_held3 (fun W => W.cell? ⟨w.heap.size, 0, none⟩ = some (sT s.name) ∧ W.cell? ⟨w.heap.size, 1, none⟩ = some (.slice ra s.records.length rv) ∧ W.cell? ⟨w.heap.size, 2, none⟩ = some (.slice (some ⟨b, o, none⟩) s.services.length sv) ∧ W.cell? ⟨w.heap.size, 3, none⟩ = some (.slice ga s.sagas.length gv) ∧ W.cell? ⟨wo.heap.size, 0, none⟩ = some (sT r.name) ∧ W.cell? ⟨wi.heap.size, 0, none⟩ = some (sT x.name) ∧ W.cell? ⟨wi.heap.size, 1, none⟩ = some (sT x.arg) ∧ W.cell? ⟨wi.heap.size, 3, none⟩ = some (sT x.effect))
       (first | exact HC.out _ (Aw.below HB.out) | exact HC.out _ (Aw.below hb1) | exact hs3 | assumption)
       (first
        | (go_at_call 58; ((with_reducible refine (HCT.out _).mono ?_); rintro e w6 ⟨rfl, rfl⟩))
        | (go_at_call 59; ((with_reducible refine (HOR.out _ HB.out).mono ?_); rintro e w7 ⟨rfl, hb⟩; have hb1 := HB.out.trans (hb.mono HB.out.size)))
        | (go_at_call 55; ((with_reducible refine (HPT.out _).mono ?_); rintro e w9 ⟨rfl, rfl⟩))
        | (go_at_call 51; ((with_reducible refine (HAT.out _ hb1 OR).mono ?_); rintro e w8 ⟨rfl, hf8⟩; have hs3 := HC.out w8 ((Aw.below hb1).trans hf8.aw))))
      all_goals
       have HF8 := zD ((HF2.out.after hb1).step hf8); clear hf8 hs3; go_wp2_with fail; exact ⟨⟨j + 1, by omega, by go_num, zD (by rw [HT2.out]; rw [HR.out, HQ.out]; exact HF8.out)⟩, by simp [intOf]; omega⟩
    have HFj := zD (HF1.out.step HFi.out); rw [take_all _ _ _ _ hlt2] at HFj; go_wp2_with fail; exact ⟨⟨k + 1, by omega, by go_num, zD (by rw [HT.out]; exact HFj.out)⟩, by simp [intOf]; omega⟩
  have HFz := zD (show FQ w0 wA wo f2 from by have h := HFr.out; rw [take_all _ _ _ _ hlt, HZ0.out] at h; exact h); clear HFr; go_wp2_with fail; go_end0; exact ⟨rfl, HE.out _ _ HFz.out⟩
def undoOk (s : Sch) (r : Svc) (x : Mth) : Bool := (mthOf s r.name x.undo).isSome && decide ((mOr (mthOf s r.name x.undo)).arg = x.arg) && decide ((mOr (mthOf s r.name x.undo)).undo = []) && (mOr (mthOf s r.name x.undo)).result == 1 && decide ((mOr (mthOf s r.name x.undo)).effect = contraT x.effect)
def unM (s : Sch) (r : Svc) (f : Flt) (x : Mth) : Flt := atF f (decide (x.undo = []) || undoOk s r x) (partT r.name x.name) 133
def unV (s : Sch) (f : Flt) (r : Svc) : Flt := r.methods.foldl (unM s r) f
def undosA (s : Sch) (f : Flt) : Flt := s.services.foldl (unV s) f
theorem undos_any (w0 w : World) (s : Sch) (ur us ug : Value) (hS : SchR w0 s ur us ug) (hM : Small s) (f : Flt) (hF : NewB w0 w 99 (fcells f)) :
  Calls Tryz.prog 32 #[.agg #[sT s.name, ur, us, ug], .pointer (some ⟨w0.heap.size, 0, none⟩)] w fun x w' => x = .returned (.tuple #[]) ∧ FQ w0 w w' (undosA s f) := by
 have HM := zD hM
 obtain ⟨⟨ra, rv, rfl⟩, ⟨sa, sv, rfl⟩, ⟨ga, gv, rfl⟩⟩ := hS.shape
 have HS := zD (fun (wr : World) (h : Below w0.heap.size w0 wr) => hS.below h)
 have hn1 := hM.nr
 have hn2 := hM.ns
 have hn3 := hM.ng
 have HF0 := zD (FQ.start (hF.after ((Below.refl _ w).alloc zn (.cells (sV s ra sa ga rv sv gv) 26))))
 have hwf := hF.lt
 have HX := zD (fun (wr : World) (h : Aw w0.heap.size (w.alloc (.cells (sV s ra sa ga rv sv gv) 26)) wr) => show wr.heap[w.heap.size]? = some (.cells (sV s ra sa ga rv sv gv) 26 (0, 0)) from (h.block _ (by simp) (by omega)).trans (zw _ _))
 have HE := zD (fun (wr : World) (f' : Flt) (h : FQ w0 (w.alloc (.cells (sV s ra sa ga rv sv gv) 26)) wr f') => show FQ w0 w wr f' from ⟨h.nb, (Aw.below ((Below.refl _ w).alloc zn _)).trans h.aw⟩)
 have HA := zD (fun w1 w2 f h r wh e => at_any w0 w1 w2 f h r wh e)
 clear hF
 unfold undosA
 generalize hz0 : s.services.foldl (unV s) f = f2
 have HZ0 := zD hz0
 clear hz0
 go_enter Tryz.func32, Tryz.ntmps32
 go_wp2_with fail
 generalize (w.alloc (.cells (sV s ra sa ga rv sv gv) 26)) = wA at *
 go_loopw [13] (fun vi wr => ∃ k : Nat, k ≤ s.services.length ∧ vi = iV (k : Nat) ∧ Hid (FQ w0 wA wr ((s.services.take k).foldl (unV s) f))) (fun vi _ => s.services.length - (intOf vi).toNat)
 case atStart => exact ⟨0, by omega, rfl, zD HF0.out⟩
 case round =>
  rename World => wo
  obtain ⟨k, hk, rfl, HFr⟩ := hrel; by_cases hlt : k < s.services.length
  ·obtain ⟨xr, hx1, hx2⟩ := (HS.out w0 zl).sv
   obtain ⟨b, o, fa, fc, rfl, hb, q0, q1, hs⟩ := svc_in HFr.out.nb.bel hx1 hx2 hlt; have HT := zD (take_fold (unV s) f s.services k hlt); have hbd := HM.out.sv _ (List.getElem_mem hlt); have hsz := HFr.out.size; generalize s.services[k] = r at *; clear hx1 hx2; have hns := hbd.2.1; generalize hF1 : (s.services.take k).foldl (unV s) f = F1 at *; clear hF1; go_wp2_with fail; generalize hw1 : wo.alloc (.cells #[sT r.name, .slice fa r.methods.length fc] 112) = w1; have HF1 := zD (show FQ w0 wA w1 _ from hw1 ▸ HFr.out.alloc _); have hg1 : w1.heap[wo.heap.size]? = some (.cells #[sT r.name, .slice fa r.methods.length fc] 112 (0, 0)) := hw1 ▸ zw _ _; have hsz1 : w1.heap.size = wo.heap.size + 1 := by rw [← hw1]; simp
   have HX1 := zD (fun W (X : Aw w0.heap.size w1 W) => show W.heap[w.heap.size]? = some (.cells #[sT s.name, .slice ra s.records.length rv, .slice (some ⟨b, o, none⟩) s.services.length sv, .slice ga s.sagas.length gv] 26 (0, 0)) ∧ W.heap[wo.heap.size]? = some (.cells #[sT r.name, .slice fa r.methods.length fc] 112 (0, 0)) from ⟨HX.out W (HF1.out.aw.trans X), (X.block _ (by omega) (by omega)).trans hg1⟩); have hszw : w.heap.size < w1.heap.size := (zq (HX1.out w1 (Aw.refl _ _)).1).1; have cr : w1.cell? ⟨wo.heap.size, 1, none⟩ = some (.slice fa r.methods.length fc) := by simp [World.cell?, hg1]
   clear hw1 hg1; go_loopw [20] (fun vi wi => ∃ j : Nat, j ≤ r.methods.length ∧ vi = iV (j : Nat) ∧ Hid (FQ w0 w1 wi ((r.methods.take j).foldl (unM s r) F1))) (fun vi _ => r.methods.length - (intOf vi).toNat)
   case atStart => exact ⟨0, by omega, rfl, zD (FQ.start HF1.out.nb)⟩
   case round =>
    rename World => wi
    obtain ⟨j, hj, rfl, HFi⟩ := hrel; by_cases hlt2 : j < r.methods.length
    ·obtain ⟨b2, o2, rfl, hb2, p0, p1, p2, p3, p4⟩ := mth_in HFi.out.nb.bel hs hlt2
     have HT2 := zD (take_fold (unM s r) F1 r.methods j hlt2); have hbd2 := hbd.2.2 _ (List.getElem_mem hlt2); generalize r.methods[j] = x at *; have HF2 := zD (show FQ w0 w1 (wi.alloc (.cells #[sT x.name, sT x.arg, .int .u8 (x.result : Nat), sT x.effect, sT x.undo] 92)) _ from HFi.out.alloc _); have hszi : w1.heap.size ≤ wi.heap.size := HFi.out.aw.size; have HX2 := zD (fun W (X : Aw w0.heap.size (wi.alloc (.cells #[sT x.name, sT x.arg, .int .u8 (x.result : Nat), sT x.effect, sT x.undo] 92)) W) => show W.heap[w.heap.size]? = some (.cells #[sT s.name, .slice ra s.records.length rv, .slice (some ⟨b, o, none⟩) s.services.length sv, .slice ga s.sagas.length gv] 26 (0, 0)) ∧ W.heap[wo.heap.size]? = some (.cells #[sT r.name, .slice (some ⟨b2, o2, none⟩) r.methods.length fc] 112 (0, 0)) ∧ W.heap[wi.heap.size]? = some (.cells #[sT x.name, sT x.arg, .int .u8 (x.result : Nat), sT x.effect, sT x.undo] 92 (0, 0)) from ⟨(HX1.out W (HF2.out.aw.trans X)).1, (HX1.out W (HF2.out.aw.trans X)).2, (X.block _ (by simp) (by omega)).trans (zw _ _)⟩); obtain ⟨a1, a2, a3⟩ := HX2.out (wi.alloc (.cells #[sT x.name, sT x.arg, .int .u8 (x.result : Nat), sT x.effect, sT x.undo] 92)) (Aw.refl _ _); have s0 : (wi.alloc (.cells #[sT x.name, sT x.arg, .int .u8 (x.result : Nat), sT x.effect, sT x.undo] 92)).cell? ⟨w.heap.size, 0, none⟩ = some (sT s.name) := by simp only [World.cell?, a1]; rfl
     have s1 : (wi.alloc (.cells #[sT x.name, sT x.arg, .int .u8 (x.result : Nat), sT x.effect, sT x.undo] 92)).cell? ⟨w.heap.size, 1, none⟩ = some (.slice ra s.records.length rv) := by simp only [World.cell?, a1]; rfl
     have s2 : (wi.alloc (.cells #[sT x.name, sT x.arg, .int .u8 (x.result : Nat), sT x.effect, sT x.undo] 92)).cell? ⟨w.heap.size, 2, none⟩ = some (.slice (some ⟨b, o, none⟩) s.services.length sv) := by simp only [World.cell?, a1]; rfl
     have s3 : (wi.alloc (.cells #[sT x.name, sT x.arg, .int .u8 (x.result : Nat), sT x.effect, sT x.undo] 92)).cell? ⟨w.heap.size, 3, none⟩ = some (.slice ga s.sagas.length gv) := by simp only [World.cell?, a1]; rfl
     have x4 : (wi.alloc (.cells #[sT x.name, sT x.arg, .int .u8 (x.result : Nat), sT x.effect, sT x.undo] 92)).cell? ⟨wi.heap.size, 4, none⟩ = some (sT x.undo) := by simp only [World.cell?, a3]; rfl
     clear a1 a2 a3; obtain ⟨z1, z2, z3⟩ := HX2.out (wi.alloc (.cells #[sT x.name, sT x.arg, .int .u8 (x.result : Nat), sT x.effect, sT x.undo] 92)) (Aw.refl _ _); have n0 : (wi.alloc (.cells #[sT x.name, sT x.arg, .int .u8 (x.result : Nat), sT x.effect, sT x.undo] 92)).cell? ⟨wo.heap.size, 0, none⟩ = some (sT r.name) := by simp only [World.cell?, z2]; rfl
     clear z1 z2 z3; have HOK := zD (show undoOk s r x = ((mthOf s r.name x.undo).isSome && decide ((mOr (mthOf s r.name x.undo)).arg = x.arg) && decide ((mOr (mthOf s r.name x.undo)).undo = []) && (mOr (mthOf s r.name x.undo)).result == 1 && decide ((mOr (mthOf s r.name x.undo)).effect = contraT x.effect)) from rfl); have HMx := zD (fun m hm ok hk => method_lit (wi.alloc (.cells #[sT x.name, sT x.arg, .int .u8 (x.result : Nat), sT x.effect, sT x.undo] 92)) s _ _ _ (HS.out _ HF2.out.nb.bel) HM.out r.name x.undo m hm ok hk); have HR := zD (show unM s r ((r.methods.take j).foldl (unM s r) F1) x = atF ((r.methods.take j).foldl (unM s r) F1) (decide (x.undo = []) || undoOk s r x) (partT r.name x.name) 133 from rfl); generalize undoOk s r x = UK at *; generalize hm : mOr (mthOf s r.name x.undo) = m at *; generalize hok : (mthOf s r.name x.undo).isSome = ok at *; have HMz := zD (HMx.out m rfl ok rfl); clear HMx hm hok; go_wp2_with fail; refine HMz.out.mono ?_; rintro e w5 ⟨rfl, hb5⟩; generalize hw2 : (wi.alloc (.cells #[sT x.name, sT x.arg, .int .u8 (x.result : Nat), sT x.effect, sT x.undo] 92)) = w2 at *; have hsz2' : w2.heap.size = wi.heap.size + 1 := by rw [← hw2]; simp
     clear hw2; have HB5 := zD hb5; have hsz5 := hb5.size; clear hb5 HMz s0 s1 s2 s3 x4 n0; go_wp2_with fail; generalize hw6 : w5.alloc (.cells #[sT m.name, sT m.arg, .int .u8 (m.result : Nat), sT m.effect, sT m.undo] 92) = w6; have HB6 := zD (show Below w2.heap.size w2 w6 from hw6 ▸ HB5.out.alloc HB5.out.size _); have hg6 : w6.heap[w5.heap.size]? = some (.cells #[sT m.name, sT m.arg, .int .u8 (m.result : Nat), sT m.effect, sT m.undo] 92 (0, 0)) := hw6 ▸ zw _ _; have hsz6 : w6.heap.size = w5.heap.size + 1 := by rw [← hw6]; simp
     have HF6 := zD (HF2.out.after HB6.out); clear hw6 HB5; have hw0s := HF6.out.size; have HC := zD (fun W (X : Aw w0.heap.size w6 W) => show W.cell? ⟨wo.heap.size, 0, none⟩ = some (sT r.name) ∧ W.cell? ⟨wi.heap.size, 0, none⟩ = some (sT x.name) ∧ W.cell? ⟨wi.heap.size, 1, none⟩ = some (sT x.arg) ∧ W.cell? ⟨wi.heap.size, 3, none⟩ = some (sT x.effect) ∧ W.cell? ⟨wi.heap.size, 4, none⟩ = some (sT x.undo) ∧ W.cell? ⟨w5.heap.size, 1, none⟩ = some (sT m.arg) ∧ W.cell? ⟨w5.heap.size, 2, none⟩ = some (.int .u8 (m.result : Nat)) ∧ W.cell? ⟨w5.heap.size, 3, none⟩ = some (sT m.effect) ∧ W.cell? ⟨w5.heap.size, 4, none⟩ = some (sT m.undo) from ⟨by simp [World.cell?, (HX2.out W ((Aw.below HB6.out).trans X)).2.1], by simp [World.cell?, (HX2.out W ((Aw.below HB6.out).trans X)).2.2], by simp [World.cell?, (HX2.out W ((Aw.below HB6.out).trans X)).2.2], by simp [World.cell?, (HX2.out W ((Aw.below HB6.out).trans X)).2.2], by simp [World.cell?, (HX2.out W ((Aw.below HB6.out).trans X)).2.2], by simp [World.cell?, (X.block w5.heap.size (by omega) (by omega)).trans hg6], by simp [World.cell?, (X.block w5.heap.size (by omega) (by omega)).trans hg6], by simp [World.cell?, (X.block w5.heap.size (by omega) (by omega)).trans hg6], by simp [World.cell?, (X.block w5.heap.size (by omega) (by omega)).trans hg6]⟩); have HPT := zD (fun W => part_any W r.name x.name (by omega) (by omega)); have HAT := zD (fun W (X : Below w6.heap.size w6 W) (q : Bool) => at_z w0 W _ (HF6.out.after X).nb q (partT r.name x.name) 133 133 rfl _ rfl); have HCT := zD (fun W => contrary_any W x.effect); obtain ⟨e1, e2, e3, e4, e5, e6, e7, e8, e9⟩ := HC.out w6 (Aw.refl _ _); have e_u := bT_is x.undo []; have e_m := bT_is m.undo []; have e_a := bT_same m.arg x.arg; have e_e := bT_same m.effect (contraT x.effect); have e_r : ((m.result : Int) == 1) = (m.result == 1) := by rw [Bool.eq_iff_iff, beq_iff_eq, beq_iff_eq]; omega
     generalize partT r.name x.name = PT at *; generalize contraT x.effect = CT at *; clear hg6 p0 p1 p2 p3 p4 hb2; cases ok with
     | false =>
      have HU := zD (show UK = false from HOK.out); clear HOK e_m e_a e_e e_r; go_quiet (fail); have hbd : Below w6.heap.size w6 (w6.drewN nq) := ⟨rfl, rfl, rfl, zn, fun _ _ => rfl⟩; generalize w6.drewN nq = w7 at *; have HBd := zD hbd; clear hbd; obtain ⟨d1, d2, d3, d4, d5, d6, d7, d8, d9⟩ := HC.out w7 (Aw.below HBd.out); cases hu : decide (x.undo = []) with
      | true =>
       rw [hu] at e_u; have HQ := zD (show (decide (x.undo = []) || UK) = true from by rw [hu]; rfl); clear hu HU; go_wp2_with fail; refine (HPT.out _).mono ?_; rintro e w9 ⟨rfl, rfl⟩; go_wp2_with fail; refine (HAT.out _ HBd.out true).mono ?_; rintro e w8 ⟨rfl, hf8⟩; have HF8 := zD ((HF6.out.after HBd.out).step hf8); clear hf8; go_wp2_with fail; exact ⟨⟨j + 1, by omega, by go_num, zD (by rw [HT2.out, HR.out, HQ.out]; exact HF8.out)⟩, by simp [intOf]; omega⟩
      | false =>
       rw [hu] at e_u; have HQ := zD (show (decide (x.undo = []) || UK) = false from by rw [hu, HU.out]; rfl); clear hu HU; go_wp2_with fail; refine (HPT.out _).mono ?_; rintro e w9 ⟨rfl, rfl⟩; go_wp2_with fail; refine (HAT.out _ HBd.out false).mono ?_; rintro e w8 ⟨rfl, hf8⟩; have HF8 := zD ((HF6.out.after HBd.out).step hf8); clear hf8; go_wp2_with fail; exact ⟨⟨j + 1, by omega, by go_num, zD (by rw [HT2.out, HR.out, HQ.out]; exact HF8.out)⟩, by simp [intOf]; omega⟩
     | true =>
      cases ha : decide (m.arg = x.arg) with
      | false =>
       rw [ha] at e_a; have HU := zD (show UK = false from by rw [HOK.out, ha]; rfl); clear HOK e_m e_e e_r ha; go_quiet (fail); have hbd : Below w6.heap.size w6 (w6.drewN nq) := ⟨rfl, rfl, rfl, zn, fun _ _ => rfl⟩; generalize w6.drewN nq = w7 at *; have HBd := zD hbd; clear hbd; obtain ⟨d1, d2, d3, d4, d5, d6, d7, d8, d9⟩ := HC.out w7 (Aw.below HBd.out); cases hu : decide (x.undo = []) with
       | true =>
        rw [hu] at e_u; have HQ := zD (show (decide (x.undo = []) || UK) = true from by rw [hu]; rfl); clear hu HU; go_wp2_with fail; refine (HPT.out _).mono ?_; rintro e w9 ⟨rfl, rfl⟩; go_wp2_with fail; refine (HAT.out _ HBd.out true).mono ?_; rintro e w8 ⟨rfl, hf8⟩; have HF8 := zD ((HF6.out.after HBd.out).step hf8); clear hf8; go_wp2_with fail; exact ⟨⟨j + 1, by omega, by go_num, zD (by rw [HT2.out, HR.out, HQ.out]; exact HF8.out)⟩, by simp [intOf]; omega⟩
       | false =>
        rw [hu] at e_u; have HQ := zD (show (decide (x.undo = []) || UK) = false from by rw [hu, HU.out]; rfl); clear hu HU; go_wp2_with fail; refine (HPT.out _).mono ?_; rintro e w9 ⟨rfl, rfl⟩; go_wp2_with fail; refine (HAT.out _ HBd.out false).mono ?_; rintro e w8 ⟨rfl, hf8⟩; have HF8 := zD ((HF6.out.after HBd.out).step hf8); clear hf8; go_wp2_with fail; exact ⟨⟨j + 1, by omega, by go_num, zD (by rw [HT2.out, HR.out, HQ.out]; exact HF8.out)⟩, by simp [intOf]; omega⟩
      | true =>
       rw [ha] at e_a; cases hm : decide (m.undo = []) with
       | false =>
        rw [hm] at e_m; have HU := zD (show UK = false from by rw [HOK.out, ha, hm]; rfl); clear HOK e_e e_r ha hm; go_quiet (fail); have hbd : Below w6.heap.size w6 (w6.drewN nq) := ⟨rfl, rfl, rfl, zn, fun _ _ => rfl⟩; generalize w6.drewN nq = w7 at *; have HBd := zD hbd; clear hbd; obtain ⟨d1, d2, d3, d4, d5, d6, d7, d8, d9⟩ := HC.out w7 (Aw.below HBd.out); cases hu : decide (x.undo = []) with
        | true =>
         rw [hu] at e_u; have HQ := zD (show (decide (x.undo = []) || UK) = true from by rw [hu]; rfl); clear hu HU; go_wp2_with fail; refine (HPT.out _).mono ?_; rintro e w9 ⟨rfl, rfl⟩; go_wp2_with fail; refine (HAT.out _ HBd.out true).mono ?_; rintro e w8 ⟨rfl, hf8⟩; have HF8 := zD ((HF6.out.after HBd.out).step hf8); clear hf8; go_wp2_with fail; exact ⟨⟨j + 1, by omega, by go_num, zD (by rw [HT2.out, HR.out, HQ.out]; exact HF8.out)⟩, by simp [intOf]; omega⟩
        | false =>
         rw [hu] at e_u; have HQ := zD (show (decide (x.undo = []) || UK) = false from by rw [hu, HU.out]; rfl); clear hu HU; go_wp2_with fail; refine (HPT.out _).mono ?_; rintro e w9 ⟨rfl, rfl⟩; go_wp2_with fail; refine (HAT.out _ HBd.out false).mono ?_; rintro e w8 ⟨rfl, hf8⟩; have HF8 := zD ((HF6.out.after HBd.out).step hf8); clear hf8; go_wp2_with fail; exact ⟨⟨j + 1, by omega, by go_num, zD (by rw [HT2.out, HR.out, HQ.out]; exact HF8.out)⟩, by simp [intOf]; omega⟩
       | true =>
        rw [hm] at e_m; cases hr1 : (m.result == 1) with
        | false =>
         rw [hr1] at e_r; have HU := zD (show UK = false from by rw [HOK.out, ha, hm, hr1]; rfl); clear HOK e_e ha hm hr1; go_quiet (fail); have hbd : Below w6.heap.size w6 (w6.drewN nq) := ⟨rfl, rfl, rfl, zn, fun _ _ => rfl⟩; generalize w6.drewN nq = w7 at *; have HBd := zD hbd; clear hbd; obtain ⟨d1, d2, d3, d4, d5, d6, d7, d8, d9⟩ := HC.out w7 (Aw.below HBd.out); cases hu : decide (x.undo = []) with
         | true =>
          rw [hu] at e_u; have HQ := zD (show (decide (x.undo = []) || UK) = true from by rw [hu]; rfl); clear hu HU; go_wp2_with fail; refine (HPT.out _).mono ?_; rintro e w9 ⟨rfl, rfl⟩; go_wp2_with fail; refine (HAT.out _ HBd.out true).mono ?_; rintro e w8 ⟨rfl, hf8⟩; have HF8 := zD ((HF6.out.after HBd.out).step hf8); clear hf8; go_wp2_with fail; exact ⟨⟨j + 1, by omega, by go_num, zD (by rw [HT2.out, HR.out, HQ.out]; exact HF8.out)⟩, by simp [intOf]; omega⟩
         | false =>
          rw [hu] at e_u; have HQ := zD (show (decide (x.undo = []) || UK) = false from by rw [hu, HU.out]; rfl); clear hu HU; go_wp2_with fail; refine (HPT.out _).mono ?_; rintro e w9 ⟨rfl, rfl⟩; go_wp2_with fail; refine (HAT.out _ HBd.out false).mono ?_; rintro e w8 ⟨rfl, hf8⟩; have HF8 := zD ((HF6.out.after HBd.out).step hf8); clear hf8; go_wp2_with fail; exact ⟨⟨j + 1, by omega, by go_num, zD (by rw [HT2.out, HR.out, HQ.out]; exact HF8.out)⟩, by simp [intOf]; omega⟩
        | true =>
         rw [hr1] at e_r; have HU := zD (show UK = decide (m.effect = CT) from by rw [HOK.out, ha, hm, hr1]; rfl); clear HOK ha hm hr1; generalize decide (m.effect = CT) = EE at *; go_quiet ((go_at_call 58; exact Calls.quiet_of_same ((HCT.out _).mono fun _ _ ⟨he, hw⟩ => ⟨he, hw.symm⟩))); have hbd : Below w6.heap.size w6 (w6.drewN nq) := ⟨rfl, rfl, rfl, zn, fun _ _ => rfl⟩; generalize w6.drewN nq = w7 at *; have HBd := zD hbd; clear hbd; obtain ⟨d1, d2, d3, d4, d5, d6, d7, d8, d9⟩ := HC.out w7 (Aw.below HBd.out); cases hu : decide (x.undo = []) with
         | true =>
          rw [hu] at e_u; have HQ := zD (show (decide (x.undo = []) || UK) = true from by rw [hu]; rfl); clear hu HU; go_wp2_with fail; refine (HPT.out _).mono ?_; rintro e w9 ⟨rfl, rfl⟩; go_wp2_with fail; refine (HAT.out _ HBd.out true).mono ?_; rintro e w8 ⟨rfl, hf8⟩; have HF8 := zD ((HF6.out.after HBd.out).step hf8); clear hf8; go_wp2_with fail; exact ⟨⟨j + 1, by omega, by go_num, zD (by rw [HT2.out, HR.out, HQ.out]; exact HF8.out)⟩, by simp [intOf]; omega⟩
         | false =>
          rw [hu] at e_u; have HQ := zD (show (decide (x.undo = []) || UK) = EE from by rw [hu, HU.out]; rfl); clear hu HU; go_wp2_with fail; refine (HPT.out _).mono ?_; rintro e w9 ⟨rfl, rfl⟩; go_wp2_with fail; refine (HAT.out _ HBd.out EE).mono ?_; rintro e w8 ⟨rfl, hf8⟩; have HF8 := zD ((HF6.out.after HBd.out).step hf8); clear hf8; go_wp2_with fail; exact ⟨⟨j + 1, by omega, by go_num, zD (by rw [HT2.out, HR.out, HQ.out]; exact HF8.out)⟩, by simp [intOf]; omega⟩
    have HFj := zD (HF1.out.step HFi.out); rw [take_all _ _ _ _ hlt2] at HFj; go_wp2_with fail; exact ⟨⟨k + 1, by omega, by go_num, zD (by rw [HT.out]; exact HFj.out)⟩, by simp [intOf]; omega⟩
  have HFz := zD (show FQ w0 wA wo f2 from by have h := HFr.out; rw [take_all _ _ _ _ hlt, HZ0.out] at h; exact h); clear HFr; go_wp2_with fail; go_end0; exact ⟨rfl, HE.out _ _ HFz.out⟩
section
open Go.RowKit Go.Maps Go.WideMaps Go.WideElems
abbrev Mp := List (Tx × Int)
def mval (n : Int) : Value := iV n
def ment (x : Tx × Int) : Lit × DataW Value := (.string x.1, .held (mval x.2))
def mdat (F : Mp) : DataW Value := .map (F.map ment)
def numElem (v : Value) : Option (DataW Value × List MemPlace) := some (.held v, [])
def mget (F : Mp) (k : Tx) : Int := ((F.find? (fun x => x.1 == k)).map (·.2)).getD 0
def mdel (F : Mp) (k : Tx) : Mp := F.filter (fun x => !(x.1 == k))
def mins (x : Tx × Int) : Mp → Mp
 | [] => [x]
 | y :: r => if bytesBefore x.1 y.1 then x :: y :: r else y :: mins x r
def mput (F : Mp) (k : Tx) (n : Int) : Mp := mins (k, n) (mdel F k)
theorem minsert_ment (x : Tx × Int) : ∀ F : Mp, DataW.insert (ment x) (F.map ment) = (mins x F).map ment
 | [] => rfl
 | y :: r => by
  simp only [List.map_cons, DataW.insert, mins]
  have e : (ment x).1.before (ment y).1 = bytesBefore x.1 y.1 := rfl
  rw [e]
  split
  ·rfl
  ·rw [List.map_cons, minsert_ment x r]
theorem mdat_put (F : Mp) (k : Tx) (n : Int) : (mdat F).put (.string k) (.held (mval n)) = mdat (mput F k n) := by
 simp only [mdat, DataW.put, mput, DataW.map.injEq]
 rw [← minsert_ment]
 congr 1
 rw [List.filter_map]
 rfl
theorem mdat_at (F : Mp) (k : Tx) : (mdat F).atKey (.string k) (.held (mval 0)) = .held (mval (mget F k)) := by
 simp only [mdat, DataW.atKey, mget]
 rw [List.find?_map]
 have e : ((fun p : Lit × DataW Value => p.1.sameKey (.string k)) ∘ ment) = (fun x : Tx × Int => x.1 == k) := rfl
 rw [e]
 cases F.find? (fun x => x.1 == k) <;> rfl
theorem mdat_size (F : Mp) : Maps.size (mdat F) = F.length := by simp [mdat, Maps.size_eq]
theorem mins_length (x : Tx × Int) : ∀ F : Mp, (mins x F).length = F.length + 1
 | [] => rfl
 | y :: r => by
  simp only [mins]
  split
  ·rfl
  ·simp [mins_length x r]
theorem mput_length (F : Mp) (k : Tx) (n : Int) : (mput F k n).length ≤ F.length + 1 := by
 unfold mput
 rw [mins_length]
 exact Nat.succ_le_succ (List.length_filter_le _ _)
theorem mem_mins {a : Tx × Int} : ∀ {F : Mp} {x : Tx × Int}, x ∈ mins a F ↔ x = a ∨ x ∈ F
 | [], x => by simp [mins]
 | y :: r, x => by
  simp only [mins]
  split
  ·simp
  ·rw [List.mem_cons, mem_mins, List.mem_cons]
   constructor
   ·rintro (h | h | h)
    ·exact .inr (.inl h)
    ·exact .inl h
    ·exact .inr (.inr h)
   ·rintro (h | h | h)
    ·exact .inr (.inl h)
    ·exact .inl h
    ·exact .inr (.inr h)
theorem mem_mdel {F : Mp} {k : Tx} {x : Tx × Int} : x ∈ mdel F k ↔ x ∈ F ∧ x.1 ≠ k := by
 unfold mdel
 rw [List.mem_filter]
 simp
theorem mfind_mins_same (k : Tx) (n : Int) : ∀ F : Mp, (∀ y ∈ F, y.1 ≠ k) → (mins (k, n) F).find? (fun x => x.1 == k) = some (k, n)
 | [], _ => by simp [mins]
 | y :: r, h => by
  simp only [mins]
  split
  ·simp
  ·have : (y.1 == k) = false := by rw [zb]; exact h y List.mem_cons_self
   rw [List.find?_cons, this]
   exact mfind_mins_same k n r (fun z hz => h z (List.mem_cons_of_mem _ hz))
theorem mfind_mins_ne (k : Tx) (n : Int) {j : Tx} (hne : j ≠ k) : ∀ F : Mp, (mins (k, n) F).find? (fun x => x.1 == j) = F.find? (fun x => x.1 == j)
 | [] => by simp [mins, show (k == j) = false from by rw [zb]; exact fun e => hne e.symm]
 | y :: r => by
  simp only [mins]
  split
  ·rw [List.find?_cons]
   simp [show (k == j) = false from by rw [zb]; exact fun e => hne e.symm]
  ·rw [List.find?_cons, List.find?_cons, mfind_mins_ne k n hne r]
theorem mfind_mdel_ne {F : Mp} (k : Tx) {j : Tx} (hne : j ≠ k) : (mdel F k).find? (fun x => x.1 == j) = F.find? (fun x => x.1 == j) := by
 induction F with
 | nil => rfl
 | cons x r ih =>
  by_cases hx : x.1 = k
  ·have e2 : mdel (x :: r) k = mdel r k := by simp [mdel, hx]
   have : (x.1 == j) = false := by rw [zb, hx]; exact fun e => hne e.symm
   rw [e2, ih, List.find?_cons, this]
  ·have e2 : mdel (x :: r) k = x :: mdel r k := by simp [mdel, hx]
   rw [e2, List.find?_cons, List.find?_cons, ih]
theorem mget_same (F : Mp) (k : Tx) (n : Int) : mget (mput F k n) k = n := by
 unfold mget mput
 rw [mfind_mins_same k n _ (fun y hy => (mem_mdel.1 hy).2)]
 rfl
theorem mget_ne (F : Mp) (k : Tx) (n : Int) {j : Tx} (hne : j ≠ k) : mget (mput F k n) j = mget F j := by
 unfold mget mput
 rw [mfind_mins_ne k n hne, mfind_mdel_ne k hne]
theorem keyLaw : Keyed Tryz.prog 9 := string_keyed Tryz.underlying9
def HasMap (w : World) (m : Nat) (F : Mp) : Prop := w.ownsMap Tryz.prog 9 numElem m F.length (mdat F)
theorem HasMap.of {w : World} {m n : Nat} {F : Mp} (h : w.ownsMap Tryz.prog 9 numElem m n (mdat F)) : HasMap w m F := by
 obtain ⟨es, clock, hb, hf, _, hd⟩ := h
 refine ⟨es, clock, hb, hf, ?_, hd⟩
 have e1 : Maps.size (mdat F) = es.size := by rw [hd]; simp [Maps.size, length_sorted]
 rw [mdat_size] at e1
 omega
theorem HasMap.lt {w : World} {m : Nat} {F : Mp} (h : HasMap w m F) : m < w.heap.size := World.ownsMap.lt h
theorem HasMap.heap {w w' : World} {m : Nat} {F : Mp} (h : HasMap w m F) (e : w'.heap[m]? = w.heap[m]?) : HasMap w' m F := by
 obtain ⟨es, clock, hb, r⟩ := h
 exact ⟨es, clock, e.trans hb, r⟩
theorem HasMap.below {w w' : World} {m : Nat} {F : Mp} (h : HasMap w m F) (hb : Below w.heap.size w w') : HasMap w' m F := h.heap (hb.block m h.lt)
theorem HasMap.aw {fb : Nat} {w w' : World} {m : Nat} {F : Mp} (h : HasMap w m F) (hb : Aw fb w w') (hn : m ≠ fb) : HasMap w' m F := h.heap (hb.block m h.lt hn)
theorem keyOk {s : Tx} (hs : s.length ≤ 1000000) : keyOf Tryz.prog 9 (sT s) = some (.string s) := keyOf_string_mk (s := bT s) Tryz.underlying9 (by rw [bT_size]; unfold maxLen; omega)
theorem HasMap.look {w : World} {m : Nat} {F : Mp} (h : HasMap w m F) {T E : TypeId} (hT : Tryz.prog.underlying T = some (.map 9 E)) (hz : (zeroValue E).run Tryz.prog w = .ok (mval 0) w) {s : Tx} (hs : s.length ≤ 1000000) :
  (Instr.lookup T (.map (some m)) (sT s) false).run Tryz.prog w = .ok (iV (mget F s)) w := by
 obtain ⟨v, ps, hrun, hv⟩ := World.ownsMap.lookup h keyLaw hT hz (zd := .held (mval 0)) (zp := []) rfl (keyOk hs)
 rw [hrun]
 rw [mdat_at] at hv
 simp only [numElem, Option.some.injEq, Prod.mk.injEq, DataW.held.injEq] at hv
 rw [hv.1]
 rfl
theorem HasMap.put {w : World} {m : Nat} {F : Mp} (h : HasMap w m F) {T E : TypeId} (hT : Tryz.prog.underlying T = some (.map 9 E)) {s : Tx} (hs : s.length ≤ 1000000) (hn : F.length < maxLen) (n : Int) :
  ∃ w', (Instr.mapUpdate T (.map (some m)) (sT s) (iV n)).run Tryz.prog w = .ok () w' ∧ HasMap w' m (mput F s n) ∧ w.mapTurned w' m := by
 obtain ⟨w', hrun, hown, hturn⟩ := World.ownsMap.store h keyLaw hT hn (keyOk hs) (val := iV n) (d := .held (mval n)) (ps := []) rfl
 exact ⟨w', hrun, .of (by rw [mdat_put] at hown; exact hown), hturn⟩
structure MapT (m : Nat) (w w' : World) : Prop where
 os : w'.os = w.os
 tape : w'.tape = w.tape
 output : w'.output = w.output
 size : w'.heap.size = w.heap.size
 block : ∀ k, k ≠ m → w'.heap[k]? = w.heap[k]?
theorem MapT.of {w w' : World} {m : Nat} (h : w.mapTurned w' m) : MapT m w w' := by
 have g := h.grown
 obtain ⟨es, c, es', c', hb, rfl⟩ := h
 exact ⟨g.os, g.tape, g.output, by simp [ChangeMaps.setBlock], fun k hk => by simp only [ChangeMaps.setBlock]; rw [Array.getElem?_setIfInBounds_ne (Ne.symm hk)]⟩
theorem MapT.aw {fb m : Nat} {w1 w w' : World} (h : MapT m w w') (ha : Aw fb w1 w) (hm : w1.heap.size ≤ m) : Aw fb w1 w' :=
 ⟨h.os.trans ha.os, h.tape.trans ha.tape, h.output.trans ha.output, by rw [h.size]; exact ha.size, fun j hj hn => (h.block j (by omega)).trans (ha.block j hj hn)⟩
theorem MapT.below {m B : Nat} {w0 w w' : World} (h : MapT m w w') (hb : Below B w0 w) (hm : B ≤ m) : Below B w0 w' :=
 ⟨h.os.trans hb.os, h.tape.trans hb.tape, h.output.trans hb.output, by rw [h.size]; exact hb.size, fun j hj => (h.block j (by omega)).trans (hb.block j hj)⟩
theorem MapT.fs {m : Nat} {w0 w1 w w' : World} {f : Flt} (h : MapT m w w') (hf : FQ w0 w1 w f) (hm : w1.heap.size ≤ m) (hw : w0.heap.size < w1.heap.size) : FQ w0 w1 w' f :=
 ⟨⟨(h.block _ (by omega)).trans hf.nb.blk, h.below hf.nb.bel (by omega)⟩, h.aw hf.aw hm⟩
theorem MapT.cell {m : Nat} {w w' : World} (h : MapT m w w') {b o : Nat} (hne : b ≠ m) : w'.cell? ⟨b, o, none⟩ = w.cell? ⟨b, o, none⟩ := by simp only [World.cell?, h.block b hne]
theorem zero_int (w : World) : (zeroValue 3).run Tryz.prog w = .ok (mval 0) w := by kernel_rfl
theorem zero_int64 (w : World) : (zeroValue 2).run Tryz.prog w = .ok (mval 0) w := by kernel_rfl
theorem new_any (w : World) (m : Nat) (F : Mp) (h : HasMap w m F) (a : Tx) (ha : a.length ≤ 1000000) (hl : F.length ≤ 1000000) (hv : 0 ≤ mget F a ∧ mget F a ≤ 1000000) :
  Calls Tryz.prog 54 #[.map (some m), sT a] w fun e w' => e = .returned (.bool (mget F a + 1 == 1)) ∧ HasMap w' m (mput F a (mget F a + 1)) ∧ MapT m w w' := by
 obtain ⟨w1, hrun, hm1, htu⟩ := h.put Tryz.underlying120 ha (by unfold maxLen; omega) (mget F a + 1)
 have hl1 := h.look Tryz.underlying120 (zero_int w) ha
 have hl2 := hm1.look Tryz.underlying120 (zero_int w1) ha
 rw [mget_same] at hl2
 have H := zD (show HasMap w1 m (mput F a (mget F a + 1)) ∧ MapT m w w1 from ⟨hm1, .of htu⟩)
 have hw : IntKind.i64.wrap (mget F a + 1) = mget F a + 1 := IntWalk.i64_in _ (by omega)
 clear h hm1 htu
 generalize mget F a = n at *
 go_enter Tryz.func54, Tryz.ntmps54
 go_wp2_with fail
 exact zR (v := .bool (n + 1 == 1)) ⟨rfl, H.out⟩
end
end Go.Proofs.YtgoejmheihgpfaaGreatDoor
