/- Lemmas for ModelStays' proof. -/
import Derived.Test.YtgoejmheihgpfaaGreatDoorQq
namespace Go.Proofs.YtgoejmheihgpfaaGreatDoor
set_option maxRecDepth 100000
set_option maxHeartbeats 16000000
open Go.RowKit
def Cnt (k : Nat) (F : Mp) : Prop := F.length ≤ k ∧ ∀ x, 0 ≤ mget F x ∧ mget F x ≤ (k : Int)
theorem Cnt.none : Cnt 0 [] := ⟨zn, fun _ => ⟨Int.le_refl _, Int.le_refl _⟩⟩
theorem Cnt.put {k : Nat} {F : Mp} (h : Cnt k F) (a : Tx) : Cnt (k + 1) (mput F a (mget F a + 1)) := by
 refine ⟨Nat.le_trans (mput_length _ _ _) (Nat.succ_le_succ h.1), fun x => ?_⟩
 by_cases hx : x = a
 ·subst hx
  rw [mget_same]; have := h.2 x; omega
 ·rw [mget_ne _ _ _ hx]
  have := h.2 x; omega
def oneD (nm : Tx) (p : Flt × Mp) : Flt × Mp := (atF p.1 (mget p.2 nm + 1 == 1) nm 130, mput p.2 nm (mget p.2 nm + 1))
def ownD (own nm : Tx) (q : Flt × Mp) : Flt × Mp := (atF q.1 (mget q.2 nm + 1 == 1) (partT own nm) 130, mput q.2 nm (mget q.2 nm + 1))
def dbF (r : Rec) (q : Flt × Mp) (x : Fld) : Flt × Mp := ownD r.name x.name q
def dbM (r : Svc) (q : Flt × Mp) (x : Mth) : Flt × Mp := ownD r.name x.name q
def dbR (p : Flt × Mp) (r : Rec) : Flt × Mp := ((r.fields.foldl (dbF r) ((oneD r.name p).1, [])).1, (oneD r.name p).2)
def dbV (p : Flt × Mp) (r : Svc) : Flt × Mp := ((r.methods.foldl (dbM r) ((oneD r.name p).1, [])).1, (oneD r.name p).2)
def dbG (p : Flt × Mp) (r : Sga) : Flt × Mp := oneD r.name p
def doublesA (s : Sch) (f : Flt) : Flt := (s.sagas.foldl dbG (s.services.foldl dbV (s.records.foldl dbR (f, [])))).1
theorem doubles_any (w0 w : World) (s : Sch) (ur us ug : Value) (hS : SchR w0 s ur us ug) (hM : Small s) (f : Flt) (hF : NewB w0 w 99 (fcells f)) :
  Calls Tryz.prog 28 #[.agg #[sT s.name, ur, us, ug], .pointer (some ⟨w0.heap.size, 0, none⟩)] w fun x w' => x = .returned (.tuple #[]) ∧ FQ w0 w w' (doublesA s f) := by
 have HM := zD hM
 obtain ⟨⟨ra, rv, rfl⟩, ⟨sa, sv, rfl⟩, ⟨ga, gv, rfl⟩⟩ := hS.shape
 have HS := zD (fun (wr : World) (h : Below w0.heap.size w0 wr) => hS.below h)
 have hn1 := hM.nr
 have hn2 := hM.ns
 have hn3 := hM.ng
 have HF0 := zD (FQ.start (hF.after ((Below.refl _ w).alloc zn (.cells (sV s ra sa ga rv sv gv) 26))))
 have hwf := hF.lt
 have HX := zD (fun (wr : World) (h : Aw w0.heap.size (w.alloc (.cells (sV s ra sa ga rv sv gv) 26)) wr) => show wr.heap[w.heap.size]? = some (.cells (sV s ra sa ga rv sv gv) 26 (0, 0)) from (h.block _ (by simp) (by omega)).trans (zw _ _))
 have HE := zD (fun (wr : World) (f' : Flt) (h : FQ w0 (w.alloc (.cells (sV s ra sa ga rv sv gv) 26)) wr f') => show FQ w0 w wr f' from ⟨h.nb, (Aw.below ((Below.refl _ w).alloc zn _)).trans h.aw⟩)
 have HA := zD (fun w1 w2 f h r wh e => at_any w0 w1 w2 f h r wh e)
 clear hS hM hF
 unfold doublesA
 generalize hz1 : s.records.foldl dbR (f, []) = p1
 generalize hz2 : s.services.foldl dbV p1 = p2
 generalize hz3 : s.sagas.foldl dbG p2 = p3
 have HZ1 := zD hz1
 have HZ2 := zD hz2
 have HZ3 := zD hz3
 clear hz1 hz2 hz3
 have hmm := @run_makeMap Tryz.prog
 go_enter Tryz.func28, Tryz.ntmps28
 go_wp2_with fail
 have hwAe : (w.alloc (.cells (sV s ra sa ga rv sv gv) 26)).heap.size = w.heap.size + 1 := by simp
 generalize (w.alloc (.cells (sV s ra sa ga rv sv gv) 26)) = wA at *
 have HFm := zD (HF0.out.alloc (.map #[] 0))
 have HMm := zD (show HasMap (wA.alloc (.map #[] 0)) (w.heap.size + 1) [] from hwAe ▸ .of (World.ownsMap_made wA Tryz.prog 9 numElem))
 have HXm := zD (fun W (X : Aw w0.heap.size wA W) => HX.out W X)
 have hszA := HF0.out.size
 have hwA : w.heap.size < wA.heap.size := (zq (HX.out wA (Aw.refl _ _))).1
 generalize hwM : wA.alloc (.map #[] 0) = wM at *
 clear hwM
 go_loopw [21] (fun vi wr => ∃ k : Nat, k ≤ s.records.length ∧ vi = iV (k : Nat) ∧ Hid (FQ w0 wA wr ((s.records.take k).foldl dbR ((f, []) : Flt × Mp)).1) ∧ Hid (HasMap wr (w.heap.size + 1) ((s.records.take k).foldl dbR ((f, []) : Flt × Mp)).2) ∧ Hid (Cnt (k) ((s.records.take k).foldl dbR ((f, []) : Flt × Mp)).2)) (fun vi _ => s.records.length - (intOf vi).toNat)
 case atStart => exact ⟨0, by omega, rfl, zD HFm.out, zD HMm.out, zD Cnt.none⟩
 case round =>
  clear HFm HMm; rename World => wo
  obtain ⟨k, hk, rfl, HFr, HMr, HCr⟩ := hrel; by_cases hlt : k < s.records.length
  ·obtain ⟨xr, hx1, hx2⟩ := (HS.out w0 zl).rc
   obtain ⟨b, o, fa, fc, ys, rfl, hb, q0, q1, q2, hs, hr⟩ := rec_in HFr.out.nb.bel hx1 hx2 hlt; have HT := zD (take_fold dbR ((f, []) : Flt × Mp) s.records k hlt); have hbd := HM.out.rc _ (List.getElem_mem hlt); have hsz := HFr.out.size; generalize s.records[k] = r at *; clear hx1 hx2; have hns := hbd.2.1; generalize (s.records.take k).foldl dbR ((f, []) : Flt × Mp) = p at *; have hcl := HCr.out.1; have hcv := HCr.out.2 r.name; have HMb := zD (fun W (X : Below wo.heap.size wo W) => HMr.out.below X); have hml := HMr.out.lt; go_wp2_with fail; generalize hw1 : wo.alloc (.cells #[sT r.name, .bool r.choice, .slice fa r.fields.length fc] 74) = w1; have HFo1 := zD (show Below wo.heap.size wo w1 from hw1 ▸ bl1 wo _); have HF1 := zD (show FQ w0 wA w1 _ from hw1 ▸ HFr.out.alloc _); have hg1 : w1.heap[wo.heap.size]? = some (.cells #[sT r.name, .bool r.choice, .slice fa r.fields.length fc] 74 (0, 0)) := hw1 ▸ zw _ _; have hsz1 : w1.heap.size = wo.heap.size + 1 := by rw [← hw1]; simp
   have HX1 := zD (fun W (X : Aw w0.heap.size w1 W) => show W.heap[w.heap.size]? = some (.cells #[sT s.name, .slice (some ⟨b, o, none⟩) s.records.length rv, .slice sa s.services.length sv, .slice ga s.sagas.length gv] 26 (0, 0)) ∧ W.heap[wo.heap.size]? = some (.cells #[sT r.name, .bool r.choice, .slice fa r.fields.length fc] 74 (0, 0)) from ⟨HX.out W (HF1.out.aw.trans X), (X.block _ (by omega) (by omega)).trans hg1⟩); have hszw : w.heap.size < w1.heap.size := (zq (HX1.out w1 (Aw.refl _ _)).1).1; have cr : w1.cell? ⟨wo.heap.size, 2, none⟩ = some (.slice fa r.fields.length fc) := by simp [World.cell?, hg1]
   clear hw1 hg1; clear cr; have HB := zD (Below.refl w1.heap.size w1).drew; have HNW := zD (fun W (X : Below w1.heap.size w1 W) => new_any W (w.heap.size + 1) p.2 (HMb.out W ⟨X.os.trans HFo1.out.os, X.tape.trans HFo1.out.tape, X.output.trans HFo1.out.output, Nat.le_trans HFo1.out.size X.size, fun j hj => (X.block j (by omega)).trans (HFo1.out.block j hj)⟩) r.name (by omega) (by omega) (by omega)); have HAT := zD (fun W (h : NewB w0 W 99 (fcells p.1)) => at_z w0 W _ h (mget p.2 r.name + 1 == 1) r.name 130 130 rfl _ rfl); have HS0 := zD (fun W (X : Aw w0.heap.size w1 W) => show W.cell? ⟨wo.heap.size, 0, none⟩ = some (sT r.name) from by simp [World.cell?, (HX1.out W X).2]); have HD := zD (show dbR p r = ((r.fields.foldl (dbF r) ((oneD r.name p).1, [])).1, (oneD r.name p).2) from rfl); have hso := HS0.out w1 (Aw.refl _ _); have HQ := zD (show oneD r.name p = (atF p.1 (mget p.2 r.name + 1 == 1) r.name 130, mput p.2 r.name (mget p.2 r.name + 1)) from rfl); have HCp := zD (HCr.out.put r.name); generalize mget p.2 r.name = mg at *
   go_region_held3 (fun W => W.cell? ⟨wo.heap.size, 0, none⟩ = some (sT r.name))
    (first | exact HS0.out _ (Aw.below HB.out) | exact hs2 | exact hs3 | assumption)
    (first
     | (go_at_call 54; ((with_reducible refine (HNW.out _ HB.out).mono ?_); rintro e w2 ⟨rfl, hm2, ht2⟩; have hf2 := ht2.fs (HF1.out.after HB.out) (by omega) hszA; have hs2 := (ht2.cell (o := 0) (show wo.heap.size ≠ w.heap.size + 1 from by omega)).trans (HS0.out _ (Aw.below HB.out))))
     | (go_at_call 51; ((with_reducible refine (HAT.out _ hf2.nb).mono ?_); rintro e w3 ⟨rfl, hf3⟩; have hs3 := (hf3.aw.cell (World.block_lt_of_cell? _ _ hs2) (show wo.heap.size ≠ w0.heap.size from by omega) 0).trans hs2)))
   all_goals
    have HF3 := zD (hf2.step hf3); have HM3 := zD (hm2.aw hf3.aw (show w.heap.size + 1 ≠ w0.heap.size from by omega)); have hsz2 := ht2.size; have hgr : w3.heap[wo.heap.size]? = some (.cells #[sT r.name, .bool r.choice, .slice fa r.fields.length fc] 74 (0, 0)) := (hf3.aw.block _ (by rw [hsz2]; have := HB.out.size; omega) (by omega)).trans ((ht2.block _ (by omega)).trans ((HB.out.block _ (by omega)).trans (HX1.out w1 (Aw.refl _ _)).2)); have hs3w := hf3.aw.size; have hszB := HB.out.size; have hge : wo.heap.size < w3.heap.size := by omega
    have hgM : wA.heap.size < w3.heap.size := by omega
    have hg0 : w0.heap.size < w3.heap.size := by omega
    have hgw : w.heap.size < w3.heap.size := by omega
    have cr : w3.cell? ⟨wo.heap.size, 2, none⟩ = some (.slice fa r.fields.length fc) := by simp [World.cell?, hgr]
    have HG := zD (fun W (X : Aw w0.heap.size w3 W) => show W.cell? ⟨wo.heap.size, 0, none⟩ = some (sT r.name) from by simp [World.cell?, (X.block wo.heap.size hge (by omega)).trans hgr]); clear hf3 hm2 ht2 hf2 hs2 hs3 hso HB HNW HAT HS0 hgr hsz2 hs3w hszB HF1 HX1 HFr HMr HCr HMb HFo1 hszw hsz1 hml; rw [show atF p.1 (mg + 1 == 1) r.name 130 = (oneD r.name p).1 from by rw [HQ.out]] at HF3; rw [show mput p.2 r.name (mg + 1) = (oneD r.name p).2 from by rw [HQ.out]] at HM3 HCp; generalize oneD r.name p = pq at *; clear HQ hcl hcv; go_wp2_with fail; have HFn := zD ((FQ.start HF3.out.nb).alloc (.map #[] 0)); have HMn := zD (show HasMap (w3.alloc (.map #[] 0)) w3.heap.size [] from .of (World.ownsMap_made w3 Tryz.prog 9 numElem)); go_loopw [37] (fun vi wi => ∃ j : Nat, j ≤ r.fields.length ∧ vi = iV (j : Nat) ∧ Hid (FQ w0 w3 wi ((r.fields.take j).foldl (dbF r) (pq.1, [])).1) ∧ Hid (HasMap wi w3.heap.size ((r.fields.take j).foldl (dbF r) (pq.1, [])).2) ∧ Hid (Cnt j ((r.fields.take j).foldl (dbF r) (pq.1, [])).2)) (fun vi _ => r.fields.length - (intOf vi).toNat)
    case atStart => exact ⟨0, by omega, rfl, zD HFn.out, zD HMn.out, zD Cnt.none⟩
    case round =>
     clear HFn HMn cr; rename World => wi
     obtain ⟨j, hj, rfl, HFi, HMi, HCi⟩ := hrel; by_cases hlt2 : j < r.fields.length
     ·obtain ⟨b2, o2, ga2, gc2, rfl, hb2, p0, p1, hs2⟩ := fld_in HFi.out.nb.bel hs hr hlt2
      have HT2 := zD (take_fold (dbF r) (pq.1, []) r.fields j hlt2); have hbd2 := hbd.2.2 _ (List.getElem_mem hlt2); generalize r.fields[j] = x at *; generalize (r.fields.take j).foldl (dbF r) (pq.1, []) = t at *; have hcl := HCi.out.1; have hcv := HCi.out.2 x.name; have hszi := HFi.out.aw.size; have hmi := HMi.out.lt; go_wp2_with fail; generalize hw5 : wi.alloc (.cells #[sT x.name, .slice ga2 x.type.length gc2] 77) = w5; have HF5 := zD (show FQ w0 w3 w5 _ from hw5 ▸ HFi.out.alloc _); have HM5 := zD (show HasMap w5 w3.heap.size t.2 from hw5 ▸ HMi.out.below (bl1 wi _)); have hg5 : w5.heap[wi.heap.size]? = some (.cells #[sT x.name, .slice ga2 x.type.length gc2] 77 (0, 0)) := hw5 ▸ zw _ _; have hsz5 : w5.heap.size = wi.heap.size + 1 := by rw [← hw5]; simp
      clear hw5; have HB := zD (Below.refl w5.heap.size w5).drew; have HNW := zD (fun W (X : Below w5.heap.size w5 W) => new_any W w3.heap.size t.2 (HM5.out.below X) x.name (by omega) (by omega) (by omega)); have HPT := zD (fun W => part_any W r.name x.name (by omega) (by omega)); have HAT := zD (fun W (h : NewB w0 W 99 (fcells t.1)) => at_z w0 W _ h (mget t.2 x.name + 1 == 1) (partT r.name x.name) 130 130 rfl _ rfl); have HS5 := zD (fun W (X : Aw w0.heap.size w5 W) => show W.cell? ⟨wo.heap.size, 0, none⟩ = some (sT r.name) ∧ W.cell? ⟨wi.heap.size, 0, none⟩ = some (sT x.name) from ⟨HG.out W (HF5.out.aw.trans X), by simp [World.cell?, (X.block wi.heap.size (by omega) (by omega)).trans hg5]⟩); have HQ := zD (show dbF r t x = (atF t.1 (mget t.2 x.name + 1 == 1) (partT r.name x.name) 130, mput t.2 x.name (mget t.2 x.name + 1)) from rfl); have HCq := zD (HCi.out.put x.name); obtain ⟨e0, e1⟩ := HS5.out w5 (Aw.refl _ _); have hb5 := HB.out.size; generalize mget t.2 x.name = mh at *; generalize partT r.name x.name = PT at *; clear p0 p1 hb2 hs2
      go_region_held3 (fun W => W.cell? ⟨wo.heap.size, 0, none⟩ = some (sT r.name) ∧ W.cell? ⟨wi.heap.size, 0, none⟩ = some (sT x.name))
       (first | exact HS5.out _ (Aw.below HB.out) | exact hs6 | exact hs7 | assumption)
       (first
        | (go_at_call 54; ((with_reducible refine (HNW.out _ HB.out).mono ?_); rintro e w6 ⟨rfl, hm6, ht6⟩; have hf6 := ht6.fs (HF5.out.after HB.out) zn hg0; have hs6 := And.intro ((ht6.cell (o := 0) (show wo.heap.size ≠ w3.heap.size from by omega)).trans (HS5.out _ (Aw.below HB.out)).1) ((ht6.cell (o := 0) (show wi.heap.size ≠ w3.heap.size from by omega)).trans (HS5.out _ (Aw.below HB.out)).2)))
        | (go_at_call 55; ((with_reducible refine (HPT.out _).mono ?_); rintro e w9 ⟨rfl, rfl⟩))
        | (go_at_call 51; ((with_reducible refine (HAT.out _ hf6.nb).mono ?_); rintro e w7 ⟨rfl, hf7⟩; have hs7 := And.intro ((hf7.aw.cell (World.block_lt_of_cell? _ _ hs6.1) (show wo.heap.size ≠ w0.heap.size from by omega) 0).trans hs6.1) ((hf7.aw.cell (World.block_lt_of_cell? _ _ hs6.2) (show wi.heap.size ≠ w0.heap.size from by omega) 0).trans hs6.2))))
      all_goals
       have HF7 := zD (hf6.step hf7); have HM7 := zD (hm6.aw hf7.aw (show w3.heap.size ≠ w0.heap.size from by omega)); clear hf6 hf7 hm6 ht6 hs6 hs7; go_wp2_with fail; exact ⟨⟨j + 1, by omega, by go_num, zD (by rw [HT2.out, HQ.out]; exact HF7.out), zD (by rw [HT2.out, HQ.out]; exact HM7.out), zD (by rw [HT2.out, HQ.out]; exact HCq.out)⟩, by simp [intOf]; omega⟩
     have HFj := zD (HF3.out.step HFi.out); have HMj := zD (HM3.out.aw HFi.out.aw (show w.heap.size + 1 ≠ w0.heap.size from by omega)); rw [take_all _ _ _ _ hlt2] at HFj; go_wp2_with fail; exact ⟨⟨k + 1, by omega, by go_num, zD (by rw [HT.out, HD.out]; exact HFj.out), zD (by rw [HT.out, HD.out]; exact HMj.out), zD (by rw [HT.out, HD.out]; exact HCp.out)⟩, by simp [intOf]; omega⟩
  have HFz := zD (show FQ w0 wA wo p1.1 from by have h := HFr.out; rw [take_all _ _ _ _ hlt, HZ1.out] at h; exact h); have HMz := zD (show HasMap wo (w.heap.size + 1) p1.2 from by have h := HMr.out; rw [take_all _ _ _ _ hlt, HZ1.out] at h; exact h); have HCz := zD (show Cnt (s.records.length) p1.2 from by have h := HCr.out; rw [take_all _ _ _ _ hlt, HZ1.out] at h; exact (show k = s.records.length from by omega) ▸ h); clear HFr HMr HCr; have hbx := HX.out wo HFz.out.aw; have cbx : wo.cell? ⟨w.heap.size, 2, none⟩ = some (.slice sa s.services.length sv) := by simp [World.cell?, hbx]
  clear hbx; go_wp2_with fail; go_loopw [57] (fun vi wr => ∃ k : Nat, k ≤ s.services.length ∧ vi = iV (k : Nat) ∧ Hid (FQ w0 wA wr ((s.services.take k).foldl dbV p1).1) ∧ Hid (HasMap wr (w.heap.size + 1) ((s.services.take k).foldl dbV p1).2) ∧ Hid (Cnt (s.records.length + k) ((s.services.take k).foldl dbV p1).2)) (fun vi _ => s.services.length - (intOf vi).toNat)
  case atStart => exact ⟨0, by omega, rfl, zD HFz.out, zD HMz.out, zD HCz.out⟩
  case round =>
   clear HFz HMz cbx; rename World => wo
   obtain ⟨k, hk, rfl, HFr, HMr, HCr⟩ := hrel; by_cases hlt : k < s.services.length
   ·obtain ⟨xr, hx1, hx2⟩ := (HS.out w0 zl).sv
    obtain ⟨b, o, fa, fc, rfl, hb, q0, q1, hs⟩ := svc_in HFr.out.nb.bel hx1 hx2 hlt; have HT := zD (take_fold dbV p1 s.services k hlt); have hbd := HM.out.sv _ (List.getElem_mem hlt); have hsz := HFr.out.size; generalize s.services[k] = r at *; clear hx1 hx2; have hns := hbd.2.1; generalize (s.services.take k).foldl dbV p1 = p at *; have hcl := HCr.out.1; have hcv := HCr.out.2 r.name; have HMb := zD (fun W (X : Below wo.heap.size wo W) => HMr.out.below X); have hml := HMr.out.lt; go_wp2_with fail; generalize hw1 : wo.alloc (.cells #[sT r.name, .slice fa r.methods.length fc] 112) = w1; have HFo1 := zD (show Below wo.heap.size wo w1 from hw1 ▸ bl1 wo _); have HF1 := zD (show FQ w0 wA w1 _ from hw1 ▸ HFr.out.alloc _); have hg1 : w1.heap[wo.heap.size]? = some (.cells #[sT r.name, .slice fa r.methods.length fc] 112 (0, 0)) := hw1 ▸ zw _ _; have hsz1 : w1.heap.size = wo.heap.size + 1 := by rw [← hw1]; simp
    have HX1 := zD (fun W (X : Aw w0.heap.size w1 W) => show W.heap[w.heap.size]? = some (.cells #[sT s.name, .slice ra s.records.length rv, .slice (some ⟨b, o, none⟩) s.services.length sv, .slice ga s.sagas.length gv] 26 (0, 0)) ∧ W.heap[wo.heap.size]? = some (.cells #[sT r.name, .slice fa r.methods.length fc] 112 (0, 0)) from ⟨HX.out W (HF1.out.aw.trans X), (X.block _ (by omega) (by omega)).trans hg1⟩); have hszw : w.heap.size < w1.heap.size := (zq (HX1.out w1 (Aw.refl _ _)).1).1; have cr : w1.cell? ⟨wo.heap.size, 1, none⟩ = some (.slice fa r.methods.length fc) := by simp [World.cell?, hg1]
    clear hw1 hg1; clear cr; have HB := zD (Below.refl w1.heap.size w1).drew; have HNW := zD (fun W (X : Below w1.heap.size w1 W) => new_any W (w.heap.size + 1) p.2 (HMb.out W ⟨X.os.trans HFo1.out.os, X.tape.trans HFo1.out.tape, X.output.trans HFo1.out.output, Nat.le_trans HFo1.out.size X.size, fun j hj => (X.block j (by omega)).trans (HFo1.out.block j hj)⟩) r.name (by omega) (by omega) (by omega)); have HAT := zD (fun W (h : NewB w0 W 99 (fcells p.1)) => at_z w0 W _ h (mget p.2 r.name + 1 == 1) r.name 130 130 rfl _ rfl); have HS0 := zD (fun W (X : Aw w0.heap.size w1 W) => show W.cell? ⟨wo.heap.size, 0, none⟩ = some (sT r.name) from by simp [World.cell?, (HX1.out W X).2]); have HD := zD (show dbV p r = ((r.methods.foldl (dbM r) ((oneD r.name p).1, [])).1, (oneD r.name p).2) from rfl); have hso := HS0.out w1 (Aw.refl _ _); have HQ := zD (show oneD r.name p = (atF p.1 (mget p.2 r.name + 1 == 1) r.name 130, mput p.2 r.name (mget p.2 r.name + 1)) from rfl); have HCp := zD (HCr.out.put r.name); generalize mget p.2 r.name = mg at *
    go_region_held3 (fun W => W.cell? ⟨wo.heap.size, 0, none⟩ = some (sT r.name))
     (first | exact HS0.out _ (Aw.below HB.out) | exact hs2 | exact hs3 | assumption)
     (first
      | (go_at_call 54; ((with_reducible refine (HNW.out _ HB.out).mono ?_); rintro e w2 ⟨rfl, hm2, ht2⟩; have hf2 := ht2.fs (HF1.out.after HB.out) (by omega) hszA; have hs2 := (ht2.cell (o := 0) (show wo.heap.size ≠ w.heap.size + 1 from by omega)).trans (HS0.out _ (Aw.below HB.out))))
      | (go_at_call 51; ((with_reducible refine (HAT.out _ hf2.nb).mono ?_); rintro e w3 ⟨rfl, hf3⟩; have hs3 := (hf3.aw.cell (World.block_lt_of_cell? _ _ hs2) (show wo.heap.size ≠ w0.heap.size from by omega) 0).trans hs2)))
    all_goals
     have HF3 := zD (hf2.step hf3); have HM3 := zD (hm2.aw hf3.aw (show w.heap.size + 1 ≠ w0.heap.size from by omega)); have hsz2 := ht2.size; have hgr : w3.heap[wo.heap.size]? = some (.cells #[sT r.name, .slice fa r.methods.length fc] 112 (0, 0)) := (hf3.aw.block _ (by rw [hsz2]; have := HB.out.size; omega) (by omega)).trans ((ht2.block _ (by omega)).trans ((HB.out.block _ (by omega)).trans (HX1.out w1 (Aw.refl _ _)).2)); have hs3w := hf3.aw.size; have hszB := HB.out.size; have hge : wo.heap.size < w3.heap.size := by omega
     have hgM : wA.heap.size < w3.heap.size := by omega
     have hg0 : w0.heap.size < w3.heap.size := by omega
     have hgw : w.heap.size < w3.heap.size := by omega
     have cr : w3.cell? ⟨wo.heap.size, 1, none⟩ = some (.slice fa r.methods.length fc) := by simp [World.cell?, hgr]
     have HG := zD (fun W (X : Aw w0.heap.size w3 W) => show W.cell? ⟨wo.heap.size, 0, none⟩ = some (sT r.name) from by simp [World.cell?, (X.block wo.heap.size hge (by omega)).trans hgr]); clear hf3 hm2 ht2 hf2 hs2 hs3 hso HB HNW HAT HS0 hgr hsz2 hs3w hszB HF1 HX1 HFr HMr HCr HMb HFo1 hszw hsz1 hml; rw [show atF p.1 (mg + 1 == 1) r.name 130 = (oneD r.name p).1 from by rw [HQ.out]] at HF3; rw [show mput p.2 r.name (mg + 1) = (oneD r.name p).2 from by rw [HQ.out]] at HM3 HCp; generalize oneD r.name p = pq at *; clear HQ hcl hcv; go_wp2_with fail; have HFn := zD ((FQ.start HF3.out.nb).alloc (.map #[] 0)); have HMn := zD (show HasMap (w3.alloc (.map #[] 0)) w3.heap.size [] from .of (World.ownsMap_made w3 Tryz.prog 9 numElem)); go_loopw [73] (fun vi wi => ∃ j : Nat, j ≤ r.methods.length ∧ vi = iV (j : Nat) ∧ Hid (FQ w0 w3 wi ((r.methods.take j).foldl (dbM r) (pq.1, [])).1) ∧ Hid (HasMap wi w3.heap.size ((r.methods.take j).foldl (dbM r) (pq.1, [])).2) ∧ Hid (Cnt j ((r.methods.take j).foldl (dbM r) (pq.1, [])).2)) (fun vi _ => r.methods.length - (intOf vi).toNat)
     case atStart => exact ⟨0, by omega, rfl, zD HFn.out, zD HMn.out, zD Cnt.none⟩
     case round =>
      clear HFn HMn cr; rename World => wi
      obtain ⟨j, hj, rfl, HFi, HMi, HCi⟩ := hrel; by_cases hlt2 : j < r.methods.length
      ·obtain ⟨b2, o2, rfl, hb2, p0, p1, p2, p3, p4⟩ := mth_in HFi.out.nb.bel hs hlt2
       have HT2 := zD (take_fold (dbM r) (pq.1, []) r.methods j hlt2); have hbd2 := hbd.2.2 _ (List.getElem_mem hlt2); generalize r.methods[j] = x at *; generalize (r.methods.take j).foldl (dbM r) (pq.1, []) = t at *; have hcl := HCi.out.1; have hcv := HCi.out.2 x.name; have hszi := HFi.out.aw.size; have hmi := HMi.out.lt; go_wp2_with fail; generalize hw5 : wi.alloc (.cells #[sT x.name, sT x.arg, .int .u8 (x.result : Nat), sT x.effect, sT x.undo] 92) = w5; have HF5 := zD (show FQ w0 w3 w5 _ from hw5 ▸ HFi.out.alloc _); have HM5 := zD (show HasMap w5 w3.heap.size t.2 from hw5 ▸ HMi.out.below (bl1 wi _)); have hg5 : w5.heap[wi.heap.size]? = some (.cells #[sT x.name, sT x.arg, .int .u8 (x.result : Nat), sT x.effect, sT x.undo] 92 (0, 0)) := hw5 ▸ zw _ _; have hsz5 : w5.heap.size = wi.heap.size + 1 := by rw [← hw5]; simp
       clear hw5; have HB := zD (Below.refl w5.heap.size w5).drew; have HNW := zD (fun W (X : Below w5.heap.size w5 W) => new_any W w3.heap.size t.2 (HM5.out.below X) x.name (by omega) (by omega) (by omega)); have HPT := zD (fun W => part_any W r.name x.name (by omega) (by omega)); have HAT := zD (fun W (h : NewB w0 W 99 (fcells t.1)) => at_z w0 W _ h (mget t.2 x.name + 1 == 1) (partT r.name x.name) 130 130 rfl _ rfl); have HS5 := zD (fun W (X : Aw w0.heap.size w5 W) => show W.cell? ⟨wo.heap.size, 0, none⟩ = some (sT r.name) ∧ W.cell? ⟨wi.heap.size, 0, none⟩ = some (sT x.name) from ⟨HG.out W (HF5.out.aw.trans X), by simp [World.cell?, (X.block wi.heap.size (by omega) (by omega)).trans hg5]⟩); have HQ := zD (show dbM r t x = (atF t.1 (mget t.2 x.name + 1 == 1) (partT r.name x.name) 130, mput t.2 x.name (mget t.2 x.name + 1)) from rfl); have HCq := zD (HCi.out.put x.name); obtain ⟨e0, e1⟩ := HS5.out w5 (Aw.refl _ _); have hb5 := HB.out.size; generalize mget t.2 x.name = mh at *; generalize partT r.name x.name = PT at *; clear p0 p1 p2 p3 p4 hb2
       go_region_held3 (fun W => W.cell? ⟨wo.heap.size, 0, none⟩ = some (sT r.name) ∧ W.cell? ⟨wi.heap.size, 0, none⟩ = some (sT x.name))
        (first | exact HS5.out _ (Aw.below HB.out) | exact hs6 | exact hs7 | assumption)
        (first
         | (go_at_call 54; ((with_reducible refine (HNW.out _ HB.out).mono ?_); rintro e w6 ⟨rfl, hm6, ht6⟩; have hf6 := ht6.fs (HF5.out.after HB.out) zn hg0; have hs6 := And.intro ((ht6.cell (o := 0) (show wo.heap.size ≠ w3.heap.size from by omega)).trans (HS5.out _ (Aw.below HB.out)).1) ((ht6.cell (o := 0) (show wi.heap.size ≠ w3.heap.size from by omega)).trans (HS5.out _ (Aw.below HB.out)).2)))
         | (go_at_call 55; ((with_reducible refine (HPT.out _).mono ?_); rintro e w9 ⟨rfl, rfl⟩))
         | (go_at_call 51; ((with_reducible refine (HAT.out _ hf6.nb).mono ?_); rintro e w7 ⟨rfl, hf7⟩; have hs7 := And.intro ((hf7.aw.cell (World.block_lt_of_cell? _ _ hs6.1) (show wo.heap.size ≠ w0.heap.size from by omega) 0).trans hs6.1) ((hf7.aw.cell (World.block_lt_of_cell? _ _ hs6.2) (show wi.heap.size ≠ w0.heap.size from by omega) 0).trans hs6.2))))
       all_goals
        have HF7 := zD (hf6.step hf7); have HM7 := zD (hm6.aw hf7.aw (show w3.heap.size ≠ w0.heap.size from by omega)); clear hf6 hf7 hm6 ht6 hs6 hs7; go_wp2_with fail; exact ⟨⟨j + 1, by omega, by go_num, zD (by rw [HT2.out, HQ.out]; exact HF7.out), zD (by rw [HT2.out, HQ.out]; exact HM7.out), zD (by rw [HT2.out, HQ.out]; exact HCq.out)⟩, by simp [intOf]; omega⟩
      have HFj := zD (HF3.out.step HFi.out); have HMj := zD (HM3.out.aw HFi.out.aw (show w.heap.size + 1 ≠ w0.heap.size from by omega)); rw [take_all _ _ _ _ hlt2] at HFj; go_wp2_with fail; exact ⟨⟨k + 1, by omega, by go_num, zD (by rw [HT.out, HD.out]; exact HFj.out), zD (by rw [HT.out, HD.out]; exact HMj.out), zD (by rw [HT.out, HD.out]; exact HCp.out)⟩, by simp [intOf]; omega⟩
   have HFz := zD (show FQ w0 wA wo p2.1 from by have h := HFr.out; rw [take_all _ _ _ _ hlt, HZ2.out] at h; exact h); have HMz := zD (show HasMap wo (w.heap.size + 1) p2.2 from by have h := HMr.out; rw [take_all _ _ _ _ hlt, HZ2.out] at h; exact h); have HCz := zD (show Cnt (s.records.length + s.services.length) p2.2 from by have h := HCr.out; rw [take_all _ _ _ _ hlt, HZ2.out] at h; exact (show k = s.services.length from by omega) ▸ h); clear HFr HMr HCr; have hbx := HX.out wo HFz.out.aw; have cbx : wo.cell? ⟨w.heap.size, 3, none⟩ = some (.slice ga s.sagas.length gv) := by simp [World.cell?, hbx]
   clear hbx; go_wp2_with fail; go_loopw [93] (fun vi wr => ∃ k : Nat, k ≤ s.sagas.length ∧ vi = iV (k : Nat) ∧ Hid (FQ w0 wA wr ((s.sagas.take k).foldl dbG p2).1) ∧ Hid (HasMap wr (w.heap.size + 1) ((s.sagas.take k).foldl dbG p2).2) ∧ Hid (Cnt (s.records.length + s.services.length + k) ((s.sagas.take k).foldl dbG p2).2)) (fun vi _ => s.sagas.length - (intOf vi).toNat)
   case atStart => exact ⟨0, by omega, rfl, zD HFz.out, zD HMz.out, zD HCz.out⟩
   case round =>
    clear HFz HMz cbx; rename World => wo
    obtain ⟨k, hk, rfl, HFr, HMr, HCr⟩ := hrel; by_cases hlt : k < s.sagas.length
    ·obtain ⟨xr, hx1, hx2⟩ := (HS.out w0 zl).sg
     obtain ⟨b, o, fa, fc, rfl, hb, q0, q1, q2, hs⟩ := sga_in HFr.out.nb.bel hx1 hx2 hlt; have HT := zD (take_fold dbG p2 s.sagas k hlt); have hbd := HM.out.sg _ (List.getElem_mem hlt); have hsz := HFr.out.size; generalize s.sagas[k] = r at *; clear hx1 hx2; have hns := hbd.2.2.1; generalize (s.sagas.take k).foldl dbG p2 = p at *; have hcl := HCr.out.1; have hcv := HCr.out.2 r.name; have HMb := zD (fun W (X : Below wo.heap.size wo W) => HMr.out.below X); have hml := HMr.out.lt; go_wp2_with fail; generalize hw1 : wo.alloc (.cells #[sT r.name, sT r.arg, .slice fa r.steps.length fc] 67) = w1; have HFo1 := zD (show Below wo.heap.size wo w1 from hw1 ▸ bl1 wo _); have HF1 := zD (show FQ w0 wA w1 _ from hw1 ▸ HFr.out.alloc _); have hg1 : w1.heap[wo.heap.size]? = some (.cells #[sT r.name, sT r.arg, .slice fa r.steps.length fc] 67 (0, 0)) := hw1 ▸ zw _ _; have hsz1 : w1.heap.size = wo.heap.size + 1 := by rw [← hw1]; simp
     have HX1 := zD (fun W (X : Aw w0.heap.size w1 W) => show W.heap[w.heap.size]? = some (.cells #[sT s.name, .slice ra s.records.length rv, .slice sa s.services.length sv, .slice (some ⟨b, o, none⟩) s.sagas.length gv] 26 (0, 0)) ∧ W.heap[wo.heap.size]? = some (.cells #[sT r.name, sT r.arg, .slice fa r.steps.length fc] 67 (0, 0)) from ⟨HX.out W (HF1.out.aw.trans X), (X.block _ (by omega) (by omega)).trans hg1⟩); have hszw : w.heap.size < w1.heap.size := (zq (HX1.out w1 (Aw.refl _ _)).1).1; have cr : w1.cell? ⟨wo.heap.size, 2, none⟩ = some (.slice fa r.steps.length fc) := by simp [World.cell?, hg1]
     clear hw1 hg1; clear cr; have HB := zD (Below.refl w1.heap.size w1).drew; have HNW := zD (fun W (X : Below w1.heap.size w1 W) => new_any W (w.heap.size + 1) p.2 (HMb.out W ⟨X.os.trans HFo1.out.os, X.tape.trans HFo1.out.tape, X.output.trans HFo1.out.output, Nat.le_trans HFo1.out.size X.size, fun j hj => (X.block j (by omega)).trans (HFo1.out.block j hj)⟩) r.name (by omega) (by omega) (by omega)); have HAT := zD (fun W (h : NewB w0 W 99 (fcells p.1)) => at_z w0 W _ h (mget p.2 r.name + 1 == 1) r.name 130 130 rfl _ rfl); have HS0 := zD (fun W (X : Aw w0.heap.size w1 W) => show W.cell? ⟨wo.heap.size, 0, none⟩ = some (sT r.name) from by simp [World.cell?, (HX1.out W X).2]); have HD := zD (show dbG p r = oneD r.name p from rfl); have hso := HS0.out w1 (Aw.refl _ _); have HQ := zD (show oneD r.name p = (atF p.1 (mget p.2 r.name + 1 == 1) r.name 130, mput p.2 r.name (mget p.2 r.name + 1)) from rfl); have HCp := zD (HCr.out.put r.name); generalize mget p.2 r.name = mg at *
     go_region_held3 (fun W => W.cell? ⟨wo.heap.size, 0, none⟩ = some (sT r.name))
      (first | exact HS0.out _ (Aw.below HB.out) | exact hs2 | exact hs3 | assumption)
      (first
       | (go_at_call 54; ((with_reducible refine (HNW.out _ HB.out).mono ?_); rintro e w2 ⟨rfl, hm2, ht2⟩; have hf2 := ht2.fs (HF1.out.after HB.out) (by omega) hszA; have hs2 := (ht2.cell (o := 0) (show wo.heap.size ≠ w.heap.size + 1 from by omega)).trans (HS0.out _ (Aw.below HB.out))))
       | (go_at_call 51; ((with_reducible refine (HAT.out _ hf2.nb).mono ?_); rintro e w3 ⟨rfl, hf3⟩; have hs3 := (hf3.aw.cell (World.block_lt_of_cell? _ _ hs2) (show wo.heap.size ≠ w0.heap.size from by omega) 0).trans hs2)))
     all_goals
      have HF3 := zD (hf2.step hf3); have HM3 := zD (hm2.aw hf3.aw (show w.heap.size + 1 ≠ w0.heap.size from by omega)); clear hf3 hm2 ht2 hf2 hs2 hs3; go_wp2_with fail; exact ⟨⟨k + 1, by omega, by go_num, zD (by rw [HT.out, HD.out, HQ.out]; exact HF3.out), zD (by rw [HT.out, HD.out, HQ.out]; exact HM3.out), zD (by rw [HT.out, HD.out, HQ.out]; exact HCp.out)⟩, by simp [intOf]; omega⟩
    have HFz := zD (show FQ w0 wA wo p3.1 from by have h := HFr.out; rw [take_all _ _ _ _ hlt, HZ3.out] at h; exact h); have HMz := zD (show HasMap wo (w.heap.size + 1) p3.2 from by have h := HMr.out; rw [take_all _ _ _ _ hlt, HZ3.out] at h; exact h); have HCz := zD (show Cnt (s.records.length + s.services.length + s.sagas.length) p3.2 from by have h := HCr.out; rw [take_all _ _ _ _ hlt, HZ3.out] at h; exact (show k = s.sagas.length from by omega) ▸ h); clear HFr HMr HCr; go_wp2_with fail; go_end0; exact ⟨rfl, HE.out _ _ HFz.out⟩
end Go.Proofs.YtgoejmheihgpfaaGreatDoor
