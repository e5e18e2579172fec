/- Lemmas for ModelStays' proof. -/
import Derived.Test.YtgoejmheihgpfaaGreatDoorQd
import Derived.Lib.SliceRun
import Derived.Laws.OwnMore
namespace Go.Proofs.YtgoejmheihgpfaaGreatDoor
set_option maxRecDepth 100000
set_option maxHeartbeats 16000000
open Go.RowKit
def nmF (f : Flt) (r : Fld) : Flt := atF f (nameT r.name) r.name 120
def nmR (f : Flt) (r : Rec) : Flt := r.fields.foldl nmF (atF f (nameT r.name) r.name 120)
def nmM (f : Flt) (r : Mth) : Flt := atF f (nameT r.name) r.name 120
def nmV (f : Flt) (r : Svc) : Flt := r.methods.foldl nmM (atF f (nameT r.name) r.name 120)
def nmG (f : Flt) (r : Sga) : Flt := atF f (nameT r.name) r.name 120
def namesA (s : Sch) (f : Flt) : Flt := s.sagas.foldl nmG (s.services.foldl nmV (s.records.foldl nmR (atF f (nameT s.name) [] 120)))
theorem names_any (w0 w : World) (hK : KwIn w0) (s : Sch) (ur us ug : Value) (hS : SchR w0 s ur us ug) (hM : Small s) (f : Flt) (hF : NewB w0 w 99 (fcells f)) :
  Calls Tryz.prog 26 #[.agg #[sT s.name, ur, us, ug], .pointer (some ⟨w0.heap.size, 0, none⟩)] w fun x w' => x = .returned (.tuple #[]) ∧ FQ w0 w w' (namesA s f) := by
 have HM := zD hM
 obtain ⟨⟨ra, rv, rfl⟩, ⟨sa, sv, rfl⟩, ⟨ga, gv, rfl⟩⟩ := hS.shape
 have HS := zD (fun (wr : World) (h : Below w0.heap.size w0 wr) => hS.below h)
 have hn1 := hM.nr
 have hn2 := hM.ns
 have hn3 := hM.ng
 have hwf := hF.lt
 have HF0 := zD (FQ.start (hF.after (((Below.refl _ w).alloc zn (.cells (sV s ra sa ga rv sv gv) 26)).alloc (by simp) (.cells #[.pointer (some ⟨w0.heap.size, 0, none⟩)] 100))))
 have HX := zD (fun (wr : World) (h : Aw w0.heap.size ((w.alloc (.cells (sV s ra sa ga rv sv gv) 26)).alloc (.cells #[.pointer (some ⟨w0.heap.size, 0, none⟩)] 100)) wr) => show wr.heap[w.heap.size]? = some (.cells (sV s ra sa ga rv sv gv) 26 (0, 0)) from (h.block _ (by simp; omega) (by omega)).trans ((Below.heap_alloc _ _ _ (by simp)).trans (zw _ _)))
 have HP := zD (fun (wr : World) (h : Aw w0.heap.size ((w.alloc (.cells (sV s ra sa ga rv sv gv) 26)).alloc (.cells #[.pointer (some ⟨w0.heap.size, 0, none⟩)] 100)) wr) => show wr.heap[w.heap.size + 1]? = some (.cells #[.pointer (some ⟨w0.heap.size, 0, none⟩)] 100 (0, 0)) from (h.block _ (by simp) (by omega)).trans (heap_alloc_new2 _ _ _))
 have HL := zD (fun (wr : World) (h : Aw w0.heap.size ((w.alloc (.cells (sV s ra sa ga rv sv gv) 26)).alloc (.cells #[.pointer (some ⟨w0.heap.size, 0, none⟩)] 100)) wr) => show w.heap.size + 1 < wr.heap.size from (zq (HP.out wr h)).1)
 have HE := zD (fun (wr : World) (f' : Flt) (h : FQ w0 ((w.alloc (.cells (sV s ra sa ga rv sv gv) 26)).alloc (.cells #[.pointer (some ⟨w0.heap.size, 0, none⟩)] 100)) wr f') => show FQ w0 w wr f' from ⟨h.nb, (Aw.below (((Below.refl _ w).alloc zn _).alloc (by simp) _)).trans h.aw⟩)
 have HO := zD (fun (w1 wr : World) (f' : Flt) (h : FQ w0 w1 wr f') (hx : Aw w0.heap.size ((w.alloc (.cells (sV s ra sa ga rv sv gv) 26)).alloc (.cells #[.pointer (some ⟨w0.heap.size, 0, none⟩)] 100)) wr) (a : Tx) (ha : a.length ≤ 200) => nm1_any w0 w1 wr f' h (hK.below h.nb.bel) (w.heap.size + 1) (HL.out wr hx) (by omega) (by simp [World.cell?, HP.out wr hx]) a ha)
 have HK := zD (fun (wr : World) (h : Below w0.heap.size w0 wr) => hK.below h)
 clear hS hM hF hK
 unfold namesA
 generalize hf2 : s.records.foldl nmR (atF f (nameT s.name) [] 120) = f2
 generalize hf3 : s.services.foldl nmV f2 = f3
 generalize hf4 : s.sagas.foldl nmG f3 = f4
 have HF2 := zD hf2
 have HF3 := zD hf3
 have HF4 := zD hf4
 clear hf2 hf3 hf4
 go_enter Tryz.func26, Tryz.ntmps26
 go_wp2_with fail
 generalize ((w.alloc (.cells (sV s ra sa ga rv sv gv) 26)).alloc (.cells #[.pointer (some ⟨w0.heap.size, 0, none⟩)] 100)) = wB at *
 have HB := zD (Below.refl wB.heap.size wB).drew
 have HC := zD (fun W (X : Below wB.heap.size wB W) => show W.cell? ⟨w.heap.size + 1, 0, none⟩ = some (.pointer (some ⟨w0.heap.size, 0, none⟩)) ∧ W.cell? ⟨w.heap.size, 0, none⟩ = some (sT s.name) from ⟨by simp [World.cell?, HP.out W (Aw.below X)], by simp [World.cell?, HX.out W (Aw.below X)]⟩)
 have HN1 := zD (fun W (X : Below wB.heap.size wB W) => tname_any W (HK.out _ (HF0.out.after X).nb.bel) (bT s.name) (by rw [bT_size]; have := HM.out.nm; omega))
 have HQ1 := zD (show nameT (bT s.name).data.toList = nameT s.name from rfl)
 have HA1 := zD (fun W (X : Below wB.heap.size wB W) => at_z w0 W f (HF0.out.after X).nb (nameT s.name) [] 120 120 rfl ⟨#[]⟩ rfl)
 obtain ⟨e0, e1⟩ := HC.out wB zl
 generalize nameT s.name = R at *
 go_region_held3 (fun w' => w'.cell? ⟨w.heap.size + 1, 0, none⟩ = some (.pointer (some ⟨w0.heap.size, 0, none⟩)) ∧ w'.cell? ⟨w.heap.size, 0, none⟩ = some (sT s.name))
  (first | exact HC.out _ HB.out | exact HC.out _ hb1 | assumption | exact hs3)
  (first
   | (go_at_call 52; ((with_reducible refine (HN1.out _ HB.out).mono ?_); rintro e w2 ⟨rfl, hb⟩; have hb1 := HB.out.trans (hb.mono HB.out.size); rw [HQ1.out]))
   | (go_at_call 51; ((with_reducible refine (HA1.out _ hb1).mono ?_); rintro e w3 ⟨rfl, hf3⟩; have hs3 := show w3.cell? ⟨w.heap.size + 1, 0, none⟩ = some (.pointer (some ⟨w0.heap.size, 0, none⟩)) ∧ w3.cell? ⟨w.heap.size, 0, none⟩ = some (sT s.name) from ⟨by simp [World.cell?, HP.out w3 ((Aw.below hb1).trans hf3.aw)], by simp [World.cell?, HX.out w3 ((Aw.below hb1).trans hf3.aw)]⟩)))
 have hf1 := (HF0.out.after hb1).step hf3
 have HFa := zD hf1
 clear hf1 hf3 hb1 hb HN1 HQ1 HA1 HB HC e0 e1 hs3
 rw [show atF f R [] 120 = atF f R [] 120 from rfl] at HFa
 generalize atF f R [] 120 = f1 at *
 have hbx := HX.out w3 HFa.out.aw
 have cbx : w3.cell? ⟨w.heap.size, 1, none⟩ = some (.slice ra s.records.length rv) := by simp [World.cell?, hbx]
 clear hbx
 go_wp2_with fail
 go_loopw [24] (fun vi wr => ∃ k : Nat, k ≤ s.records.length ∧ vi = iV (k : Nat) ∧ Hid (FQ w0 wB wr ((s.records.take k).foldl nmR f1))) (fun vi _ => s.records.length - (intOf vi).toNat)
 case atStart => exact ⟨0, by omega, rfl, zD HFa.out⟩
 case round =>
  clear HFa cbx; obtain ⟨k, hk, rfl, HFr⟩ := hrel; by_cases hlt : k < s.records.length
  ·obtain ⟨xr, hx1, hx2⟩ := (HS.out w0 zl).rc
   obtain ⟨b, o, fa, fc, ys, rfl, hb, q0, q1, q2, hs, hr⟩ := rec_in HFr.out.nb.bel hx1 hx2 hlt; have HT := zD (take_fold nmR f1 s.records k hlt); have hbd := HM.out.rc _ (List.getElem_mem hlt); have hsz := HFr.out.size; generalize s.records[k] = r at *; clear hx1 hx2; go_wp2_with fail; refine (HO.out _ _ _ (FQ.start (HFr.out.alloc _).nb) (HFr.out.alloc _).aw r.name hbd.1).mono ?_; rintro e wb ⟨rfl, hfb⟩; have cr : wb.cell? ⟨wr.heap.size, 2, none⟩ = some (.slice fa r.fields.length fc) := (hfb.aw.cell (by simp) (by omega) 2).trans ((NewB.mk' wr 74 #[sT r.name, .bool r.choice, .slice fa r.fields.length fc]).cell rfl); have HFb := zD ((HFr.out.alloc _).step hfb); clear hfb; have hn2 := hbd.2.1; generalize hF1 : atF ((s.records.take k).foldl nmR f1) (nameT r.name) r.name 120 = F1 at *; have HF1 := zD hF1; clear hF1; go_wp2_with fail; go_loopw [35] (fun vi wr => ∃ j : Nat, j ≤ r.fields.length ∧ vi = iV (j : Nat) ∧ Hid (FQ w0 wb wr ((r.fields.take j).foldl nmF F1))) (fun vi _ => r.fields.length - (intOf vi).toNat)
   case atStart => exact ⟨0, by omega, rfl, zD (FQ.start HFb.out.nb)⟩
   case round =>
    obtain ⟨j, hj, rfl, HFi⟩ := hrel; rename_i wi; by_cases hlt2 : j < r.fields.length
    ·obtain ⟨b2, o2, ga2, gc2, rfl, hb2, p0, p1, hs2⟩ := fld_in HFi.out.nb.bel hs hr hlt2
     have HT2 := zD (take_fold nmF F1 r.fields j hlt2); have hbd2 := hbd.2.2 _ (List.getElem_mem hlt2); have hsz2 := HFi.out.size; generalize r.fields[j] = x at *; go_wp2_with fail; refine (HO.out _ _ _ (FQ.start (HFi.out.alloc _).nb) ((HFb.out.step HFi.out).alloc _).aw x.name hbd2.1).mono ?_; rintro e wc ⟨rfl, hfc⟩; have HFc := zD ((HFi.out.alloc _).step hfc); clear hfc; go_wp2_with fail; exact ⟨⟨j + 1, by omega, by go_num, zD (by rw [HT2.out]; exact HFc.out)⟩, by simp [intOf]; omega⟩
    have HFj := zD (HFb.out.step HFi.out); rw [take_all _ _ _ _ hlt2] at HFj; go_wp2_with fail; exact ⟨⟨k + 1, by omega, by go_num, zD (by rw [HT.out]; show FQ w0 wB _ (List.foldl nmF (atF _ (nameT r.name) r.name 120) r.fields); rw [HF1.out]; exact HFj.out)⟩, by simp [intOf]; omega⟩
  have HFz := zD (show FQ w0 wB wr f2 from by have h := HFr.out; rw [take_all _ _ _ _ hlt, HF2.out] at h; exact h); clear HFr; have hbx := HX.out wr HFz.out.aw; have cbx : wr.cell? ⟨w.heap.size, 2, none⟩ = some (.slice sa s.services.length sv) := by simp [World.cell?, hbx]
  clear hbx; go_wp2_with fail; go_loopw [48] (fun vi wr => ∃ k : Nat, k ≤ s.services.length ∧ vi = iV (k : Nat) ∧ Hid (FQ w0 wB wr ((s.services.take k).foldl nmV f2))) (fun vi _ => s.services.length - (intOf vi).toNat)
  case atStart => exact ⟨0, by omega, rfl, zD HFz.out⟩
  case round =>
   clear HFz cbx; obtain ⟨k, hk, rfl, HFr⟩ := hrel; by_cases hlt : k < s.services.length
   ·obtain ⟨xr, hx1, hx2⟩ := (HS.out w0 zl).sv
    obtain ⟨b, o, fa, fc, rfl, hb, q0, q1, hs⟩ := svc_in HFr.out.nb.bel hx1 hx2 hlt; have HT := zD (take_fold nmV f2 s.services k hlt); have hbd := HM.out.sv _ (List.getElem_mem hlt); have hsz := HFr.out.size; generalize s.services[k] = r at *; clear hx1 hx2; go_wp2_with fail; refine (HO.out _ _ _ (FQ.start (HFr.out.alloc _).nb) (HFr.out.alloc _).aw r.name hbd.1).mono ?_; rintro e wb ⟨rfl, hfb⟩; have cr : wb.cell? ⟨wr.heap.size, 1, none⟩ = some (.slice fa r.methods.length fc) := (hfb.aw.cell (by simp) (by omega) 1).trans ((NewB.mk' wr 112 #[sT r.name, .slice fa r.methods.length fc]).cell rfl); have HFb := zD ((HFr.out.alloc _).step hfb); clear hfb; have hn2 := hbd.2.1; generalize hF1 : atF ((s.services.take k).foldl nmV f2) (nameT r.name) r.name 120 = F1 at *; have HF1 := zD hF1; clear hF1; go_wp2_with fail; go_loopw [59] (fun vi wr => ∃ j : Nat, j ≤ r.methods.length ∧ vi = iV (j : Nat) ∧ Hid (FQ w0 wb wr ((r.methods.take j).foldl nmM F1))) (fun vi _ => r.methods.length - (intOf vi).toNat)
    case atStart => exact ⟨0, by omega, rfl, zD (FQ.start HFb.out.nb)⟩
    case round =>
     obtain ⟨j, hj, rfl, HFi⟩ := hrel; rename_i wi; by_cases hlt2 : j < r.methods.length
     ·obtain ⟨b2, o2, rfl, hb2, p0, p1, p2, p3, p4⟩ := mth_in HFi.out.nb.bel hs hlt2
      have HT2 := zD (take_fold nmM F1 r.methods j hlt2); have hbd2 := hbd.2.2 _ (List.getElem_mem hlt2); have hsz2 := HFi.out.size; generalize r.methods[j] = x at *; go_wp2_with fail; refine (HO.out _ _ _ (FQ.start (HFi.out.alloc _).nb) ((HFb.out.step HFi.out).alloc _).aw x.name hbd2.1).mono ?_; rintro e wc ⟨rfl, hfc⟩; have HFc := zD ((HFi.out.alloc _).step hfc); clear hfc; go_wp2_with fail; exact ⟨⟨j + 1, by omega, by go_num, zD (by rw [HT2.out]; exact HFc.out)⟩, by simp [intOf]; omega⟩
     have HFj := zD (HFb.out.step HFi.out); rw [take_all _ _ _ _ hlt2] at HFj; go_wp2_with fail; exact ⟨⟨k + 1, by omega, by go_num, zD (by rw [HT.out]; show FQ w0 wB _ (List.foldl nmM (atF _ (nameT r.name) r.name 120) r.methods); rw [HF1.out]; exact HFj.out)⟩, by simp [intOf]; omega⟩
   have HFz := zD (show FQ w0 wB wr f3 from by have h := HFr.out; rw [take_all _ _ _ _ hlt, HF3.out] at h; exact h); clear HFr; have hbx := HX.out wr HFz.out.aw; have cbx : wr.cell? ⟨w.heap.size, 3, none⟩ = some (.slice ga s.sagas.length gv) := by simp [World.cell?, hbx]
   clear hbx; go_wp2_with fail; go_loopw [72] (fun vi wr => ∃ k : Nat, k ≤ s.sagas.length ∧ vi = iV (k : Nat) ∧ Hid (FQ w0 wB wr ((s.sagas.take k).foldl nmG f3))) (fun vi _ => s.sagas.length - (intOf vi).toNat)
   case atStart => exact ⟨0, by omega, rfl, zD HFz.out⟩
   case round =>
    clear HFz cbx; obtain ⟨k, hk, rfl, HFr⟩ := hrel; by_cases hlt : k < s.sagas.length
    ·obtain ⟨xr, hx1, hx2⟩ := (HS.out w0 zl).sg
     obtain ⟨b, o, fa, fc, rfl, hb, q0, q1, q2, hs⟩ := sga_in HFr.out.nb.bel hx1 hx2 hlt; have HT := zD (take_fold nmG f3 s.sagas k hlt); have hbd := HM.out.sg _ (List.getElem_mem hlt); have hsz := HFr.out.size; generalize s.sagas[k] = r at *; clear hx1 hx2; go_wp2_with fail; refine (HO.out _ _ _ (FQ.start (HFr.out.alloc _).nb) (HFr.out.alloc _).aw r.name hbd.1).mono ?_; rintro e wb ⟨rfl, hfb⟩; have HFb := zD ((HFr.out.alloc _).step hfb); clear hfb; go_wp2_with fail; exact ⟨⟨k + 1, by omega, by go_num, zD (by rw [HT.out]; exact HFb.out)⟩, by simp [intOf]; omega⟩
    have HFz := zD (show FQ w0 wB wr f4 from by have h := HFr.out; rw [take_all _ _ _ _ hlt, HF4.out] at h; exact h); clear HFr; go_wp2_with fail; go_end0; exact ⟨rfl, HE.out _ _ HFz.out⟩
def svcOf (L : List Svc) (x : Tx) : Option Svc := L.find? (fun v => decide (v.name = x))
def mthOf (s : Sch) (a b : Tx) : Option Mth := (svcOf s.services a).bind (fun v => v.methods.find? (fun m => decide (m.name = b)))
def mOr (m : Option Mth) : Mth := m.getD ⟨[], [], 0, [], []⟩
def mV (m : Mth) : Array Value := #[sT m.name, sT m.arg, .int .u8 (m.result : Nat), sT m.effect, sT m.undo]
theorem find_here {α : Type} {p : α → Bool} {L : List α} {k : Nat} (hk : k < L.length) (h : p L[k] = true) : (L.drop k).find? p = some L[k] := by
 rw [List.drop_eq_getElem_cons hk, List.find?_cons_of_pos h]
theorem find_next {α : Type} {p : α → Bool} {L : List α} {k : Nat} (hk : k < L.length) (h : ¬ p L[k] = true) : (L.drop k).find? p = (L.drop (k + 1)).find? p := by
 rw [List.drop_eq_getElem_cons hk, List.find?_cons_of_neg h]
theorem find_end {α : Type} {p : α → Bool} {L : List α} {k : Nat} (hk : ¬ k < L.length) : (L.drop k).find? p = none := by
 rw [List.drop_of_length_le (by omega)]; rfl
abbrev zero5 : Array Value := #[eS, eS, .int .u8 0, eS, eS]
theorem laid5_cells {w : World} {b : Nat} {x0 x1 x2 x3 x4 : Value} {T : TypeId} (h : w.heap[b]? = some (.cells #[x0, x1, x2, x3, x4] T (0, 0))) :
  w.cell? ⟨b, 0, none⟩ = some x0 ∧ (∀ X, (w.setCell ⟨b, 0, none⟩ X).cell? ⟨b, 1, none⟩ = some x1) ∧ (∀ X Y, ((w.setCell ⟨b, 0, none⟩ X).setCell ⟨b, 1, none⟩ Y).cell? ⟨b, 2, none⟩ = some x2) ∧ (∀ X Y Z, (((w.setCell ⟨b, 0, none⟩ X).setCell ⟨b, 1, none⟩ Y).setCell ⟨b, 2, none⟩ Z).cell? ⟨b, 3, none⟩ = some x3) ∧ (∀ X Y Z U, ((((w.setCell ⟨b, 0, none⟩ X).setCell ⟨b, 1, none⟩ Y).setCell ⟨b, 2, none⟩ Z).setCell ⟨b, 3, none⟩ U).cell? ⟨b, 4, none⟩ = some x4) ∧
  (∀ o, w.frozen? ⟨b, o, none⟩ = false) ∧ (∀ X o, (w.setCell ⟨b, 0, none⟩ X).frozen? ⟨b, o, none⟩ = false) ∧ (∀ X Y o, ((w.setCell ⟨b, 0, none⟩ X).setCell ⟨b, 1, none⟩ Y).frozen? ⟨b, o, none⟩ = false) ∧ (∀ X Y Z o, (((w.setCell ⟨b, 0, none⟩ X).setCell ⟨b, 1, none⟩ Y).setCell ⟨b, 2, none⟩ Z).frozen? ⟨b, o, none⟩ = false) ∧ (∀ X Y Z U o, ((((w.setCell ⟨b, 0, none⟩ X).setCell ⟨b, 1, none⟩ Y).setCell ⟨b, 2, none⟩ Z).setCell ⟨b, 3, none⟩ U).frozen? ⟨b, o, none⟩ = false) := by
 simp [World.cell?, World.frozen?, World.setCell, Array.getElem?_modify, h]
theorem laid5_read {w : World} {b : Nat} {x0 x1 x2 x3 x4 : Value} {T : TypeId} (h : w.heap[b]? = some (.cells #[x0, x1, x2, x3, x4] T (0, 0))) (X Y Z U V : Value) :
  (((((w.setCell ⟨b, 0, none⟩ X).setCell ⟨b, 1, none⟩ Y).setCell ⟨b, 2, none⟩ Z).setCell ⟨b, 3, none⟩ U).setCell ⟨b, 4, none⟩ V).cell? ⟨b, 0, none⟩ = some X ∧ (((((w.setCell ⟨b, 0, none⟩ X).setCell ⟨b, 1, none⟩ Y).setCell ⟨b, 2, none⟩ Z).setCell ⟨b, 3, none⟩ U).setCell ⟨b, 4, none⟩ V).cell? ⟨b, 1, none⟩ = some Y ∧ (((((w.setCell ⟨b, 0, none⟩ X).setCell ⟨b, 1, none⟩ Y).setCell ⟨b, 2, none⟩ Z).setCell ⟨b, 3, none⟩ U).setCell ⟨b, 4, none⟩ V).cell? ⟨b, 2, none⟩ = some Z ∧ (((((w.setCell ⟨b, 0, none⟩ X).setCell ⟨b, 1, none⟩ Y).setCell ⟨b, 2, none⟩ Z).setCell ⟨b, 3, none⟩ U).setCell ⟨b, 4, none⟩ V).cell? ⟨b, 3, none⟩ = some U ∧ (((((w.setCell ⟨b, 0, none⟩ X).setCell ⟨b, 1, none⟩ Y).setCell ⟨b, 2, none⟩ Z).setCell ⟨b, 3, none⟩ U).setCell ⟨b, 4, none⟩ V).cell? ⟨b, 4, none⟩ = some V := by
 simp [World.cell?, World.setCell, Array.getElem?_modify, h]
theorem laid5_below {w0 w : World} (hb : Below w0.heap.size w0 w) {b : Nat} (h : w0.heap.size ≤ b) (X Y Z U V : Value) : Below w0.heap.size w0 (((((w.setCell ⟨b, 0, none⟩ X).setCell ⟨b, 1, none⟩ Y).setCell ⟨b, 2, none⟩ Z).setCell ⟨b, 3, none⟩ U).setCell ⟨b, 4, none⟩ V) :=
 ((((hb.setCell (p := ⟨b, 0, none⟩) h X).setCell (p := ⟨b, 1, none⟩) h Y).setCell (p := ⟨b, 2, none⟩) h Z).setCell (p := ⟨b, 3, none⟩) h U).setCell (p := ⟨b, 4, none⟩) h V
theorem method_any (w : World) (s : Sch) (ur us ug : Value) (hS : SchR w s ur us ug) (hM : Small s) (a b : Tx) :
  Calls Tryz.prog 45 #[.agg #[sT s.name, ur, us, ug], sT a, sT b] w fun x w' => x = .returned (.tuple #[.agg (mV (mOr (mthOf s a b))), .bool (mthOf s a b).isSome]) ∧ Below w.heap.size w w' := by
 have HM := zD hM
 obtain ⟨⟨ra, rv, rfl⟩, ⟨sa, sv, rfl⟩, ⟨ga, gv, rfl⟩⟩ := hS.shape
 have HS := zD hS
 have hn2 := hM.ns
 have HQ := zD (show mthOf s a b = ((s.services.drop 0).find? (fun v => decide (v.name = a))).bind (fun v => v.methods.find? (fun m => decide (m.name = b))) from rfl)
 generalize mthOf s a b = Q at *
 have HB0 := zD (show Below w.heap.size w ((w.alloc (.cells (sV s ra sa ga rv sv gv) 26)).alloc (.cells zero5 92)) from ((Below.refl _ w).alloc zn _).alloc (by simp) _)
 have hX0 : ((w.alloc (.cells (sV s ra sa ga rv sv gv) 26)).alloc (.cells zero5 92)).heap[w.heap.size]? = some (.cells (sV s ra sa ga rv sv gv) 26 (0, 0)) := (Below.heap_alloc _ _ _ (by simp)).trans (zw _ _)
 have hY0 : ((w.alloc (.cells (sV s ra sa ga rv sv gv) 26)).alloc (.cells zero5 92)).heap[w.heap.size + 1]? = some (.cells zero5 92 (0, 0)) := heap_alloc_new2 _ _ _
 have hZ0 : ((w.alloc (.cells (sV s ra sa ga rv sv gv) 26)).alloc (.cells zero5 92)).heap.size = w.heap.size + 2 := by simp
 go_enter Tryz.func45, Tryz.ntmps45
 go_wp2_with fail
 generalize ((w.alloc (.cells (sV s ra sa ga rv sv gv) 26)).alloc (.cells zero5 92)) = wM at *
 have HX := zD (fun (W : World) (h : Below wM.heap.size wM W) => show W.heap[w.heap.size]? = some (.cells (sV s ra sa ga rv sv gv) 26 (0, 0)) ∧ W.heap[w.heap.size + 1]? = some (.cells zero5 92 (0, 0)) from ⟨(h.block _ (by omega)).trans hX0, (h.block _ (by omega)).trans hY0⟩)
 clear hX0 hY0 hS hM
 go_loopw [15] (fun vi wr => ∃ k : Nat, k ≤ s.services.length ∧ vi = iV (k : Nat) ∧ Hid (Below wM.heap.size wM wr) ∧ Hid (Q = ((s.services.drop k).find? (fun v => decide (v.name = a))).bind (fun v => v.methods.find? (fun m => decide (m.name = b))))) (fun vi _ => s.services.length - (intOf vi).toNat)
 case atStart => exact ⟨0, by omega, rfl, zl, HQ⟩
 case round =>
  clear HQ; obtain ⟨k, hk, rfl, HBr, HQ⟩ := hrel; have HBw := zD (HB0.out.trans (HBr.out.mono (by omega))); have hszr := HBr.out.size; by_cases hlt : k < s.services.length
  ·obtain ⟨xr, hx1, hx2⟩ := HS.out.sv
   obtain ⟨b', o, fa, fc, rfl, hb, q0, q1, hs⟩ := svc_in HBw.out hx1 hx2 hlt; have HH := zD (fun (h : s.services[k].name = a) => find_here (p := fun v : Svc => decide (v.name = a)) hlt (zt h)); have HN := zD (fun (h : ¬ s.services[k].name = a) => find_next (p := fun v : Svc => decide (v.name = a)) hlt (by simpa using h)); have hbd := HM.out.sv _ (List.getElem_mem hlt); have e_n := bT_same (s.services[k].name) a; generalize s.services[k] = r at *; clear hx1 hx2; by_cases hn : r.name = a
   ·rw [zt hn] at e_n
    have f_n : (!((bT r.name).toList == (bT a).toList)) = false := by rw [e_n]; rfl
    have HQ2 := zD (show Q = (r.methods.drop 0).find? (fun m => decide (m.name = b)) from by rw [HQ.out, HH.out hn]; rfl); have hm := hbd.2.1; clear HH HN HQ hn; go_wp2_with fail; generalize hwi : wr.alloc (.cells #[sT r.name, .slice fa r.methods.length fc] 112) = wi; have HBi := zD (show Below wM.heap.size wM wi from hwi ▸ HBr.out.alloc HBr.out.size _); have hszi := HBi.out.size; clear hwi; go_loopw [26] (fun vj wj => ∃ j : Nat, j ≤ r.methods.length ∧ vj = iV (j : Nat) ∧ Hid (Below wi.heap.size wi wj) ∧ Hid (Q = (r.methods.drop j).find? (fun m => decide (m.name = b)))) (fun vj _ => r.methods.length - (intOf vj).toNat)
    case atStart => exact ⟨0, by omega, rfl, zl, HQ2⟩
    case round =>
     clear HQ2; obtain ⟨j, hj, rfl, HBj, HQ⟩ := hrel; have HBm := zD (HBi.out.trans (HBj.out.mono hszi)); have HBwj := zD (HB0.out.trans (HBm.out.mono (by omega))); have hszj := HBj.out.size; by_cases hlt2 : j < r.methods.length
     ·obtain ⟨b2, o2, rfl, hb2, p0, p1, p2, p3, p4⟩ := mth_in HBwj.out hs hlt2
      have HH := zD (fun (h : r.methods[j].name = b) => find_here (p := fun v : Mth => decide (v.name = b)) hlt2 (zt h)); have HN := zD (fun (h : ¬ r.methods[j].name = b) => find_next (p := fun v : Mth => decide (v.name = b)) hlt2 (by simpa using h)); have e_m := bT_same (r.methods[j].name) b; generalize r.methods[j] = x at *; by_cases hnm : x.name = b
      ·rw [zt hnm] at e_m
       have HQ2 := zD (HQ.out.trans (HH.out hnm)); obtain rfl := HQ2.out; clear HH HN HQ hnm HQ2; have HY := zD (HX.out (wr.alloc (.cells (mV x) 92)) (HBm.out.alloc HBm.out.size _)).2; unfold mV at HY; obtain ⟨l0, l1, l2, l3, l4, g0, g1, g2, g3, g4⟩ := laid5_cells HY.out; obtain ⟨m0, m1, m2, m3, m4⟩ := laid5_read HY.out (sT x.name) (sT x.arg) (.int .u8 (x.result : Nat)) (sT x.effect) (sT x.undo); go_wp2_with fail; exact bodyPost_ret (v := .tuple #[.agg #[sT x.name, sT x.arg, .int .u8 (x.result : Nat), sT x.effect, sT x.undo], .bool true]) (by simp [results, Tryz.results45, go_sem, m0, m1, m2, m3, m4]) rfl ⟨rfl, laid5_below (HBwj.out.alloc HBwj.out.size _) (by omega) _ _ _ _ _⟩
      ·rw [zf hnm] at e_m
       have HQ2 := zD (HQ.out.trans (HN.out hnm)); clear HH HN HQ hnm; go_wp2_with fail; exact ⟨⟨j + 1, by omega, by go_num, HBj.out.alloc HBj.out.size _, HQ2⟩, by simp [intOf]; omega⟩
     have HQ2 := zD (HQ.out.trans (find_end hlt2)); obtain rfl := HQ2.out; clear HQ HQ2; have HY := zD (HX.out wr HBm.out).2; obtain ⟨l0, l1, l2, l3, l4, g0, g1, g2, g3, g4⟩ := laid5_cells HY.out; obtain ⟨m0, m1, m2, m3, m4⟩ := laid5_read HY.out (eS) (eS) (.int .u8 0) (eS) (eS); go_wp2_with fail; exact bodyPost_ret (v := .tuple #[.agg #[eS, eS, .int .u8 0, eS, eS], .bool false]) (by simp [results, Tryz.results45, go_sem, m0, m1, m2, m3, m4]) rfl ⟨rfl, laid5_below HBwj.out (by omega) _ _ _ _ _⟩
   ·rw [zf hn] at e_n
    have f_n : (!((bT r.name).toList == (bT a).toList)) = true := by rw [e_n]; rfl
    have HQ2 := zD (show Q = ((s.services.drop (k + 1)).find? (fun v => decide (v.name = a))).bind (fun v => v.methods.find? (fun m => decide (m.name = b))) from by rw [HQ.out, HN.out hn]); clear HH HN HQ hn; go_wp2_with fail; exact ⟨⟨k + 1, by omega, by go_num, HBr.out.alloc HBr.out.size _, HQ2⟩, by simp [intOf]; omega⟩
  have HQ2 := zD (show Q = none from by rw [HQ.out, find_end hlt]; rfl); obtain rfl := HQ2.out; clear HQ HQ2; have HY := zD (HX.out wr HBr.out).2; obtain ⟨l0, l1, l2, l3, l4, g0, g1, g2, g3, g4⟩ := laid5_cells HY.out; obtain ⟨m0, m1, m2, m3, m4⟩ := laid5_read HY.out (eS) (eS) (.int .u8 0) (eS) (eS); go_wp2_with fail; exact bodyPost_ret (v := .tuple #[.agg #[eS, eS, .int .u8 0, eS, eS], .bool false]) (by simp [results, Tryz.results45, go_sem, m0, m1, m2, m3, m4]) rfl ⟨rfl, laid5_below HBw.out (by omega) _ _ _ _ _⟩
theorem bl1 (w : World) (x : Obj) : Below w.heap.size w (w.alloc x) := zl.alloc zn _
theorem cloneField_any (w : World) (v : Value) (n : Nat) (xs : List Value) (h : Slc w 2 v n xs) (h1 : ∀ u ∈ xs, u.oneCell' = true) (hn : n ≤ 1000000) : Calls Tryz.prog 130 #[v] w fun e w' => ∃ u, e = .returned u ∧ w'.ownsRow w.heap.size 77 2 u n xs ∧ Below w.heap.size w w' := by
 obtain ⟨⟨a, c, rfl, q1, q2, q3, q4⟩, q5⟩ := h
 have heq := fun W => Lib.run_eql_slice_nil (P := Tryz.prog) W 72 77 a n c 0 0 Tryz.underlying72
 have HQ4 := zD q4
 have HQ3 := zD q3
 have HQ5 := zD q5
 have H1 := zD h1
 clear q3 q4 q5 h1
 cases a with
 | none =>
  obtain rfl : c = 0 := HQ3.out rfl; obtain rfl : n = 0 := by omega
  obtain rfl : xs = [] := List.eq_nil_of_length_eq_zero (by have := HQ5.out; omega); have heq' : ∀ W : World, (binOp .eql 72 (.slice none 0 0) (.slice none 0 0)).run Tryz.prog W = .ok (.bool true) W := heq; clear heq; go_enter Tryz.func130, Tryz.ntmps130; go_wp2_with fail; exact zR (v := .slice none 0 0) ⟨_, rfl, World.ownsRow_nil _ _ _ _, zl⟩
 | some ad =>
  have heq' : ∀ W : World, (binOp .eql 72 (.slice (some ad) n c) (.slice none 0 0)).run Tryz.prog W = .ok (.bool false) W := heq; clear heq
  have HC := zD (show ∀ j u, xs[j]? = some u → w.cell? (ad.add j) = some u ∧ (ad.add j).block < w.heap.size from fun j u hu => by
   have h0 : 0 < n := by
    rcases Nat.eq_zero_or_pos n with e | e
    ·have := HQ5.out
     rw [e, Nat.zero_mul] at this; rw [List.eq_nil_of_length_eq_zero this] at hu; cases hu
    ·exact e
   obtain ⟨b, o, e, hb, hc⟩ := HQ4.out h0; cases e
   rw [Addr.add_lit]; exact ⟨hc j u hu, hb⟩)
  obtain ⟨i0, hi0, hz0, hz1, hz2⟩ := info_parts info_fld; go_enter Tryz.func130, Tryz.ntmps130
  go_wp2_with (first
   | (at_builtin; refine wpList_append_own _ rfl _ _ 72 rfl w.heap.size 77 i0 (.agg #[eS, .slice none 0 0]) 2 40 Tryz.underlying72 hi0 hz0 hz1 hz2 rfl (by decide) _ 0 [] rfl (World.ownsRow_made w #[] 0 zn (by unfold maxLen; omega) rfl) ad n c xs rfl HQ5.out (fun j u hu => ((bl1 w _).cell (p := ad.add j) (HC.out j u hu).2).trans (HC.out j u hu).1) H1.out (by unfold maxLen; omega) (by omega) (by simp) ?_; intro v' w1 hown1 hgrow _; have HOW := zD hown1; have HGR := zD hgrow)
   | fail)
  have HO := zD (show w1.ownsRow w.heap.size 77 2 v' n xs by have := HOW.out; simpa using this); have HB := zD (show Below w.heap.size w w1 from (bl1 w _).grown HGR.out (by simp) (fun k hk => by injection hk with hk; rw [← hk]; exact zn)); exact zR (v := v') ⟨_, rfl, HO.out, HB.out⟩
theorem cloneSort_any (w : World) (v : Value) (n : Nat) (xs : List Value) (h : Slc w 2 v n xs) (h1 : ∀ u ∈ xs, u.oneCell' = true) (hn : n ≤ 1000000) : Calls Tryz.prog 131 #[v] w fun e w' => ∃ u, e = .returned u ∧ w'.ownsRow w.heap.size 79 2 u n xs ∧ Below w.heap.size w w' := by
 obtain ⟨⟨a, c, rfl, q1, q2, q3, q4⟩, q5⟩ := h
 have heq := fun W => Lib.run_eql_slice_nil (P := Tryz.prog) W 75 79 a n c 0 0 Tryz.underlying75
 have HQ4 := zD q4
 have HQ3 := zD q3
 have HQ5 := zD q5
 have H1 := zD h1
 clear q3 q4 q5 h1
 cases a with
 | none =>
  obtain rfl : c = 0 := HQ3.out rfl; obtain rfl : n = 0 := by omega
  obtain rfl : xs = [] := List.eq_nil_of_length_eq_zero (by have := HQ5.out; omega); have heq' : ∀ W : World, (binOp .eql 75 (.slice none 0 0) (.slice none 0 0)).run Tryz.prog W = .ok (.bool true) W := heq; clear heq; go_enter Tryz.func131, Tryz.ntmps131; go_wp2_with fail; exact zR (v := .slice none 0 0) ⟨_, rfl, World.ownsRow_nil _ _ _ _, zl⟩
 | some ad =>
  have heq' : ∀ W : World, (binOp .eql 75 (.slice (some ad) n c) (.slice none 0 0)).run Tryz.prog W = .ok (.bool false) W := heq; clear heq
  have HC := zD (show ∀ j u, xs[j]? = some u → w.cell? (ad.add j) = some u ∧ (ad.add j).block < w.heap.size from fun j u hu => by
   have h0 : 0 < n := by
    rcases Nat.eq_zero_or_pos n with e | e
    ·have := HQ5.out
     rw [e, Nat.zero_mul] at this; rw [List.eq_nil_of_length_eq_zero this] at hu; cases hu
    ·exact e
   obtain ⟨b, o, e, hb, hc⟩ := HQ4.out h0; cases e
   rw [Addr.add_lit]; exact ⟨hc j u hu, hb⟩)
  obtain ⟨i0, hi0, hz0, hz1, hz2⟩ := info_parts info_srt; go_enter Tryz.func131, Tryz.ntmps131
  go_wp2_with (first
   | (at_builtin; refine wpList_append_own _ rfl _ _ 75 rfl w.heap.size 79 i0 (.agg #[.int .u8 0, eS]) 2 24 Tryz.underlying75 hi0 hz0 hz1 hz2 rfl (by decide) _ 0 [] rfl (World.ownsRow_made w #[] 0 zn (by unfold maxLen; omega) rfl) ad n c xs rfl HQ5.out (fun j u hu => ((bl1 w _).cell (p := ad.add j) (HC.out j u hu).2).trans (HC.out j u hu).1) H1.out (by unfold maxLen; omega) (by omega) (by simp) ?_; intro v' w1 hown1 hgrow _; have HOW := zD hown1; have HGR := zD hgrow)
   | fail)
  have HO := zD (show w1.ownsRow w.heap.size 79 2 v' n xs by have := HOW.out; simpa using this); have HB := zD (show Below w.heap.size w w1 from (bl1 w _).grown HGR.out (by simp) (fun k hk => by injection hk with hk; rw [← hk]; exact zn)); exact zR (v := v') ⟨_, rfl, HO.out, HB.out⟩
theorem cloneStep_any (w : World) (v : Value) (n : Nat) (xs : List Value) (h : Slc w 3 v n xs) (h1 : ∀ u ∈ xs, u.oneCell' = true) (hn : n ≤ 1000000) : Calls Tryz.prog 46 #[v] w fun e w' => ∃ u, e = .returned u ∧ w'.ownsRow w.heap.size 108 3 u n xs ∧ Below w.heap.size w w' := by
 obtain ⟨⟨a, c, rfl, q1, q2, q3, q4⟩, q5⟩ := h
 have heq := fun W => Lib.run_eql_slice_nil (P := Tryz.prog) W 65 108 a n c 0 0 Tryz.underlying65
 have HQ4 := zD q4
 have HQ3 := zD q3
 have HQ5 := zD q5
 have H1 := zD h1
 clear q3 q4 q5 h1
 cases a with
 | none =>
  obtain rfl : c = 0 := HQ3.out rfl; obtain rfl : n = 0 := by omega
  obtain rfl : xs = [] := List.eq_nil_of_length_eq_zero (by have := HQ5.out; omega); have heq' : ∀ W : World, (binOp .eql 65 (.slice none 0 0) (.slice none 0 0)).run Tryz.prog W = .ok (.bool true) W := heq; clear heq; go_enter Tryz.func46, Tryz.ntmps46; go_wp2_with fail; exact zR (v := .slice none 0 0) ⟨_, rfl, World.ownsRow_nil _ _ _ _, zl⟩
 | some ad =>
  have heq' : ∀ W : World, (binOp .eql 65 (.slice (some ad) n c) (.slice none 0 0)).run Tryz.prog W = .ok (.bool false) W := heq; clear heq
  have HC := zD (show ∀ j u, xs[j]? = some u → w.cell? (ad.add j) = some u ∧ (ad.add j).block < w.heap.size from fun j u hu => by
   have h0 : 0 < n := by
    rcases Nat.eq_zero_or_pos n with e | e
    ·have := HQ5.out
     rw [e, Nat.zero_mul] at this; rw [List.eq_nil_of_length_eq_zero this] at hu; cases hu
    ·exact e
   obtain ⟨b, o, e, hb, hc⟩ := HQ4.out h0; cases e
   rw [Addr.add_lit]; exact ⟨hc j u hu, hb⟩)
  obtain ⟨i0, hi0, hz0, hz1, hz2⟩ := info_parts info_stp; go_enter Tryz.func46, Tryz.ntmps46
  go_wp2_with (first
   | (at_builtin; refine wpList_append_own _ rfl _ _ 65 rfl w.heap.size 108 i0 (.agg #[eS, eS, iV 0]) 3 40 Tryz.underlying65 hi0 hz0 hz1 hz2 rfl (by decide) _ 0 [] rfl (World.ownsRow_made w #[] 0 zn (by unfold maxLen; omega) rfl) ad n c xs rfl HQ5.out (fun j u hu => ((bl1 w _).cell (p := ad.add j) (HC.out j u hu).2).trans (HC.out j u hu).1) H1.out (by unfold maxLen; omega) (by omega) (by simp) ?_; intro v' w1 hown1 hgrow _; have HOW := zD hown1; have HGR := zD hgrow)
   | fail)
  have HO := zD (show w1.ownsRow w.heap.size 108 3 v' n xs by have := HOW.out; simpa using this); have HB := zD (show Below w.heap.size w w1 from (bl1 w _).grown HGR.out (by simp) (fun k hk => by injection hk with hk; rw [← hk]; exact zn)); exact zR (v := v') ⟨_, rfl, HO.out, HB.out⟩
end Go.Proofs.YtgoejmheihgpfaaGreatDoor
