/- Lemmas for ModelStays' proof. -/
import Derived.Test.YtgoejmheihgpfaaGreatDoorQu
namespace Go.Proofs.YtgoejmheihgpfaaGreatDoor
set_option maxRecDepth 100000
set_option maxHeartbeats 16000000
open Go.RowKit
def flt0 : Flt := ⟨false, [], 0⟩
def rulesA (s : Sch) : List Flt := [namesA s flt0, countsA s flt0, doublesA s flt0, typesA s flt0, bottomsA s flt0, effectsA s flt0, undosA s flt0, sagasA s flt0, chStepsA s flt0, waysA s flt0]
def checkA (s : Sch) : Tx × Nat := match (rulesA s).find? (·.is) with
 | some f => (f.wh, f.e)
 | none => ([], 0)
theorem checkA_at {s : Sch} {k : Nat} {f : Flt} (hf : (rulesA s)[k]? = some f) (h : ∀ j, j < k → ∀ g, (rulesA s)[j]? = some g → g.is = false) (hi : f.is = true) : checkA s = (f.wh, f.e) := by
 unfold checkA
 have : (rulesA s).find? (·.is) = some f := by
  have hk : k < (rulesA s).length := (List.getElem?_eq_some_iff.1 hf).1; rw [List.find?_eq_some_iff_getElem]; refine ⟨hi, k, hk, (List.getElem?_eq_some_iff.1 hf).2, fun j hj => ?_⟩; rw [h j hj _ (List.getElem?_eq_getElem (by omega))]; rfl
 rw [this]
theorem checkA_none {s : Sch} (h : ∀ j, j < 10 → ∀ g, (rulesA s)[j]? = some g → g.is = false) : checkA s = ([], 0) := by
 unfold checkA
 have : (rulesA s).find? (·.is) = none := by
  rw [List.find?_eq_none]; intro x hx; obtain ⟨j, hj, rfl⟩ := List.getElem_of_mem hx; rw [h j (by have : (rulesA s).length = 10 := rfl; omega) _ (List.getElem?_eq_getElem hj)]; simp
 rw [this]
def Clear (s : Sch) (k : Nat) : Prop := ∀ j, j < k → ∀ g, (rulesA s)[j]? = some g → g.is = false
theorem Clear.next {s : Sch} {k : Nat} {f : Flt} (h : Clear s k) (hf : (rulesA s)[k]? = some f) (hi : f.is = false) : Clear s (k + 1) := fun j hj g hg => by
 by_cases e : j = k
 ·subst e; rw [hf] at hg; obtain rfl := Option.some.inj hg; exact hi
 ·exact h j (by omega) g hg
theorem fs_cells {w0 w1 w : World} {f : Flt} (h : FQ w0 w1 w f) : w.cell? ⟨w0.heap.size, 0, none⟩ = some (.bool f.is) ∧ w.cell? ⟨w0.heap.size, 1, none⟩ = some (sT f.wh) ∧ w.cell? ⟨w0.heap.size, 2, none⟩ = some (iV (f.e : Nat)) := ⟨h.nb.cell rfl, h.nb.cell rfl, h.nb.cell rfl⟩
theorem check_any (w : World) (hK : KwIn w) (s : Sch) (ur us ug : Value) (hS : SchR w s ur us ug) (hM : Small s) :
  Calls Tryz.prog 12 #[.agg #[sT s.name, ur, us, ug]] w fun x w' => x = .returned (.tuple #[sT (checkA s).1, iV ((checkA s).2 : Nat)]) ∧ Below w.heap.size w w' := by
 obtain ⟨⟨ra, rv, rfl⟩, ⟨sa, sv, rfl⟩, ⟨ga, gv, rfl⟩⟩ := hS.shape
 have HR0 := zD (fun (wr : World) (h : Below w.heap.size w wr) => show Calls Tryz.prog 26 #[.agg (sV s ra sa ga rv sv gv), .pointer (some ⟨wr.heap.size, 0, none⟩)] (wr.alloc (.cells #[.bool false, eS, iV 0] 99)) (fun x w' => x = .returned (.tuple #[]) ∧ FQ wr (wr.alloc (.cells #[.bool false, eS, iV 0] 99)) w' (namesA s flt0)) from names_any wr (wr.alloc (.cells #[.bool false, eS, iV 0] 99)) (hK.below h) s _ _ _ (hS.below h) hM flt0 (NewB.mk' wr 99 (fcells flt0)))
 have HQ0 := zD (show (rulesA s)[0]? = some (namesA s flt0) from rfl)
 have HR1 := zD (fun (wr : World) (h : Below w.heap.size w wr) => show Calls Tryz.prog 27 #[.agg (sV s ra sa ga rv sv gv), .pointer (some ⟨wr.heap.size, 0, none⟩)] (wr.alloc (.cells #[.bool false, eS, iV 0] 99)) (fun x w' => x = .returned (.tuple #[]) ∧ FQ wr (wr.alloc (.cells #[.bool false, eS, iV 0] 99)) w' (countsA s flt0)) from counts_any wr (wr.alloc (.cells #[.bool false, eS, iV 0] 99)) s _ _ _ (hS.below h) hM flt0 (NewB.mk' wr 99 (fcells flt0)))
 have HQ1 := zD (show (rulesA s)[1]? = some (countsA s flt0) from rfl)
 have HR2 := zD (fun (wr : World) (h : Below w.heap.size w wr) => show Calls Tryz.prog 28 #[.agg (sV s ra sa ga rv sv gv), .pointer (some ⟨wr.heap.size, 0, none⟩)] (wr.alloc (.cells #[.bool false, eS, iV 0] 99)) (fun x w' => x = .returned (.tuple #[]) ∧ FQ wr (wr.alloc (.cells #[.bool false, eS, iV 0] 99)) w' (doublesA s flt0)) from doubles_any wr (wr.alloc (.cells #[.bool false, eS, iV 0] 99)) s _ _ _ (hS.below h) hM flt0 (NewB.mk' wr 99 (fcells flt0)))
 have HQ2 := zD (show (rulesA s)[2]? = some (doublesA s flt0) from rfl)
 have HR3 := zD (fun (wr : World) (h : Below w.heap.size w wr) => show Calls Tryz.prog 29 #[.agg (sV s ra sa ga rv sv gv), .pointer (some ⟨wr.heap.size, 0, none⟩)] (wr.alloc (.cells #[.bool false, eS, iV 0] 99)) (fun x w' => x = .returned (.tuple #[]) ∧ FQ wr (wr.alloc (.cells #[.bool false, eS, iV 0] 99)) w' (typesA s flt0)) from types_any wr (wr.alloc (.cells #[.bool false, eS, iV 0] 99)) s _ _ _ (hS.below h) hM flt0 (NewB.mk' wr 99 (fcells flt0)))
 have HQ3 := zD (show (rulesA s)[3]? = some (typesA s flt0) from rfl)
 have HR4 := zD (fun (wr : World) (h : Below w.heap.size w wr) => show Calls Tryz.prog 30 #[.agg (sV s ra sa ga rv sv gv), .pointer (some ⟨wr.heap.size, 0, none⟩)] (wr.alloc (.cells #[.bool false, eS, iV 0] 99)) (fun x w' => x = .returned (.tuple #[]) ∧ FQ wr (wr.alloc (.cells #[.bool false, eS, iV 0] 99)) w' (bottomsA s flt0)) from bottoms_any wr (wr.alloc (.cells #[.bool false, eS, iV 0] 99)) s _ _ _ (hS.below h) hM flt0 (NewB.mk' wr 99 (fcells flt0)))
 have HQ4 := zD (show (rulesA s)[4]? = some (bottomsA s flt0) from rfl)
 have HR5 := zD (fun (wr : World) (h : Below w.heap.size w wr) => show Calls Tryz.prog 31 #[.agg (sV s ra sa ga rv sv gv), .pointer (some ⟨wr.heap.size, 0, none⟩)] (wr.alloc (.cells #[.bool false, eS, iV 0] 99)) (fun x w' => x = .returned (.tuple #[]) ∧ FQ wr (wr.alloc (.cells #[.bool false, eS, iV 0] 99)) w' (effectsA s flt0)) from effects_any wr (wr.alloc (.cells #[.bool false, eS, iV 0] 99)) s _ _ _ (hS.below h) hM flt0 (NewB.mk' wr 99 (fcells flt0)))
 have HQ5 := zD (show (rulesA s)[5]? = some (effectsA s flt0) from rfl)
 have HR6 := zD (fun (wr : World) (h : Below w.heap.size w wr) => show Calls Tryz.prog 32 #[.agg (sV s ra sa ga rv sv gv), .pointer (some ⟨wr.heap.size, 0, none⟩)] (wr.alloc (.cells #[.bool false, eS, iV 0] 99)) (fun x w' => x = .returned (.tuple #[]) ∧ FQ wr (wr.alloc (.cells #[.bool false, eS, iV 0] 99)) w' (undosA s flt0)) from undos_any wr (wr.alloc (.cells #[.bool false, eS, iV 0] 99)) s _ _ _ (hS.below h) hM flt0 (NewB.mk' wr 99 (fcells flt0)))
 have HQ6 := zD (show (rulesA s)[6]? = some (undosA s flt0) from rfl)
 have HR7 := zD (fun (wr : World) (h : Below w.heap.size w wr) => show Calls Tryz.prog 33 #[.agg (sV s ra sa ga rv sv gv), .pointer (some ⟨wr.heap.size, 0, none⟩)] (wr.alloc (.cells #[.bool false, eS, iV 0] 99)) (fun x w' => x = .returned (.tuple #[]) ∧ FQ wr (wr.alloc (.cells #[.bool false, eS, iV 0] 99)) w' (sagasA s flt0)) from sagas_any wr (wr.alloc (.cells #[.bool false, eS, iV 0] 99)) s _ _ _ (hS.below h) hM flt0 (NewB.mk' wr 99 (fcells flt0)))
 have HQ7 := zD (show (rulesA s)[7]? = some (sagasA s flt0) from rfl)
 have HR8 := zD (fun (wr : World) (h : Below w.heap.size w wr) => show Calls Tryz.prog 34 #[.agg (sV s ra sa ga rv sv gv), .pointer (some ⟨wr.heap.size, 0, none⟩)] (wr.alloc (.cells #[.bool false, eS, iV 0] 99)) (fun x w' => x = .returned (.tuple #[]) ∧ FQ wr (wr.alloc (.cells #[.bool false, eS, iV 0] 99)) w' (chStepsA s flt0)) from chsteps_any wr (wr.alloc (.cells #[.bool false, eS, iV 0] 99)) s _ _ _ (hS.below h) hM flt0 (NewB.mk' wr 99 (fcells flt0)))
 have HQ8 := zD (show (rulesA s)[8]? = some (chStepsA s flt0) from rfl)
 have HR9 := zD (fun (wr : World) (h : Below w.heap.size w wr) => show Calls Tryz.prog 35 #[.agg (sV s ra sa ga rv sv gv), .pointer (some ⟨wr.heap.size, 0, none⟩)] (wr.alloc (.cells #[.bool false, eS, iV 0] 99)) (fun x w' => x = .returned (.tuple #[]) ∧ FQ wr (wr.alloc (.cells #[.bool false, eS, iV 0] 99)) w' (waysA s flt0)) from ways_any wr (wr.alloc (.cells #[.bool false, eS, iV 0] 99)) s _ _ _ (hS.below h) hM flt0 (NewB.mk' wr 99 (fcells flt0)))
 have HQ9 := zD (show (rulesA s)[9]? = some (waysA s flt0) from rfl)
 have HB0 := zD (bl1 w (.cells (sV s ra sa ga rv sv gv) 26))
 have HX := zD (fun (wr : World) (h : Below (w.alloc (.cells (sV s ra sa ga rv sv gv) 26)).heap.size (w.alloc (.cells (sV s ra sa ga rv sv gv) 26)) wr) => show wr.heap[w.heap.size]? = some (.cells (sV s ra sa ga rv sv gv) 26 (0, 0)) from (h.block _ (by simp)).trans (zw _ _))
 have hz0 : (w.alloc (.cells (sV s ra sa ga rv sv gv) 26)).heap.size = w.heap.size + 1 := by simp
 clear hS hM hK
 obtain ⟨C, hC⟩ : ∃ C, C = checkA s := ⟨_, rfl⟩
 rw [← hC]
 have HCk := zD hC
 clear hC
 go_enter Tryz.func12, Tryz.ntmps12
 go_wp2_with fail
 generalize (w.alloc (.cells (sV s ra sa ga rv sv gv) 26)) = wA at *
 go_loopw [8] (fun vi wr => ∃ k : Nat, k ≤ 10 ∧ vi = iV (k : Nat) ∧ Hid (Below wA.heap.size wA wr) ∧ Hid (Clear s k)) (fun vi _ => 10 - (intOf vi).toNat)
 case atStart => exact ⟨0, by omega, rfl, zD zl, zD (fun j hj => by omega)⟩
 case round =>
  rename World => wo
  obtain ⟨k, hk, rfl, HBo, HCo⟩ := hrel; have HBw := zD (HB0.out.trans (HBo.out.mono (by omega))); have hszo := HBo.out.size; have hxo := HX.out (wo.alloc (.cells #[.bool false, eS, iV 0] 99)) (HBo.out.alloc HBo.out.size _); have y0 : (wo.alloc (.cells #[.bool false, eS, iV 0] 99)).cell? ⟨w.heap.size, 0, none⟩ = some (sT s.name) := by simp only [World.cell?, hxo]; rfl
  have y1 : (wo.alloc (.cells #[.bool false, eS, iV 0] 99)).cell? ⟨w.heap.size, 1, none⟩ = some (.slice ra s.records.length rv) := by simp only [World.cell?, hxo]; rfl
  have y2 : (wo.alloc (.cells #[.bool false, eS, iV 0] 99)).cell? ⟨w.heap.size, 2, none⟩ = some (.slice sa s.services.length sv) := by simp only [World.cell?, hxo]; rfl
  have y3 : (wo.alloc (.cells #[.bool false, eS, iV 0] 99)).cell? ⟨w.heap.size, 3, none⟩ = some (.slice ga s.sagas.length gv) := by simp only [World.cell?, hxo]; rfl
  clear hxo; have hcases : k = 0 ∨ k = 1 ∨ k = 2 ∨ k = 3 ∨ k = 4 ∨ k = 5 ∨ k = 6 ∨ k = 7 ∨ k = 8 ∨ k = 9 ∨ k = 10 := by omega
  rcases hcases with rfl | rfl | rfl | rfl | rfl | rfl | rfl | rfl | rfl | rfl | rfl
  ·have hix : ∀ W : World, (Instr.index 97 (.agg #[.func (.func 26) #[] #[], .func (.func 27) #[] #[], .func (.func 28) #[] #[], .func (.func 29) #[] #[], .func (.func 30) #[] #[], .func (.func 31) #[] #[], .func (.func 32) #[] #[], .func (.func 33) #[] #[], .func (.func 34) #[] #[], .func (.func 35) #[] #[]]) (iV 0)).run Tryz.prog W = .ok (.func (.func 26) #[] #[]) W := fun W => by kernel_rfl
   have HRq := zD (HR0.out wo HBw.out); have HQq := HQ0; clear HR0 HQ0 HR1 HQ1 HR2 HQ2 HR3 HQ3 HR4 HQ4 HR5 HQ5 HR6 HQ6 HR7 HQ7 HR8 HQ8 HR9 HQ9; generalize namesA s flt0 = f at *; go_wp2_with fail; refine HRq.out.mono ?_; rintro e w3 ⟨rfl, hf3⟩; have HF3 := zD hf3; obtain ⟨d0, d1, d2⟩ := fs_cells hf3; have HBn := zD (HBo.out.trans (hf3.nb.bel.mono hszo)); have HBz := zD (HBw.out.trans (hf3.nb.bel.mono HBw.out.size)); clear hf3; cases hi : f.is with
   | true =>
    rw [hi] at d0; have HC := zD (show C = (f.wh, f.e) from HCk.out.trans (checkA_at HQq.out HCo.out hi)); clear HCo HQq hi HCk y0 y1 y2 y3; go_wp2_with fail; go_quiet (fail); go_wp2_with fail; exact zR (v := .tuple #[sT f.wh, iV (f.e : Nat)]) ⟨by rw [HC.out], HBz.out.trans ⟨rfl, rfl, rfl, zn, fun _ _ => rfl⟩⟩
   | false =>
    rw [hi] at d0; have HCn := zD (HCo.out.next HQq.out hi); clear HCo HQq hi y0 y1 y2 y3; go_wp2_with fail; exact ⟨⟨1, by omega, by go_num, HBn, HCn⟩, by simp [intOf]⟩
  ·have hix : ∀ W : World, (Instr.index 97 (.agg #[.func (.func 26) #[] #[], .func (.func 27) #[] #[], .func (.func 28) #[] #[], .func (.func 29) #[] #[], .func (.func 30) #[] #[], .func (.func 31) #[] #[], .func (.func 32) #[] #[], .func (.func 33) #[] #[], .func (.func 34) #[] #[], .func (.func 35) #[] #[]]) (iV 1)).run Tryz.prog W = .ok (.func (.func 27) #[] #[]) W := fun W => by kernel_rfl
   have HRq := zD (HR1.out wo HBw.out); have HQq := HQ1; clear HR0 HQ0 HR1 HQ1 HR2 HQ2 HR3 HQ3 HR4 HQ4 HR5 HQ5 HR6 HQ6 HR7 HQ7 HR8 HQ8 HR9 HQ9; generalize countsA s flt0 = f at *; go_wp2_with fail; refine HRq.out.mono ?_; rintro e w3 ⟨rfl, hf3⟩; have HF3 := zD hf3; obtain ⟨d0, d1, d2⟩ := fs_cells hf3; have HBn := zD (HBo.out.trans (hf3.nb.bel.mono hszo)); have HBz := zD (HBw.out.trans (hf3.nb.bel.mono HBw.out.size)); clear hf3; cases hi : f.is with
   | true =>
    rw [hi] at d0; have HC := zD (show C = (f.wh, f.e) from HCk.out.trans (checkA_at HQq.out HCo.out hi)); clear HCo HQq hi HCk y0 y1 y2 y3; go_wp2_with fail; go_quiet (fail); go_wp2_with fail; exact zR (v := .tuple #[sT f.wh, iV (f.e : Nat)]) ⟨by rw [HC.out], HBz.out.trans ⟨rfl, rfl, rfl, zn, fun _ _ => rfl⟩⟩
   | false =>
    rw [hi] at d0; have HCn := zD (HCo.out.next HQq.out hi); clear HCo HQq hi y0 y1 y2 y3; go_wp2_with fail; exact ⟨⟨2, by omega, by go_num, HBn, HCn⟩, by simp [intOf]⟩
  ·have hix : ∀ W : World, (Instr.index 97 (.agg #[.func (.func 26) #[] #[], .func (.func 27) #[] #[], .func (.func 28) #[] #[], .func (.func 29) #[] #[], .func (.func 30) #[] #[], .func (.func 31) #[] #[], .func (.func 32) #[] #[], .func (.func 33) #[] #[], .func (.func 34) #[] #[], .func (.func 35) #[] #[]]) (iV 2)).run Tryz.prog W = .ok (.func (.func 28) #[] #[]) W := fun W => by kernel_rfl
   have HRq := zD (HR2.out wo HBw.out); have HQq := HQ2; clear HR0 HQ0 HR1 HQ1 HR2 HQ2 HR3 HQ3 HR4 HQ4 HR5 HQ5 HR6 HQ6 HR7 HQ7 HR8 HQ8 HR9 HQ9; generalize doublesA s flt0 = f at *; go_wp2_with fail; refine HRq.out.mono ?_; rintro e w3 ⟨rfl, hf3⟩; have HF3 := zD hf3; obtain ⟨d0, d1, d2⟩ := fs_cells hf3; have HBn := zD (HBo.out.trans (hf3.nb.bel.mono hszo)); have HBz := zD (HBw.out.trans (hf3.nb.bel.mono HBw.out.size)); clear hf3; cases hi : f.is with
   | true =>
    rw [hi] at d0; have HC := zD (show C = (f.wh, f.e) from HCk.out.trans (checkA_at HQq.out HCo.out hi)); clear HCo HQq hi HCk y0 y1 y2 y3; go_wp2_with fail; go_quiet (fail); go_wp2_with fail; exact zR (v := .tuple #[sT f.wh, iV (f.e : Nat)]) ⟨by rw [HC.out], HBz.out.trans ⟨rfl, rfl, rfl, zn, fun _ _ => rfl⟩⟩
   | false =>
    rw [hi] at d0; have HCn := zD (HCo.out.next HQq.out hi); clear HCo HQq hi y0 y1 y2 y3; go_wp2_with fail; exact ⟨⟨3, by omega, by go_num, HBn, HCn⟩, by simp [intOf]⟩
  ·have hix : ∀ W : World, (Instr.index 97 (.agg #[.func (.func 26) #[] #[], .func (.func 27) #[] #[], .func (.func 28) #[] #[], .func (.func 29) #[] #[], .func (.func 30) #[] #[], .func (.func 31) #[] #[], .func (.func 32) #[] #[], .func (.func 33) #[] #[], .func (.func 34) #[] #[], .func (.func 35) #[] #[]]) (iV 3)).run Tryz.prog W = .ok (.func (.func 29) #[] #[]) W := fun W => by kernel_rfl
   have HRq := zD (HR3.out wo HBw.out); have HQq := HQ3; clear HR0 HQ0 HR1 HQ1 HR2 HQ2 HR3 HQ3 HR4 HQ4 HR5 HQ5 HR6 HQ6 HR7 HQ7 HR8 HQ8 HR9 HQ9; generalize typesA s flt0 = f at *; go_wp2_with fail; refine HRq.out.mono ?_; rintro e w3 ⟨rfl, hf3⟩; have HF3 := zD hf3; obtain ⟨d0, d1, d2⟩ := fs_cells hf3; have HBn := zD (HBo.out.trans (hf3.nb.bel.mono hszo)); have HBz := zD (HBw.out.trans (hf3.nb.bel.mono HBw.out.size)); clear hf3; cases hi : f.is with
   | true =>
    rw [hi] at d0; have HC := zD (show C = (f.wh, f.e) from HCk.out.trans (checkA_at HQq.out HCo.out hi)); clear HCo HQq hi HCk y0 y1 y2 y3; go_wp2_with fail; go_quiet (fail); go_wp2_with fail; exact zR (v := .tuple #[sT f.wh, iV (f.e : Nat)]) ⟨by rw [HC.out], HBz.out.trans ⟨rfl, rfl, rfl, zn, fun _ _ => rfl⟩⟩
   | false =>
    rw [hi] at d0; have HCn := zD (HCo.out.next HQq.out hi); clear HCo HQq hi y0 y1 y2 y3; go_wp2_with fail; exact ⟨⟨4, by omega, by go_num, HBn, HCn⟩, by simp [intOf]⟩
  ·have hix : ∀ W : World, (Instr.index 97 (.agg #[.func (.func 26) #[] #[], .func (.func 27) #[] #[], .func (.func 28) #[] #[], .func (.func 29) #[] #[], .func (.func 30) #[] #[], .func (.func 31) #[] #[], .func (.func 32) #[] #[], .func (.func 33) #[] #[], .func (.func 34) #[] #[], .func (.func 35) #[] #[]]) (iV 4)).run Tryz.prog W = .ok (.func (.func 30) #[] #[]) W := fun W => by kernel_rfl
   have HRq := zD (HR4.out wo HBw.out); have HQq := HQ4; clear HR0 HQ0 HR1 HQ1 HR2 HQ2 HR3 HQ3 HR4 HQ4 HR5 HQ5 HR6 HQ6 HR7 HQ7 HR8 HQ8 HR9 HQ9; generalize bottomsA s flt0 = f at *; go_wp2_with fail; refine HRq.out.mono ?_; rintro e w3 ⟨rfl, hf3⟩; have HF3 := zD hf3; obtain ⟨d0, d1, d2⟩ := fs_cells hf3; have HBn := zD (HBo.out.trans (hf3.nb.bel.mono hszo)); have HBz := zD (HBw.out.trans (hf3.nb.bel.mono HBw.out.size)); clear hf3; cases hi : f.is with
   | true =>
    rw [hi] at d0; have HC := zD (show C = (f.wh, f.e) from HCk.out.trans (checkA_at HQq.out HCo.out hi)); clear HCo HQq hi HCk y0 y1 y2 y3; go_wp2_with fail; go_quiet (fail); go_wp2_with fail; exact zR (v := .tuple #[sT f.wh, iV (f.e : Nat)]) ⟨by rw [HC.out], HBz.out.trans ⟨rfl, rfl, rfl, zn, fun _ _ => rfl⟩⟩
   | false =>
    rw [hi] at d0; have HCn := zD (HCo.out.next HQq.out hi); clear HCo HQq hi y0 y1 y2 y3; go_wp2_with fail; exact ⟨⟨5, by omega, by go_num, HBn, HCn⟩, by simp [intOf]⟩
  ·have hix : ∀ W : World, (Instr.index 97 (.agg #[.func (.func 26) #[] #[], .func (.func 27) #[] #[], .func (.func 28) #[] #[], .func (.func 29) #[] #[], .func (.func 30) #[] #[], .func (.func 31) #[] #[], .func (.func 32) #[] #[], .func (.func 33) #[] #[], .func (.func 34) #[] #[], .func (.func 35) #[] #[]]) (iV 5)).run Tryz.prog W = .ok (.func (.func 31) #[] #[]) W := fun W => by kernel_rfl
   have HRq := zD (HR5.out wo HBw.out); have HQq := HQ5; clear HR0 HQ0 HR1 HQ1 HR2 HQ2 HR3 HQ3 HR4 HQ4 HR5 HQ5 HR6 HQ6 HR7 HQ7 HR8 HQ8 HR9 HQ9; generalize effectsA s flt0 = f at *; go_wp2_with fail; refine HRq.out.mono ?_; rintro e w3 ⟨rfl, hf3⟩; have HF3 := zD hf3; obtain ⟨d0, d1, d2⟩ := fs_cells hf3; have HBn := zD (HBo.out.trans (hf3.nb.bel.mono hszo)); have HBz := zD (HBw.out.trans (hf3.nb.bel.mono HBw.out.size)); clear hf3; cases hi : f.is with
   | true =>
    rw [hi] at d0; have HC := zD (show C = (f.wh, f.e) from HCk.out.trans (checkA_at HQq.out HCo.out hi)); clear HCo HQq hi HCk y0 y1 y2 y3; go_wp2_with fail; go_quiet (fail); go_wp2_with fail; exact zR (v := .tuple #[sT f.wh, iV (f.e : Nat)]) ⟨by rw [HC.out], HBz.out.trans ⟨rfl, rfl, rfl, zn, fun _ _ => rfl⟩⟩
   | false =>
    rw [hi] at d0; have HCn := zD (HCo.out.next HQq.out hi); clear HCo HQq hi y0 y1 y2 y3; go_wp2_with fail; exact ⟨⟨6, by omega, by go_num, HBn, HCn⟩, by simp [intOf]⟩
  ·have hix : ∀ W : World, (Instr.index 97 (.agg #[.func (.func 26) #[] #[], .func (.func 27) #[] #[], .func (.func 28) #[] #[], .func (.func 29) #[] #[], .func (.func 30) #[] #[], .func (.func 31) #[] #[], .func (.func 32) #[] #[], .func (.func 33) #[] #[], .func (.func 34) #[] #[], .func (.func 35) #[] #[]]) (iV 6)).run Tryz.prog W = .ok (.func (.func 32) #[] #[]) W := fun W => by kernel_rfl
   have HRq := zD (HR6.out wo HBw.out); have HQq := HQ6; clear HR0 HQ0 HR1 HQ1 HR2 HQ2 HR3 HQ3 HR4 HQ4 HR5 HQ5 HR6 HQ6 HR7 HQ7 HR8 HQ8 HR9 HQ9; generalize undosA s flt0 = f at *; go_wp2_with fail; refine HRq.out.mono ?_; rintro e w3 ⟨rfl, hf3⟩; have HF3 := zD hf3; obtain ⟨d0, d1, d2⟩ := fs_cells hf3; have HBn := zD (HBo.out.trans (hf3.nb.bel.mono hszo)); have HBz := zD (HBw.out.trans (hf3.nb.bel.mono HBw.out.size)); clear hf3; cases hi : f.is with
   | true =>
    rw [hi] at d0; have HC := zD (show C = (f.wh, f.e) from HCk.out.trans (checkA_at HQq.out HCo.out hi)); clear HCo HQq hi HCk y0 y1 y2 y3; go_wp2_with fail; go_quiet (fail); go_wp2_with fail; exact zR (v := .tuple #[sT f.wh, iV (f.e : Nat)]) ⟨by rw [HC.out], HBz.out.trans ⟨rfl, rfl, rfl, zn, fun _ _ => rfl⟩⟩
   | false =>
    rw [hi] at d0; have HCn := zD (HCo.out.next HQq.out hi); clear HCo HQq hi y0 y1 y2 y3; go_wp2_with fail; exact ⟨⟨7, by omega, by go_num, HBn, HCn⟩, by simp [intOf]⟩
  ·have hix : ∀ W : World, (Instr.index 97 (.agg #[.func (.func 26) #[] #[], .func (.func 27) #[] #[], .func (.func 28) #[] #[], .func (.func 29) #[] #[], .func (.func 30) #[] #[], .func (.func 31) #[] #[], .func (.func 32) #[] #[], .func (.func 33) #[] #[], .func (.func 34) #[] #[], .func (.func 35) #[] #[]]) (iV 7)).run Tryz.prog W = .ok (.func (.func 33) #[] #[]) W := fun W => by kernel_rfl
   have HRq := zD (HR7.out wo HBw.out); have HQq := HQ7; clear HR0 HQ0 HR1 HQ1 HR2 HQ2 HR3 HQ3 HR4 HQ4 HR5 HQ5 HR6 HQ6 HR7 HQ7 HR8 HQ8 HR9 HQ9; generalize sagasA s flt0 = f at *; go_wp2_with fail; refine HRq.out.mono ?_; rintro e w3 ⟨rfl, hf3⟩; have HF3 := zD hf3; obtain ⟨d0, d1, d2⟩ := fs_cells hf3; have HBn := zD (HBo.out.trans (hf3.nb.bel.mono hszo)); have HBz := zD (HBw.out.trans (hf3.nb.bel.mono HBw.out.size)); clear hf3; cases hi : f.is with
   | true =>
    rw [hi] at d0; have HC := zD (show C = (f.wh, f.e) from HCk.out.trans (checkA_at HQq.out HCo.out hi)); clear HCo HQq hi HCk y0 y1 y2 y3; go_wp2_with fail; go_quiet (fail); go_wp2_with fail; exact zR (v := .tuple #[sT f.wh, iV (f.e : Nat)]) ⟨by rw [HC.out], HBz.out.trans ⟨rfl, rfl, rfl, zn, fun _ _ => rfl⟩⟩
   | false =>
    rw [hi] at d0; have HCn := zD (HCo.out.next HQq.out hi); clear HCo HQq hi y0 y1 y2 y3; go_wp2_with fail; exact ⟨⟨8, by omega, by go_num, HBn, HCn⟩, by simp [intOf]⟩
  ·have hix : ∀ W : World, (Instr.index 97 (.agg #[.func (.func 26) #[] #[], .func (.func 27) #[] #[], .func (.func 28) #[] #[], .func (.func 29) #[] #[], .func (.func 30) #[] #[], .func (.func 31) #[] #[], .func (.func 32) #[] #[], .func (.func 33) #[] #[], .func (.func 34) #[] #[], .func (.func 35) #[] #[]]) (iV 8)).run Tryz.prog W = .ok (.func (.func 34) #[] #[]) W := fun W => by kernel_rfl
   have HRq := zD (HR8.out wo HBw.out); have HQq := HQ8; clear HR0 HQ0 HR1 HQ1 HR2 HQ2 HR3 HQ3 HR4 HQ4 HR5 HQ5 HR6 HQ6 HR7 HQ7 HR8 HQ8 HR9 HQ9; generalize chStepsA s flt0 = f at *; go_wp2_with fail; refine HRq.out.mono ?_; rintro e w3 ⟨rfl, hf3⟩; have HF3 := zD hf3; obtain ⟨d0, d1, d2⟩ := fs_cells hf3; have HBn := zD (HBo.out.trans (hf3.nb.bel.mono hszo)); have HBz := zD (HBw.out.trans (hf3.nb.bel.mono HBw.out.size)); clear hf3; cases hi : f.is with
   | true =>
    rw [hi] at d0; have HC := zD (show C = (f.wh, f.e) from HCk.out.trans (checkA_at HQq.out HCo.out hi)); clear HCo HQq hi HCk y0 y1 y2 y3; go_wp2_with fail; go_quiet (fail); go_wp2_with fail; exact zR (v := .tuple #[sT f.wh, iV (f.e : Nat)]) ⟨by rw [HC.out], HBz.out.trans ⟨rfl, rfl, rfl, zn, fun _ _ => rfl⟩⟩
   | false =>
    rw [hi] at d0; have HCn := zD (HCo.out.next HQq.out hi); clear HCo HQq hi y0 y1 y2 y3; go_wp2_with fail; exact ⟨⟨9, by omega, by go_num, HBn, HCn⟩, by simp [intOf]⟩
  ·have hix : ∀ W : World, (Instr.index 97 (.agg #[.func (.func 26) #[] #[], .func (.func 27) #[] #[], .func (.func 28) #[] #[], .func (.func 29) #[] #[], .func (.func 30) #[] #[], .func (.func 31) #[] #[], .func (.func 32) #[] #[], .func (.func 33) #[] #[], .func (.func 34) #[] #[], .func (.func 35) #[] #[]]) (iV 9)).run Tryz.prog W = .ok (.func (.func 35) #[] #[]) W := fun W => by kernel_rfl
   have HRq := zD (HR9.out wo HBw.out); have HQq := HQ9; clear HR0 HQ0 HR1 HQ1 HR2 HQ2 HR3 HQ3 HR4 HQ4 HR5 HQ5 HR6 HQ6 HR7 HQ7 HR8 HQ8 HR9 HQ9; generalize waysA s flt0 = f at *; go_wp2_with fail; refine HRq.out.mono ?_; rintro e w3 ⟨rfl, hf3⟩; have HF3 := zD hf3; obtain ⟨d0, d1, d2⟩ := fs_cells hf3; have HBn := zD (HBo.out.trans (hf3.nb.bel.mono hszo)); have HBz := zD (HBw.out.trans (hf3.nb.bel.mono HBw.out.size)); clear hf3; cases hi : f.is with
   | true =>
    rw [hi] at d0; have HC := zD (show C = (f.wh, f.e) from HCk.out.trans (checkA_at HQq.out HCo.out hi)); clear HCo HQq hi HCk y0 y1 y2 y3; go_wp2_with fail; go_quiet (fail); go_wp2_with fail; exact zR (v := .tuple #[sT f.wh, iV (f.e : Nat)]) ⟨by rw [HC.out], HBz.out.trans ⟨rfl, rfl, rfl, zn, fun _ _ => rfl⟩⟩
   | false =>
    rw [hi] at d0; have HCn := zD (HCo.out.next HQq.out hi); clear HCo HQq hi y0 y1 y2 y3; go_wp2_with fail; exact ⟨⟨10, by omega, by go_num, HBn, HCn⟩, by simp [intOf]⟩
  ·have HC := zD (show C = ([], 0) from HCk.out.trans (checkA_none HCo.out))
   clear HR0 HQ0 HR1 HQ1 HR2 HQ2 HR3 HQ3 HR4 HQ4 HR5 HQ5 HR6 HQ6 HR7 HQ7 HR8 HQ8 HR9 HQ9 HCo; go_wp2_with fail; exact bodyPost_ret (v := .tuple #[sT [], iV ((0 : Nat) : Int)]) (by simp [results, Tryz.results12, go_sem]; rfl) rfl ⟨by rw [HC.out], HBw.out⟩
end Go.Proofs.YtgoejmheihgpfaaGreatDoor
