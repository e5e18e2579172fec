/- Lemmas for ModelStays' proof. -/
import Derived.Test.YtgoejmheihgpfaaGreatDoorQy
import Derived.Lib.Join
namespace Go.Proofs.YtgoejmheihgpfaaGreatDoor
set_option maxRecDepth 100000
set_option maxHeartbeats 16000000
open Go.RowKit
def fldTk (f : Fld) : List Tx := [f.name, [58]] ++ f.type.map srtT ++ [[59]]
def recTk (r : Rec) : List Tx := [if r.choice then [99, 104, 111, 105, 99, 101] else [114, 101, 99, 111, 114, 100], r.name, [123]] ++ r.fields.flatMap fldTk ++ [[125]]
theorem Pt.newer {wb : Nat} {w w' : World} (h : Pt wb w w') (o : Obj) : Pt wb w (w'.alloc o) := h.trans (Pt.of_below (bl1 w' o))
theorem flat_len {α : Type} {g : α → List Tx} {n : Nat} : ∀ {L : List α}, (∀ x ∈ L, (g x).length ≤ n) → (L.flatMap g).length ≤ L.length * n
 | [], _ => by simp
 | x :: r, h => by
  have h1 := h x List.mem_cons_self
  have h2 := flat_len (L := r) (fun y hy => h y (List.mem_cons_of_mem _ hy))
  rw [List.flatMap_cons, List.length_append, List.length_cons, Nat.succ_mul]
  omega
theorem flat_take {α : Type} (g : α → List Tx) (L : List Tx) (l : List α) (k : Nat) (h : k < l.length) : L ++ (l.take (k + 1)).flatMap g = (L ++ (l.take k).flatMap g) ++ g l[k] := by
 rw [List.take_succ_eq_append_getElem h, List.flatMap_append, ← List.append_assoc]
 simp
theorem fldTk_len {f : Fld} (h : f.type.length ≤ 40) : (fldTk f).length ≤ 43 := by simp [fldTk]; omega
theorem precord_any (w0 w : World) (hB : Below w0.heap.size w0 w) (wb : Nat) (hwb : w0.heap.size ≤ wb) (L : List Tx) (h : Wr wb w L) (hl : L.length ≤ 800000) (r : Rec) (fa : Option Addr) (fc : Nat) (ys : List Value) (hs : Slc w0 2 (.slice fa r.fields.length fc) r.fields.length ys) (hr : Rows fldR w0 r.fields ys)
  (hn : r.fields.length ≤ 40) (hf : ∀ f ∈ r.fields, f.type.length ≤ 40) :
  Calls Tryz.prog 62 #[.pointer (some ⟨wb, 0, none⟩), .agg #[sT r.name, .bool r.choice, .slice fa r.fields.length fc]] w fun e w' => e = .returned (.tuple #[]) ∧ Wr wb w' (L ++ recTk r) ∧ Pt wb w w' := by
 have hlw := h.lt
 have HB := zD (fun W (X : Pt wb w W) => X.below hB hwb (by omega))
 have HG0 := zD (zw w (.cells #[sT r.name, .bool r.choice, .slice fa r.fields.length fc] 74))
 have HP0 := zD (Pt.of_below (wb := wb) (bl1 w (.cells #[sT r.name, .bool r.choice, .slice fa r.fields.length fc] 74)))
 have HQ := zD (show recTk r = [if r.choice then [99, 104, 111, 105, 99, 101] else [114, 101, 99, 111, 114, 100], r.name, [123]] ++ r.fields.flatMap fldTk ++ [[125]] from rfl)
 have HPU := zD (fun M cs hcs hM n hn bk hbk => put_new (w.alloc (.cells #[sT r.name, .bool r.choice, .slice fa r.fields.length fc] 74)) wb L M (h.after (bl1 w _)) (by omega) hM cs hcs n hn bk hbk)
 have HSR := zD hs
 have HRR := zD hr
 have HF := zD hf
 clear h hB hs hr hf
 generalize recTk r = RT at *
 cases hch : r.choice
 ·have HPx := zD (HPU.out [[114, 101, 99, 111, 114, 100], r.name, [123]] #[.string ⟨#[114, 101, 99, 111, 114, 100]⟩, sT r.name, .string ⟨#[123]⟩] rfl (by simp) 3 rfl (w.heap.size + 1) (by simp))
  have HQ1 := zD (show RT = [[114, 101, 99, 111, 114, 100], r.name, [123]] ++ r.fields.flatMap fldTk ++ [[125]] from by rw [HQ.out, hch]; rfl); clear HPU HQ; rw [hch] at HPx HG0 HP0; go_enter Tryz.func62, Tryz.ntmps62; go_wp2_with fail; refine HPx.out.mono ?_; rintro e w2 ⟨rfl, hw2, hp2⟩; have HW2 := zD hw2; have HP2 := zD (HP0.out.trans hp2); have HG2 := zD (hp2.box HG0.out (by decide) (by omega)); clear hw2 hp2 HPx; have r2 : w2.cell? ⟨w.heap.size, 2, none⟩ = some (.slice fa r.fields.length fc) := by simp [World.cell?, HG2.out]
  have HH := zD (show [[114, 101, 99, 111, 114, 100], r.name, [123]].length = 3 from rfl); generalize [[114, 101, 99, 111, 114, 100], r.name, [123]] = hd at *; go_wp2_with fail; go_loopw [18] (fun vi wr => ∃ k : Nat, k ≤ r.fields.length ∧ vi = iV (k : Nat) ∧ Hid (Wr wb wr (L ++ hd ++ (r.fields.take k).flatMap fldTk)) ∧ Hid (Pt wb w wr)) (fun vi _ => r.fields.length - (intOf vi).toNat)
  case atStart => exact ⟨0, by omega, rfl, zD (by simpa using HW2.out), HP2⟩
  case round =>
   clear HW2 HP2 r2; rename World => wo
   obtain ⟨k, hk, rfl, HW, HP⟩ := hrel; by_cases hlt : k < r.fields.length
   ·obtain ⟨b2, o2, ga2, gc2, rfl, hb2, p0, p1, hs2⟩ := fld_in (HB.out wo HP.out) HSR.out HRR.out hlt
    have HTk := zD (flat_take fldTk (L ++ hd) r.fields k hlt); have htl := HF.out _ (List.getElem_mem hlt)
    have hln : (L ++ hd ++ (r.fields.take k).flatMap fldTk).length ≤ 800000 + hd.length + 40 * 43 := by
     have h1 := flat_len (g := fldTk) (n := 43) (L := r.fields.take k) (fun x hx => fldTk_len (HF.out x (List.mem_of_mem_take hx))); have h2 : (r.fields.take k).length ≤ 40 := by rw [List.length_take]; omega
     have h3 : (r.fields.take k).length * 43 ≤ 40 * 43 := Nat.mul_le_mul_right _ h2; rw [List.length_append, List.length_append]; omega
    have hhd : hd.length = 3 := HH.out; generalize L ++ hd ++ (r.fields.take k).flatMap fldTk = Lk at *; generalize r.fields[k] = f at *; have HS2 := zD hs2; have HFT := zD (show Lk ++ fldTk f = ((Lk ++ [f.name, [58]]) ++ f.type.map srtT) ++ [[59]] from by simp [fldTk]); generalize fldTk f = ft at *; have HG1 := zD (zw wo (.cells #[sT f.name, .slice ga2 f.type.length gc2] 77)); have HP1 := zD (HP.out.newer (.cells #[sT f.name, .slice ga2 f.type.length gc2] 77)); have hwl := HW.out.lt; have HPU := zD (put_new (wo.alloc (.cells #[sT f.name, .slice ga2 f.type.length gc2] 77)) wb Lk [f.name, [58]] (HW.out.after (bl1 wo _)) (by omega) (by simp) #[sT f.name, .string ⟨#[58]⟩] rfl 2 rfl (wo.heap.size + 1) (by simp)); clear hs2; go_wp2_with fail; refine HPU.out.mono ?_; rintro e w3 ⟨rfl, hw3, hp3⟩; have HP3 := zD (HP1.out.trans hp3); have HG3 := zD (hp3.box HG1.out (by decide) (by omega)); have f1 : w3.cell? ⟨wo.heap.size, 1, none⟩ = some (.slice ga2 f.type.length gc2) := by simp [World.cell?, HG3.out]
    have HSO := zD (psorts_any w3 wb (Lk ++ [f.name, [58]]) hw3 (.slice ga2 f.type.length gc2) f.type (fun W X => HS2.out.below (HB.out W (HP3.out.trans X))) (by rw [List.length_append]; simp; omega)); clear hw3 hp3 HPU HG1 HG3; go_wp2_with fail; refine HSO.out.mono ?_; rintro e w4 ⟨rfl, hw4, hp4⟩; have HP4 := zD (HP3.out.trans hp4); have HPV := zD (put_new w4 wb ((Lk ++ [f.name, [58]]) ++ f.type.map srtT) [[59]] hw4 (by rw [List.length_append, List.length_append, List.length_map]; simp; omega) (by simp) #[.string ⟨#[59]⟩] rfl 1 rfl w4.heap.size rfl); clear hw4 hp4 HSO f1; go_wp2_with fail; refine HPV.out.mono ?_; rintro e w5 ⟨rfl, hw5, hp5⟩; have HW5 := zD hw5; have HP5 := zD (HP4.out.trans hp5); clear hw5 hp5 HPV; go_wp2_with fail; exact ⟨⟨k + 1, by omega, by go_num, zD (by rw [HTk.out, HFT.out]; exact HW5.out), HP5⟩, by simp [intOf]; omega⟩
   have HWz := zD (show Wr wb wo (L ++ hd ++ r.fields.flatMap fldTk) from by have h := HW.out; rw [List.take_of_length_le (by omega)] at h; exact h)
   have hlz : (L ++ hd ++ r.fields.flatMap fldTk).length ≤ 1000000 := by
    have h1 := flat_len (g := fldTk) (n := 43) (L := r.fields) (fun x hx => fldTk_len (HF.out x hx)); have h3 : r.fields.length * 43 ≤ 40 * 43 := Nat.mul_le_mul_right _ hn; have hhd : hd.length = 3 := HH.out; rw [List.length_append, List.length_append]; omega
   have HPZ := zD (put_new wo wb (L ++ hd ++ r.fields.flatMap fldTk) [[125]] HWz.out hlz (by simp) #[.string ⟨#[125]⟩] rfl 1 rfl wo.heap.size rfl); clear HW HWz; go_wp2_with fail; refine HPZ.out.mono ?_; rintro e w6 ⟨rfl, hw6, hp6⟩; have HW6 := zD hw6; have HP6 := zD (HP.out.trans hp6); clear hw6 hp6; go_wp2_with fail; go_end0; exact ⟨rfl, by rw [HQ1.out, ← List.append_assoc, ← List.append_assoc]; exact HW6.out, HP6.out⟩
 ·have HPx := zD (HPU.out [[99, 104, 111, 105, 99, 101], r.name, [123]] #[.string ⟨#[99, 104, 111, 105, 99, 101]⟩, sT r.name, .string ⟨#[123]⟩] rfl (by simp) 3 rfl (w.heap.size + 1) (by simp))
  have HQ1 := zD (show RT = [[99, 104, 111, 105, 99, 101], r.name, [123]] ++ r.fields.flatMap fldTk ++ [[125]] from by rw [HQ.out, hch]; rfl); clear HPU HQ; rw [hch] at HPx HG0 HP0; go_enter Tryz.func62, Tryz.ntmps62; go_wp2_with fail; refine HPx.out.mono ?_; rintro e w2 ⟨rfl, hw2, hp2⟩; have HW2 := zD hw2; have HP2 := zD (HP0.out.trans hp2); have HG2 := zD (hp2.box HG0.out (by decide) (by omega)); clear hw2 hp2 HPx; have r2 : w2.cell? ⟨w.heap.size, 2, none⟩ = some (.slice fa r.fields.length fc) := by simp [World.cell?, HG2.out]
  have HH := zD (show [[99, 104, 111, 105, 99, 101], r.name, [123]].length = 3 from rfl); generalize [[99, 104, 111, 105, 99, 101], r.name, [123]] = hd at *; go_wp2_with fail; go_loopw [18] (fun vi wr => ∃ k : Nat, k ≤ r.fields.length ∧ vi = iV (k : Nat) ∧ Hid (Wr wb wr (L ++ hd ++ (r.fields.take k).flatMap fldTk)) ∧ Hid (Pt wb w wr)) (fun vi _ => r.fields.length - (intOf vi).toNat)
  case atStart => exact ⟨0, by omega, rfl, zD (by simpa using HW2.out), HP2⟩
  case round =>
   clear HW2 HP2 r2; rename World => wo
   obtain ⟨k, hk, rfl, HW, HP⟩ := hrel; by_cases hlt : k < r.fields.length
   ·obtain ⟨b2, o2, ga2, gc2, rfl, hb2, p0, p1, hs2⟩ := fld_in (HB.out wo HP.out) HSR.out HRR.out hlt
    have HTk := zD (flat_take fldTk (L ++ hd) r.fields k hlt); have htl := HF.out _ (List.getElem_mem hlt)
    have hln : (L ++ hd ++ (r.fields.take k).flatMap fldTk).length ≤ 800000 + hd.length + 40 * 43 := by
     have h1 := flat_len (g := fldTk) (n := 43) (L := r.fields.take k) (fun x hx => fldTk_len (HF.out x (List.mem_of_mem_take hx))); have h2 : (r.fields.take k).length ≤ 40 := by rw [List.length_take]; omega
     have h3 : (r.fields.take k).length * 43 ≤ 40 * 43 := Nat.mul_le_mul_right _ h2; rw [List.length_append, List.length_append]; omega
    have hhd : hd.length = 3 := HH.out; generalize L ++ hd ++ (r.fields.take k).flatMap fldTk = Lk at *; generalize r.fields[k] = f at *; have HS2 := zD hs2; have HFT := zD (show Lk ++ fldTk f = ((Lk ++ [f.name, [58]]) ++ f.type.map srtT) ++ [[59]] from by simp [fldTk]); generalize fldTk f = ft at *; have HG1 := zD (zw wo (.cells #[sT f.name, .slice ga2 f.type.length gc2] 77)); have HP1 := zD (HP.out.newer (.cells #[sT f.name, .slice ga2 f.type.length gc2] 77)); have hwl := HW.out.lt; have HPU := zD (put_new (wo.alloc (.cells #[sT f.name, .slice ga2 f.type.length gc2] 77)) wb Lk [f.name, [58]] (HW.out.after (bl1 wo _)) (by omega) (by simp) #[sT f.name, .string ⟨#[58]⟩] rfl 2 rfl (wo.heap.size + 1) (by simp)); clear hs2; go_wp2_with fail; refine HPU.out.mono ?_; rintro e w3 ⟨rfl, hw3, hp3⟩; have HP3 := zD (HP1.out.trans hp3); have HG3 := zD (hp3.box HG1.out (by decide) (by omega)); have f1 : w3.cell? ⟨wo.heap.size, 1, none⟩ = some (.slice ga2 f.type.length gc2) := by simp [World.cell?, HG3.out]
    have HSO := zD (psorts_any w3 wb (Lk ++ [f.name, [58]]) hw3 (.slice ga2 f.type.length gc2) f.type (fun W X => HS2.out.below (HB.out W (HP3.out.trans X))) (by rw [List.length_append]; simp; omega)); clear hw3 hp3 HPU HG1 HG3; go_wp2_with fail; refine HSO.out.mono ?_; rintro e w4 ⟨rfl, hw4, hp4⟩; have HP4 := zD (HP3.out.trans hp4); have HPV := zD (put_new w4 wb ((Lk ++ [f.name, [58]]) ++ f.type.map srtT) [[59]] hw4 (by rw [List.length_append, List.length_append, List.length_map]; simp; omega) (by simp) #[.string ⟨#[59]⟩] rfl 1 rfl w4.heap.size rfl); clear hw4 hp4 HSO f1; go_wp2_with fail; refine HPV.out.mono ?_; rintro e w5 ⟨rfl, hw5, hp5⟩; have HW5 := zD hw5; have HP5 := zD (HP4.out.trans hp5); clear hw5 hp5 HPV; go_wp2_with fail; exact ⟨⟨k + 1, by omega, by go_num, zD (by rw [HTk.out, HFT.out]; exact HW5.out), HP5⟩, by simp [intOf]; omega⟩
   have HWz := zD (show Wr wb wo (L ++ hd ++ r.fields.flatMap fldTk) from by have h := HW.out; rw [List.take_of_length_le (by omega)] at h; exact h)
   have hlz : (L ++ hd ++ r.fields.flatMap fldTk).length ≤ 1000000 := by
    have h1 := flat_len (g := fldTk) (n := 43) (L := r.fields) (fun x hx => fldTk_len (HF.out x hx)); have h3 : r.fields.length * 43 ≤ 40 * 43 := Nat.mul_le_mul_right _ hn; have hhd : hd.length = 3 := HH.out; rw [List.length_append, List.length_append]; omega
   have HPZ := zD (put_new wo wb (L ++ hd ++ r.fields.flatMap fldTk) [[125]] HWz.out hlz (by simp) #[.string ⟨#[125]⟩] rfl 1 rfl wo.heap.size rfl); clear HW HWz; go_wp2_with fail; refine HPZ.out.mono ?_; rintro e w6 ⟨rfl, hw6, hp6⟩; have HW6 := zD hw6; have HP6 := zD (HP.out.trans hp6); clear hw6 hp6; go_wp2_with fail; go_end0; exact ⟨rfl, by rw [HQ1.out, ← List.append_assoc, ← List.append_assoc]; exact HW6.out, HP6.out⟩
def mthTk (m : Mth) : List Tx := ([m.effect, m.name, [40], m.arg, [41], [45, 62]] ++ [srtT ⟨m.result, []⟩]) ++ (if m.undo = [] then [] else [[117, 110, 100, 111], m.undo]) ++ [[59]]
def svcTk (v : Svc) : List Tx := [[115, 101, 114, 118, 105, 99, 101], v.name, [123]] ++ v.methods.flatMap mthTk ++ [[125]]
theorem mthTk_len (m : Mth) : (mthTk m).length ≤ 10 := by
 unfold mthTk
 split <;> simp
theorem Slc.one {w : World} {b k : Nat} {cs : Array Value} {T : TypeId} (hg : w.heap[b]? = some (.cells cs T (0, 0))) (hk : cs.size = k) : Slc w k (.slice (some ⟨b, 0, none⟩) 1 1) 1 cs.toList := by
 refine ⟨⟨_, _, rfl, zn, by decide, (fun h => by cases h), fun _ => ⟨b, 0, rfl, (zq hg).1, fun j u hu => ?_⟩⟩, by simp [hk]⟩
 simp only [World.cell?, hg]
 simpa using hu
theorem pservice_any (w0 w : World) (hB : Below w0.heap.size w0 w) (wb : Nat) (hwb : w0.heap.size ≤ wb) (L : List Tx) (h : Wr wb w L) (hl : L.length ≤ 800000) (r : Svc) (fa : Option Addr) (fc : Nat) (hs : Slc w0 5 (.slice fa r.methods.length fc) r.methods.length (mcells r.methods)) (hn : r.methods.length ≤ 40) :
  Calls Tryz.prog 63 #[.pointer (some ⟨wb, 0, none⟩), .agg #[sT r.name, .slice fa r.methods.length fc]] w fun e w' => e = .returned (.tuple #[]) ∧ Wr wb w' (L ++ svcTk r) ∧ Pt wb w w' := by
 have hlw := h.lt
 have HB := zD (fun W (X : Pt wb w W) => X.below hB hwb (by omega))
 have HG0 := zD (zw w (.cells #[sT r.name, .slice fa r.methods.length fc] 112))
 have HP0 := zD (Pt.of_below (wb := wb) (bl1 w (.cells #[sT r.name, .slice fa r.methods.length fc] 112)))
 have HQ1 := zD (show svcTk r = [[115, 101, 114, 118, 105, 99, 101], r.name, [123]] ++ r.methods.flatMap mthTk ++ [[125]] from rfl)
 have HPx := zD (put_new (w.alloc (.cells #[sT r.name, .slice fa r.methods.length fc] 112)) wb L [[115, 101, 114, 118, 105, 99, 101], r.name, [123]] (h.after (bl1 w _)) (by omega) (by simp) #[.string ⟨#[115, 101, 114, 118, 105, 99, 101]⟩, sT r.name, .string ⟨#[123]⟩] rfl 3 rfl (w.heap.size + 1) (by simp))
 have HSR := zD hs
 clear h hB hs
 generalize svcTk r = RT at *
 go_enter Tryz.func63, Tryz.ntmps63
 go_wp2_with fail
 refine HPx.out.mono ?_
 rintro e w2 ⟨rfl, hw2, hp2⟩
 have HW2 := zD hw2
 have HP2 := zD (HP0.out.trans hp2)
 have HG2 := zD (hp2.box HG0.out (by decide) (by omega))
 clear hw2 hp2 HPx
 have r2 : w2.cell? ⟨w.heap.size, 1, none⟩ = some (.slice fa r.methods.length fc) := by simp [World.cell?, HG2.out]
 have HH := zD (show [[115, 101, 114, 118, 105, 99, 101], r.name, [123]].length = 3 from rfl)
 generalize [[115, 101, 114, 118, 105, 99, 101], r.name, [123]] = hd at *
 go_wp2_with fail
 go_loopw [14] (fun vi wr => ∃ k : Nat, k ≤ r.methods.length ∧ vi = iV (k : Nat) ∧ Hid (Wr wb wr (L ++ hd ++ (r.methods.take k).flatMap mthTk)) ∧ Hid (Pt wb w wr)) (fun vi _ => r.methods.length - (intOf vi).toNat)
 case atStart => exact ⟨0, by omega, rfl, zD (by simpa using HW2.out), HP2⟩
 case round =>
  clear HW2 HP2 r2; rename World => wo
  obtain ⟨k, hk, rfl, HW, HP⟩ := hrel; by_cases hlt : k < r.methods.length
  ·obtain ⟨b2, o2, rfl, hb2, p0, p1, p2, p3, p4⟩ := mth_in (HB.out wo HP.out) HSR.out hlt
   have HTk := zD (flat_take mthTk (L ++ hd) r.methods k hlt)
   have hln : (L ++ hd ++ (r.methods.take k).flatMap mthTk).length ≤ 800000 + hd.length + 40 * 10 := by
    have h1 := flat_len (g := mthTk) (n := 10) (L := r.methods.take k) (fun x _ => mthTk_len x); have h2 : (r.methods.take k).length ≤ 40 := by rw [List.length_take]; omega
    have h3 : (r.methods.take k).length * 10 ≤ 40 * 10 := Nat.mul_le_mul_right _ h2; rw [List.length_append, List.length_append]; omega
   have hhd : hd.length = 3 := HH.out; generalize L ++ hd ++ (r.methods.take k).flatMap mthTk = Lk at *; generalize r.methods[k] = x at *; have HFT := zD (show Lk ++ mthTk x = ((Lk ++ [x.effect, x.name, [40], x.arg, [41], [45, 62]]) ++ [(⟨x.result, []⟩ : Srt)].map srtT) ++ (if x.undo = [] then [] else [[117, 110, 100, 111], x.undo]) ++ [[59]] from by simp [mthTk]); generalize mthTk x = ft at *; have HG1 := zD (zw wo (.cells #[sT x.name, sT x.arg, .int .u8 (x.result : Nat), sT x.effect, sT x.undo] 92)); have HP1 := zD (HP.out.newer (.cells #[sT x.name, sT x.arg, .int .u8 (x.result : Nat), sT x.effect, sT x.undo] 92)); have hwl := HW.out.lt; have HPU := zD (put_new (wo.alloc (.cells #[sT x.name, sT x.arg, .int .u8 (x.result : Nat), sT x.effect, sT x.undo] 92)) wb Lk [x.effect, x.name, [40], x.arg, [41], [45, 62]] (HW.out.after (bl1 wo _)) (by omega) (by simp) #[sT x.effect, sT x.name, .string ⟨#[40]⟩, sT x.arg, .string ⟨#[41]⟩, .string ⟨#[45, 62]⟩] rfl 6 rfl (wo.heap.size + 1) (by simp)); go_wp2_with fail; refine HPU.out.mono ?_; rintro e w3 ⟨rfl, hw3, hp3⟩; have HP3 := zD (HP1.out.trans hp3); have HG3 := zD (hp3.box HG1.out (by decide) (by omega)); have f2 : w3.cell? ⟨wo.heap.size, 2, none⟩ = some (.int .u8 (x.result : Nat)) := by simp [World.cell?, HG3.out]
   have HG4 := zD (zw w3 (.cells #[.int .u8 (x.result : Nat), eS] 79)); have HP4 := zD (HP3.out.newer (.cells #[.int .u8 (x.result : Nat), eS] 79)); have hw3l := hw3.lt; have HG3b := zD ((Below.heap_alloc w3 (.cells #[.int .u8 (x.result : Nat), eS] 79) wo.heap.size (zq HG3.out).1).trans HG3.out); have HSO := zD (psorts_any (w3.alloc (.cells #[.int .u8 (x.result : Nat), eS] 79)) wb _ (hw3.after (bl1 w3 _)) (.slice (some ⟨w3.heap.size, 0, none⟩) 1 1) [⟨x.result, []⟩] (fun W X => Slc.one (X.box HG4.out (by decide) (by omega)) rfl) (by rw [List.length_append]; simp; omega)); clear hw3 hp3 HPU HG1; go_wp2_with fail; refine HSO.out.mono ?_; rintro e w5 ⟨rfl, hw5, hp5⟩; have HP5 := zD (HP4.out.trans hp5); have HG5 := zD (hp5.box HG3b.out (by decide) (by omega)); have f4 : w5.cell? ⟨wo.heap.size, 4, none⟩ = some (sT x.undo) := by simp [World.cell?, HG5.out]
   have e_u := bT_is x.undo []; have hl5 : ((Lk ++ [x.effect, x.name, [40], x.arg, [41], [45, 62]]) ++ [(⟨x.result, []⟩ : Srt)].map srtT).length ≤ 900000 := by rw [List.length_append, List.length_append, List.length_map]; simp; omega
   generalize (Lk ++ [x.effect, x.name, [40], x.arg, [41], [45, 62]]) ++ [(⟨x.result, []⟩ : Srt)].map srtT = L5 at *; have HW5 := zD hw5; clear hw5 hp5 HSO f2 HG3 HG3b HG4 HG5; by_cases hu : x.undo = []
   ·rw [zt hu] at e_u
    have f_u : (!((bT x.undo).toList == [])) = false := by rw [e_u]; rfl
    have HFU := zD (show Lk ++ ft = L5 ++ [[59]] from by rw [HFT.out, if_pos hu]; simp); have HPV := zD (put_new w5 wb L5 [[59]] HW5.out (by omega) (by simp) #[.string ⟨#[59]⟩] rfl 1 rfl w5.heap.size rfl); clear hu HFT; go_wp2_with fail; refine HPV.out.mono ?_; rintro e w6 ⟨rfl, hw6, hp6⟩; have HW6 := zD hw6; have HP6 := zD (HP5.out.trans hp6); clear hw6 hp6 HPV; go_wp2_with fail; exact ⟨⟨k + 1, by omega, by go_num, zD (by rw [HTk.out, HFU.out]; exact HW6.out), HP6⟩, by simp [intOf]; omega⟩
   ·rw [zf hu] at e_u
    have f_u : (!((bT x.undo).toList == [])) = true := by rw [e_u]; rfl
    have HFU := zD (show Lk ++ ft = (L5 ++ [[117, 110, 100, 111], x.undo]) ++ [[59]] from by rw [HFT.out, if_neg hu]); have HPT := zD (put_new w5 wb L5 [[117, 110, 100, 111], x.undo] HW5.out (by omega) (by simp) #[.string ⟨#[117, 110, 100, 111]⟩, sT x.undo] rfl 2 rfl w5.heap.size rfl); clear hu HFT; go_wp2_with fail; refine HPT.out.mono ?_; rintro e w6 ⟨rfl, hw6, hp6⟩; have HP6 := zD (HP5.out.trans hp6); have HPV := zD (put_new w6 wb (L5 ++ [[117, 110, 100, 111], x.undo]) [[59]] hw6 (by rw [List.length_append]; simp; omega) (by simp) #[.string ⟨#[59]⟩] rfl 1 rfl w6.heap.size rfl); clear hw6 hp6 HPT f4; go_wp2_with fail; refine HPV.out.mono ?_; rintro e w7 ⟨rfl, hw7, hp7⟩; have HW7 := zD hw7; have HP7 := zD (HP6.out.trans hp7); clear hw7 hp7 HPV; go_wp2_with fail; exact ⟨⟨k + 1, by omega, by go_num, zD (by rw [HTk.out, HFU.out]; exact HW7.out), HP7⟩, by simp [intOf]; omega⟩
  have HWz := zD (show Wr wb wo (L ++ hd ++ r.methods.flatMap mthTk) from by have h := HW.out; rw [List.take_of_length_le (by omega)] at h; exact h)
  have hlz : (L ++ hd ++ r.methods.flatMap mthTk).length ≤ 1000000 := by
   have h1 := flat_len (g := mthTk) (n := 10) (L := r.methods) (fun x _ => mthTk_len x); have h3 : r.methods.length * 10 ≤ 40 * 10 := Nat.mul_le_mul_right _ hn; have hhd : hd.length = 3 := HH.out; rw [List.length_append, List.length_append]; omega
  have HPZ := zD (put_new wo wb (L ++ hd ++ r.methods.flatMap mthTk) [[125]] HWz.out hlz (by simp) #[.string ⟨#[125]⟩] rfl 1 rfl wo.heap.size rfl); clear HW HWz; go_wp2_with fail; refine HPZ.out.mono ?_; rintro e w6 ⟨rfl, hw6, hp6⟩; have HW6 := zD hw6; have HP6 := zD (HP.out.trans hp6); clear hw6 hp6; go_wp2_with fail; go_end0; exact ⟨rfl, by rw [HQ1.out, ← List.append_assoc, ← List.append_assoc]; exact HW6.out, HP6.out⟩
def stpTk (x : Stp) : List Tx := [[100, 111], x.service, [46], x.method, [97, 116], Lib.decDigits x.node.toNat, [59]]
def sagTk (g : Sga) : List Tx := [[115, 97, 103, 97], g.name, [40], g.arg, [41], [123]] ++ g.steps.flatMap stpTk ++ [[125]]
theorem psaga_any (w0 w : World) (hB : Below w0.heap.size w0 w) (wb : Nat) (hwb : w0.heap.size ≤ wb) (L : List Tx) (h : Wr wb w L) (hl : L.length ≤ 800000) (r : Sga) (fa : Option Addr) (fc : Nat) (hs : Slc w0 3 (.slice fa r.steps.length fc) r.steps.length (pcells r.steps)) (hn : r.steps.length ≤ 40) (hx : ∀ x ∈ r.steps, 0 ≤ x.node ∧ x.node < 100) :
  Calls Tryz.prog 64 #[.pointer (some ⟨wb, 0, none⟩), .agg #[sT r.name, sT r.arg, .slice fa r.steps.length fc]] w fun e w' => e = .returned (.tuple #[]) ∧ Wr wb w' (L ++ sagTk r) ∧ Pt wb w w' := by
 have hlw := h.lt
 have HB := zD (fun W (X : Pt wb w W) => X.below hB hwb (by omega))
 have HG0 := zD (zw w (.cells #[sT r.name, sT r.arg, .slice fa r.steps.length fc] 67))
 have HP0 := zD (Pt.of_below (wb := wb) (bl1 w (.cells #[sT r.name, sT r.arg, .slice fa r.steps.length fc] 67)))
 have HQ1 := zD (show sagTk r = [[115, 97, 103, 97], r.name, [40], r.arg, [41], [123]] ++ r.steps.flatMap stpTk ++ [[125]] from rfl)
 have HPx := zD (put_new (w.alloc (.cells #[sT r.name, sT r.arg, .slice fa r.steps.length fc] 67)) wb L [[115, 97, 103, 97], r.name, [40], r.arg, [41], [123]] (h.after (bl1 w _)) (by omega) (by simp) #[.string ⟨#[115, 97, 103, 97]⟩, sT r.name, .string ⟨#[40]⟩, sT r.arg, .string ⟨#[41]⟩, .string ⟨#[123]⟩] rfl 6 rfl (w.heap.size + 1) (by simp))
 have HSR := zD hs
 have HXR := zD hx
 clear h hB hs hx
 generalize sagTk r = RT at *
 go_enter Tryz.func64, Tryz.ntmps64
 go_wp2_with fail
 refine HPx.out.mono ?_
 rintro e w2 ⟨rfl, hw2, hp2⟩
 have HW2 := zD hw2
 have HP2 := zD (HP0.out.trans hp2)
 have HG2 := zD (hp2.box HG0.out (by decide) (by omega))
 clear hw2 hp2 HPx
 have r2 : w2.cell? ⟨w.heap.size, 2, none⟩ = some (.slice fa r.steps.length fc) := by simp [World.cell?, HG2.out]
 have HH := zD (show [[115, 97, 103, 97], r.name, [40], r.arg, [41], [123]].length = 6 from rfl)
 generalize [[115, 97, 103, 97], r.name, [40], r.arg, [41], [123]] = hd at *
 go_wp2_with fail
 go_loopw [16] (fun vi wr => ∃ k : Nat, k ≤ r.steps.length ∧ vi = iV (k : Nat) ∧ Hid (Wr wb wr (L ++ hd ++ (r.steps.take k).flatMap stpTk)) ∧ Hid (Pt wb w wr)) (fun vi _ => r.steps.length - (intOf vi).toNat)
 case atStart => exact ⟨0, by omega, rfl, zD (by simpa using HW2.out), HP2⟩
 case round =>
  clear HW2 HP2 r2; rename World => wo
  obtain ⟨k, hk, rfl, HW, HP⟩ := hrel; by_cases hlt : k < r.steps.length
  ·obtain ⟨b2, o2, rfl, hb2, p0, p1, p2⟩ := stp_in (HB.out wo HP.out) HSR.out hlt
   have HTk := zD (flat_take stpTk (L ++ hd) r.steps k hlt); have hxn := HXR.out _ (List.getElem_mem hlt)
   have hln : (L ++ hd ++ (r.steps.take k).flatMap stpTk).length ≤ 800000 + hd.length + 40 * 7 := by
    have h1 := flat_len (g := stpTk) (n := 7) (L := r.steps.take k) (fun x _ => zn); have h2 : (r.steps.take k).length ≤ 40 := by rw [List.length_take]; omega
    have h3 : (r.steps.take k).length * 7 ≤ 40 * 7 := Nat.mul_le_mul_right _ h2; rw [List.length_append, List.length_append]; omega
   have hhd : hd.length = 6 := HH.out; generalize L ++ hd ++ (r.steps.take k).flatMap stpTk = Lk at *; generalize r.steps[k] = x at *; have HFT := zD (show stpTk x = [[100, 111], x.service, [46], x.method, [97, 116], Lib.decDigits x.node.toNat, [59]] from rfl); generalize stpTk x = ft at *; have hwl := HW.out.lt; go_wp2_with fail; generalize hw1 : wo.alloc (.cells #[sT x.service, sT x.method, iV x.node] 108) = w1; have HG1 := zD (show w1.heap[wo.heap.size]? = some (.cells #[sT x.service, sT x.method, iV x.node] 108 (0, 0)) from hw1 ▸ zw _ _); have HP1 := zD (show Pt wb w w1 from hw1 ▸ HP.out.newer _); have HW1 := zD (show Wr wb w1 Lk from hw1 ▸ HW.out.after (bl1 wo _)); have hsz1 : w1.heap.size = wo.heap.size + 1 := by rw [← hw1]; simp
   clear hw1; have HS1 := zD (fun W (X : Below w1.heap.size w1 W) => show (fun W => W.cell? ⟨wo.heap.size, 0, none⟩ = some (sT x.service) ∧ W.cell? ⟨wo.heap.size, 1, none⟩ = some (sT x.method) ∧ W.cell? ⟨wo.heap.size, 2, none⟩ = some (iV x.node)) W from ⟨by simp [World.cell?, (X.block wo.heap.size (by omega)).trans HG1.out], by simp [World.cell?, (X.block wo.heap.size (by omega)).trans HG1.out], by simp [World.cell?, (X.block wo.heap.size (by omega)).trans HG1.out]⟩); have HB1 := zD (Below.refl w1.heap.size w1).drew; obtain ⟨e0, e1, e2⟩ := HS1.out w1 zl; have HI := zD (fun W => show Calls Tryz.prog 95 #[iV x.node] W _ from (show ((x.node.toNat : Nat) : Int) = x.node from by omega) ▸ Tryz.strconv_Itoa_small x.node.toNat (by omega) W); have HDD := zD (show (⟨(Lib.decDigits x.node.toNat).toArray⟩ : ByteArray) = bT (Lib.decDigits x.node.toNat) from rfl); have HPU := zD (fun W (X : Below w1.heap.size w1 W) (hX : W.heap[wo.heap.size + 1]? = some (.cells #[.string ⟨#[100, 111]⟩, sT x.service, .string ⟨#[46]⟩, sT x.method, .string ⟨#[97, 116]⟩, .string ⟨(Lib.decDigits x.node.toNat).toArray⟩, .string ⟨#[59]⟩] 9 (0, 0))) => put_any W wb Lk ft (HW1.out.after X) (by omega) (wo.heap.size + 1) 0 7 (by rw [HFT.out]; show 7 ≤ 1000; omega) (fun j u hu => by rw [HFT.out] at hu; have h5 : (show List Value from [.string ⟨#[100, 111]⟩, sT x.service, .string ⟨#[46]⟩, sT x.method, .string ⟨#[97, 116]⟩, .string ⟨(Lib.decDigits x.node.toNat).toArray⟩, .string ⟨#[59]⟩])[j]? = some u := hu; simp only [World.cell?, hX]; simpa using h5)); have HL := zD (show ft.length = 7 from by rw [HFT.out]; rfl); rw [HL.out] at HPU; have HBa := zD (fun cs => (bl1 w1 (.cells cs 9)).drew); have HBb := zD (fun cs => (HB1.out.alloc (o := .cells cs 9) HB1.out.size)); have HNA := zD (fun cs => show (w1.alloc (.cells cs 9)).drew.heap[wo.heap.size + 1]? = some (.cells cs 9 (0, 0)) from hsz1 ▸ zw w1 _); generalize (⟨(Lib.decDigits x.node.toNat).toArray⟩ : ByteArray) = D at *; clear p0 p1 p2 hb2
   go_region_held3 (fun W => W.cell? ⟨wo.heap.size, 0, none⟩ = some (sT x.service) ∧ W.cell? ⟨wo.heap.size, 1, none⟩ = some (sT x.method) ∧ W.cell? ⟨wo.heap.size, 2, none⟩ = some (iV x.node))
    (first | exact HS1.out _ HB1.out | exact HS1.out _ (HBa.out _) | exact HS1.out _ (HBb.out _) | exact hs3 | assumption)
    (first
     | (go_at_call 95; ((with_reducible refine (HI.out _).mono ?_); rintro e w7 ⟨rfl, rfl⟩))
     | (go_at_call 61; ((with_reducible refine (HPU.out _ (HBa.out _) (HNA.out _)).mono ?_); rintro e w8 ⟨rfl, hw8, hp8⟩; have HP8 := zD ((HP1.out.trans (Pt.of_below (HBa.out _))).trans hp8); have hs3 := And.intro (show w8.cell? ⟨wo.heap.size, 0, none⟩ = some (sT x.service) from (by simp [World.cell?, hp8.box (((HBa.out _).block wo.heap.size (by omega)).trans HG1.out) (by decide) (by omega)])) (And.intro (show w8.cell? ⟨wo.heap.size, 1, none⟩ = some (sT x.method) from (by simp [World.cell?, hp8.box (((HBa.out _).block wo.heap.size (by omega)).trans HG1.out) (by decide) (by omega)])) (show w8.cell? ⟨wo.heap.size, 2, none⟩ = some (iV x.node) from (by simp [World.cell?, hp8.box (((HBa.out _).block wo.heap.size (by omega)).trans HG1.out) (by decide) (by omega)]))))))
   all_goals
    have HW8 := zD hw8; clear hw8 hp8 hs3; go_wp2_with fail; exact ⟨⟨k + 1, by omega, by go_num, zD (by rw [HTk.out]; exact HW8.out), HP8⟩, by simp [intOf]; omega⟩
  have HWz := zD (show Wr wb wo (L ++ hd ++ r.steps.flatMap stpTk) from by have h := HW.out; rw [List.take_of_length_le (by omega)] at h; exact h)
  have hlz : (L ++ hd ++ r.steps.flatMap stpTk).length ≤ 1000000 := by
   have h1 := flat_len (g := stpTk) (n := 7) (L := r.steps) (fun x _ => zn); have h3 : r.steps.length * 7 ≤ 40 * 7 := Nat.mul_le_mul_right _ hn; have hhd : hd.length = 6 := HH.out; rw [List.length_append, List.length_append]; omega
  have HPZ := zD (put_new wo wb (L ++ hd ++ r.steps.flatMap stpTk) [[125]] HWz.out hlz (by simp) #[.string ⟨#[125]⟩] rfl 1 rfl wo.heap.size rfl); clear HW HWz; go_wp2_with fail; refine HPZ.out.mono ?_; rintro e w6 ⟨rfl, hw6, hp6⟩; have HW6 := zD hw6; have HP6 := zD (HP.out.trans hp6); clear hw6 hp6; go_wp2_with fail; go_end0; exact ⟨rfl, by rw [HQ1.out, ← List.append_assoc, ← List.append_assoc]; exact HW6.out, HP6.out⟩
def tokT (s : Sch) : List Tx := [[109, 111, 100, 117, 108, 101], s.name, [59]] ++ s.records.flatMap recTk ++ s.services.flatMap svcTk ++ s.sagas.flatMap sagTk
def textJ (s : Sch) : Tx := Lib.join (tokT s) [32]
def textA' (s : Sch) : Tx × Nat := if (checkA s).2 = 0 then (if 65536 < (textJ s).length then ([], 3) else (textJ s, 0)) else ([], (checkA s).2)
theorem lens_le {n : Nat} : ∀ {L : List Tx}, (∀ x ∈ L, x.length ≤ n) → Lib.lens L ≤ L.length * n
 | [], _ => by simp [Lib.lens]
 | x :: r, h => by
  have h1 := h x List.mem_cons_self
  have h2 := lens_le (L := r) (fun y hy => h y (List.mem_cons_of_mem _ hy))
  rw [List.length_cons, Nat.succ_mul]
  simp only [Lib.lens, List.map_cons, List.sum_cons] at h2 ⊢
  omega
theorem join_le {n : Nat} {L : List Tx} (h : ∀ x ∈ L, x.length ≤ n) : (Lib.join L [32]).length ≤ L.length * (n + 1) := by
 cases L with
 | nil => simp [Lib.join]
 | cons x r =>
  rw [Lib.join_length]; have h2 := lens_le h; rw [List.length_cons] at h2 ⊢; rw [Nat.mul_succ]; show 1 * r.length + Lib.lens (x :: r) ≤ (r.length + 1) * n + (r.length + 1)
  omega
theorem digits_small {i : Nat} (hi : i < 100) : (Lib.decDigits i).length ≤ 200 := by
 have h : ∀ j : Fin 100, (Lib.decDigits j).length ≤ 200 := by decide +kernel
 exact h ⟨i, hi⟩
def Nodes (s : Sch) : Prop := ∀ g ∈ s.sagas, ∀ x ∈ g.steps, 0 ≤ x.node ∧ x.node < 4
theorem srtT_len {t : Srt} (h : t.name.length ≤ 200) : (srtT t).length ≤ 200 := by
 unfold srtT
 repeat' split
 all_goals first | exact h | (show _ ≤ 200; decide)
theorem recTk_small {r : Rec} (h1 : r.name.length ≤ 200) (h3 : ∀ f ∈ r.fields, f.name.length ≤ 200 ∧ f.type.length ≤ 40 ∧ ∀ t ∈ f.type, t.name.length ≤ 200) : ∀ x ∈ recTk r, x.length ≤ 200 := by
 intro x hx
 unfold recTk at hx
 simp only [List.mem_append, List.mem_cons, List.mem_flatMap, List.not_mem_nil, or_false] at hx
 rcases hx with ((rfl | rfl | rfl) | ⟨f, hf, hx⟩) | rfl
 ·split <;> (show _ ≤ 200; decide)
 ·exact h1
 ·show _ ≤ 200; decide
 ·obtain ⟨f1, _, f3⟩ := h3 f hf
  unfold fldTk at hx; simp only [List.mem_append, List.mem_cons, List.mem_map, List.not_mem_nil, or_false] at hx; rcases hx with ((rfl | rfl) | ⟨t, ht, rfl⟩) | rfl
  ·exact f1
  ·show _ ≤ 200; decide
  ·exact srtT_len (f3 t ht)
  ·show _ ≤ 200; decide
 ·show _ ≤ 200; decide
theorem recTk_len {r : Rec} (h2 : r.fields.length ≤ 40) (h3 : ∀ f ∈ r.fields, f.type.length ≤ 40) : (recTk r).length ≤ 1724 := by
 have h1 := flat_len (g := fldTk) (n := 43) (L := r.fields) (fun x hx => fldTk_len (h3 x hx))
 have h4 : r.fields.length * 43 ≤ 40 * 43 := Nat.mul_le_mul_right _ h2
 simp only [recTk, List.length_append, List.length_cons, List.length_nil]
 omega
theorem svcTk_small {v : Svc} (h1 : v.name.length ≤ 200) (h3 : ∀ m ∈ v.methods, m.name.length ≤ 200 ∧ m.arg.length ≤ 200 ∧ m.effect.length ≤ 200 ∧ m.undo.length ≤ 200) : ∀ x ∈ svcTk v, x.length ≤ 200 := by
 intro x hx
 unfold svcTk at hx
 simp only [List.mem_append, List.mem_cons, List.mem_flatMap, List.not_mem_nil, or_false] at hx
 rcases hx with ((rfl | rfl | rfl) | ⟨m, hm, hx⟩) | rfl
 ·show _ ≤ 200; decide
 ·exact h1
 ·show _ ≤ 200; decide
 ·obtain ⟨f1, f2, f3, f4⟩ := h3 m hm
  unfold mthTk at hx; simp only [List.mem_append, List.mem_cons, List.not_mem_nil, or_false] at hx; rcases hx with (((rfl | rfl | rfl | rfl | rfl | rfl) | rfl) | hx) | rfl
  ·exact f3
  ·exact f1
  ·show _ ≤ 200; decide
  ·exact f2
  ·show _ ≤ 200; decide
  ·show _ ≤ 200; decide
  ·exact srtT_len (Nat.zero_le _)
  ·split at hx
   ·cases hx
   ·simp only [List.mem_cons, List.not_mem_nil, or_false] at hx
    rcases hx with rfl | rfl
    ·show _ ≤ 200; decide
    ·exact f4
  ·show _ ≤ 200; decide
 ·show _ ≤ 200; decide
theorem svcTk_len {v : Svc} (h2 : v.methods.length ≤ 40) : (svcTk v).length ≤ 404 := by
 have h1 := flat_len (g := mthTk) (n := 10) (L := v.methods) (fun x _ => mthTk_len x)
 have h4 : v.methods.length * 10 ≤ 40 * 10 := Nat.mul_le_mul_right _ h2
 simp only [svcTk, List.length_append, List.length_cons, List.length_nil]
 omega
theorem sagTk_small {g : Sga} (h1 : g.name.length ≤ 200) (h2 : g.arg.length ≤ 200) (h3 : ∀ x ∈ g.steps, x.service.length ≤ 200 ∧ x.method.length ≤ 200) (h4 : ∀ x ∈ g.steps, 0 ≤ x.node ∧ x.node < 4) : ∀ x ∈ sagTk g, x.length ≤ 200 := by
 intro x hx
 unfold sagTk at hx
 simp only [List.mem_append, List.mem_cons, List.mem_flatMap, List.not_mem_nil, or_false] at hx
 rcases hx with ((rfl | rfl | rfl | rfl | rfl | rfl) | ⟨m, hm, hx⟩) | rfl
 ·show _ ≤ 200; decide
 ·exact h1
 ·show _ ≤ 200; decide
 ·exact h2
 ·show _ ≤ 200; decide
 ·show _ ≤ 200; decide
 ·obtain ⟨f1, f2⟩ := h3 m hm
  have f3 := h4 m hm; unfold stpTk at hx; simp only [List.mem_cons, List.not_mem_nil, or_false] at hx; rcases hx with rfl | rfl | rfl | rfl | rfl | rfl | rfl
  ·show _ ≤ 200; decide
  ·exact f1
  ·show _ ≤ 200; decide
  ·exact f2
  ·show _ ≤ 200; decide
  ·exact digits_small (by omega)
  ·show _ ≤ 200; decide
 ·show _ ≤ 200; decide
theorem sagTk_len {g : Sga} (h2 : g.steps.length ≤ 40) : (sagTk g).length ≤ 287 := by
 have h1 := flat_len (g := stpTk) (n := 7) (L := g.steps) (fun x _ => zn)
 have h4 : g.steps.length * 7 ≤ 40 * 7 := Nat.mul_le_mul_right _ h2
 simp only [sagTk, List.length_append, List.length_cons, List.length_nil]
 omega
theorem tokT_small {s : Sch} (h : Small s) (hN : Nodes s) : ∀ x ∈ tokT s, x.length ≤ 200 := by
 intro x hx
 unfold tokT at hx
 simp only [List.mem_append, List.mem_cons, List.mem_flatMap, List.not_mem_nil, or_false] at hx
 rcases hx with (((rfl | rfl | rfl) | ⟨r, hr, hx⟩) | ⟨r, hr, hx⟩) | ⟨r, hr, hx⟩
 ·show _ ≤ 200; decide
 ·exact h.nm
 ·show _ ≤ 200; decide
 ·exact recTk_small (h.rc r hr).1 (h.rc r hr).2.2 x hx
 ·exact svcTk_small (h.sv r hr).1 (h.sv r hr).2.2 x hx
 ·exact sagTk_small (h.sg r hr).1 (h.sg r hr).2.1 (h.sg r hr).2.2.2 (hN r hr) x hx
theorem atF_is {f : Flt} {r : Bool} {wh : Tx} {e : Nat} (h : (atF f r wh e).is = false) : f.is = false ∧ r = true := by
 unfold atF at h
 cases r with
 | true => exact ⟨by simpa using h, rfl⟩
 | false =>
  cases hf : f.is with
  | true => simp [hf] at h
  | false => simp [hf] at h
theorem fold_is {α : Type} {g : Flt → α → Flt} {p : α → Prop} (hg : ∀ f x, (g f x).is = false → f.is = false ∧ p x) : ∀ {L : List α} {f : Flt}, (L.foldl g f).is = false → f.is = false ∧ ∀ x ∈ L, p x
 | [], f, h => ⟨h, fun x hx => by cases hx⟩
 | y :: r, f, h => by
  obtain ⟨h1, h2⟩ := fold_is hg (L := r) (f := g f y) h
  obtain ⟨h3, h4⟩ := hg f y h1
  refine ⟨h3, fun x hx => ?_⟩
  rcases List.mem_cons.1 hx with rfl | hx
  ·exact h4
  ·exact h2 x hx
theorem checkA_clear {s : Sch} (h : (checkA s).2 = 0) (he : ∀ f ∈ rulesA s, f.is = true → f.e ≠ 0) : ∀ f ∈ rulesA s, f.is = false := by
 unfold checkA at h
 cases hf : (rulesA s).find? (·.is) with
 | none =>
  intro f hm; have := List.find?_eq_none.1 hf f hm; simpa using this
 | some f =>
  rw [hf] at h; exact absurd h (he f (List.mem_of_find?_eq_some hf) (by have := List.find?_some hf; simpa using this))
def Num (f : Flt) : Prop := f.is = true → f.e ≠ 0
theorem Num.at {f : Flt} (h : Num f) (r : Bool) (wh : Tx) (e : Nat) (he : e ≠ 0) : Num (atF f r wh e) := by
 unfold atF
 split
 ·exact h
 ·exact fun _ => he
theorem Num.fold {α : Type} {g : Flt → α → Flt} (hg : ∀ f x, Num f → Num (g f x)) : ∀ {L : List α} {f : Flt}, Num f → Num (L.foldl g f)
 | [], _, h => h
 | y :: r, f, h => Num.fold hg (L := r) (hg f y h)
theorem Num.fold2 {α : Type} {g : Flt × Mp → α → Flt × Mp} (hg : ∀ p x, Num p.1 → Num (g p x).1) : ∀ {L : List α} {p : Flt × Mp}, Num p.1 → Num (L.foldl g p).1
 | [], _, h => h
 | y :: r, p, h => Num.fold2 hg (L := r) (hg p y h)
theorem rules_num (s : Sch) : ∀ f ∈ rulesA s, Num f := by
 have h0 : Num flt0 := fun h => by cases h
 intro f hf
 simp only [rulesA, List.mem_cons, List.not_mem_nil, or_false] at hf
 rcases hf with rfl | rfl | rfl | rfl | rfl | rfl | rfl | rfl | rfl | rfl
 ·exact Num.fold (fun f x h => h.at _ _ _ (by decide)) (Num.fold (fun f x h => Num.fold (fun f x h => h.at _ _ _ (by decide)) (h.at _ _ _ (by decide))) (Num.fold (fun f x h => Num.fold (fun f x h => h.at _ _ _ (by decide)) (h.at _ _ _ (by decide))) (h0.at _ _ _ (by decide))))
 ·exact Num.fold (fun f x h => h.at _ _ _ (by decide)) (Num.fold (fun f x h => h.at _ _ _ (by decide)) (Num.fold (fun f x h => h.at _ _ _ (by decide)) (h0.at _ _ _ (by decide))))
 ·have hR : ∀ (p : Flt × Mp) (x : Rec), Num p.1 → Num (dbR p x).1 := fun p x h => Num.fold2 (g := dbF x) (fun p y h => h.at _ _ _ (by decide)) (p := ((oneD x.name p).1, [])) (h.at _ _ _ (by decide))
  have hV : ∀ (p : Flt × Mp) (x : Svc), Num p.1 → Num (dbV p x).1 := fun p x h => Num.fold2 (g := dbM x) (fun p y h => h.at _ _ _ (by decide)) (p := ((oneD x.name p).1, [])) (h.at _ _ _ (by decide))
  exact Num.fold2 (g := dbG) (fun p x h => h.at _ _ _ (by decide)) (Num.fold2 (g := dbV) hV (Num.fold2 (g := dbR) hR (p := (flt0, [])) h0))
 ·exact Num.fold (fun f x h => Num.fold (fun f x h => h.at _ _ _ (by decide)) h) (Num.fold (fun f x h => Num.fold (fun f x h => h.at _ _ _ (by decide)) h) h0)
 ·exact Num.fold (fun f x h => h.at _ _ _ (by decide)) h0
 ·exact Num.fold (fun f x h => Num.fold (fun f x h => h.at _ _ _ (by decide)) h) h0
 ·exact Num.fold (fun f x h => Num.fold (fun f x h => h.at _ _ _ (by decide)) h) h0
 ·exact Num.fold (fun f x h => h.at _ _ _ (by decide)) h0
 ·exact Num.fold (fun f x h => Num.fold (fun f x h => h.at _ _ _ (by decide)) h) h0
 ·exact Num.fold (fun f x h => Num.fold (fun f x h => h.at _ _ _ (by decide)) h) h0
theorem nodes_of {s : Sch} (h : (checkA s).2 = 0) : Nodes s := by
 have hc := checkA_clear h (rules_num s) (chStepsA s flt0) (by simp [rulesA])
 intro g hg x hx
 obtain ⟨_, h2⟩ := fold_is (g := stpG s) (p := fun g => ∀ i ∈ List.range g.steps.length, stpOk s g (stAt g i) = true) (fun f g h => fold_is (g := stpI s g) (p := fun i => stpOk s g (stAt g i) = true) (fun f i h => atF_is h) h) hc
 obtain ⟨i, hi, rfl⟩ := List.getElem_of_mem hx
 have h3 := h2 g hg i (List.mem_range.2 hi)
 rw [stAt_get hi] at h3
 simp only [stpOk, Bool.and_eq_true, decide_eq_true_eq] at h3
 exact ⟨h3.1.2, h3.2⟩
theorem ptext_any (w : World) (wb : Nat) (L : List Tx) (h : Wr wb w L) (h0 : 0 < L.length) (hl : L.length ≤ 1000000) (hs : ∀ x ∈ L, x.length ≤ 200) :
  Calls Tryz.prog 65 #[.pointer (some ⟨wb, 0, none⟩)] w fun e w' => e = .returned (sT (Lib.join L [32])) ∧ Below w.heap.size w w' := by
 obtain ⟨v, hg, hown⟩ := h.row
 have d0 : w.cell? ⟨wb, 0, none⟩ = some v := by simp [World.cell?, hg]
 obtain ⟨g, cap, rfl⟩ := own_form hown h0
 have hlt := hown.lt _ rfl
 have hcap : L.length ≤ cap := by
  obtain ⟨_, ⟨e, _⟩ | ⟨g', cap', cur, e, _, _, h, _⟩⟩ := hown
  ·cases e
  ·injection e with e1 e2 e3; omega
 have e1 : (L.map bT).map (·.data.toList) = L := by rw [List.map_map]; exact List.map_id'' (fun x => by simp [bT]) L
 have hj := join_le hs
 have hm : L.length * 201 ≤ 1000000 * 201 := Nat.mul_le_mul_right _ hl
 have HJ := zD (show Calls Tryz.prog 97 #[.slice (some ⟨g, 0, none⟩) L.length cap, .string ⟨#[32]⟩] w (fun e w' => e = .returned (sT (Lib.join L [32])) ∧ Below w.heap.size w w') from by
  have h9 := Tryz.strings_Join g 0 cap (L.map bT) ⟨#[32]⟩ w (fun j x hx => by
   rw [List.getElem?_map] at hx; cases hL : L[j]? with
   | none => rw [hL] at hx; cases hx
   | some y =>
    rw [hL] at hx; obtain rfl := Option.some.inj hx; have := hown.cellAt j (by have := (List.getElem?_eq_some_iff.1 hL).1; omega); rw [Nat.zero_add, this]; simp [strs, hL]) hlt.2 (by rw [List.length_map]; omega) (by rw [List.length_map]; exact hcap) (by rw [e1]; show (Lib.join L [32]).length ≤ _; omega)
  rw [e1, List.length_map] at h9; exact h9)
 clear hown h hs hj hm e1
 generalize Lib.join L [32] = R at *
 go_enter Tryz.func65, Tryz.ntmps65
 go_wp2_with fail
 refine HJ.out.mono ?_
 rintro e w2 ⟨rfl, hb⟩
 go_wp2_with fail
 exact zR (v := sT R) ⟨rfl, hb⟩
end Go.Proofs.YtgoejmheihgpfaaGreatDoor
