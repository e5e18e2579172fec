/-
  The writer's record.
-/
import Derived.Test.YtgoejmheihgpfaaGreatDoorQy
namespace Go.Proofs.YtgoejmheihgpfaaGreatDoor
section
open Go.RowKit


def fldTk (f : Fld) : List Tx := [f.name, [58]] ++ f.type.map srtT ++ [[59]]
def recTk (r : Rec) : List Tx := [if r.choice then [99, 104, 111, 105, 99, 101] else [114, 101, 99, 111, 114, 100], r.name, [123]] ++ r.fields.flatMap fldTk ++ [[125]]
theorem Pt.newer {wb : Nat} {w w' : World} (h : Pt wb w w') (o : Obj) : Pt wb w (w'.alloc o) := h.trans (Pt.of_below (bl1 w' o))
theorem flat_len {α : Type} {g : α → List Tx} {n : Nat} : ∀ {L : List α}, (∀ x ∈ L, (g x).length ≤ n) → (L.flatMap g).length ≤ L.length * n
  | [], _ => by simp
  | x :: r, h => by
    have h1 := h x List.mem_cons_self
    have h2 := flat_len (L := r) (fun y hy => h y (List.mem_cons_of_mem _ hy))
    rw [List.flatMap_cons, List.length_append, List.length_cons, Nat.succ_mul]
    omega
theorem flat_take {α : Type} (g : α → List Tx) (L : List Tx) (l : List α) (k : Nat) (h : k < l.length) : L ++ (l.take (k + 1)).flatMap g = (L ++ (l.take k).flatMap g) ++ g l[k] := by
  rw [List.take_succ_eq_append_getElem h, List.flatMap_append, ← List.append_assoc]
  simp
theorem fldTk_len {f : Fld} (h : f.type.length ≤ 40) : (fldTk f).length ≤ 43 := by simp [fldTk]; omega
set_option maxRecDepth 100000 in
set_option maxHeartbeats 8000000 in
theorem precord_any (w0 w : World) (hB : Below w0.heap.size w0 w) (wb : Nat) (hwb : w0.heap.size ≤ wb) (L : List Tx) (h : Wr wb w L) (hl : L.length ≤ 800000) (r : Rec) (fa : Option Addr) (fc : Nat) (ys : List Value) (hs : Slc w0 2 (.slice fa r.fields.length fc) r.fields.length ys) (hr : Rows fldR w0 r.fields ys)
    (hn : r.fields.length ≤ 40) (hf : ∀ f ∈ r.fields, f.type.length ≤ 40) :
    Calls Tryz.prog 62 #[.pointer (some ⟨wb, 0, none⟩), .agg #[.string (bT r.name), .bool r.choice, .slice fa r.fields.length fc]] w fun e w' => e = .returned (.tuple #[]) ∧ Wr wb w' (L ++ recTk r) ∧ Pt wb w w' := by
  have hlw := h.lt
  have HB := Lib.hid (fun W (X : Pt wb w W) => X.below hB hwb (by omega))
  have HG0 := Lib.hid (heap_alloc_new w (.cells #[.string (bT r.name), .bool r.choice, .slice fa r.fields.length fc] 74))
  have HP0 := Lib.hid (Pt.of_below (wb := wb) (bl1 w (.cells #[.string (bT r.name), .bool r.choice, .slice fa r.fields.length fc] 74)))
  have HQ := Lib.hid (show recTk r = [if r.choice then [99, 104, 111, 105, 99, 101] else [114, 101, 99, 111, 114, 100], r.name, [123]] ++ r.fields.flatMap fldTk ++ [[125]] from rfl)
  have HPU := Lib.hid (fun M cs hcs hM n hn bk hbk => put_new (w.alloc (.cells #[.string (bT r.name), .bool r.choice, .slice fa r.fields.length fc] 74)) wb L M (h.after (bl1 w _)) (by omega) hM cs hcs n hn bk hbk)
  have HSR := Lib.hid hs
  have HRR := Lib.hid hr
  have HF := Lib.hid hf
  clear h hB hs hr hf
  generalize recTk r = RT at *
  cases hch : r.choice
  · have HPx := Lib.hid (HPU.out [[114, 101, 99, 111, 114, 100], r.name, [123]] #[.string ⟨#[114, 101, 99, 111, 114, 100]⟩, .string (bT r.name), .string ⟨#[123]⟩] rfl (by simp) 3 rfl (w.heap.size + 1) (by simp))
    have HQ1 := Lib.hid (show RT = [[114, 101, 99, 111, 114, 100], r.name, [123]] ++ r.fields.flatMap fldTk ++ [[125]] from by rw [HQ.out, hch]; rfl)
    clear HPU HQ
    rw [hch] at HPx HG0 HP0
    go_enter Tryz.func62, Tryz.ntmps62
    go_wp2_with fail
    refine HPx.out.mono ?_
    rintro e w2 ⟨rfl, hw2, hp2⟩
    have HW2 := Lib.hid hw2
    have HP2 := Lib.hid (HP0.out.trans hp2)
    have HG2 := Lib.hid (hp2.box HG0.out (by decide) (by omega))
    clear hw2 hp2 HPx
    have r2 : w2.cell? ⟨w.heap.size, 2, none⟩ = some (.slice fa r.fields.length fc) := by simp [World.cell?, HG2.out]
    have HH := Lib.hid (show [[114, 101, 99, 111, 114, 100], r.name, [123]].length = 3 from rfl)
    generalize [[114, 101, 99, 111, 114, 100], r.name, [123]] = hd at *
    go_wp2_with fail
    go_loopw [18] (fun vi wr => ∃ k : Nat, k ≤ r.fields.length ∧ vi = .int .i64 (k : Nat) ∧ Hid (Wr wb wr (L ++ hd ++ (r.fields.take k).flatMap fldTk)) ∧ Hid (Pt wb w wr)) (fun vi _ => r.fields.length - (intOf vi).toNat)
    case atStart => exact ⟨0, by omega, rfl, Lib.hid (by simpa using HW2.out), HP2⟩
    case round =>
      clear HW2 HP2 r2
      rename World => wo
      obtain ⟨k, hk, rfl, HW, HP⟩ := hrel
      by_cases hlt : k < r.fields.length
      · obtain ⟨b2, o2, ga2, gc2, rfl, hb2, p0, p1, hs2⟩ := fld_in (HB.out wo HP.out) HSR.out HRR.out hlt
        have HTk := Lib.hid (flat_take fldTk (L ++ hd) r.fields k hlt)
        have htl := HF.out _ (List.getElem_mem hlt)
        have hln : (L ++ hd ++ (r.fields.take k).flatMap fldTk).length ≤ 800000 + hd.length + 40 * 43 := by
          have h1 := flat_len (g := fldTk) (n := 43) (L := r.fields.take k) (fun x hx => fldTk_len (HF.out x (List.mem_of_mem_take hx)))
          have h2 : (r.fields.take k).length ≤ 40 := by rw [List.length_take]; omega
          have h3 : (r.fields.take k).length * 43 ≤ 40 * 43 := Nat.mul_le_mul_right _ h2
          rw [List.length_append, List.length_append]
          omega
        have hhd : hd.length = 3 := HH.out
        generalize L ++ hd ++ (r.fields.take k).flatMap fldTk = Lk at *
        generalize r.fields[k] = f at *
        have HS2 := Lib.hid hs2
        have HFT := Lib.hid (show Lk ++ fldTk f = ((Lk ++ [f.name, [58]]) ++ f.type.map srtT) ++ [[59]] from by simp [fldTk])
        generalize fldTk f = ft at *
        have HG1 := Lib.hid (heap_alloc_new wo (.cells #[.string (bT f.name), .slice ga2 f.type.length gc2] 77))
        have HP1 := Lib.hid (HP.out.newer (.cells #[.string (bT f.name), .slice ga2 f.type.length gc2] 77))
        have hwl := HW.out.lt
        have HPU := Lib.hid (put_new (wo.alloc (.cells #[.string (bT f.name), .slice ga2 f.type.length gc2] 77)) wb Lk [f.name, [58]] (HW.out.after (bl1 wo _)) (by omega) (by simp) #[.string (bT f.name), .string ⟨#[58]⟩] rfl 2 rfl (wo.heap.size + 1) (by simp))
        clear hs2
        go_wp2_with fail
        refine HPU.out.mono ?_
        rintro e w3 ⟨rfl, hw3, hp3⟩
        have HP3 := Lib.hid (HP1.out.trans hp3)
        have HG3 := Lib.hid (hp3.box HG1.out (by decide) (by omega))
        have f1 : w3.cell? ⟨wo.heap.size, 1, none⟩ = some (.slice ga2 f.type.length gc2) := by simp [World.cell?, HG3.out]
        have HSO := Lib.hid (psorts_any w3 wb (Lk ++ [f.name, [58]]) hw3 (.slice ga2 f.type.length gc2) f.type (fun W X => HS2.out.below (HB.out W (HP3.out.trans X))) (by rw [List.length_append]; simp; omega))
        clear hw3 hp3 HPU HG1 HG3
        go_wp2_with fail
        refine HSO.out.mono ?_
        rintro e w4 ⟨rfl, hw4, hp4⟩
        have HP4 := Lib.hid (HP3.out.trans hp4)
        have HPV := Lib.hid (put_new w4 wb ((Lk ++ [f.name, [58]]) ++ f.type.map srtT) [[59]] hw4 (by rw [List.length_append, List.length_append, List.length_map]; simp; omega) (by simp) #[.string ⟨#[59]⟩] rfl 1 rfl w4.heap.size rfl)
        clear hw4 hp4 HSO f1
        go_wp2_with fail
        refine HPV.out.mono ?_
        rintro e w5 ⟨rfl, hw5, hp5⟩
        have HW5 := Lib.hid hw5
        have HP5 := Lib.hid (HP4.out.trans hp5)
        clear hw5 hp5 HPV
        go_wp2_with fail
        exact ⟨⟨k + 1, by omega, by go_num, Lib.hid (by rw [HTk.out, HFT.out]; exact HW5.out), HP5⟩, by simp [intOf]; omega⟩
      have HWz := Lib.hid (show Wr wb wo (L ++ hd ++ r.fields.flatMap fldTk) from by have h := HW.out; rw [List.take_of_length_le (by omega)] at h; exact h)
      have hlz : (L ++ hd ++ r.fields.flatMap fldTk).length ≤ 1000000 := by
        have h1 := flat_len (g := fldTk) (n := 43) (L := r.fields) (fun x hx => fldTk_len (HF.out x hx))
        have h3 : r.fields.length * 43 ≤ 40 * 43 := Nat.mul_le_mul_right _ hn
        have hhd : hd.length = 3 := HH.out
        rw [List.length_append, List.length_append]
        omega
      have HPZ := Lib.hid (put_new wo wb (L ++ hd ++ r.fields.flatMap fldTk) [[125]] HWz.out hlz (by simp) #[.string ⟨#[125]⟩] rfl 1 rfl wo.heap.size rfl)
      clear HW HWz
      go_wp2_with fail
      refine HPZ.out.mono ?_
      rintro e w6 ⟨rfl, hw6, hp6⟩
      have HW6 := Lib.hid hw6
      have HP6 := Lib.hid (HP.out.trans hp6)
      clear hw6 hp6
      go_wp2_with fail
      go_end0
      exact ⟨rfl, by rw [HQ1.out, ← List.append_assoc, ← List.append_assoc]; exact HW6.out, HP6.out⟩
  · have HPx := Lib.hid (HPU.out [[99, 104, 111, 105, 99, 101], r.name, [123]] #[.string ⟨#[99, 104, 111, 105, 99, 101]⟩, .string (bT r.name), .string ⟨#[123]⟩] rfl (by simp) 3 rfl (w.heap.size + 1) (by simp))
    have HQ1 := Lib.hid (show RT = [[99, 104, 111, 105, 99, 101], r.name, [123]] ++ r.fields.flatMap fldTk ++ [[125]] from by rw [HQ.out, hch]; rfl)
    clear HPU HQ
    rw [hch] at HPx HG0 HP0
    go_enter Tryz.func62, Tryz.ntmps62
    go_wp2_with fail
    refine HPx.out.mono ?_
    rintro e w2 ⟨rfl, hw2, hp2⟩
    have HW2 := Lib.hid hw2
    have HP2 := Lib.hid (HP0.out.trans hp2)
    have HG2 := Lib.hid (hp2.box HG0.out (by decide) (by omega))
    clear hw2 hp2 HPx
    have r2 : w2.cell? ⟨w.heap.size, 2, none⟩ = some (.slice fa r.fields.length fc) := by simp [World.cell?, HG2.out]
    have HH := Lib.hid (show [[99, 104, 111, 105, 99, 101], r.name, [123]].length = 3 from rfl)
    generalize [[99, 104, 111, 105, 99, 101], r.name, [123]] = hd at *
    go_wp2_with fail
    go_loopw [18] (fun vi wr => ∃ k : Nat, k ≤ r.fields.length ∧ vi = .int .i64 (k : Nat) ∧ Hid (Wr wb wr (L ++ hd ++ (r.fields.take k).flatMap fldTk)) ∧ Hid (Pt wb w wr)) (fun vi _ => r.fields.length - (intOf vi).toNat)
    case atStart => exact ⟨0, by omega, rfl, Lib.hid (by simpa using HW2.out), HP2⟩
    case round =>
      clear HW2 HP2 r2
      rename World => wo
      obtain ⟨k, hk, rfl, HW, HP⟩ := hrel
      by_cases hlt : k < r.fields.length
      · obtain ⟨b2, o2, ga2, gc2, rfl, hb2, p0, p1, hs2⟩ := fld_in (HB.out wo HP.out) HSR.out HRR.out hlt
        have HTk := Lib.hid (flat_take fldTk (L ++ hd) r.fields k hlt)
        have htl := HF.out _ (List.getElem_mem hlt)
        have hln : (L ++ hd ++ (r.fields.take k).flatMap fldTk).length ≤ 800000 + hd.length + 40 * 43 := by
          have h1 := flat_len (g := fldTk) (n := 43) (L := r.fields.take k) (fun x hx => fldTk_len (HF.out x (List.mem_of_mem_take hx)))
          have h2 : (r.fields.take k).length ≤ 40 := by rw [List.length_take]; omega
          have h3 : (r.fields.take k).length * 43 ≤ 40 * 43 := Nat.mul_le_mul_right _ h2
          rw [List.length_append, List.length_append]
          omega
        have hhd : hd.length = 3 := HH.out
        generalize L ++ hd ++ (r.fields.take k).flatMap fldTk = Lk at *
        generalize r.fields[k] = f at *
        have HS2 := Lib.hid hs2
        have HFT := Lib.hid (show Lk ++ fldTk f = ((Lk ++ [f.name, [58]]) ++ f.type.map srtT) ++ [[59]] from by simp [fldTk])
        generalize fldTk f = ft at *
        have HG1 := Lib.hid (heap_alloc_new wo (.cells #[.string (bT f.name), .slice ga2 f.type.length gc2] 77))
        have HP1 := Lib.hid (HP.out.newer (.cells #[.string (bT f.name), .slice ga2 f.type.length gc2] 77))
        have hwl := HW.out.lt
        have HPU := Lib.hid (put_new (wo.alloc (.cells #[.string (bT f.name), .slice ga2 f.type.length gc2] 77)) wb Lk [f.name, [58]] (HW.out.after (bl1 wo _)) (by omega) (by simp) #[.string (bT f.name), .string ⟨#[58]⟩] rfl 2 rfl (wo.heap.size + 1) (by simp))
        clear hs2
        go_wp2_with fail
        refine HPU.out.mono ?_
        rintro e w3 ⟨rfl, hw3, hp3⟩
        have HP3 := Lib.hid (HP1.out.trans hp3)
        have HG3 := Lib.hid (hp3.box HG1.out (by decide) (by omega))
        have f1 : w3.cell? ⟨wo.heap.size, 1, none⟩ = some (.slice ga2 f.type.length gc2) := by simp [World.cell?, HG3.out]
        have HSO := Lib.hid (psorts_any w3 wb (Lk ++ [f.name, [58]]) hw3 (.slice ga2 f.type.length gc2) f.type (fun W X => HS2.out.below (HB.out W (HP3.out.trans X))) (by rw [List.length_append]; simp; omega))
        clear hw3 hp3 HPU HG1 HG3
        go_wp2_with fail
        refine HSO.out.mono ?_
        rintro e w4 ⟨rfl, hw4, hp4⟩
        have HP4 := Lib.hid (HP3.out.trans hp4)
        have HPV := Lib.hid (put_new w4 wb ((Lk ++ [f.name, [58]]) ++ f.type.map srtT) [[59]] hw4 (by rw [List.length_append, List.length_append, List.length_map]; simp; omega) (by simp) #[.string ⟨#[59]⟩] rfl 1 rfl w4.heap.size rfl)
        clear hw4 hp4 HSO f1
        go_wp2_with fail
        refine HPV.out.mono ?_
        rintro e w5 ⟨rfl, hw5, hp5⟩
        have HW5 := Lib.hid hw5
        have HP5 := Lib.hid (HP4.out.trans hp5)
        clear hw5 hp5 HPV
        go_wp2_with fail
        exact ⟨⟨k + 1, by omega, by go_num, Lib.hid (by rw [HTk.out, HFT.out]; exact HW5.out), HP5⟩, by simp [intOf]; omega⟩
      have HWz := Lib.hid (show Wr wb wo (L ++ hd ++ r.fields.flatMap fldTk) from by have h := HW.out; rw [List.take_of_length_le (by omega)] at h; exact h)
      have hlz : (L ++ hd ++ r.fields.flatMap fldTk).length ≤ 1000000 := by
        have h1 := flat_len (g := fldTk) (n := 43) (L := r.fields) (fun x hx => fldTk_len (HF.out x hx))
        have h3 : r.fields.length * 43 ≤ 40 * 43 := Nat.mul_le_mul_right _ hn
        have hhd : hd.length = 3 := HH.out
        rw [List.length_append, List.length_append]
        omega
      have HPZ := Lib.hid (put_new wo wb (L ++ hd ++ r.fields.flatMap fldTk) [[125]] HWz.out hlz (by simp) #[.string ⟨#[125]⟩] rfl 1 rfl wo.heap.size rfl)
      clear HW HWz
      go_wp2_with fail
      refine HPZ.out.mono ?_
      rintro e w6 ⟨rfl, hw6, hp6⟩
      have HW6 := Lib.hid hw6
      have HP6 := Lib.hid (HP.out.trans hp6)
      clear hw6 hp6
      go_wp2_with fail
      go_end0
      exact ⟨rfl, by rw [HQ1.out, ← List.append_assoc, ← List.append_assoc]; exact HW6.out, HP6.out⟩
end

section
open Go.RowKit


def mthTk (m : Mth) : List Tx := ([m.effect, m.name, [40], m.arg, [41], [45, 62]] ++ [srtT ⟨m.result, []⟩]) ++ (if m.undo = [] then [] else [[117, 110, 100, 111], m.undo]) ++ [[59]]
def svcTk (v : Svc) : List Tx := [[115, 101, 114, 118, 105, 99, 101], v.name, [123]] ++ v.methods.flatMap mthTk ++ [[125]]
theorem mthTk_len (m : Mth) : (mthTk m).length ≤ 10 := by
  unfold mthTk
  split <;> simp
theorem Slc.one {w : World} {b k : Nat} {cs : Array Value} {T : TypeId} (hg : w.heap[b]? = some (.cells cs T (0, 0))) (hk : cs.size = k) : Slc w k (.slice (some ⟨b, 0, none⟩) 1 1) 1 cs.toList := by
  refine ⟨⟨_, _, rfl, Nat.le_refl _, by decide, (fun h => by cases h), fun _ => ⟨b, 0, rfl, (Array.getElem?_eq_some_iff.1 hg).1, fun j u hu => ?_⟩⟩, by simp [hk]⟩
  simp only [World.cell?, hg]
  simpa using hu
set_option maxRecDepth 100000 in
set_option maxHeartbeats 8000000 in
theorem pservice_any (w0 w : World) (hB : Below w0.heap.size w0 w) (wb : Nat) (hwb : w0.heap.size ≤ wb) (L : List Tx) (h : Wr wb w L) (hl : L.length ≤ 800000) (r : Svc) (fa : Option Addr) (fc : Nat) (hs : Slc w0 5 (.slice fa r.methods.length fc) r.methods.length (mcells r.methods)) (hn : r.methods.length ≤ 40) :
    Calls Tryz.prog 63 #[.pointer (some ⟨wb, 0, none⟩), .agg #[.string (bT r.name), .slice fa r.methods.length fc]] w fun e w' => e = .returned (.tuple #[]) ∧ Wr wb w' (L ++ svcTk r) ∧ Pt wb w w' := by
  have hlw := h.lt
  have HB := Lib.hid (fun W (X : Pt wb w W) => X.below hB hwb (by omega))
  have HG0 := Lib.hid (heap_alloc_new w (.cells #[.string (bT r.name), .slice fa r.methods.length fc] 112))
  have HP0 := Lib.hid (Pt.of_below (wb := wb) (bl1 w (.cells #[.string (bT r.name), .slice fa r.methods.length fc] 112)))
  have HQ1 := Lib.hid (show svcTk r = [[115, 101, 114, 118, 105, 99, 101], r.name, [123]] ++ r.methods.flatMap mthTk ++ [[125]] from rfl)
  have HPx := Lib.hid (put_new (w.alloc (.cells #[.string (bT r.name), .slice fa r.methods.length fc] 112)) wb L [[115, 101, 114, 118, 105, 99, 101], r.name, [123]] (h.after (bl1 w _)) (by omega) (by simp) #[.string ⟨#[115, 101, 114, 118, 105, 99, 101]⟩, .string (bT r.name), .string ⟨#[123]⟩] rfl 3 rfl (w.heap.size + 1) (by simp))
  have HSR := Lib.hid hs
  clear h hB hs
  generalize svcTk r = RT at *
  go_enter Tryz.func63, Tryz.ntmps63
  go_wp2_with fail
  refine HPx.out.mono ?_
  rintro e w2 ⟨rfl, hw2, hp2⟩
  have HW2 := Lib.hid hw2
  have HP2 := Lib.hid (HP0.out.trans hp2)
  have HG2 := Lib.hid (hp2.box HG0.out (by decide) (by omega))
  clear hw2 hp2 HPx
  have r2 : w2.cell? ⟨w.heap.size, 1, none⟩ = some (.slice fa r.methods.length fc) := by simp [World.cell?, HG2.out]
  have HH := Lib.hid (show [[115, 101, 114, 118, 105, 99, 101], r.name, [123]].length = 3 from rfl)
  generalize [[115, 101, 114, 118, 105, 99, 101], r.name, [123]] = hd at *
  go_wp2_with fail
  go_loopw [14] (fun vi wr => ∃ k : Nat, k ≤ r.methods.length ∧ vi = .int .i64 (k : Nat) ∧ Hid (Wr wb wr (L ++ hd ++ (r.methods.take k).flatMap mthTk)) ∧ Hid (Pt wb w wr)) (fun vi _ => r.methods.length - (intOf vi).toNat)
  case atStart => exact ⟨0, by omega, rfl, Lib.hid (by simpa using HW2.out), HP2⟩
  case round =>
    clear HW2 HP2 r2
    rename World => wo
    obtain ⟨k, hk, rfl, HW, HP⟩ := hrel
    by_cases hlt : k < r.methods.length
    · obtain ⟨b2, o2, rfl, hb2, p0, p1, p2, p3, p4⟩ := mth_in (HB.out wo HP.out) HSR.out hlt
      have HTk := Lib.hid (flat_take mthTk (L ++ hd) r.methods k hlt)
      have hln : (L ++ hd ++ (r.methods.take k).flatMap mthTk).length ≤ 800000 + hd.length + 40 * 10 := by
        have h1 := flat_len (g := mthTk) (n := 10) (L := r.methods.take k) (fun x _ => mthTk_len x)
        have h2 : (r.methods.take k).length ≤ 40 := by rw [List.length_take]; omega
        have h3 : (r.methods.take k).length * 10 ≤ 40 * 10 := Nat.mul_le_mul_right _ h2
        rw [List.length_append, List.length_append]
        omega
      have hhd : hd.length = 3 := HH.out
      generalize L ++ hd ++ (r.methods.take k).flatMap mthTk = Lk at *
      generalize r.methods[k] = x at *
      have HFT := Lib.hid (show Lk ++ mthTk x = ((Lk ++ [x.effect, x.name, [40], x.arg, [41], [45, 62]]) ++ [(⟨x.result, []⟩ : Srt)].map srtT) ++ (if x.undo = [] then [] else [[117, 110, 100, 111], x.undo]) ++ [[59]] from by simp [mthTk])
      generalize mthTk x = ft at *
      have HG1 := Lib.hid (heap_alloc_new wo (.cells #[.string (bT x.name), .string (bT x.arg), .int .u8 (x.result : Nat), .string (bT x.effect), .string (bT x.undo)] 92))
      have HP1 := Lib.hid (HP.out.newer (.cells #[.string (bT x.name), .string (bT x.arg), .int .u8 (x.result : Nat), .string (bT x.effect), .string (bT x.undo)] 92))
      have hwl := HW.out.lt
      have HPU := Lib.hid (put_new (wo.alloc (.cells #[.string (bT x.name), .string (bT x.arg), .int .u8 (x.result : Nat), .string (bT x.effect), .string (bT x.undo)] 92)) wb Lk [x.effect, x.name, [40], x.arg, [41], [45, 62]] (HW.out.after (bl1 wo _)) (by omega) (by simp) #[.string (bT x.effect), .string (bT x.name), .string ⟨#[40]⟩, .string (bT x.arg), .string ⟨#[41]⟩, .string ⟨#[45, 62]⟩] rfl 6 rfl (wo.heap.size + 1) (by simp))
      go_wp2_with fail
      refine HPU.out.mono ?_
      rintro e w3 ⟨rfl, hw3, hp3⟩
      have HP3 := Lib.hid (HP1.out.trans hp3)
      have HG3 := Lib.hid (hp3.box HG1.out (by decide) (by omega))
      have f2 : w3.cell? ⟨wo.heap.size, 2, none⟩ = some (.int .u8 (x.result : Nat)) := by simp [World.cell?, HG3.out]
      have HG4 := Lib.hid (heap_alloc_new w3 (.cells #[.int .u8 (x.result : Nat), .string ⟨#[]⟩] 79))
      have HP4 := Lib.hid (HP3.out.newer (.cells #[.int .u8 (x.result : Nat), .string ⟨#[]⟩] 79))
      have hw3l := hw3.lt
      have HG3b := Lib.hid ((Below.heap_alloc w3 (.cells #[.int .u8 (x.result : Nat), .string ⟨#[]⟩] 79) wo.heap.size (Array.getElem?_eq_some_iff.1 HG3.out).1).trans HG3.out)
      have HSO := Lib.hid (psorts_any (w3.alloc (.cells #[.int .u8 (x.result : Nat), .string ⟨#[]⟩] 79)) wb _ (hw3.after (bl1 w3 _)) (.slice (some ⟨w3.heap.size, 0, none⟩) 1 1) [⟨x.result, []⟩] (fun W X => Slc.one (X.box HG4.out (by decide) (by omega)) rfl) (by rw [List.length_append]; simp; omega))
      clear hw3 hp3 HPU HG1
      go_wp2_with fail
      refine HSO.out.mono ?_
      rintro e w5 ⟨rfl, hw5, hp5⟩
      have HP5 := Lib.hid (HP4.out.trans hp5)
      have HG5 := Lib.hid (hp5.box HG3b.out (by decide) (by omega))
      have f4 : w5.cell? ⟨wo.heap.size, 4, none⟩ = some (.string (bT x.undo)) := by simp [World.cell?, HG5.out]
      have e_u := bT_is x.undo []
      have hl5 : ((Lk ++ [x.effect, x.name, [40], x.arg, [41], [45, 62]]) ++ [(⟨x.result, []⟩ : Srt)].map srtT).length ≤ 900000 := by rw [List.length_append, List.length_append, List.length_map]; simp; omega
      generalize (Lk ++ [x.effect, x.name, [40], x.arg, [41], [45, 62]]) ++ [(⟨x.result, []⟩ : Srt)].map srtT = L5 at *
      have HW5 := Lib.hid hw5
      clear hw5 hp5 HSO f2 HG3 HG3b HG4 HG5
      by_cases hu : x.undo = []
      · rw [decide_eq_true hu] at e_u
        have f_u : (!((bT x.undo).toList == [])) = false := by rw [e_u]; rfl
        have HFU := Lib.hid (show Lk ++ ft = L5 ++ [[59]] from by rw [HFT.out, if_pos hu]; simp)
        have HPV := Lib.hid (put_new w5 wb L5 [[59]] HW5.out (by omega) (by simp) #[.string ⟨#[59]⟩] rfl 1 rfl w5.heap.size rfl)
        clear hu HFT
        go_wp2_with fail
        refine HPV.out.mono ?_
        rintro e w6 ⟨rfl, hw6, hp6⟩
        have HW6 := Lib.hid hw6
        have HP6 := Lib.hid (HP5.out.trans hp6)
        clear hw6 hp6 HPV
        go_wp2_with fail
        exact ⟨⟨k + 1, by omega, by go_num, Lib.hid (by rw [HTk.out, HFU.out]; exact HW6.out), HP6⟩, by simp [intOf]; omega⟩
      · rw [decide_eq_false hu] at e_u
        have f_u : (!((bT x.undo).toList == [])) = true := by rw [e_u]; rfl
        have HFU := Lib.hid (show Lk ++ ft = (L5 ++ [[117, 110, 100, 111], x.undo]) ++ [[59]] from by rw [HFT.out, if_neg hu])
        have HPT := Lib.hid (put_new w5 wb L5 [[117, 110, 100, 111], x.undo] HW5.out (by omega) (by simp) #[.string ⟨#[117, 110, 100, 111]⟩, .string (bT x.undo)] rfl 2 rfl w5.heap.size rfl)
        clear hu HFT
        go_wp2_with fail
        refine HPT.out.mono ?_
        rintro e w6 ⟨rfl, hw6, hp6⟩
        have HP6 := Lib.hid (HP5.out.trans hp6)
        have HPV := Lib.hid (put_new w6 wb (L5 ++ [[117, 110, 100, 111], x.undo]) [[59]] hw6 (by rw [List.length_append]; simp; omega) (by simp) #[.string ⟨#[59]⟩] rfl 1 rfl w6.heap.size rfl)
        clear hw6 hp6 HPT f4
        go_wp2_with fail
        refine HPV.out.mono ?_
        rintro e w7 ⟨rfl, hw7, hp7⟩
        have HW7 := Lib.hid hw7
        have HP7 := Lib.hid (HP6.out.trans hp7)
        clear hw7 hp7 HPV
        go_wp2_with fail
        exact ⟨⟨k + 1, by omega, by go_num, Lib.hid (by rw [HTk.out, HFU.out]; exact HW7.out), HP7⟩, by simp [intOf]; omega⟩
    have HWz := Lib.hid (show Wr wb wo (L ++ hd ++ r.methods.flatMap mthTk) from by have h := HW.out; rw [List.take_of_length_le (by omega)] at h; exact h)
    have hlz : (L ++ hd ++ r.methods.flatMap mthTk).length ≤ 1000000 := by
      have h1 := flat_len (g := mthTk) (n := 10) (L := r.methods) (fun x _ => mthTk_len x)
      have h3 : r.methods.length * 10 ≤ 40 * 10 := Nat.mul_le_mul_right _ hn
      have hhd : hd.length = 3 := HH.out
      rw [List.length_append, List.length_append]
      omega
    have HPZ := Lib.hid (put_new wo wb (L ++ hd ++ r.methods.flatMap mthTk) [[125]] HWz.out hlz (by simp) #[.string ⟨#[125]⟩] rfl 1 rfl wo.heap.size rfl)
    clear HW HWz
    go_wp2_with fail
    refine HPZ.out.mono ?_
    rintro e w6 ⟨rfl, hw6, hp6⟩
    have HW6 := Lib.hid hw6
    have HP6 := Lib.hid (HP.out.trans hp6)
    clear hw6 hp6
    go_wp2_with fail
    go_end0
    exact ⟨rfl, by rw [HQ1.out, ← List.append_assoc, ← List.append_assoc]; exact HW6.out, HP6.out⟩
end

section
open Go.RowKit


def stpTk (x : Stp) : List Tx := [[100, 111], x.service, [46], x.method, [97, 116], Lib.decDigits x.node.toNat, [59]]
def sagTk (g : Sga) : List Tx := [[115, 97, 103, 97], g.name, [40], g.arg, [41], [123]] ++ g.steps.flatMap stpTk ++ [[125]]
set_option maxRecDepth 100000 in
set_option maxHeartbeats 8000000 in
theorem psaga_any (w0 w : World) (hB : Below w0.heap.size w0 w) (wb : Nat) (hwb : w0.heap.size ≤ wb) (L : List Tx) (h : Wr wb w L) (hl : L.length ≤ 800000) (r : Sga) (fa : Option Addr) (fc : Nat) (hs : Slc w0 3 (.slice fa r.steps.length fc) r.steps.length (pcells r.steps)) (hn : r.steps.length ≤ 40) (hx : ∀ x ∈ r.steps, 0 ≤ x.node ∧ x.node < 100) :
    Calls Tryz.prog 64 #[.pointer (some ⟨wb, 0, none⟩), .agg #[.string (bT r.name), .string (bT r.arg), .slice fa r.steps.length fc]] w fun e w' => e = .returned (.tuple #[]) ∧ Wr wb w' (L ++ sagTk r) ∧ Pt wb w w' := by
  have hlw := h.lt
  have HB := Lib.hid (fun W (X : Pt wb w W) => X.below hB hwb (by omega))
  have HG0 := Lib.hid (heap_alloc_new w (.cells #[.string (bT r.name), .string (bT r.arg), .slice fa r.steps.length fc] 67))
  have HP0 := Lib.hid (Pt.of_below (wb := wb) (bl1 w (.cells #[.string (bT r.name), .string (bT r.arg), .slice fa r.steps.length fc] 67)))
  have HQ1 := Lib.hid (show sagTk r = [[115, 97, 103, 97], r.name, [40], r.arg, [41], [123]] ++ r.steps.flatMap stpTk ++ [[125]] from rfl)
  have HPx := Lib.hid (put_new (w.alloc (.cells #[.string (bT r.name), .string (bT r.arg), .slice fa r.steps.length fc] 67)) wb L [[115, 97, 103, 97], r.name, [40], r.arg, [41], [123]] (h.after (bl1 w _)) (by omega) (by simp) #[.string ⟨#[115, 97, 103, 97]⟩, .string (bT r.name), .string ⟨#[40]⟩, .string (bT r.arg), .string ⟨#[41]⟩, .string ⟨#[123]⟩] rfl 6 rfl (w.heap.size + 1) (by simp))
  have HSR := Lib.hid hs
  have HXR := Lib.hid hx
  clear h hB hs hx
  generalize sagTk r = RT at *
  go_enter Tryz.func64, Tryz.ntmps64
  go_wp2_with fail
  refine HPx.out.mono ?_
  rintro e w2 ⟨rfl, hw2, hp2⟩
  have HW2 := Lib.hid hw2
  have HP2 := Lib.hid (HP0.out.trans hp2)
  have HG2 := Lib.hid (hp2.box HG0.out (by decide) (by omega))
  clear hw2 hp2 HPx
  have r2 : w2.cell? ⟨w.heap.size, 2, none⟩ = some (.slice fa r.steps.length fc) := by simp [World.cell?, HG2.out]
  have HH := Lib.hid (show [[115, 97, 103, 97], r.name, [40], r.arg, [41], [123]].length = 6 from rfl)
  generalize [[115, 97, 103, 97], r.name, [40], r.arg, [41], [123]] = hd at *
  go_wp2_with fail
  go_loopw [16] (fun vi wr => ∃ k : Nat, k ≤ r.steps.length ∧ vi = .int .i64 (k : Nat) ∧ Hid (Wr wb wr (L ++ hd ++ (r.steps.take k).flatMap stpTk)) ∧ Hid (Pt wb w wr)) (fun vi _ => r.steps.length - (intOf vi).toNat)
  case atStart => exact ⟨0, by omega, rfl, Lib.hid (by simpa using HW2.out), HP2⟩
  case round =>
    clear HW2 HP2 r2
    rename World => wo
    obtain ⟨k, hk, rfl, HW, HP⟩ := hrel
    by_cases hlt : k < r.steps.length
    · obtain ⟨b2, o2, rfl, hb2, p0, p1, p2⟩ := stp_in (HB.out wo HP.out) HSR.out hlt
      have HTk := Lib.hid (flat_take stpTk (L ++ hd) r.steps k hlt)
      have hxn := HXR.out _ (List.getElem_mem hlt)
      have hln : (L ++ hd ++ (r.steps.take k).flatMap stpTk).length ≤ 800000 + hd.length + 40 * 7 := by
        have h1 := flat_len (g := stpTk) (n := 7) (L := r.steps.take k) (fun x _ => Nat.le_refl _)
        have h2 : (r.steps.take k).length ≤ 40 := by rw [List.length_take]; omega
        have h3 : (r.steps.take k).length * 7 ≤ 40 * 7 := Nat.mul_le_mul_right _ h2
        rw [List.length_append, List.length_append]
        omega
      have hhd : hd.length = 6 := HH.out
      generalize L ++ hd ++ (r.steps.take k).flatMap stpTk = Lk at *
      generalize r.steps[k] = x at *
      have HFT := Lib.hid (show stpTk x = [[100, 111], x.service, [46], x.method, [97, 116], Lib.decDigits x.node.toNat, [59]] from rfl)
      generalize stpTk x = ft at *
      have hwl := HW.out.lt
      go_wp2_with fail
      generalize hw1 : wo.alloc (.cells #[.string (bT x.service), .string (bT x.method), .int .i64 x.node] 108) = w1
      have HG1 := Lib.hid (show w1.heap[wo.heap.size]? = some (.cells #[.string (bT x.service), .string (bT x.method), .int .i64 x.node] 108 (0, 0)) from hw1 ▸ heap_alloc_new _ _)
      have HP1 := Lib.hid (show Pt wb w w1 from hw1 ▸ HP.out.newer _)
      have HW1 := Lib.hid (show Wr wb w1 Lk from hw1 ▸ HW.out.after (bl1 wo _))
      have hsz1 : w1.heap.size = wo.heap.size + 1 := by rw [← hw1]; simp
      clear hw1
      have HS1 := Lib.hid (fun W (X : Below w1.heap.size w1 W) => show (fun W => W.cell? ⟨wo.heap.size, 0, none⟩ = some (.string (bT x.service)) ∧ W.cell? ⟨wo.heap.size, 1, none⟩ = some (.string (bT x.method)) ∧ W.cell? ⟨wo.heap.size, 2, none⟩ = some (.int .i64 x.node)) W from ⟨by simp [World.cell?, (X.block wo.heap.size (by omega)).trans HG1.out], by simp [World.cell?, (X.block wo.heap.size (by omega)).trans HG1.out], by simp [World.cell?, (X.block wo.heap.size (by omega)).trans HG1.out]⟩)
      have HB1 := Lib.hid (Below.refl w1.heap.size w1).drew
      obtain ⟨e0, e1, e2⟩ := HS1.out w1 (Below.refl _ _)
      have HI := Lib.hid (fun W => show Calls Tryz.prog 95 #[.int .i64 x.node] W _ from (show ((x.node.toNat : Nat) : Int) = x.node from by omega) ▸ Tryz.strconv_Itoa_small x.node.toNat (by omega) W)
      have HDD := Lib.hid (show (⟨(Lib.decDigits x.node.toNat).toArray⟩ : ByteArray) = bT (Lib.decDigits x.node.toNat) from rfl)
      have HPU := Lib.hid (fun W (X : Below w1.heap.size w1 W) (hX : W.heap[wo.heap.size + 1]? = some (.cells #[.string ⟨#[100, 111]⟩, .string (bT x.service), .string ⟨#[46]⟩, .string (bT x.method), .string ⟨#[97, 116]⟩, .string ⟨(Lib.decDigits x.node.toNat).toArray⟩, .string ⟨#[59]⟩] 9 (0, 0))) => put_any W wb Lk ft (HW1.out.after X) (by omega) (wo.heap.size + 1) 0 7 (by rw [HFT.out]; show 7 ≤ 1000; omega) (fun j u hu => by rw [HFT.out] at hu; have h5 : (show List Value from [.string ⟨#[100, 111]⟩, .string (bT x.service), .string ⟨#[46]⟩, .string (bT x.method), .string ⟨#[97, 116]⟩, .string ⟨(Lib.decDigits x.node.toNat).toArray⟩, .string ⟨#[59]⟩])[j]? = some u := hu; simp only [World.cell?, hX]; simpa using h5))
      have HL := Lib.hid (show ft.length = 7 from by rw [HFT.out]; rfl)
      rw [HL.out] at HPU
      have HBa := Lib.hid (fun cs => (bl1 w1 (.cells cs 9)).drew)
      have HBb := Lib.hid (fun cs => (HB1.out.alloc (o := .cells cs 9) HB1.out.size))
      have HNA := Lib.hid (fun cs => show (w1.alloc (.cells cs 9)).drew.heap[wo.heap.size + 1]? = some (.cells cs 9 (0, 0)) from hsz1 ▸ heap_alloc_new w1 _)
      generalize (⟨(Lib.decDigits x.node.toNat).toArray⟩ : ByteArray) = D at *
      clear p0 p1 p2 hb2
      go_region_held3 (fun W => W.cell? ⟨wo.heap.size, 0, none⟩ = some (.string (bT x.service)) ∧ W.cell? ⟨wo.heap.size, 1, none⟩ = some (.string (bT x.method)) ∧ W.cell? ⟨wo.heap.size, 2, none⟩ = some (.int .i64 x.node))
        (first | exact HS1.out _ HB1.out | exact HS1.out _ (HBa.out _) | exact HS1.out _ (HBb.out _) | exact hs3 | assumption)
        (first
          | (go_at_call 95; ((with_reducible refine (HI.out _).mono ?_); rintro e w7 ⟨rfl, rfl⟩))
          | (go_at_call 61; ((with_reducible refine (HPU.out _ (HBa.out _) (HNA.out _)).mono ?_); rintro e w8 ⟨rfl, hw8, hp8⟩; have HP8 := Lib.hid ((HP1.out.trans (Pt.of_below (HBa.out _))).trans hp8); have hs3 := And.intro (show w8.cell? ⟨wo.heap.size, 0, none⟩ = some (.string (bT x.service)) from (by simp [World.cell?, hp8.box (((HBa.out _).block wo.heap.size (by omega)).trans HG1.out) (by decide) (by omega)])) (And.intro (show w8.cell? ⟨wo.heap.size, 1, none⟩ = some (.string (bT x.method)) from (by simp [World.cell?, hp8.box (((HBa.out _).block wo.heap.size (by omega)).trans HG1.out) (by decide) (by omega)])) (show w8.cell? ⟨wo.heap.size, 2, none⟩ = some (.int .i64 x.node) from (by simp [World.cell?, hp8.box (((HBa.out _).block wo.heap.size (by omega)).trans HG1.out) (by decide) (by omega)]))))))
      all_goals
        have HW8 := Lib.hid hw8
        clear hw8 hp8 hs3
        go_wp2_with fail
        exact ⟨⟨k + 1, by omega, by go_num, Lib.hid (by rw [HTk.out]; exact HW8.out), HP8⟩, by simp [intOf]; omega⟩
    have HWz := Lib.hid (show Wr wb wo (L ++ hd ++ r.steps.flatMap stpTk) from by have h := HW.out; rw [List.take_of_length_le (by omega)] at h; exact h)
    have hlz : (L ++ hd ++ r.steps.flatMap stpTk).length ≤ 1000000 := by
      have h1 := flat_len (g := stpTk) (n := 7) (L := r.steps) (fun x _ => Nat.le_refl _)
      have h3 : r.steps.length * 7 ≤ 40 * 7 := Nat.mul_le_mul_right _ hn
      have hhd : hd.length = 6 := HH.out
      rw [List.length_append, List.length_append]
      omega
    have HPZ := Lib.hid (put_new wo wb (L ++ hd ++ r.steps.flatMap stpTk) [[125]] HWz.out hlz (by simp) #[.string ⟨#[125]⟩] rfl 1 rfl wo.heap.size rfl)
    clear HW HWz
    go_wp2_with fail
    refine HPZ.out.mono ?_
    rintro e w6 ⟨rfl, hw6, hp6⟩
    have HW6 := Lib.hid hw6
    have HP6 := Lib.hid (HP.out.trans hp6)
    clear hw6 hp6
    go_wp2_with fail
    go_end0
    exact ⟨rfl, by rw [HQ1.out, ← List.append_assoc, ← List.append_assoc]; exact HW6.out, HP6.out⟩
end
end Go.Proofs.YtgoejmheihgpfaaGreatDoor
