/- Lemmas for ModelStays' proof. -/
import Derived.Test.YtgoejmheihgpfaaGreatDoorRx
namespace Go.Proofs.YtgoejmheihgpfaaGreatDoor
set_option maxRecDepth 100000
set_option maxHeartbeats 16000000
open Go.RowKit
theorem allE_take {α : Type} {p : α → Prop} {l : List α} {k : Nat} (hk : k < l.length) (h : ∀ x ∈ l.take k, p x) (hp : p l[k]) : ∀ x ∈ l.take (k + 1), p x := fun x hx => by
 rw [List.take_succ_eq_append_getElem hk] at hx
 rcases List.mem_append.1 hx with hx | hx
 ·exact h x hx
 ·rw [List.mem_singleton.1 hx]; exact hp
theorem allE_end {α : Type} {p : α → Prop} {l : List α} {k : Nat} (hk : ¬ k < l.length) (h : ∀ x ∈ l.take k, p x) : ∀ x ∈ l, p x := by
 rwa [List.take_of_length_le (by omega)] at h
theorem Slc.bd {w : World} {k : Nat} {v : Value} {n : Nat} {xs : List Value} (h : Slc w k v n xs) : n ≤ 9223372036854775807 := by
 obtain ⟨⟨a, c, _, h1, h2, _⟩, _⟩ := h
 omega
def SrtOk (t : Srt) : Prop := t.name.length ≤ 200
def FldOk (f : Fld) : Prop := f.name.length ≤ 200 ∧ f.type.length ≤ 40 ∧ ∀ t ∈ f.type, SrtOk t
def RecOk (r : Rec) : Prop := r.name.length ≤ 200 ∧ r.fields.length ≤ 40 ∧ ∀ f ∈ r.fields, FldOk f
def MthOk (m : Mth) : Prop := m.name.length ≤ 200 ∧ m.arg.length ≤ 200 ∧ m.effect.length ≤ 200 ∧ m.undo.length ≤ 200
def SvcOk (v : Svc) : Prop := v.name.length ≤ 200 ∧ v.methods.length ≤ 40 ∧ ∀ m ∈ v.methods, MthOk m
def StpOk (x : Stp) : Prop := x.service.length ≤ 200 ∧ x.method.length ≤ 200
def SgaOk (g : Sga) : Prop := g.name.length ≤ 200 ∧ g.arg.length ≤ 200 ∧ g.steps.length ≤ 40 ∧ ∀ x ∈ g.steps, StpOk x
def GrB (X : Prop) (x : Ending) : Prop := ∃ b, x = .returned (.bool b) ∧ (b = false → X)
theorem greatServices_any (w : World) (s : Sch) (ur us ug : Value) (hS : SchR w s ur us ug) : Calls Tryz.prog 18 #[.agg #[sT s.name, ur, us, ug]] w fun x w' => GrB (∀ v ∈ s.services, SvcOk v) x ∧ Below w.heap.size w w' := by
 obtain ⟨⟨ra, rv, rfl⟩, ⟨sa, sv, rfl⟩, ⟨ga, gv, rfl⟩⟩ := hS.shape
 have HS := zD (fun W (h : Below w.heap.size w W) => hS.below h)
 have HBw := zD (bl1 w (.cells (sV s ra sa ga rv sv gv) 26))
 have hnr : s.records.length ≤ 9223372036854775807 := by obtain ⟨_, h, _⟩ := hS.rc; exact h.bd
 have hns : s.services.length ≤ 9223372036854775807 := by obtain ⟨_, h, _⟩ := hS.sv; exact h.bd
 have hng : s.sagas.length ≤ 9223372036854775807 := by obtain ⟨_, h, _⟩ := hS.sg; exact h.bd
 clear hS
 go_enter Tryz.func18, Tryz.ntmps18
 go_wp2_with fail
 generalize hwa : w.alloc (.cells (sV s ra sa ga rv sv gv) 26) = wa at *
 have HXa := zD (show wa.heap[w.heap.size]? = some (.cells (sV s ra sa ga rv sv gv) 26 (0, 0)) from hwa ▸ zw _ _)
 clear hwa
 have HX0 := zD (fun W (X : Below wa.heap.size wa W) => show W.heap[w.heap.size]? = some (.cells (sV s ra sa ga rv sv gv) 26 (0, 0)) from (X.block _ (zq HXa.out).1).trans HXa.out)
 go_loopw [3] (fun vi wr => ∃ k0 : Nat, k0 ≤ s.services.length ∧ vi = iV (k0 : Nat) ∧ Hid (Below wa.heap.size wa wr) ∧ Hid (∀ x ∈ s.services.take k0, SvcOk x)) (fun vi _ => s.services.length - (intOf vi).toNat)
 case atStart => exact ⟨0, by omega, rfl, zD zl, zD (fun _ h => by simp at h)⟩
 case round =>
  rename World => v0
  obtain ⟨k0, hk0, rfl, HB0, HQ0⟩ := hrel; have HW0 := zD (show Below w.heap.size w v0 from HBw.out.trans (HB0.out.mono HBw.out.size)); have hx0 := HX0.out v0 HB0.out; have c0 := zG hx0 2 rfl; have hl0 : w.heap.size < v0.heap.size := (zq hx0).1; clear hx0; by_cases hlt0 : k0 < s.services.length
  ·obtain ⟨xr, hx1, hx2⟩ := (HS.out v0 HW0.out).sv
   obtain ⟨b0, o0, fa0, fc0, rfl, hb0, q0, q1, hs0⟩ := svc_at hx1 hx2 hlt0; have HS0 := zD hs0; clear hx1 hx2 hs0; have HN0 := zD (fun h => allE_take (p := SvcOk) hlt0 HQ0.out h); generalize s.services[k0] = r0 at *; have HBX := zD (show Below w.heap.size w (v0.alloc (.cells #[sT r0.name, .slice fa0 r0.methods.length fc0] 112)) from HW0.out.alloc HW0.out.size _); have z00 := bT_size r0.name; by_cases t00 : 200 < (r0.name.length : Int)
   ·have e00 : decide (200 < (r0.name.length : Int)) = true := zt t00
    go_wp2_with fail; exact zR (v := .bool true) ⟨⟨true, rfl, fun h => by cases h⟩, HBX.out⟩
   have e00 : decide (200 < (r0.name.length : Int)) = false := zf t00; have y00 : r0.name.length ≤ 200 := by omega
   by_cases t01 : 40 < (r0.methods.length : Int)
   ·have e01 : decide (40 < (r0.methods.length : Int)) = true := zt t01
    go_wp2_with fail; exact zR (v := .bool true) ⟨⟨true, rfl, fun h => by cases h⟩, HBX.out⟩
   have e01 : decide (40 < (r0.methods.length : Int)) = false := zf t01; have y01 : r0.methods.length ≤ 40 := by omega
   clear HBX; go_wp2_with fail; generalize hw0 : v0.alloc (.cells #[sT r0.name, .slice fa0 r0.methods.length fc0] 112) = u0 at *; have HBu0 := zD (show Below wa.heap.size wa u0 from hw0 ▸ HB0.out.alloc HB0.out.size _); have HWu0 := zD (show Below w.heap.size w u0 from hw0 ▸ HW0.out.alloc HW0.out.size _); have HDu0 := zD (show Below v0.heap.size v0 u0 from hw0 ▸ bl1 _ _); have hg0 : u0.heap[v0.heap.size]? = some (.cells #[sT r0.name, .slice fa0 r0.methods.length fc0] 112 (0, 0)) := hw0 ▸ zw _ _; clear hw0; have HX1 := zD (fun W (X : Below u0.heap.size u0 W) => show W.heap[v0.heap.size]? = some (.cells #[sT r0.name, .slice fa0 r0.methods.length fc0] 112 (0, 0)) from (X.block _ (zq hg0).1).trans hg0); clear hg0; go_loopw [5] (fun vi wr => ∃ k1 : Nat, k1 ≤ r0.methods.length ∧ vi = iV (k1 : Nat) ∧ Hid (Below u0.heap.size u0 wr) ∧ Hid (∀ x ∈ r0.methods.take k1, MthOk x)) (fun vi _ => r0.methods.length - (intOf vi).toNat)
   case atStart => exact ⟨0, by omega, rfl, zD zl, zD (fun _ h => by simp at h)⟩
   case round =>
    rename World => v1
    obtain ⟨k1, hk1, rfl, HB1, HQ1⟩ := hrel; have HW1 := zD (show Below w.heap.size w v1 from HWu0.out.trans (HB1.out.mono HWu0.out.size)); have hx1 := HX1.out v1 HB1.out; have c1 := zG hx1 1 rfl; have hl1 : v0.heap.size < v1.heap.size := (zq hx1).1; have HD1 := zD (show Below v0.heap.size v0 v1 from HDu0.out.trans (HB1.out.mono HDu0.out.size)); clear hx1; by_cases hlt1 : k1 < r0.methods.length
    ·obtain ⟨b1, o1, rfl, hb1, p0, p1, p2, p3, p4⟩ := mth_at (HS0.out.below HD1.out) hlt1
     have HN1 := zD (fun h => allE_take (p := MthOk) hlt1 HQ1.out h); generalize r0.methods[k1] = r1 at *; have HBX := zD (show Below w.heap.size w (v1.alloc (.cells #[sT r1.name, sT r1.arg, .int .u8 (r1.result : Nat), sT r1.effect, sT r1.undo] 92)) from HW1.out.alloc HW1.out.size _); have z10 := bT_size r1.name; have z11 := bT_size r1.arg; have z12 := bT_size r1.effect; have z13 := bT_size r1.undo; by_cases t10 : 200 < (r1.name.length : Int)
     ·have e10 : decide (200 < (r1.name.length : Int)) = true := zt t10
      go_wp2_with fail; exact zR (v := .bool true) ⟨⟨true, rfl, fun h => by cases h⟩, HBX.out⟩
     have e10 : decide (200 < (r1.name.length : Int)) = false := zf t10; have y10 : r1.name.length ≤ 200 := by omega
     by_cases t11 : 200 < (r1.arg.length : Int)
     ·have e11 : decide (200 < (r1.arg.length : Int)) = true := zt t11
      go_wp2_with fail; exact zR (v := .bool true) ⟨⟨true, rfl, fun h => by cases h⟩, HBX.out⟩
     have e11 : decide (200 < (r1.arg.length : Int)) = false := zf t11; have y11 : r1.arg.length ≤ 200 := by omega
     by_cases t12 : 200 < (r1.effect.length : Int)
     ·have e12 : decide (200 < (r1.effect.length : Int)) = true := zt t12
      go_wp2_with fail; exact zR (v := .bool true) ⟨⟨true, rfl, fun h => by cases h⟩, HBX.out⟩
     have e12 : decide (200 < (r1.effect.length : Int)) = false := zf t12; have y12 : r1.effect.length ≤ 200 := by omega
     by_cases t13 : 200 < (r1.undo.length : Int)
     ·have e13 : decide (200 < (r1.undo.length : Int)) = true := zt t13
      go_wp2_with fail; exact zR (v := .bool true) ⟨⟨true, rfl, fun h => by cases h⟩, HBX.out⟩
     have e13 : decide (200 < (r1.undo.length : Int)) = false := zf t13; have y13 : r1.undo.length ≤ 200 := by omega
     have HE := zD (HN1.out ⟨y10, y11, y12, y13⟩); have HBY := zD (show Below u0.heap.size u0 (v1.alloc (.cells #[sT r1.name, sT r1.arg, .int .u8 (r1.result : Nat), sT r1.effect, sT r1.undo] 92)) from HB1.out.alloc HB1.out.size _); go_wp2_with fail; exact ⟨⟨k1 + 1, by omega, by go_num, HBY, HE⟩, by simp [intOf]; omega⟩
    have HF := zD (HN0.out ⟨y00, y01, allE_end hlt1 HQ1.out⟩); have HBe := zD (show Below wa.heap.size wa v1 from HBu0.out.trans (HB1.out.mono HBu0.out.size)); go_wp2_with fail; exact ⟨⟨k0 + 1, by omega, by go_num, HBe, HF⟩, by simp [intOf]; omega⟩
  have HF := zD (allE_end hlt0 HQ0.out); go_wp2_with fail; exact zR (v := .bool false) ⟨⟨false, rfl, fun _ => HF.out⟩, HW0.out⟩
theorem greatSagas_any (w : World) (s : Sch) (ur us ug : Value) (hS : SchR w s ur us ug) : Calls Tryz.prog 19 #[.agg #[sT s.name, ur, us, ug]] w fun x w' => GrB (∀ v ∈ s.sagas, SgaOk v) x ∧ Below w.heap.size w w' := by
 obtain ⟨⟨ra, rv, rfl⟩, ⟨sa, sv, rfl⟩, ⟨ga, gv, rfl⟩⟩ := hS.shape
 have HS := zD (fun W (h : Below w.heap.size w W) => hS.below h)
 have HBw := zD (bl1 w (.cells (sV s ra sa ga rv sv gv) 26))
 have hnr : s.records.length ≤ 9223372036854775807 := by obtain ⟨_, h, _⟩ := hS.rc; exact h.bd
 have hns : s.services.length ≤ 9223372036854775807 := by obtain ⟨_, h, _⟩ := hS.sv; exact h.bd
 have hng : s.sagas.length ≤ 9223372036854775807 := by obtain ⟨_, h, _⟩ := hS.sg; exact h.bd
 clear hS
 go_enter Tryz.func19, Tryz.ntmps19
 go_wp2_with fail
 generalize hwa : w.alloc (.cells (sV s ra sa ga rv sv gv) 26) = wa at *
 have HXa := zD (show wa.heap[w.heap.size]? = some (.cells (sV s ra sa ga rv sv gv) 26 (0, 0)) from hwa ▸ zw _ _)
 clear hwa
 have HX0 := zD (fun W (X : Below wa.heap.size wa W) => show W.heap[w.heap.size]? = some (.cells (sV s ra sa ga rv sv gv) 26 (0, 0)) from (X.block _ (zq HXa.out).1).trans HXa.out)
 go_loopw [3] (fun vi wr => ∃ k0 : Nat, k0 ≤ s.sagas.length ∧ vi = iV (k0 : Nat) ∧ Hid (Below wa.heap.size wa wr) ∧ Hid (∀ x ∈ s.sagas.take k0, SgaOk x)) (fun vi _ => s.sagas.length - (intOf vi).toNat)
 case atStart => exact ⟨0, by omega, rfl, zD zl, zD (fun _ h => by simp at h)⟩
 case round =>
  rename World => v0
  obtain ⟨k0, hk0, rfl, HB0, HQ0⟩ := hrel; have HW0 := zD (show Below w.heap.size w v0 from HBw.out.trans (HB0.out.mono HBw.out.size)); have hx0 := HX0.out v0 HB0.out; have c0 := zG hx0 3 rfl; have hl0 : w.heap.size < v0.heap.size := (zq hx0).1; clear hx0; by_cases hlt0 : k0 < s.sagas.length
  ·obtain ⟨xr, hx1, hx2⟩ := (HS.out v0 HW0.out).sg
   obtain ⟨b0, o0, fa0, fc0, rfl, hb0, q0, q1, q2, hs0⟩ := sga_at hx1 hx2 hlt0; have HS0 := zD hs0; clear hx1 hx2 hs0; have HN0 := zD (fun h => allE_take (p := SgaOk) hlt0 HQ0.out h); generalize s.sagas[k0] = r0 at *; have HBX := zD (show Below w.heap.size w (v0.alloc (.cells #[sT r0.name, sT r0.arg, .slice fa0 r0.steps.length fc0] 67)) from HW0.out.alloc HW0.out.size _); have z00 := bT_size r0.name; have z01 := bT_size r0.arg; by_cases t00 : 200 < (r0.name.length : Int)
   ·have e00 : decide (200 < (r0.name.length : Int)) = true := zt t00
    go_wp2_with fail; exact zR (v := .bool true) ⟨⟨true, rfl, fun h => by cases h⟩, HBX.out⟩
   have e00 : decide (200 < (r0.name.length : Int)) = false := zf t00; have y00 : r0.name.length ≤ 200 := by omega
   by_cases t01 : 200 < (r0.arg.length : Int)
   ·have e01 : decide (200 < (r0.arg.length : Int)) = true := zt t01
    go_wp2_with fail; exact zR (v := .bool true) ⟨⟨true, rfl, fun h => by cases h⟩, HBX.out⟩
   have e01 : decide (200 < (r0.arg.length : Int)) = false := zf t01; have y01 : r0.arg.length ≤ 200 := by omega
   by_cases t02 : 40 < (r0.steps.length : Int)
   ·have e02 : decide (40 < (r0.steps.length : Int)) = true := zt t02
    go_wp2_with fail; exact zR (v := .bool true) ⟨⟨true, rfl, fun h => by cases h⟩, HBX.out⟩
   have e02 : decide (40 < (r0.steps.length : Int)) = false := zf t02; have y02 : r0.steps.length ≤ 40 := by omega
   clear HBX; go_wp2_with fail; generalize hw0 : v0.alloc (.cells #[sT r0.name, sT r0.arg, .slice fa0 r0.steps.length fc0] 67) = u0 at *; have HBu0 := zD (show Below wa.heap.size wa u0 from hw0 ▸ HB0.out.alloc HB0.out.size _); have HWu0 := zD (show Below w.heap.size w u0 from hw0 ▸ HW0.out.alloc HW0.out.size _); have HDu0 := zD (show Below v0.heap.size v0 u0 from hw0 ▸ bl1 _ _); have hg0 : u0.heap[v0.heap.size]? = some (.cells #[sT r0.name, sT r0.arg, .slice fa0 r0.steps.length fc0] 67 (0, 0)) := hw0 ▸ zw _ _; clear hw0; have HX1 := zD (fun W (X : Below u0.heap.size u0 W) => show W.heap[v0.heap.size]? = some (.cells #[sT r0.name, sT r0.arg, .slice fa0 r0.steps.length fc0] 67 (0, 0)) from (X.block _ (zq hg0).1).trans hg0); clear hg0; go_loopw [5] (fun vi wr => ∃ k1 : Nat, k1 ≤ r0.steps.length ∧ vi = iV (k1 : Nat) ∧ Hid (Below u0.heap.size u0 wr) ∧ Hid (∀ x ∈ r0.steps.take k1, StpOk x)) (fun vi _ => r0.steps.length - (intOf vi).toNat)
   case atStart => exact ⟨0, by omega, rfl, zD zl, zD (fun _ h => by simp at h)⟩
   case round =>
    rename World => v1
    obtain ⟨k1, hk1, rfl, HB1, HQ1⟩ := hrel; have HW1 := zD (show Below w.heap.size w v1 from HWu0.out.trans (HB1.out.mono HWu0.out.size)); have hx1 := HX1.out v1 HB1.out; have c1 := zG hx1 2 rfl; have hl1 : v0.heap.size < v1.heap.size := (zq hx1).1; have HD1 := zD (show Below v0.heap.size v0 v1 from HDu0.out.trans (HB1.out.mono HDu0.out.size)); clear hx1; by_cases hlt1 : k1 < r0.steps.length
    ·obtain ⟨b1, o1, rfl, hb1, p0, p1, p2⟩ := stp_at (HS0.out.below HD1.out) hlt1
     have HN1 := zD (fun h => allE_take (p := StpOk) hlt1 HQ1.out h); generalize r0.steps[k1] = r1 at *; have HBX := zD (show Below w.heap.size w v1 from HW1.out); have z10 := bT_size r1.service; have z11 := bT_size r1.method; by_cases t10 : 200 < (r1.service.length : Int)
     ·have e10 : decide (200 < (r1.service.length : Int)) = true := zt t10
      go_wp2_with fail; exact zR (v := .bool true) ⟨⟨true, rfl, fun h => by cases h⟩, HBX.out⟩
     have e10 : decide (200 < (r1.service.length : Int)) = false := zf t10; have y10 : r1.service.length ≤ 200 := by omega
     by_cases t11 : 200 < (r1.method.length : Int)
     ·have e11 : decide (200 < (r1.method.length : Int)) = true := zt t11
      go_wp2_with fail; exact zR (v := .bool true) ⟨⟨true, rfl, fun h => by cases h⟩, HBX.out⟩
     have e11 : decide (200 < (r1.method.length : Int)) = false := zf t11; have y11 : r1.method.length ≤ 200 := by omega
     have HE := zD (HN1.out ⟨y10, y11⟩); have HBY := zD (show Below u0.heap.size u0 v1 from HB1.out); go_wp2_with fail; exact ⟨⟨k1 + 1, by omega, by go_num, HBY, HE⟩, by simp [intOf]; omega⟩
    have HF := zD (HN0.out ⟨y00, y01, y02, allE_end hlt1 HQ1.out⟩); have HBe := zD (show Below wa.heap.size wa v1 from HBu0.out.trans (HB1.out.mono HBu0.out.size)); go_wp2_with fail; exact ⟨⟨k0 + 1, by omega, by go_num, HBe, HF⟩, by simp [intOf]; omega⟩
  have HF := zD (allE_end hlt0 HQ0.out); go_wp2_with fail; exact zR (v := .bool false) ⟨⟨false, rfl, fun _ => HF.out⟩, HW0.out⟩
theorem great13_any (w : World) (s : Sch) (ur us ug : Value) (hS : SchR w s ur us ug) : Calls Tryz.prog 6 #[.agg #[sT s.name, ur, us, ug]] w fun x w' => GrB (Small s) x ∧ Below w.heap.size w w' := by
 obtain ⟨⟨ra, rv, rfl⟩, ⟨sa, sv, rfl⟩, ⟨ga, gv, rfl⟩⟩ := hS.shape
 have HS := zD (fun W (h : Below w.heap.size w W) => hS.below h)
 have HBw := zD (bl1 w (.cells (sV s ra sa ga rv sv gv) 26))
 have hnr : s.records.length ≤ 9223372036854775807 := by obtain ⟨_, h, _⟩ := hS.rc; exact h.bd
 have hns : s.services.length ≤ 9223372036854775807 := by obtain ⟨_, h, _⟩ := hS.sv; exact h.bd
 have hng : s.sagas.length ≤ 9223372036854775807 := by obtain ⟨_, h, _⟩ := hS.sg; exact h.bd
 have HGS := zD (fun W (h : Below w.heap.size w W) => greatServices_any W s _ _ _ (HS.out W h))
 have HGG := zD (fun W (h : Below w.heap.size w W) => greatSagas_any W s _ _ _ (HS.out W h))
 have z := bT_size s.name
 clear hS
 go_enter Tryz.func6, Tryz.ntmps6
 by_cases t0 : 100 < (s.records.length : Int)
 ·have e0 : decide (100 < (s.records.length : Int)) = true := zt t0
  go_wp2_with fail; exact zR (v := .bool true) ⟨⟨true, rfl, fun h => by cases h⟩, HBw.out⟩
 have e0 : decide (100 < (s.records.length : Int)) = false := zf t0
 have y0 : s.records.length ≤ 100 := by omega
 by_cases t1 : 100 < (s.services.length : Int)
 ·have e1 : decide (100 < (s.services.length : Int)) = true := zt t1
  go_wp2_with fail; exact zR (v := .bool true) ⟨⟨true, rfl, fun h => by cases h⟩, HBw.out⟩
 have e1 : decide (100 < (s.services.length : Int)) = false := zf t1
 have y1 : s.services.length ≤ 100 := by omega
 by_cases t2 : 100 < (s.sagas.length : Int)
 ·have e2 : decide (100 < (s.sagas.length : Int)) = true := zt t2
  go_wp2_with fail; exact zR (v := .bool true) ⟨⟨true, rfl, fun h => by cases h⟩, HBw.out⟩
 have e2 : decide (100 < (s.sagas.length : Int)) = false := zf t2
 have y2 : s.sagas.length ≤ 100 := by omega
 by_cases t3 : 200 < (s.name.length : Int)
 ·have e3 : decide (200 < (s.name.length : Int)) = true := zt t3
  go_wp2_with fail; exact zR (v := .bool true) ⟨⟨true, rfl, fun h => by cases h⟩, HBw.out⟩
 have e3 : decide (200 < (s.name.length : Int)) = false := zf t3
 have y3 : s.name.length ≤ 200 := by omega
 go_wp2_with fail
 generalize hwa : w.alloc (.cells (sV s ra sa ga rv sv gv) 26) = wa at *
 have HXa := zD (show wa.heap[w.heap.size]? = some (.cells (sV s ra sa ga rv sv gv) 26 (0, 0)) from hwa ▸ zw _ _)
 clear hwa
 have HX0 := zD (fun W (X : Below wa.heap.size wa W) => show W.heap[w.heap.size]? = some (.cells (sV s ra sa ga rv sv gv) 26 (0, 0)) from (X.block _ (zq HXa.out).1).trans HXa.out)
 go_loopw [3] (fun vi wr => ∃ k0 : Nat, k0 ≤ s.records.length ∧ vi = iV (k0 : Nat) ∧ Hid (Below wa.heap.size wa wr) ∧ Hid (∀ x ∈ s.records.take k0, RecOk x)) (fun vi _ => s.records.length - (intOf vi).toNat)
 case atStart => exact ⟨0, by omega, rfl, zD zl, zD (fun _ h => by simp at h)⟩
 case round =>
  rename World => v0
  obtain ⟨k0, hk0, rfl, HB0, HQ0⟩ := hrel; have HW0 := zD (show Below w.heap.size w v0 from HBw.out.trans (HB0.out.mono HBw.out.size)); have hx0 := HX0.out v0 HB0.out; have c0 := zG hx0 1 rfl; have hl0 : w.heap.size < v0.heap.size := (zq hx0).1; clear hx0; by_cases hlt0 : k0 < s.records.length
  ·obtain ⟨xr, hx1, hx2⟩ := (HS.out v0 HW0.out).rc
   obtain ⟨b0, o0, fa0, fc0, ys0, rfl, hb0, q0, q1, q2, hs0, hr0⟩ := rec_at hx1 hx2 hlt0; have HS0 := zD (fun W (X : Below v0.heap.size v0 W) => show Slc W 2 _ _ _ ∧ Rows fldR W _ _ from ⟨hs0.below X, hr0.mono (fldR_below X)⟩); clear hx1 hx2 hs0 hr0; have HN0 := zD (fun h => allE_take (p := RecOk) hlt0 HQ0.out h); generalize s.records[k0] = r0 at *; have HBX := zD (show Below w.heap.size w (v0.alloc (.cells #[sT r0.name, .bool r0.choice, .slice fa0 r0.fields.length fc0] 74)) from HW0.out.alloc HW0.out.size _); have z00 := bT_size r0.name; by_cases t00 : 200 < (r0.name.length : Int)
   ·have e00 : decide (200 < (r0.name.length : Int)) = true := zt t00
    go_wp2_with fail; exact zR (v := .bool true) ⟨⟨true, rfl, fun h => by cases h⟩, HBX.out⟩
   have e00 : decide (200 < (r0.name.length : Int)) = false := zf t00; have y00 : r0.name.length ≤ 200 := by omega
   by_cases t01 : 40 < (r0.fields.length : Int)
   ·have e01 : decide (40 < (r0.fields.length : Int)) = true := zt t01
    go_wp2_with fail; exact zR (v := .bool true) ⟨⟨true, rfl, fun h => by cases h⟩, HBX.out⟩
   have e01 : decide (40 < (r0.fields.length : Int)) = false := zf t01; have y01 : r0.fields.length ≤ 40 := by omega
   clear HBX; go_wp2_with fail; generalize hw0 : v0.alloc (.cells #[sT r0.name, .bool r0.choice, .slice fa0 r0.fields.length fc0] 74) = u0 at *; have HBu0 := zD (show Below wa.heap.size wa u0 from hw0 ▸ HB0.out.alloc HB0.out.size _); have HWu0 := zD (show Below w.heap.size w u0 from hw0 ▸ HW0.out.alloc HW0.out.size _); have HDu0 := zD (show Below v0.heap.size v0 u0 from hw0 ▸ bl1 _ _); have hg0 : u0.heap[v0.heap.size]? = some (.cells #[sT r0.name, .bool r0.choice, .slice fa0 r0.fields.length fc0] 74 (0, 0)) := hw0 ▸ zw _ _; clear hw0; have HX1 := zD (fun W (X : Below u0.heap.size u0 W) => show W.heap[v0.heap.size]? = some (.cells #[sT r0.name, .bool r0.choice, .slice fa0 r0.fields.length fc0] 74 (0, 0)) from (X.block _ (zq hg0).1).trans hg0); clear hg0; go_loopw [5] (fun vi wr => ∃ k1 : Nat, k1 ≤ r0.fields.length ∧ vi = iV (k1 : Nat) ∧ Hid (Below u0.heap.size u0 wr) ∧ Hid (∀ x ∈ r0.fields.take k1, FldOk x)) (fun vi _ => r0.fields.length - (intOf vi).toNat)
   case atStart => exact ⟨0, by omega, rfl, zD zl, zD (fun _ h => by simp at h)⟩
   case round =>
    rename World => v1
    obtain ⟨k1, hk1, rfl, HB1, HQ1⟩ := hrel; have HW1 := zD (show Below w.heap.size w v1 from HWu0.out.trans (HB1.out.mono HWu0.out.size)); have hx1 := HX1.out v1 HB1.out; have c1 := zG hx1 2 rfl; have hl1 : v0.heap.size < v1.heap.size := (zq hx1).1; have HD1 := zD (show Below v0.heap.size v0 v1 from HDu0.out.trans (HB1.out.mono HDu0.out.size)); clear hx1; by_cases hlt1 : k1 < r0.fields.length
    ·obtain ⟨b1, o1, fa1, fc1, rfl, hb1, p0, p1, hs1⟩ := fld_at (HS0.out v1 HD1.out).1 (HS0.out v1 HD1.out).2 hlt1
     have HS1 := zD hs1; have HP1 := zD (show v1.cell? ⟨b1, o1 + k1 * 2 + 1, none⟩ = some (.slice fa1 (r0.fields[k1]).type.length fc1) from p1); clear hs1; have HN1 := zD (fun h => allE_take (p := FldOk) hlt1 HQ1.out h); generalize r0.fields[k1] = r1 at *; have HBX := zD (show Below w.heap.size w v1 from HW1.out); have z10 := bT_size r1.name; by_cases t10 : 200 < (r1.name.length : Int)
     ·have e10 : decide (200 < (r1.name.length : Int)) = true := zt t10
      go_wp2_with fail; exact zR (v := .bool true) ⟨⟨true, rfl, fun h => by cases h⟩, HBX.out⟩
     have e10 : decide (200 < (r1.name.length : Int)) = false := zf t10; have y10 : r1.name.length ≤ 200 := by omega
     by_cases t11 : 40 < (r1.type.length : Int)
     ·have e11 : decide (40 < (r1.type.length : Int)) = true := zt t11
      go_wp2_with fail; exact zR (v := .bool true) ⟨⟨true, rfl, fun h => by cases h⟩, HBX.out⟩
     have e11 : decide (40 < (r1.type.length : Int)) = false := zf t11; have y11 : r1.type.length ≤ 40 := by omega
     clear HBX; go_wp2_with fail; go_loopw [6] (fun vi wr => ∃ k2 : Nat, k2 ≤ r1.type.length ∧ vi = iV (k2 : Nat) ∧ Hid (Below v1.heap.size v1 wr) ∧ Hid (∀ x ∈ r1.type.take k2, SrtOk x)) (fun vi _ => r1.type.length - (intOf vi).toNat)
     case atStart => exact ⟨0, by omega, rfl, zD zl, zD (fun _ h => by simp at h)⟩
     case round =>
      rename World => v2
      obtain ⟨k2, hk2, rfl, HB2, HQ2⟩ := hrel; have HW2 := zD (show Below w.heap.size w v2 from HW1.out.trans (HB2.out.mono HW1.out.size)); have HD2 := zD (show Below u0.heap.size u0 v2 from HB1.out.trans (HB2.out.mono HB1.out.size)); have hx1 := HX1.out v2 HD2.out; have c2 := zG hx1 2 rfl; have hl2 : v0.heap.size < v2.heap.size := (zq hx1).1; have c3 : v2.cell? ⟨b1, o1 + k1 * 2 + 1, none⟩ = some (.slice fa1 r1.type.length fc1) := (HB2.out.cell (p := ⟨b1, o1 + k1 * 2 + 1, none⟩) hb1).trans HP1.out; have hb3 : b1 < v2.heap.size := Nat.lt_of_lt_of_le hb1 HB2.out.size; clear hx1; by_cases hlt2 : k2 < r1.type.length
      ·obtain ⟨b2, o2, rfl, hb2, x0, x1⟩ := srt_at (HS1.out.below HB2.out) hlt2
       have HN2 := zD (fun h => allE_take (p := SrtOk) hlt2 HQ2.out h); generalize r1.type[k2] = r2 at *; have HBX := zD (show Below w.heap.size w v2 from HW2.out); have z20 := bT_size r2.name; by_cases t20 : 200 < (r2.name.length : Int)
       ·have e20 : decide (200 < (r2.name.length : Int)) = true := zt t20
        go_wp2_with fail; exact zR (v := .bool true) ⟨⟨true, rfl, fun h => by cases h⟩, HBX.out⟩
       have e20 : decide (200 < (r2.name.length : Int)) = false := zf t20; have y20 : r2.name.length ≤ 200 := by omega
       have HE := zD (HN2.out y20); have HBY := zD (show Below v1.heap.size v1 v2 from HB2.out); go_wp2_with fail; exact ⟨⟨k2 + 1, by omega, by go_num, HBY, HE⟩, by simp [intOf]; omega⟩
      have HF := zD (HN1.out ⟨y10, y11, allE_end hlt2 HQ2.out⟩); have HBe := zD (show Below u0.heap.size u0 v2 from HB1.out.trans (HB2.out.mono HB1.out.size)); go_wp2_with fail; exact ⟨⟨k1 + 1, by omega, by go_num, HBe, HF⟩, by simp [intOf]; omega⟩
    have HF := zD (HN0.out ⟨y00, y01, allE_end hlt1 HQ1.out⟩); have HBe := zD (show Below wa.heap.size wa v1 from HBu0.out.trans (HB1.out.mono HBu0.out.size)); go_wp2_with fail; exact ⟨⟨k0 + 1, by omega, by go_num, HBe, HF⟩, by simp [intOf]; omega⟩
  have HF := zD (allE_end hlt0 HQ0.out); have hx0 := HX0.out v0 HB0.out; have x0 := zG hx0 0 rfl; have x2 := zG hx0 2 rfl; have x3 := zG hx0 3 rfl; have HCS := zD (HGS.out v0 HW0.out); clear hx0; go_wp2_with fail; refine HCS.out.mono ?_; rintro e v1 ⟨⟨b1, rfl, hb1⟩, hbl⟩; have HW1 := zT HW0 hbl; cases b1 with
  | true =>
   clear hb1 hbl HCS; go_wp2_with fail; exact zR (v := .bool true) ⟨⟨true, rfl, fun h => by cases h⟩, HW1.out⟩
  | false =>
   have HSV := zD (hb1 rfl); have hx1 := (hbl.block _ hl0).trans (HX0.out v0 HB0.out); have w0 := zG hx1 0 rfl; have w1 := zG hx1 1 rfl; have w2 := zG hx1 2 rfl; have w3 := zG hx1 3 rfl; have HCG := zD (HGG.out v1 HW1.out); clear hb1 hbl HCS hx1; go_wp2_with fail; refine HCG.out.mono ?_; rintro e v2 ⟨⟨b2, rfl, hb2⟩, hbl⟩; have HW2 := zT HW1 hbl; have HSM := zD (show b2 = false → Small s from fun h => ⟨y3, y0, y1, y2, HF.out, HSV.out, hb2 h⟩); clear hb2 hbl HCG; go_wp2_with fail; exact zR (v := .bool b2) ⟨⟨b2, rfl, HSM.out⟩, HW2.out⟩
def EntOk (e : Ent) : Prop := e.key.length ≤ 5000 ∧ e.sv.length ≤ 5000 ∧ e.mt.length ≤ 5000 ∧ e.acc.length ≤ 5000
theorem greatEntries_any (w : World) (v : Value) (l : List Ent) (hl : Slc w 6 v l.length (ecells l)) : Calls Tryz.prog 7 #[v] w fun x w' => GrB (l.length ≤ 60 ∧ ∀ e ∈ l, EntOk e) x ∧ Below w.heap.size w w' := by
 obtain ⟨la, lc, rfl⟩ := hl.shape
 have HSL := zD hl
 have HBw := zD (Below.refl w.heap.size w)
 have hnl := hl.bd
 clear hl
 go_enter Tryz.func7, Tryz.ntmps7
 by_cases t0 : 60 < (l.length : Int)
 ·have e0 : decide (60 < (l.length : Int)) = true := zt t0
  go_wp2_with fail; exact zR (v := .bool true) ⟨⟨true, rfl, fun h => by cases h⟩, HBw.out⟩
 have e0 : decide (60 < (l.length : Int)) = false := zf t0
 have y0 : l.length ≤ 60 := by omega
 go_wp2_with fail
 go_loopw [3] (fun vi wr => ∃ k0 : Nat, k0 ≤ l.length ∧ vi = iV (k0 : Nat) ∧ Hid (Below w.heap.size w wr) ∧ Hid (∀ x ∈ l.take k0, EntOk x)) (fun vi _ => l.length - (intOf vi).toNat)
 case atStart => exact ⟨0, by omega, rfl, zD zl, zD (fun _ h => by simp at h)⟩
 case round =>
  rename World => v0
  obtain ⟨k0, hk0, rfl, HB0, HQ0⟩ := hrel; have HW0 := zD (show Below w.heap.size w v0 from HBw.out.trans (HB0.out.mono HBw.out.size)); by_cases hlt0 : k0 < l.length
  ·obtain ⟨b0, o0, rfl, hb0, p0, p1, p2, p3, p4, p5⟩ := ent_at (HSL.out.below HW0.out) hlt0
   have HN0 := zD (fun h => allE_take (p := EntOk) hlt0 HQ0.out h); generalize l[k0] = r0 at *; have HBX := zD (show Below w.heap.size w (v0.alloc (.cells #[.int .u64 r0.stamp, sT r0.key, sT r0.sv, sT r0.mt, sT r0.acc, iV r0.am] 71)) from HW0.out.alloc HW0.out.size _); have z00 := bT_size r0.key; have z01 := bT_size r0.sv; have z02 := bT_size r0.mt; have z03 := bT_size r0.acc; by_cases t00 : 5000 < (r0.key.length : Int)
   ·have e00 : decide (5000 < (r0.key.length : Int)) = true := zt t00
    go_wp2_with fail; exact zR (v := .bool true) ⟨⟨true, rfl, fun h => by cases h⟩, HBX.out⟩
   have e00 : decide (5000 < (r0.key.length : Int)) = false := zf t00; have y00 : r0.key.length ≤ 5000 := by omega
   by_cases t01 : 5000 < (r0.sv.length : Int)
   ·have e01 : decide (5000 < (r0.sv.length : Int)) = true := zt t01
    go_wp2_with fail; exact zR (v := .bool true) ⟨⟨true, rfl, fun h => by cases h⟩, HBX.out⟩
   have e01 : decide (5000 < (r0.sv.length : Int)) = false := zf t01; have y01 : r0.sv.length ≤ 5000 := by omega
   by_cases t02 : 5000 < (r0.mt.length : Int)
   ·have e02 : decide (5000 < (r0.mt.length : Int)) = true := zt t02
    go_wp2_with fail; exact zR (v := .bool true) ⟨⟨true, rfl, fun h => by cases h⟩, HBX.out⟩
   have e02 : decide (5000 < (r0.mt.length : Int)) = false := zf t02; have y02 : r0.mt.length ≤ 5000 := by omega
   by_cases t03 : 5000 < (r0.acc.length : Int)
   ·have e03 : decide (5000 < (r0.acc.length : Int)) = true := zt t03
    go_wp2_with fail; exact zR (v := .bool true) ⟨⟨true, rfl, fun h => by cases h⟩, HBX.out⟩
   have e03 : decide (5000 < (r0.acc.length : Int)) = false := zf t03; have y03 : r0.acc.length ≤ 5000 := by omega
   have HE := zD (HN0.out ⟨y00, y01, y02, y03⟩); have HBY := zD (show Below w.heap.size w (v0.alloc (.cells #[.int .u64 r0.stamp, sT r0.key, sT r0.sv, sT r0.mt, sT r0.acc, iV r0.am] 71)) from HB0.out.alloc HB0.out.size _); go_wp2_with fail; exact ⟨⟨k0 + 1, by omega, by go_num, HBY, HE⟩, by simp [intOf]; omega⟩
  have HF := zD (allE_end hlt0 HQ0.out); go_wp2_with fail; exact zR (v := .bool false) ⟨⟨false, rfl, fun _ => ⟨y0, HF.out⟩⟩, HW0.out⟩
end Go.Proofs.YtgoejmheihgpfaaGreatDoor
