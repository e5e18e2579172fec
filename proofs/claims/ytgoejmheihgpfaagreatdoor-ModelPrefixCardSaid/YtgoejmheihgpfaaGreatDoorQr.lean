/-
  check.undos.
-/
import Derived.Test.YtgoejmheihgpfaaGreatDoorQq
import Derived.Maps.OwnSet
import Derived.Maps.Views
namespace Go.Proofs.YtgoejmheihgpfaaGreatDoor
section
open Go.RowKit

def undoOk (s : Sch) (r : Svc) (x : Mth) : Bool := (mthOf s r.name x.undo).isSome && decide ((mOr (mthOf s r.name x.undo)).arg = x.arg) && decide ((mOr (mthOf s r.name x.undo)).undo = []) && (mOr (mthOf s r.name x.undo)).result == 1 && decide ((mOr (mthOf s r.name x.undo)).effect = contraT x.effect)
def unM (s : Sch) (r : Svc) (f : Flt) (x : Mth) : Flt := atF f (decide (x.undo = []) || undoOk s r x) (partT r.name x.name) 133
def unV (s : Sch) (f : Flt) (r : Svc) : Flt := r.methods.foldl (unM s r) f
def undosA (s : Sch) (f : Flt) : Flt := s.services.foldl (unV s) f
set_option maxRecDepth 100000 in
set_option maxHeartbeats 16000000 in
theorem undos_any (w0 w : World) (s : Sch) (ur us ug : Value) (hS : SchR w0 s ur us ug) (hM : Small s) (f : Flt) (hF : NewB w0 w 99 (fcells f)) :
    Calls Tryz.prog 32 #[.agg #[.string (bT s.name), ur, us, ug], .pointer (some ⟨w0.heap.size, 0, none⟩)] w fun x w' => x = .returned (.tuple #[]) ∧ FQ w0 w w' (undosA s f) := by
  have HM := Lib.hid hM
  obtain ⟨⟨ra, rv, rfl⟩, ⟨sa, sv, rfl⟩, ⟨ga, gv, rfl⟩⟩ := hS.shape
  have HS := Lib.hid (fun (wr : World) (h : Below w0.heap.size w0 wr) => hS.below h)
  have hn1 := hM.nr
  have hn2 := hM.ns
  have hn3 := hM.ng
  have HF0 := Lib.hid (FQ.start (hF.after ((Below.refl _ w).alloc (Nat.le_refl _) (.cells #[.string (bT s.name), .slice ra s.records.length rv, .slice sa s.services.length sv, .slice ga s.sagas.length gv] 26))))
  have hwf := hF.lt
  have HX := Lib.hid (fun (wr : World) (h : Aw w0.heap.size (w.alloc (.cells #[.string (bT s.name), .slice ra s.records.length rv, .slice sa s.services.length sv, .slice ga s.sagas.length gv] 26)) wr) => show wr.heap[w.heap.size]? = some (.cells #[.string (bT s.name), .slice ra s.records.length rv, .slice sa s.services.length sv, .slice ga s.sagas.length gv] 26 (0, 0)) from (h.block _ (by simp) (by omega)).trans (heap_alloc_new _ _))
  have HE := Lib.hid (fun (wr : World) (f' : Flt) (h : FQ w0 (w.alloc (.cells #[.string (bT s.name), .slice ra s.records.length rv, .slice sa s.services.length sv, .slice ga s.sagas.length gv] 26)) wr f') => show FQ w0 w wr f' from ⟨h.nb, (Aw.below ((Below.refl _ w).alloc (Nat.le_refl _) _)).trans h.aw⟩)
  have HA := Lib.hid (fun w1 w2 f h r wh e => at_any w0 w1 w2 f h r wh e)
  clear hF
  unfold undosA
  generalize hz0 : s.services.foldl (unV s) f = f2
  have HZ0 := Lib.hid hz0
  clear hz0
  go_enter Tryz.func32, Tryz.ntmps32
  go_wp2_with fail
  generalize (w.alloc (.cells #[.string (bT s.name), .slice ra s.records.length rv, .slice sa s.services.length sv, .slice ga s.sagas.length gv] 26)) = wA at *
  go_loopw [13] (fun vi wr => ∃ k : Nat, k ≤ s.services.length ∧ vi = .int .i64 (k : Nat) ∧ Hid (FQ w0 wA wr ((s.services.take k).foldl (unV s) f))) (fun vi _ => s.services.length - (intOf vi).toNat)
  case atStart => exact ⟨0, by omega, rfl, Lib.hid HF0.out⟩
  case round =>
    rename World => wo
    obtain ⟨k, hk, rfl, HFr⟩ := hrel
    by_cases hlt : k < s.services.length
    · obtain ⟨xr, hx1, hx2⟩ := (HS.out w0 (Below.refl _ _)).sv
      obtain ⟨b, o, fa, fc, rfl, hb, q0, q1, hs⟩ := svc_in HFr.out.nb.bel hx1 hx2 hlt
      have HT := Lib.hid (take_fold (unV s) f s.services k hlt)
      have hbd := HM.out.sv _ (List.getElem_mem hlt)
      have hsz := HFr.out.size
      generalize s.services[k] = r at *
      clear hx1 hx2
      have hns := hbd.2.1
      generalize hF1 : (s.services.take k).foldl (unV s) f = F1 at *
      clear hF1
      go_wp2_with fail
      generalize hw1 : wo.alloc (.cells #[.string (bT r.name), .slice fa r.methods.length fc] 112) = w1
      have HF1 := Lib.hid (show FQ w0 wA w1 _ from hw1 ▸ HFr.out.alloc _)
      have hg1 : w1.heap[wo.heap.size]? = some (.cells #[.string (bT r.name), .slice fa r.methods.length fc] 112 (0, 0)) := hw1 ▸ heap_alloc_new _ _
      have hsz1 : w1.heap.size = wo.heap.size + 1 := by rw [← hw1]; simp
      have HX1 := Lib.hid (fun W (X : Aw w0.heap.size w1 W) => show W.heap[w.heap.size]? = some (.cells #[.string (bT s.name), .slice ra s.records.length rv, .slice (some ⟨b, o, none⟩) s.services.length sv, .slice ga s.sagas.length gv] 26 (0, 0)) ∧ W.heap[wo.heap.size]? = some (.cells #[.string (bT r.name), .slice fa r.methods.length fc] 112 (0, 0)) from ⟨HX.out W (HF1.out.aw.trans X), (X.block _ (by omega) (by omega)).trans hg1⟩)
      have hszw : w.heap.size < w1.heap.size := (Array.getElem?_eq_some_iff.1 (HX1.out w1 (Aw.refl _ _)).1).1
      have cr : w1.cell? ⟨wo.heap.size, 1, none⟩ = some (.slice fa r.methods.length fc) := by simp [World.cell?, hg1]
      clear hw1 hg1
      go_loopw [20] (fun vi wi => ∃ j : Nat, j ≤ r.methods.length ∧ vi = .int .i64 (j : Nat) ∧ Hid (FQ w0 w1 wi ((r.methods.take j).foldl (unM s r) F1))) (fun vi _ => r.methods.length - (intOf vi).toNat)
      case atStart => exact ⟨0, by omega, rfl, Lib.hid (FQ.start HF1.out.nb)⟩
      case round =>
        rename World => wi
        obtain ⟨j, hj, rfl, HFi⟩ := hrel
        by_cases hlt2 : j < r.methods.length
        · obtain ⟨b2, o2, rfl, hb2, p0, p1, p2, p3, p4⟩ := mth_in HFi.out.nb.bel hs hlt2
          have HT2 := Lib.hid (take_fold (unM s r) F1 r.methods j hlt2)
          have hbd2 := hbd.2.2 _ (List.getElem_mem hlt2)
          generalize r.methods[j] = x at *
          have HF2 := Lib.hid (show FQ w0 w1 (wi.alloc (.cells #[.string (bT x.name), .string (bT x.arg), .int .u8 (x.result : Nat), .string (bT x.effect), .string (bT x.undo)] 92)) _ from HFi.out.alloc _)
          have hszi : w1.heap.size ≤ wi.heap.size := HFi.out.aw.size
          have HX2 := Lib.hid (fun W (X : Aw w0.heap.size (wi.alloc (.cells #[.string (bT x.name), .string (bT x.arg), .int .u8 (x.result : Nat), .string (bT x.effect), .string (bT x.undo)] 92)) W) => show W.heap[w.heap.size]? = some (.cells #[.string (bT s.name), .slice ra s.records.length rv, .slice (some ⟨b, o, none⟩) s.services.length sv, .slice ga s.sagas.length gv] 26 (0, 0)) ∧ W.heap[wo.heap.size]? = some (.cells #[.string (bT r.name), .slice (some ⟨b2, o2, none⟩) r.methods.length fc] 112 (0, 0)) ∧ W.heap[wi.heap.size]? = some (.cells #[.string (bT x.name), .string (bT x.arg), .int .u8 (x.result : Nat), .string (bT x.effect), .string (bT x.undo)] 92 (0, 0)) from ⟨(HX1.out W (HF2.out.aw.trans X)).1, (HX1.out W (HF2.out.aw.trans X)).2, (X.block _ (by simp) (by omega)).trans (heap_alloc_new _ _)⟩)
          obtain ⟨a1, a2, a3⟩ := HX2.out (wi.alloc (.cells #[.string (bT x.name), .string (bT x.arg), .int .u8 (x.result : Nat), .string (bT x.effect), .string (bT x.undo)] 92)) (Aw.refl _ _)
          have s0 : (wi.alloc (.cells #[.string (bT x.name), .string (bT x.arg), .int .u8 (x.result : Nat), .string (bT x.effect), .string (bT x.undo)] 92)).cell? ⟨w.heap.size, 0, none⟩ = some (.string (bT s.name)) := by simp only [World.cell?, a1]; rfl
          have s1 : (wi.alloc (.cells #[.string (bT x.name), .string (bT x.arg), .int .u8 (x.result : Nat), .string (bT x.effect), .string (bT x.undo)] 92)).cell? ⟨w.heap.size, 1, none⟩ = some (.slice ra s.records.length rv) := by simp only [World.cell?, a1]; rfl
          have s2 : (wi.alloc (.cells #[.string (bT x.name), .string (bT x.arg), .int .u8 (x.result : Nat), .string (bT x.effect), .string (bT x.undo)] 92)).cell? ⟨w.heap.size, 2, none⟩ = some (.slice (some ⟨b, o, none⟩) s.services.length sv) := by simp only [World.cell?, a1]; rfl
          have s3 : (wi.alloc (.cells #[.string (bT x.name), .string (bT x.arg), .int .u8 (x.result : Nat), .string (bT x.effect), .string (bT x.undo)] 92)).cell? ⟨w.heap.size, 3, none⟩ = some (.slice ga s.sagas.length gv) := by simp only [World.cell?, a1]; rfl
          have x4 : (wi.alloc (.cells #[.string (bT x.name), .string (bT x.arg), .int .u8 (x.result : Nat), .string (bT x.effect), .string (bT x.undo)] 92)).cell? ⟨wi.heap.size, 4, none⟩ = some (.string (bT x.undo)) := by simp only [World.cell?, a3]; rfl
          clear a1 a2 a3
          obtain ⟨z1, z2, z3⟩ := HX2.out (wi.alloc (.cells #[.string (bT x.name), .string (bT x.arg), .int .u8 (x.result : Nat), .string (bT x.effect), .string (bT x.undo)] 92)) (Aw.refl _ _)
          have n0 : (wi.alloc (.cells #[.string (bT x.name), .string (bT x.arg), .int .u8 (x.result : Nat), .string (bT x.effect), .string (bT x.undo)] 92)).cell? ⟨wo.heap.size, 0, none⟩ = some (.string (bT r.name)) := by simp only [World.cell?, z2]; rfl
          clear z1 z2 z3
          have HOK := Lib.hid (show undoOk s r x = ((mthOf s r.name x.undo).isSome && decide ((mOr (mthOf s r.name x.undo)).arg = x.arg) && decide ((mOr (mthOf s r.name x.undo)).undo = []) && (mOr (mthOf s r.name x.undo)).result == 1 && decide ((mOr (mthOf s r.name x.undo)).effect = contraT x.effect)) from rfl)
          have HMx := Lib.hid (fun m hm ok hk => method_lit (wi.alloc (.cells #[.string (bT x.name), .string (bT x.arg), .int .u8 (x.result : Nat), .string (bT x.effect), .string (bT x.undo)] 92)) s _ _ _ (HS.out _ HF2.out.nb.bel) HM.out r.name x.undo m hm ok hk)
          have HR := Lib.hid (show unM s r ((r.methods.take j).foldl (unM s r) F1) x = atF ((r.methods.take j).foldl (unM s r) F1) (decide (x.undo = []) || undoOk s r x) (partT r.name x.name) 133 from rfl)
          generalize undoOk s r x = UK at *
          generalize hm : mOr (mthOf s r.name x.undo) = m at *
          generalize hok : (mthOf s r.name x.undo).isSome = ok at *
          have HMz := Lib.hid (HMx.out m rfl ok rfl)
          clear HMx hm hok
          go_wp2_with fail
          refine HMz.out.mono ?_
          rintro e w5 ⟨rfl, hb5⟩
          generalize hw2 : (wi.alloc (.cells #[.string (bT x.name), .string (bT x.arg), .int .u8 (x.result : Nat), .string (bT x.effect), .string (bT x.undo)] 92)) = w2 at *
          have hsz2' : w2.heap.size = wi.heap.size + 1 := by rw [← hw2]; simp
          clear hw2
          have HB5 := Lib.hid hb5
          have hsz5 := hb5.size
          clear hb5 HMz s0 s1 s2 s3 x4 n0
          go_wp2_with fail
          generalize hw6 : w5.alloc (.cells #[.string (bT m.name), .string (bT m.arg), .int .u8 (m.result : Nat), .string (bT m.effect), .string (bT m.undo)] 92) = w6
          have HB6 := Lib.hid (show Below w2.heap.size w2 w6 from hw6 ▸ HB5.out.alloc HB5.out.size _)
          have hg6 : w6.heap[w5.heap.size]? = some (.cells #[.string (bT m.name), .string (bT m.arg), .int .u8 (m.result : Nat), .string (bT m.effect), .string (bT m.undo)] 92 (0, 0)) := hw6 ▸ heap_alloc_new _ _
          have hsz6 : w6.heap.size = w5.heap.size + 1 := by rw [← hw6]; simp
          have HF6 := Lib.hid (HF2.out.after HB6.out)
          clear hw6 HB5
          have hw0s := HF6.out.size
          have HC := Lib.hid (fun W (X : Aw w0.heap.size w6 W) => show W.cell? ⟨wo.heap.size, 0, none⟩ = some (.string (bT r.name)) ∧ W.cell? ⟨wi.heap.size, 0, none⟩ = some (.string (bT x.name)) ∧ W.cell? ⟨wi.heap.size, 1, none⟩ = some (.string (bT x.arg)) ∧ W.cell? ⟨wi.heap.size, 3, none⟩ = some (.string (bT x.effect)) ∧ W.cell? ⟨wi.heap.size, 4, none⟩ = some (.string (bT x.undo)) ∧ W.cell? ⟨w5.heap.size, 1, none⟩ = some (.string (bT m.arg)) ∧ W.cell? ⟨w5.heap.size, 2, none⟩ = some (.int .u8 (m.result : Nat)) ∧ W.cell? ⟨w5.heap.size, 3, none⟩ = some (.string (bT m.effect)) ∧ W.cell? ⟨w5.heap.size, 4, none⟩ = some (.string (bT m.undo)) from ⟨by simp [World.cell?, (HX2.out W ((Aw.below HB6.out).trans X)).2.1], by simp [World.cell?, (HX2.out W ((Aw.below HB6.out).trans X)).2.2], by simp [World.cell?, (HX2.out W ((Aw.below HB6.out).trans X)).2.2], by simp [World.cell?, (HX2.out W ((Aw.below HB6.out).trans X)).2.2], by simp [World.cell?, (HX2.out W ((Aw.below HB6.out).trans X)).2.2], by simp [World.cell?, (X.block w5.heap.size (by omega) (by omega)).trans hg6], by simp [World.cell?, (X.block w5.heap.size (by omega) (by omega)).trans hg6], by simp [World.cell?, (X.block w5.heap.size (by omega) (by omega)).trans hg6], by simp [World.cell?, (X.block w5.heap.size (by omega) (by omega)).trans hg6]⟩)
          have HPT := Lib.hid (fun W => part_any W r.name x.name (by omega) (by omega))
          have HAT := Lib.hid (fun W (X : Below w6.heap.size w6 W) (q : Bool) => at_z w0 W _ (HF6.out.after X).nb q (partT r.name x.name) 133 133 rfl _ rfl)
          have HCT := Lib.hid (fun W => contrary_any W x.effect)
          obtain ⟨e1, e2, e3, e4, e5, e6, e7, e8, e9⟩ := HC.out w6 (Aw.refl _ _)
          have e_u := bT_is x.undo []
          have e_m := bT_is m.undo []
          have e_a := bT_same m.arg x.arg
          have e_e := bT_same m.effect (contraT x.effect)
          have e_r : ((m.result : Int) == 1) = (m.result == 1) := by rw [Bool.eq_iff_iff, beq_iff_eq, beq_iff_eq]; omega
          generalize partT r.name x.name = PT at *
          generalize contraT x.effect = CT at *
          clear hg6 p0 p1 p2 p3 p4 hb2
          cases ok with
          | false =>
            have HU := Lib.hid (show UK = false from HOK.out)
            clear HOK e_m e_a e_e e_r
            go_quiet (fail)
            have hbd : Below w6.heap.size w6 (w6.drewN nq) := ⟨rfl, rfl, rfl, Nat.le_refl _, fun _ _ => rfl⟩
            generalize w6.drewN nq = w7 at *
            have HBd := Lib.hid hbd
            clear hbd
            obtain ⟨d1, d2, d3, d4, d5, d6, d7, d8, d9⟩ := HC.out w7 (Aw.below HBd.out)
            cases hu : decide (x.undo = []) with
            | true =>
              rw [hu] at e_u
              have HQ := Lib.hid (show (decide (x.undo = []) || UK) = true from by rw [hu]; rfl)
              clear hu HU
              go_wp2_with fail
              refine (HPT.out _).mono ?_
              rintro e w9 ⟨rfl, rfl⟩
              go_wp2_with fail
              refine (HAT.out _ HBd.out true).mono ?_
              rintro e w8 ⟨rfl, hf8⟩
              have HF8 := Lib.hid ((HF6.out.after HBd.out).step hf8)
              clear hf8
              go_wp2_with fail
              exact ⟨⟨j + 1, by omega, by go_num, Lib.hid (by rw [HT2.out, HR.out, HQ.out]; exact HF8.out)⟩, by simp [intOf]; omega⟩
            | false =>
              rw [hu] at e_u
              have HQ := Lib.hid (show (decide (x.undo = []) || UK) = false from by rw [hu, HU.out]; rfl)
              clear hu HU
              go_wp2_with fail
              refine (HPT.out _).mono ?_
              rintro e w9 ⟨rfl, rfl⟩
              go_wp2_with fail
              refine (HAT.out _ HBd.out false).mono ?_
              rintro e w8 ⟨rfl, hf8⟩
              have HF8 := Lib.hid ((HF6.out.after HBd.out).step hf8)
              clear hf8
              go_wp2_with fail
              exact ⟨⟨j + 1, by omega, by go_num, Lib.hid (by rw [HT2.out, HR.out, HQ.out]; exact HF8.out)⟩, by simp [intOf]; omega⟩
          | true =>
            cases ha : decide (m.arg = x.arg) with
            | false =>
              rw [ha] at e_a
              have HU := Lib.hid (show UK = false from by rw [HOK.out, ha]; rfl)
              clear HOK e_m e_e e_r ha
              go_quiet (fail)
              have hbd : Below w6.heap.size w6 (w6.drewN nq) := ⟨rfl, rfl, rfl, Nat.le_refl _, fun _ _ => rfl⟩
              generalize w6.drewN nq = w7 at *
              have HBd := Lib.hid hbd
              clear hbd
              obtain ⟨d1, d2, d3, d4, d5, d6, d7, d8, d9⟩ := HC.out w7 (Aw.below HBd.out)
              cases hu : decide (x.undo = []) with
              | true =>
                rw [hu] at e_u
                have HQ := Lib.hid (show (decide (x.undo = []) || UK) = true from by rw [hu]; rfl)
                clear hu HU
                go_wp2_with fail
                refine (HPT.out _).mono ?_
                rintro e w9 ⟨rfl, rfl⟩
                go_wp2_with fail
                refine (HAT.out _ HBd.out true).mono ?_
                rintro e w8 ⟨rfl, hf8⟩
                have HF8 := Lib.hid ((HF6.out.after HBd.out).step hf8)
                clear hf8
                go_wp2_with fail
                exact ⟨⟨j + 1, by omega, by go_num, Lib.hid (by rw [HT2.out, HR.out, HQ.out]; exact HF8.out)⟩, by simp [intOf]; omega⟩
              | false =>
                rw [hu] at e_u
                have HQ := Lib.hid (show (decide (x.undo = []) || UK) = false from by rw [hu, HU.out]; rfl)
                clear hu HU
                go_wp2_with fail
                refine (HPT.out _).mono ?_
                rintro e w9 ⟨rfl, rfl⟩
                go_wp2_with fail
                refine (HAT.out _ HBd.out false).mono ?_
                rintro e w8 ⟨rfl, hf8⟩
                have HF8 := Lib.hid ((HF6.out.after HBd.out).step hf8)
                clear hf8
                go_wp2_with fail
                exact ⟨⟨j + 1, by omega, by go_num, Lib.hid (by rw [HT2.out, HR.out, HQ.out]; exact HF8.out)⟩, by simp [intOf]; omega⟩
            | true =>
              rw [ha] at e_a
              cases hm : decide (m.undo = []) with
              | false =>
                rw [hm] at e_m
                have HU := Lib.hid (show UK = false from by rw [HOK.out, ha, hm]; rfl)
                clear HOK e_e e_r ha hm
                go_quiet (fail)
                have hbd : Below w6.heap.size w6 (w6.drewN nq) := ⟨rfl, rfl, rfl, Nat.le_refl _, fun _ _ => rfl⟩
                generalize w6.drewN nq = w7 at *
                have HBd := Lib.hid hbd
                clear hbd
                obtain ⟨d1, d2, d3, d4, d5, d6, d7, d8, d9⟩ := HC.out w7 (Aw.below HBd.out)
                cases hu : decide (x.undo = []) with
                | true =>
                  rw [hu] at e_u
                  have HQ := Lib.hid (show (decide (x.undo = []) || UK) = true from by rw [hu]; rfl)
                  clear hu HU
                  go_wp2_with fail
                  refine (HPT.out _).mono ?_
                  rintro e w9 ⟨rfl, rfl⟩
                  go_wp2_with fail
                  refine (HAT.out _ HBd.out true).mono ?_
                  rintro e w8 ⟨rfl, hf8⟩
                  have HF8 := Lib.hid ((HF6.out.after HBd.out).step hf8)
                  clear hf8
                  go_wp2_with fail
                  exact ⟨⟨j + 1, by omega, by go_num, Lib.hid (by rw [HT2.out, HR.out, HQ.out]; exact HF8.out)⟩, by simp [intOf]; omega⟩
                | false =>
                  rw [hu] at e_u
                  have HQ := Lib.hid (show (decide (x.undo = []) || UK) = false from by rw [hu, HU.out]; rfl)
                  clear hu HU
                  go_wp2_with fail
                  refine (HPT.out _).mono ?_
                  rintro e w9 ⟨rfl, rfl⟩
                  go_wp2_with fail
                  refine (HAT.out _ HBd.out false).mono ?_
                  rintro e w8 ⟨rfl, hf8⟩
                  have HF8 := Lib.hid ((HF6.out.after HBd.out).step hf8)
                  clear hf8
                  go_wp2_with fail
                  exact ⟨⟨j + 1, by omega, by go_num, Lib.hid (by rw [HT2.out, HR.out, HQ.out]; exact HF8.out)⟩, by simp [intOf]; omega⟩
              | true =>
                rw [hm] at e_m
                cases hr1 : (m.result == 1) with
                | false =>
                  rw [hr1] at e_r
                  have HU := Lib.hid (show UK = false from by rw [HOK.out, ha, hm, hr1]; rfl)
                  clear HOK e_e ha hm hr1
                  go_quiet (fail)
                  have hbd : Below w6.heap.size w6 (w6.drewN nq) := ⟨rfl, rfl, rfl, Nat.le_refl _, fun _ _ => rfl⟩
                  generalize w6.drewN nq = w7 at *
                  have HBd := Lib.hid hbd
                  clear hbd
                  obtain ⟨d1, d2, d3, d4, d5, d6, d7, d8, d9⟩ := HC.out w7 (Aw.below HBd.out)
                  cases hu : decide (x.undo = []) with
                  | true =>
                    rw [hu] at e_u
                    have HQ := Lib.hid (show (decide (x.undo = []) || UK) = true from by rw [hu]; rfl)
                    clear hu HU
                    go_wp2_with fail
                    refine (HPT.out _).mono ?_
                    rintro e w9 ⟨rfl, rfl⟩
                    go_wp2_with fail
                    refine (HAT.out _ HBd.out true).mono ?_
                    rintro e w8 ⟨rfl, hf8⟩
                    have HF8 := Lib.hid ((HF6.out.after HBd.out).step hf8)
                    clear hf8
                    go_wp2_with fail
                    exact ⟨⟨j + 1, by omega, by go_num, Lib.hid (by rw [HT2.out, HR.out, HQ.out]; exact HF8.out)⟩, by simp [intOf]; omega⟩
                  | false =>
                    rw [hu] at e_u
                    have HQ := Lib.hid (show (decide (x.undo = []) || UK) = false from by rw [hu, HU.out]; rfl)
                    clear hu HU
                    go_wp2_with fail
                    refine (HPT.out _).mono ?_
                    rintro e w9 ⟨rfl, rfl⟩
                    go_wp2_with fail
                    refine (HAT.out _ HBd.out false).mono ?_
                    rintro e w8 ⟨rfl, hf8⟩
                    have HF8 := Lib.hid ((HF6.out.after HBd.out).step hf8)
                    clear hf8
                    go_wp2_with fail
                    exact ⟨⟨j + 1, by omega, by go_num, Lib.hid (by rw [HT2.out, HR.out, HQ.out]; exact HF8.out)⟩, by simp [intOf]; omega⟩
                | true =>
                  rw [hr1] at e_r
                  have HU := Lib.hid (show UK = decide (m.effect = CT) from by rw [HOK.out, ha, hm, hr1]; rfl)
                  clear HOK ha hm hr1
                  generalize decide (m.effect = CT) = EE at *
                  go_quiet ((go_at_call 58; exact Calls.quiet_of_same ((HCT.out _).mono fun _ _ ⟨he, hw⟩ => ⟨he, hw.symm⟩)))
                  have hbd : Below w6.heap.size w6 (w6.drewN nq) := ⟨rfl, rfl, rfl, Nat.le_refl _, fun _ _ => rfl⟩
                  generalize w6.drewN nq = w7 at *
                  have HBd := Lib.hid hbd
                  clear hbd
                  obtain ⟨d1, d2, d3, d4, d5, d6, d7, d8, d9⟩ := HC.out w7 (Aw.below HBd.out)
                  cases hu : decide (x.undo = []) with
                  | true =>
                    rw [hu] at e_u
                    have HQ := Lib.hid (show (decide (x.undo = []) || UK) = true from by rw [hu]; rfl)
                    clear hu HU
                    go_wp2_with fail
                    refine (HPT.out _).mono ?_
                    rintro e w9 ⟨rfl, rfl⟩
                    go_wp2_with fail
                    refine (HAT.out _ HBd.out true).mono ?_
                    rintro e w8 ⟨rfl, hf8⟩
                    have HF8 := Lib.hid ((HF6.out.after HBd.out).step hf8)
                    clear hf8
                    go_wp2_with fail
                    exact ⟨⟨j + 1, by omega, by go_num, Lib.hid (by rw [HT2.out, HR.out, HQ.out]; exact HF8.out)⟩, by simp [intOf]; omega⟩
                  | false =>
                    rw [hu] at e_u
                    have HQ := Lib.hid (show (decide (x.undo = []) || UK) = EE from by rw [hu, HU.out]; rfl)
                    clear hu HU
                    go_wp2_with fail
                    refine (HPT.out _).mono ?_
                    rintro e w9 ⟨rfl, rfl⟩
                    go_wp2_with fail
                    refine (HAT.out _ HBd.out EE).mono ?_
                    rintro e w8 ⟨rfl, hf8⟩
                    have HF8 := Lib.hid ((HF6.out.after HBd.out).step hf8)
                    clear hf8
                    go_wp2_with fail
                    exact ⟨⟨j + 1, by omega, by go_num, Lib.hid (by rw [HT2.out, HR.out, HQ.out]; exact HF8.out)⟩, by simp [intOf]; omega⟩
        have HFj := Lib.hid (HF1.out.step HFi.out)
        rw [take_all _ _ _ _ hlt2] at HFj
        go_wp2_with fail
        exact ⟨⟨k + 1, by omega, by go_num, Lib.hid (by rw [HT.out]; exact HFj.out)⟩, by simp [intOf]; omega⟩
    have HFz := Lib.hid (show FQ w0 wA wo f2 from by have h := HFr.out; rw [take_all _ _ _ _ hlt, HZ0.out] at h; exact h)
    clear HFr
    go_wp2_with fail
    go_end0
    exact ⟨rfl, HE.out _ _ HFz.out⟩
end

section
open Go.RowKit Go.Maps Go.WideMaps Go.WideElems

abbrev Mp := List (Tx × Int)
def mval (n : Int) : Value := .int .i64 n
def ment (x : Tx × Int) : Lit × DataW Value := (.string x.1, .held (mval x.2))
def mdat (F : Mp) : DataW Value := .map (F.map ment)
def numElem (v : Value) : Option (DataW Value × List MemPlace) := some (.held v, [])
def mget (F : Mp) (k : Tx) : Int := ((F.find? (fun x => x.1 == k)).map (·.2)).getD 0
def mhas (F : Mp) (k : Tx) : Bool := F.any (fun x => x.1 == k)
def mdel (F : Mp) (k : Tx) : Mp := F.filter (fun x => !(x.1 == k))
def mins (x : Tx × Int) : Mp → Mp
  | [] => [x]
  | y :: r => if bytesBefore x.1 y.1 then x :: y :: r else y :: mins x r
def mput (F : Mp) (k : Tx) (n : Int) : Mp := mins (k, n) (mdel F k)

theorem minsert_ment (x : Tx × Int) : ∀ F : Mp, DataW.insert (ment x) (F.map ment) = (mins x F).map ment
  | [] => rfl
  | y :: r => by
    simp only [List.map_cons, DataW.insert, mins]
    have e : (ment x).1.before (ment y).1 = bytesBefore x.1 y.1 := rfl
    rw [e]
    split
    · rfl
    · rw [List.map_cons, minsert_ment x r]
theorem mdat_put (F : Mp) (k : Tx) (n : Int) : (mdat F).put (.string k) (.held (mval n)) = mdat (mput F k n) := by
  simp only [mdat, DataW.put, mput, DataW.map.injEq]
  rw [← minsert_ment]
  congr 1
  rw [List.filter_map]
  rfl
theorem mdat_at (F : Mp) (k : Tx) : (mdat F).atKey (.string k) (.held (mval 0)) = .held (mval (mget F k)) := by
  simp only [mdat, DataW.atKey, mget]
  rw [List.find?_map]
  have e : ((fun p : Lit × DataW Value => p.1.sameKey (.string k)) ∘ ment) = (fun x : Tx × Int => x.1 == k) := rfl
  rw [e]
  cases F.find? (fun x => x.1 == k) <;> rfl
theorem mdat_size (F : Mp) : Maps.size (mdat F) = F.length := by simp [mdat, Maps.size_eq]
theorem mins_length (x : Tx × Int) : ∀ F : Mp, (mins x F).length = F.length + 1
  | [] => rfl
  | y :: r => by
    simp only [mins]
    split
    · rfl
    · simp [mins_length x r]
theorem mput_length (F : Mp) (k : Tx) (n : Int) : (mput F k n).length ≤ F.length + 1 := by
  unfold mput
  rw [mins_length]
  exact Nat.succ_le_succ (List.length_filter_le _ _)
theorem mem_mins {a : Tx × Int} : ∀ {F : Mp} {x : Tx × Int}, x ∈ mins a F ↔ x = a ∨ x ∈ F
  | [], x => by simp [mins]
  | y :: r, x => by
    simp only [mins]
    split
    · simp
    · rw [List.mem_cons, mem_mins, List.mem_cons]
      constructor
      · rintro (h | h | h)
        · exact .inr (.inl h)
        · exact .inl h
        · exact .inr (.inr h)
      · rintro (h | h | h)
        · exact .inr (.inl h)
        · exact .inl h
        · exact .inr (.inr h)
theorem mem_mdel {F : Mp} {k : Tx} {x : Tx × Int} : x ∈ mdel F k ↔ x ∈ F ∧ x.1 ≠ k := by
  unfold mdel
  rw [List.mem_filter]
  simp
theorem mfind_mins_same (k : Tx) (n : Int) : ∀ F : Mp, (∀ y ∈ F, y.1 ≠ k) → (mins (k, n) F).find? (fun x => x.1 == k) = some (k, n)
  | [], _ => by simp [mins]
  | y :: r, h => by
    simp only [mins]
    split
    · simp
    · have : (y.1 == k) = false := by rw [beq_eq_false_iff_ne]; exact h y List.mem_cons_self
      rw [List.find?_cons, this]
      exact mfind_mins_same k n r (fun z hz => h z (List.mem_cons_of_mem _ hz))
theorem mfind_mins_ne (k : Tx) (n : Int) {j : Tx} (hne : j ≠ k) : ∀ F : Mp, (mins (k, n) F).find? (fun x => x.1 == j) = F.find? (fun x => x.1 == j)
  | [] => by simp [mins, show (k == j) = false from by rw [beq_eq_false_iff_ne]; exact fun e => hne e.symm]
  | y :: r => by
    simp only [mins]
    split
    · rw [List.find?_cons]
      simp [show (k == j) = false from by rw [beq_eq_false_iff_ne]; exact fun e => hne e.symm]
    · rw [List.find?_cons, List.find?_cons, mfind_mins_ne k n hne r]
theorem mfind_mdel_ne {F : Mp} (k : Tx) {j : Tx} (hne : j ≠ k) : (mdel F k).find? (fun x => x.1 == j) = F.find? (fun x => x.1 == j) := by
  induction F with
  | nil => rfl
  | cons x r ih =>
    by_cases hx : x.1 = k
    · have e2 : mdel (x :: r) k = mdel r k := by simp [mdel, hx]
      have : (x.1 == j) = false := by rw [beq_eq_false_iff_ne, hx]; exact fun e => hne e.symm
      rw [e2, ih, List.find?_cons, this]
    · have e2 : mdel (x :: r) k = x :: mdel r k := by simp [mdel, hx]
      rw [e2, List.find?_cons, List.find?_cons, ih]
theorem mget_same (F : Mp) (k : Tx) (n : Int) : mget (mput F k n) k = n := by
  unfold mget mput
  rw [mfind_mins_same k n _ (fun y hy => (mem_mdel.1 hy).2)]
  rfl
theorem mget_ne (F : Mp) (k : Tx) (n : Int) {j : Tx} (hne : j ≠ k) : mget (mput F k n) j = mget F j := by
  unfold mget mput
  rw [mfind_mins_ne k n hne, mfind_mdel_ne k hne]

theorem keyLaw : Keyed Tryz.prog 9 := string_keyed Tryz.underlying9
/-- block m of w is a map that reads as F -/
def HasMap (w : World) (m : Nat) (F : Mp) : Prop := w.ownsMap Tryz.prog 9 numElem m F.length (mdat F)
theorem HasMap.of {w : World} {m n : Nat} {F : Mp} (h : w.ownsMap Tryz.prog 9 numElem m n (mdat F)) : HasMap w m F := by
  obtain ⟨es, clock, hb, hf, _, hd⟩ := h
  refine ⟨es, clock, hb, hf, ?_, hd⟩
  have e1 : Maps.size (mdat F) = es.size := by rw [hd]; simp [Maps.size, length_sorted]
  rw [mdat_size] at e1
  omega
theorem HasMap.lt {w : World} {m : Nat} {F : Mp} (h : HasMap w m F) : m < w.heap.size := World.ownsMap.lt h
theorem HasMap.heap {w w' : World} {m : Nat} {F : Mp} (h : HasMap w m F) (e : w'.heap[m]? = w.heap[m]?) : HasMap w' m F := by
  obtain ⟨es, clock, hb, r⟩ := h
  exact ⟨es, clock, e.trans hb, r⟩
theorem HasMap.below {w w' : World} {m : Nat} {F : Mp} (h : HasMap w m F) (hb : Below w.heap.size w w') : HasMap w' m F := h.heap (hb.block m h.lt)
theorem HasMap.aw {fb : Nat} {w w' : World} {m : Nat} {F : Mp} (h : HasMap w m F) (hb : Aw fb w w') (hn : m ≠ fb) : HasMap w' m F := h.heap (hb.block m h.lt hn)
theorem keyOk {s : Tx} (hs : s.length ≤ 1000000) : keyOf Tryz.prog 9 (.string (bT s)) = some (.string s) := keyOf_string_mk (s := bT s) Tryz.underlying9 (by rw [bT_size]; unfold maxLen; omega)
theorem HasMap.look {w : World} {m : Nat} {F : Mp} (h : HasMap w m F) {T E : TypeId} (hT : Tryz.prog.underlying T = some (.map 9 E)) (hz : (zeroValue E).run Tryz.prog w = .ok (mval 0) w) {s : Tx} (hs : s.length ≤ 1000000) :
    (Instr.lookup T (.map (some m)) (.string (bT s)) false).run Tryz.prog w = .ok (.int .i64 (mget F s)) w := by
  obtain ⟨v, ps, hrun, hv⟩ := World.ownsMap.lookup h keyLaw hT hz (zd := .held (mval 0)) (zp := []) rfl (keyOk hs)
  rw [hrun]
  rw [mdat_at] at hv
  simp only [numElem, Option.some.injEq, Prod.mk.injEq, DataW.held.injEq] at hv
  rw [hv.1]
  rfl
/-- 'm[s] = v' -/
theorem HasMap.put {w : World} {m : Nat} {F : Mp} (h : HasMap w m F) {T E : TypeId} (hT : Tryz.prog.underlying T = some (.map 9 E)) {s : Tx} (hs : s.length ≤ 1000000) (hn : F.length < maxLen) (n : Int) :
    ∃ w', (Instr.mapUpdate T (.map (some m)) (.string (bT s)) (.int .i64 n)).run Tryz.prog w = .ok () w' ∧ HasMap w' m (mput F s n) ∧ w.mapTurned w' m := by
  obtain ⟨w', hrun, hown, hturn⟩ := World.ownsMap.store h keyLaw hT hn (keyOk hs) (val := .int .i64 n) (d := .held (mval n)) (ps := []) rfl
  exact ⟨w', hrun, .of (by rw [mdat_put] at hown; exact hown), hturn⟩
/-- but for block m nothing has turned; the heap is no greater -/
structure MapT (m : Nat) (w w' : World) : Prop where
  os : w'.os = w.os
  tape : w'.tape = w.tape
  output : w'.output = w.output
  size : w'.heap.size = w.heap.size
  block : ∀ k, k ≠ m → w'.heap[k]? = w.heap[k]?
theorem MapT.of {w w' : World} {m : Nat} (h : w.mapTurned w' m) : MapT m w w' := by
  have g := h.grown
  obtain ⟨es, c, es', c', hb, rfl⟩ := h
  exact ⟨g.os, g.tape, g.output, by simp [ChangeMaps.setBlock], fun k hk => by simp only [ChangeMaps.setBlock]; rw [Array.getElem?_setIfInBounds_ne (Ne.symm hk)]⟩
theorem MapT.aw {fb m : Nat} {w1 w w' : World} (h : MapT m w w') (ha : Aw fb w1 w) (hm : w1.heap.size ≤ m) : Aw fb w1 w' :=
  ⟨h.os.trans ha.os, h.tape.trans ha.tape, h.output.trans ha.output, by rw [h.size]; exact ha.size, fun j hj hn => (h.block j (by omega)).trans (ha.block j hj hn)⟩
theorem MapT.below {m B : Nat} {w0 w w' : World} (h : MapT m w w') (hb : Below B w0 w) (hm : B ≤ m) : Below B w0 w' :=
  ⟨h.os.trans hb.os, h.tape.trans hb.tape, h.output.trans hb.output, by rw [h.size]; exact hb.size, fun j hj => (h.block j (by omega)).trans (hb.block j hj)⟩
theorem MapT.fs {m : Nat} {w0 w1 w w' : World} {f : Flt} (h : MapT m w w') (hf : FQ w0 w1 w f) (hm : w1.heap.size ≤ m) (hw : w0.heap.size < w1.heap.size) : FQ w0 w1 w' f :=
  ⟨⟨(h.block _ (by omega)).trans hf.nb.blk, h.below hf.nb.bel (by omega)⟩, h.aw hf.aw hm⟩
theorem MapT.hasMap {m m2 : Nat} {w w' : World} {F : Mp} (h : MapT m w w') (hf : HasMap w m2 F) (hne : m2 ≠ m) : HasMap w' m2 F := hf.heap (h.block _ hne)
theorem MapT.cell {m : Nat} {w w' : World} (h : MapT m w w') {b o : Nat} (hne : b ≠ m) : w'.cell? ⟨b, o, none⟩ = w.cell? ⟨b, o, none⟩ := by simp only [World.cell?, h.block b hne]
theorem zero_int (w : World) : (zeroValue 3).run Tryz.prog w = .ok (mval 0) w := by kernel_rfl
theorem zero_int64 (w : World) : (zeroValue 2).run Tryz.prog w = .ok (mval 0) w := by kernel_rfl
set_option maxRecDepth 100000 in
theorem new_any (w : World) (m : Nat) (F : Mp) (h : HasMap w m F) (a : Tx) (ha : a.length ≤ 1000000) (hl : F.length ≤ 1000000) (hv : 0 ≤ mget F a ∧ mget F a ≤ 1000000) :
    Calls Tryz.prog 54 #[.map (some m), .string (bT a)] w fun e w' => e = .returned (.bool (mget F a + 1 == 1)) ∧ HasMap w' m (mput F a (mget F a + 1)) ∧ MapT m w w' := by
  obtain ⟨w1, hrun, hm1, htu⟩ := h.put Tryz.underlying120 ha (by unfold maxLen; omega) (mget F a + 1)
  have hl1 := h.look Tryz.underlying120 (zero_int w) ha
  have hl2 := hm1.look Tryz.underlying120 (zero_int w1) ha
  rw [mget_same] at hl2
  have H := Lib.hid (show HasMap w1 m (mput F a (mget F a + 1)) ∧ MapT m w w1 from ⟨hm1, .of htu⟩)
  have hw : IntKind.i64.wrap (mget F a + 1) = mget F a + 1 := IntWalk.i64_in _ (by omega)
  clear h hm1 htu
  generalize mget F a = n at *
  go_enter Tryz.func54, Tryz.ntmps54
  go_wp2_with fail
  exact bodyPost_ret (v := .bool (n + 1 == 1)) (by simp [results, Tryz.results54, go_sem]) rfl ⟨rfl, H.out⟩
end
end Go.Proofs.YtgoejmheihgpfaaGreatDoor
