/-
  check.types.
-/
import Derived.Test.YtgoejmheihgpfaaGreatDoorQo
namespace Go.Proofs.YtgoejmheihgpfaaGreatDoor
open Go.RowKit

def tyF (s : Sch) (r : Rec) (f : Flt) (x : Fld) : Flt := atF f (rightA s x.type) (partT r.name x.name) 131
def tyR (s : Sch) (f : Flt) (r : Rec) : Flt := r.fields.foldl (tyF s r) f
def tyM (r : Svc) (f : Flt) (x : Mth) : Flt := atF f (x.result == 3 || x.result == 1) (partT r.name x.name) 131
def tyV (f : Flt) (r : Svc) : Flt := r.methods.foldl (tyM r) f
def typesA (s : Sch) (f : Flt) : Flt := s.services.foldl tyV (s.records.foldl (tyR s) f)
set_option maxRecDepth 100000 in
set_option maxHeartbeats 16000000 in
theorem types_any (w0 w : World) (s : Sch) (ur us ug : Value) (hS : SchR w0 s ur us ug) (hM : Small s) (f : Flt) (hF : NewB w0 w 99 (fcells f)) :
    Calls Tryz.prog 29 #[.agg #[.string (bT s.name), ur, us, ug], .pointer (some ⟨w0.heap.size, 0, none⟩)] w fun x w' => x = .returned (.tuple #[]) ∧ FQ w0 w w' (typesA s f) := by
  have HM := Lib.hid hM
  obtain ⟨⟨ra, rv, rfl⟩, ⟨sa, sv, rfl⟩, ⟨ga, gv, rfl⟩⟩ := hS.shape
  have HS := Lib.hid (fun (wr : World) (h : Below w0.heap.size w0 wr) => hS.below h)
  have hn1 := hM.nr
  have hn2 := hM.ns
  have hn3 := hM.ng
  have HF0 := Lib.hid (FQ.start (hF.after ((Below.refl _ w).alloc (Nat.le_refl _) (.cells #[.string (bT s.name), .slice ra s.records.length rv, .slice sa s.services.length sv, .slice ga s.sagas.length gv] 26))))
  have hwf := hF.lt
  have HX := Lib.hid (fun (wr : World) (h : Aw w0.heap.size (w.alloc (.cells #[.string (bT s.name), .slice ra s.records.length rv, .slice sa s.services.length sv, .slice ga s.sagas.length gv] 26)) wr) => show wr.heap[w.heap.size]? = some (.cells #[.string (bT s.name), .slice ra s.records.length rv, .slice sa s.services.length sv, .slice ga s.sagas.length gv] 26 (0, 0)) from (h.block _ (by simp) (by omega)).trans (heap_alloc_new _ _))
  have HE := Lib.hid (fun (wr : World) (f' : Flt) (h : FQ w0 (w.alloc (.cells #[.string (bT s.name), .slice ra s.records.length rv, .slice sa s.services.length sv, .slice ga s.sagas.length gv] 26)) wr f') => show FQ w0 w wr f' from ⟨h.nb, (Aw.below ((Below.refl _ w).alloc (Nat.le_refl _) _)).trans h.aw⟩)
  have HA := Lib.hid (fun w1 w2 f h r wh e => at_any w0 w1 w2 f h r wh e)
  clear hF
  unfold typesA
  generalize hz0 : s.records.foldl (tyR s) f = f2
  have HZ0 := Lib.hid hz0
  clear hz0
  generalize hz1 : s.services.foldl tyV f2 = f3
  have HZ1 := Lib.hid hz1
  clear hz1
  go_enter Tryz.func29, Tryz.ntmps29
  go_wp2_with fail
  generalize (w.alloc (.cells #[.string (bT s.name), .slice ra s.records.length rv, .slice sa s.services.length sv, .slice ga s.sagas.length gv] 26)) = wA at *
  go_loopw [15] (fun vi wr => ∃ k : Nat, k ≤ s.records.length ∧ vi = .int .i64 (k : Nat) ∧ Hid (FQ w0 wA wr ((s.records.take k).foldl (tyR s) f))) (fun vi _ => s.records.length - (intOf vi).toNat)
  case atStart => exact ⟨0, by omega, rfl, Lib.hid HF0.out⟩
  case round =>
    rename World => wo
    obtain ⟨k, hk, rfl, HFr⟩ := hrel
    by_cases hlt : k < s.records.length
    · obtain ⟨xr, hx1, hx2⟩ := (HS.out w0 (Below.refl _ _)).rc
      obtain ⟨b, o, fa, fc, ys, rfl, hb, q0, q1, q2, hs, hr⟩ := rec_in HFr.out.nb.bel hx1 hx2 hlt
      have HT := Lib.hid (take_fold (tyR s) f s.records k hlt)
      have hbd := HM.out.rc _ (List.getElem_mem hlt)
      have hsz := HFr.out.size
      generalize s.records[k] = r at *
      clear hx1 hx2
      have hns := hbd.2.1
      generalize hF1 : (s.records.take k).foldl (tyR s) f = F1 at *
      clear hF1
      go_wp2_with fail
      generalize hw1 : wo.alloc (.cells #[.string (bT r.name), .bool r.choice, .slice fa r.fields.length fc] 74) = w1
      have HF1 := Lib.hid (show FQ w0 wA w1 _ from hw1 ▸ HFr.out.alloc _)
      have hg1 : w1.heap[wo.heap.size]? = some (.cells #[.string (bT r.name), .bool r.choice, .slice fa r.fields.length fc] 74 (0, 0)) := hw1 ▸ heap_alloc_new _ _
      have hsz1 : w1.heap.size = wo.heap.size + 1 := by rw [← hw1]; simp
      have HX1 := Lib.hid (fun W (X : Aw w0.heap.size w1 W) => show W.heap[w.heap.size]? = some (.cells #[.string (bT s.name), .slice (some ⟨b, o, none⟩) s.records.length rv, .slice sa s.services.length sv, .slice ga s.sagas.length gv] 26 (0, 0)) ∧ W.heap[wo.heap.size]? = some (.cells #[.string (bT r.name), .bool r.choice, .slice fa r.fields.length fc] 74 (0, 0)) from ⟨HX.out W (HF1.out.aw.trans X), (X.block _ (by omega) (by omega)).trans hg1⟩)
      have hszw : w.heap.size < w1.heap.size := (Array.getElem?_eq_some_iff.1 (HX1.out w1 (Aw.refl _ _)).1).1
      have cr : w1.cell? ⟨wo.heap.size, 2, none⟩ = some (.slice fa r.fields.length fc) := by simp [World.cell?, hg1]
      clear hw1 hg1
      go_loopw [22] (fun vi wi => ∃ j : Nat, j ≤ r.fields.length ∧ vi = .int .i64 (j : Nat) ∧ Hid (FQ w0 w1 wi ((r.fields.take j).foldl (tyF s r) F1))) (fun vi _ => r.fields.length - (intOf vi).toNat)
      case atStart => exact ⟨0, by omega, rfl, Lib.hid (FQ.start HF1.out.nb)⟩
      case round =>
        rename World => wi
        obtain ⟨j, hj, rfl, HFi⟩ := hrel
        by_cases hlt2 : j < r.fields.length
        · obtain ⟨b2, o2, ga2, gc2, rfl, hb2, p0, p1, hs2⟩ := fld_in HFi.out.nb.bel hs hr hlt2
          have HT2 := Lib.hid (take_fold (tyF s r) F1 r.fields j hlt2)
          have hbd2 := hbd.2.2 _ (List.getElem_mem hlt2)
          generalize r.fields[j] = x at *
          have HF2 := Lib.hid (show FQ w0 w1 (wi.alloc (.cells #[.string (bT x.name), .slice ga2 x.type.length gc2] 77)) _ from HFi.out.alloc _)
          have hszi : w1.heap.size ≤ wi.heap.size := HFi.out.aw.size
          have HX2 := Lib.hid (fun W (X : Aw w0.heap.size (wi.alloc (.cells #[.string (bT x.name), .slice ga2 x.type.length gc2] 77)) W) => show W.heap[w.heap.size]? = some (.cells #[.string (bT s.name), .slice (some ⟨b, o, none⟩) s.records.length rv, .slice sa s.services.length sv, .slice ga s.sagas.length gv] 26 (0, 0)) ∧ W.heap[wo.heap.size]? = some (.cells #[.string (bT r.name), .bool r.choice, .slice (some ⟨b2, o2, none⟩) r.fields.length fc] 74 (0, 0)) ∧ W.heap[wi.heap.size]? = some (.cells #[.string (bT x.name), .slice ga2 x.type.length gc2] 77 (0, 0)) from ⟨(HX1.out W (HF2.out.aw.trans X)).1, (HX1.out W (HF2.out.aw.trans X)).2, (X.block _ (by simp) (by omega)).trans (heap_alloc_new _ _)⟩)

          go_wp2_with fail
          generalize hw2 : (wi.alloc (.cells #[.string (bT x.name), .slice ga2 x.type.length gc2] 77)) = w2 at *
          have hsz2' : w2.heap.size = wi.heap.size + 1 := by rw [← hw2]; simp
          clear hw2
          have HC := Lib.hid (fun W (X : Aw w0.heap.size w2 W) => show W.cell? ⟨w.heap.size, 0, none⟩ = some (.string (bT s.name)) ∧ W.cell? ⟨w.heap.size, 1, none⟩ = some (.slice (some ⟨b, o, none⟩) s.records.length rv) ∧ W.cell? ⟨w.heap.size, 2, none⟩ = some (.slice sa s.services.length sv) ∧ W.cell? ⟨w.heap.size, 3, none⟩ = some (.slice ga s.sagas.length gv) ∧ W.cell? ⟨wo.heap.size, 0, none⟩ = some (.string (bT r.name)) ∧ W.cell? ⟨wi.heap.size, 0, none⟩ = some (.string (bT x.name)) ∧ W.cell? ⟨wi.heap.size, 1, none⟩ = some (.slice ga2 x.type.length gc2) from ⟨by simp [World.cell?, (HX2.out W X).1], by simp [World.cell?, (HX2.out W X).1], by simp [World.cell?, (HX2.out W X).1], by simp [World.cell?, (HX2.out W X).1], by simp [World.cell?, (HX2.out W X).2.1], by simp [World.cell?, (HX2.out W X).2.2], by simp [World.cell?, (HX2.out W X).2.2]⟩)
          have HB := Lib.hid (Below.refl w2.heap.size w2).drew
          have HRT := Lib.hid (fun W (X : Below w2.heap.size w2 W) => right_any W s _ _ _ (HS.out W (HF2.out.after X).nb.bel) HM.out _ x.type (hs2.below (HF2.out.after X).nb.bel) hbd2.2.1 hbd2.2.2)
          have HPT := Lib.hid (fun W => part_any W r.name x.name (by omega) (by omega))
          have HAT := Lib.hid (fun W (X : Below w2.heap.size w2 W) => at_z w0 W _ (HF2.out.after X).nb (rightA s x.type) (partT r.name x.name) 131 131 rfl _ rfl)
          have HR := Lib.hid (show tyF s r ((r.fields.take j).foldl (tyF s r) F1) x = atF ((r.fields.take j).foldl (tyF s r) F1) (rightA s x.type) (partT r.name x.name) 131 from rfl)
          obtain ⟨e0, e1, e2, e3, e4, e5, e6⟩ := HC.out w2 (Aw.refl _ _)
          generalize partT r.name x.name = PT at *
          generalize rightA s x.type = RT at *
          clear p0 p1 hb2 hs2
          go_region_held3 (fun W => W.cell? ⟨w.heap.size, 0, none⟩ = some (.string (bT s.name)) ∧ W.cell? ⟨w.heap.size, 1, none⟩ = some (.slice (some ⟨b, o, none⟩) s.records.length rv) ∧ W.cell? ⟨w.heap.size, 2, none⟩ = some (.slice sa s.services.length sv) ∧ W.cell? ⟨w.heap.size, 3, none⟩ = some (.slice ga s.sagas.length gv) ∧ W.cell? ⟨wo.heap.size, 0, none⟩ = some (.string (bT r.name)) ∧ W.cell? ⟨wi.heap.size, 0, none⟩ = some (.string (bT x.name)) ∧ W.cell? ⟨wi.heap.size, 1, none⟩ = some (.slice ga2 x.type.length gc2))
            (first | exact HC.out _ (Aw.below HB.out) | exact HC.out _ (Aw.below hb1) | exact hs3 | assumption)
            (first
              | (go_at_call 56; ((with_reducible refine (HRT.out _ HB.out).mono ?_); rintro e w7 ⟨rfl, hb⟩; have hb1 := HB.out.trans (hb.mono HB.out.size)))
              | (go_at_call 55; ((with_reducible refine (HPT.out _).mono ?_); rintro e w9 ⟨rfl, rfl⟩))
              | (go_at_call 51; ((with_reducible refine (HAT.out _ hb1 ).mono ?_); rintro e w8 ⟨rfl, hf8⟩; have hs3 := HC.out w8 ((Aw.below hb1).trans hf8.aw))))
          all_goals
            have HF8 := Lib.hid ((HF2.out.after hb1).step hf8)
            clear hf8 hs3
            go_wp2_with fail
            exact ⟨⟨j + 1, by omega, by go_num, Lib.hid (by rw [HT2.out]; rw [HR.out]; exact HF8.out)⟩, by simp [intOf]; omega⟩
        have HFj := Lib.hid (HF1.out.step HFi.out)
        rw [take_all _ _ _ _ hlt2] at HFj
        go_wp2_with fail
        exact ⟨⟨k + 1, by omega, by go_num, Lib.hid (by rw [HT.out]; exact HFj.out)⟩, by simp [intOf]; omega⟩
    have HFz := Lib.hid (show FQ w0 wA wo f2 from by have h := HFr.out; rw [take_all _ _ _ _ hlt, HZ0.out] at h; exact h)
    clear HFr
    have hbx := HX.out wo HFz.out.aw
    have cbx : wo.cell? ⟨w.heap.size, 2, none⟩ = some (.slice sa s.services.length sv) := by simp [World.cell?, hbx]
    clear hbx

    go_wp2_with fail
    go_loopw [42] (fun vi wr => ∃ k : Nat, k ≤ s.services.length ∧ vi = .int .i64 (k : Nat) ∧ Hid (FQ w0 wA wr ((s.services.take k).foldl tyV f2))) (fun vi _ => s.services.length - (intOf vi).toNat)
    case atStart => exact ⟨0, by omega, rfl, Lib.hid HFz.out⟩
    case round =>
      clear HFz cbx
      rename World => wo
      obtain ⟨k, hk, rfl, HFr⟩ := hrel
      by_cases hlt : k < s.services.length
      · obtain ⟨xr, hx1, hx2⟩ := (HS.out w0 (Below.refl _ _)).sv
        obtain ⟨b, o, fa, fc, rfl, hb, q0, q1, hs⟩ := svc_in HFr.out.nb.bel hx1 hx2 hlt
        have HT := Lib.hid (take_fold tyV f2 s.services k hlt)
        have hbd := HM.out.sv _ (List.getElem_mem hlt)
        have hsz := HFr.out.size
        generalize s.services[k] = r at *
        clear hx1 hx2
        have hns := hbd.2.1
        generalize hF1 : (s.services.take k).foldl tyV f2 = F1 at *
        clear hF1
        go_wp2_with fail
        generalize hw1 : wo.alloc (.cells #[.string (bT r.name), .slice fa r.methods.length fc] 112) = w1
        have HF1 := Lib.hid (show FQ w0 wA w1 _ from hw1 ▸ HFr.out.alloc _)
        have hg1 : w1.heap[wo.heap.size]? = some (.cells #[.string (bT r.name), .slice fa r.methods.length fc] 112 (0, 0)) := hw1 ▸ heap_alloc_new _ _
        have hsz1 : w1.heap.size = wo.heap.size + 1 := by rw [← hw1]; simp
        have HX1 := Lib.hid (fun W (X : Aw w0.heap.size w1 W) => show W.heap[w.heap.size]? = some (.cells #[.string (bT s.name), .slice ra s.records.length rv, .slice (some ⟨b, o, none⟩) s.services.length sv, .slice ga s.sagas.length gv] 26 (0, 0)) ∧ W.heap[wo.heap.size]? = some (.cells #[.string (bT r.name), .slice fa r.methods.length fc] 112 (0, 0)) from ⟨HX.out W (HF1.out.aw.trans X), (X.block _ (by omega) (by omega)).trans hg1⟩)
        have hszw : w.heap.size < w1.heap.size := (Array.getElem?_eq_some_iff.1 (HX1.out w1 (Aw.refl _ _)).1).1
        have cr : w1.cell? ⟨wo.heap.size, 1, none⟩ = some (.slice fa r.methods.length fc) := by simp [World.cell?, hg1]
        clear hw1 hg1
        go_loopw [49] (fun vi wi => ∃ j : Nat, j ≤ r.methods.length ∧ vi = .int .i64 (j : Nat) ∧ Hid (FQ w0 w1 wi ((r.methods.take j).foldl (tyM r) F1))) (fun vi _ => r.methods.length - (intOf vi).toNat)
        case atStart => exact ⟨0, by omega, rfl, Lib.hid (FQ.start HF1.out.nb)⟩
        case round =>
          rename World => wi
          obtain ⟨j, hj, rfl, HFi⟩ := hrel
          by_cases hlt2 : j < r.methods.length
          · obtain ⟨b2, o2, rfl, hb2, p0, p1, p2, p3, p4⟩ := mth_in HFi.out.nb.bel hs hlt2
            have HT2 := Lib.hid (take_fold (tyM r) F1 r.methods j hlt2)
            have hbd2 := hbd.2.2 _ (List.getElem_mem hlt2)
            generalize r.methods[j] = x at *
            have HF2 := Lib.hid (show FQ w0 w1 (wi.alloc (.cells #[.string (bT x.name), .string (bT x.arg), .int .u8 (x.result : Nat), .string (bT x.effect), .string (bT x.undo)] 92)) _ from HFi.out.alloc _)
            have hszi : w1.heap.size ≤ wi.heap.size := HFi.out.aw.size
            have HX2 := Lib.hid (fun W (X : Aw w0.heap.size (wi.alloc (.cells #[.string (bT x.name), .string (bT x.arg), .int .u8 (x.result : Nat), .string (bT x.effect), .string (bT x.undo)] 92)) W) => show W.heap[w.heap.size]? = some (.cells #[.string (bT s.name), .slice ra s.records.length rv, .slice (some ⟨b, o, none⟩) s.services.length sv, .slice ga s.sagas.length gv] 26 (0, 0)) ∧ W.heap[wo.heap.size]? = some (.cells #[.string (bT r.name), .slice (some ⟨b2, o2, none⟩) r.methods.length fc] 112 (0, 0)) ∧ W.heap[wi.heap.size]? = some (.cells #[.string (bT x.name), .string (bT x.arg), .int .u8 (x.result : Nat), .string (bT x.effect), .string (bT x.undo)] 92 (0, 0)) from ⟨(HX1.out W (HF2.out.aw.trans X)).1, (HX1.out W (HF2.out.aw.trans X)).2, (X.block _ (by simp) (by omega)).trans (heap_alloc_new _ _)⟩)

            go_wp2_with fail
            generalize hw2 : (wi.alloc (.cells #[.string (bT x.name), .string (bT x.arg), .int .u8 (x.result : Nat), .string (bT x.effect), .string (bT x.undo)] 92)) = w2 at *
            have hsz2' : w2.heap.size = wi.heap.size + 1 := by rw [← hw2]; simp
            clear hw2
            have HC := Lib.hid (fun W (X : Aw w0.heap.size w2 W) => show W.cell? ⟨wo.heap.size, 0, none⟩ = some (.string (bT r.name)) ∧ W.cell? ⟨wi.heap.size, 0, none⟩ = some (.string (bT x.name)) ∧ W.cell? ⟨wi.heap.size, 2, none⟩ = some (.int .u8 (x.result : Nat)) from ⟨by simp [World.cell?, (HX2.out W X).2.1], by simp [World.cell?, (HX2.out W X).2.2], by simp [World.cell?, (HX2.out W X).2.2]⟩)
            have HB := Lib.hid (Below.refl w2.heap.size w2).drew
            have HPT := Lib.hid (fun W => part_any W r.name x.name (by omega) (by omega))
            have HAT := Lib.hid (fun W (X : Below w2.heap.size w2 W) (q : Bool) => at_z w0 W _ (HF2.out.after X).nb q (partT r.name x.name) 131 131 rfl _ rfl)
            have HR := Lib.hid (show tyM r ((r.methods.take j).foldl (tyM r) F1) x = atF ((r.methods.take j).foldl (tyM r) F1) (x.result == 3 || x.result == 1) (partT r.name x.name) 131 from rfl)
            obtain ⟨e1, e2, e3⟩ := HC.out w2 (Aw.refl _ _)
            generalize partT r.name x.name = PT at *
            clear p0 p1 p2 p3 p4 hb2
            by_cases c1 : x.result = 3
            · have d1 : ((x.result : Int) == 3) = true := by simp; omega
              have HQ := Lib.hid (show (x.result == 3 || x.result == 1) = true from by rw [c1]; rfl)
              clear c1
              refine wp_region_noPanic ?_
              refine wp_region_held_drew (S := (fun W => W.cell? ⟨wo.heap.size, 0, none⟩ = some (.string (bT r.name)) ∧ W.cell? ⟨wi.heap.size, 0, none⟩ = some (.string (bT x.name)) ∧ W.cell? ⟨wi.heap.size, 2, none⟩ = some (.int .u8 (x.result : Nat)))) (by kernel_rfl) (by (first | exact HC.out _ (Aw.below HB.out) | exact HC.out _ (Aw.below hb1) | exact hs3 | assumption)) (fun hHeld => ?_)
              refine wpAnyH_take (i := 0) (oi := { dst := Option.some 53, op := Op.move (Operand.tmp 1), type := 100, pos := _, after := #[], guard := Option.none }) (v := ?_) rfl (by kernel_rfl) (by kernel_rfl) (by kernel_rfl) (fun _ _ _ h => h) (Or.inl ⟨by rfl, ?_⟩) (by assumption) ?_
              rotate_left
              · (intro wS hSw; (try dsimp only at hSw); go_simp; try with_reducible rfl)
              try simp only [Act.put, List.setIfInBounds_toArray, List.set_cons_zero, List.set_cons_succ]
              refine wpAnyH_take (i := 1) (oi := { dst := Option.some 54, op := Op.fieldAddr 92 (Operand.tmp 11) 2, type := 0, pos := _, after := #[], guard := Option.none }) (v := ?_) rfl (by kernel_rfl) (by kernel_rfl) (by kernel_rfl) (fun _ _ _ h => h) (Or.inl ⟨by rfl, ?_⟩) (by assumption) ?_
              rotate_left
              · (intro wS hSw; (try dsimp only at hSw); go_simp; try with_reducible rfl)
              try simp only [Act.put, List.setIfInBounds_toArray, List.set_cons_zero, List.set_cons_succ]
              refine wpAnyH_take (i := 2) (oi := { dst := Option.some 55, op := Op.load 5 (Operand.tmp 54), type := 5, pos := _, after := #[{ on := 1, ground := Ground.data }], guard := Option.none }) (v := ?_) rfl (by kernel_rfl) (by kernel_rfl) (by kernel_rfl) (fun _ _ _ h => h) (Or.inl ⟨by rfl, ?_⟩) (by assumption) ?_
              rotate_left
              · (intro wS hSw; (try dsimp only at hSw); go_simp; try with_reducible rfl)
              try simp only [Act.put, List.setIfInBounds_toArray, List.set_cons_zero, List.set_cons_succ]
              refine wpAnyH_take (i := 3) (oi := { dst := Option.some 56, op := Op.binOp BinOp.eql 5 (Operand.tmp 55) (Operand.const (Value.int IntKind.u8 3)) 5, type := 4, pos := _, after := #[{ on := 2, ground := Ground.data }], guard := Option.none }) (v := ?_) rfl (by kernel_rfl) (by kernel_rfl) (by kernel_rfl) (fun _ _ _ h => h) (Or.inl ⟨by rfl, ?_⟩) (by assumption) ?_
              rotate_left
              · (intro wS hSw; (try dsimp only at hSw); go_simp; try with_reducible rfl)
              try simp only [Act.put, List.setIfInBounds_toArray, List.set_cons_zero, List.set_cons_succ]
              refine wpAnyH_take (i := 4) (oi := { dst := Option.some 57, op := Op.move (Operand.tmp 56), type := 4, pos := _, after := #[{ on := 3, ground := Ground.data }], guard := Option.none }) (v := ?_) rfl (by kernel_rfl) (by kernel_rfl) (by kernel_rfl) (fun _ _ _ h => h) (Or.inl ⟨by rfl, ?_⟩) (by assumption) ?_
              rotate_left
              · (intro wS hSw; (try dsimp only at hSw); go_simp; try with_reducible rfl)
              try simp only [Act.put, List.setIfInBounds_toArray, List.set_cons_zero, List.set_cons_succ]
              refine wpAnyH_take (i := 5) (oi := { dst := Option.some 58, op := Op.fieldAddr 92 (Operand.tmp 11) 2, type := 0, pos := _, after := #[{ on := 4, ground := Ground.guard }], guard := Option.some (4, Bool.false) }) (v := undef) rfl (by kernel_rfl) (by kernel_rfl) (by kernel_rfl) (fun _ _ _ h => h) (Or.inr ⟨by rfl, rfl⟩) (by assumption) ?_
              try simp only [Act.put, List.setIfInBounds_toArray, List.set_cons_zero, List.set_cons_succ]
              refine wpAnyH_take (i := 6) (oi := { dst := Option.some 59, op := Op.load 5 (Operand.tmp 58), type := 5, pos := _, after := #[{ on := 5, ground := Ground.data }, { on := 4, ground := Ground.guard }], guard := Option.some (4, Bool.false) }) (v := undef) rfl (by kernel_rfl) (by kernel_rfl) (by kernel_rfl) (fun _ _ _ h => h) (Or.inr ⟨by rfl, rfl⟩) (by assumption) ?_
              try simp only [Act.put, List.setIfInBounds_toArray, List.set_cons_zero, List.set_cons_succ]
              refine wpAnyH_take (i := 7) (oi := { dst := Option.some 60, op := Op.binOp BinOp.eql 5 (Operand.tmp 59) (Operand.const (Value.int IntKind.u8 1)) 5, type := 4, pos := _, after := #[{ on := 6, ground := Ground.data }, { on := 4, ground := Ground.guard }], guard := Option.some (4, Bool.false) }) (v := undef) rfl (by kernel_rfl) (by kernel_rfl) (by kernel_rfl) (fun _ _ _ h => h) (Or.inr ⟨by rfl, rfl⟩) (by assumption) ?_
              try simp only [Act.put, List.setIfInBounds_toArray, List.set_cons_zero, List.set_cons_succ]
              refine wpAnyH_take (i := 8) (oi := { dst := Option.some 61, op := Op.pick (Operand.tmp 57) (Operand.const (Value.bool Bool.true)) (Operand.tmp 60), type := 4, pos := _, after := #[{ on := 4, ground := Ground.data }, { on := 7, ground := Ground.data }], guard := Option.none }) (v := ?_) rfl (by kernel_rfl) (by kernel_rfl) (by kernel_rfl) (fun _ _ _ h => h) (Or.inl ⟨by rfl, ?_⟩) (by assumption) ?_
              rotate_left
              · (intro wS hSw; (try dsimp only at hSw); go_simp; try with_reducible rfl)
              try simp only [Act.put, List.setIfInBounds_toArray, List.set_cons_zero, List.set_cons_succ]
              refine wpAnyH_take (i := 9) (oi := { dst := Option.some 62, op := Op.fieldAddr 112 (Operand.tmp 9) 0, type := 0, pos := _, after := #[], guard := Option.none }) (v := ?_) rfl (by kernel_rfl) (by kernel_rfl) (by kernel_rfl) (fun _ _ _ h => h) (Or.inl ⟨by rfl, ?_⟩) (by assumption) ?_
              rotate_left
              · (intro wS hSw; (try dsimp only at hSw); go_simp; try with_reducible rfl)
              try simp only [Act.put, List.setIfInBounds_toArray, List.set_cons_zero, List.set_cons_succ]
              refine wpAnyH_take (i := 10) (oi := { dst := Option.some 63, op := Op.load 9 (Operand.tmp 62), type := 9, pos := _, after := #[{ on := 9, ground := Ground.data }], guard := Option.none }) (v := ?_) rfl (by kernel_rfl) (by kernel_rfl) (by kernel_rfl) (fun _ _ _ h => h) (Or.inl ⟨by rfl, ?_⟩) (by assumption) ?_
              rotate_left
              · (intro wS hSw; (try dsimp only at hSw); go_simp; try with_reducible rfl)
              try simp only [Act.put, List.setIfInBounds_toArray, List.set_cons_zero, List.set_cons_succ]
              refine wpAnyH_take (i := 11) (oi := { dst := Option.some 64, op := Op.fieldAddr 92 (Operand.tmp 11) 0, type := 0, pos := _, after := #[], guard := Option.none }) (v := ?_) rfl (by kernel_rfl) (by kernel_rfl) (by kernel_rfl) (fun _ _ _ h => h) (Or.inl ⟨by rfl, ?_⟩) (by assumption) ?_
              rotate_left
              · (intro wS hSw; (try dsimp only at hSw); go_simp; try with_reducible rfl)
              try simp only [Act.put, List.setIfInBounds_toArray, List.set_cons_zero, List.set_cons_succ]
              refine wpAnyH_take (i := 12) (oi := { dst := Option.some 65, op := Op.load 9 (Operand.tmp 64), type := 9, pos := _, after := #[{ on := 11, ground := Ground.data }], guard := Option.none }) (v := ?_) rfl (by kernel_rfl) (by kernel_rfl) (by kernel_rfl) (fun _ _ _ h => h) (Or.inl ⟨by rfl, ?_⟩) (by assumption) ?_
              rotate_left
              · (intro wS hSw; (try dsimp only at hSw); go_simp; try with_reducible rfl)
              try simp only [Act.put, List.setIfInBounds_toArray, List.set_cons_zero, List.set_cons_succ]
              refine wpAnyH_ready (rs := [13]) (by kernel_rfl) (by simp) ?_
              refine AllReadyH.cons (o := { dst := Option.some 66, op := Op.call { callee := Callee.value (Operand.func 55), args := #[Operand.tmp 63, Operand.tmp 65], argTypes := #[9, 9] }, type := 9, pos := _, after := #[{ on := 10, ground := Ground.data }, { on := 12, ground := Ground.data }, { on := 4, ground := Ground.chain }], guard := Option.none }) rfl (fun K hK => ?_) ?_
              · go_simp
                (first | (go_at_call 55; ((with_reducible refine (HPT.out _).mono ?_); rintro e w9 ⟨rfl, rfl⟩)) | (go_at_call 51; ((with_reducible refine (HAT.out _ HB.out true).mono ?_); rintro e w8 ⟨rfl, hf8⟩; have hs3 := HC.out w8 ((Aw.below HB.out).trans hf8.aw))))
                refine hK.out _ _ (by (first | exact HC.out _ (Aw.below HB.out) | exact HC.out _ (Aw.below hb1) | exact hs3 | assumption)) (fun hHeld => ?_)
                clear hK K
                try simp only [Act.put, List.setIfInBounds_toArray, List.set_cons_zero, List.set_cons_succ]
                refine wpAnyH_ready (rs := [14]) (by kernel_rfl) (by simp) ?_
                refine AllReadyH.cons (o := { dst := Option.some 67, op := Op.call { callee := Callee.value (Operand.func 51), args := #[Operand.tmp 53, Operand.tmp 61, Operand.tmp 66, Operand.const (Value.int IntKind.i64 131)], argTypes := #[100, 4, 9, 47] }, type := 0, pos := _, after := #[{ on := 0, ground := Ground.data }, { on := 8, ground := Ground.data }, { on := 13, ground := Ground.data }, { on := 13, ground := Ground.chain }], guard := Option.none }) rfl (fun K hK => ?_) ?_
                · go_simp
                  (first | (go_at_call 55; ((with_reducible refine (HPT.out _).mono ?_); rintro e w9 ⟨rfl, rfl⟩)) | (go_at_call 51; ((with_reducible refine (HAT.out _ HB.out true).mono ?_); rintro e w8 ⟨rfl, hf8⟩; have hs3 := HC.out w8 ((Aw.below HB.out).trans hf8.aw))))
                  refine hK.out _ _ (by (first | exact HC.out _ (Aw.below HB.out) | exact HC.out _ (Aw.below hb1) | exact hs3 | assumption)) (fun hHeld => ?_)
                  clear hK K
                  try simp only [Act.put, List.setIfInBounds_toArray, List.set_cons_zero, List.set_cons_succ]
                  refine wpAnyH_done (by kernel_rfl) ?_ _
                  refine NoPanic.normal ?_
                  have HF8 := Lib.hid ((HF2.out.after HB.out).step hf8)
                  clear hf8 hs3
                  go_wp2_with fail
                  exact ⟨⟨j + 1, by omega, by go_num, Lib.hid (by rw [HT2.out]; rw [HR.out, HQ.out]; exact HF8.out)⟩, by simp [intOf]; omega⟩
                exact AllReadyH.nil
              exact AllReadyH.nil
            · have d1 : ((x.result : Int) == 3) = false := by simp; omega
              have HQ := Lib.hid (show (x.result == 3 || x.result == 1) = ((x.result : Int) == 1) from by rw [show (x.result == 3) = false from by simp [c1], Bool.false_or, Bool.eq_iff_iff, beq_iff_eq, beq_iff_eq]; omega)
              clear c1
              go_region_held3 (fun W => W.cell? ⟨wo.heap.size, 0, none⟩ = some (.string (bT r.name)) ∧ W.cell? ⟨wi.heap.size, 0, none⟩ = some (.string (bT x.name)) ∧ W.cell? ⟨wi.heap.size, 2, none⟩ = some (.int .u8 (x.result : Nat)))
                (first | exact HC.out _ (Aw.below HB.out) | exact HC.out _ (Aw.below hb1) | exact hs3 | assumption)
                (first
                  | (go_at_call 55; ((with_reducible refine (HPT.out _).mono ?_); rintro e w9 ⟨rfl, rfl⟩))
                  | (go_at_call 51; ((with_reducible refine (HAT.out _ HB.out ((x.result : Int) == 1)).mono ?_); rintro e w8 ⟨rfl, hf8⟩; have hs3 := HC.out w8 ((Aw.below HB.out).trans hf8.aw))))
              all_goals
                have HF8 := Lib.hid ((HF2.out.after HB.out).step hf8)
                clear hf8 hs3
                go_wp2_with fail
                exact ⟨⟨j + 1, by omega, by go_num, Lib.hid (by rw [HT2.out]; rw [HR.out, HQ.out]; exact HF8.out)⟩, by simp [intOf]; omega⟩
          have HFj := Lib.hid (HF1.out.step HFi.out)
          rw [take_all _ _ _ _ hlt2] at HFj
          go_wp2_with fail
          exact ⟨⟨k + 1, by omega, by go_num, Lib.hid (by rw [HT.out]; exact HFj.out)⟩, by simp [intOf]; omega⟩
      have HFz := Lib.hid (show FQ w0 wA wo f3 from by have h := HFr.out; rw [take_all _ _ _ _ hlt, HZ1.out] at h; exact h)
      clear HFr
      go_wp2_with fail
      go_end0
      exact ⟨rfl, HE.out _ _ HFz.out⟩
end Go.Proofs.YtgoejmheihgpfaaGreatDoor
