/-
  check.ways.
-/
import Derived.Test.YtgoejmheihgpfaaGreatDoorQn
namespace Go.Proofs.YtgoejmheihgpfaaGreatDoor
open Go.RowKit

def wayOk (s : Sch) (g : Sga) (i : Nat) (x : Stp) : Bool := decide (i + 1 = g.steps.length) || !decide ((mOr (mthOf s x.service x.method)).undo = [])
def wayI (s : Sch) (g : Sga) (f : Flt) (i : Nat) : Flt := atF f (wayOk s g i (stAt g i)) (nthT g.name i) 133
def wayG (s : Sch) (f : Flt) (g : Sga) : Flt := (List.range g.steps.length).foldl (wayI s g) f
def waysA (s : Sch) (f : Flt) : Flt := s.sagas.foldl (wayG s) f
set_option maxRecDepth 100000 in
set_option maxHeartbeats 16000000 in
theorem ways_any (w0 w : World) (s : Sch) (ur us ug : Value) (hS : SchR w0 s ur us ug) (hM : Small s) (f : Flt) (hF : NewB w0 w 99 (fcells f)) :
    Calls Tryz.prog 35 #[.agg #[.string (bT s.name), ur, us, ug], .pointer (some ⟨w0.heap.size, 0, none⟩)] w fun x w' => x = .returned (.tuple #[]) ∧ FQ w0 w w' (waysA s f) := by
  have HM := Lib.hid hM
  obtain ⟨⟨ra, rv, rfl⟩, ⟨sa, sv, rfl⟩, ⟨ga, gv, rfl⟩⟩ := hS.shape
  have HS := Lib.hid (fun (wr : World) (h : Below w0.heap.size w0 wr) => hS.below h)
  have hn1 := hM.nr
  have hn2 := hM.ns
  have hn3 := hM.ng
  have HF0 := Lib.hid (FQ.start (hF.after ((Below.refl _ w).alloc (Nat.le_refl _) (.cells #[.string (bT s.name), .slice ra s.records.length rv, .slice sa s.services.length sv, .slice ga s.sagas.length gv] 26))))
  have hwf := hF.lt
  have HX := Lib.hid (fun (wr : World) (h : Aw w0.heap.size (w.alloc (.cells #[.string (bT s.name), .slice ra s.records.length rv, .slice sa s.services.length sv, .slice ga s.sagas.length gv] 26)) wr) => show wr.heap[w.heap.size]? = some (.cells #[.string (bT s.name), .slice ra s.records.length rv, .slice sa s.services.length sv, .slice ga s.sagas.length gv] 26 (0, 0)) from (h.block _ (by simp) (by omega)).trans (heap_alloc_new _ _))
  have HE := Lib.hid (fun (wr : World) (f' : Flt) (h : FQ w0 (w.alloc (.cells #[.string (bT s.name), .slice ra s.records.length rv, .slice sa s.services.length sv, .slice ga s.sagas.length gv] 26)) wr f') => show FQ w0 w wr f' from ⟨h.nb, (Aw.below ((Below.refl _ w).alloc (Nat.le_refl _) _)).trans h.aw⟩)
  have HA := Lib.hid (fun w1 w2 f h r wh e => at_any w0 w1 w2 f h r wh e)
  have HMT := Lib.hid (fun (wr : World) (h : Below w0.heap.size w0 wr) a b m hm ok hk => method_lit wr s _ _ _ (hS.below h) hM a b m hm ok hk)
  clear hS hM hF
  unfold waysA
  generalize hf2 : s.sagas.foldl (wayG s) f = f2
  have HF2 := Lib.hid hf2
  clear hf2
  go_enter Tryz.func35, Tryz.ntmps35
  go_wp2_with fail
  generalize (w.alloc (.cells #[.string (bT s.name), .slice ra s.records.length rv, .slice sa s.services.length sv, .slice ga s.sagas.length gv] 26)) = wA at *
  go_loopw [13] (fun vi wr => ∃ k : Nat, k ≤ s.sagas.length ∧ vi = .int .i64 (k : Nat) ∧ Hid (FQ w0 wA wr ((s.sagas.take k).foldl (wayG s) f))) (fun vi _ => s.sagas.length - (intOf vi).toNat)
  case atStart => exact ⟨0, by omega, rfl, Lib.hid HF0.out⟩
  case round =>
    rename World => wo
    obtain ⟨k, hk, rfl, HFr⟩ := hrel
    by_cases hlt : k < s.sagas.length
    · obtain ⟨xr, hx1, hx2⟩ := (HS.out w0 (Below.refl _ _)).sg
      obtain ⟨b, o, fa, fc, rfl, hb, q0, q1, q2, hs⟩ := sga_in HFr.out.nb.bel hx1 hx2 hlt
      have HT := Lib.hid (take_fold (wayG s) f s.sagas k hlt)
      have hbd := HM.out.sg _ (List.getElem_mem hlt)
      have hsz := HFr.out.size
      generalize s.sagas[k] = r at *
      clear hx1 hx2
      have hns := hbd.2.2.1
      generalize hF1 : (s.sagas.take k).foldl (wayG s) f = F1 at *
      clear hF1
      go_wp2_with fail
      generalize hw1 : wo.alloc (.cells #[.string (bT r.name), .string (bT r.arg), .slice fa r.steps.length fc] 67) = w1
      have HF1 := Lib.hid (show FQ w0 wA w1 _ from hw1 ▸ HFr.out.alloc _)
      have hg1 : w1.heap[wo.heap.size]? = some (.cells #[.string (bT r.name), .string (bT r.arg), .slice fa r.steps.length fc] 67 (0, 0)) := hw1 ▸ heap_alloc_new _ _
      have hsz1 : w1.heap.size = wo.heap.size + 1 := by rw [← hw1]; simp
      have HX1 := Lib.hid (fun W (X : Aw w0.heap.size w1 W) => show W.heap[w.heap.size]? = some (.cells #[.string (bT s.name), .slice ra s.records.length rv, .slice sa s.services.length sv, .slice (some ⟨b, o, none⟩) s.sagas.length gv] 26 (0, 0)) ∧ W.heap[wo.heap.size]? = some (.cells #[.string (bT r.name), .string (bT r.arg), .slice fa r.steps.length fc] 67 (0, 0)) from ⟨HX.out W (HF1.out.aw.trans X), (X.block _ (by omega) (by omega)).trans hg1⟩)
      have hszw : w.heap.size < w1.heap.size := (Array.getElem?_eq_some_iff.1 (HX1.out w1 (Aw.refl _ _)).1).1
      have cr : w1.cell? ⟨wo.heap.size, 2, none⟩ = some (.slice fa r.steps.length fc) := by simp [World.cell?, hg1]
      clear hw1 hg1
      go_loopw [20] (fun vi wi => ∃ j : Nat, j ≤ r.steps.length ∧ vi = .int .i64 (j : Nat) ∧ Hid (FQ w0 w1 wi ((List.range j).foldl (wayI s r) F1))) (fun vi _ => r.steps.length - (intOf vi).toNat)
      case atStart => exact ⟨0, by omega, rfl, Lib.hid (FQ.start HF1.out.nb)⟩
      case round =>
        rename World => wi
        obtain ⟨j, hj, rfl, HFi⟩ := hrel
        by_cases hlt2 : j < r.steps.length
        · obtain ⟨b2, o2, rfl, hb2, p0, p1, p2⟩ := stp_in HFi.out.nb.bel hs hlt2
          have HT2 := Lib.hid (show (List.range (j + 1)).foldl (wayI s r) F1 = atF ((List.range j).foldl (wayI s r) F1) (wayOk s r j r.steps[j]) (nthT r.name j) 133 from by rw [range_fold]; unfold wayI; rw [stAt_get hlt2])
          have hbd2 := hbd.2.2.2 _ (List.getElem_mem hlt2)
          generalize r.steps[j] = x at *
          have HF2 := Lib.hid (show FQ w0 w1 (wi.alloc (.cells #[.string (bT x.service), .string (bT x.method), .int .i64 x.node] 108)) _ from HFi.out.alloc _)
          have hszi : w1.heap.size ≤ wi.heap.size := HFi.out.aw.size
          have HX2 := Lib.hid (fun W (X : Aw w0.heap.size (wi.alloc (.cells #[.string (bT x.service), .string (bT x.method), .int .i64 x.node] 108)) W) => show W.heap[w.heap.size]? = some (.cells #[.string (bT s.name), .slice ra s.records.length rv, .slice sa s.services.length sv, .slice (some ⟨b, o, none⟩) s.sagas.length gv] 26 (0, 0)) ∧ W.heap[wo.heap.size]? = some (.cells #[.string (bT r.name), .string (bT r.arg), .slice (some ⟨b2, o2, none⟩) r.steps.length fc] 67 (0, 0)) ∧ W.heap[wi.heap.size]? = some (.cells #[.string (bT x.service), .string (bT x.method), .int .i64 x.node] 108 (0, 0)) from ⟨(HX1.out W (HF2.out.aw.trans X)).1, (HX1.out W (HF2.out.aw.trans X)).2, (X.block _ (by simp) (by omega)).trans (heap_alloc_new _ _)⟩)
          obtain ⟨a1, a2, a3⟩ := HX2.out (wi.alloc (.cells #[.string (bT x.service), .string (bT x.method), .int .i64 x.node] 108)) (Aw.refl _ _)
          have s0 : (wi.alloc (.cells #[.string (bT x.service), .string (bT x.method), .int .i64 x.node] 108)).cell? ⟨w.heap.size, 0, none⟩ = some (.string (bT s.name)) := by simp only [World.cell?, a1]; rfl
          have s1 : (wi.alloc (.cells #[.string (bT x.service), .string (bT x.method), .int .i64 x.node] 108)).cell? ⟨w.heap.size, 1, none⟩ = some (.slice ra s.records.length rv) := by simp only [World.cell?, a1]; rfl
          have s2 : (wi.alloc (.cells #[.string (bT x.service), .string (bT x.method), .int .i64 x.node] 108)).cell? ⟨w.heap.size, 2, none⟩ = some (.slice sa s.services.length sv) := by simp only [World.cell?, a1]; rfl
          have s3 : (wi.alloc (.cells #[.string (bT x.service), .string (bT x.method), .int .i64 x.node] 108)).cell? ⟨w.heap.size, 3, none⟩ = some (.slice (some ⟨b, o, none⟩) s.sagas.length gv) := by simp only [World.cell?, a1]; rfl
          have x0 : (wi.alloc (.cells #[.string (bT x.service), .string (bT x.method), .int .i64 x.node] 108)).cell? ⟨wi.heap.size, 0, none⟩ = some (.string (bT x.service)) := by simp only [World.cell?, a3]; rfl
          have x1 : (wi.alloc (.cells #[.string (bT x.service), .string (bT x.method), .int .i64 x.node] 108)).cell? ⟨wi.heap.size, 1, none⟩ = some (.string (bT x.method)) := by simp only [World.cell?, a3]; rfl
          clear a1 a2 a3
          have HOK := Lib.hid (show wayOk s r j x = (decide (j + 1 = r.steps.length) || !decide ((mOr (mthOf s x.service x.method)).undo = [])) from rfl)
          have HMx := Lib.hid (fun m hm ok hk => HMT.out (wi.alloc (.cells #[.string (bT x.service), .string (bT x.method), .int .i64 x.node] 108)) HF2.out.nb.bel x.service x.method m hm ok hk)
          generalize wayOk s r j x = R at *
          generalize hm : mOr (mthOf s x.service x.method) = m at *
          generalize hok : (mthOf s x.service x.method).isSome = ok at *
          have HMz := Lib.hid (HMx.out m rfl ok rfl)
          clear HMx hm hok
          go_wp2_with fail
          refine HMz.out.mono ?_
          rintro e w5 ⟨rfl, hb5⟩
          generalize hw2 : (wi.alloc (.cells #[.string (bT x.service), .string (bT x.method), .int .i64 x.node] 108)) = w2 at *
          have hsz2' : w2.heap.size = wi.heap.size + 1 := by rw [← hw2]; simp
          clear hw2
          have HB5 := Lib.hid hb5
          have hsz5 := hb5.size
          clear hb5 HMz s0 s1 s2 s3 x0 x1
          go_wp2_with fail
          generalize hw6 : w5.alloc (.cells #[.string (bT m.name), .string (bT m.arg), .int .u8 (m.result : Nat), .string (bT m.effect), .string (bT m.undo)] 92) = w6
          have HB6 := Lib.hid (show Below w2.heap.size w2 w6 from hw6 ▸ HB5.out.alloc HB5.out.size _)
          have hg6 : w6.heap[w5.heap.size]? = some (.cells #[.string (bT m.name), .string (bT m.arg), .int .u8 (m.result : Nat), .string (bT m.effect), .string (bT m.undo)] 92 (0, 0)) := hw6 ▸ heap_alloc_new _ _
          have hsz6 : w6.heap.size = w5.heap.size + 1 := by rw [← hw6]; simp
          have HF6 := Lib.hid (HF2.out.after HB6.out)
          clear hw6 HB5
          have hw0s := HF6.out.size
          have HC := Lib.hid (fun W (X : Aw w0.heap.size w6 W) => show W.cell? ⟨wo.heap.size, 0, none⟩ = some (.string (bT r.name)) ∧ W.cell? ⟨wo.heap.size, 2, none⟩ = some (.slice (some ⟨b2, o2, none⟩) r.steps.length fc) ∧ W.cell? ⟨w5.heap.size, 4, none⟩ = some (.string (bT m.undo)) from ⟨by simp [World.cell?, (HX2.out W ((Aw.below HB6.out).trans X)).2.1], by simp [World.cell?, (HX2.out W ((Aw.below HB6.out).trans X)).2.1], by simp [World.cell?, (X.block w5.heap.size (by omega) (by omega)).trans hg6]⟩)
          have HB := Lib.hid (Below.refl w6.heap.size w6).drew
          have HNT := Lib.hid (fun W => nth_any W r.name (by omega) j (by omega))
          have HAT := Lib.hid (fun W (X : Below w6.heap.size w6 W) (q : Bool) => at_z w0 W _ (HF6.out.after X).nb q (nthT r.name j) 133 133 rfl _ rfl)
          obtain ⟨e0, e1, e2⟩ := HC.out w6 (Aw.refl _ _)
          have e_a := bT_is m.undo []
          have f_w : IntKind.i64.wrap ((r.steps.length : Int) - 1) = (r.steps.length : Int) - 1 := IntWalk.i64_in _ (by omega)
          generalize nthT r.name j = NT at *
          clear hg6 p0 p1 p2 hb2
          by_cases c1 : j + 1 = r.steps.length
          · have d1 : ((j : Int) == (r.steps.length : Int) - 1) = true := by rw [beq_iff_eq]; omega
            have HR := Lib.hid (show R = true from by rw [HOK.out, decide_eq_true c1]; rfl)
            clear HOK c1
            refine wp_region_noPanic ?_
            refine wp_region_held_drew (S := (fun W => W.cell? ⟨wo.heap.size, 0, none⟩ = some (.string (bT r.name)) ∧ W.cell? ⟨wo.heap.size, 2, none⟩ = some (.slice (some ⟨b2, o2, none⟩) r.steps.length fc) ∧ W.cell? ⟨w5.heap.size, 4, none⟩ = some (.string (bT m.undo)))) (by kernel_rfl) (by (first | exact HC.out _ (Aw.below HB.out) | exact hs3 | assumption)) (fun hHeld => ?_)
            refine wpAnyH_take (i := 0) (oi := { dst := Option.some 34, op := Op.move (Operand.tmp 1), type := 100, pos := _, after := #[], guard := Option.none }) (v := ?_) rfl (by kernel_rfl) (by kernel_rfl) (by kernel_rfl) (fun _ _ _ h => h) (Or.inl ⟨by rfl, ?_⟩) (by assumption) ?_
            rotate_left
            · (intro wS hSw; (try dsimp only at hSw); go_simp; try with_reducible rfl)
            try simp only [Act.put, List.setIfInBounds_toArray, List.set_cons_zero, List.set_cons_succ]
            refine wpAnyH_take (i := 1) (oi := { dst := Option.some 35, op := Op.move (Operand.tmp 6), type := 3, pos := _, after := #[], guard := Option.none }) (v := ?_) rfl (by kernel_rfl) (by kernel_rfl) (by kernel_rfl) (fun _ _ _ h => h) (Or.inl ⟨by rfl, ?_⟩) (by assumption) ?_
            rotate_left
            · (intro wS hSw; (try dsimp only at hSw); go_simp; try with_reducible rfl)
            try simp only [Act.put, List.setIfInBounds_toArray, List.set_cons_zero, List.set_cons_succ]
            refine wpAnyH_take (i := 2) (oi := { dst := Option.some 36, op := Op.fieldAddr 67 (Operand.tmp 5) 2, type := 0, pos := _, after := #[], guard := Option.none }) (v := ?_) rfl (by kernel_rfl) (by kernel_rfl) (by kernel_rfl) (fun _ _ _ h => h) (Or.inl ⟨by rfl, ?_⟩) (by assumption) ?_
            rotate_left
            · (intro wS hSw; (try dsimp only at hSw); go_simp; try with_reducible rfl)
            try simp only [Act.put, List.setIfInBounds_toArray, List.set_cons_zero, List.set_cons_succ]
            refine wpAnyH_take (i := 3) (oi := { dst := Option.some 37, op := Op.load 65 (Operand.tmp 36), type := 65, pos := _, after := #[{ on := 2, ground := Ground.data }], guard := Option.none }) (v := ?_) rfl (by kernel_rfl) (by kernel_rfl) (by kernel_rfl) (fun _ _ _ h => h) (Or.inl ⟨by rfl, ?_⟩) (by assumption) ?_
            rotate_left
            · (intro wS hSw; (try dsimp only at hSw); go_simp; try with_reducible rfl)
            try simp only [Act.put, List.setIfInBounds_toArray, List.set_cons_zero, List.set_cons_succ]
            refine wpAnyH_take (i := 4) (oi := { dst := Option.some 38, op := Op.call { callee := Callee.builtin Builtin.len, args := #[Operand.tmp 37], argTypes := #[65] }, type := 3, pos := _, after := #[{ on := 3, ground := Ground.data }], guard := Option.none }) (v := ?_) rfl (by kernel_rfl) (by kernel_rfl) (by kernel_rfl) (fun _ _ _ h => h) (Or.inl ⟨by rfl, ?_⟩) (by assumption) ?_
            rotate_left
            · (intro wS hSw; (try dsimp only at hSw); go_simp; try with_reducible rfl)
            try simp only [Act.put, List.setIfInBounds_toArray, List.set_cons_zero, List.set_cons_succ]
            refine wpAnyH_take (i := 5) (oi := { dst := Option.some 39, op := Op.binOp BinOp.sub 3 (Operand.tmp 38) (Operand.const (Value.int IntKind.i64 1)) 3, type := 3, pos := _, after := #[{ on := 4, ground := Ground.data }], guard := Option.none }) (v := ?_) rfl (by kernel_rfl) (by kernel_rfl) (by kernel_rfl) (fun _ _ _ h => h) (Or.inl ⟨by rfl, ?_⟩) (by assumption) ?_
            rotate_left
            · (intro wS hSw; (try dsimp only at hSw); go_simp; try with_reducible rfl)
            try simp only [Act.put, List.setIfInBounds_toArray, List.set_cons_zero, List.set_cons_succ]
            refine wpAnyH_take (i := 6) (oi := { dst := Option.some 40, op := Op.binOp BinOp.eql 3 (Operand.tmp 35) (Operand.tmp 39) 3, type := 4, pos := _, after := #[{ on := 1, ground := Ground.data }, { on := 5, ground := Ground.data }], guard := Option.none }) (v := ?_) rfl (by kernel_rfl) (by kernel_rfl) (by kernel_rfl) (fun _ _ _ h => h) (Or.inl ⟨by rfl, ?_⟩) (by assumption) ?_
            rotate_left
            · (intro wS hSw; (try dsimp only at hSw); go_simp; try with_reducible rfl)
            try simp only [Act.put, List.setIfInBounds_toArray, List.set_cons_zero, List.set_cons_succ]
            refine wpAnyH_take (i := 7) (oi := { dst := Option.some 41, op := Op.move (Operand.tmp 40), type := 4, pos := _, after := #[{ on := 6, ground := Ground.data }], guard := Option.none }) (v := ?_) rfl (by kernel_rfl) (by kernel_rfl) (by kernel_rfl) (fun _ _ _ h => h) (Or.inl ⟨by rfl, ?_⟩) (by assumption) ?_
            rotate_left
            · (intro wS hSw; (try dsimp only at hSw); go_simp; try with_reducible rfl)
            try simp only [Act.put, List.setIfInBounds_toArray, List.set_cons_zero, List.set_cons_succ]
            refine wpAnyH_take (i := 8) (oi := { dst := Option.some 42, op := Op.fieldAddr 92 (Operand.tmp 8) 4, type := 0, pos := _, after := #[{ on := 7, ground := Ground.guard }], guard := Option.some (7, Bool.false) }) (v := undef) rfl (by kernel_rfl) (by kernel_rfl) (by kernel_rfl) (fun _ _ _ h => h) (Or.inr ⟨by rfl, rfl⟩) (by assumption) ?_
            try simp only [Act.put, List.setIfInBounds_toArray, List.set_cons_zero, List.set_cons_succ]
            refine wpAnyH_take (i := 9) (oi := { dst := Option.some 43, op := Op.load 9 (Operand.tmp 42), type := 9, pos := _, after := #[{ on := 8, ground := Ground.data }, { on := 7, ground := Ground.guard }], guard := Option.some (7, Bool.false) }) (v := undef) rfl (by kernel_rfl) (by kernel_rfl) (by kernel_rfl) (fun _ _ _ h => h) (Or.inr ⟨by rfl, rfl⟩) (by assumption) ?_
            try simp only [Act.put, List.setIfInBounds_toArray, List.set_cons_zero, List.set_cons_succ]
            refine wpAnyH_take (i := 10) (oi := { dst := Option.some 44, op := Op.binOp BinOp.neq 9 (Operand.tmp 43) (Operand.const (Value.string { data := #[] })) 9, type := 4, pos := _, after := #[{ on := 9, ground := Ground.data }, { on := 7, ground := Ground.guard }], guard := Option.some (7, Bool.false) }) (v := undef) rfl (by kernel_rfl) (by kernel_rfl) (by kernel_rfl) (fun _ _ _ h => h) (Or.inr ⟨by rfl, rfl⟩) (by assumption) ?_
            try simp only [Act.put, List.setIfInBounds_toArray, List.set_cons_zero, List.set_cons_succ]
            refine wpAnyH_take (i := 11) (oi := { dst := Option.some 45, op := Op.pick (Operand.tmp 41) (Operand.const (Value.bool Bool.true)) (Operand.tmp 44), type := 4, pos := _, after := #[{ on := 7, ground := Ground.data }, { on := 10, ground := Ground.data }], guard := Option.none }) (v := ?_) rfl (by kernel_rfl) (by kernel_rfl) (by kernel_rfl) (fun _ _ _ h => h) (Or.inl ⟨by rfl, ?_⟩) (by assumption) ?_
            rotate_left
            · (intro wS hSw; (try dsimp only at hSw); go_simp; try with_reducible rfl)
            try simp only [Act.put, List.setIfInBounds_toArray, List.set_cons_zero, List.set_cons_succ]
            refine wpAnyH_take (i := 12) (oi := { dst := Option.some 46, op := Op.fieldAddr 67 (Operand.tmp 5) 0, type := 0, pos := _, after := #[], guard := Option.none }) (v := ?_) rfl (by kernel_rfl) (by kernel_rfl) (by kernel_rfl) (fun _ _ _ h => h) (Or.inl ⟨by rfl, ?_⟩) (by assumption) ?_
            rotate_left
            · (intro wS hSw; (try dsimp only at hSw); go_simp; try with_reducible rfl)
            try simp only [Act.put, List.setIfInBounds_toArray, List.set_cons_zero, List.set_cons_succ]
            refine wpAnyH_take (i := 13) (oi := { dst := Option.some 47, op := Op.load 9 (Operand.tmp 46), type := 9, pos := _, after := #[{ on := 12, ground := Ground.data }], guard := Option.none }) (v := ?_) rfl (by kernel_rfl) (by kernel_rfl) (by kernel_rfl) (fun _ _ _ h => h) (Or.inl ⟨by rfl, ?_⟩) (by assumption) ?_
            rotate_left
            · (intro wS hSw; (try dsimp only at hSw); go_simp; try with_reducible rfl)
            try simp only [Act.put, List.setIfInBounds_toArray, List.set_cons_zero, List.set_cons_succ]
            refine wpAnyH_take (i := 14) (oi := { dst := Option.some 48, op := Op.move (Operand.tmp 6), type := 3, pos := _, after := #[], guard := Option.none }) (v := ?_) rfl (by kernel_rfl) (by kernel_rfl) (by kernel_rfl) (fun _ _ _ h => h) (Or.inl ⟨by rfl, ?_⟩) (by assumption) ?_
            rotate_left
            · (intro wS hSw; (try dsimp only at hSw); go_simp; try with_reducible rfl)
            try simp only [Act.put, List.setIfInBounds_toArray, List.set_cons_zero, List.set_cons_succ]
            refine wpAnyH_ready (rs := [15]) (by kernel_rfl) (by simp) ?_
            refine AllReadyH.cons (o := { dst := Option.some 49, op := Op.call { callee := Callee.value (Operand.func 60), args := #[Operand.tmp 47, Operand.tmp 48], argTypes := #[9, 3] }, type := 9, pos := _, after := #[{ on := 13, ground := Ground.data }, { on := 14, ground := Ground.data }, { on := 7, ground := Ground.chain }], guard := Option.none }) rfl (fun K hK => ?_) ?_
            · go_simp
              (first | (go_at_call 60; ((with_reducible refine (HNT.out _).mono ?_); rintro e w7 ⟨rfl, rfl⟩)) | (go_at_call 51; ((with_reducible refine (HAT.out _ HB.out true).mono ?_); rintro e w8 ⟨rfl, hf8⟩; have hs3 := HC.out w8 ((Aw.below HB.out).trans hf8.aw))))
              refine hK.out _ _ (by (first | exact HC.out _ (Aw.below HB.out) | exact hs3 | assumption)) (fun hHeld => ?_)
              clear hK K
              try simp only [Act.put, List.setIfInBounds_toArray, List.set_cons_zero, List.set_cons_succ]
              refine wpAnyH_ready (rs := [16]) (by kernel_rfl) (by simp) ?_
              refine AllReadyH.cons (o := { dst := Option.some 50, op := Op.call { callee := Callee.value (Operand.func 51), args := #[Operand.tmp 34, Operand.tmp 45, Operand.tmp 49, Operand.const (Value.int IntKind.i64 133)], argTypes := #[100, 4, 9, 47] }, type := 0, pos := _, after := #[{ on := 0, ground := Ground.data }, { on := 11, ground := Ground.data }, { on := 15, ground := Ground.data }, { on := 15, ground := Ground.chain }], guard := Option.none }) rfl (fun K hK => ?_) ?_
              · go_simp
                (first | (go_at_call 60; ((with_reducible refine (HNT.out _).mono ?_); rintro e w7 ⟨rfl, rfl⟩)) | (go_at_call 51; ((with_reducible refine (HAT.out _ HB.out true).mono ?_); rintro e w8 ⟨rfl, hf8⟩; have hs3 := HC.out w8 ((Aw.below HB.out).trans hf8.aw))))
                refine hK.out _ _ (by (first | exact HC.out _ (Aw.below HB.out) | exact hs3 | assumption)) (fun hHeld => ?_)
                clear hK K
                try simp only [Act.put, List.setIfInBounds_toArray, List.set_cons_zero, List.set_cons_succ]
                refine wpAnyH_done (by kernel_rfl) ?_ _
                refine NoPanic.normal ?_
                have HF8 := Lib.hid ((HF6.out.after HB.out).step hf8)
                clear hf8 hs3
                go_wp2_with fail
                exact ⟨⟨j + 1, by omega, by go_num, Lib.hid (by rw [HT2.out, HR.out]; exact HF8.out)⟩, by simp [intOf]; omega⟩
              exact AllReadyH.nil
            exact AllReadyH.nil
          · have d1 : ((j : Int) == (r.steps.length : Int) - 1) = false := by rw [beq_eq_false_iff_ne]; omega
            have HR := Lib.hid (show R = !(bT m.undo).toList.isEmpty from by rw [HOK.out, decide_eq_false c1, bT_list]; cases m.undo <;> simp)
            clear HOK c1 e_a
            go_region_held3 (fun W => W.cell? ⟨wo.heap.size, 0, none⟩ = some (.string (bT r.name)) ∧ W.cell? ⟨wo.heap.size, 2, none⟩ = some (.slice (some ⟨b2, o2, none⟩) r.steps.length fc) ∧ W.cell? ⟨w5.heap.size, 4, none⟩ = some (.string (bT m.undo)))
              (first | exact HC.out _ (Aw.below HB.out) | exact hs3 | assumption)
              (first
                | (go_at_call 60; ((with_reducible refine (HNT.out _).mono ?_); rintro e w7 ⟨rfl, rfl⟩))
                | (go_at_call 51; ((with_reducible refine (HAT.out _ HB.out (!(bT m.undo).toList.isEmpty)).mono ?_); rintro e w8 ⟨rfl, hf8⟩; have hs3 := HC.out w8 ((Aw.below HB.out).trans hf8.aw))))
            all_goals
              have HF8 := Lib.hid ((HF6.out.after HB.out).step hf8)
              clear hf8 hs3
              go_wp2_with fail
              exact ⟨⟨j + 1, by omega, by go_num, Lib.hid (by rw [HT2.out, HR.out]; exact HF8.out)⟩, by simp [intOf]; omega⟩
        have HFj := Lib.hid (HF1.out.step HFi.out)
        have hjj : j = r.steps.length := by omega
        subst hjj
        go_wp2_with fail
        exact ⟨⟨k + 1, by omega, by go_num, Lib.hid (by rw [HT.out]; exact HFj.out)⟩, by simp [intOf]; omega⟩
    have HFz := Lib.hid (show FQ w0 wA wo f2 from by have h := HFr.out; rw [take_all _ _ _ _ hlt, HF2.out] at h; exact h)
    go_wp2_with fail
    go_end0
    exact ⟨rfl, HE.out _ _ HFz.out⟩
end Go.Proofs.YtgoejmheihgpfaaGreatDoor
