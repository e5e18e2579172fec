/-
  redresslaw25.Great; the walk of redresslaw28.ModelPrefix.
-/
import Derived.Test.YtgoejmheihgpfaaGreatDoorTc
namespace Go.Proofs.YtgoejmheihgpfaaGreatDoor
open Go.RowKit

set_option maxRecDepth 100000 in
set_option maxHeartbeats 8000000 in
theorem great25_any (w : World) (s : Sch) (ra sa ga : Option Addr) (rv sv gv : Nat) (hS : SchR w s (.slice ra s.records.length rv) (.slice sa s.services.length sv) (.slice ga s.sagas.length gv)) (r : Run) :
    Calls Tryz.prog 15 #[.agg #[.string (bT s.name), .slice ra s.records.length rv, .slice sa s.services.length sv, .slice ga s.sagas.length gv], .agg #[.string (bT r.id), .string (bT r.sg), .string (bT r.arg), .int .i64 r.at_, .int .u8 (r.ph : Nat), .int .i64 r.tr, .bool r.st, .int .i64 r.wh, .string (bT r.vl)], .agg #[.int .u8 0, .int .i64 0, .int .i64 0, .int .u64 0, .string ⟨#[]⟩, .int .u64 0, .string ⟨#[]⟩, .string ⟨#[]⟩, .int .i64 0, .string ⟨#[]⟩]] w fun x w' => GrB (Small s ∧ RunSmall r) x ∧ Below w.heap.size w w' := by
  have HGR := Lib.hid (fun W (X : Below w.heap.size w W) => great13_any W s _ _ _ (hS.below X))
  clear hS
  go_enter Tryz.func15, Tryz.ntmps15
  go_upto_region 1 with (fail)
  generalize hw3 : (((w.alloc (.cells #[.string (bT s.name), .slice ra s.records.length rv, .slice sa s.services.length sv, .slice ga s.sagas.length gv] 26)).alloc (.cells #[.string (bT r.id), .string (bT r.sg), .string (bT r.arg), .int .i64 r.at_, .int .u8 (r.ph : Nat), .int .i64 r.tr, .bool r.st, .int .i64 r.wh, .string (bT r.vl)] 53)).alloc (.cells #[.int .u8 0, .int .i64 0, .int .i64 0, .int .u64 0, .string ⟨#[]⟩, .int .u64 0, .string ⟨#[]⟩, .string ⟨#[]⟩, .int .i64 0, .string ⟨#[]⟩] 63)) = w3 at *
  have HB3 := Lib.hid (show Below w.heap.size w w3 from hw3 ▸ ((bl1 w _).alloc (by simp) _).alloc (by simp; omega) _)
  have HX0 := Lib.hid (show w3.heap[w.heap.size]? = some (.cells #[.string (bT s.name), .slice ra s.records.length rv, .slice sa s.services.length sv, .slice ga s.sagas.length gv] 26 (0, 0)) from hw3 ▸ (heap3 w _ _ _).1)
  have HX1 := Lib.hid (show w3.heap[w.heap.size + 1]? = some (.cells #[.string (bT r.id), .string (bT r.sg), .string (bT r.arg), .int .i64 r.at_, .int .u8 (r.ph : Nat), .int .i64 r.tr, .bool r.st, .int .i64 r.wh, .string (bT r.vl)] 53 (0, 0)) from hw3 ▸ (heap3 w _ _ _).2.1)
  have HX2 := Lib.hid (show w3.heap[w.heap.size + 1 + 1]? = some (.cells #[.int .u8 0, .int .i64 0, .int .i64 0, .int .u64 0, .string ⟨#[]⟩, .int .u64 0, .string ⟨#[]⟩, .string ⟨#[]⟩, .int .i64 0, .string ⟨#[]⟩] 63 (0, 0)) from hw3 ▸ (heap3 w _ _ _).2.2)
  clear hw3
  have hx0 := HX0.out
  have a00 : w3.cell? ⟨w.heap.size, 0, none⟩ = some (.string (bT s.name)) := by simp only [World.cell?, hx0]; rfl
  have a01 : w3.cell? ⟨w.heap.size, 1, none⟩ = some (.slice ra s.records.length rv) := by simp only [World.cell?, hx0]; rfl
  have a02 : w3.cell? ⟨w.heap.size, 2, none⟩ = some (.slice sa s.services.length sv) := by simp only [World.cell?, hx0]; rfl
  have a03 : w3.cell? ⟨w.heap.size, 3, none⟩ = some (.slice ga s.sagas.length gv) := by simp only [World.cell?, hx0]; rfl
  have hla : w.heap.size < w3.heap.size := (Array.getElem?_eq_some_iff.1 hx0).1
  have HC := Lib.hid (HGR.out w3 HB3.out)
  clear hx0
  go_wp2_with fail
  refine HC.out.mono ?_
  rintro y w4 ⟨⟨b, rfl, hb⟩, hbl⟩
  have HB4 := Lib.hid (HB3.out.trans (hbl.mono HB3.out.size))
  have hx1 := (hbl.block _ (Array.getElem?_eq_some_iff.1 HX1.out).1).trans HX1.out
  have hx2 := (hbl.block _ (Array.getElem?_eq_some_iff.1 HX2.out).1).trans HX2.out
  have hlx : w.heap.size + 1 + 1 < w4.heap.size := (Array.getElem?_eq_some_iff.1 hx2).1
  clear hbl HC a00 a01 a02 a03 hla
  have b10 : w4.cell? ⟨w.heap.size + 1, 0, none⟩ = some (.string (bT r.id)) := by simp only [World.cell?, hx1]; rfl
  have b11 : w4.cell? ⟨w.heap.size + 1, 1, none⟩ = some (.string (bT r.sg)) := by simp only [World.cell?, hx1]; rfl
  have b12 : w4.cell? ⟨w.heap.size + 1, 2, none⟩ = some (.string (bT r.arg)) := by simp only [World.cell?, hx1]; rfl
  have b18 : w4.cell? ⟨w.heap.size + 1, 8, none⟩ = some (.string (bT r.vl)) := by simp only [World.cell?, hx1]; rfl
  have b24 : w4.cell? ⟨w.heap.size + 1 + 1, 4, none⟩ = some (.string ⟨#[]⟩) := by simp only [World.cell?, hx2]; rfl
  have b29 : w4.cell? ⟨w.heap.size + 1 + 1, 9, none⟩ = some (.string ⟨#[]⟩) := by simp only [World.cell?, hx2]; rfl
  clear hx1 hx2
  cases b with
  | true =>
    clear hb
    go_wp2_with fail
    exact bodyPost_ret (v := .bool true) (by simp [results, Tryz.results15, go_sem]) rfl ⟨⟨true, rfl, fun h => by cases h⟩, HB4.out⟩
  | false =>
    have HSM := Lib.hid (hb rfl)
    clear hb
    have z0 := bT_size r.id
    by_cases t0 : 5000 < (r.id.length : Int)
    · have e0 : decide (5000 < (r.id.length : Int)) = true := decide_eq_true t0
      go_wp2_with fail
      exact bodyPost_ret (v := .bool true) (by simp [results, Tryz.results15, go_sem]) rfl ⟨⟨true, rfl, fun h => by cases h⟩, HB4.out⟩
    have e0 : decide (5000 < (r.id.length : Int)) = false := decide_eq_false t0
    have y0 : r.id.length ≤ 5000 := by omega
    have z1 := bT_size r.sg
    by_cases t1 : 5000 < (r.sg.length : Int)
    · have e1 : decide (5000 < (r.sg.length : Int)) = true := decide_eq_true t1
      go_wp2_with fail
      exact bodyPost_ret (v := .bool true) (by simp [results, Tryz.results15, go_sem]) rfl ⟨⟨true, rfl, fun h => by cases h⟩, HB4.out⟩
    have e1 : decide (5000 < (r.sg.length : Int)) = false := decide_eq_false t1
    have y1 : r.sg.length ≤ 5000 := by omega
    have z2 := bT_size r.arg
    by_cases t2 : 5000 < (r.arg.length : Int)
    · have e2 : decide (5000 < (r.arg.length : Int)) = true := decide_eq_true t2
      go_wp2_with fail
      exact bodyPost_ret (v := .bool true) (by simp [results, Tryz.results15, go_sem]) rfl ⟨⟨true, rfl, fun h => by cases h⟩, HB4.out⟩
    have e2 : decide (5000 < (r.arg.length : Int)) = false := decide_eq_false t2
    have y2 : r.arg.length ≤ 5000 := by omega
    have z3 := bT_size r.vl
    by_cases t3 : 5000 < (r.vl.length : Int)
    · have e3 : decide (5000 < (r.vl.length : Int)) = true := decide_eq_true t3
      go_wp2_with fail
      exact bodyPost_ret (v := .bool true) (by simp [results, Tryz.results15, go_sem]) rfl ⟨⟨true, rfl, fun h => by cases h⟩, HB4.out⟩
    have e3 : decide (5000 < (r.vl.length : Int)) = false := decide_eq_false t3
    have y3 : r.vl.length ≤ 5000 := by omega
    have HRS := Lib.hid (show Small s ∧ RunSmall r from ⟨HSM.out, y0, y2, y3⟩)
    go_wp2_with fail
    exact bodyPost_ret (v := .bool false) (by simp [results, Tryz.results15, go_sem]) rfl ⟨⟨false, rfl, fun _ => HRS.out⟩, HB4.out⟩
theorem cnt_le (id : Tx) (n : Nat) (b : Bool) (e : Ent) : cnt id n b e ≤ n := by
  have := List.countP_le_length (p := fun q => decide (e.key = keyT id q b)) (l := List.range n)
  rw [List.length_range] at this
  exact this
theorem sum_le (id : Tx) (n : Nat) (b : Bool) (l : List Ent) : ∀ j, j ≤ l.length → sumC id n b (l.take j) ≤ j * n
  | 0, _ => by simp [sumC]
  | j + 1, h => by
    rw [sumC_next id n b (by omega : j < l.length), Nat.succ_mul]
    have := sum_le id n b l j (by omega)
    have := cnt_le id n b l[j]
    omega
/-- how many of the first q keys an entry bears -/
def cntq (id : Tx) (b : Bool) (e : Ent) (q : Nat) : Nat := (List.range q).countP (fun q => decide (e.key = keyT id q b))
theorem cntq_next (id : Tx) (b : Bool) (e : Ent) (q : Nat) : cntq id b e (q + 1) = cntq id b e q + (if e.key = keyT id q b then 1 else 0) := by
  unfold cntq
  rw [List.range_succ, List.countP_append, List.countP_singleton]
  by_cases h : e.key = keyT id q b <;> simp [h]
theorem cntq_le (id : Tx) (b : Bool) (e : Ent) (q : Nat) : cntq id b e q ≤ q := cnt_le id q b e
set_option maxRecDepth 100000 in
set_option maxHeartbeats 16000000 in
theorem modelPrefix_any (w : World) (hK : KwIn w) (s : Sch) (ur us ug : Value) (hS : SchR w s ur us ug) (r : Run) (v : Value) (l : List Ent) (hl : Slc w 6 v l.length (ecells l)) :
    Calls Tryz.prog 5 #[.agg #[.string (bT s.name), ur, us, ug], .agg #[.string (bT r.id), .string (bT r.sg), .string (bT r.arg), .int .i64 r.at_, .int .u8 (r.ph : Nat), .int .i64 r.tr, .bool r.st, .int .i64 r.wh, .string (bT r.vl)], v] w fun x w' => x = .returned (.bool true) ∧ Below w.heap.size w w' := by
  obtain ⟨⟨ra, rv, rfl⟩, ⟨sa, sv, rfl⟩, ⟨ga, gv, rfl⟩⟩ := hS.shape
  obtain ⟨la, lc, rfl⟩ := hl.shape
  have HWK := Lib.hid (fun W (X : Below w.heap.size w W) => wakes_any W (hK.below X))
  have HGR := Lib.hid (fun W (X : Below w.heap.size w W) => great25_any W s ra sa ga rv sv gv (hS.below X) r)
  have HGE := Lib.hid (fun W (X : Below w.heap.size w W) => greatEntries_any W _ l (hl.below X))
  have HSH := Lib.hid (fun W (X : Below w.heap.size w W) (hM : Small s) (hR : RunSmall r) (hn : l.length ≤ 60) (ha : ∀ e ∈ l, e.key.length ≤ 5000) => shape_any W (hK.below X) s ra sa ga rv sv gv (hS.below X) hM r hR _ l (hl.below X) hn ha)
  have HSG := Lib.hid (fun W (X : Below w.heap.size w W) (hM : Small s) => saga_any W s _ _ _ (hS.below X) hM r.sg)
  have HSL := Lib.hid (fun W (X : Below w.heap.size w W) => hl.below X)
  have HR8 := Lib.hid (fun h => right_eight (s := s) (r := r) h)
  have HSP := Lib.hid (show ShapeP s r l → (rightR s r = true ∧ ∃ (k : Nat) (lv : Int), StandP r.id (sOr (sagOf s.sagas r.sg)).steps.length l k lv ∧ EndP (sOr (sagOf s.sagas r.sg)).steps.length r k lv) from fun h => h)
  clear hK hS hl
  generalize hSP : ShapeP s r l = SP at *
  clear hSP
  generalize rightR s r = RR at *
  generalize sOr (sagOf s.sagas r.sg) = G at *
  go_enter Tryz.func5, Tryz.ntmps5
  go_upto_region 1 with (fail)
  generalize hwa : (w.alloc (.cells #[.string (bT s.name), .slice ra s.records.length rv, .slice sa s.services.length sv, .slice ga s.sagas.length gv] 26)).alloc (.cells #[.string (bT r.id), .string (bT r.sg), .string (bT r.arg), .int .i64 r.at_, .int .u8 (r.ph : Nat), .int .i64 r.tr, .bool r.st, .int .i64 r.wh, .string (bT r.vl)] 53) = wa at *
  have HBa := Lib.hid (show Below w.heap.size w wa from hwa ▸ (bl1 w _).alloc (by simp) _)
  have HX0 := Lib.hid (show wa.heap[w.heap.size]? = some (.cells #[.string (bT s.name), .slice ra s.records.length rv, .slice sa s.services.length sv, .slice ga s.sagas.length gv] 26 (0, 0)) from hwa ▸ (Below.heap_alloc _ _ _ (by simp)).trans (heap_alloc_new _ _))
  have HX1 := Lib.hid (show wa.heap[w.heap.size + 1]? = some (.cells #[.string (bT r.id), .string (bT r.sg), .string (bT r.arg), .int .i64 r.at_, .int .u8 (r.ph : Nat), .int .i64 r.tr, .bool r.st, .int .i64 r.wh, .string (bT r.vl)] 53 (0, 0)) from hwa ▸ heap_alloc_new2 _ _ _)
  clear hwa
  have HXX := Lib.hid (fun W (X : Below wa.heap.size wa W) => show W.heap[w.heap.size]? = some (.cells #[.string (bT s.name), .slice ra s.records.length rv, .slice sa s.services.length sv, .slice ga s.sagas.length gv] 26 (0, 0)) ∧ W.heap[w.heap.size + 1]? = some (.cells #[.string (bT r.id), .string (bT r.sg), .string (bT r.arg), .int .i64 r.at_, .int .u8 (r.ph : Nat), .int .i64 r.tr, .bool r.st, .int .i64 r.wh, .string (bT r.vl)] 53 (0, 0)) from ⟨(X.block _ (Array.getElem?_eq_some_iff.1 HX0.out).1).trans HX0.out, (X.block _ (Array.getElem?_eq_some_iff.1 HX1.out).1).trans HX1.out⟩)
  obtain ⟨hx0, hx1⟩ := HXX.out wa (Below.refl _ _)
  have a00 : wa.cell? ⟨w.heap.size, 0, none⟩ = some (.string (bT s.name)) := by simp only [World.cell?, hx0]; rfl
  have a01 : wa.cell? ⟨w.heap.size, 1, none⟩ = some (.slice ra s.records.length rv) := by simp only [World.cell?, hx0]; rfl
  have a02 : wa.cell? ⟨w.heap.size, 2, none⟩ = some (.slice sa s.services.length sv) := by simp only [World.cell?, hx0]; rfl
  have a03 : wa.cell? ⟨w.heap.size, 3, none⟩ = some (.slice ga s.sagas.length gv) := by simp only [World.cell?, hx0]; rfl
  have a10 : wa.cell? ⟨w.heap.size + 1, 0, none⟩ = some (.string (bT r.id)) := by simp only [World.cell?, hx1]; rfl
  have a11 : wa.cell? ⟨w.heap.size + 1, 1, none⟩ = some (.string (bT r.sg)) := by simp only [World.cell?, hx1]; rfl
  have a12 : wa.cell? ⟨w.heap.size + 1, 2, none⟩ = some (.string (bT r.arg)) := by simp only [World.cell?, hx1]; rfl
  have a13 : wa.cell? ⟨w.heap.size + 1, 3, none⟩ = some (.int .i64 r.at_) := by simp only [World.cell?, hx1]; rfl
  have a14 : wa.cell? ⟨w.heap.size + 1, 4, none⟩ = some (.int .u8 (r.ph : Nat)) := by simp only [World.cell?, hx1]; rfl
  have a15 : wa.cell? ⟨w.heap.size + 1, 5, none⟩ = some (.int .i64 r.tr) := by simp only [World.cell?, hx1]; rfl
  have a16 : wa.cell? ⟨w.heap.size + 1, 6, none⟩ = some (.bool r.st) := by simp only [World.cell?, hx1]; rfl
  have a17 : wa.cell? ⟨w.heap.size + 1, 7, none⟩ = some (.int .i64 r.wh) := by simp only [World.cell?, hx1]; rfl
  have a18 : wa.cell? ⟨w.heap.size + 1, 8, none⟩ = some (.string (bT r.vl)) := by simp only [World.cell?, hx1]; rfl
  have hla : w.heap.size + 1 < wa.heap.size := (Array.getElem?_eq_some_iff.1 hx1).1
  clear hx0 hx1
  have HC := Lib.hid (HGR.out wa HBa.out)
  go_wp2_with fail
  refine HC.out.mono ?_
  rintro y w2 ⟨⟨b1, rfl, hb1⟩, hb⟩
  have HB2 := Lib.hid (HBa.out.trans (hb.mono HBa.out.size))
  have HD2 := Lib.hid hb
  clear hb HC a00 a01 a02 a03 a10 a11 a12 a13 a14 a15 a16 a17 a18 hla
  cases b1 with
  | true =>
    clear hb1
    have HWZ := Lib.hid (HWK.out w2 HB2.out)
    go_wp2_with fail
    refine HWZ.out.mono ?_
    rintro y wz ⟨rfl, hb⟩
    have HBZ := Lib.hid (HB2.out.trans (hb.mono HB2.out.size))
    clear hb HWZ
    go_wp2_with fail
    exact bodyPost_ret (v := .bool true) (by simp [results, Tryz.results5, go_sem]) rfl ⟨rfl, HBZ.out⟩
  | false =>
    have HSM := Lib.hid (hb1 rfl)
    have HC := Lib.hid (HGE.out w2 HB2.out)
    clear hb1
    go_wp2_with fail
    refine HC.out.mono ?_
    rintro y w3 ⟨⟨b2, rfl, hb2⟩, hb⟩
    have HB3 := Lib.hid (HB2.out.trans (hb.mono HB2.out.size))
    have HD3 := Lib.hid (HD2.out.trans (hb.mono HD2.out.size))
    clear hb HC
    cases b2 with
    | true =>
      clear hb2
      have HWZ := Lib.hid (HWK.out w3 HB3.out)
      go_wp2_with fail
      refine HWZ.out.mono ?_
      rintro y wz ⟨rfl, hb⟩
      have HBZ := Lib.hid (HB3.out.trans (hb.mono HB3.out.size))
      clear hb HWZ
      go_wp2_with fail
      exact bodyPost_ret (v := .bool true) (by simp [results, Tryz.results5, go_sem]) rfl ⟨rfl, HBZ.out⟩
    | false =>
      have HEN := Lib.hid (hb2 rfl)
      clear hb2
      obtain ⟨hx0, hx1⟩ := HXX.out w3 HD3.out
      have b00 : w3.cell? ⟨w.heap.size, 0, none⟩ = some (.string (bT s.name)) := by simp only [World.cell?, hx0]; rfl
      have b01 : w3.cell? ⟨w.heap.size, 1, none⟩ = some (.slice ra s.records.length rv) := by simp only [World.cell?, hx0]; rfl
      have b02 : w3.cell? ⟨w.heap.size, 2, none⟩ = some (.slice sa s.services.length sv) := by simp only [World.cell?, hx0]; rfl
      have b03 : w3.cell? ⟨w.heap.size, 3, none⟩ = some (.slice ga s.sagas.length gv) := by simp only [World.cell?, hx0]; rfl
      have b10 : w3.cell? ⟨w.heap.size + 1, 0, none⟩ = some (.string (bT r.id)) := by simp only [World.cell?, hx1]; rfl
      have b11 : w3.cell? ⟨w.heap.size + 1, 1, none⟩ = some (.string (bT r.sg)) := by simp only [World.cell?, hx1]; rfl
      have b12 : w3.cell? ⟨w.heap.size + 1, 2, none⟩ = some (.string (bT r.arg)) := by simp only [World.cell?, hx1]; rfl
      have b13 : w3.cell? ⟨w.heap.size + 1, 3, none⟩ = some (.int .i64 r.at_) := by simp only [World.cell?, hx1]; rfl
      have b14 : w3.cell? ⟨w.heap.size + 1, 4, none⟩ = some (.int .u8 (r.ph : Nat)) := by simp only [World.cell?, hx1]; rfl
      have b15 : w3.cell? ⟨w.heap.size + 1, 5, none⟩ = some (.int .i64 r.tr) := by simp only [World.cell?, hx1]; rfl
      have b16 : w3.cell? ⟨w.heap.size + 1, 6, none⟩ = some (.bool r.st) := by simp only [World.cell?, hx1]; rfl
      have b17 : w3.cell? ⟨w.heap.size + 1, 7, none⟩ = some (.int .i64 r.wh) := by simp only [World.cell?, hx1]; rfl
      have b18 : w3.cell? ⟨w.heap.size + 1, 8, none⟩ = some (.string (bT r.vl)) := by simp only [World.cell?, hx1]; rfl
      have hlb : w.heap.size + 1 < w3.heap.size := (Array.getElem?_eq_some_iff.1 hx1).1
      clear hx0 hx1
      have hn6 := HEN.out.1
      have HC := Lib.hid (HSH.out w3 HB3.out HSM.out.1 HSM.out.2 hn6 (fun e he => (HEN.out.2 e he).1))
      go_wp2_with fail
      refine HC.out.mono ?_
      rintro y w4 ⟨⟨b3, rfl, hb3⟩, hb⟩
      have HB4 := Lib.hid (HB3.out.trans (hb.mono HB3.out.size))
      have HD4 := Lib.hid (HD3.out.trans (hb.mono HD3.out.size))
      clear hb HC b00 b01 b02 b03 b10 b11 b12 b13 b14 b15 b16 b17 b18 hlb
      cases b3 with
      | false =>
        clear hb3
        have HWZ := Lib.hid (HWK.out w4 HB4.out)
        go_wp2_with fail
        refine HWZ.out.mono ?_
        rintro y wz ⟨rfl, hb⟩
        have HBZ := Lib.hid (HB4.out.trans (hb.mono HB4.out.size))
        clear hb HWZ
        go_wp2_with fail
        exact bodyPost_ret (v := .bool true) (by simp [results, Tryz.results5, go_sem]) rfl ⟨rfl, HBZ.out⟩
      | true =>
        obtain ⟨hRR, k, lv, hST, hEN⟩ := HSP.out (hb3 rfl)
        have HR9 := Lib.hid (HR8.out hRR)
        have HST := Lib.hid hST
        have HEP := Lib.hid hEN
        clear hb3 HSP HR8 hRR hST hEN
        obtain ⟨hx0, hx1⟩ := HXX.out w4 HD4.out
        have c00 : w4.cell? ⟨w.heap.size, 0, none⟩ = some (.string (bT s.name)) := by simp only [World.cell?, hx0]; rfl
        have c01 : w4.cell? ⟨w.heap.size, 1, none⟩ = some (.slice ra s.records.length rv) := by simp only [World.cell?, hx0]; rfl
        have c02 : w4.cell? ⟨w.heap.size, 2, none⟩ = some (.slice sa s.services.length sv) := by simp only [World.cell?, hx0]; rfl
        have c03 : w4.cell? ⟨w.heap.size, 3, none⟩ = some (.slice ga s.sagas.length gv) := by simp only [World.cell?, hx0]; rfl
        have c11 : w4.cell? ⟨w.heap.size + 1, 1, none⟩ = some (.string (bT r.sg)) := by simp only [World.cell?, hx1]; rfl
        have hlc : w.heap.size + 1 < w4.heap.size := (Array.getElem?_eq_some_iff.1 hx1).1
        clear hx0 hx1
        have HC := Lib.hid (HSG.out w4 HB4.out HSM.out.1)
        go_wp2_with fail
        refine HC.out.mono ?_
        rintro y w5 ⟨u, rfl, hu, hb⟩
        obtain ⟨ua, uc, rfl⟩ := own_slice hu
        have HB5 := Lib.hid (HB4.out.trans (hb.mono HB4.out.size))
        have HD5 := Lib.hid (HD4.out.trans (hb.mono HD4.out.size))
        clear hb hu HC c00 c01 c02 c03 c11 hlc
        go_upto_region 6 with (fail)
        have HB6 := Lib.hid (HB5.out.alloc HB5.out.size (.cells #[.string (bT G.name), .string (bT G.arg), .slice ua G.steps.length uc] 67))
        have HD6 := Lib.hid (HD5.out.alloc HD5.out.size (.cells #[.string (bT G.name), .string (bT G.arg), .slice ua G.steps.length uc] 67))
        have HG6 := Lib.hid (heap_alloc_new w5 (.cells #[.string (bT G.name), .string (bT G.arg), .slice ua G.steps.length uc] 67))
        generalize w5.alloc (.cells #[.string (bT G.name), .string (bT G.arg), .slice ua G.steps.length uc] 67) = w6 at *
        have HK6 := Lib.hid (fun W (X : Below w6.heap.size w6 W) => show W.cell? ⟨w5.heap.size, 2, none⟩ = some (.slice ua G.steps.length uc) ∧ W.cell? ⟨w.heap.size + 1, 0, none⟩ = some (.string (bT r.id)) ∧ W.cell? ⟨w.heap.size + 1, 3, none⟩ = some (.int .i64 r.at_) ∧ W.cell? ⟨w.heap.size + 1, 4, none⟩ = some (.int .u8 (r.ph : Nat)) ∧ w5.heap.size < W.heap.size ∧ w.heap.size + 1 < W.heap.size from by
          have h := (X.block _ (Array.getElem?_eq_some_iff.1 HG6.out).1).trans HG6.out
          have h2 := (HXX.out W (HD6.out.trans (X.mono HD6.out.size))).2
          exact ⟨by simp only [World.cell?, h]; rfl, by simp only [World.cell?, h2]; rfl, by simp only [World.cell?, h2]; rfl, by simp only [World.cell?, h2]; rfl, (Array.getElem?_eq_some_iff.1 h).1, (Array.getElem?_eq_some_iff.1 h2).1⟩)
        have HBW := Lib.hid (fun W (X : Below w6.heap.size w6 W) => show Below w.heap.size w W from HB6.out.trans (X.mono HB6.out.size))
        have hg8 := HR9.out.2.2.2
        have hl60 := HEN.out.1
        clear HG6 HX0 HX1 HXX HD2 HD3 HD4 HD5 HB2 HB3 HB4 HB5 HGR HGE HSH HSG
        go_wp2_with fail
        go_loopw [9, 10, 11] (fun vs vb vi wr => ∃ j : Nat, j ≤ l.length ∧ vs = .int .i64 (sumC r.id G.steps.length false (l.take j) : Nat) ∧ vb = .int .i64 (sumC r.id G.steps.length true (l.take j) : Nat) ∧ vi = .int .i64 (j : Nat) ∧ Hid (Below w6.heap.size w6 wr)) (fun _ _ vi _ => l.length - (intOf vi).toNat)
        case atStart => exact ⟨0, by omega, rfl, rfl, rfl, Lib.hid (Below.refl _ _)⟩
        case round =>
          rename World => wr
          obtain ⟨j, hj, rfl, rfl, rfl, HBr⟩ := hrel
          have HBw := Lib.hid (HBW.out wr HBr.out)
          by_cases hlt : j < l.length
          · have HSFA := Lib.hid (sumC_next r.id G.steps.length false hlt)
            have HSFB := Lib.hid (sumC_next r.id G.steps.length true hlt)
            have HSB := Lib.hid (fun b => show sumC r.id G.steps.length b (l.take j) ≤ 480 from Nat.le_trans (sum_le r.id G.steps.length b l j (by omega)) (Nat.le_trans (Nat.mul_le_mul (by omega : j ≤ 60) hg8) (by decide)))
            have HEA := Lib.hid (fun W (X : Below w.heap.size w W) => ent_at (HSL.out W X) hlt)
            have hSA := HSB.out false
            have hSB := HSB.out true
            generalize l[j] = e at *
            generalize sumC r.id G.steps.length false (l.take j) = SA at *
            generalize sumC r.id G.steps.length true (l.take j) = SB at *
            go_wp2_with fail
            go_loopw [9, 10, 12] (fun vs vb vi wi => ∃ q : Nat, q ≤ G.steps.length ∧ vs = .int .i64 ((SA + cntq r.id false e q : Nat) : Int) ∧ vb = .int .i64 ((SB + cntq r.id true e q : Nat) : Int) ∧ vi = .int .i64 (q : Nat) ∧ Hid (Below w6.heap.size w6 wi)) (fun _ _ vi _ => G.steps.length - (intOf vi).toNat)
            case atStart => exact ⟨0, by omega, by simp [cntq], by simp [cntq], rfl, HBr⟩
            case round =>
              rename World => wi
              obtain ⟨q, hq, rfl, rfl, rfl, HBi⟩ := hrel
              obtain ⟨c2, c0, -, -, hc2, hc0⟩ := HK6.out wi HBi.out
              by_cases hqn : q < G.steps.length
              · obtain ⟨b1, o1, rfl, hb1, p0, p1, p2, p3, p4, p5⟩ := HEA.out wi (HBW.out wi HBi.out)
                have HCA := Lib.hid (cntq_next r.id false e q)
                have HCB := Lib.hid (cntq_next r.id true e q)
                have hca := cntq_le r.id false e q
                have hcb := cntq_le r.id true e q
                generalize cntq r.id false e q = CA at *
                generalize cntq r.id true e q = CB at *
                have hq8 : q < 8 := by omega
                have hw1 : IntKind.i64.wrap (48 + (q : Int)) = 48 + (q : Int) := IntWalk.i64_in _ (by omega)
                have hw2 : IntKind.i32.wrap (48 + (q : Int)) = 48 + (q : Int) := IntWalk.i32_in _ (by omega)
                have hcv := conv_digit q hq8
                have hszi := bT_size r.id
                have hidl := HSM.out.2.id
                have e_f : ((bT e.key).toList == (bT r.id ++ ⟨#[46]⟩ ++ ⟨#[dg q]⟩ ++ ⟨#[102]⟩).toList) = decide (e.key = keyT r.id q false) := by rw [bT_key]; exact bT_same _ _
                have e_c : ((bT e.key).toList == (bT r.id ++ ⟨#[46]⟩ ++ ⟨#[dg q]⟩ ++ ⟨#[99]⟩).toList) = decide (e.key = keyT r.id q true) := by rw [bT_key]; exact bT_same _ _
                have hi1 : (0 : Int) ≤ (j : Int) := by omega
                have hi2 : (j : Int) < (l.length : Int) := by omega
                have HBn := Lib.hid (fun n => show Below w6.heap.size w6 (wi.drewN n) from ⟨HBi.out.os, HBi.out.tape, HBi.out.output, HBi.out.size, HBi.out.block⟩)
                have hwA : IntKind.i64.wrap (((SA + CA : Nat) : Int) + 1) = ((SA + CA : Nat) : Int) + 1 := IntWalk.i64_in _ (by omega)
                have hwB : IntKind.i64.wrap (((SB + CB : Nat) : Int) + 1) = ((SB + CB : Nat) : Int) + 1 := IntWalk.i64_in _ (by omega)
                have hwC : IntKind.i64.wrap ((SA : Int) + (CA : Int) + 1) = (SA : Int) + (CA : Int) + 1 := IntWalk.i64_in _ (by omega)
                have hwD : IntKind.i64.wrap ((SB : Int) + (CB : Int) + 1) = (SB : Int) + (CB : Int) + 1 := IntWalk.i64_in _ (by omega)
                by_cases k1 : e.key = keyT r.id q false
                ·
                  skip
                  rw [decide_eq_true k1] at e_f
                  have HVA := Lib.hid (show cntq r.id false e (q + 1) = CA + 1 from by rw [HCA.out, if_pos k1])
                  clear k1 HCA
                  go_wp2_with fail
                  go_quiet (fail)
                  have HB7 := Lib.hid (HBn.out nq)
                  generalize wi.drewN nq = wj at *
                  clear HBn
                  obtain ⟨c2', c0', -, -, hc2', hc0'⟩ := HK6.out wj HB7.out
                  obtain ⟨b1', o1', hh, hb1', p0', p1', p2', p3', p4', p5'⟩ := HEA.out wj (HBW.out wj HB7.out)
                  cases hh
                  have HBn2 := Lib.hid (fun n => show Below w6.heap.size w6 (wj.drewN n) from ⟨HB7.out.os, HB7.out.tape, HB7.out.output, HB7.out.size, HB7.out.block⟩)
                  by_cases k2 : e.key = keyT r.id q true
                  · rw [decide_eq_true k2] at e_c
                    have HVB := Lib.hid (show cntq r.id true e (q + 1) = CB + 1 from by rw [HCB.out, if_pos k2])
                    clear k2 HCB
                    go_wp2_with fail
                    go_quiet (fail)
                    have HB8 := Lib.hid (HBn2.out nq)
                    go_wp2_with fail
                    exact ⟨⟨q + 1, by omega, by congr 1; have := HVA.out; omega, by congr 1; have := HVB.out; omega, by go_num, HB8⟩, by simp [intOf]; omega⟩
                  · rw [decide_eq_false k2] at e_c
                    have HVB := Lib.hid (show cntq r.id true e (q + 1) = CB + 0 from by rw [HCB.out, if_neg k2])
                    clear k2 HCB
                    go_wp2_with fail
                    go_quiet (fail)
                    have HB8 := Lib.hid (HBn2.out nq)
                    go_wp2_with fail
                    exact ⟨⟨q + 1, by omega, by congr 1; have := HVA.out; omega, by congr 1; have := HVB.out; omega, by go_num, HB8⟩, by simp [intOf]; omega⟩
                ·
                  skip
                  rw [decide_eq_false k1] at e_f
                  have HVA := Lib.hid (show cntq r.id false e (q + 1) = CA + 0 from by rw [HCA.out, if_neg k1])
                  clear k1 HCA
                  go_wp2_with fail
                  go_quiet (fail)
                  have HB7 := Lib.hid (HBn.out nq)
                  generalize wi.drewN nq = wj at *
                  clear HBn
                  obtain ⟨c2', c0', -, -, hc2', hc0'⟩ := HK6.out wj HB7.out
                  obtain ⟨b1', o1', hh, hb1', p0', p1', p2', p3', p4', p5'⟩ := HEA.out wj (HBW.out wj HB7.out)
                  cases hh
                  have HBn2 := Lib.hid (fun n => show Below w6.heap.size w6 (wj.drewN n) from ⟨HB7.out.os, HB7.out.tape, HB7.out.output, HB7.out.size, HB7.out.block⟩)
                  by_cases k2 : e.key = keyT r.id q true
                  · rw [decide_eq_true k2] at e_c
                    have HVB := Lib.hid (show cntq r.id true e (q + 1) = CB + 1 from by rw [HCB.out, if_pos k2])
                    clear k2 HCB
                    go_wp2_with fail
                    go_quiet (fail)
                    have HB8 := Lib.hid (HBn2.out nq)
                    go_wp2_with fail
                    exact ⟨⟨q + 1, by omega, by congr 1; have := HVA.out; omega, by congr 1; have := HVB.out; omega, by go_num, HB8⟩, by simp [intOf]; omega⟩
                  · rw [decide_eq_false k2] at e_c
                    have HVB := Lib.hid (show cntq r.id true e (q + 1) = CB + 0 from by rw [HCB.out, if_neg k2])
                    clear k2 HCB
                    go_wp2_with fail
                    go_quiet (fail)
                    have HB8 := Lib.hid (HBn2.out nq)
                    go_wp2_with fail
                    exact ⟨⟨q + 1, by omega, by congr 1; have := HVA.out; omega, by congr 1; have := HVB.out; omega, by go_num, HB8⟩, by simp [intOf]; omega⟩
              · have HQA := Lib.hid (show SA + cntq r.id false e q = sumC r.id G.steps.length false (l.take (j + 1)) from by rw [HSFA.out, show q = G.steps.length by omega]; rfl)
                have HQB := Lib.hid (show SB + cntq r.id true e q = sumC r.id G.steps.length true (l.take (j + 1)) from by rw [HSFB.out, show q = G.steps.length by omega]; rfl)
                go_wp2_with fail
                exact ⟨⟨j + 1, by omega, by congr 1; have := HQA.out; omega, by congr 1; have := HQB.out; omega, by go_num, HBi⟩, by simp [intOf]; omega⟩
          · have hta : l.take j = l := List.take_of_length_le (by omega)
            rw [hta]
            have hk1 := HST.out.2.1
            have hk2 := HST.out.2.2
            have hk3 := HST.out.1
            have HEQ := Lib.hid HEP.out
            unfold EndP at HEQ
            have ha1 := HR9.out.2.1
            have ha2 := HR9.out.2.2.1
            have hb1 := sum_le r.id G.steps.length false l l.length (Nat.le_refl _)
            have hb2 := sum_le r.id G.steps.length true l l.length (Nat.le_refl _)
            rw [List.take_length] at hb1 hb2
            have hb3 : l.length * G.steps.length ≤ 480 := Nat.le_trans (Nat.mul_le_mul (by omega : l.length ≤ 60) hg8) (by decide)
            obtain ⟨c2, c0, c3, c4, hc2, hc0⟩ := HK6.out wr HBr.out
            generalize sumC r.id G.steps.length false l = SA at *
            generalize sumC r.id G.steps.length true l = SB at *
            generalize r.at_ = at9 at *
            generalize r.ph = ph at *
            generalize G.steps.length = n9 at *
            have hwa : IntKind.i64.wrap (at9 + 1) = at9 + 1 := IntWalk.i64_in _ (by omega)
            have hws : IntKind.i64.wrap ((SA : Int) - (SB : Int)) = (SA : Int) - (SB : Int) := IntWalk.i64_in _ (by omega)
            clear hta HST HEP HR9 c0
            by_cases p3 : ph = 3
            case pos =>
              have v3 : ((ph : Int) == 3) = true := by rw [beq_iff_eq]; omega
              have hE := HEQ.out
              rw [if_neg (by omega), if_pos p3] at hE
              rw [if_pos hE.1] at hk2
              have e1 : ((SA : Int) == (n9 : Int)) = true := by rw [beq_iff_eq]; omega
              have e2 : ((SB : Int) == 0) = true := by rw [beq_iff_eq]; omega
              have HWZ := Lib.hid (HWK.out wr HBw.out)
              clear hk1 hk2 hk3 hE ha1 ha2 hb1 hb2 hb3
              go_wp2_with fail
              refine HWZ.out.mono ?_
              rintro y wz ⟨rfl, hb⟩
              have HBZ := Lib.hid (HBw.out.trans (hb.mono HBw.out.size))
              clear hb HWZ
              go_wp2_with fail
              exact bodyPost_ret (v := .bool true) (by simp [results, Tryz.results5, go_sem]) rfl ⟨rfl, HBZ.out⟩
            have v3 : ((ph : Int) == 3) = false := by rw [beq_eq_false_iff_ne]; omega
            by_cases p4 : ph = 4
            case pos =>
              have v4 : ((ph : Int) == 4) = true := by rw [beq_iff_eq]; omega
              have hE := HEQ.out
              rw [if_neg (by omega), if_neg p3, if_pos p4] at hE
              have e1 : ((SA : Int) == (SB : Int)) = true := by
                rw [beq_iff_eq]
                split at hE <;> simp_all <;> omega
              have HWZ := Lib.hid (HWK.out wr HBw.out)
              clear hk1 hk2 hk3 hE ha1 ha2 hb1 hb2 hb3
              go_wp2_with fail
              refine HWZ.out.mono ?_
              rintro y wz ⟨rfl, hb⟩
              have HBZ := Lib.hid (HBw.out.trans (hb.mono HBw.out.size))
              clear hb HWZ
              go_wp2_with fail
              exact bodyPost_ret (v := .bool true) (by simp [results, Tryz.results5, go_sem]) rfl ⟨rfl, HBZ.out⟩
            have v4 : ((ph : Int) == 4) = false := by rw [beq_eq_false_iff_ne]; omega
            by_cases p1 : ph = 1
            case pos =>
              have v1 : ((ph : Int) == 1) = true := by rw [beq_iff_eq]; omega
              have hE := HEQ.out
              rw [if_pos p1] at hE
              rw [if_pos hE.1] at hk2
              have e1 : ((SB : Int) == 0) = true := by rw [beq_iff_eq]; omega
              have e2 : decide (at9 ≤ (SA : Int)) = true := by rw [decide_eq_true_eq]; omega
              have e3 : decide ((SA : Int) ≤ at9 + 1) = true := by rw [decide_eq_true_eq]; omega
              have HWZ := Lib.hid (HWK.out wr HBw.out)
              clear hk1 hk2 hk3 hE ha1 ha2 hb1 hb2 hb3
              go_wp2_with fail
              refine HWZ.out.mono ?_
              rintro y wz ⟨rfl, hb⟩
              have HBZ := Lib.hid (HBw.out.trans (hb.mono HBw.out.size))
              clear hb HWZ
              go_wp2_with fail
              exact bodyPost_ret (v := .bool true) (by simp [results, Tryz.results5, go_sem]) rfl ⟨rfl, HBZ.out⟩
            have v1 : ((ph : Int) == 1) = false := by rw [beq_eq_false_iff_ne]; omega
            have hE := HEQ.out
            rw [if_neg p1, if_neg p3, if_neg p4] at hE
            have hlow : (SA : Int) - (SB : Int) = if lv < 0 then (k : Int) else lv := by
              by_cases q1 : lv < 0
              · rw [if_pos q1] at hk2 ⊢; omega
              · rw [if_neg q1] at hk2 ⊢; omega
            rw [← hlow] at hE
            have e2 : decide (at9 ≤ (SA : Int) - (SB : Int)) = true := by rw [decide_eq_true_eq]; omega
            have e3 : decide ((SA : Int) - (SB : Int) ≤ at9 + 1) = true := by rw [decide_eq_true_eq]; omega
            have HWZ := Lib.hid (HWK.out wr HBw.out)
            clear hk1 hk2 hk3 hE ha1 ha2 hb1 hb2 hb3 hlow
            go_wp2_with fail
            refine HWZ.out.mono ?_
            rintro y wz ⟨rfl, hb⟩
            have HBZ := Lib.hid (HBw.out.trans (hb.mono HBw.out.size))
            clear hb HWZ
            go_wp2_with fail
            exact bodyPost_ret (v := .bool true) (by simp [results, Tryz.results5, go_sem]) rfl ⟨rfl, HBZ.out⟩
end Go.Proofs.YtgoejmheihgpfaaGreatDoor
