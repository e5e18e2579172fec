/-
  sagadef.Call.
-/
import Derived.Test.YtgoejmheihgpfaaGreatDoorRu
namespace Go.Proofs.YtgoejmheihgpfaaGreatDoor
open Go.RowKit

def undoOf (s : Sch) (a : Tx) (i : Int) : Tx := (mOr (mthOf s (stpOf s a i).service (stpOf s a i).method)).undo
def callE (s : Sch) (a id : Tx) (i : Int) (back : Bool) (fr : Int) : Nat := if letE s a id i fr = 0 then (if back = true ∧ undoOf s a i = [] then 133 else 0) else letE s a id i fr
set_option maxRecDepth 100000 in
set_option maxHeartbeats 8000000 in
theorem call_any (w : World) (hK : KwIn w) (s : Sch) (ur us ug : Value) (hS : SchR w s ur us ug) (hM : Small s) (a id : Tx) (hx : id.length ≤ 1000000) (i : Int) (back : Bool) (fr : Int) (bd : ByteArray) :
    Calls Tryz.prog 79 #[.agg #[.string (bT s.name), ur, us, ug], .string (bT a), .string (bT id), .int .i64 i, .bool back, .int .i64 fr, .string bd] w fun x w' => (∃ (kd f t p c : Int) (k sv mt b : ByteArray), x = .returned (.tuple #[.agg #[.int .u8 kd, .int .i64 f, .int .i64 t, .int .u64 0, .string k, .int .u64 p, .string sv, .string mt, .int .i64 c, .string b], .int .i64 (callE s a id i back fr : Nat)])) ∧ Below w.heap.size w w' := by
  have HL := Lib.hid (fun W (h : Below w.heap.size w W) => letter_any' W (hK.below h) s ur us ug (hS.below h) hM a id hx i fr)
  have HME := Lib.hid (fun W (h : Below w.heap.size w W) => method_any W s ur us ug (hS.below h) hM (stpOf s a i).service (stpOf s a i).method)
  have HKY := Lib.hid (fun W => key_any W id hx i true)
  have HCE := Lib.hid (show callE s a id i back fr = if letE s a id i fr = 0 then (if back = true ∧ undoOf s a i = [] then 133 else 0) else letE s a id i fr from rfl)
  have HU := Lib.hid (show undoOf s a i = (mOr (mthOf s (stpOf s a i).service (stpOf s a i).method)).undo from rfl)
  generalize callE s a id i back fr = CE at *
  generalize undoOf s a i = UN at *
  generalize stpOf s a i = ST at *
  generalize letE s a id i fr = LE at *
  clear hK hM
  go_enter Tryz.func79, Tryz.ntmps79
  go_upto_region 1 with (fail)
  generalize hwa : ((w.alloc (.cells #[.string (bT s.name), ur, us, ug] 26)).alloc (.cells #[.int .u8 0, .int .i64 0, .int .i64 0, .int .u64 0, .string ⟨#[]⟩, .int .u64 0, .string ⟨#[]⟩, .string ⟨#[]⟩, .int .i64 0, .string ⟨#[]⟩] 63)) = wa
  have HBa := Lib.hid (show Below w.heap.size w wa from hwa ▸ ((Below.refl _ w).alloc (Nat.le_refl _) _).alloc (by simp) _)
  have HXa := Lib.hid (show wa.heap[w.heap.size]? = some (.cells #[.string (bT s.name), ur, us, ug] 26 (0, 0)) from hwa ▸ (Below.heap_alloc _ _ _ (by simp)).trans (heap_alloc_new _ _))
  have HYa := Lib.hid (show wa.heap[w.heap.size + 1]? = some (.cells #[.int .u8 0, .int .i64 0, .int .i64 0, .int .u64 0, .string ⟨#[]⟩, .int .u64 0, .string ⟨#[]⟩, .string ⟨#[]⟩, .int .i64 0, .string ⟨#[]⟩] 63 (0, 0)) from hwa ▸ heap_alloc_new2 _ _ _)
  have hza : wa.heap.size = w.heap.size + 2 := by rw [← hwa]; simp
  have HZA := Lib.hid hza
  clear hwa hza
  have HS := Lib.hid hS
  clear hS
  have x0 : wa.cell? ⟨w.heap.size, 0, none⟩ = some (.string (bT s.name)) := by simp only [World.cell?, HXa.out]; rfl
  have x1 : wa.cell? ⟨w.heap.size, 1, none⟩ = some ur := by simp only [World.cell?, HXa.out]; rfl
  have x2 : wa.cell? ⟨w.heap.size, 2, none⟩ = some us := by simp only [World.cell?, HXa.out]; rfl
  have x3 : wa.cell? ⟨w.heap.size, 3, none⟩ = some ug := by simp only [World.cell?, HXa.out]; rfl
  go_wp2_with fail
  refine (HL.out wa HBa.out).mono ?_
  rintro e w2 ⟨⟨f, tt, p, k, sv, mt, rfl, heq⟩, hb⟩
  unfold ltr
  have HEQ := Lib.hid heq
  have HB2 := Lib.hid (HBa.out.trans (hb.mono HBa.out.size))
  have HX2 := Lib.hid ((hb.block _ (by have := HZA.out; omega)).trans HXa.out)
  have HY2 := Lib.hid ((hb.block _ (by have := HZA.out; omega)).trans HYa.out)
  have hl2 : w.heap.size + 1 < w2.heap.size := (Array.getElem?_eq_some_iff.1 HY2.out).1
  clear hb heq HL x0 x1 x2 x3
  go_upto_region 2 with (fail)
  generalize hw3 : w2.alloc (.cells #[.int .u8 0, .int .i64 f, .int .i64 tt, .int .u64 0, .string (bT k), .int .u64 p, .string (bT sv), .string (bT mt), .int .i64 0, .string ⟨#[]⟩] 63) = w3 at *
  have HB3 := Lib.hid (show Below w.heap.size w w3 from hw3 ▸ HB2.out.alloc HB2.out.size _)
  have HY3 := Lib.hid (show w3.heap[w.heap.size + 1]? = some (.cells #[.int .u8 0, .int .i64 0, .int .i64 0, .int .u64 0, .string ⟨#[]⟩, .int .u64 0, .string ⟨#[]⟩, .string ⟨#[]⟩, .int .i64 0, .string ⟨#[]⟩] 63 (0, 0)) from hw3 ▸ (Below.heap_alloc w2 (.cells #[.int .u8 0, .int .i64 f, .int .i64 tt, .int .u64 0, .string (bT k), .int .u64 p, .string (bT sv), .string (bT mt), .int .i64 0, .string ⟨#[]⟩] 63) _ hl2).trans HY2.out)
  have HX3 := Lib.hid (show w3.heap[w.heap.size]? = some (.cells #[.string (bT s.name), ur, us, ug] 26 (0, 0)) from hw3 ▸ (Below.heap_alloc w2 (.cells #[.int .u8 0, .int .i64 f, .int .i64 tt, .int .u64 0, .string (bT k), .int .u64 p, .string (bT sv), .string (bT mt), .int .i64 0, .string ⟨#[]⟩] 63) _ (by omega)).trans HX2.out)
  have HL3 := Lib.hid (show w3.heap[w2.heap.size]? = some (.cells #[.int .u8 0, .int .i64 f, .int .i64 tt, .int .u64 0, .string (bT k), .int .u64 p, .string (bT sv), .string (bT mt), .int .i64 0, .string ⟨#[]⟩] 63 (0, 0)) from hw3 ▸ heap_alloc_new w2 _)
  have hl3 : w2.heap.size < w3.heap.size := (Array.getElem?_eq_some_iff.1 HL3.out).1
  clear hw3
  by_cases hfe : LE = 0
  case neg =>
    have d0 : ((LE : Int) != 0) = true := by simp; omega
    have HE := Lib.hid (HCE.out.trans (if_neg hfe))
    obtain ⟨l0, l1, l2, l3, l4, l5, l6, l7, l8, l9, g0, g1, g2, g3, g4, g5, g6, g7, g8, g9⟩ := laid10_cells HY3.out
    obtain ⟨m0, m1, m2, m3, m4, m5, m6, m7, m8, m9⟩ := laid10_read HY3.out (.int .u8 0) (.int .i64 0) (.int .i64 0) (.int .u64 0) (.string ⟨#[]⟩) (.int .u64 0) (.string ⟨#[]⟩) (.string ⟨#[]⟩) (.int .i64 0) (.string ⟨#[]⟩)
    have HWf := Lib.hid (laid10_below HB3.out (show w.heap.size ≤ w.heap.size + 1 by omega) (.int .u8 0) (.int .i64 0) (.int .i64 0) (.int .u64 0) (.string ⟨#[]⟩) (.int .u64 0) (.string ⟨#[]⟩) (.string ⟨#[]⟩) (.int .i64 0) (.string ⟨#[]⟩))
    go_wp2_with fail
    exact bodyPost_ret (v := .tuple #[.agg #[.int .u8 0, .int .i64 0, .int .i64 0, .int .u64 0, .string ⟨#[]⟩, .int .u64 0, .string ⟨#[]⟩, .string ⟨#[]⟩, .int .i64 0, .string ⟨#[]⟩], .int .i64 (LE : Nat)]) (by simp [results, Tryz.results79, go_sem, m0, m1, m2, m3, m4, m5, m6, m7, m8, m9]) rfl ⟨⟨0, 0, 0, 0, 0, ⟨#[]⟩, ⟨#[]⟩, ⟨#[]⟩, ⟨#[]⟩, by first | (rw [HE.out]; done) | (rw [HE.out]; rfl)⟩, HWf.out⟩
  have HC2 := Lib.hid (HCE.out.trans (if_pos hfe))
  obtain ⟨rfl, rfl, -⟩ := HEQ.out hfe
  clear HEQ
  subst hfe
  have d0 : (((0 : Nat) : Int) != 0) = false := by decide
  clear HCE
  obtain ⟨y0, y1, y2, y3, y4, y5, y6, y7, y8, y9, -⟩ := laid10_blk HL3.out
  have p0 : w3.cell? ⟨w2.heap.size, 0, none⟩ = some (.int .u8 0) := by simp only [World.cell?, y0]; rfl
  have pf : ∀ o, w3.frozen? ⟨w2.heap.size, o, none⟩ = false := fun o => by simp [World.frozen?, y0]
  have p9 : ∀ X, (w3.setCell ⟨w2.heap.size, 0, none⟩ X).cell? ⟨w2.heap.size, 9, none⟩ = some (.string ⟨#[]⟩) := fun X => by simp only [World.cell?, y1 X]; rfl
  have pf2 : ∀ X o, (w3.setCell ⟨w2.heap.size, 0, none⟩ X).frozen? ⟨w2.heap.size, o, none⟩ = false := fun X o => by simp [World.frozen?, y1 X]
  clear y0 y1 y2 y3 y4 y5 y6 y7 y8 y9
  go_upto_region 5 with (fail)
  have HB5 := Lib.hid ((HB3.out.setCell (p := ⟨w2.heap.size, 0, none⟩) HB2.out.size (.int .u8 1)).setCell (p := ⟨w2.heap.size, 9, none⟩) HB2.out.size (.string bd))
  have HL5 := Lib.hid (show ((w3.setCell ⟨w2.heap.size, 0, none⟩ (.int .u8 1)).setCell ⟨w2.heap.size, 9, none⟩ (.string bd)).heap[w2.heap.size]? = some (.cells #[.int .u8 1, .int .i64 f, .int .i64 tt, .int .u64 0, .string (bT k), .int .u64 p, .string (bT ST.service), .string (bT ST.method), .int .i64 0, .string bd] 63 (0, 0)) from (set_blk (set_blk HL3.out 0 (.int .u8 1)) 9 (.string bd)).trans rfl)
  have HY5 := Lib.hid (show ((w3.setCell ⟨w2.heap.size, 0, none⟩ (.int .u8 1)).setCell ⟨w2.heap.size, 9, none⟩ (.string bd)).heap[w.heap.size + 1]? = some (.cells #[.int .u8 0, .int .i64 0, .int .i64 0, .int .u64 0, .string ⟨#[]⟩, .int .u64 0, .string ⟨#[]⟩, .string ⟨#[]⟩, .int .i64 0, .string ⟨#[]⟩] 63 (0, 0)) from (Below.heap_setCell _ _ _ _ (by show w.heap.size + 1 ≠ w2.heap.size; omega)).trans ((Below.heap_setCell _ _ _ _ (by show w.heap.size + 1 ≠ w2.heap.size; omega)).trans HY3.out))
  have HX5 := Lib.hid (show ((w3.setCell ⟨w2.heap.size, 0, none⟩ (.int .u8 1)).setCell ⟨w2.heap.size, 9, none⟩ (.string bd)).heap[w.heap.size]? = some (.cells #[.string (bT s.name), ur, us, ug] 26 (0, 0)) from (Below.heap_setCell _ _ _ _ (by show w.heap.size ≠ w2.heap.size; omega)).trans ((Below.heap_setCell _ _ _ _ (by show w.heap.size ≠ w2.heap.size; omega)).trans HX3.out))
  clear p0 pf p9 pf2 HL3 HX3 HY3 HB3
  generalize (w3.setCell ⟨w2.heap.size, 0, none⟩ (.int .u8 1)).setCell ⟨w2.heap.size, 9, none⟩ (.string bd) = w5 at *
  have hl5 : w2.heap.size < w5.heap.size := (Array.getElem?_eq_some_iff.1 HL5.out).1
  cases back
  · have HE := Lib.hid (show CE = 0 from HC2.out.trans (if_neg (by simp)))
    have y0 : w5.cell? ⟨w2.heap.size, 0, none⟩ = some (.int .u8 1) := by simp only [World.cell?, HL5.out]; rfl
    have y1 : w5.cell? ⟨w2.heap.size, 1, none⟩ = some (.int .i64 f) := by simp only [World.cell?, HL5.out]; rfl
    have y2 : w5.cell? ⟨w2.heap.size, 2, none⟩ = some (.int .i64 tt) := by simp only [World.cell?, HL5.out]; rfl
    have y3 : w5.cell? ⟨w2.heap.size, 3, none⟩ = some (.int .u64 0) := by simp only [World.cell?, HL5.out]; rfl
    have y4 : w5.cell? ⟨w2.heap.size, 4, none⟩ = some (.string (bT k)) := by simp only [World.cell?, HL5.out]; rfl
    have y5 : w5.cell? ⟨w2.heap.size, 5, none⟩ = some (.int .u64 p) := by simp only [World.cell?, HL5.out]; rfl
    have y6 : w5.cell? ⟨w2.heap.size, 6, none⟩ = some (.string (bT ST.service)) := by simp only [World.cell?, HL5.out]; rfl
    have y7 : w5.cell? ⟨w2.heap.size, 7, none⟩ = some (.string (bT ST.method)) := by simp only [World.cell?, HL5.out]; rfl
    have y8 : w5.cell? ⟨w2.heap.size, 8, none⟩ = some (.int .i64 0) := by simp only [World.cell?, HL5.out]; rfl
    have y9 : w5.cell? ⟨w2.heap.size, 9, none⟩ = some (.string bd) := by simp only [World.cell?, HL5.out]; rfl
    obtain ⟨l0, l1, l2, l3, l4, l5, l6, l7, l8, l9, g0, g1, g2, g3, g4, g5, g6, g7, g8, g9⟩ := laid10_cells HY5.out
    obtain ⟨m0, m1, m2, m3, m4, m5, m6, m7, m8, m9⟩ := laid10_read HY5.out (.int .u8 1) (.int .i64 f) (.int .i64 tt) (.int .u64 0) (.string (bT k)) (.int .u64 p) (.string (bT ST.service)) (.string (bT ST.method)) (.int .i64 0) (.string bd)
    have HWf := Lib.hid (laid10_below HB5.out (show w.heap.size ≤ w.heap.size + 1 by omega) (.int .u8 1) (.int .i64 f) (.int .i64 tt) (.int .u64 0) (.string (bT k)) (.int .u64 p) (.string (bT ST.service)) (.string (bT ST.method)) (.int .i64 0) (.string bd))
    go_wp2_with fail
    exact bodyPost_ret (v := .tuple #[.agg #[.int .u8 1, .int .i64 f, .int .i64 tt, .int .u64 0, .string (bT k), .int .u64 p, .string (bT ST.service), .string (bT ST.method), .int .i64 0, .string bd], .int .i64 0]) (by simp [results, Tryz.results79, go_sem, m0, m1, m2, m3, m4, m5, m6, m7, m8, m9]) rfl ⟨⟨1, f, tt, p, 0, (bT k), bT ST.service, (bT ST.method), bd, by rw [HE.out]; rfl⟩, HWf.out⟩
  have hx5 := HX5.out
  have x0 : w5.cell? ⟨w.heap.size, 0, none⟩ = some (.string (bT s.name)) := by simp only [World.cell?, hx5]; rfl
  have x1 : w5.cell? ⟨w.heap.size, 1, none⟩ = some ur := by simp only [World.cell?, hx5]; rfl
  have x2 : w5.cell? ⟨w.heap.size, 2, none⟩ = some us := by simp only [World.cell?, hx5]; rfl
  have x3 : w5.cell? ⟨w.heap.size, 3, none⟩ = some ug := by simp only [World.cell?, hx5]; rfl
  have y6 : w5.cell? ⟨w2.heap.size, 6, none⟩ = some (.string (bT ST.service)) := by simp only [World.cell?, HL5.out]; rfl
  have y7 : w5.cell? ⟨w2.heap.size, 7, none⟩ = some (.string (bT ST.method)) := by simp only [World.cell?, HL5.out]; rfl
  clear hx5
  have HMc := Lib.hid (HME.out w5 HB5.out)
  generalize mthOf s ST.service ST.method = M at *
  generalize mOr M = mm at *
  obtain ⟨mn, ma, mr, me, mu⟩ := mm
  dsimp only at HU
  obtain rfl : mu = UN := HU.out.symm
  unfold mV at HMc
  go_wp2_with fail
  refine HMc.out.mono ?_
  rintro e w6 ⟨rfl, hb6⟩
  have HB6 := Lib.hid (HB5.out.trans (hb6.mono HB5.out.size))
  have HL6 := Lib.hid ((hb6.block _ hl5).trans HL5.out)
  have HY6 := Lib.hid ((hb6.block _ (by omega)).trans HY5.out)
  have hl6 : w2.heap.size < w6.heap.size := (Array.getElem?_eq_some_iff.1 HL6.out).1
  clear hb6 x0 x1 x2 x3 y6 y7 HMc HME
  go_upto_region 7 with (fail)
  generalize hw7 : w6.alloc (.cells #[.string (bT mn), .string (bT ma), .int .u8 (mr : Nat), .string (bT me), .string (bT mu)] 92) = w7 at *
  have HB7 := Lib.hid (show Below w.heap.size w w7 from hw7 ▸ HB6.out.alloc HB6.out.size _)
  have HL7 := Lib.hid (show w7.heap[w2.heap.size]? = some (.cells #[.int .u8 1, .int .i64 f, .int .i64 tt, .int .u64 0, .string (bT k), .int .u64 p, .string (bT ST.service), .string (bT ST.method), .int .i64 0, .string bd] 63 (0, 0)) from hw7 ▸ (Below.heap_alloc w6 (.cells #[.string (bT mn), .string (bT ma), .int .u8 (mr : Nat), .string (bT me), .string (bT mu)] 92) _ hl6).trans HL6.out)
  have HY7 := Lib.hid (show w7.heap[w.heap.size + 1]? = some (.cells #[.int .u8 0, .int .i64 0, .int .i64 0, .int .u64 0, .string ⟨#[]⟩, .int .u64 0, .string ⟨#[]⟩, .string ⟨#[]⟩, .int .i64 0, .string ⟨#[]⟩] 63 (0, 0)) from hw7 ▸ (Below.heap_alloc w6 (.cells #[.string (bT mn), .string (bT ma), .int .u8 (mr : Nat), .string (bT me), .string (bT mu)] 92) _ (by omega)).trans HY6.out)
  have HM7 := Lib.hid (show w7.heap[w6.heap.size]? = some (.cells #[.string (bT mn), .string (bT ma), .int .u8 (mr : Nat), .string (bT me), .string (bT mu)] 92 (0, 0)) from hw7 ▸ heap_alloc_new w6 _)
  have hl7 : w6.heap.size < w7.heap.size := (Array.getElem?_eq_some_iff.1 HM7.out).1
  clear hw7 HL6 HY6
  have u4 : w7.cell? ⟨w6.heap.size, 4, none⟩ = some (.string (bT mu)) := by simp only [World.cell?, HM7.out]; rfl
  have HTe := Lib.hid (show (bT mu).toList.isEmpty = decide (mu = []) from by rw [bT_list]; cases mu <;> rfl)
  by_cases hu : mu = []
  · have e1 := HTe.out
    rw [decide_eq_true hu] at e1
    have HE := Lib.hid (show CE = 133 from HC2.out.trans (if_pos ⟨by simp, hu⟩))
    clear hu
    obtain ⟨l0, l1, l2, l3, l4, l5, l6, l7, l8, l9, g0, g1, g2, g3, g4, g5, g6, g7, g8, g9⟩ := laid10_cells HY7.out
    obtain ⟨m0, m1, m2, m3, m4, m5, m6, m7, m8, m9⟩ := laid10_read HY7.out (.int .u8 0) (.int .i64 0) (.int .i64 0) (.int .u64 0) (.string ⟨#[]⟩) (.int .u64 0) (.string ⟨#[]⟩) (.string ⟨#[]⟩) (.int .i64 0) (.string ⟨#[]⟩)
    have HWf := Lib.hid (laid10_below HB7.out (show w.heap.size ≤ w.heap.size + 1 by omega) (.int .u8 0) (.int .i64 0) (.int .i64 0) (.int .u64 0) (.string ⟨#[]⟩) (.int .u64 0) (.string ⟨#[]⟩) (.string ⟨#[]⟩) (.int .i64 0) (.string ⟨#[]⟩))
    go_wp2_with fail
    exact bodyPost_ret (v := .tuple #[.agg #[.int .u8 0, .int .i64 0, .int .i64 0, .int .u64 0, .string ⟨#[]⟩, .int .u64 0, .string ⟨#[]⟩, .string ⟨#[]⟩, .int .i64 0, .string ⟨#[]⟩], .int .i64 133]) (by simp [results, Tryz.results79, go_sem, m0, m1, m2, m3, m4, m5, m6, m7, m8, m9]) rfl ⟨⟨0, 0, 0, 0, 0, ⟨#[]⟩, ⟨#[]⟩, ⟨#[]⟩, ⟨#[]⟩, by first | (rw [HE.out]; done) | (rw [HE.out]; rfl)⟩, HWf.out⟩
  have e1 := HTe.out
  rw [decide_eq_false hu] at e1
  have HE := Lib.hid (show CE = 0 from HC2.out.trans (if_neg (fun h => hu h.2)))
  clear hu HTe HC2
  go_upto_region 9 with (fail)
  have HSX := Lib.hid (fun (W : World) (e1 : W.heap[w6.heap.size]? = w7.heap[w6.heap.size]?) => show (fun (W : World) => W.cell? ⟨w6.heap.size, 4, none⟩ = some (.string (bT mu))) W from by simp [World.cell?, e1.trans HM7.out])
  have hkd : w7.drew.heap[w6.heap.size]? = w7.heap[w6.heap.size]? := rfl
  have hne : w6.heap.size ≠ w2.heap.size := by omega
  have HLW := Lib.hid (fun W (h : Below w7.heap.size w7 W) => show W.heap[w2.heap.size]? = some (.cells #[.int .u8 1, .int .i64 f, .int .i64 tt, .int .u64 0, .string (bT k), .int .u64 p, .string (bT ST.service), .string (bT ST.method), .int .i64 0, .string bd] 63 (0, 0)) from (h.block _ (by omega)).trans HL7.out)
  have HLF := Lib.hid (fun W (h : Below w7.heap.size w7 W) => show (∀ o, W.frozen? ⟨w2.heap.size, o, none⟩ = false) ∧ W.cell? ⟨w2.heap.size, 7, none⟩ = some (.string (bT ST.method)) ∧ (∀ X, (W.setCell ⟨w2.heap.size, 7, none⟩ X).cell? ⟨w2.heap.size, 4, none⟩ = some (.string (bT k))) ∧ (∀ X o, (W.setCell ⟨w2.heap.size, 7, none⟩ X).frozen? ⟨w2.heap.size, o, none⟩ = false) from ⟨fun o => by simp [World.frozen?, HLW.out W h], by simp only [World.cell?, HLW.out W h]; rfl, fun X => by simp only [World.cell?, set_blk (HLW.out W h) 7 X]; rfl, fun X o => by simp [World.frozen?, set_blk (HLW.out W h) 7 X]⟩)
  have hsk : ∀ (W : World) o X, (W.setCell ⟨w2.heap.size, o, none⟩ X).heap[w6.heap.size]? = W.heap[w6.heap.size]? := fun W o X => Below.heap_setCell W ⟨w2.heap.size, o, none⟩ X _ hne
  have hskd : ∀ (W : World) o X, (W.setCell ⟨w2.heap.size, o, none⟩ X).drew.heap[w6.heap.size]? = W.heap[w6.heap.size]? := fun W o X => Below.heap_setCell W ⟨w2.heap.size, o, none⟩ X _ hne
  have HSK := Lib.hid hsk
  have HSKD := Lib.hid hskd
  clear hsk hskd u4
  generalize keyA id i true = KA at *
  go_region_held3 (fun (W : World) => W.cell? ⟨w6.heap.size, 4, none⟩ = some (.string (bT mu)))
    (first | with_reducible exact HSX.out _ hkd | with_reducible exact HSX.out _ hk8 | with_reducible exact HSX.out _ ((HSK.out _ _ _).trans hk8) | with_reducible exact HSX.out _ ((HSKD.out _ _ _).trans hk8) | with_reducible exact HSX.out _ ((HSK.out _ _ _).trans ((HSK.out _ _ _).trans hk8)) | with_reducible exact HSX.out _ ((HSKD.out _ _ _).trans ((HSK.out _ _ _).trans hk8)) | assumption)
    (first
      | (go_at_call 81; ((with_reducible refine (HKY.out _).mono ?_); rintro e w8 ⟨rfl, hb8⟩; have hk8 : w8.heap[w6.heap.size]? = w7.heap[w6.heap.size]? := hb8.block w6.heap.size hl7; obtain ⟨v0, v1, v2, v3⟩ := HLF.out w8 ((Below.refl _ w7).drew.trans hb8))))
  all_goals
    have hbq : Below w7.heap.size w7 w8 := (Below.refl _ w7).drew.trans hb8
    have HB9 := Lib.hid (((HB7.out.trans (hbq.mono HB7.out.size)).setCell (p := ⟨w2.heap.size, 7, none⟩) HB2.out.size (.string (bT mu))).setCell (p := ⟨w2.heap.size, 4, none⟩) HB2.out.size (.string (bT KA)))
    have HL9 := Lib.hid (show ((w8.setCell ⟨w2.heap.size, 7, none⟩ (.string (bT mu))).setCell ⟨w2.heap.size, 4, none⟩ (.string (bT KA))).heap[w2.heap.size]? = some (.cells #[.int .u8 1, .int .i64 f, .int .i64 tt, .int .u64 0, .string (bT KA), .int .u64 p, .string (bT ST.service), .string (bT mu), .int .i64 0, .string bd] 63 (0, 0)) from (set_blk (set_blk (HLW.out w8 hbq) 7 (.string (bT mu))) 4 (.string (bT KA))).trans rfl)
    have HY9 := Lib.hid (show ((w8.setCell ⟨w2.heap.size, 7, none⟩ (.string (bT mu))).setCell ⟨w2.heap.size, 4, none⟩ (.string (bT KA))).heap[w.heap.size + 1]? = some (.cells #[.int .u8 0, .int .i64 0, .int .i64 0, .int .u64 0, .string ⟨#[]⟩, .int .u64 0, .string ⟨#[]⟩, .string ⟨#[]⟩, .int .i64 0, .string ⟨#[]⟩] 63 (0, 0)) from (Below.heap_setCell _ _ _ _ (by show w.heap.size + 1 ≠ w2.heap.size; omega)).trans ((Below.heap_setCell _ _ _ _ (by show w.heap.size + 1 ≠ w2.heap.size; omega)).trans ((hbq.block _ (by omega)).trans HY7.out)))
    clear hk8 hbq hb8 v0 v1 v2 v3
    generalize (w8.setCell ⟨w2.heap.size, 7, none⟩ (.string (bT mu))).setCell ⟨w2.heap.size, 4, none⟩ (.string (bT KA)) = w9 at *
    have y0 : w9.cell? ⟨w2.heap.size, 0, none⟩ = some (.int .u8 1) := by simp only [World.cell?, HL9.out]; rfl
    have y1 : w9.cell? ⟨w2.heap.size, 1, none⟩ = some (.int .i64 f) := by simp only [World.cell?, HL9.out]; rfl
    have y2 : w9.cell? ⟨w2.heap.size, 2, none⟩ = some (.int .i64 tt) := by simp only [World.cell?, HL9.out]; rfl
    have y3 : w9.cell? ⟨w2.heap.size, 3, none⟩ = some (.int .u64 0) := by simp only [World.cell?, HL9.out]; rfl
    have y4 : w9.cell? ⟨w2.heap.size, 4, none⟩ = some (.string (bT KA)) := by simp only [World.cell?, HL9.out]; rfl
    have y5 : w9.cell? ⟨w2.heap.size, 5, none⟩ = some (.int .u64 p) := by simp only [World.cell?, HL9.out]; rfl
    have y6 : w9.cell? ⟨w2.heap.size, 6, none⟩ = some (.string (bT ST.service)) := by simp only [World.cell?, HL9.out]; rfl
    have y7 : w9.cell? ⟨w2.heap.size, 7, none⟩ = some (.string (bT mu)) := by simp only [World.cell?, HL9.out]; rfl
    have y8 : w9.cell? ⟨w2.heap.size, 8, none⟩ = some (.int .i64 0) := by simp only [World.cell?, HL9.out]; rfl
    have y9 : w9.cell? ⟨w2.heap.size, 9, none⟩ = some (.string bd) := by simp only [World.cell?, HL9.out]; rfl
    obtain ⟨l0, l1, l2, l3, l4, l5, l6, l7, l8, l9, g0, g1, g2, g3, g4, g5, g6, g7, g8, g9⟩ := laid10_cells HY9.out
    obtain ⟨m0, m1, m2, m3, m4, m5, m6, m7, m8, m9⟩ := laid10_read HY9.out (.int .u8 1) (.int .i64 f) (.int .i64 tt) (.int .u64 0) (.string (bT KA)) (.int .u64 p) (.string (bT ST.service)) (.string (bT mu)) (.int .i64 0) (.string bd)
    have HWf := Lib.hid (laid10_below HB9.out (show w.heap.size ≤ w.heap.size + 1 by omega) (.int .u8 1) (.int .i64 f) (.int .i64 tt) (.int .u64 0) (.string (bT KA)) (.int .u64 p) (.string (bT ST.service)) (.string (bT mu)) (.int .i64 0) (.string bd))
    go_wp2_with fail
    exact bodyPost_ret (v := .tuple #[.agg #[.int .u8 1, .int .i64 f, .int .i64 tt, .int .u64 0, .string (bT KA), .int .u64 p, .string (bT ST.service), .string (bT mu), .int .i64 0, .string bd], .int .i64 0]) (by simp [results, Tryz.results79, go_sem, m0, m1, m2, m3, m4, m5, m6, m7, m8, m9]) rfl ⟨⟨1, f, tt, p, 0, (bT KA), bT ST.service, (bT mu), bd, by rw [HE.out]; rfl⟩, HWf.out⟩
end Go.Proofs.YtgoejmheihgpfaaGreatDoor
