/-
  What is proved here: 'redressref23.Cancel' and 'redressref23.Settle', for every argument.
-/
import Derived.Test.YtfnfbnfjgpfmfaaDoorF
namespace Go.Proofs.YtfnfbnfjgpfmfaaDoor
open Go.RowKit

theorem right_range {st c : Int} {v : ByteArray} {d : Int} (h : rightB st c v d = true) : 1 ≤ st ∧ st ≤ 5 := by
  simp only [rightB, decide_eq_true_eq] at h
  omega
theorem may_2 {st : Int} (h : 1 ≤ st ∧ st ≤ 5) : mayB st 2 = !termB st := by
  have hs : st = 1 ∨ st = 2 ∨ st = 3 ∨ st = 4 ∨ st = 5 := by omega
  rcases hs with rfl | rfl | rfl | rfl | rfl <;> decide
theorem may_t {st st' : Int} (h : 1 ≤ st ∧ st ≤ 5) (ht : termB st = false) (ht' : termB st' = true) : mayB st st' = !(decide (st' = 5) && decide (st = 1)) := by
  have hs : st = 1 ∨ st = 2 ∨ st = 3 ∨ st = 4 ∨ st = 5 := by omega
  have hs' : st' = 3 ∨ st' = 4 ∨ st' = 5 := by simpa [termB] using ht'
  rcases hs with rfl | rfl | rfl | rfl | rfl <;> first | (exact absurd ht (by decide)) | (rcases hs' with rfl | rfl | rfl <;> decide)
theorem rcancel_1 (st c : Int) (v : ByteArray) (d : Int) (w : World) (hr : rightB st c v d = false) :
    Calls Tryd.prog 11 #[opV st c v d] w fun e w' => e = .returned (.tuple #[opV st c v d, .int .i64 1]) ∧ Below w.heap.size w w' := by
  go_enter Tryd.func11, Tryd.ntmps11
  go_wp2_with fail
  refine (right_any st c v d _).mono ?_
  rintro e w1 ⟨rfl, hb1⟩
  have O1_0 := Lib.hid (((Own4.new w _ _ _ _ _).alloc _).below hb1)
  obtain ⟨q100, q101, q102, q103, f100, f101, f102, f103, z10⟩ := O1_0.out
  have O1_1 := Lib.hid ((Own4.new1 w _ _ _ _ _ _).below hb1)
  obtain ⟨q110, q111, q112, q113, f110, f111, f112, f113, z11⟩ := O1_1.out
  have HB1 := Lib.hid hb1
  clear hb1
  go_wp2_with fail
  exact bodyPost_ret (v := .tuple #[opV st c v d, .int .i64 1]) (by simp [results, Tryd.results11, go_sem, *]) rfl ⟨rfl, ((((((bl2 _ _ _).trans (HB1.out.mono (by simp; omega))).setCell (by simp) _).setCell (by simp) _).setCell (by simp) _).setCell (by simp) _)⟩
theorem rcancel_2 (st c : Int) (v : ByteArray) (d : Int) (w : World) (hr : rightB st c v d = true) (ht : termB st = true) :
    Calls Tryd.prog 11 #[opV st c v d] w fun e w' => e = .returned (.tuple #[opV st c v d, .int .i64 202]) ∧ Below w.heap.size w w' := by
  go_enter Tryd.func11, Tryd.ntmps11
  go_wp2_with fail
  refine (right_any st c v d _).mono ?_
  rintro e w1 ⟨rfl, hb1⟩
  have O1_0 := Lib.hid (((Own4.new w _ _ _ _ _).alloc _).below hb1)
  obtain ⟨q100, q101, q102, q103, f100, f101, f102, f103, z10⟩ := O1_0.out
  have O1_1 := Lib.hid ((Own4.new1 w _ _ _ _ _ _).below hb1)
  obtain ⟨q110, q111, q112, q113, f110, f111, f112, f113, z11⟩ := O1_1.out
  have HB1 := Lib.hid hb1
  clear hb1
  go_wp2_with fail
  refine (rterm_any st _).mono ?_
  rintro e w2 ⟨rfl, hb2⟩
  have O2_0 := Lib.hid ((O1_0.out).below hb2)
  obtain ⟨q200, q201, q202, q203, f200, f201, f202, f203, z20⟩ := O2_0.out
  have O2_1 := Lib.hid ((O1_1.out).below hb2)
  obtain ⟨q210, q211, q212, q213, f210, f211, f212, f213, z21⟩ := O2_1.out
  have HB2 := Lib.hid hb2
  clear hb2
  go_wp2_with fail
  exact bodyPost_ret (v := .tuple #[opV st c v d, .int .i64 202]) (by simp [results, Tryd.results11, go_sem, *]) rfl ⟨rfl, ((((((bl2 _ _ _).trans ((HB1.out.trans (HB2.out.mono HB1.out.size)).mono (by simp; omega))).setCell (by simp) _).setCell (by simp) _).setCell (by simp) _).setCell (by simp) _)⟩
theorem rcancel_3 (st c : Int) (v : ByteArray) (d : Int) (w : World) (hr : rightB st c v d = true) (ht : termB st = false) :
    Calls Tryd.prog 11 #[opV st c v d] w fun e w' => e = .returned (.tuple #[opV 2 c v d, .int .i64 0]) ∧ Below w.heap.size w w' := by
  go_enter Tryd.func11, Tryd.ntmps11
  go_wp2_with fail
  refine (right_any st c v d _).mono ?_
  rintro e w1 ⟨rfl, hb1⟩
  have O1_0 := Lib.hid (((Own4.new w _ _ _ _ _).alloc _).below hb1)
  obtain ⟨q100, q101, q102, q103, f100, f101, f102, f103, z10⟩ := O1_0.out
  have O1_1 := Lib.hid ((Own4.new1 w _ _ _ _ _ _).below hb1)
  obtain ⟨q110, q111, q112, q113, f110, f111, f112, f113, z11⟩ := O1_1.out
  have HB1 := Lib.hid hb1
  clear hb1
  go_wp2_with fail
  refine (rterm_any st _).mono ?_
  rintro e w2 ⟨rfl, hb2⟩
  have O2_0 := Lib.hid ((O1_0.out).below hb2)
  obtain ⟨q200, q201, q202, q203, f200, f201, f202, f203, z20⟩ := O2_0.out
  have O2_1 := Lib.hid ((O1_1.out).below hb2)
  obtain ⟨q210, q211, q212, q213, f210, f211, f212, f213, z21⟩ := O2_1.out
  have HB2 := Lib.hid hb2
  clear hb2
  go_wp2_with fail
  exact bodyPost_ret (v := .tuple #[opV 2 c v d, .int .i64 0]) (by simp [results, Tryd.results11, go_sem, *]) rfl ⟨rfl, (((((((bl2 _ _ _).trans ((HB1.out.trans (HB2.out.mono HB1.out.size)).mono (by simp; omega))).setCell (by simp) _).setCell (by simp) _).setCell (by simp) _).setCell (by simp) _).setCell (by simp) _)⟩

theorem rcancel_any (st c : Int) (v : ByteArray) (d : Int) (w : World) :
    Calls Tryd.prog 11 #[opV st c v d] w fun e w' => e = .returned (.tuple #[opV (canSt st c v d) c v d, .int .i64 (canE st c v d)]) ∧ Below w.heap.size w w' := by
  cases hr : rightB st c v d
  · rw [show canSt st c v d = st by simp [canSt, hr], show canE st c v d = 1 by simp [canE, hr]]
    exact rcancel_1 st c v d w hr
  · have hm := may_2 (right_range hr)
    cases ht : termB st
    · rw [ht] at hm
      rw [show canSt st c v d = 2 by simp [canSt, hr, hm], show canE st c v d = 0 by simp [canE, hr, hm]]
      exact rcancel_3 st c v d w hr ht
    · rw [ht] at hm
      rw [show canSt st c v d = st by simp [canSt, hr, hm], show canE st c v d = 202 by simp [canE, hr, hm]]
      exact rcancel_2 st c v d w hr ht

set_option maxHeartbeats 400000 in
theorem rsettle_1 (st c : Int) (v : ByteArray) (d : Int) (st' c' : Int) (v' : ByteArray) (d' : Int) (w : World) (hr : rightB st c v d = false) :
    Calls Tryd.prog 12 #[opV st c v d, .int .i64 st', .int .i64 c', .string v', .int .i64 d'] w fun e w' => e = .returned (.tuple #[opV st c v d, .int .i64 1]) ∧ Below w.heap.size w w' := by
  go_enter Tryd.func12, Tryd.ntmps12
  go_wp2_with fail
  refine (right_any st c v d _).mono ?_
  rintro e w1 ⟨rfl, hb1⟩
  have O1_0 := Lib.hid ((((Own4.new w _ _ _ _ _).alloc _).alloc _).below hb1)
  obtain ⟨q100, q101, q102, q103, f100, f101, f102, f103, z10⟩ := O1_0.out
  have O1_1 := Lib.hid (((Own4.new1 w _ _ _ _ _ _).alloc _).below hb1)
  obtain ⟨q110, q111, q112, q113, f110, f111, f112, f113, z11⟩ := O1_1.out
  have O1_2 := Lib.hid ((Own4.new2 w _ _ _ _ _ _ _).below hb1)
  obtain ⟨q120, q121, q122, q123, f120, f121, f122, f123, z12⟩ := O1_2.out
  have HB1 := Lib.hid hb1
  clear hb1
  go_wp2_with fail
  exact bodyPost_ret (v := .tuple #[opV st c v d, .int .i64 1]) (by simp [results, Tryd.results12, go_sem, *]) rfl ⟨rfl, ((((((bl3 _ _ _ _).trans (HB1.out.mono (by simp; omega))).setCell (by simp) _).setCell (by simp) _).setCell (by simp) _).setCell (by simp) _)⟩
set_option maxHeartbeats 400000 in
theorem rsettle_2 (st c : Int) (v : ByteArray) (d : Int) (st' c' : Int) (v' : ByteArray) (d' : Int) (w : World) (hr : rightB st c v d = true) (ht' : termB st' = false) :
    Calls Tryd.prog 12 #[opV st c v d, .int .i64 st', .int .i64 c', .string v', .int .i64 d'] w fun e w' => e = .returned (.tuple #[opV st c v d, .int .i64 1]) ∧ Below w.heap.size w w' := by
  go_enter Tryd.func12, Tryd.ntmps12
  go_wp2_with fail
  refine (right_any st c v d _).mono ?_
  rintro e w1 ⟨rfl, hb1⟩
  have O1_0 := Lib.hid ((((Own4.new w _ _ _ _ _).alloc _).alloc _).below hb1)
  obtain ⟨q100, q101, q102, q103, f100, f101, f102, f103, z10⟩ := O1_0.out
  have O1_1 := Lib.hid (((Own4.new1 w _ _ _ _ _ _).alloc _).below hb1)
  obtain ⟨q110, q111, q112, q113, f110, f111, f112, f113, z11⟩ := O1_1.out
  have O1_2 := Lib.hid ((Own4.new2 w _ _ _ _ _ _ _).below hb1)
  obtain ⟨q120, q121, q122, q123, f120, f121, f122, f123, z12⟩ := O1_2.out
  have HB1 := Lib.hid hb1
  clear hb1
  go_wp2_with fail
  refine (rterm_any st' _).mono ?_
  rintro e w2 ⟨rfl, hb2⟩
  have O2_0 := Lib.hid ((O1_0.out).below hb2)
  obtain ⟨q200, q201, q202, q203, f200, f201, f202, f203, z20⟩ := O2_0.out
  have O2_1 := Lib.hid ((O1_1.out).below hb2)
  obtain ⟨q210, q211, q212, q213, f210, f211, f212, f213, z21⟩ := O2_1.out
  have O2_2 := Lib.hid ((O1_2.out).below hb2)
  obtain ⟨q220, q221, q222, q223, f220, f221, f222, f223, z22⟩ := O2_2.out
  have HB2 := Lib.hid hb2
  clear hb2
  go_wp2_with fail
  exact bodyPost_ret (v := .tuple #[opV st c v d, .int .i64 1]) (by simp [results, Tryd.results12, go_sem, *]) rfl ⟨rfl, ((((((bl3 _ _ _ _).trans ((HB1.out.trans (HB2.out.mono HB1.out.size)).mono (by simp; omega))).setCell (by simp) _).setCell (by simp) _).setCell (by simp) _).setCell (by simp) _)⟩
set_option maxHeartbeats 400000 in
theorem rsettle_3 (st c : Int) (v : ByteArray) (d : Int) (st' c' : Int) (v' : ByteArray) (d' : Int) (w : World) (hr : rightB st c v d = true) (ht' : termB st' = true) (hr' : rightB st' c' v' d' = false) :
    Calls Tryd.prog 12 #[opV st c v d, .int .i64 st', .int .i64 c', .string v', .int .i64 d'] w fun e w' => e = .returned (.tuple #[opV st c v d, .int .i64 1]) ∧ Below w.heap.size w w' := by
  go_enter Tryd.func12, Tryd.ntmps12
  go_wp2_with fail
  refine (right_any st c v d _).mono ?_
  rintro e w1 ⟨rfl, hb1⟩
  have O1_0 := Lib.hid ((((Own4.new w _ _ _ _ _).alloc _).alloc _).below hb1)
  obtain ⟨q100, q101, q102, q103, f100, f101, f102, f103, z10⟩ := O1_0.out
  have O1_1 := Lib.hid (((Own4.new1 w _ _ _ _ _ _).alloc _).below hb1)
  obtain ⟨q110, q111, q112, q113, f110, f111, f112, f113, z11⟩ := O1_1.out
  have O1_2 := Lib.hid ((Own4.new2 w _ _ _ _ _ _ _).below hb1)
  obtain ⟨q120, q121, q122, q123, f120, f121, f122, f123, z12⟩ := O1_2.out
  have HB1 := Lib.hid hb1
  clear hb1
  go_wp2_with fail
  refine (rterm_any st' _).mono ?_
  rintro e w2 ⟨rfl, hb2⟩
  have O2_0 := Lib.hid ((O1_0.out).below hb2)
  obtain ⟨q200, q201, q202, q203, f200, f201, f202, f203, z20⟩ := O2_0.out
  have O2_1 := Lib.hid ((O1_1.out).below hb2)
  obtain ⟨q210, q211, q212, q213, f210, f211, f212, f213, z21⟩ := O2_1.out
  have O2_2 := Lib.hid ((O1_2.out).below hb2)
  obtain ⟨q220, q221, q222, q223, f220, f221, f222, f223, z22⟩ := O2_2.out
  have HB2 := Lib.hid hb2
  clear hb2
  go_wp2_with fail
  refine (right_any st' c' v' d' _).mono ?_
  rintro e w3 ⟨rfl, hb3⟩
  have O3_0 := Lib.hid ((O2_0.out).below hb3)
  obtain ⟨q300, q301, q302, q303, f300, f301, f302, f303, z30⟩ := O3_0.out
  have O3_1 := Lib.hid ((O2_1.out).below hb3)
  obtain ⟨q310, q311, q312, q313, f310, f311, f312, f313, z31⟩ := O3_1.out
  have O3_2 := Lib.hid ((O2_2.out).below hb3)
  obtain ⟨q320, q321, q322, q323, f320, f321, f322, f323, z32⟩ := O3_2.out
  have HB3 := Lib.hid hb3
  clear hb3
  go_wp2_with fail
  exact bodyPost_ret (v := .tuple #[opV st c v d, .int .i64 1]) (by simp [results, Tryd.results12, go_sem, *]) rfl ⟨rfl, ((((((bl3 _ _ _ _).trans (((HB1.out.trans (HB2.out.mono HB1.out.size)).trans (HB3.out.mono (Nat.le_trans HB1.out.size HB2.out.size))).mono (by simp; omega))).setCell (by simp) _).setCell (by simp) _).setCell (by simp) _).setCell (by simp) _)⟩
set_option maxHeartbeats 400000 in
theorem rsettle_4 (st c : Int) (v : ByteArray) (d : Int) (st' c' : Int) (v' : ByteArray) (d' : Int) (w : World) (hr : rightB st c v d = true) (ht' : termB st' = true) (hr' : rightB st' c' v' d' = true) (ht : termB st = true) :
    Calls Tryd.prog 12 #[opV st c v d, .int .i64 st', .int .i64 c', .string v', .int .i64 d'] w fun e w' => e = .returned (.tuple #[opV st c v d, .int .i64 202]) ∧ Below w.heap.size w w' := by
  go_enter Tryd.func12, Tryd.ntmps12
  go_wp2_with fail
  refine (right_any st c v d _).mono ?_
  rintro e w1 ⟨rfl, hb1⟩
  have O1_0 := Lib.hid ((((Own4.new w _ _ _ _ _).alloc _).alloc _).below hb1)
  obtain ⟨q100, q101, q102, q103, f100, f101, f102, f103, z10⟩ := O1_0.out
  have O1_1 := Lib.hid (((Own4.new1 w _ _ _ _ _ _).alloc _).below hb1)
  obtain ⟨q110, q111, q112, q113, f110, f111, f112, f113, z11⟩ := O1_1.out
  have O1_2 := Lib.hid ((Own4.new2 w _ _ _ _ _ _ _).below hb1)
  obtain ⟨q120, q121, q122, q123, f120, f121, f122, f123, z12⟩ := O1_2.out
  have HB1 := Lib.hid hb1
  clear hb1
  go_wp2_with fail
  refine (rterm_any st' _).mono ?_
  rintro e w2 ⟨rfl, hb2⟩
  have O2_0 := Lib.hid ((O1_0.out).below hb2)
  obtain ⟨q200, q201, q202, q203, f200, f201, f202, f203, z20⟩ := O2_0.out
  have O2_1 := Lib.hid ((O1_1.out).below hb2)
  obtain ⟨q210, q211, q212, q213, f210, f211, f212, f213, z21⟩ := O2_1.out
  have O2_2 := Lib.hid ((O1_2.out).below hb2)
  obtain ⟨q220, q221, q222, q223, f220, f221, f222, f223, z22⟩ := O2_2.out
  have HB2 := Lib.hid hb2
  clear hb2
  go_wp2_with fail
  refine (right_any st' c' v' d' _).mono ?_
  rintro e w3 ⟨rfl, hb3⟩
  have O3_0 := Lib.hid ((O2_0.out).below hb3)
  obtain ⟨q300, q301, q302, q303, f300, f301, f302, f303, z30⟩ := O3_0.out
  have O3_1 := Lib.hid ((O2_1.out).below hb3)
  obtain ⟨q310, q311, q312, q313, f310, f311, f312, f313, z31⟩ := O3_1.out
  have O3_2 := Lib.hid ((O2_2.out).below hb3)
  obtain ⟨q320, q321, q322, q323, f320, f321, f322, f323, z32⟩ := O3_2.out
  have HB3 := Lib.hid hb3
  clear hb3
  go_wp2_with fail
  refine (rterm_any st _).mono ?_
  rintro e w4 ⟨rfl, hb4⟩
  have O4_0 := Lib.hid ((O3_0.out).below hb4)
  obtain ⟨q400, q401, q402, q403, f400, f401, f402, f403, z40⟩ := O4_0.out
  have O4_1 := Lib.hid ((O3_1.out).below hb4)
  obtain ⟨q410, q411, q412, q413, f410, f411, f412, f413, z41⟩ := O4_1.out
  have O4_2 := Lib.hid ((O3_2.out).below hb4)
  obtain ⟨q420, q421, q422, q423, f420, f421, f422, f423, z42⟩ := O4_2.out
  have HB4 := Lib.hid hb4
  clear hb4
  go_wp2_with fail
  exact bodyPost_ret (v := .tuple #[opV st c v d, .int .i64 202]) (by simp [results, Tryd.results12, go_sem, *]) rfl ⟨rfl, ((((((bl3 _ _ _ _).trans ((((HB1.out.trans (HB2.out.mono HB1.out.size)).trans (HB3.out.mono (Nat.le_trans HB1.out.size HB2.out.size))).trans (HB4.out.mono (Nat.le_trans (Nat.le_trans HB1.out.size HB2.out.size) HB3.out.size))).mono (by simp; omega))).setCell (by simp) _).setCell (by simp) _).setCell (by simp) _).setCell (by simp) _)⟩
set_option maxHeartbeats 400000 in
theorem rsettle_5 (st c : Int) (v : ByteArray) (d : Int) (st' c' : Int) (v' : ByteArray) (d' : Int) (w : World) (hr : rightB st c v d = true) (ht' : termB st' = true) (hr' : rightB st' c' v' d' = true) (ht : termB st = false) (h5 : (st' == 5) = true) (h1 : (st == 1) = true) :
    Calls Tryd.prog 12 #[opV st c v d, .int .i64 st', .int .i64 c', .string v', .int .i64 d'] w fun e w' => e = .returned (.tuple #[opV st c v d, .int .i64 1]) ∧ Below w.heap.size w w' := by
  go_enter Tryd.func12, Tryd.ntmps12
  go_wp2_with fail
  refine (right_any st c v d _).mono ?_
  rintro e w1 ⟨rfl, hb1⟩
  have O1_0 := Lib.hid ((((Own4.new w _ _ _ _ _).alloc _).alloc _).below hb1)
  obtain ⟨q100, q101, q102, q103, f100, f101, f102, f103, z10⟩ := O1_0.out
  have O1_1 := Lib.hid (((Own4.new1 w _ _ _ _ _ _).alloc _).below hb1)
  obtain ⟨q110, q111, q112, q113, f110, f111, f112, f113, z11⟩ := O1_1.out
  have O1_2 := Lib.hid ((Own4.new2 w _ _ _ _ _ _ _).below hb1)
  obtain ⟨q120, q121, q122, q123, f120, f121, f122, f123, z12⟩ := O1_2.out
  have HB1 := Lib.hid hb1
  clear hb1
  go_wp2_with fail
  refine (rterm_any st' _).mono ?_
  rintro e w2 ⟨rfl, hb2⟩
  have O2_0 := Lib.hid ((O1_0.out).below hb2)
  obtain ⟨q200, q201, q202, q203, f200, f201, f202, f203, z20⟩ := O2_0.out
  have O2_1 := Lib.hid ((O1_1.out).below hb2)
  obtain ⟨q210, q211, q212, q213, f210, f211, f212, f213, z21⟩ := O2_1.out
  have O2_2 := Lib.hid ((O1_2.out).below hb2)
  obtain ⟨q220, q221, q222, q223, f220, f221, f222, f223, z22⟩ := O2_2.out
  have HB2 := Lib.hid hb2
  clear hb2
  go_wp2_with fail
  refine (right_any st' c' v' d' _).mono ?_
  rintro e w3 ⟨rfl, hb3⟩
  have O3_0 := Lib.hid ((O2_0.out).below hb3)
  obtain ⟨q300, q301, q302, q303, f300, f301, f302, f303, z30⟩ := O3_0.out
  have O3_1 := Lib.hid ((O2_1.out).below hb3)
  obtain ⟨q310, q311, q312, q313, f310, f311, f312, f313, z31⟩ := O3_1.out
  have O3_2 := Lib.hid ((O2_2.out).below hb3)
  obtain ⟨q320, q321, q322, q323, f320, f321, f322, f323, z32⟩ := O3_2.out
  have HB3 := Lib.hid hb3
  clear hb3
  go_wp2_with fail
  refine (rterm_any st _).mono ?_
  rintro e w4 ⟨rfl, hb4⟩
  have O4_0 := Lib.hid ((O3_0.out).below hb4)
  obtain ⟨q400, q401, q402, q403, f400, f401, f402, f403, z40⟩ := O4_0.out
  have O4_1 := Lib.hid ((O3_1.out).below hb4)
  obtain ⟨q410, q411, q412, q413, f410, f411, f412, f413, z41⟩ := O4_1.out
  have O4_2 := Lib.hid ((O3_2.out).below hb4)
  obtain ⟨q420, q421, q422, q423, f420, f421, f422, f423, z42⟩ := O4_2.out
  have HB4 := Lib.hid hb4
  clear hb4
  go_wp2_with fail
  exact bodyPost_ret (v := .tuple #[opV st c v d, .int .i64 1]) (by simp [results, Tryd.results12, go_sem, *]) rfl ⟨rfl, ((((((bl3 _ _ _ _).trans ((((HB1.out.trans (HB2.out.mono HB1.out.size)).trans (HB3.out.mono (Nat.le_trans HB1.out.size HB2.out.size))).trans (HB4.out.mono (Nat.le_trans (Nat.le_trans HB1.out.size HB2.out.size) HB3.out.size))).mono (by simp; omega))).setCell (by simp) _).setCell (by simp) _).setCell (by simp) _).setCell (by simp) _)⟩
set_option maxHeartbeats 400000 in
theorem rsettle_6 (st c : Int) (v : ByteArray) (d : Int) (st' c' : Int) (v' : ByteArray) (d' : Int) (w : World) (hr : rightB st c v d = true) (ht' : termB st' = true) (hr' : rightB st' c' v' d' = true) (ht : termB st = false) (h5 : (st' == 5) = true) (h1 : (st == 1) = false) :
    Calls Tryd.prog 12 #[opV st c v d, .int .i64 st', .int .i64 c', .string v', .int .i64 d'] w fun e w' => e = .returned (.tuple #[opV st' c' v' d', .int .i64 0]) ∧ Below w.heap.size w w' := by
  go_enter Tryd.func12, Tryd.ntmps12
  go_wp2_with fail
  refine (right_any st c v d _).mono ?_
  rintro e w1 ⟨rfl, hb1⟩
  have O1_0 := Lib.hid ((((Own4.new w _ _ _ _ _).alloc _).alloc _).below hb1)
  obtain ⟨q100, q101, q102, q103, f100, f101, f102, f103, z10⟩ := O1_0.out
  have O1_1 := Lib.hid (((Own4.new1 w _ _ _ _ _ _).alloc _).below hb1)
  obtain ⟨q110, q111, q112, q113, f110, f111, f112, f113, z11⟩ := O1_1.out
  have O1_2 := Lib.hid ((Own4.new2 w _ _ _ _ _ _ _).below hb1)
  obtain ⟨q120, q121, q122, q123, f120, f121, f122, f123, z12⟩ := O1_2.out
  have HB1 := Lib.hid hb1
  clear hb1
  go_wp2_with fail
  refine (rterm_any st' _).mono ?_
  rintro e w2 ⟨rfl, hb2⟩
  have O2_0 := Lib.hid ((O1_0.out).below hb2)
  obtain ⟨q200, q201, q202, q203, f200, f201, f202, f203, z20⟩ := O2_0.out
  have O2_1 := Lib.hid ((O1_1.out).below hb2)
  obtain ⟨q210, q211, q212, q213, f210, f211, f212, f213, z21⟩ := O2_1.out
  have O2_2 := Lib.hid ((O1_2.out).below hb2)
  obtain ⟨q220, q221, q222, q223, f220, f221, f222, f223, z22⟩ := O2_2.out
  have HB2 := Lib.hid hb2
  clear hb2
  go_wp2_with fail
  refine (right_any st' c' v' d' _).mono ?_
  rintro e w3 ⟨rfl, hb3⟩
  have O3_0 := Lib.hid ((O2_0.out).below hb3)
  obtain ⟨q300, q301, q302, q303, f300, f301, f302, f303, z30⟩ := O3_0.out
  have O3_1 := Lib.hid ((O2_1.out).below hb3)
  obtain ⟨q310, q311, q312, q313, f310, f311, f312, f313, z31⟩ := O3_1.out
  have O3_2 := Lib.hid ((O2_2.out).below hb3)
  obtain ⟨q320, q321, q322, q323, f320, f321, f322, f323, z32⟩ := O3_2.out
  have HB3 := Lib.hid hb3
  clear hb3
  go_wp2_with fail
  refine (rterm_any st _).mono ?_
  rintro e w4 ⟨rfl, hb4⟩
  have O4_0 := Lib.hid ((O3_0.out).below hb4)
  obtain ⟨q400, q401, q402, q403, f400, f401, f402, f403, z40⟩ := O4_0.out
  have O4_1 := Lib.hid ((O3_1.out).below hb4)
  obtain ⟨q410, q411, q412, q413, f410, f411, f412, f413, z41⟩ := O4_1.out
  have O4_2 := Lib.hid ((O3_2.out).below hb4)
  obtain ⟨q420, q421, q422, q423, f420, f421, f422, f423, z42⟩ := O4_2.out
  have HB4 := Lib.hid hb4
  clear hb4
  go_wp2_with fail
  exact bodyPost_ret (v := .tuple #[opV st' c' v' d', .int .i64 0]) (by simp [results, Tryd.results12, go_sem, *]) rfl ⟨rfl, ((((((bl3 _ _ _ _).trans ((((HB1.out.trans (HB2.out.mono HB1.out.size)).trans (HB3.out.mono (Nat.le_trans HB1.out.size HB2.out.size))).trans (HB4.out.mono (Nat.le_trans (Nat.le_trans HB1.out.size HB2.out.size) HB3.out.size))).mono (by simp; omega))).setCell (by simp) _).setCell (by simp) _).setCell (by simp) _).setCell (by simp) _)⟩
set_option maxHeartbeats 400000 in
theorem rsettle_7 (st c : Int) (v : ByteArray) (d : Int) (st' c' : Int) (v' : ByteArray) (d' : Int) (w : World) (hr : rightB st c v d = true) (ht' : termB st' = true) (hr' : rightB st' c' v' d' = true) (ht : termB st = false) (h5 : (st' == 5) = false) :
    Calls Tryd.prog 12 #[opV st c v d, .int .i64 st', .int .i64 c', .string v', .int .i64 d'] w fun e w' => e = .returned (.tuple #[opV st' c' v' d', .int .i64 0]) ∧ Below w.heap.size w w' := by
  go_enter Tryd.func12, Tryd.ntmps12
  go_wp2_with fail
  refine (right_any st c v d _).mono ?_
  rintro e w1 ⟨rfl, hb1⟩
  have O1_0 := Lib.hid ((((Own4.new w _ _ _ _ _).alloc _).alloc _).below hb1)
  obtain ⟨q100, q101, q102, q103, f100, f101, f102, f103, z10⟩ := O1_0.out
  have O1_1 := Lib.hid (((Own4.new1 w _ _ _ _ _ _).alloc _).below hb1)
  obtain ⟨q110, q111, q112, q113, f110, f111, f112, f113, z11⟩ := O1_1.out
  have O1_2 := Lib.hid ((Own4.new2 w _ _ _ _ _ _ _).below hb1)
  obtain ⟨q120, q121, q122, q123, f120, f121, f122, f123, z12⟩ := O1_2.out
  have HB1 := Lib.hid hb1
  clear hb1
  go_wp2_with fail
  refine (rterm_any st' _).mono ?_
  rintro e w2 ⟨rfl, hb2⟩
  have O2_0 := Lib.hid ((O1_0.out).below hb2)
  obtain ⟨q200, q201, q202, q203, f200, f201, f202, f203, z20⟩ := O2_0.out
  have O2_1 := Lib.hid ((O1_1.out).below hb2)
  obtain ⟨q210, q211, q212, q213, f210, f211, f212, f213, z21⟩ := O2_1.out
  have O2_2 := Lib.hid ((O1_2.out).below hb2)
  obtain ⟨q220, q221, q222, q223, f220, f221, f222, f223, z22⟩ := O2_2.out
  have HB2 := Lib.hid hb2
  clear hb2
  go_wp2_with fail
  refine (right_any st' c' v' d' _).mono ?_
  rintro e w3 ⟨rfl, hb3⟩
  have O3_0 := Lib.hid ((O2_0.out).below hb3)
  obtain ⟨q300, q301, q302, q303, f300, f301, f302, f303, z30⟩ := O3_0.out
  have O3_1 := Lib.hid ((O2_1.out).below hb3)
  obtain ⟨q310, q311, q312, q313, f310, f311, f312, f313, z31⟩ := O3_1.out
  have O3_2 := Lib.hid ((O2_2.out).below hb3)
  obtain ⟨q320, q321, q322, q323, f320, f321, f322, f323, z32⟩ := O3_2.out
  have HB3 := Lib.hid hb3
  clear hb3
  go_wp2_with fail
  refine (rterm_any st _).mono ?_
  rintro e w4 ⟨rfl, hb4⟩
  have O4_0 := Lib.hid ((O3_0.out).below hb4)
  obtain ⟨q400, q401, q402, q403, f400, f401, f402, f403, z40⟩ := O4_0.out
  have O4_1 := Lib.hid ((O3_1.out).below hb4)
  obtain ⟨q410, q411, q412, q413, f410, f411, f412, f413, z41⟩ := O4_1.out
  have O4_2 := Lib.hid ((O3_2.out).below hb4)
  obtain ⟨q420, q421, q422, q423, f420, f421, f422, f423, z42⟩ := O4_2.out
  have HB4 := Lib.hid hb4
  clear hb4
  go_wp2_with fail
  exact bodyPost_ret (v := .tuple #[opV st' c' v' d', .int .i64 0]) (by simp [results, Tryd.results12, go_sem, *]) rfl ⟨rfl, ((((((bl3 _ _ _ _).trans ((((HB1.out.trans (HB2.out.mono HB1.out.size)).trans (HB3.out.mono (Nat.le_trans HB1.out.size HB2.out.size))).trans (HB4.out.mono (Nat.le_trans (Nat.le_trans HB1.out.size HB2.out.size) HB3.out.size))).mono (by simp; omega))).setCell (by simp) _).setCell (by simp) _).setCell (by simp) _).setCell (by simp) _)⟩
end Go.Proofs.YtfnfbnfjgpfmfaaDoor
