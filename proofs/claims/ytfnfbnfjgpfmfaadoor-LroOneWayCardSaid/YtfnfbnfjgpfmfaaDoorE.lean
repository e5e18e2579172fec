/-
  What is proved here: 'lro.Settle', for every operation and end, under 'RulesAt'.
-/
import Derived.Test.YtfnfbnfjgpfmfaaDoorD
namespace Go.Proofs.YtfnfbnfjgpfmfaaDoor
open Go.RowKit

theorem Own4.new2 (w : World) (o o' : Obj) (x0 x1 x2 x3 : Value) (T : TypeId) : Own4 (((w.alloc o).alloc o').alloc (.cells #[x0, x1, x2, x3] T)) (w.heap.size + 2) x0 x1 x2 x3 := by
  have h := Own4.new1 (w.alloc o) o' x0 x1 x2 x3 T
  rwa [show (w.alloc o).heap.size + 1 = w.heap.size + 2 by simp] at h

/-- Settle: its error -/
def setE (st c : Int) (v : ByteArray) (d : Int) (st' c' : Int) (v' : ByteArray) (d' : Int) : Int :=
  if rightB st c v d && rightB st' c' v' d' && termB st' then (if termB st then 202 else if mayB st st' then 0 else 1) else 1
/-- Settle: the operation behind it -/
def setV (st c : Int) (v : ByteArray) (d : Int) (st' c' : Int) (v' : ByteArray) (d' : Int) : Value :=
  if setE st c v d st' c' v' d' = 0 then opV st' c' v' d' else opV st c v d

set_option maxHeartbeats 400000 in
theorem settle_1 (st c : Int) (v : ByteArray) (d : Int) (st' c' : Int) (v' : ByteArray) (d' : Int) (w : World) (b1 o1 b2 o2 : Nat) (h : RulesAt w b1 o1 b2 o2) (hk : chk st c v d = 1) :
    Calls Tryd.prog 9 #[opV st c v d, .int .i64 st', .int .i64 c', .string v', .int .i64 d'] w fun e w' => e = .returned (.tuple #[opV st c v d, .int .i64 1]) ∧ Below w.heap.size w w' := by
  have H := Lib.hid h
  clear h
  go_enter Tryd.func9, Tryd.ntmps9
  go_wp2_with fail
  refine (check_any st c v d _ b1 o1 b2 o2 (H.out.below (bl3 _ _ _ _))).mono ?_
  rintro e w1 ⟨rfl, hb1⟩
  have O1_0 := Lib.hid ((((Own4.new w _ _ _ _ _).alloc _).alloc _).below hb1)
  obtain ⟨q100, q101, q102, q103, f100, f101, f102, f103, z10⟩ := O1_0.out
  have O1_1 := Lib.hid (((Own4.new1 w _ _ _ _ _ _).alloc _).below hb1)
  obtain ⟨q110, q111, q112, q113, f110, f111, f112, f113, z11⟩ := O1_1.out
  have O1_2 := Lib.hid ((Own4.new2 w _ _ _ _ _ _ _).below hb1)
  obtain ⟨q120, q121, q122, q123, f120, f121, f122, f123, z12⟩ := O1_2.out
  have HR1 := Lib.hid ((H.out.below (bl3 _ _ _ _)).below hb1)
  have HB1 := Lib.hid hb1
  clear hb1
  go_wp2_with fail
  exact bodyPost_ret (v := .tuple #[opV st c v d, .int .i64 1]) (by simp [results, Tryd.results9, go_sem, *]) rfl ⟨rfl, ((((((bl3 _ _ _ _).trans (HB1.out.mono (by simp; omega))).setCell (by simp) _).setCell (by simp) _).setCell (by simp) _).setCell (by simp) _)⟩
set_option maxHeartbeats 400000 in
theorem settle_2 (st c : Int) (v : ByteArray) (d : Int) (st' c' : Int) (v' : ByteArray) (d' : Int) (w : World) (b1 o1 b2 o2 : Nat) (h : RulesAt w b1 o1 b2 o2) (hk : chk st c v d = 0) (hk' : chk st' c' v' d' = 1) :
    Calls Tryd.prog 9 #[opV st c v d, .int .i64 st', .int .i64 c', .string v', .int .i64 d'] w fun e w' => e = .returned (.tuple #[opV st c v d, .int .i64 1]) ∧ Below w.heap.size w w' := by
  have H := Lib.hid h
  clear h
  go_enter Tryd.func9, Tryd.ntmps9
  go_wp2_with fail
  refine (check_any st c v d _ b1 o1 b2 o2 (H.out.below (bl3 _ _ _ _))).mono ?_
  rintro e w1 ⟨rfl, hb1⟩
  have O1_0 := Lib.hid ((((Own4.new w _ _ _ _ _).alloc _).alloc _).below hb1)
  obtain ⟨q100, q101, q102, q103, f100, f101, f102, f103, z10⟩ := O1_0.out
  have O1_1 := Lib.hid (((Own4.new1 w _ _ _ _ _ _).alloc _).below hb1)
  obtain ⟨q110, q111, q112, q113, f110, f111, f112, f113, z11⟩ := O1_1.out
  have O1_2 := Lib.hid ((Own4.new2 w _ _ _ _ _ _ _).below hb1)
  obtain ⟨q120, q121, q122, q123, f120, f121, f122, f123, z12⟩ := O1_2.out
  have HR1 := Lib.hid ((H.out.below (bl3 _ _ _ _)).below hb1)
  have HB1 := Lib.hid hb1
  clear hb1
  go_wp2_with fail
  refine (check_any st' c' v' d' _ b1 o1 b2 o2 HR1.out).mono ?_
  rintro e w2 ⟨rfl, hb2⟩
  have O2_0 := Lib.hid ((O1_0.out).below hb2)
  obtain ⟨q200, q201, q202, q203, f200, f201, f202, f203, z20⟩ := O2_0.out
  have O2_1 := Lib.hid ((O1_1.out).below hb2)
  obtain ⟨q210, q211, q212, q213, f210, f211, f212, f213, z21⟩ := O2_1.out
  have O2_2 := Lib.hid ((O1_2.out).below hb2)
  obtain ⟨q220, q221, q222, q223, f220, f221, f222, f223, z22⟩ := O2_2.out
  have HR2 := Lib.hid (HR1.out.below hb2)
  have HB2 := Lib.hid hb2
  clear hb2
  go_wp2_with fail
  exact bodyPost_ret (v := .tuple #[opV st c v d, .int .i64 1]) (by simp [results, Tryd.results9, go_sem, *]) rfl ⟨rfl, ((((((bl3 _ _ _ _).trans ((HB1.out.trans (HB2.out.mono HB1.out.size)).mono (by simp; omega))).setCell (by simp) _).setCell (by simp) _).setCell (by simp) _).setCell (by simp) _)⟩
set_option maxHeartbeats 400000 in
theorem settle_3 (st c : Int) (v : ByteArray) (d : Int) (st' c' : Int) (v' : ByteArray) (d' : Int) (w : World) (b1 o1 b2 o2 : Nat) (h : RulesAt w b1 o1 b2 o2) (hk : chk st c v d = 0) (hk' : chk st' c' v' d' = 0) (ht' : termB st' = false) :
    Calls Tryd.prog 9 #[opV st c v d, .int .i64 st', .int .i64 c', .string v', .int .i64 d'] w fun e w' => e = .returned (.tuple #[opV st c v d, .int .i64 1]) ∧ Below w.heap.size w w' := by
  have H := Lib.hid h
  clear h
  go_enter Tryd.func9, Tryd.ntmps9
  go_wp2_with fail
  refine (check_any st c v d _ b1 o1 b2 o2 (H.out.below (bl3 _ _ _ _))).mono ?_
  rintro e w1 ⟨rfl, hb1⟩
  have O1_0 := Lib.hid ((((Own4.new w _ _ _ _ _).alloc _).alloc _).below hb1)
  obtain ⟨q100, q101, q102, q103, f100, f101, f102, f103, z10⟩ := O1_0.out
  have O1_1 := Lib.hid (((Own4.new1 w _ _ _ _ _ _).alloc _).below hb1)
  obtain ⟨q110, q111, q112, q113, f110, f111, f112, f113, z11⟩ := O1_1.out
  have O1_2 := Lib.hid ((Own4.new2 w _ _ _ _ _ _ _).below hb1)
  obtain ⟨q120, q121, q122, q123, f120, f121, f122, f123, z12⟩ := O1_2.out
  have HR1 := Lib.hid ((H.out.below (bl3 _ _ _ _)).below hb1)
  have HB1 := Lib.hid hb1
  clear hb1
  go_wp2_with fail
  refine (check_any st' c' v' d' _ b1 o1 b2 o2 HR1.out).mono ?_
  rintro e w2 ⟨rfl, hb2⟩
  have O2_0 := Lib.hid ((O1_0.out).below hb2)
  obtain ⟨q200, q201, q202, q203, f200, f201, f202, f203, z20⟩ := O2_0.out
  have O2_1 := Lib.hid ((O1_1.out).below hb2)
  obtain ⟨q210, q211, q212, q213, f210, f211, f212, f213, z21⟩ := O2_1.out
  have O2_2 := Lib.hid ((O1_2.out).below hb2)
  obtain ⟨q220, q221, q222, q223, f220, f221, f222, f223, z22⟩ := O2_2.out
  have HR2 := Lib.hid (HR1.out.below hb2)
  have HB2 := Lib.hid hb2
  clear hb2
  go_wp2_with fail
  refine (term_any st' c' v' d' _ b1 o1 b2 o2 HR2.out).mono ?_
  rintro e w3 ⟨rfl, hb3⟩
  have O3_0 := Lib.hid ((O2_0.out).below hb3)
  obtain ⟨q300, q301, q302, q303, f300, f301, f302, f303, z30⟩ := O3_0.out
  have O3_1 := Lib.hid ((O2_1.out).below hb3)
  obtain ⟨q310, q311, q312, q313, f310, f311, f312, f313, z31⟩ := O3_1.out
  have O3_2 := Lib.hid ((O2_2.out).below hb3)
  obtain ⟨q320, q321, q322, q323, f320, f321, f322, f323, z32⟩ := O3_2.out
  have HR3 := Lib.hid (HR2.out.below hb3)
  have HB3 := Lib.hid hb3
  clear hb3
  go_wp2_with fail
  exact bodyPost_ret (v := .tuple #[opV st c v d, .int .i64 1]) (by simp [results, Tryd.results9, go_sem, *]) rfl ⟨rfl, ((((((bl3 _ _ _ _).trans (((HB1.out.trans (HB2.out.mono HB1.out.size)).trans (HB3.out.mono (Nat.le_trans HB1.out.size HB2.out.size))).mono (by simp; omega))).setCell (by simp) _).setCell (by simp) _).setCell (by simp) _).setCell (by simp) _)⟩
set_option maxHeartbeats 400000 in
theorem settle_4 (st c : Int) (v : ByteArray) (d : Int) (st' c' : Int) (v' : ByteArray) (d' : Int) (w : World) (b1 o1 b2 o2 : Nat) (h : RulesAt w b1 o1 b2 o2) (hk : chk st c v d = 0) (hk' : chk st' c' v' d' = 0) (ht' : termB st' = true) (ht : termB st = true) :
    Calls Tryd.prog 9 #[opV st c v d, .int .i64 st', .int .i64 c', .string v', .int .i64 d'] w fun e w' => e = .returned (.tuple #[opV st c v d, .int .i64 202]) ∧ Below w.heap.size w w' := by
  have H := Lib.hid h
  clear h
  go_enter Tryd.func9, Tryd.ntmps9
  go_wp2_with fail
  refine (check_any st c v d _ b1 o1 b2 o2 (H.out.below (bl3 _ _ _ _))).mono ?_
  rintro e w1 ⟨rfl, hb1⟩
  have O1_0 := Lib.hid ((((Own4.new w _ _ _ _ _).alloc _).alloc _).below hb1)
  obtain ⟨q100, q101, q102, q103, f100, f101, f102, f103, z10⟩ := O1_0.out
  have O1_1 := Lib.hid (((Own4.new1 w _ _ _ _ _ _).alloc _).below hb1)
  obtain ⟨q110, q111, q112, q113, f110, f111, f112, f113, z11⟩ := O1_1.out
  have O1_2 := Lib.hid ((Own4.new2 w _ _ _ _ _ _ _).below hb1)
  obtain ⟨q120, q121, q122, q123, f120, f121, f122, f123, z12⟩ := O1_2.out
  have HR1 := Lib.hid ((H.out.below (bl3 _ _ _ _)).below hb1)
  have HB1 := Lib.hid hb1
  clear hb1
  go_wp2_with fail
  refine (check_any st' c' v' d' _ b1 o1 b2 o2 HR1.out).mono ?_
  rintro e w2 ⟨rfl, hb2⟩
  have O2_0 := Lib.hid ((O1_0.out).below hb2)
  obtain ⟨q200, q201, q202, q203, f200, f201, f202, f203, z20⟩ := O2_0.out
  have O2_1 := Lib.hid ((O1_1.out).below hb2)
  obtain ⟨q210, q211, q212, q213, f210, f211, f212, f213, z21⟩ := O2_1.out
  have O2_2 := Lib.hid ((O1_2.out).below hb2)
  obtain ⟨q220, q221, q222, q223, f220, f221, f222, f223, z22⟩ := O2_2.out
  have HR2 := Lib.hid (HR1.out.below hb2)
  have HB2 := Lib.hid hb2
  clear hb2
  go_wp2_with fail
  refine (term_any st' c' v' d' _ b1 o1 b2 o2 HR2.out).mono ?_
  rintro e w3 ⟨rfl, hb3⟩
  have O3_0 := Lib.hid ((O2_0.out).below hb3)
  obtain ⟨q300, q301, q302, q303, f300, f301, f302, f303, z30⟩ := O3_0.out
  have O3_1 := Lib.hid ((O2_1.out).below hb3)
  obtain ⟨q310, q311, q312, q313, f310, f311, f312, f313, z31⟩ := O3_1.out
  have O3_2 := Lib.hid ((O2_2.out).below hb3)
  obtain ⟨q320, q321, q322, q323, f320, f321, f322, f323, z32⟩ := O3_2.out
  have HR3 := Lib.hid (HR2.out.below hb3)
  have HB3 := Lib.hid hb3
  clear hb3
  go_wp2_with fail
  refine (term_any st c v d _ b1 o1 b2 o2 HR3.out).mono ?_
  rintro e w4 ⟨rfl, hb4⟩
  have O4_0 := Lib.hid ((O3_0.out).below hb4)
  obtain ⟨q400, q401, q402, q403, f400, f401, f402, f403, z40⟩ := O4_0.out
  have O4_1 := Lib.hid ((O3_1.out).below hb4)
  obtain ⟨q410, q411, q412, q413, f410, f411, f412, f413, z41⟩ := O4_1.out
  have O4_2 := Lib.hid ((O3_2.out).below hb4)
  obtain ⟨q420, q421, q422, q423, f420, f421, f422, f423, z42⟩ := O4_2.out
  have HR4 := Lib.hid (HR3.out.below hb4)
  have HB4 := Lib.hid hb4
  clear hb4
  go_wp2_with fail
  exact bodyPost_ret (v := .tuple #[opV st c v d, .int .i64 202]) (by simp [results, Tryd.results9, go_sem, *]) rfl ⟨rfl, ((((((bl3 _ _ _ _).trans ((((HB1.out.trans (HB2.out.mono HB1.out.size)).trans (HB3.out.mono (Nat.le_trans HB1.out.size HB2.out.size))).trans (HB4.out.mono (Nat.le_trans (Nat.le_trans HB1.out.size HB2.out.size) HB3.out.size))).mono (by simp; omega))).setCell (by simp) _).setCell (by simp) _).setCell (by simp) _).setCell (by simp) _)⟩
set_option maxHeartbeats 400000 in
theorem settle_5 (st c : Int) (v : ByteArray) (d : Int) (st' c' : Int) (v' : ByteArray) (d' : Int) (w : World) (b1 o1 b2 o2 : Nat) (h : RulesAt w b1 o1 b2 o2) (hk : chk st c v d = 0) (hk' : chk st' c' v' d' = 0) (ht' : termB st' = true) (ht : termB st = false) (hm : mayB st st' = false) :
    Calls Tryd.prog 9 #[opV st c v d, .int .i64 st', .int .i64 c', .string v', .int .i64 d'] w fun e w' => e = .returned (.tuple #[opV st c v d, .int .i64 1]) ∧ Below w.heap.size w w' := by
  have H := Lib.hid h
  clear h
  go_enter Tryd.func9, Tryd.ntmps9
  go_wp2_with fail
  refine (check_any st c v d _ b1 o1 b2 o2 (H.out.below (bl3 _ _ _ _))).mono ?_
  rintro e w1 ⟨rfl, hb1⟩
  have O1_0 := Lib.hid ((((Own4.new w _ _ _ _ _).alloc _).alloc _).below hb1)
  obtain ⟨q100, q101, q102, q103, f100, f101, f102, f103, z10⟩ := O1_0.out
  have O1_1 := Lib.hid (((Own4.new1 w _ _ _ _ _ _).alloc _).below hb1)
  obtain ⟨q110, q111, q112, q113, f110, f111, f112, f113, z11⟩ := O1_1.out
  have O1_2 := Lib.hid ((Own4.new2 w _ _ _ _ _ _ _).below hb1)
  obtain ⟨q120, q121, q122, q123, f120, f121, f122, f123, z12⟩ := O1_2.out
  have HR1 := Lib.hid ((H.out.below (bl3 _ _ _ _)).below hb1)
  have HB1 := Lib.hid hb1
  clear hb1
  go_wp2_with fail
  refine (check_any st' c' v' d' _ b1 o1 b2 o2 HR1.out).mono ?_
  rintro e w2 ⟨rfl, hb2⟩
  have O2_0 := Lib.hid ((O1_0.out).below hb2)
  obtain ⟨q200, q201, q202, q203, f200, f201, f202, f203, z20⟩ := O2_0.out
  have O2_1 := Lib.hid ((O1_1.out).below hb2)
  obtain ⟨q210, q211, q212, q213, f210, f211, f212, f213, z21⟩ := O2_1.out
  have O2_2 := Lib.hid ((O1_2.out).below hb2)
  obtain ⟨q220, q221, q222, q223, f220, f221, f222, f223, z22⟩ := O2_2.out
  have HR2 := Lib.hid (HR1.out.below hb2)
  have HB2 := Lib.hid hb2
  clear hb2
  go_wp2_with fail
  refine (term_any st' c' v' d' _ b1 o1 b2 o2 HR2.out).mono ?_
  rintro e w3 ⟨rfl, hb3⟩
  have O3_0 := Lib.hid ((O2_0.out).below hb3)
  obtain ⟨q300, q301, q302, q303, f300, f301, f302, f303, z30⟩ := O3_0.out
  have O3_1 := Lib.hid ((O2_1.out).below hb3)
  obtain ⟨q310, q311, q312, q313, f310, f311, f312, f313, z31⟩ := O3_1.out
  have O3_2 := Lib.hid ((O2_2.out).below hb3)
  obtain ⟨q320, q321, q322, q323, f320, f321, f322, f323, z32⟩ := O3_2.out
  have HR3 := Lib.hid (HR2.out.below hb3)
  have HB3 := Lib.hid hb3
  clear hb3
  go_wp2_with fail
  refine (term_any st c v d _ b1 o1 b2 o2 HR3.out).mono ?_
  rintro e w4 ⟨rfl, hb4⟩
  have O4_0 := Lib.hid ((O3_0.out).below hb4)
  obtain ⟨q400, q401, q402, q403, f400, f401, f402, f403, z40⟩ := O4_0.out
  have O4_1 := Lib.hid ((O3_1.out).below hb4)
  obtain ⟨q410, q411, q412, q413, f410, f411, f412, f413, z41⟩ := O4_1.out
  have O4_2 := Lib.hid ((O3_2.out).below hb4)
  obtain ⟨q420, q421, q422, q423, f420, f421, f422, f423, z42⟩ := O4_2.out
  have HR4 := Lib.hid (HR3.out.below hb4)
  have HB4 := Lib.hid hb4
  clear hb4
  go_wp2_with fail
  refine (may_any st st' _ b1 o1 b2 o2 HR4.out).mono ?_
  rintro e w5 ⟨rfl, hb5⟩
  have O5_0 := Lib.hid ((O4_0.out).below hb5)
  obtain ⟨q500, q501, q502, q503, f500, f501, f502, f503, z50⟩ := O5_0.out
  have O5_1 := Lib.hid ((O4_1.out).below hb5)
  obtain ⟨q510, q511, q512, q513, f510, f511, f512, f513, z51⟩ := O5_1.out
  have O5_2 := Lib.hid ((O4_2.out).below hb5)
  obtain ⟨q520, q521, q522, q523, f520, f521, f522, f523, z52⟩ := O5_2.out
  have HR5 := Lib.hid (HR4.out.below hb5)
  have HB5 := Lib.hid hb5
  clear hb5
  go_wp2_with fail
  exact bodyPost_ret (v := .tuple #[opV st c v d, .int .i64 1]) (by simp [results, Tryd.results9, go_sem, *]) rfl ⟨rfl, ((((((bl3 _ _ _ _).trans (((((HB1.out.trans (HB2.out.mono HB1.out.size)).trans (HB3.out.mono (Nat.le_trans HB1.out.size HB2.out.size))).trans (HB4.out.mono (Nat.le_trans (Nat.le_trans HB1.out.size HB2.out.size) HB3.out.size))).trans (HB5.out.mono (Nat.le_trans (Nat.le_trans (Nat.le_trans HB1.out.size HB2.out.size) HB3.out.size) HB4.out.size))).mono (by simp; omega))).setCell (by simp) _).setCell (by simp) _).setCell (by simp) _).setCell (by simp) _)⟩
set_option maxHeartbeats 400000 in
theorem settle_6 (st c : Int) (v : ByteArray) (d : Int) (st' c' : Int) (v' : ByteArray) (d' : Int) (w : World) (b1 o1 b2 o2 : Nat) (h : RulesAt w b1 o1 b2 o2) (hk : chk st c v d = 0) (hk' : chk st' c' v' d' = 0) (ht' : termB st' = true) (ht : termB st = false) (hm : mayB st st' = true) :
    Calls Tryd.prog 9 #[opV st c v d, .int .i64 st', .int .i64 c', .string v', .int .i64 d'] w fun e w' => e = .returned (.tuple #[opV st' c' v' d', .int .i64 0]) ∧ Below w.heap.size w w' := by
  have H := Lib.hid h
  clear h
  go_enter Tryd.func9, Tryd.ntmps9
  go_wp2_with fail
  refine (check_any st c v d _ b1 o1 b2 o2 (H.out.below (bl3 _ _ _ _))).mono ?_
  rintro e w1 ⟨rfl, hb1⟩
  have O1_0 := Lib.hid ((((Own4.new w _ _ _ _ _).alloc _).alloc _).below hb1)
  obtain ⟨q100, q101, q102, q103, f100, f101, f102, f103, z10⟩ := O1_0.out
  have O1_1 := Lib.hid (((Own4.new1 w _ _ _ _ _ _).alloc _).below hb1)
  obtain ⟨q110, q111, q112, q113, f110, f111, f112, f113, z11⟩ := O1_1.out
  have O1_2 := Lib.hid ((Own4.new2 w _ _ _ _ _ _ _).below hb1)
  obtain ⟨q120, q121, q122, q123, f120, f121, f122, f123, z12⟩ := O1_2.out
  have HR1 := Lib.hid ((H.out.below (bl3 _ _ _ _)).below hb1)
  have HB1 := Lib.hid hb1
  clear hb1
  go_wp2_with fail
  refine (check_any st' c' v' d' _ b1 o1 b2 o2 HR1.out).mono ?_
  rintro e w2 ⟨rfl, hb2⟩
  have O2_0 := Lib.hid ((O1_0.out).below hb2)
  obtain ⟨q200, q201, q202, q203, f200, f201, f202, f203, z20⟩ := O2_0.out
  have O2_1 := Lib.hid ((O1_1.out).below hb2)
  obtain ⟨q210, q211, q212, q213, f210, f211, f212, f213, z21⟩ := O2_1.out
  have O2_2 := Lib.hid ((O1_2.out).below hb2)
  obtain ⟨q220, q221, q222, q223, f220, f221, f222, f223, z22⟩ := O2_2.out
  have HR2 := Lib.hid (HR1.out.below hb2)
  have HB2 := Lib.hid hb2
  clear hb2
  go_wp2_with fail
  refine (term_any st' c' v' d' _ b1 o1 b2 o2 HR2.out).mono ?_
  rintro e w3 ⟨rfl, hb3⟩
  have O3_0 := Lib.hid ((O2_0.out).below hb3)
  obtain ⟨q300, q301, q302, q303, f300, f301, f302, f303, z30⟩ := O3_0.out
  have O3_1 := Lib.hid ((O2_1.out).below hb3)
  obtain ⟨q310, q311, q312, q313, f310, f311, f312, f313, z31⟩ := O3_1.out
  have O3_2 := Lib.hid ((O2_2.out).below hb3)
  obtain ⟨q320, q321, q322, q323, f320, f321, f322, f323, z32⟩ := O3_2.out
  have HR3 := Lib.hid (HR2.out.below hb3)
  have HB3 := Lib.hid hb3
  clear hb3
  go_wp2_with fail
  refine (term_any st c v d _ b1 o1 b2 o2 HR3.out).mono ?_
  rintro e w4 ⟨rfl, hb4⟩
  have O4_0 := Lib.hid ((O3_0.out).below hb4)
  obtain ⟨q400, q401, q402, q403, f400, f401, f402, f403, z40⟩ := O4_0.out
  have O4_1 := Lib.hid ((O3_1.out).below hb4)
  obtain ⟨q410, q411, q412, q413, f410, f411, f412, f413, z41⟩ := O4_1.out
  have O4_2 := Lib.hid ((O3_2.out).below hb4)
  obtain ⟨q420, q421, q422, q423, f420, f421, f422, f423, z42⟩ := O4_2.out
  have HR4 := Lib.hid (HR3.out.below hb4)
  have HB4 := Lib.hid hb4
  clear hb4
  go_wp2_with fail
  refine (may_any st st' _ b1 o1 b2 o2 HR4.out).mono ?_
  rintro e w5 ⟨rfl, hb5⟩
  have O5_0 := Lib.hid ((O4_0.out).below hb5)
  obtain ⟨q500, q501, q502, q503, f500, f501, f502, f503, z50⟩ := O5_0.out
  have O5_1 := Lib.hid ((O4_1.out).below hb5)
  obtain ⟨q510, q511, q512, q513, f510, f511, f512, f513, z51⟩ := O5_1.out
  have O5_2 := Lib.hid ((O4_2.out).below hb5)
  obtain ⟨q520, q521, q522, q523, f520, f521, f522, f523, z52⟩ := O5_2.out
  have HR5 := Lib.hid (HR4.out.below hb5)
  have HB5 := Lib.hid hb5
  clear hb5
  go_wp2_with fail
  exact bodyPost_ret (v := .tuple #[opV st' c' v' d', .int .i64 0]) (by simp [results, Tryd.results9, go_sem, *]) rfl ⟨rfl, ((((((bl3 _ _ _ _).trans (((((HB1.out.trans (HB2.out.mono HB1.out.size)).trans (HB3.out.mono (Nat.le_trans HB1.out.size HB2.out.size))).trans (HB4.out.mono (Nat.le_trans (Nat.le_trans HB1.out.size HB2.out.size) HB3.out.size))).trans (HB5.out.mono (Nat.le_trans (Nat.le_trans (Nat.le_trans HB1.out.size HB2.out.size) HB3.out.size) HB4.out.size))).mono (by simp; omega))).setCell (by simp) _).setCell (by simp) _).setCell (by simp) _).setCell (by simp) _)⟩

theorem settle_any (st c : Int) (v : ByteArray) (d : Int) (st' c' : Int) (v' : ByteArray) (d' : Int) (w : World) (b1 o1 b2 o2 : Nat) (h : RulesAt w b1 o1 b2 o2) :
    Calls Tryd.prog 9 #[opV st c v d, .int .i64 st', .int .i64 c', .string v', .int .i64 d'] w fun e w' => e = .returned (.tuple #[setV st c v d st' c' v' d', .int .i64 (setE st c v d st' c' v' d')]) ∧ Below w.heap.size w w' := by
  have fin : ∀ (E : Int) (V : Value), (setE st c v d st' c' v' d' = E) → (setV st c v d st' c' v' d' = V) → Calls Tryd.prog 9 #[opV st c v d, .int .i64 st', .int .i64 c', .string v', .int .i64 d'] w (fun e w' => e = .returned (.tuple #[V, .int .i64 E]) ∧ Below w.heap.size w w') → Calls Tryd.prog 9 #[opV st c v d, .int .i64 st', .int .i64 c', .string v', .int .i64 d'] w (fun e w' => e = .returned (.tuple #[setV st c v d st' c' v' d', .int .i64 (setE st c v d st' c' v' d')]) ∧ Below w.heap.size w w') := by
    intro E V h1 h2 h3
    rw [h1, h2]; exact h3
  rcases chk_01 st c v d with hk | hk
  · rcases chk_01 st' c' v' d' with hk' | hk'
    · cases ht' : termB st'
      · exact fin 1 (opV st c v d) (by simp [setE, chk_0 hk, chk_0 hk', ht']) (by simp [setV, setE, chk_0 hk, chk_0 hk', ht']) (settle_3 st c v d st' c' v' d' w b1 o1 b2 o2 h hk hk' ht')
      · cases ht : termB st
        · cases hm : mayB st st'
          · exact fin 1 (opV st c v d) (by simp [setE, chk_0 hk, chk_0 hk', ht', ht, hm]) (by simp [setV, setE, chk_0 hk, chk_0 hk', ht', ht, hm]) (settle_5 st c v d st' c' v' d' w b1 o1 b2 o2 h hk hk' ht' ht hm)
          · exact fin 0 (opV st' c' v' d') (by simp [setE, chk_0 hk, chk_0 hk', ht', ht, hm]) (by simp [setV, setE, chk_0 hk, chk_0 hk', ht', ht, hm]) (settle_6 st c v d st' c' v' d' w b1 o1 b2 o2 h hk hk' ht' ht hm)
        · exact fin 202 (opV st c v d) (by simp [setE, chk_0 hk, chk_0 hk', ht', ht]) (by simp [setV, setE, chk_0 hk, chk_0 hk', ht', ht]) (settle_4 st c v d st' c' v' d' w b1 o1 b2 o2 h hk hk' ht' ht)
    · exact fin 1 (opV st c v d) (by simp [setE, chk_0 hk, chk_1 hk']) (by simp [setV, setE, chk_0 hk, chk_1 hk']) (settle_2 st c v d st' c' v' d' w b1 o1 b2 o2 h hk hk')
  · exact fin 1 (opV st c v d) (by simp [setE, chk_1 hk]) (by simp [setV, setE, chk_1 hk]) (settle_1 st c v d st' c' v' d' w b1 o1 b2 o2 h hk)
end Go.Proofs.YtfnfbnfjgpfmfaaDoor
