/-
  'Append' at every disk: each way through.
-/
import Derived.Test.YtcohbfabcdjefaaGreatDoorH
import Derived.BigRegion
import Derived.BigQuiet
import Derived.Deep.QuietTactic
import Derived.Deep.RegionHeld3
namespace Go.Proofs.YtcohbfabcdjefaaGreatDoor
open Go.RowKit Go.Maps

theorem DAt.drewN {w : World} {b m : Nat} {d : Dk} (h : DAt w b m d) (n : Nat) : DAt (w.drewN n) b m d := ⟨h.c0, h.c1, h.c2, h.c3, h.f0, h.f1, h.f2, h.f3, h.lt, h.map⟩
theorem below_drewN {B : Nat} {a w : World} (h : Below B a w) (n : Nat) : Below B a (w.drewN n) := ⟨h.os, h.tape, h.output, h.size, h.block⟩

theorem append_down (w : World) (b m : Nat) (d : Dk) (s x : ByteArray) (h : DAt w b m d) (_hs : s.size ≤ maxLen) (_hx2 : x.size ≤ 1000000000000000) (hd : d.down = true) :
    Calls Tryz.prog 164 #[.pointer (some ⟨b, 0, none⟩), .string s, .string x] w fun e w' => e = .returned (.int .i64 7) ∧ Below w.heap.size w w' := by
  obtain ⟨W1, hW1⟩ : ∃ W1, W1 = (((w.alloc (.cells #[.pointer (some ⟨b, 0, none⟩)] 27)).alloc (.cells #[.string s] 9)).alloc (.cells #[.string x] 9)) := ⟨_, rfl⟩
  have hD1 : DAt W1 b m d := by rw [hW1]; exact (((h.below (bl1 _ _)).below (bl1 _ _)).below (bl1 _ _))
  have hB1 : Below w.heap.size w W1 := by rw [hW1]; exact bl3 _ _ _ _ 
  have hp : W1.cell? ⟨w.heap.size, 0, none⟩ = some (.pointer (some ⟨b, 0, none⟩)) := by rw [hW1]; simp [go_sem]
  have pf : W1.frozen? ⟨w.heap.size, 0, none⟩ = false := by rw [hW1]; simp [go_sem]
  have hq0 : W1.cell? ⟨w.heap.size + 1, 0, none⟩ = some (.string s) := by rw [hW1]; simp [go_sem]
  have ql0 : w.heap.size + 1 < W1.heap.size := by rw [hW1]; simp
  have hq1 : W1.cell? ⟨w.heap.size + 2, 0, none⟩ = some (.string x) := by rw [hW1]; simp [go_sem]
  have ql1 : w.heap.size + 2 < W1.heap.size := by rw [hW1]; simp
  have pl : w.heap.size < W1.heap.size := by rw [hW1]; simp; omega
  have hdn : W1.cell? ⟨b, 1, none⟩ = some (.bool true) := by rw [← hd]; exact hD1.c1
  have HB1 := Lib.hid hB1
  have HW := Lib.hid hW1.symm
  clear hD1 hB1 hW1 h hd
  go_enter Tryz.func164, Tryz.ntmps164
  go_wp2_with fail
  rw [HW.out]
  refine (off_down _ b hdn).mono ?_
  rintro e w1 ⟨rfl, rfl⟩
  go_wp2_with fail
  go_ret
  exact ⟨rfl, HB1.out⟩

theorem append_none (w : World) (b m : Nat) (d : Dk) (s x : ByteArray) (h : DAt w b m d) (hs : s.size ≤ maxLen) (_hx2 : x.size ≤ 1000000000000000) (hd : d.down = false) (hx : fget d.fs s.data.toList = none) :
    Calls Tryz.prog 164 #[.pointer (some ⟨b, 0, none⟩), .string s, .string x] w fun e w' => e = .returned (.int .i64 4) ∧ Below w.heap.size w w' := by
  obtain ⟨W1, hW1⟩ : ∃ W1, W1 = (((w.alloc (.cells #[.pointer (some ⟨b, 0, none⟩)] 27)).alloc (.cells #[.string s] 9)).alloc (.cells #[.string x] 9)) := ⟨_, rfl⟩
  have hD1 : DAt W1 b m d := by rw [hW1]; exact (((h.below (bl1 _ _)).below (bl1 _ _)).below (bl1 _ _))
  have hB1 : Below w.heap.size w W1 := by rw [hW1]; exact bl3 _ _ _ _ 
  have hp : W1.cell? ⟨w.heap.size, 0, none⟩ = some (.pointer (some ⟨b, 0, none⟩)) := by rw [hW1]; simp [go_sem]
  have pf : W1.frozen? ⟨w.heap.size, 0, none⟩ = false := by rw [hW1]; simp [go_sem]
  have hq0 : W1.cell? ⟨w.heap.size + 1, 0, none⟩ = some (.string s) := by rw [hW1]; simp [go_sem]
  have ql0 : w.heap.size + 1 < W1.heap.size := by rw [hW1]; simp
  have hq1 : W1.cell? ⟨w.heap.size + 2, 0, none⟩ = some (.string x) := by rw [hW1]; simp [go_sem]
  have ql1 : w.heap.size + 2 < W1.heap.size := by rw [hW1]; simp
  have pl : w.heap.size < W1.heap.size := by rw [hW1]; simp; omega
  have hdn : W1.cell? ⟨b, 1, none⟩ = some (.bool false) := by rw [← hd]; exact hD1.c1
  have c0 := hD1.c0
  have bl := hD1.lt
  have e1 := look_none hs hx W1.drew hD1.map
  have e2 := look_none hs hx (W1.alloc (.cells #[.string ⟨#[]⟩, .int .i64 0] 215)).drew (hD1.map.alloc _)
  have HD1 := Lib.hid hD1
  have HB1 := Lib.hid hB1
  have HW := Lib.hid hW1.symm
  have HX := Lib.hid hx
  clear hD1 hB1 hW1 h hd hx
  go_enter Tryz.func164, Tryz.ntmps164
  go_wp2_with fail
  rw [HW.out]
  refine (off_up _ b hdn).mono ?_
  rintro e w1 ⟨rfl, rfl⟩
  go_wp2_with fail
  go_region
  all_goals
    have hD2 : DAt (W1.alloc (.cells #[.string ⟨#[]⟩, .int .i64 0] 215)).drew b m d := (HD1.out.below (bl1 _ _)).drew
    have hB2 : Below w.heap.size w (W1.alloc (.cells #[.string ⟨#[]⟩, .int .i64 0] 215)).drew := (HB1.out.alloc HB1.out.size _).drew
    have HD2 := Lib.hid hD2
    have HB2 := Lib.hid hB2
    clear hD2 hB2 e1 e2
    go_wp2_with fail
    go_ret
    exact ⟨rfl, HB2.out⟩

theorem append_long (w : World) (b m : Nat) (d : Dk) (s x : ByteArray) (h : DAt w b m d) (hs : s.size ≤ maxLen) (hx2 : x.size ≤ 1000000000000000) (hd : d.down = false) (y : Fl) (hx : fget d.fs s.data.toList = some y) (hy : y.data.size ≤ 1048576) (hlong : 1048576 < y.data.size + x.size) :
    Calls Tryz.prog 164 #[.pointer (some ⟨b, 0, none⟩), .string s, .string x] w fun e w' => e = .returned (.int .i64 3) ∧ Below w.heap.size w w' := by
  obtain ⟨W1, hW1⟩ : ∃ W1, W1 = (((w.alloc (.cells #[.pointer (some ⟨b, 0, none⟩)] 27)).alloc (.cells #[.string s] 9)).alloc (.cells #[.string x] 9)) := ⟨_, rfl⟩
  have hD1 : DAt W1 b m d := by rw [hW1]; exact (((h.below (bl1 _ _)).below (bl1 _ _)).below (bl1 _ _))
  have hB1 : Below w.heap.size w W1 := by rw [hW1]; exact bl3 _ _ _ _ 
  have hp : W1.cell? ⟨w.heap.size, 0, none⟩ = some (.pointer (some ⟨b, 0, none⟩)) := by rw [hW1]; simp [go_sem]
  have pf : W1.frozen? ⟨w.heap.size, 0, none⟩ = false := by rw [hW1]; simp [go_sem]
  have hq0 : W1.cell? ⟨w.heap.size + 1, 0, none⟩ = some (.string s) := by rw [hW1]; simp [go_sem]
  have ql0 : w.heap.size + 1 < W1.heap.size := by rw [hW1]; simp
  have hq1 : W1.cell? ⟨w.heap.size + 2, 0, none⟩ = some (.string x) := by rw [hW1]; simp [go_sem]
  have ql1 : w.heap.size + 2 < W1.heap.size := by rw [hW1]; simp
  have pl : w.heap.size < W1.heap.size := by rw [hW1]; simp; omega
  have hdn : W1.cell? ⟨b, 1, none⟩ = some (.bool false) := by rw [← hd]; exact hD1.c1
  have c0 := hD1.c0
  have bl := hD1.lt
  have e1 := look_some hs hx W1.drew hD1.map
  have e2 := look_some hs hx (W1.alloc (.cells #[.string ⟨#[]⟩, .int .i64 0] 215)).drew (hD1.map.alloc _)
  have HD1 := Lib.hid hD1
  have HB1 := Lib.hid hB1
  have HW := Lib.hid hW1.symm
  have HX := Lib.hid hx
  clear hD1 hB1 hW1 h hd hx
  go_enter Tryz.func164, Tryz.ntmps164
  go_wp2_with fail
  rw [HW.out]
  refine (off_up _ b hdn).mono ?_
  rintro e w1 ⟨rfl, rfl⟩
  go_wp2_with fail
  go_region
  all_goals
    have hD2 : DAt (W1.alloc (.cells #[.string y.data, .int .i64 y.syn] 215)).drew b m d := (HD1.out.below (bl1 _ _)).drew
    have hB2 : Below w.heap.size w (W1.alloc (.cells #[.string y.data, .int .i64 y.syn] 215)).drew := (HB1.out.alloc HB1.out.size _).drew
    have HD2 := Lib.hid hD2
    have HB2 := Lib.hid hB2
    clear hD2 hB2 e1 e2
    have hgt : (1048576 : Int) < (y.data.size : Int) + x.size := by omega
    clear hlong
    go_wp2_with fail
    go_ret
    exact ⟨rfl, HB2.out⟩

theorem append_room_no (w : World) (b m : Nat) (d : Dk) (s x : ByteArray) (h : DAt w b m d) (hs : s.size ≤ maxLen) (hx2 : x.size ≤ 1000000000000000) (hd : d.down = false) (y : Fl) (hx : fget d.fs s.data.toList = some y) (hy : y.data.size ≤ 1048576) (hshort : y.data.size + x.size ≤ 1048576) (hroom : d.room < 0) (hlo : 0 ≤ d.fuse) (hhi : d.fuse ≤ 9223372036854775807) (hlen : d.fs.length ≤ 256) :
    Calls Tryz.prog 164 #[.pointer (some ⟨b, 0, none⟩), .string s, .string x] w fun e w' => e = .returned (.int .i64 (chgE d)) ∧ DAt w' b m (chg d (fun F => fput F s.data.toList ⟨y.data ++ x, y.syn⟩) true) ∧ But [b, m] w w' := by
  obtain ⟨W1, hW1⟩ : ∃ W1, W1 = (((w.alloc (.cells #[.pointer (some ⟨b, 0, none⟩)] 27)).alloc (.cells #[.string s] 9)).alloc (.cells #[.string x] 9)) := ⟨_, rfl⟩
  have hD1 : DAt W1 b m d := by rw [hW1]; exact (((h.below (bl1 _ _)).below (bl1 _ _)).below (bl1 _ _))
  have hB1 : Below w.heap.size w W1 := by rw [hW1]; exact bl3 _ _ _ _ 
  have hp : W1.cell? ⟨w.heap.size, 0, none⟩ = some (.pointer (some ⟨b, 0, none⟩)) := by rw [hW1]; simp [go_sem]
  have pf : W1.frozen? ⟨w.heap.size, 0, none⟩ = false := by rw [hW1]; simp [go_sem]
  have hq0 : W1.cell? ⟨w.heap.size + 1, 0, none⟩ = some (.string s) := by rw [hW1]; simp [go_sem]
  have ql0 : w.heap.size + 1 < W1.heap.size := by rw [hW1]; simp
  have hq1 : W1.cell? ⟨w.heap.size + 2, 0, none⟩ = some (.string x) := by rw [hW1]; simp [go_sem]
  have ql1 : w.heap.size + 2 < W1.heap.size := by rw [hW1]; simp
  have pl : w.heap.size < W1.heap.size := by rw [hW1]; simp; omega
  have hdn : W1.cell? ⟨b, 1, none⟩ = some (.bool false) := by rw [← hd]; exact hD1.c1
  have hlt := h.lt
  have c0 := hD1.c0
  have bl := hD1.lt
  have e1 := look_some hs hx W1.drew hD1.map
  have e2 := look_some hs hx (W1.alloc (.cells #[.string ⟨#[]⟩, .int .i64 0] 215)).drew (hD1.map.alloc _)
  have HD1 := Lib.hid hD1
  have HB1 := Lib.hid hB1
  have HW := Lib.hid hW1.symm
  have HX := Lib.hid hx
  clear hD1 hB1 hW1 h hd hx
  go_enter Tryz.func164, Tryz.ntmps164
  go_wp2_with fail
  rw [HW.out]
  refine (off_up _ b hdn).mono ?_
  rintro e w1 ⟨rfl, rfl⟩
  go_wp2_with fail
  go_region
  all_goals
    have hD2 : DAt (W1.alloc (.cells #[.string y.data, .int .i64 y.syn] 215)).drew b m d := (HD1.out.below (bl1 _ _)).drew
    have hB2 : Below w.heap.size w (W1.alloc (.cells #[.string y.data, .int .i64 y.syn] 215)).drew := (HB1.out.alloc HB1.out.size _).drew
    have HD2 := Lib.hid hD2
    have HB2 := Lib.hid hB2
    have HB2L := HD1.out.lt
    clear hD2 hB2 e1 e2
    have hx9 : x.size ≤ 1048576 := by omega
    have hgt : (y.data.size : Int) + x.size ≤ 1048576 := by omega
    clear hx2
    have k0 := HD2.out.c0
    have j3 := HD1.out.c3
    have hdr : decide ((0 : Int) ≤ d.room) = false := by rw [decide_eq_false_iff_not]; omega
    go_wp2_with fail
    go_quiet (fail)
    have hne : b ≠ W1.heap.size ∧ b ≠ W1.heap.size ∧ b ≠ w.heap.size + 2 ∧ b ≠ w.heap.size ∧ b ≠ w.heap.size + 1 := ⟨Nat.ne_of_lt HB2L, Nat.ne_of_lt HB2L, by omega, Nat.ne_of_lt hlt, by omega⟩
    have HNE := Lib.hid hne
    have hcap : (W1.alloc (.cells #[.string y.data, .int .i64 y.syn] 215)).drew.cell? ⟨W1.heap.size, 0, none⟩ = some (.string y.data) ∧ (W1.alloc (.cells #[.string y.data, .int .i64 y.syn] 215)).drew.cell? ⟨W1.heap.size, 1, none⟩ = some (.int .i64 y.syn) ∧ (W1.alloc (.cells #[.string y.data, .int .i64 y.syn] 215)).drew.cell? ⟨w.heap.size + 2, 0, none⟩ = some (.string x) ∧ (W1.alloc (.cells #[.string y.data, .int .i64 y.syn] 215)).drew.cell? ⟨w.heap.size, 0, none⟩ = some (.pointer (some ⟨b, 0, none⟩)) ∧ (W1.alloc (.cells #[.string y.data, .int .i64 y.syn] 215)).drew.cell? ⟨w.heap.size + 1, 0, none⟩ = some (.string s) := ⟨by simp [go_sem, *], by simp [go_sem, *], by simp [go_sem, *], by simp [go_sem, *], by simp [go_sem, *]⟩
    have HCAP := Lib.hid hcap
    clear hne hcap
    have k0 := HD2.out.c0
    go_wp2_with fail
    refine (change_Append _ b m (W1.heap.size) (w.heap.size + 2) (w.heap.size) (w.heap.size + 1) d (by exact (HD1.out.below (bl1 _ _)).drewN _) (fun F => fput F s.data.toList ⟨y.data ++ x, y.syn⟩) (fun W => W.cell? ⟨W1.heap.size, 0, none⟩ = some (.string y.data) ∧ W.cell? ⟨W1.heap.size, 1, none⟩ = some (.int .i64 y.syn) ∧ W.cell? ⟨w.heap.size + 2, 0, none⟩ = some (.string x) ∧ W.cell? ⟨w.heap.size, 0, none⟩ = some (.pointer (some ⟨b, 0, none⟩)) ∧ W.cell? ⟨w.heap.size + 1, 0, none⟩ = some (.string s)) (by exact HCAP.out) (fun W o v hC => ?_) (fun W d' hd' hfs hC => ?_) hlo hhi).mono ?_
    · exact ⟨(World.cell?_setCell_other _ _ _ _ (fun e => HNE.out.1 (by injection e))).trans hC.1, (World.cell?_setCell_other _ _ _ _ (fun e => HNE.out.2.1 (by injection e))).trans hC.2.1, (World.cell?_setCell_other _ _ _ _ (fun e => HNE.out.2.2.1 (by injection e))).trans hC.2.2.1, (World.cell?_setCell_other _ _ _ _ (fun e => HNE.out.2.2.2.1 (by injection e))).trans hC.2.2.2.1, (World.cell?_setCell_other _ _ _ _ (fun e => HNE.out.2.2.2.2 (by injection e))).trans hC.2.2.2.2⟩
    · exact append_fn W b m _ _ _ _ d' s x y hd' hs (by rw [hfs]; unfold maxLen; omega) hshort hC.1 hC.2.1 hC.2.2.1 hC.2.2.2.1 hC.2.2.2.2
    · rintro e w' ⟨rfl, hd', hb'⟩
      have HE := Lib.hid (show DAt w' b m _ ∧ But [b, m] w w' from ⟨hd', (But.of_below (below_drewN (HB1.out.alloc HB1.out.size _) _)).trans hb'⟩)
      clear hd' hb'
      go_wp2_with fail
      go_ret
      exact ⟨rfl, HE.out⟩

theorem keepA {w wa wb : World} {b m F1 : Nat} {d : Dk} {s x : ByteArray} {y : Fl} (hb : Below wa.heap.size wa wb) (h : (wa.cell? ⟨w.heap.size, 0, none⟩ = some (.pointer (some ⟨b, 0, none⟩)) ∧ wa.cell? ⟨w.heap.size + 2, 0, none⟩ = some (.string x) ∧ wa.cell? ⟨b, 3, none⟩ = some (.int .i64 d.room)) ∧ Hid (DAt wa b m d) ∧ Hid (wa.cell? ⟨F1, 0, none⟩ = some (.string y.data) ∧ wa.cell? ⟨F1, 1, none⟩ = some (.int .i64 y.syn) ∧ wa.cell? ⟨w.heap.size + 1, 0, none⟩ = some (.string s)) ∧ Hid (Below w.heap.size w wa)) : (wb.cell? ⟨w.heap.size, 0, none⟩ = some (.pointer (some ⟨b, 0, none⟩)) ∧ wb.cell? ⟨w.heap.size + 2, 0, none⟩ = some (.string x) ∧ wb.cell? ⟨b, 3, none⟩ = some (.int .i64 d.room)) ∧ Hid (DAt wb b m d) ∧ Hid (wb.cell? ⟨F1, 0, none⟩ = some (.string y.data) ∧ wb.cell? ⟨F1, 1, none⟩ = some (.int .i64 y.syn) ∧ wb.cell? ⟨w.heap.size + 1, 0, none⟩ = some (.string s)) ∧ Hid (Below w.heap.size w wb) := by
  obtain ⟨⟨h0, h1, h2⟩, hD, hM, hB⟩ := h
  have k : ∀ (B o : Nat) (v : Value), wa.cell? ⟨B, o, none⟩ = some v → wb.cell? ⟨B, o, none⟩ = some v := fun B o v hv => (hb.cell (p := ⟨B, o, none⟩) (World.block_lt_of_cell? wa _ hv)).trans hv
  exact ⟨⟨k _ _ _ h0, k _ _ _ h1, k _ _ _ h2⟩, hD.out.below hb, ⟨k _ _ _ hM.out.1, k _ _ _ hM.out.2.1, k _ _ _ hM.out.2.2⟩, hB.out.trans (hb.mono hB.out.size)⟩
theorem datOf {w wa : World} {b m F1 : Nat} {d : Dk} {s x : ByteArray} {y : Fl} (h : (wa.cell? ⟨w.heap.size, 0, none⟩ = some (.pointer (some ⟨b, 0, none⟩)) ∧ wa.cell? ⟨w.heap.size + 2, 0, none⟩ = some (.string x) ∧ wa.cell? ⟨b, 3, none⟩ = some (.int .i64 d.room)) ∧ Hid (DAt wa b m d) ∧ Hid (wa.cell? ⟨F1, 0, none⟩ = some (.string y.data) ∧ wa.cell? ⟨F1, 1, none⟩ = some (.int .i64 y.syn) ∧ wa.cell? ⟨w.heap.size + 1, 0, none⟩ = some (.string s)) ∧ Hid (Below w.heap.size w wa)) : DAt wa b m d := h.2.1.out
theorem allOf {w wa : World} {b m F1 : Nat} {d : Dk} {s x : ByteArray} {y : Fl} (h : (wa.cell? ⟨w.heap.size, 0, none⟩ = some (.pointer (some ⟨b, 0, none⟩)) ∧ wa.cell? ⟨w.heap.size + 2, 0, none⟩ = some (.string x) ∧ wa.cell? ⟨b, 3, none⟩ = some (.int .i64 d.room)) ∧ Hid (DAt wa b m d) ∧ Hid (wa.cell? ⟨F1, 0, none⟩ = some (.string y.data) ∧ wa.cell? ⟨F1, 1, none⟩ = some (.int .i64 y.syn) ∧ wa.cell? ⟨w.heap.size + 1, 0, none⟩ = some (.string s)) ∧ Hid (Below w.heap.size w wa)) : Hid ((wa.cell? ⟨w.heap.size, 0, none⟩ = some (.pointer (some ⟨b, 0, none⟩)) ∧ wa.cell? ⟨w.heap.size + 2, 0, none⟩ = some (.string x) ∧ wa.cell? ⟨b, 3, none⟩ = some (.int .i64 d.room)) ∧ Hid (DAt wa b m d) ∧ Hid (wa.cell? ⟨F1, 0, none⟩ = some (.string y.data) ∧ wa.cell? ⟨F1, 1, none⟩ = some (.int .i64 y.syn) ∧ wa.cell? ⟨w.heap.size + 1, 0, none⟩ = some (.string s)) ∧ Hid (Below w.heap.size w wa)) := h

theorem append_full (w : World) (b m : Nat) (d : Dk) (s x : ByteArray) (h : DAt w b m d) (hs : s.size ≤ maxLen) (hx2 : x.size ≤ 1000000000000000) (hd : d.down = false) (y : Fl) (hx : fget d.fs s.data.toList = some y) (hy : y.data.size ≤ 1048576) (hshort : y.data.size + x.size ≤ 1048576) (hroom : 0 ≤ d.room) (hover : d.room < (total d.fs : Int) + x.size) (hok : Fit d) :
    Calls Tryz.prog 164 #[.pointer (some ⟨b, 0, none⟩), .string s, .string x] w fun e w' => e = .returned (.int .i64 6) ∧ Below w.heap.size w w' := by
  obtain ⟨W1, hW1⟩ : ∃ W1, W1 = (((w.alloc (.cells #[.pointer (some ⟨b, 0, none⟩)] 27)).alloc (.cells #[.string s] 9)).alloc (.cells #[.string x] 9)) := ⟨_, rfl⟩
  have hD1 : DAt W1 b m d := by rw [hW1]; exact (((h.below (bl1 _ _)).below (bl1 _ _)).below (bl1 _ _))
  have hB1 : Below w.heap.size w W1 := by rw [hW1]; exact bl3 _ _ _ _ 
  have hp : W1.cell? ⟨w.heap.size, 0, none⟩ = some (.pointer (some ⟨b, 0, none⟩)) := by rw [hW1]; simp [go_sem]
  have pf : W1.frozen? ⟨w.heap.size, 0, none⟩ = false := by rw [hW1]; simp [go_sem]
  have hq0 : W1.cell? ⟨w.heap.size + 1, 0, none⟩ = some (.string s) := by rw [hW1]; simp [go_sem]
  have ql0 : w.heap.size + 1 < W1.heap.size := by rw [hW1]; simp
  have hq1 : W1.cell? ⟨w.heap.size + 2, 0, none⟩ = some (.string x) := by rw [hW1]; simp [go_sem]
  have ql1 : w.heap.size + 2 < W1.heap.size := by rw [hW1]; simp
  have pl : w.heap.size < W1.heap.size := by rw [hW1]; simp; omega
  have hdn : W1.cell? ⟨b, 1, none⟩ = some (.bool false) := by rw [← hd]; exact hD1.c1
  have c0 := hD1.c0
  have bl := hD1.lt
  have e1 := look_some hs hx W1.drew hD1.map
  have e2 := look_some hs hx (W1.alloc (.cells #[.string ⟨#[]⟩, .int .i64 0] 215)).drew (hD1.map.alloc _)
  have HD1 := Lib.hid hD1
  have HB1 := Lib.hid hB1
  have HW := Lib.hid hW1.symm
  have HX := Lib.hid hx
  clear hD1 hB1 hW1 h hd hx
  go_enter Tryz.func164, Tryz.ntmps164
  go_wp2_with fail
  rw [HW.out]
  refine (off_up _ b hdn).mono ?_
  rintro e w1 ⟨rfl, rfl⟩
  go_wp2_with fail
  go_region
  all_goals
    have hD2 : DAt (W1.alloc (.cells #[.string y.data, .int .i64 y.syn] 215)).drew b m d := (HD1.out.below (bl1 _ _)).drew
    have hB2 : Below w.heap.size w (W1.alloc (.cells #[.string y.data, .int .i64 y.syn] 215)).drew := (HB1.out.alloc HB1.out.size _).drew
    have HD2 := Lib.hid hD2
    have HB2 := Lib.hid hB2
    clear hD2 hB2 e1 e2
    have hx9 : x.size ≤ 1048576 := by omega
    have hgt : (y.data.size : Int) + x.size ≤ 1048576 := by omega
    clear hx2
    have k0 := HD2.out.c0
    have j3 := HD1.out.c3
    have HOK := Lib.hid hok
    have htot : (total d.fs : Int) ≤ 268435456 := by have := total_le d.fs hok.sz; have := hok.len; omega
    have hw1 : IntKind.i64.wrap ((total d.fs : Int) + x.size) = (total d.fs : Int) + x.size := IntWalk.i64_in _ (by omega)
    have hge : (0 : Int) ≤ d.room := hroom
    clear hok hroom
    have hS0 : ((W1.alloc (.cells #[.string y.data, .int .i64 y.syn] 215)).drew.cell? ⟨w.heap.size, 0, none⟩ = some (.pointer (some ⟨b, 0, none⟩)) ∧ (W1.alloc (.cells #[.string y.data, .int .i64 y.syn] 215)).drew.cell? ⟨w.heap.size + 2, 0, none⟩ = some (.string x) ∧ (W1.alloc (.cells #[.string y.data, .int .i64 y.syn] 215)).drew.cell? ⟨b, 3, none⟩ = some (.int .i64 d.room)) ∧ Hid (DAt (W1.alloc (.cells #[.string y.data, .int .i64 y.syn] 215)).drew b m d) ∧ Hid ((W1.alloc (.cells #[.string y.data, .int .i64 y.syn] 215)).drew.cell? ⟨W1.heap.size, 0, none⟩ = some (.string y.data) ∧ (W1.alloc (.cells #[.string y.data, .int .i64 y.syn] 215)).drew.cell? ⟨W1.heap.size, 1, none⟩ = some (.int .i64 y.syn) ∧ (W1.alloc (.cells #[.string y.data, .int .i64 y.syn] 215)).drew.cell? ⟨w.heap.size + 1, 0, none⟩ = some (.string s)) ∧ Hid (Below w.heap.size w (W1.alloc (.cells #[.string y.data, .int .i64 y.syn] 215)).drew) := ⟨⟨by simp [go_sem, *], by simp [go_sem, *], HD2.out.c3⟩, HD2, (show _ ∧ _ ∧ _ from ⟨by simp [go_sem, *], by simp [go_sem, *], by simp [go_sem, *]⟩), HB2⟩
    have HS0 := Lib.hid hS0
    clear hS0
    go_wp2_with fail
    go_region_held3 (fun w' => (w'.cell? ⟨w.heap.size, 0, none⟩ = some (.pointer (some ⟨b, 0, none⟩)) ∧ w'.cell? ⟨w.heap.size + 2, 0, none⟩ = some (.string x) ∧ w'.cell? ⟨b, 3, none⟩ = some (.int .i64 d.room)) ∧ Hid (DAt w' b m d) ∧ Hid (w'.cell? ⟨W1.heap.size, 0, none⟩ = some (.string y.data) ∧ w'.cell? ⟨W1.heap.size, 1, none⟩ = some (.int .i64 y.syn) ∧ w'.cell? ⟨w.heap.size + 1, 0, none⟩ = some (.string s)) ∧ Hid (Below w.heap.size w w'))
      (first | exact keepA ((Below.refl _ _).drew) HS0.out | exact keepA hb' (by assumption))
      (first | (go_at_call 214; refine (used_any _ b m d (datOf (by assumption)) HOK.out).mono ?_; rintro e w' ⟨rfl, hb'⟩))
    have HSW := allOf (by assumption)
    go_wp2_with fail
    go_ret
    exact ⟨rfl, HSW.out.2.2.2.out⟩

theorem append_go (w : World) (b m : Nat) (d : Dk) (s x : ByteArray) (h : DAt w b m d) (hs : s.size ≤ maxLen) (hx2 : x.size ≤ 1000000000000000) (hd : d.down = false) (y : Fl) (hx : fget d.fs s.data.toList = some y) (hy : y.data.size ≤ 1048576) (hshort : y.data.size + x.size ≤ 1048576) (hroom : 0 ≤ d.room) (hfits : (total d.fs : Int) + x.size ≤ d.room) (hok : Fit d) (hlo : 0 ≤ d.fuse) (hhi : d.fuse ≤ 9223372036854775807) (hlen : d.fs.length ≤ 256) :
    Calls Tryz.prog 164 #[.pointer (some ⟨b, 0, none⟩), .string s, .string x] w fun e w' => e = .returned (.int .i64 (chgE d)) ∧ DAt w' b m (chg d (fun F => fput F s.data.toList ⟨y.data ++ x, y.syn⟩) true) ∧ But [b, m] w w' := by
  obtain ⟨W1, hW1⟩ : ∃ W1, W1 = (((w.alloc (.cells #[.pointer (some ⟨b, 0, none⟩)] 27)).alloc (.cells #[.string s] 9)).alloc (.cells #[.string x] 9)) := ⟨_, rfl⟩
  have hD1 : DAt W1 b m d := by rw [hW1]; exact (((h.below (bl1 _ _)).below (bl1 _ _)).below (bl1 _ _))
  have hB1 : Below w.heap.size w W1 := by rw [hW1]; exact bl3 _ _ _ _ 
  have hp : W1.cell? ⟨w.heap.size, 0, none⟩ = some (.pointer (some ⟨b, 0, none⟩)) := by rw [hW1]; simp [go_sem]
  have pf : W1.frozen? ⟨w.heap.size, 0, none⟩ = false := by rw [hW1]; simp [go_sem]
  have hq0 : W1.cell? ⟨w.heap.size + 1, 0, none⟩ = some (.string s) := by rw [hW1]; simp [go_sem]
  have ql0 : w.heap.size + 1 < W1.heap.size := by rw [hW1]; simp
  have hq1 : W1.cell? ⟨w.heap.size + 2, 0, none⟩ = some (.string x) := by rw [hW1]; simp [go_sem]
  have ql1 : w.heap.size + 2 < W1.heap.size := by rw [hW1]; simp
  have pl : w.heap.size < W1.heap.size := by rw [hW1]; simp; omega
  have hdn : W1.cell? ⟨b, 1, none⟩ = some (.bool false) := by rw [← hd]; exact hD1.c1
  have hlt := h.lt
  have c0 := hD1.c0
  have bl := hD1.lt
  have e1 := look_some hs hx W1.drew hD1.map
  have e2 := look_some hs hx (W1.alloc (.cells #[.string ⟨#[]⟩, .int .i64 0] 215)).drew (hD1.map.alloc _)
  have HD1 := Lib.hid hD1
  have HB1 := Lib.hid hB1
  have HW := Lib.hid hW1.symm
  have HX := Lib.hid hx
  clear hD1 hB1 hW1 h hd hx
  go_enter Tryz.func164, Tryz.ntmps164
  go_wp2_with fail
  rw [HW.out]
  refine (off_up _ b hdn).mono ?_
  rintro e w1 ⟨rfl, rfl⟩
  go_wp2_with fail
  go_region
  all_goals
    have hD2 : DAt (W1.alloc (.cells #[.string y.data, .int .i64 y.syn] 215)).drew b m d := (HD1.out.below (bl1 _ _)).drew
    have hB2 : Below w.heap.size w (W1.alloc (.cells #[.string y.data, .int .i64 y.syn] 215)).drew := (HB1.out.alloc HB1.out.size _).drew
    have HD2 := Lib.hid hD2
    have HB2 := Lib.hid hB2
    have HB2L := HD1.out.lt
    clear hD2 hB2 e1 e2
    have hx9 : x.size ≤ 1048576 := by omega
    have hgt : (y.data.size : Int) + x.size ≤ 1048576 := by omega
    clear hx2
    have k0 := HD2.out.c0
    have j3 := HD1.out.c3
    have HOK := Lib.hid hok
    have htot : (total d.fs : Int) ≤ 268435456 := by have := total_le d.fs hok.sz; have := hok.len; omega
    have hw1 : IntKind.i64.wrap ((total d.fs : Int) + x.size) = (total d.fs : Int) + x.size := IntWalk.i64_in _ (by omega)
    have hge : (0 : Int) ≤ d.room := hroom
    clear hok hroom
    have hS0 : ((W1.alloc (.cells #[.string y.data, .int .i64 y.syn] 215)).drew.cell? ⟨w.heap.size, 0, none⟩ = some (.pointer (some ⟨b, 0, none⟩)) ∧ (W1.alloc (.cells #[.string y.data, .int .i64 y.syn] 215)).drew.cell? ⟨w.heap.size + 2, 0, none⟩ = some (.string x) ∧ (W1.alloc (.cells #[.string y.data, .int .i64 y.syn] 215)).drew.cell? ⟨b, 3, none⟩ = some (.int .i64 d.room)) ∧ Hid (DAt (W1.alloc (.cells #[.string y.data, .int .i64 y.syn] 215)).drew b m d) ∧ Hid ((W1.alloc (.cells #[.string y.data, .int .i64 y.syn] 215)).drew.cell? ⟨W1.heap.size, 0, none⟩ = some (.string y.data) ∧ (W1.alloc (.cells #[.string y.data, .int .i64 y.syn] 215)).drew.cell? ⟨W1.heap.size, 1, none⟩ = some (.int .i64 y.syn) ∧ (W1.alloc (.cells #[.string y.data, .int .i64 y.syn] 215)).drew.cell? ⟨w.heap.size + 1, 0, none⟩ = some (.string s)) ∧ Hid (Below w.heap.size w (W1.alloc (.cells #[.string y.data, .int .i64 y.syn] 215)).drew) := ⟨⟨by simp [go_sem, *], by simp [go_sem, *], HD2.out.c3⟩, HD2, (show _ ∧ _ ∧ _ from ⟨by simp [go_sem, *], by simp [go_sem, *], by simp [go_sem, *]⟩), HB2⟩
    have HS0 := Lib.hid hS0
    clear hS0
    go_wp2_with fail
    go_region_held3 (fun w' => (w'.cell? ⟨w.heap.size, 0, none⟩ = some (.pointer (some ⟨b, 0, none⟩)) ∧ w'.cell? ⟨w.heap.size + 2, 0, none⟩ = some (.string x) ∧ w'.cell? ⟨b, 3, none⟩ = some (.int .i64 d.room)) ∧ Hid (DAt w' b m d) ∧ Hid (w'.cell? ⟨W1.heap.size, 0, none⟩ = some (.string y.data) ∧ w'.cell? ⟨W1.heap.size, 1, none⟩ = some (.int .i64 y.syn) ∧ w'.cell? ⟨w.heap.size + 1, 0, none⟩ = some (.string s)) ∧ Hid (Below w.heap.size w w'))
      (first | exact keepA ((Below.refl _ _).drew) HS0.out | exact keepA hb' (by assumption))
      (first | (go_at_call 214; refine (used_any _ b m d (datOf (by assumption)) HOK.out).mono ?_; rintro e w' ⟨rfl, hb'⟩))
    have HSW := allOf (by assumption)
    go_wp2_with fail
    have hne : b ≠ W1.heap.size ∧ b ≠ W1.heap.size ∧ b ≠ w.heap.size + 2 ∧ b ≠ w.heap.size ∧ b ≠ w.heap.size + 1 := ⟨Nat.ne_of_lt HB2L, Nat.ne_of_lt HB2L, by omega, Nat.ne_of_lt hlt, by omega⟩
    have HNE := Lib.hid hne
    have hcap : (W1.alloc (.cells #[.string y.data, .int .i64 y.syn] 215)).drew.cell? ⟨W1.heap.size, 0, none⟩ = some (.string y.data) ∧ (W1.alloc (.cells #[.string y.data, .int .i64 y.syn] 215)).drew.cell? ⟨W1.heap.size, 1, none⟩ = some (.int .i64 y.syn) ∧ (W1.alloc (.cells #[.string y.data, .int .i64 y.syn] 215)).drew.cell? ⟨w.heap.size + 2, 0, none⟩ = some (.string x) ∧ (W1.alloc (.cells #[.string y.data, .int .i64 y.syn] 215)).drew.cell? ⟨w.heap.size, 0, none⟩ = some (.pointer (some ⟨b, 0, none⟩)) ∧ (W1.alloc (.cells #[.string y.data, .int .i64 y.syn] 215)).drew.cell? ⟨w.heap.size + 1, 0, none⟩ = some (.string s) := ⟨by simp [go_sem, *], by simp [go_sem, *], by simp [go_sem, *], by simp [go_sem, *], by simp [go_sem, *]⟩
    have HCAP := Lib.hid hcap
    clear hne hcap
    refine (change_Append _ b m (W1.heap.size) (w.heap.size + 2) (w.heap.size) (w.heap.size + 1) d (by exact HSW.out.2.1.out) (fun F => fput F s.data.toList ⟨y.data ++ x, y.syn⟩) (fun W => W.cell? ⟨W1.heap.size, 0, none⟩ = some (.string y.data) ∧ W.cell? ⟨W1.heap.size, 1, none⟩ = some (.int .i64 y.syn) ∧ W.cell? ⟨w.heap.size + 2, 0, none⟩ = some (.string x) ∧ W.cell? ⟨w.heap.size, 0, none⟩ = some (.pointer (some ⟨b, 0, none⟩)) ∧ W.cell? ⟨w.heap.size + 1, 0, none⟩ = some (.string s)) (by exact ⟨HSW.out.2.2.1.out.1, HSW.out.2.2.1.out.2.1, HSW.out.1.2.1, HSW.out.1.1, HSW.out.2.2.1.out.2.2⟩) (fun W o v hC => ?_) (fun W d' hd' hfs hC => ?_) hlo hhi).mono ?_
    · exact ⟨(World.cell?_setCell_other _ _ _ _ (fun e => HNE.out.1 (by injection e))).trans hC.1, (World.cell?_setCell_other _ _ _ _ (fun e => HNE.out.2.1 (by injection e))).trans hC.2.1, (World.cell?_setCell_other _ _ _ _ (fun e => HNE.out.2.2.1 (by injection e))).trans hC.2.2.1, (World.cell?_setCell_other _ _ _ _ (fun e => HNE.out.2.2.2.1 (by injection e))).trans hC.2.2.2.1, (World.cell?_setCell_other _ _ _ _ (fun e => HNE.out.2.2.2.2 (by injection e))).trans hC.2.2.2.2⟩
    · exact append_fn W b m _ _ _ _ d' s x y hd' hs (by rw [hfs]; unfold maxLen; omega) hshort hC.1 hC.2.1 hC.2.2.1 hC.2.2.2.1 hC.2.2.2.2
    · rintro e w' ⟨rfl, hd', hb'⟩
      have HE := Lib.hid (show DAt w' b m _ ∧ But [b, m] w w' from ⟨hd', (But.of_below HSW.out.2.2.2.out).trans hb'⟩)
      clear hd' hb'
      go_wp2_with fail
      go_ret
      exact ⟨rfl, HE.out⟩
end Go.Proofs.YtcohbfabcdjefaaGreatDoor
