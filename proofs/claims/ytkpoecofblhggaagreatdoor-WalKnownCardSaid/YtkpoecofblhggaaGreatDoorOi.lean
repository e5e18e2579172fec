/-
  'WalKnown'.
-/
import Derived.Test.YtkpoecofblhggaaGreatDoorOh
namespace Go.Proofs.YtkpoecofblhggaaGreatDoor
open Go.RowKit Go.Maps

def bsC : ByteArray := ⟨#[99]⟩
def bsD : ByteArray := ⟨#[100]⟩
def bsU : ByteArray := ⟨#[87]⟩
theorem frame_bsC : (frame bsC).size = 9 := by rw [frame_size]; rfl
theorem frame_bsD : (frame bsD).size = 9 := by rw [frame_size]; rfl
theorem frame_z : (frame (zeros 20000)).size = 20008 := by rw [frame_size, zeros_size]
set_option maxRecDepth 100000 in
set_option maxHeartbeats 4000000 in
theorem walKnown_any (w : World) : Calls Tryz.prog 4 #[] w fun e w' => e = .returned (.bool true) ∧ Below w.heap.size w w' := by
  have H1 := Lib.hid (fun W => In.new (w0 := w) (w := W))
  have hmk1 : ∀ W : World, (Instr.makeSlice 42 (.int .i64 20000) (.int .i64 20000)).run Tryz.prog W = .ok (.slice (some ⟨W.heap.size, 0, none⟩) 20000 20000) (W.alloc (.cells (madeCells #[.int .u8 0] 20000) 5)) := fun W => run_make_row' 42 5 (.int .u8 0) 1 Tryz.underlying42 (by kernel_rfl) rfl .i64 .i64 20000 (by omega) (by omega) W
  have hmk2 : ∀ W : World, (Instr.makeSlice 42 (.int .i64 65537) (.int .i64 65537)).run Tryz.prog W = .ok (.slice (some ⟨W.heap.size, 0, none⟩) 65537 65537) (W.alloc (.cells (madeCells #[.int .u8 0] 65537) 5)) := fun W => run_make_row' 42 5 (.int .u8 0) 1 Tryz.underlying42 (by kernel_rfl) rfl .i64 .i64 65537 (by omega) (by omega) W
  have hcv1 := fun W => zeros_conv 20000 W 20000 5
  have hcv2 := fun W => zeros_conv 65537 W 65537 5
  go_enter Tryz.func4, Tryz.ntmps4
  go_wp2_with fail
  refine (H1.out _ (Below.refl _ _)).mono ?_
  rintro e w1 ⟨rfl, h1⟩
  have H2 := Lib.hid (h1.open0 (log := bsW) (by decide) (by decide))
  clear h1
  go_wp2_with fail
  refine H2.out.mono ?_
  rintro e w2 ⟨b, sb, ob, a, c, rfl, h2⟩
  have F2 := Lib.hid (h2.first (by decide) (n := 1) rfl)
  have L2 := Lib.hid (h2.last (n := 0) rfl)
  have H3 := Lib.hid (h2.put (by decide) (by decide) (by decide) (s := bsA) (by decide) (off1 rfl 0) (put1S rfl (by decide) (by decide)) (n := 1) (by decide))
  clear h2
  go_wp2_with fail
  refine F2.out.mono ?_
  rintro e w3 ⟨rfl, rfl⟩
  go_wp2_with fail
  refine L2.out.mono ?_
  rintro e w3 ⟨rfl, rfl⟩
  go_wp2_with fail
  refine H3.out.mono ?_
  rintro e w3 ⟨rfl, sb3, ob3, h3⟩
  have H4 := Lib.hid (h3.sync (by decide) (sync1S (by rw [ByteArray.size_append]; rfl)))
  clear h3
  go_wp2_with fail
  refine H4.out.mono ?_
  rintro e w4 ⟨rfl, sb4, ob4, h4⟩
  have H5 := Lib.hid (h4.put (by decide) (by decide) (by rw [show (X1 bsW (0 + 1) (0 + (frame bsA).size)).size = 0 + (frame bsA).size from rfl, frame_bsA]; decide) (s := bsB) (by decide) (off1 (by rw [ByteArray.size_append]; rfl) _) (put1S (by rw [ByteArray.size_append]; rfl) (by decide) (by rw [frame_bsA]; decide)) (n := 2) (by decide))
  clear h4
  go_wp2_with fail
  refine H5.out.mono ?_
  rintro e w5 ⟨rfl, sb5, ob5, h5⟩
  have F5 := Lib.hid (h5.first (by decide) (n := 1) rfl)
  have L5 := Lib.hid (h5.last (n := 2) rfl)
  have H6 := Lib.hid (h5.crash0 (crash1 (by simp only [ByteArray.size_append, frame_bsB]; omega)))
  clear h5
  go_wp2_with fail
  refine L5.out.mono ?_
  rintro e w6 ⟨rfl, rfl⟩
  go_wp2_with fail
  refine F5.out.mono ?_
  rintro e w6 ⟨rfl, rfl⟩
  go_wp2_with fail
  refine H6.out.mono ?_
  rintro e w6 ⟨rfl, h6⟩
  have hx := cut_app ((⟨#[]⟩ : ByteArray) ++ frame bsA) (frame bsB)
  rw [hx, nil_app] at h6
  have H7 := Lib.hid (h6.start (start1 rfl))
  clear h6 hx
  go_wp2_with fail
  refine H7.out.mono ?_
  rintro e w7 ⟨rfl, h7⟩
  have H8 := Lib.hid (h7.inn.open1 (bs := [bsA]) (by decide) (by decide) (by simp [frames]) (by simp; decide) (by simp) (by rw [frame_bsA]; decide))
  clear h7
  go_wp2_with fail
  refine H8.out.mono ?_
  rintro e w8 ⟨b8, sb8, ob8, a8, c8, rfl, h8, hr8⟩
  obtain ⟨g, rfl, hc0, hc1⟩ := rec1 hr8
  have hzA : (frame bsA).size = 9 := frame_bsA
  have H9 := Lib.hid (h8.put (by decide) (by decide) (by rw [show (X1 bsW [bsA].length (frame bsA).size).size = (frame bsA).size from rfl, hzA]; decide) (s := bsC) (by decide) (off1 rfl _) (put1S rfl (by decide) (by rw [hzA]; decide)) (n := 2) (by decide))
  clear hr8 h8 hc0
  have hcA : bsA.toList = [97] := by rw [ByteArray.toList_eq]; rfl
  have hl1 : [bsA].length = 1 := rfl
  rw [hl1] at H9 ⊢
  go_wp2_with fail
  refine H9.out.mono ?_
  rintro e w9 ⟨rfl, sb9, ob9, h9⟩
  have hs9 : (frame bsA ++ frame bsC).size = (frame bsA).size + (frame bsC).size := by rw [ByteArray.size_append]
  have H10 := Lib.hid (h9.dropGo (by decide) (by decide) (by decide) (by decide) (by decide) (off1 hs9 _) (n := 1) (by decide) (drop_none hs9 (by decide)))
  clear h9
  go_wp2_with fail
  refine H10.out.mono ?_
  rintro e w10 ⟨rfl, sb10, ob10, h10⟩
  have F10 := Lib.hid (h10.first (by decide) (n := 1) rfl)
  have H11 := Lib.hid (fun o => (h10.quiet (bl1 w10 o)).put (by decide) (by decide) (by show (frame bsA).size + (frame bsC).size < 16384; rw [frame_bsA, frame_bsC]; decide) (s := zeros 20000) (by rw [zeros_size]; decide) (off1 hs9 _) (put1S hs9 (by rw [zeros_size]; decide) (by rw [frame_bsA, frame_bsC]; decide)) (n := 3) (by decide))
  clear h10
  go_wp2_with fail
  refine F10.out.mono ?_
  rintro e w11 ⟨rfl, rfl⟩
  go_wp2_with fail
  refine (H11.out _).mono ?_
  rintro e w11 ⟨rfl, sb11, ob11, h11⟩
  have hs11 : (frame bsA ++ frame bsC ++ frame (zeros 20000)).size = (frame bsA).size + (frame bsC).size + (frame (zeros 20000)).size := by rw [ByteArray.size_append, hs9]
  have hz11 : (X1 bsW (1 + 1 + 1) ((frame bsA).size + (frame bsC).size + (frame (zeros 20000)).size)).size = 20026 := by show (frame bsA).size + (frame bsC).size + (frame (zeros 20000)).size = _; rw [frame_bsA, frame_bsC, frame_z]
  have H12 := Lib.hid (h11.turn (by decide) (by decide) (by decide) (by rw [hz11]; decide) (by rw [hz11]; decide) (s := bsD) (by decide) (off1 hs11 _) (turn2 hs11 (by rw [frame_bsA, frame_bsC, frame_z]; decide) (by decide) (by decide) (by decide) (by decide)) (n := 4) (by decide))
  clear h11 hz11
  go_wp2_with fail
  refine H12.out.mono ?_
  rintro e w12 ⟨rfl, sb12, ob12, h12⟩
  obtain ⟨ho13, d13, hr13⟩ := drop2 (log := bsW) (y := frame bsA ++ frame bsC ++ frame (zeros 20000)) (b := bsD) (n := 1 + 1 + 1) (k := 3) (by decide) (by decide) (by decide)
  have H13 := Lib.hid (h12.dropGo (by decide) (by decide) (by decide) (by decide) (by decide) ho13 (n := 3) (by decide) hr13)
  clear h12 ho13 hr13 hs11
  go_wp2_with fail
  refine H13.out.mono ?_
  rintro e w13 ⟨rfl, sb13, ob13, h13⟩
  have F13 := Lib.hid (h13.first (by decide) (n := 4) rfl)
  have L13 := Lib.hid (h13.last (n := 4) rfl)
  have H14 := Lib.hid (fun o => (h13.quiet (bl1 w13 o)).long (s := zeros 65537) (by rw [zeros_size]; decide) (by rw [zeros_size]; decide))
  clear h13
  go_wp2_with fail
  refine F13.out.mono ?_
  rintro e w14 ⟨rfl, rfl⟩
  go_wp2_with fail
  refine L13.out.mono ?_
  rintro e w14 ⟨rfl, rfl⟩
  go_wp2_with fail
  refine (H14.out _).mono ?_
  rintro e w14 ⟨rfl, sb14, ob14, h14⟩
  have HB := Lib.hid h14.bel
  clear h14
  go_wp2_with fail
  refine (wopen_arg _ _ bsU (by decide) (by decide)).mono ?_
  rintro e w15 ⟨rfl, rfl⟩
  go_wp2_with fail
  refine (awake_any _).mono ?_
  rintro e w16 ⟨rfl, hb⟩
  have HB2 := Lib.hid (HB.out.trans (hb.mono HB.out.size))
  clear hb
  go_wp2_with fail
  go_ret
  exact ⟨rfl, HB2.out⟩
end Go.Proofs.YtkpoecofblhggaaGreatDoor
