/-
  'awake'.
-/
import Derived.Test.YtkpoecofblhggaaGreatDoorOa
namespace Go.Proofs.YtkpoecofblhggaaGreatDoor
open Go.RowKit Go.Maps

def bsA : ByteArray := ⟨#[97]⟩
def bsB : ByteArray := ⟨#[98]⟩
def bsW : ByteArray := ⟨#[119]⟩
theorem frame_bsA : (frame bsA).size = 9 := by rw [frame_size]; rfl
theorem frame_bsB : (frame bsB).size = 9 := by rw [frame_size]; rfl
theorem cut_app (x y : ByteArray) : (x ++ y).extract 0 x.size = x := ba_ext (by
  rw [ext_list, app_list, ← len_list x, List.drop_zero, Nat.sub_zero, List.take_left])
theorem nil_app (x : ByteArray) : (⟨#[]⟩ : ByteArray) ++ x = x := ba_ext (by rw [app_list]; rfl)
theorem rec1 {w : World} {B : Nat} {a : Option Addr} {c n : Nat} {b : ByteArray} (h : RecsAt w B (.slice a 1 c) (numb n [b])) : ∃ g, a = some ⟨g, 0, none⟩ ∧ w.cell? ⟨g, 0, none⟩ = some (.int .i64 n) ∧ w.cell? ⟨g, 1, none⟩ = some (.string b) := by
  obtain ⟨h1, h2⟩ := h
  rcases h2 with ⟨he, hz⟩ | ⟨g, cap, cur, he, hg, hh, h3, h4, h5, h6⟩
  · simp [numb] at hz
  · injection he with he _ _
    have e6 : cur.toList.take 2 = [.int .i64 n, .string b] := by simpa [numb, rccells] using h6
    have c0 : cur[0]? = some (.int .i64 n) := by rw [← Array.getElem?_toList, ← List.getElem?_take_of_lt (show 0 < 2 by omega), e6]; rfl
    have c1 : cur[1]? = some (.string b) := by rw [← Array.getElem?_toList, ← List.getElem?_take_of_lt (show 1 < 2 by omega), e6]; rfl
    exact ⟨g, he, by simp [World.cell?, hh, c0], by simp [World.cell?, hh, c1]⟩
set_option maxRecDepth 100000 in
set_option maxHeartbeats 2000000 in
theorem awake_any (w : World) : Calls Tryz.prog 7 #[] w fun e w' => e = .returned (.bool true) ∧ Below w.heap.size w w' := by
  have H1 := Lib.hid (fun W => In.new (w0 := w) (w := W))
  go_enter Tryz.func7, Tryz.ntmps7
  go_wp2_with fail
  refine (H1.out _ (Below.refl _ _)).mono ?_
  rintro e w1 ⟨rfl, h1⟩
  have H2 := Lib.hid (h1.open0 (log := bsW) (by decide) (by decide))
  clear h1
  go_wp2_with fail
  refine H2.out.mono ?_
  rintro e w2 ⟨b, sb, ob, a, c, rfl, h2⟩
  have H3 := Lib.hid (h2.put (by decide) (by decide) (by decide) (s := bsA) (by decide) (off1 rfl 0) (put1S rfl (by decide) (by decide)) (n := 1) (by decide))
  clear h2
  go_wp2_with fail
  refine H3.out.mono ?_
  rintro e w3 ⟨rfl, sb3, ob3, h3⟩
  have H4 := Lib.hid (h3.sync (by decide) (sync1S (by rw [ByteArray.size_append]; rfl)))
  clear h3
  go_wp2_with fail
  refine H4.out.mono ?_
  rintro e w4 ⟨rfl, sb4, ob4, h4⟩
  have H5 := Lib.hid (h4.put (by decide) (by decide) (by rw [show (X1 bsW (0 + 1) (0 + (frame bsA).size)).size = 0 + (frame bsA).size from rfl, frame_bsA]; decide) (s := bsB) (by decide) (off1 (by rw [ByteArray.size_append]; rfl) _) (put1S (by rw [ByteArray.size_append]; rfl) (by decide) (by rw [frame_bsA]; decide)) (n := 2) (by decide))
  clear h4
  go_wp2_with fail
  refine H5.out.mono ?_
  rintro e w5 ⟨rfl, sb5, ob5, h5⟩
  have H6 := Lib.hid (h5.crash0 (crash1 (by simp only [ByteArray.size_append, frame_bsB]; omega)))
  clear h5
  go_wp2_with fail
  refine H6.out.mono ?_
  rintro e w6 ⟨rfl, h6⟩
  have hx := cut_app ((⟨#[]⟩ : ByteArray) ++ frame bsA) (frame bsB)
  rw [hx, nil_app] at h6
  have H7 := Lib.hid (h6.start (start1 rfl))
  clear h6
  go_wp2_with fail
  refine H7.out.mono ?_
  rintro e w7 ⟨rfl, h7⟩
  have H8 := Lib.hid (h7.inn.open1 (bs := [bsA]) (by decide) (by decide) (by simp [frames]) (by simp; decide) (by simp) (by rw [frame_bsA]; decide))
  clear h7
  go_wp2_with fail
  refine H8.out.mono ?_
  rintro e w8 ⟨b8, sb8, ob8, a8, c8, rfl, h8, hr8⟩
  obtain ⟨g, rfl, hc0, hc1⟩ := rec1 hr8
  have H9 := Lib.hid (last_any w8 b8 sb8 ob8 _ _ _ _ (h8.wd))
  have HB := Lib.hid h8.bel
  clear hr8 h8
  go_wp2_with fail
  refine H9.out.mono ?_
  rintro e w9 ⟨rfl, rfl⟩
  have hl1 : (X1 bsW [bsA].length (frame bsA).size).last = 1 := rfl
  rw [hl1]
  have hcA : bsA.toList = [97] := by rw [ByteArray.toList_eq]; rfl
  go_wp2_with fail
  exact bodyPost_ret (v := .bool true) (by simp [results, Tryz.results7, go_sem]) rfl ⟨rfl, HB.out⟩
end Go.Proofs.YtkpoecofblhggaaGreatDoor
