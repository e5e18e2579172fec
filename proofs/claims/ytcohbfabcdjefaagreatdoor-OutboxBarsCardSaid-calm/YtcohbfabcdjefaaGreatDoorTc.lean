/-
  'Next': the frame at a place of a text.
-/
import Derived.Test.YtcohbfabcdjefaaGreatDoorEi
import Derived.Deep.RegionHeld3
namespace Go.Proofs.YtcohbfabcdjefaaGreatDoor
open Go.RowKit Go.Maps

theorem ba_ext {a b : ByteArray} (h : a.data.toList = b.data.toList) : a = b := by
  cases a; cases b; congr 1; exact Array.toList_inj.1 h
theorem ext_list (s : ByteArray) (i j : Nat) : (s.extract i j).data.toList = (s.data.toList.drop i).take (j - i) := by
  rw [ByteArray.data_extract, Array.toList_extract]
theorem app_list (a b : ByteArray) : (a ++ b).data.toList = a.data.toList ++ b.data.toList := by simp
theorem len_list (s : ByteArray) : s.data.toList.length = s.size := by simp
theorem frame_list (b : ByteArray) : (frame b).data.toList = le4 b.size ++ le4 (chkF b).toNat ++ b.data.toList := by
  unfold frame; rw [app_list, app_list]; rfl

/-- at place p of s a frame of b stands -/
def FrameAt (s : ByteArray) (p : Nat) (b : ByteArray) : Prop := ∃ rest, s.data.toList.drop p = (frame b).data.toList ++ rest
theorem FrameAt.len {s : ByteArray} {p : Nat} {b : ByteArray} (h : FrameAt s p b) : p + 8 + b.size ≤ s.size := by
  obtain ⟨r, h⟩ := h
  have := congrArg List.length h
  rw [List.length_drop, List.length_append, len_list, len_list, frame_size] at this
  omega
theorem FrameAt.at0 {s : ByteArray} {p : Nat} {b : ByteArray} (h : FrameAt s p b) : (s.extract p s.size).data.toList.take 4 = le4 b.size := by
  have hl := h.len
  obtain ⟨r, h⟩ := h
  rw [ext_list, h, frame_list, List.take_take, Nat.min_eq_left (by omega)]
  rfl
theorem FrameAt.at4 {s : ByteArray} {p : Nat} {b : ByteArray} (h : FrameAt s p b) : (s.extract (p + 4) s.size).data.toList.take 4 = le4 (chkF b).toNat := by
  have hl := h.len
  obtain ⟨r, h⟩ := h
  rw [ext_list, ← List.drop_drop, h, frame_list, List.take_take, Nat.min_eq_left (by omega)]
  rfl
theorem FrameAt.head {s : ByteArray} {p : Nat} {b : ByteArray} (h : FrameAt s p b) : s.extract p (p + 4) = fr0 b := by
  obtain ⟨r, h⟩ := h
  refine ba_ext ?_
  rw [ext_list, h, frame_list, show p + 4 - p = 4 by omega]
  rfl
theorem FrameAt.body {s : ByteArray} {p : Nat} {b : ByteArray} (h : FrameAt s p b) : s.extract (p + 8) (p + 8 + b.size) = b := by
  obtain ⟨r, h⟩ := h
  refine ba_ext ?_
  rw [ext_list, ← List.drop_drop, h, frame_list, show p + 8 + b.size - (p + 8) = b.size by omega]
  show (b.data.toList ++ r).take b.size = _
  rw [← len_list b, List.take_left]

theorem next_end (w : World) (s : ByteArray) (p : Nat) (hs : s.size ≤ 9223372036854775807) (hp : p ≤ s.size) (h : s.size < p + 8) :
    Calls Tryz.prog 191 #[.string s, .int .i64 p] w fun e w' => e = .returned (.tuple #[.string ⟨#[]⟩, .int .i64 0, .bool false]) ∧ w = w' := by
  go_enter Tryz.func191, Tryz.ntmps191
  go_wp2_with fail
  go_ret3
  exact ⟨rfl, rfl⟩

theorem keepB {w wa wb : World} (hb : Below wa.heap.size wa wb) (h : Hid (Below w.heap.size w wa)) : Hid (Below w.heap.size w wb) := h.out.trans (hb.mono h.out.size)
theorem tup3 {x b : ByteArray} {n m : Int} (h : x = b) (h2 : n = m) : Ending.returned (.tuple #[.string x, .int .i64 n, .bool true]) = .returned (.tuple #[.string b, .int .i64 m, .bool true]) := by rw [h, h2]
theorem idB {w wa : World} (h : Hid (Below w.heap.size w wa)) : Hid (Below w.heap.size w wa) := h
set_option maxRecDepth 100000 in
theorem next_ok (w : World) (s : ByteArray) (p : Nat) (b : ByteArray) (hs : s.size ≤ 9223372036854775807) (hb : b.size ≤ 65536) (h : FrameAt s p b) :
    Calls Tryz.prog 191 #[.string s, .int .i64 p] w fun e w' => e = .returned (.tuple #[.string b, .int .i64 ((p + 8 + b.size : Nat) : Int), .bool true]) ∧ Below w.heap.size w w' := by
  have hl := h.len
  have hcr := moreF_rng (crcF (le4 b.size)) b.data.toList
  have hc := moreF_rng 0 (le4 b.size)
  have z0 : 4 ≤ (s.extract p s.size).size := by rw [ByteArray.size_extract]; omega
  have z4 : 4 ≤ (s.extract (p + 4) s.size).size := by rw [ByteArray.size_extract]; omega
  have C1 : ∀ W, Calls Tryz.prog 241 #[.string (s.extract p s.size)] W fun e w' => e = .returned (.int .u32 b.size) ∧ ∃ n, w' = W.drewN n := fun W => by
    have := get4_any W _ z0
    rwa [rd4_le4 b.size (by omega) _ h.at0] at this
  have C2 : ∀ W, Calls Tryz.prog 241 #[.string (s.extract (p + 4) s.size)] W fun e w' => e = .returned (.int .u32 (chkF b)) ∧ Below W.heap.size W w' := fun W => by
    have := get4_any W _ z4
    rw [rd4_le4 (chkF b).toNat (by have := hcr.2; have := hcr.1; unfold chkF; omega) _ h.at4, show (((chkF b).toNat : Nat) : Int) = chkF b from Int.toNat_of_nonneg hcr.1] at this
    exact this.mono fun _ _ ⟨he, n, hw⟩ => ⟨he, by rw [hw]; exact below_drewN' (Below.refl _ _) n⟩
  have C3 : ∀ W, Calls Tryz.prog 101 #[.string (s.extract p (p + 4))] W fun e w' => e = .returned (.int .u32 (crcF (le4 b.size))) ∧ Below W.heap.size W w' := fun W => by
    rw [h.head]
    exact crc_any W (fr0 b) (by rw [fr0_size]; decide)
  have C4 : ∀ W, Calls Tryz.prog 160 #[.int .u32 (crcF (le4 b.size)), .string (s.extract (p + 8) (p + 8 + b.size))] W fun e w' => e = .returned (.int .u32 (chkF b)) ∧ Below W.heap.size W w' := fun W => by rw [h.body]; exact more_any W _ b (by unfold maxLen; omega) hc.1 hc.2
  have H1 := Lib.hid C1
  have H2 := Lib.hid C2
  have H3 := Lib.hid C3
  have H4 := Lib.hid C4
  have HBD := Lib.hid h.body
  clear C1 C2 C3 C4 hcr hc z0 z4
  generalize chkF b = c1 at *
  generalize crcF (le4 b.size) = c0 at *
  have q1 : (p : Int) ≤ s.size := by omega
  have q2 : (8 : Int) ≤ (s.size : Int) - p := by omega
  have q3 : (b.size : Int) ≤ (s.size : Int) - p - 8 := by omega
  go_enter Tryz.func191, Tryz.ntmps191
  go_wp2_with fail
  refine (H1.out _).mono ?_
  rintro e w1 ⟨rfl, n1, rfl⟩
  have HB0 := Lib.hid (below_drewN' (Below.refl w.heap.size w) n1)
  go_wp2_with fail
  have HBD2 := Lib.hid (show Below w.heap.size w (w.drewN n1).drew from (HB0.out).drew)
  have hw4 : IntKind.i64.wrap ((p : Int) + 4) = (p : Int) + 4 := IntWalk.i64_in _ (by omega)
  have r1 : (0 : Int) ≤ (p : Int) + 4 := by omega
  have r2 : (p : Int) + 4 ≤ s.size := by omega
  have r3 : (p : Int) ≤ (p : Int) + 4 := by omega
  have r4 : ((p : Int) + 4).toNat = p + 4 := by omega
  go_region_held3 (fun w' => Hid (Below w.heap.size w w'))
    (first | exact HBD2 | exact keepB hb' (by assumption))
    (first | (go_at_call 101; refine (H3.out _).mono ?_; rintro e w' ⟨rfl, hb'⟩) | (go_at_call 160; refine (H4.out _).mono ?_; rintro e w' ⟨rfl, hb'⟩) | (go_at_call 241; refine (H2.out _).mono ?_; rintro e w' ⟨rfl, hb'⟩))
  have HSW := idB (by assumption)
  go_wp2_with fail
  go_ret3
  exact ⟨tup3 HBD.out (by omega), HSW.out⟩
end Go.Proofs.YtcohbfabcdjefaaGreatDoor
