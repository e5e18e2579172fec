/-
  'awake' answers true.
-/
import Derived.Test.YtmhflhbogkkblaaQ
import Derived.Test.YtmhflhbogkkblaaP
namespace Go.Proofs.Ytmhflhbogkkblaa
open Go.RowKit Go.Maps

def aN : Nm := [97]
def hello : ByteArray := ⟨#[104, 101, 108, 108, 111]⟩
def wrld : ByteArray := ⟨#[119, 111, 114, 108, 100]⟩
def a1 : Dk := ⟨[(aN, ⟨⟨#[]⟩, 0⟩)], false, 0, -1⟩
def a2 : Dk := ⟨[(aN, ⟨hello, 0⟩)], false, 0, -1⟩
def a3 : Dk := ⟨[(aN, ⟨hello, 5⟩)], false, 0, -1⟩
def a4 : Dk := ⟨[(aN, ⟨⟨#[104, 101, 108, 108, 111, 119, 111, 114, 108, 100]⟩, 5⟩)], false, 0, -1⟩
def a5 : Dk := ⟨[(aN, ⟨⟨#[104, 101, 108, 108, 111, 119, 111]⟩, 7⟩)], true, 0, -1⟩
def a6 : Dk := ⟨[(aN, ⟨⟨#[104, 101, 108, 108, 111, 119, 111]⟩, 7⟩)], false, 0, -1⟩
theorem a1_is : createE d0 aN = 0 ∧ createD d0 aN = a1 := ⟨by kernel_rfl, by kernel_rfl⟩
theorem a2_is : appendE a1 aN hello = 0 ∧ appendD a1 aN hello = a2 := ⟨by kernel_rfl, by kernel_rfl⟩
theorem a3_is : syncE a2 aN = 0 ∧ syncD a2 aN = a3 := ⟨by kernel_rfl, by kernel_rfl⟩
theorem a4_is : appendE a3 aN wrld = 0 ∧ appendD a3 aN wrld = a4 := ⟨by kernel_rfl, by kernel_rfl⟩
theorem a5_is : { a4 with fs := crashF [2] a4.fs, down := true, fuse := 0 } = a5 := by kernel_rfl
theorem a5_read : readE a5 aN = 7 := by kernel_rfl
theorem a6_is : startD a5 = a6 := by kernel_rfl
theorem a6_read : readE a6 aN = 0 ∧ readS a6 aN = ⟨#[104, 101, 108, 108, 111, 119, 111]⟩ := ⟨by kernel_rfl, by kernel_rfl⟩
theorem a1_fit : Fit a1 := a1_is.2 ▸ Fit.d0.create aN
theorem a2_fit : Fit a2 := a2_is.2 ▸ a1_fit.append aN hello
theorem a3_fit : Fit a3 := a3_is.2 ▸ a2_fit.sync aN
theorem a4_fit : Fit a4 := a4_is.2 ▸ a3_fit.append aN wrld
theorem a5_fit : Fit a5 := a5_is ▸ a4_fit.crash [2] true

theorem stepB {w a c : World} (h : Below w.heap.size w a) (k : But [w.heap.size + 1, w.heap.size] a c) : Below w.heap.size w c := h.trans (k.below h.size (by simp))
theorem awake_true (w : World) : Calls Try.prog 9 #[] w fun e w' => e = .returned (.bool true) ∧ Below w.heap.size w w' := by
  go_enter Try.func9, Try.ntmps9
  go_wp2_with fail
  refine (new_any _).mono ?_
  rintro e w1 ⟨rfl, hd1, hb1⟩
  have H1 := Lib.hid hd1
  have HB1 := Lib.hid hb1
  clear hd1 hb1
  go_wp2_with fail
  have c2 := create_any w1 (w.heap.size + 1) w.heap.size d0 ⟨#[97]⟩ H1.out (by unfold maxLen; simp [ByteArray.size]) Fit.d0
  rw [show createE d0 (ByteArray.data ⟨#[97]⟩).toList = 0 from a1_is.1, show createD d0 (ByteArray.data ⟨#[97]⟩).toList = a1 from a1_is.2] at c2
  refine c2.mono ?_
  clear c2
  rintro e w2 ⟨rfl, hd2, hb2⟩
  have H2 := Lib.hid hd2
  have HB2 := Lib.hid (stepB HB1.out hb2)
  clear hd2 hb2
  go_wp2_with fail
  have c3 := append_any w2 (w.heap.size + 1) w.heap.size a1 ⟨#[97]⟩ ⟨#[104, 101, 108, 108, 111]⟩ H2.out (by unfold maxLen; simp [ByteArray.size]) (by simp [ByteArray.size]) a1_fit
  rw [show appendE a1 (ByteArray.data ⟨#[97]⟩).toList ⟨#[104, 101, 108, 108, 111]⟩ = 0 from a2_is.1, show appendD a1 (ByteArray.data ⟨#[97]⟩).toList ⟨#[104, 101, 108, 108, 111]⟩ = a2 from a2_is.2] at c3
  refine c3.mono ?_
  clear c3
  rintro e w3 ⟨rfl, hd3, hb3⟩
  have H3 := Lib.hid hd3
  have HB3 := Lib.hid (stepB HB2.out hb3)
  clear hd3 hb3
  go_wp2_with fail
  have c4 := sync_any w3 (w.heap.size + 1) w.heap.size a2 ⟨#[97]⟩ H3.out (by unfold maxLen; simp [ByteArray.size]) a2_fit
  rw [show syncE a2 (ByteArray.data ⟨#[97]⟩).toList = 0 from a3_is.1, show syncD a2 (ByteArray.data ⟨#[97]⟩).toList = a3 from a3_is.2] at c4
  refine c4.mono ?_
  clear c4
  rintro e w4 ⟨rfl, hd4, hb4⟩
  have H4 := Lib.hid hd4
  have HB4 := Lib.hid (stepB HB3.out hb4)
  clear hd4 hb4
  go_wp2_with fail
  have c5 := append_any w4 (w.heap.size + 1) w.heap.size a3 ⟨#[97]⟩ ⟨#[119, 111, 114, 108, 100]⟩ H4.out (by unfold maxLen; simp [ByteArray.size]) (by simp [ByteArray.size]) a3_fit
  rw [show appendE a3 (ByteArray.data ⟨#[97]⟩).toList ⟨#[119, 111, 114, 108, 100]⟩ = 0 from a4_is.1, show appendD a3 (ByteArray.data ⟨#[97]⟩).toList ⟨#[119, 111, 114, 108, 100]⟩ = a4 from a4_is.2] at c5
  refine c5.mono ?_
  clear c5
  rintro e w5 ⟨rfl, hd5, hb5⟩
  have H5 := Lib.hid hd5
  have HB5 := Lib.hid (stepB HB4.out hb5)
  clear hd5 hb5
  go_wp2_with fail
  have hl5 := H5.out.lt
  have hk5 : ∀ i, i < 1 → (w5.alloc (.cells #[.int .i64 2] 3)).cell? ⟨w5.heap.size, 0 + i, none⟩ = some (.int .i64 (([2] : List Int).getD i 0)) := by
    intro i hi
    have e : i = 0 := by omega
    subst e
    simp [go_sem]
  have c6 := crash_any (w5.alloc (.cells #[.int .i64 2] 3)) (w.heap.size + 1) w.heap.size a4 (some ⟨w5.heap.size, 0, none⟩) 1 1 [2] (H5.out.below (bl1 _ _)) a4_fit rfl (by omega)
    (fun _ => ⟨w5.heap.size, 0, rfl, Nat.ne_of_gt hl5, hk5⟩)
  rw [show ({ a4 with fs := crashF [2] a4.fs, down := true, fuse := 0 } : Dk) = a5 from a5_is] at c6
  refine c6.mono ?_
  clear c6
  rintro e w6 ⟨rfl, hd6, hb6⟩
  have H6 := Lib.hid hd6
  have HB6 := Lib.hid (stepB (HB5.out.alloc HB5.out.size _) hb6)
  clear hd6 hb6
  go_wp2_with fail
  have c7 := read_any w6 (w.heap.size + 1) w.heap.size a5 ⟨#[97]⟩ H6.out (by unfold maxLen; simp [ByteArray.size])
  rw [show readE a5 (ByteArray.data ⟨#[97]⟩).toList = 7 from a5_read] at c7
  refine c7.mono ?_
  clear c7
  rintro e w7 ⟨rfl, hb7⟩
  have H7 := Lib.hid (H6.out.below hb7)
  have HB7 := Lib.hid (stepB HB6.out (.of_below hb7))
  clear hb7
  go_wp2_with fail
  have c8 := start_any w7 (w.heap.size + 1) w.heap.size a5 H7.out a5_fit
  rw [a6_is] at c8
  refine c8.mono ?_
  clear c8
  rintro e w8 ⟨rfl, hd8, hb8⟩
  have H8 := Lib.hid hd8
  have HB8 := Lib.hid (stepB HB7.out hb8)
  clear hd8 hb8
  go_wp2_with fail
  have c9 := read_any w8 (w.heap.size + 1) w.heap.size a6 ⟨#[97]⟩ H8.out (by unfold maxLen; simp [ByteArray.size])
  rw [show readE a6 (ByteArray.data ⟨#[97]⟩).toList = 0 from a6_read.1, show readS a6 (ByteArray.data ⟨#[97]⟩).toList = ⟨#[104, 101, 108, 108, 111, 119, 111]⟩ from a6_read.2] at c9
  refine c9.mono ?_
  clear c9
  rintro e w9 ⟨rfl, hb9⟩
  have HB9 := Lib.hid (stepB HB8.out (.of_below hb9))
  clear hb9
  go_wp2_with fail
  go_ret
  exact ⟨rfl, HB9.out⟩
end Go.Proofs.Ytmhflhbogkkblaa
