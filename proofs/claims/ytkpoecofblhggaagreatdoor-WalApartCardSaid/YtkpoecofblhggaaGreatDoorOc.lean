/-
  'Drop' on a log that is off.
-/
import Derived.Test.YtkpoecofblhggaaGreatDoorOa
namespace Go.Proofs.YtkpoecofblhggaaGreatDoor
open Go.RowKit Go.Maps

set_option maxRecDepth 100000 in
theorem wdrop_off (w : World) (b sb ob db m : Nat) (d : Dk) (x : Lg) (n : Int) (h : WD w b sb ob db m d x) (hl : x.log.size ≤ 1000) (ho : offE d x ≠ 0) :
    Calls Tryz.prog 18 #[.pointer (some ⟨b, 0, none⟩), .int .i64 n] w fun e w' => e = .returned (.int .i64 (dropS d x n).1) ∧ WR w b sb ob db m (dropS d x n).2.1 (dropS d x n).2.2 w' := by
  have H0 := Lib.hid (WA.start h)
  have HR := Lib.hid (show dropS d x n = (offE d x, d, offX d x) by simp [dropS, ho])
  have hne : (offE d x != 0) = true := by simpa using ho
  have HO := Lib.hid (H0.out.off hl)
  clear h ho
  rw [HR.out]
  generalize offE d x = E at *
  generalize offX d x = X at *
  go_enter Tryz.func18, Tryz.ntmps18
  go_wp2_with fail
  refine HO.out.mono ?_
  rintro e w1 ⟨rfl, h1⟩
  have H1 := Lib.hid h1
  clear h1
  go_wp2_with fail
  go_ret
  exact ⟨rfl, H1.out.to⟩
theorem LW.dropOff {W w : World} {b sb ob db m : Nat} {d : Dk} {x : Lg} (h : LW W w b sb ob db m d x) (hl : x.log.size ≤ 1000) (n : Int) (ho : offE d x = 7) :
    Calls Tryz.prog 18 #[.pointer (some ⟨b, 0, none⟩), .int .i64 n] w fun e w' => e = .returned (.int .i64 7) ∧ ∃ sb' ob', LW W w' b sb' ob' db m d (offX d x) :=
  (wdrop_off w b sb ob db m d x n h.wd hl (by rw [ho]; decide)).mono fun e w' ⟨he, hw⟩ => by
    have hr : dropS d x n = (7, d, offX d x) := by simp [dropS, ho]
    rw [hr] at he hw
    exact ⟨he, h.wr hw⟩
end Go.Proofs.YtkpoecofblhggaaGreatDoor
