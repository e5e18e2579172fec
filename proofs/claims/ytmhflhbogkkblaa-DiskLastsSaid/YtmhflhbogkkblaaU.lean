/-
  'string(make([]byte, k))'.
-/
import Derived.Test.YtmhflhbogkkblaaT
import Derived.Laws.MakeOwn
import Derived.Deep.OwnRows
import Derived.Laws.OwnMore
import Derived.Laws.BytesArg
namespace Go.Proofs.Ytmhflhbogkkblaa
open Go.RowKit Go.Maps

theorem zeros_nums (k : Nat) : strOfNums (List.replicate k 0) = zeros k := by
  simp [strOfNums, zeros]
theorem zeros_conv (k : Nat) (w : World) (c : Nat) (t : TypeId) : (convert 27 9 (.slice (some ⟨w.heap.size, 0, none⟩) k c)).run Try.prog (w.alloc (.cells (madeCells #[.int .u8 0] k) t)) = .ok (.string (zeros k)) (w.alloc (.cells (madeCells #[.int .u8 0] k) t)) := by
  rw [← zeros_nums]
  refine run_convert_bytes_arg _ 27 5 Try.underlying27 Try.underlying5 _ _ _ _ _ (by simp) (fun i hi => ?_) 9 Try.underlying9
  have e : (w.alloc (.cells (madeCells #[.int .u8 0] k) t)).cell? ⟨w.heap.size, 0 + i, none⟩ = (madeCells #[.int .u8 0] k)[i]? := by simp [go_sem]
  rw [e, ← Array.getElem?_toList, toList_madeCells_one]
  simp [hi]

set_option maxRecDepth 100000 in
theorem step_app (w : World) (b m : Nat) (d : Dk) (n : Nat) (hn : n < 65536) (hle : n % 8 ≤ 2) (h : DAt w b m d) (ok : Fit d) :
    Calls Try.prog 17 #[.pointer (some ⟨b, 0, none⟩), .int .u16 n] w fun e w' => e = .returned (.int .i64 (stepE d n)) ∧ DAt w' b m (stepD d n) ∧ But [b, m] w w' := by
  have h8 : n % 8 = 0 ∨ n % 8 = 1 ∨ n % 8 = 2 := by omega
  have HD := Lib.hid h
  have hm : Int.tmod (n : Int) 8 = ((n % 8 : Nat) : Int) := by rw [Int.tmod_eq_emod_of_nonneg (by omega)]; omega
  have f1 : ∀ W, Calls Try.prog 30 #[.int .u8 ((n : Int) / 8 % 256)] W fun e w' => e = .returned (.string (fourB (n / 8))) ∧ Below W.heap.size W w' := by
    intro W
    have := four_any W (n / 8 % 256) (by omega)
    rwa [fourB_mod, show ((n / 8 % 256 : Nat) : Int) = (n : Int) / 8 % 256 by omega] at this
  have f2 : ∀ W, Calls Try.prog 30 #[.int .u8 ((n : Int) / 32 % 256)] W fun e w' => e = .returned (.string (fourB (n / 32))) ∧ Below W.heap.size W w' := by
    intro W
    have := four_any W (n / 32 % 256) (by omega)
    rwa [fourB_mod, show ((n / 32 % 256 : Nat) : Int) = (n : Int) / 32 % 256 by omega] at this
  have F1 := Lib.hid f1
  have F2 := Lib.hid f2
  have HOK := Lib.hid ok
  clear h f1 f2 ok
  have e1 : stepE d n = appendE d (fourB (n / 8)).data.toList (zeros (n / 32 % 50)) ∧ stepD d n = appendD d (fourB (n / 8)).data.toList (zeros (n / 32 % 50)) := by simp [stepE, stepD, hle]
  rw [e1.1, e1.2]
  clear e1 hle
  have hkk : (n : Int) / 32 % 50 = ((n / 32 % 50 : Nat) : Int) := by omega
  have hk50 : n / 32 % 50 < 50 := by omega
  have hmk := fun W => run_make_row' (P := Try.prog) 27 5 (.int .u8 0) 1 Try.underlying27 (by kernel_rfl) rfl .i64 .i64 (n / 32 % 50) (by omega) (by omega) W
  have hmk2 := hmk
  rw [← hkk] at hmk
  have hcv := fun W => zeros_conv (n / 32 % 50) W (n / 32 % 50) 5
  have HKZ := Lib.hid (show (zeros (n / 32 % 50)).size ≤ 1000000000000000 by simp [zeros, ByteArray.size]; omega)
  generalize n / 32 % 50 = kq at *
  clear hk50
  rcases h8 with h8 | h8 | h8
  all_goals
    rw [h8] at hm
    go_enter Try.func17, Try.ntmps17
    go_wp2_with fail
    refine (F1.out _).mono ?_
    rintro e w1 ⟨rfl, hb1⟩
    have HD1 := Lib.hid (HD.out.below hb1)
    have HB1 := Lib.hid hb1
    clear hb1
    go_wp2_with fail
    refine (F2.out _).mono ?_
    rintro e w2 ⟨rfl, hb2⟩
    have HD2 := Lib.hid (HD1.out.below hb2)
    have HB2 := Lib.hid (HB1.out.trans (hb2.mono HB1.out.size))
    clear hb2
    go_wp2_with fail
    refine (append_any _ b m d (fourB (n / 8)) (zeros kq) (HD2.out.below (bl1 _ _)) (fourB_max _) HKZ.out HOK.out).mono ?_
    rintro e w3 ⟨rfl, hd3, hb3⟩
    have H3 := Lib.hid hd3
    have HB3 := Lib.hid (((But.of_below HB2.out).alloc _).trans hb3)
    clear hd3 hb3
    go_wp2_with fail
    go_ret
    exact ⟨rfl, H3.out, HB3.out⟩
theorem step_any (w : World) (b m : Nat) (d : Dk) (n : Nat) (hn : n < 65536) (h : DAt w b m d) (ok : Fit d) :
    Calls Try.prog 17 #[.pointer (some ⟨b, 0, none⟩), .int .u16 n] w fun e w' => e = .returned (.int .i64 (stepE d n)) ∧ DAt w' b m (stepD d n) ∧ But [b, m] w w' := by
  by_cases hle : n % 8 ≤ 2
  · exact step_app w b m d n hn hle h ok
  · exact step_other w b m d n hn (by omega) h ok
theorem Fit.step {d : Dk} (h : Fit d) (n : Nat) : Fit (stepD d n) := by
  unfold stepD
  split; · exact h.append _ _
  split; · exact h.create _
  split; · exact h.sync _
  split; · exact h.rename _ _
  split; · exact h.remove _
  exact h
end Go.Proofs.Ytmhflhbogkkblaa
