/-
  'four' and 'step': what a number asks of a disk.
-/
import Derived.Test.YtmhflhbogkkblaaR
namespace Go.Proofs.Ytmhflhbogkkblaa
open Go.RowKit Go.Maps

/-- the four names -/
def fourB (n : Nat) : ByteArray := match n % 4 with | 0 => ⟨#[97]⟩ | 1 => ⟨#[98]⟩ | 2 => ⟨#[97, 46, 98]⟩ | _ => ⟨#[99, 45, 49]⟩
theorem four_any (w : World) (n : Nat) (hn : n < 256) :
    Calls Try.prog 30 #[.int .u8 n] w fun e w' => e = .returned (.string (fourB n)) ∧ Below w.heap.size w w' := by
  have h4 : n % 4 = 0 ∨ n % 4 = 1 ∨ n % 4 = 2 ∨ n % 4 = 3 := by omega
  rcases h4 with h4 | h4 | h4 | h4
  all_goals
    have hm : Int.tmod (n : Int) 4 = ((n % 4 : Nat) : Int) := by rw [Int.tmod_eq_emod_of_nonneg (by omega)]; omega
    rw [h4] at hm
    have e : fourB n = fourB (n % 4) := by simp [fourB]
    rw [h4] at e
    rw [e]
    go_enter Try.func30, Try.ntmps30
    go_wp2_with fail
    go_ret
    exact ⟨rfl, bl1 _ _⟩

def zeros (n : Nat) : ByteArray := ⟨Array.replicate n 0⟩
def stepE (d : Dk) (n : Nat) : Int :=
  if n % 8 ≤ 2 then appendE d (fourB (n / 8)).data.toList (zeros (n / 32 % 50)) else if n % 8 = 3 then createE d (fourB (n / 8)).data.toList else if n % 8 = 4 then syncE d (fourB (n / 8)).data.toList
  else if n % 8 = 5 then renameE d (fourB (n / 8)).data.toList (fourB (n / 32)).data.toList else if n % 8 = 6 then removeE d (fourB (n / 8)).data.toList else 0
def stepD (d : Dk) (n : Nat) : Dk :=
  if n % 8 ≤ 2 then appendD d (fourB (n / 8)).data.toList (zeros (n / 32 % 50)) else if n % 8 = 3 then createD d (fourB (n / 8)).data.toList else if n % 8 = 4 then syncD d (fourB (n / 8)).data.toList
  else if n % 8 = 5 then renameD d (fourB (n / 8)).data.toList (fourB (n / 32)).data.toList else if n % 8 = 6 then removeD d (fourB (n / 8)).data.toList else d
theorem fourB_size (n : Nat) : (fourB n).size ≤ 3 := by unfold fourB; split <;> simp [ByteArray.size]
theorem fourB_max (n : Nat) : (fourB n).size ≤ maxLen := by have := fourB_size n; unfold maxLen; omega
theorem fourB_mod (n : Nat) : fourB (n % 256) = fourB n := by unfold fourB; rw [show n % 256 % 4 = n % 4 by omega]
set_option maxRecDepth 100000 in
theorem step_other (w : World) (b m : Nat) (d : Dk) (n : Nat) (hn : n < 65536) (hge : 3 ≤ n % 8) (h : DAt w b m d) (ok : Fit d) :
    Calls Try.prog 17 #[.pointer (some ⟨b, 0, none⟩), .int .u16 n] w fun e w' => e = .returned (.int .i64 (stepE d n)) ∧ DAt w' b m (stepD d n) ∧ But [b, m] w w' := by
  have h8 : n % 8 = 3 ∨ n % 8 = 4 ∨ n % 8 = 5 ∨ n % 8 = 6 ∨ n % 8 = 7 := by omega
  have HD := Lib.hid h
  have hm : Int.tmod (n : Int) 8 = ((n % 8 : Nat) : Int) := by rw [Int.tmod_eq_emod_of_nonneg (by omega)]; omega
  have f1 : ∀ W, Calls Try.prog 30 #[.int .u8 ((n : Int) / 8 % 256)] W fun e w' => e = .returned (.string (fourB (n / 8))) ∧ Below W.heap.size W w' := by
    intro W
    have := four_any W (n / 8 % 256) (by omega)
    rwa [fourB_mod, show ((n / 8 % 256 : Nat) : Int) = (n : Int) / 8 % 256 by omega] at this
  have f2 : ∀ W, Calls Try.prog 30 #[.int .u8 ((n : Int) / 32 % 256)] W fun e w' => e = .returned (.string (fourB (n / 32))) ∧ Below W.heap.size W w' := by
    intro W
    have := four_any W (n / 32 % 256) (by omega)
    rwa [fourB_mod, show ((n / 32 % 256 : Nat) : Int) = (n : Int) / 32 % 256 by omega] at this
  have F1 := Lib.hid f1
  have F2 := Lib.hid f2
  have HOK := Lib.hid ok
  clear h f1 f2 ok
  rcases h8 with h8 | h8 | h8 | h8 | h8
  case inl =>
    have e1 : stepE d n = createE d (fourB (n / 8)).data.toList ∧ stepD d n = createD d (fourB (n / 8)).data.toList := by simp [stepE, stepD, h8]
    rw [e1.1, e1.2]
    clear e1
    rw [h8] at hm
    go_enter Try.func17, Try.ntmps17
    go_wp2_with fail
    refine (F1.out _).mono ?_
    rintro e w1 ⟨rfl, hb1⟩
    have HD1 := Lib.hid (HD.out.below hb1)
    have HB1 := Lib.hid hb1
    clear hb1
    go_wp2_with fail
    refine (F2.out _).mono ?_
    rintro e w2 ⟨rfl, hb2⟩
    have HD2 := Lib.hid (HD1.out.below hb2)
    have HB2 := Lib.hid (HB1.out.trans (hb2.mono HB1.out.size))
    clear hb2
    go_wp2_with fail
    refine (create_any w2 b m d (fourB (n / 8)) HD2.out (fourB_max _) HOK.out).mono ?_
    rintro e w3 ⟨rfl, hd3, hb3⟩
    have H3 := Lib.hid hd3
    have HB3 := Lib.hid ((But.of_below HB2.out).trans hb3)
    clear hd3 hb3
    go_wp2_with fail
    go_ret
    exact ⟨rfl, H3.out, HB3.out⟩
  case inr.inl =>
    have e1 : stepE d n = syncE d (fourB (n / 8)).data.toList ∧ stepD d n = syncD d (fourB (n / 8)).data.toList := by simp [stepE, stepD, h8]
    rw [e1.1, e1.2]
    clear e1
    rw [h8] at hm
    go_enter Try.func17, Try.ntmps17
    go_wp2_with fail
    refine (F1.out _).mono ?_
    rintro e w1 ⟨rfl, hb1⟩
    have HD1 := Lib.hid (HD.out.below hb1)
    have HB1 := Lib.hid hb1
    clear hb1
    go_wp2_with fail
    refine (F2.out _).mono ?_
    rintro e w2 ⟨rfl, hb2⟩
    have HD2 := Lib.hid (HD1.out.below hb2)
    have HB2 := Lib.hid (HB1.out.trans (hb2.mono HB1.out.size))
    clear hb2
    go_wp2_with fail
    refine (sync_any w2 b m d (fourB (n / 8)) HD2.out (fourB_max _) HOK.out).mono ?_
    rintro e w3 ⟨rfl, hd3, hb3⟩
    have H3 := Lib.hid hd3
    have HB3 := Lib.hid ((But.of_below HB2.out).trans hb3)
    clear hd3 hb3
    go_wp2_with fail
    go_ret
    exact ⟨rfl, H3.out, HB3.out⟩
  case inr.inr.inl =>
    have e1 : stepE d n = renameE d (fourB (n / 8)).data.toList (fourB (n / 32)).data.toList ∧ stepD d n = renameD d (fourB (n / 8)).data.toList (fourB (n / 32)).data.toList := by simp [stepE, stepD, h8]
    rw [e1.1, e1.2]
    clear e1
    rw [h8] at hm
    go_enter Try.func17, Try.ntmps17
    go_wp2_with fail
    refine (F1.out _).mono ?_
    rintro e w1 ⟨rfl, hb1⟩
    have HD1 := Lib.hid (HD.out.below hb1)
    have HB1 := Lib.hid hb1
    clear hb1
    go_wp2_with fail
    refine (F2.out _).mono ?_
    rintro e w2 ⟨rfl, hb2⟩
    have HD2 := Lib.hid (HD1.out.below hb2)
    have HB2 := Lib.hid (HB1.out.trans (hb2.mono HB1.out.size))
    clear hb2
    go_wp2_with fail
    refine (rename_any w2 b m d (fourB (n / 8)) (fourB (n / 32)) HD2.out (fourB_max _) (fourB_max _) HOK.out).mono ?_
    rintro e w3 ⟨rfl, hd3, hb3⟩
    have H3 := Lib.hid hd3
    have HB3 := Lib.hid ((But.of_below HB2.out).trans hb3)
    clear hd3 hb3
    go_wp2_with fail
    go_ret
    exact ⟨rfl, H3.out, HB3.out⟩
  case inr.inr.inr.inl =>
    have e1 : stepE d n = removeE d (fourB (n / 8)).data.toList ∧ stepD d n = removeD d (fourB (n / 8)).data.toList := by simp [stepE, stepD, h8]
    rw [e1.1, e1.2]
    clear e1
    rw [h8] at hm
    go_enter Try.func17, Try.ntmps17
    go_wp2_with fail
    refine (F1.out _).mono ?_
    rintro e w1 ⟨rfl, hb1⟩
    have HD1 := Lib.hid (HD.out.below hb1)
    have HB1 := Lib.hid hb1
    clear hb1
    go_wp2_with fail
    refine (F2.out _).mono ?_
    rintro e w2 ⟨rfl, hb2⟩
    have HD2 := Lib.hid (HD1.out.below hb2)
    have HB2 := Lib.hid (HB1.out.trans (hb2.mono HB1.out.size))
    clear hb2
    go_wp2_with fail
    refine (remove_any w2 b m d (fourB (n / 8)) HD2.out (fourB_max _) HOK.out).mono ?_
    rintro e w3 ⟨rfl, hd3, hb3⟩
    have H3 := Lib.hid hd3
    have HB3 := Lib.hid ((But.of_below HB2.out).trans hb3)
    clear hd3 hb3
    go_wp2_with fail
    go_ret
    exact ⟨rfl, H3.out, HB3.out⟩
  case inr.inr.inr.inr =>
    have e1 : stepE d n = 0 ∧ stepD d n = d := by simp [stepE, stepD, h8]
    rw [e1.1, e1.2]
    clear e1
    rw [h8] at hm
    go_enter Try.func17, Try.ntmps17
    go_wp2_with fail
    refine (F1.out _).mono ?_
    rintro e w1 ⟨rfl, hb1⟩
    have HD1 := Lib.hid (HD.out.below hb1)
    have HB1 := Lib.hid hb1
    clear hb1
    go_wp2_with fail
    refine (F2.out _).mono ?_
    rintro e w2 ⟨rfl, hb2⟩
    have HD2 := Lib.hid (HD1.out.below hb2)
    have HB2 := Lib.hid (HB1.out.trans (hb2.mono HB1.out.size))
    clear hb2
    go_wp2_with fail
    go_ret
    exact ⟨rfl, HD2.out, .of_below HB2.out⟩
end Go.Proofs.Ytmhflhbogkkblaa
