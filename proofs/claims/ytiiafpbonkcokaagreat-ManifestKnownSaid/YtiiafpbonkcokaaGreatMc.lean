/-
  'right', 'key', 'Less', 'Compare'.
-/
import Derived.Test.YtiiafpbonkcokaaGreatMa
import Derived.Deep.QuietTactic
import Derived.BigQuiet
namespace Go.Proofs.YtiiafpbonkcokaaGreat
open Go.RowKit Go.Maps

theorem key1_any (w : World) (s : ByteArray) : Calls Tryz.prog 61 #[.string s] w fun e w' => e = .returned (.bool (keyB s)) ∧ w = w' := by
  by_cases h0 : 0 < s.size
  · have hk : keyB s = decide ((s.size : Int) ≤ 128) := by unfold keyB; simp [h0]; omega
    rw [hk]
    clear hk
    go_enter Tryz.func61, Tryz.ntmps61
    go_wp2
    go_ret
    exact ⟨rfl, rfl⟩
  · have hk : keyB s = false := by unfold keyB; simp [h0]
    rw [hk]
    clear hk
    go_enter Tryz.func61, Tryz.ntmps61
    go_wp2
    go_ret
    exact ⟨rfl, rfl⟩
theorem key_any (w : World) (s : ByteArray) : Calls Tryz.prog 52 #[.string s] w fun e w' => e = .returned (.bool (keyB s)) ∧ w = w' := by
  by_cases h0 : 1 ≤ s.size
  · have hk : keyB s = decide ((s.size : Int) ≤ 128) := by unfold keyB; simp [show 0 < s.size from h0]; omega
    rw [hk]
    clear hk
    go_enter Tryz.func52, Tryz.ntmps52
    go_wp2
    go_ret
    exact ⟨rfl, rfl⟩
  · have hk : keyB s = false := by unfold keyB; simp [show ¬ 0 < s.size from h0]
    rw [hk]
    clear hk
    go_enter Tryz.func52, Tryz.ntmps52
    go_wp2
    go_ret
    exact ⟨rfl, rfl⟩
theorem nan_any (w : World) (a : Int) : Calls Tryz.prog 60 #[.int .i64 a] w fun e w' => e = .returned (.bool false) ∧ w = w' := by
  go_enter Tryz.func60, Tryz.ntmps60
  go_wp2
  go_ret
  exact ⟨rfl, rfl⟩
def cmpI (a b : Int) : Int := if a < b then -1 else if b < a then 1 else 0
theorem compare_any (w : World) (a b : Int) : Calls Tryz.prog 42 #[.int .i64 a, .int .i64 b] w fun e w' => e = .returned (.int .i64 (cmpI a b)) ∧ w = w' := by
  have H := Lib.hid (fun (c : Int) => nan_any w c)
  by_cases h1 : a < b
  · have hk : cmpI a b = -1 := by unfold cmpI; rw [if_pos h1]
    rw [hk]
    clear hk
    go_enter Tryz.func42, Tryz.ntmps42
    go_wp2_with (go_at_call 60; refine (H.out _).mono ?_; rintro e w' ⟨rfl, rfl⟩)
    go_ret
    exact ⟨rfl, rfl⟩
  · by_cases h2 : b < a
    · have hk : cmpI a b = 1 := by unfold cmpI; rw [if_neg h1, if_pos h2]
      rw [hk]
      clear hk
      go_enter Tryz.func42, Tryz.ntmps42
      go_wp2_with (go_at_call 60; refine (H.out _).mono ?_; rintro e w' ⟨rfl, rfl⟩)
      go_ret
      exact ⟨rfl, rfl⟩
    · have hk : cmpI a b = 0 := by unfold cmpI; rw [if_neg h1, if_neg h2]
      rw [hk]
      clear hk
      go_enter Tryz.func42, Tryz.ntmps42
      go_wp2_with (go_at_call 60; refine (H.out _).mono ?_; rintro e w' ⟨rfl, rfl⟩)
      go_ret
      exact ⟨rfl, rfl⟩

set_option maxRecDepth 100000 in
set_option maxHeartbeats 1000000 in
theorem right_any (w : World) (f : Fi) : Calls Tryz.prog 45 #[fiv f] w fun e w' => e = .returned (.bool (rightB f)) ∧ Below w.heap.size w w' := by
  obtain ⟨n, l, c, a, b⟩ := f
  have HR := Lib.hid (show rightB ⟨n, l, c, a, b⟩ = (decide (0 ≤ l) && decide (l < 4) && decide (1 ≤ c) && decide (c ≤ 4096) && keyB a && keyB b && sLe a b && (sEq a b == (c == 1))) from rfl)
  generalize rightB ⟨n, l, c, a, b⟩ = r at *
  show Calls _ _ #[.agg #[.int .i64 n, .int .i64 l, .int .i64 c, .string a, .string b]] _ _
  have KA := Lib.hid (fun W => key1_any W a)
  have KB := Lib.hid (fun W => key1_any W b)
  generalize hka : keyB a = ka at *
  generalize hkb : keyB b = kb at *
  clear hka hkb
  go_enter Tryz.func45, Tryz.ntmps45
  go_wp2_with (first | (go_at_call 61; ((with_reducible refine (KA.out _).mono ?_); rintro e w' ⟨rfl, rfl⟩)) | (go_at_call 61; ((with_reducible refine (KB.out _).mono ?_); rintro e w' ⟨rfl, rfl⟩)))
  all_goals
    go_ret
    refine ⟨ret_bool ?_, bl1 _ _⟩
    rw [HR.out]
    clear HR KA KB
    go_tidy
    simp only [sLe, sEq]
    first | (simp [*]; done) | (simp [*]; omega) | go_goals
end Go.Proofs.YtiiafpbonkcokaaGreat
