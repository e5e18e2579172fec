/-
  redressref19: is, Bars, Rest, Add.
-/
import Derived.Test.YtcohbfabcdjefaaGreatDoorGc
namespace Go.Proofs.YtcohbfabcdjefaaGreatDoor
open Go.RowKit Go.Maps

theorem ris_any (q : Int) (w : World) : Calls Tryz.prog 20 #[.int .i64 q] w fun e w' => e = .returned (.bool (decide (0 ≤ q) && decide (q < 8))) ∧ w = w' := by
  by_cases h1 : 0 ≤ q
  · go_enter Tryz.func20, Tryz.ntmps20
    go_wp2_with fail
    go_ret
    exact ⟨ret_bool (by simp [h1]), rfl⟩
  · go_enter Tryz.func20, Tryz.ntmps20
    go_wp2_with fail
    go_ret
    exact ⟨ret_bool (by simp; omega), rfl⟩
theorem ris_ok (q : Nat) (hq : q < 8) (w : World) : Calls Tryz.prog 20 #[.int .i64 q] w fun e w' => e = .returned (.bool true) ∧ w = w' := by
  have := ris_any q w
  rwa [show (decide (0 ≤ (q : Int)) && decide ((q : Int) < 8)) = true by simp; omega] at this
set_option maxRecDepth 100000 in
theorem bars_ok (w : World) (cs : Array Value) (q n c : Nat) (a : Option Addr) (hq : q < 8) (hn : n < 1000) (hcs : cs[q]? = some (.slice a n c)) (txt : ByteArray) (ht : txt.size ≤ 16368) :
    Calls Tryz.prog 8 #[.agg cs, .int .i64 q, .string txt] w fun e w' => e = .returned (.int .i64 (if 64 ≤ n then 6 else 0)) ∧ Below w.heap.size w w' := by
  have HS := Lib.hid (ris_ok q hq)
  have c1 : (w.alloc (.cells cs 35)).cell? ⟨w.heap.size, q, none⟩ = some (.slice a n c) := by show (match (w.alloc (.cells cs 35)).heap[w.heap.size]? with | some (.cells c _ _) => c[q]? | _ => none) = _; rw [heap_alloc_new]; exact hcs
  have HB := Lib.hid (bl1 w (.cells cs 35))
  clear hcs
  by_cases h64 : 64 ≤ n
  all_goals
    first | rw [if_pos h64] | rw [if_neg h64]
    go_enter Tryz.func8, Tryz.ntmps8
    go_wp2_with fail
    refine (HS.out _).mono ?_
    rintro e w1 ⟨rfl, rfl⟩
    go_wp2_with fail
    go_ret
    exact ⟨rfl, HB.out⟩
theorem bars_bad (w : World) (cs : Array Value) (q : Int) (hq : (decide (0 ≤ q) && decide (q < 8)) = false) (txt : ByteArray) :
    Calls Tryz.prog 8 #[.agg cs, .int .i64 q, .string txt] w fun e w' => e = .returned (.int .i64 1) ∧ Below w.heap.size w w' := by
  have HS := Lib.hid (ris_any q)
  rw [hq] at HS
  have HB := Lib.hid (bl1 w (.cells cs 35))
  go_enter Tryz.func8, Tryz.ntmps8
  go_wp2_with fail
  refine (HS.out _).mono ?_
  rintro e w1 ⟨rfl, rfl⟩
  go_wp2_with fail
  go_ret
  exact ⟨rfl, HB.out⟩
theorem bars_long (w : World) (cs : Array Value) (q : Nat) (hq : q < 8) (txt : ByteArray) (ht : 16368 < txt.size) :
    Calls Tryz.prog 8 #[.agg cs, .int .i64 q, .string txt] w fun e w' => e = .returned (.int .i64 3) ∧ Below w.heap.size w w' := by
  have HS := Lib.hid (ris_ok q hq)
  have HB := Lib.hid (bl1 w (.cells cs 35))
  go_enter Tryz.func8, Tryz.ntmps8
  go_wp2_with fail
  refine (HS.out _).mono ?_
  rintro e w1 ⟨rfl, rfl⟩
  go_wp2_with fail
  go_ret
  exact ⟨rfl, HB.out⟩
/-- a box of seventeen cells -/
def bxA (f : Nat → Value) : Array Value := #[f 0, f 1, f 2, f 3, f 4, f 5, f 6, f 7, f 8, f 9, f 10, f 11, f 12, f 13, f 14, f 15, f 16]
theorem bxA_get (f : Nat → Value) (i : Nat) (h : i < 17) : (bxA f)[i]? = some (f i) := by
  rcases i with _ | _ | _ | _ | _ | _ | _ | _ | _ | _ | _ | _ | _ | _ | _ | _ | _ | i <;> first | rfl | omega
set_option maxRecDepth 100000 in
/-- Rest, from Bars -/
theorem rest_of (w : World) (f : Nat → Value) (q e : Int) (txt : ByteArray) (hB : ∀ W, Calls Tryz.prog 8 #[.agg (bxA f), .int .i64 q, .string txt] W fun e' w' => e' = .returned (.int .i64 e) ∧ Below W.heap.size W w') :
    Calls Tryz.prog 12 #[.agg (bxA f), .int .i64 q, .string txt] w fun e' w' => e' = .returned (.int .i64 (if e = 6 then 0 else e)) ∧ Below w.heap.size w w' := by
  unfold bxA at hB ⊢
  have HB := Lib.hid hB
  have HA := Lib.hid (bl1 w (.cells #[f 0, f 1, f 2, f 3, f 4, f 5, f 6, f 7, f 8, f 9, f 10, f 11, f 12, f 13, f 14, f 15, f 16] 35))
  clear hB
  by_cases h6 : e = 6
  all_goals
    first | rw [if_pos h6] | rw [if_neg h6]
    go_enter Tryz.func12, Tryz.ntmps12
    go_wp2_with fail
    refine (HB.out _).mono ?_
    rintro e1 w1 ⟨rfl, hb1⟩
    have HB1 := Lib.hid (HA.out.trans (hb1.mono HA.out.size))
    clear hb1
    go_wp2_with fail
    go_ret
    exact ⟨rfl, HB1.out⟩
end Go.Proofs.YtcohbfabcdjefaaGreatDoor
