/-
  What is proved here: 'lro.may', for every two states, under 'RulesAt'.
-/
import Derived.Test.YtfnfbnfjgpfmfaaDoorA
namespace Go.Proofs.YtfnfbnfjgpfmfaaDoor
open Go.RowKit

theorem ret_bool {a b : Bool} (h : a = b) : Ending.returned (.bool a) = .returned (.bool b) := by rw [h]

theorem may_nil (st to : Int) (w : World) (x y z ok : Bool)
    (hof : ∀ W : World, W = w → Calls Tryd.prog 17 #[.int .i64 st] W fun e w' => e = .returned (.tuple #[.agg #[.bool x, .bool y, .bool z, .slice none 0 0], .bool ok]) ∧ Below W.heap.size W w') :
    Calls Tryd.prog 18 #[.int .i64 st, .int .i64 to] w fun e w' => e = .returned (.bool false) ∧ Below w.heap.size w w' := by
  have H := Lib.hid hof
  clear hof
  go_enter Tryd.func18, Tryd.ntmps18
  go_wp2_with (go_at_call 17; refine (H.out _ rfl).mono ?_; rintro e w1 ⟨rfl, hb⟩)
  go_loop [17] (fun i => i = .int .i64 0) (fun _ => 0)
  case atStart => rfl
  case round =>
    subst hrel
    go_wp2
    go_ret
    exact ⟨rfl, hb.alloc hb.size _⟩

theorem may_row (st to : Int) (w : World) (x y z ok : Bool) (b o n : Nat) (hn : n ≤ 4) (L : Nat → Int)
    (hc : ∀ i, i < n → w.cell? ⟨b, o + i, none⟩ = some (.int .i64 (L i))) (hb0 : b < w.heap.size)
    (hof : ∀ W : World, W = w → Calls Tryd.prog 17 #[.int .i64 st] W fun e w' => e = .returned (.tuple #[.agg #[.bool x, .bool y, .bool z, .slice (some ⟨b, o, none⟩) n n], .bool ok]) ∧ Below W.heap.size W w') :
    Calls Tryd.prog 18 #[.int .i64 st, .int .i64 to] w fun e w' => (e = .returned (.bool (decide (∃ i, i < n ∧ L i = to)))) ∧ Below w.heap.size w w' := by
  have H := Lib.hid hof
  clear hof
  have HC := Lib.hid hc
  clear hc
  go_enter Tryd.func18, Tryd.ntmps18
  go_wp2_with (go_at_call 17; refine (H.out _ rfl).mono ?_; rintro e w1 ⟨rfl, hb⟩)
  have hsz := hb.size
  have hb1 : b < w1.heap.size := by omega
  go_loop [17] (fun i => ∃ k : Nat, k ≤ n ∧ i = .int .i64 k ∧ ∀ j, j < k → L j ≠ to) (fun i => n - (intOf i).toNat)
  case atStart => exact ⟨0, Nat.zero_le _, rfl, fun j h => by omega⟩
  case round =>
    obtain ⟨k, hk, rfl, hno⟩ := hrel
    have HNO := Lib.hid hno
    clear hno
    by_cases hlt : k < n
    · have hcell : w1.cell? ⟨b, o + k, none⟩ = some (.int .i64 (L k)) := (hb.cell (p := ⟨b, o + k, none⟩) hb0).trans (HC.out k hlt)
      by_cases hl : L k = to
      · have hl' : (L k == to) = true := by simpa using hl
        have HL := Lib.hid hl
        clear hl
        go_wp2
        go_ret
        exact ⟨ret_bool (by simp; exact ⟨k, hlt, HL.out⟩), hb.alloc hb.size _⟩
      · have hl' : (L k == to) = false := by simpa using hl
        go_wp2
        go_round
        case rel => exact ⟨k + 1, by omega, by go_num, fun j hj => by
          by_cases e : j = k
          · subst e; exact hl
          · exact HNO.out j (by omega)⟩
        case measure => simp [intOf]; omega
    · go_wp2
      go_ret
      refine ⟨ret_bool ?_, hb.alloc hb.size _⟩
      symm
      rw [decide_eq_false_iff_not]
      rintro ⟨i, hi, e⟩
      exact HNO.out i (by omega) e

def nextL (st : Int) : List Int := if st = 1 then [2, 3, 4] else if st = 2 then [2, 3, 4, 5] else []
def mayB (st to : Int) : Bool := (nextL st).contains to

theorem may_any (st to : Int) (w : World) (b1 o1 b2 o2 : Nat) (h : RulesAt w b1 o1 b2 o2) :
    Calls Tryd.prog 18 #[.int .i64 st, .int .i64 to] w fun e w' => e = .returned (.bool (mayB st to)) ∧ Below w.heap.size w w' := by
  by_cases hlo : st < 1
  · refine (may_nil st to w _ _ _ _ (fun W e => e ▸ of_lo st w hlo)).mono ?_
    rintro e w' ⟨rfl, hb⟩
    exact ⟨ret_bool (by unfold mayB nextL; rw [if_neg (by omega), if_neg (by omega)]; rfl), hb⟩
  by_cases hhi : 5 < st
  · refine (may_nil st to w _ _ _ _ (fun W e => e ▸ of_hi st w hhi)).mono ?_
    rintro e w' ⟨rfl, hb⟩
    exact ⟨ret_bool (by unfold mayB nextL; rw [if_neg (by omega), if_neg (by omega)]; rfl), hb⟩
  by_cases h1 : st = 1
  · subst h1
    refine (may_row 1 to w _ _ _ _ b1 o1 3 (by omega) (fun i => 2 + i) (fun i hi => ?_) h.h1 (fun W e => e ▸ of_1 w b1 o1 b2 o2 h)).mono ?_
    · match i, hi with
      | 0, _ => exact h.d0
      | 1, _ => exact h.d1
      | 2, _ => exact h.d2
    · rintro e w' ⟨rfl, hb⟩
      refine ⟨ret_bool ?_, hb⟩
      rw [Bool.eq_iff_iff]
      simp only [decide_eq_true_eq, mayB, nextL, if_true, List.contains_eq_mem, List.mem_cons, List.not_mem_nil, or_false]
      constructor
      · rintro ⟨i, hi, e⟩; omega
      · intro e; exact ⟨(to - 2).toNat, by omega, by omega⟩
  by_cases h2 : st = 2
  · subst h2
    refine (may_row 2 to w _ _ _ _ b2 o2 4 (by omega) (fun i => 2 + i) (fun i hi => ?_) h.h2 (fun W e => e ▸ of_2 w b1 o1 b2 o2 h)).mono ?_
    · match i, hi with
      | 0, _ => exact h.e0
      | 1, _ => exact h.e1
      | 2, _ => exact h.e2
      | 3, _ => exact h.e3
    · rintro e w' ⟨rfl, hb⟩
      refine ⟨ret_bool ?_, hb⟩
      rw [Bool.eq_iff_iff]
      simp only [decide_eq_true_eq, mayB, nextL, if_true, if_neg (show ¬ (2 : Int) = 1 by omega), List.contains_eq_mem, List.mem_cons, List.not_mem_nil, or_false]
      constructor
      · rintro ⟨i, hi, e⟩; omega
      · intro e; exact ⟨(to - 2).toNat, by omega, by omega⟩
  have hz : mayB st to = false := by unfold mayB nextL; rw [if_neg (by omega), if_neg (by omega)]; rfl
  rw [hz]
  by_cases h3 : st = 3
  · subst h3; exact may_nil 3 to w _ _ _ _ (fun W e => e ▸ of_3 w b1 o1 b2 o2 h)
  by_cases h4 : st = 4
  · subst h4; exact may_nil 4 to w _ _ _ _ (fun W e => e ▸ of_4 w b1 o1 b2 o2 h)
  obtain rfl : st = 5 := by omega
  exact may_nil 5 to w _ _ _ _ (fun W e => e ▸ of_5 w b1 o1 b2 o2 h)
end Go.Proofs.YtfnfbnfjgpfmfaaDoor
