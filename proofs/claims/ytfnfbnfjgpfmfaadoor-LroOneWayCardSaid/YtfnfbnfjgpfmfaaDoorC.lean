/-
  What is proved here: 'lro.Check', for every operation, under 'RulesAt'.
-/
import Derived.Test.YtfnfbnfjgpfmfaaDoorB
namespace Go.Proofs.YtfnfbnfjgpfmfaaDoor
open Go.RowKit

theorem bcell {W w1 : World} (hb : Below W.heap.size W w1) : (∀ b o, b < W.heap.size → w1.cell? ⟨b, o, none⟩ = W.cell? ⟨b, o, none⟩) ∧ (∀ b o, b < W.heap.size → w1.frozen? ⟨b, o, none⟩ = W.frozen? ⟨b, o, none⟩) :=
  ⟨fun b o h => hb.cell (p := ⟨b, o, none⟩) h, fun b o h => hb.frozen (p := ⟨b, o, none⟩) h⟩

theorem ret_int {k : IntKind} {a b : Int} (h : a = b) : Ending.returned (.int k a) = .returned (.int k b) := by rw [h]

def rightB (st c : Int) (v : ByteArray) (d : Int) : Bool :=
  decide (1 ≤ st ∧ st ≤ 5 ∧ 0 ≤ d ∧ d ≤ 1099511627776 ∧ v.size ≤ 4096 ∧ (if st = 4 then 1 ≤ c ∧ c ≤ 2147483647 else c = 0 ∧ (st = 3 ∨ v.toList = [])))
def chk (st c : Int) (v : ByteArray) (d : Int) : Int := if rightB st c v d then 0 else 1

set_option maxHeartbeats 400000 in
theorem check_lo (st : Int) (c : Int) (v : ByteArray) (d : Int) (w : World) (hst : st < 1) :
    Calls Tryd.prog 7 #[opV st c v d] w fun e w' => e = .returned (.int .i64 (chk st c v d)) ∧ Below w.heap.size w w' := by
  go_enter Tryd.func7, Tryd.ntmps7
  go_wp2_with (go_at_call 17; refine (of_lo _ _ hst).mono ?_; rintro e w1 ⟨rfl, hb⟩; obtain ⟨hc1, hf1⟩ := bcell hb; have hz1 : w.heap.size < w1.heap.size := by (have := hb.size; simp at this; omega))
  all_goals
    go_ret
    exact ⟨ret_int (by simp [chk, rightB]; first | omega | (go_tidy; simp_all; try omega)), ((((Below.refl _ _).alloc (Nat.le_refl _) _).trans (hb.mono (by simp))).alloc (by omega) _)⟩
set_option maxHeartbeats 400000 in
theorem check_hi (st : Int) (c : Int) (v : ByteArray) (d : Int) (w : World) (hst : 5 < st) :
    Calls Tryd.prog 7 #[opV st c v d] w fun e w' => e = .returned (.int .i64 (chk st c v d)) ∧ Below w.heap.size w w' := by
  go_enter Tryd.func7, Tryd.ntmps7
  go_wp2_with (go_at_call 17; refine (of_hi _ _ hst).mono ?_; rintro e w1 ⟨rfl, hb⟩; obtain ⟨hc1, hf1⟩ := bcell hb; have hz1 : w.heap.size < w1.heap.size := by (have := hb.size; simp at this; omega))
  all_goals
    go_ret
    exact ⟨ret_int (by simp [chk, rightB]; first | omega | (go_tidy; simp_all; try omega)), ((((Below.refl _ _).alloc (Nat.le_refl _) _).trans (hb.mono (by simp))).alloc (by omega) _)⟩
set_option maxHeartbeats 400000 in
theorem check_1 (c : Int) (v : ByteArray) (d : Int) (w : World) (b1 o1 b2 o2 : Nat) (h : RulesAt w b1 o1 b2 o2) :
    Calls Tryd.prog 7 #[opV 1 c v d] w fun e w' => e = .returned (.int .i64 (chk 1 c v d)) ∧ Below w.heap.size w w' := by
  have H := Lib.hid h
  clear h
  go_enter Tryd.func7, Tryd.ntmps7
  go_wp2_with (go_at_call 17; refine (of_1 _ b1 o1 b2 o2 (H.out.below ((Below.refl _ _).alloc (Nat.le_refl _) _))).mono ?_; rintro e w1 ⟨rfl, hb⟩; obtain ⟨hc1, hf1⟩ := bcell hb; have hz1 : w.heap.size < w1.heap.size := by (have := hb.size; simp at this; omega))
  all_goals
    go_ret
    exact ⟨ret_int (by simp [chk, rightB]; first | omega | (go_tidy; simp_all; try omega)), ((((Below.refl _ _).alloc (Nat.le_refl _) _).trans (hb.mono (by simp))).alloc (by omega) _)⟩
set_option maxHeartbeats 400000 in
theorem check_2 (c : Int) (v : ByteArray) (d : Int) (w : World) (b1 o1 b2 o2 : Nat) (h : RulesAt w b1 o1 b2 o2) :
    Calls Tryd.prog 7 #[opV 2 c v d] w fun e w' => e = .returned (.int .i64 (chk 2 c v d)) ∧ Below w.heap.size w w' := by
  have H := Lib.hid h
  clear h
  go_enter Tryd.func7, Tryd.ntmps7
  go_wp2_with (go_at_call 17; refine (of_2 _ b1 o1 b2 o2 (H.out.below ((Below.refl _ _).alloc (Nat.le_refl _) _))).mono ?_; rintro e w1 ⟨rfl, hb⟩; obtain ⟨hc1, hf1⟩ := bcell hb; have hz1 : w.heap.size < w1.heap.size := by (have := hb.size; simp at this; omega))
  all_goals
    go_ret
    exact ⟨ret_int (by simp [chk, rightB]; first | omega | (go_tidy; simp_all; try omega)), ((((Below.refl _ _).alloc (Nat.le_refl _) _).trans (hb.mono (by simp))).alloc (by omega) _)⟩
set_option maxHeartbeats 400000 in
theorem check_3 (c : Int) (v : ByteArray) (d : Int) (w : World) (b1 o1 b2 o2 : Nat) (h : RulesAt w b1 o1 b2 o2) :
    Calls Tryd.prog 7 #[opV 3 c v d] w fun e w' => e = .returned (.int .i64 (chk 3 c v d)) ∧ Below w.heap.size w w' := by
  have H := Lib.hid h
  clear h
  go_enter Tryd.func7, Tryd.ntmps7
  go_wp2_with (go_at_call 17; refine (of_3 _ b1 o1 b2 o2 (H.out.below ((Below.refl _ _).alloc (Nat.le_refl _) _))).mono ?_; rintro e w1 ⟨rfl, hb⟩; obtain ⟨hc1, hf1⟩ := bcell hb; have hz1 : w.heap.size < w1.heap.size := by (have := hb.size; simp at this; omega))
  all_goals
    go_ret
    exact ⟨ret_int (by simp [chk, rightB]; first | omega | (go_tidy; simp_all; try omega)), ((((Below.refl _ _).alloc (Nat.le_refl _) _).trans (hb.mono (by simp))).alloc (by omega) _)⟩
set_option maxHeartbeats 400000 in
theorem check_4 (c : Int) (v : ByteArray) (d : Int) (w : World) (b1 o1 b2 o2 : Nat) (h : RulesAt w b1 o1 b2 o2) :
    Calls Tryd.prog 7 #[opV 4 c v d] w fun e w' => e = .returned (.int .i64 (chk 4 c v d)) ∧ Below w.heap.size w w' := by
  have H := Lib.hid h
  clear h
  go_enter Tryd.func7, Tryd.ntmps7
  go_wp2_with (go_at_call 17; refine (of_4 _ b1 o1 b2 o2 (H.out.below ((Below.refl _ _).alloc (Nat.le_refl _) _))).mono ?_; rintro e w1 ⟨rfl, hb⟩; obtain ⟨hc1, hf1⟩ := bcell hb; have hz1 : w.heap.size < w1.heap.size := by (have := hb.size; simp at this; omega))
  all_goals
    go_ret
    exact ⟨ret_int (by simp [chk, rightB]; first | omega | (go_tidy; simp_all; try omega)), ((((Below.refl _ _).alloc (Nat.le_refl _) _).trans (hb.mono (by simp))).alloc (by omega) _)⟩
set_option maxHeartbeats 400000 in
theorem check_5 (c : Int) (v : ByteArray) (d : Int) (w : World) (b1 o1 b2 o2 : Nat) (h : RulesAt w b1 o1 b2 o2) :
    Calls Tryd.prog 7 #[opV 5 c v d] w fun e w' => e = .returned (.int .i64 (chk 5 c v d)) ∧ Below w.heap.size w w' := by
  have H := Lib.hid h
  clear h
  go_enter Tryd.func7, Tryd.ntmps7
  go_wp2_with (go_at_call 17; refine (of_5 _ b1 o1 b2 o2 (H.out.below ((Below.refl _ _).alloc (Nat.le_refl _) _))).mono ?_; rintro e w1 ⟨rfl, hb⟩; obtain ⟨hc1, hf1⟩ := bcell hb; have hz1 : w.heap.size < w1.heap.size := by (have := hb.size; simp at this; omega))
  all_goals
    go_ret
    exact ⟨ret_int (by simp [chk, rightB]; first | omega | (go_tidy; simp_all; try omega)), ((((Below.refl _ _).alloc (Nat.le_refl _) _).trans (hb.mono (by simp))).alloc (by omega) _)⟩
end Go.Proofs.YtfnfbnfjgpfmfaaDoor
