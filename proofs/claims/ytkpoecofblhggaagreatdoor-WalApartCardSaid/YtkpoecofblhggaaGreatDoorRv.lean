/-
  The acts that WalApart is given ('[]Act'): how they lie in memory; 'Great'.
-/
import Derived.Test.YtkpoecofblhggaaGreatDoorIn
import Derived.Deep.QuietTactic
namespace Go.Proofs.YtkpoecofblhggaaGreatDoor
open Go.RowKit Go.Maps

structure Act where
  dw : Int
  body : ByteArray
  tm : Nat
  n : Int
  ka : Option Addr
  kn : Nat
  kc : Nat
def Act.vals (a : Act) : List Value := [.int .i64 a.dw, .string a.body, .int .u8 a.tm, .int .i64 a.n, .slice a.ka a.kn a.kc]
structure ActOk (a : Act) : Prop where
  body : a.body.size ≤ maxLen
  tm : a.tm < 256
  kn : a.kn ≤ 9223372036854775807
/-- a slice of acts -/
structure ActsAt (w : World) (la : Option Addr) (l : List Act) : Prop where
  ok : ∀ a ∈ l, ActOk a
  cells : 0 < l.length → ∃ lb lo, la = some ⟨lb, lo, none⟩ ∧ ∀ i (hi : i < l.length) j v, l[i].vals[j]? = some v → w.cell? ⟨lb, lo + i * 5 + j, none⟩ = some v
theorem ActsAt.below {w w' : World} {la : Option Addr} {l : List Act} (h : ActsAt w la l) (hb : Below w.heap.size w w') : ActsAt w' la l := by
  refine ⟨h.ok, fun h0 => ?_⟩
  obtain ⟨lb, lo, e, hc⟩ := h.cells h0
  exact ⟨lb, lo, e, fun i hi j v hv => (hb.cell (p := ⟨lb, lo + i * 5 + j, none⟩) (cell_lt (hc i hi j v hv))).trans (hc i hi j v hv)⟩

def bigB (a : Act) : Bool := decide (300000 < a.body.size) || decide (1000 < a.kn)
def weigh (a : Act) : Nat := a.body.size * (1 + a.tm)
def sumW (l : List Act) : Nat := (l.map weigh).sum
def greatB (l : List Act) : Bool := (l.take 61).any bigB || decide (60 < l.length) || decide (300000 < sumW (l.take 61))
theorem sumW_step (l : List Act) (i : Nat) (hi : i < l.length) : sumW (l.take (i + 1)) = sumW (l.take i) + weigh l[i] := by
  unfold sumW
  rw [List.take_succ_eq_append_getElem hi, List.map_append, List.sum_append]
  simp
theorem sumW_mono (l : List Act) {i j : Nat} (h : i ≤ j) : sumW (l.take i) ≤ sumW (l.take j) := by
  have e : l.take j = l.take i ++ (l.take j).drop i := by
    have := List.take_append_drop i (l.take j)
    rw [List.take_take, Nat.min_eq_left h] at this
    exact this.symm
  rw [e]
  unfold sumW
  rw [List.map_append, List.sum_append]
  omega
/-- acts that are not too great -/
theorem great_no {l : List Act} (h : greatB l = false) : l.length ≤ 60 ∧ (∀ a ∈ l, a.body.size ≤ 300000 ∧ a.kn ≤ 1000) ∧ ∀ i, sumW (l.take i) ≤ 300000 := by
  simp only [greatB, Bool.or_eq_false_iff, decide_eq_false_iff_not] at h
  obtain ⟨⟨h1, h2⟩, h3⟩ := h
  have hl : l.length ≤ 60 := by omega
  have e : l.take 61 = l := List.take_of_length_le (by omega)
  rw [e] at h1 h3
  refine ⟨hl, fun a ha => ?_, fun i => ?_⟩
  · have := List.any_eq_false.1 h1 a ha
    simp only [bigB, Bool.or_eq_true, decide_eq_true_eq, not_or] at this
    omega
  · by_cases hi : i ≤ l.length
    · have := sumW_mono l hi
      rw [List.take_length] at this
      omega
    · rw [List.take_of_length_le (by omega)]; omega
theorem any_step (l : List Act) (i : Nat) (hi : i < l.length) : (l.take (i + 1)).any bigB = ((l.take i).any bigB || bigB l[i]) := by
  rw [List.take_succ_eq_append_getElem hi, List.any_append]
  simp
theorem any_more (l : List Act) {i : Nat} (hi : i < l.length) (h61 : i < 61) (h : bigB l[i] = true) : greatB l = true := by
  have : (l.take 61).any bigB = true := by
    rw [List.any_eq_true]
    exact ⟨l[i], List.mem_take_iff_getElem.2 ⟨i, by omega, rfl⟩, h⟩
  unfold greatB
  rw [this]
  rfl

set_option maxRecDepth 100000 in
set_option maxHeartbeats 2000000 in
theorem great_any (w : World) (la : Option Addr) (lc : Nat) (l : List Act) (hl : l.length ≤ 9223372036854775807) (h : ActsAt w la l) :
    Calls Tryz.prog 20 #[.slice la l.length lc] w fun e w' => e = .returned (.bool (greatB l)) ∧ Below w.heap.size w w' := by
  have H := Lib.hid h
  clear h
  go_enter Tryz.func20, Tryz.ntmps20
  go_wp2_with fail
  go_loopw [3, 4] (fun n i wr => ∃ I S : Nat, I ≤ l.length ∧ I ≤ 61 ∧ i = .int .i64 I ∧ n = .int .i64 S ∧ Hid (S = sumW (l.take I)) ∧ S ≤ I * 76800000 ∧ Hid ((l.take I).any bigB = false) ∧ Hid (Below w.heap.size w wr)) (fun _ i _ => 61 - (intOf i).toNat)
  case atStart => exact ⟨0, 0, by omega, by omega, rfl, rfl, rfl, by omega, rfl, Below.refl _ _⟩
  case round =>
    obtain ⟨I, S, hI, hI2, rfl, rfl, HS, hS, HA, HB⟩ := hrel
    by_cases hlt : I < l.length
    · by_cases hlt2 : I ≤ 60
      · obtain ⟨lb, lo, rfl, hc⟩ := H.out.cells (by omega)
        have hc1 := hc I hlt 1 _ rfl
        have hc2 := hc I hlt 2 _ rfl
        have hc4 := hc I hlt 4 _ rfl
        have q1 := (HB.out.cell (p := ⟨lb, lo + I * 5 + 1, none⟩) (cell_lt hc1)).trans hc1
        have q2 := (HB.out.cell (p := ⟨lb, lo + I * 5 + 2, none⟩) (cell_lt hc2)).trans hc2
        have q4 := (HB.out.cell (p := ⟨lb, lo + I * 5 + 4, none⟩) (cell_lt hc4)).trans hc4
        have HW := Lib.hid (sumW_step l I hlt)
        have HN := Lib.hid (any_step l I hlt)
        have HM := Lib.hid (any_more l hlt (by omega))
        have hok := H.out.ok l[I] (List.getElem_mem hlt)
        have hok1 := hok.tm
        have hok2 := hok.kn
        clear hc hc1 hc2 hc4 hok
        unfold weigh at HW
        unfold bigB at HN HM
        generalize l[I] = a at *
        by_cases hb1 : 300000 < a.body.size
        · have HG := Lib.hid (HM.out (by simp [hb1]))
          go_wp2_with fail
          go_ret
          exact ⟨ret_bool HG.out.symm, HB.out⟩
        · by_cases hb2 : 1000 < a.kn
          · have HG := Lib.hid (HM.out (by simp [hb2]))
            go_wp2_with fail
            go_ret
            exact ⟨ret_bool HG.out.symm, HB.out⟩
          · have HP := Lib.hid (show a.body.size * (1 + a.tm) ≤ 76800000 from Nat.mul_le_mul (show a.body.size ≤ 300000 by omega) (show 1 + a.tm ≤ 256 by omega))
            have hpi : (0 : Int) ≤ (a.body.size : Int) * (1 + (a.tm : Int)) ∧ (a.body.size : Int) * (1 + (a.tm : Int)) ≤ 76800000 := by
              have h1 := HP.out
              have h2 : ((a.body.size * (1 + a.tm) : Nat) : Int) = (a.body.size : Int) * (1 + (a.tm : Int)) := by simp
              rw [← h2]; omega
            have hw1 : IntKind.i64.wrap (a.tm : Int) = (a.tm : Int) := IntWalk.i64_in _ (by omega)
            have hw2 : IntKind.i64.wrap (1 + (a.tm : Int)) = 1 + (a.tm : Int) := IntWalk.i64_in _ (by omega)
            have hw3 : IntKind.i64.wrap ((a.body.size : Int) * (1 + (a.tm : Int))) = (a.body.size : Int) * (1 + (a.tm : Int)) := IntWalk.i64_in _ (by omega)
            have hw4 : IntKind.i64.wrap ((S : Int) + (a.body.size : Int) * (1 + (a.tm : Int))) = (S : Int) + (a.body.size : Int) * (1 + (a.tm : Int)) := IntWalk.i64_in _ (by omega)
            go_wp2_with fail
            go_quiet (fail)
            go_wp2_with fail
            refine ⟨⟨I + 1, S + a.body.size * (1 + a.tm), by omega, by omega, by go_num, ?_, ?_, (by have := HP.out; omega), ?_, Lib.hid (below_drewN HB.out nq)⟩, by simp [intOf]; omega⟩
            · first | rfl | (congr 1; simp) | simp
            · refine Lib.hid ?_
              rw [HW.out, HS.out]
            · refine Lib.hid ?_
              rw [show ((l.take (I + 1)).any bigB) = _ from HN.out]
              rw [show ((l.take I).any fun a => decide (300000 < a.body.size) || decide (1000 < a.kn)) = false from HA.out]
              simp [hb1, hb2]
      · have e61 : l.take 61 = l.take I := by rw [show I = 61 by omega]
        have HG := Lib.hid (show greatB l = (decide (60 < l.length) || decide (300000 < S)) by rw [greatB, e61, HA.out, HS.out]; rfl)
        have h60 : 60 < l.length := by omega
        clear e61
        go_wp2_with fail
        go_ret
        refine ⟨ret_bool ?_, HB.out⟩
        rw [HG.out]
        simp [h60]
    · have e61 : l.take 61 = l.take I := by rw [List.take_of_length_le (by omega), List.take_of_length_le (by omega)]
      have HG := Lib.hid (show greatB l = (decide (60 < l.length) || decide (300000 < S)) by rw [greatB, e61, HA.out, HS.out]; rfl)
      clear e61
      by_cases h60 : 60 < l.length
      · go_wp2_with fail
        go_ret
        refine ⟨ret_bool ?_, HB.out⟩
        rw [HG.out]
        simp [h60]
      · by_cases hs : 300000 < S
        · go_wp2_with fail
          go_ret
          refine ⟨ret_bool ?_, HB.out⟩
          rw [HG.out]
          simp [hs]; try omega
        · go_wp2_with fail
          go_ret
          refine ⟨ret_bool ?_, HB.out⟩
          rw [HG.out]
          simp [h60, hs]; try omega
end Go.Proofs.YtkpoecofblhggaaGreatDoor
