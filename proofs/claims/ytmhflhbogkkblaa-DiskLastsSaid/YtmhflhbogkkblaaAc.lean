/-
  The acts that a law is given ('[]Act'): how they lie in memory; 'Great'.
-/
import Derived.Test.YtmhflhbogkkblaaIn
import Derived.Test.YtmhflhbogkkblaaW
namespace Go.Proofs.Ytmhflhbogkkblaa
open Go.RowKit Go.Maps

structure Act where
  dw : Int
  name : ByteArray
  to : ByteArray
  data : ByteArray
  n : Int
  ka : Option Addr
  kn : Nat
  kc : Nat
  ks : List Int
def Act.vals (a : Act) : List Value := [.int .i64 a.dw, .string a.name, .string a.to, .string a.data, .int .i64 a.n, .slice a.ka a.kn a.kc]
structure ActOk (w : World) (a : Act) : Prop where
  dw : -9223372036854775808 ≤ a.dw ∧ a.dw ≤ 9223372036854775807
  name : a.name.size ≤ maxLen
  to : a.to.size ≤ maxLen
  data : a.data.size ≤ maxLen
  n : -9223372036854775808 ≤ a.n ∧ a.n ≤ 9223372036854775807
  kn : a.kn ≤ 9223372036854775807
  len : a.ks.length = a.kn
  ks : 0 < a.kn → ∃ kb ko, a.ka = some ⟨kb, ko, none⟩ ∧ ∀ i, i < a.kn → w.cell? ⟨kb, ko + i, none⟩ = some (.int .i64 (a.ks.getD i 0))
/-- a slice of acts -/
structure ActsAt (w : World) (la : Option Addr) (l : List Act) : Prop where
  ok : ∀ a ∈ l, ActOk w a
  cells : 0 < l.length → ∃ lb lo, la = some ⟨lb, lo, none⟩ ∧ ∀ i (hi : i < l.length) j v, l[i].vals[j]? = some v → w.cell? ⟨lb, lo + i * 6 + j, none⟩ = some v

theorem ActsAt.below {w w' : World} {la : Option Addr} {l : List Act} (h : ActsAt w la l) (hb : Below w.heap.size w w') : ActsAt w' la l := by
  refine ⟨fun a ha => ?_, fun h0 => ?_⟩
  · have k := h.ok a ha
    refine ⟨k.dw, k.name, k.to, k.data, k.n, k.kn, k.len, fun h1 => ?_⟩
    obtain ⟨kb, ko, e, hc⟩ := k.ks h1
    exact ⟨kb, ko, e, fun i hi => (hb.cell (p := ⟨kb, ko + i, none⟩) (cell_lt (hc i hi))).trans (hc i hi)⟩
  · obtain ⟨lb, lo, e, hc⟩ := h.cells h0
    exact ⟨lb, lo, e, fun i hi j v hv => (hb.cell (p := ⟨lb, lo + i * 6 + j, none⟩) (cell_lt (hc i hi j v hv))).trans (hc i hi j v hv)⟩

def weigh (a : Act) : Nat := min a.data.size 30000 + min a.kn 30000
def sumW (l : List Act) : Nat := (l.map weigh).sum
def greatB (l : List Act) : Bool := decide (80 < l.length) || decide (20000 < sumW (l.take 81))
theorem sumW_step (l : List Act) (i : Nat) (hi : i < l.length) : sumW (l.take (i + 1)) = sumW (l.take i) + weigh l[i] := by
  unfold sumW
  rw [List.take_succ_eq_append_getElem hi, List.map_append, List.sum_append]
  simp
theorem sumW_le : ∀ l : List Act, sumW l ≤ l.length * 60000
  | [] => by simp [sumW]
  | a :: r => by
    have := sumW_le r
    simp only [sumW, List.map_cons, List.sum_cons, List.length_cons, weigh] at this ⊢
    omega
theorem weigh_mem {l : List Act} {a : Act} (h : a ∈ l) : weigh a ≤ sumW l := by
  unfold sumW
  induction l with
  | nil => cases h
  | cons x r ih =>
    rw [List.map_cons, List.sum_cons]
    rcases List.mem_cons.1 h with rfl | h
    · omega
    · have := ih h; omega
theorem great_no {l : List Act} (h : greatB l = false) : l.length ≤ 80 ∧ ∀ a ∈ l, a.data.size ≤ 20000 ∧ a.kn ≤ 20000 := by
  simp only [greatB, Bool.or_eq_false_iff, decide_eq_false_iff_not] at h
  refine ⟨by omega, fun a ha => ?_⟩
  rw [List.take_of_length_le (by omega)] at h
  have := weigh_mem ha
  unfold weigh at this
  omega

set_option maxRecDepth 100000 in
set_option maxHeartbeats 1000000 in
theorem great_any (w : World) (la : Option Addr) (lc : Nat) (l : List Act) (hl : l.length ≤ 9223372036854775807) (h : ActsAt w la l) :
    Calls Try.prog 19 #[.slice la l.length lc] w fun e w' => e = .returned (.bool (greatB l)) ∧ Below w.heap.size w w' := by
  have H := Lib.hid h
  clear h
  go_enter Try.func19, Try.ntmps19
  go_wp2_with fail
  go_loopw [3, 4] (fun n i wr => ∃ I : Nat, I ≤ l.length ∧ I ≤ 81 ∧ i = .int .i64 I ∧ n = .int .i64 (sumW (l.take I)) ∧ Hid (Below w.heap.size w wr)) (fun _ i _ => 81 - (intOf i).toNat)
  case atStart => exact ⟨0, by omega, by omega, rfl, rfl, Below.refl _ _⟩
  case round =>
    obtain ⟨I, hI, hI2, rfl, rfl, HB⟩ := hrel
    have hsl := sumW_le (l.take I)
    have hsl2 : (l.take I).length ≤ 81 := by rw [List.length_take]; omega
    by_cases hlt : I < l.length
    · by_cases hlt2 : I ≤ 80
      · obtain ⟨lb, lo, rfl, hc⟩ := H.out.cells (by omega)
        have hc3 := hc I hlt 3 _ rfl
        have hc5 := hc I hlt 5 _ rfl
        have q3 := (HB.out.cell (p := ⟨lb, lo + I * 6 + 3, none⟩) (cell_lt hc3)).trans hc3
        have q5 := (HB.out.cell (p := ⟨lb, lo + I * 6 + 5, none⟩) (cell_lt hc5)).trans hc5
        have HS := Lib.hid (sumW_step l I hlt)
        clear hc hc3 hc5
        generalize l[I] = a at *
        go_wp2_with fail
        have g1 : (I : Int) < (l.length : Int) := by omega
        go_quiet (fail)
        go_wp2_with fail
        clear g1
        exact ⟨⟨I + 1, by omega, by omega, by go_num, by rw [HS.out]; unfold weigh; go_num, Lib.hid (below_drewN HB.out nq)⟩, by simp [intOf]; omega⟩
      · have e81 : l.take 81 = l.take I := by rw [show I = 81 by omega]
        have HG := Lib.hid (show greatB l = (decide (80 < l.length) || decide (20000 < sumW (l.take I))) by rw [greatB, e81])
        have h80 : 80 < l.length := by omega
        clear e81
        go_wp2_with fail
        go_ret
        refine ⟨ret_bool ?_, HB.out⟩
        rw [HG.out]
        simp [h80]
    · have e81 : l.take 81 = l.take I := by rw [List.take_of_length_le (by omega), List.take_of_length_le (by omega)]
      have HG := Lib.hid (show greatB l = (decide (80 < l.length) || decide (20000 < sumW (l.take I))) by rw [greatB, e81])
      clear e81
      by_cases h80 : 80 < l.length
      · go_wp2_with fail
        go_ret
        refine ⟨ret_bool ?_, HB.out⟩
        rw [HG.out]
        simp [h80]
      · by_cases hs : 20000 < sumW (l.take I)
        · go_wp2_with fail
          go_ret
          refine ⟨ret_bool ?_, HB.out⟩
          rw [HG.out]
          simp [hs]; omega
        · go_wp2_with fail
          go_ret
          refine ⟨ret_bool ?_, HB.out⟩
          rw [HG.out]
          simp [h80, hs]; omega
end Go.Proofs.Ytmhflhbogkkblaa
