/-
  package outbox: number, ends, Count.
-/
import Derived.Test.YtcohbfabcdjefaaGreatDoorEw
namespace Go.Proofs.YtcohbfabcdjefaaGreatDoor
open Go.RowKit Go.Maps

/-- the number that stands under a key, or the other one -/
def NumR (M : List It) (k : ByteArray) (nn r : Nat) : Prop := (getL M k = none ∧ r = nn) ∨ (∃ x, getL M k = some x ∧ x.gone = false ∧ x.val = dec r ∧ r < 100)
variable {A B : Nat} {w : World} {tb db : Nat} {M : List It} {logged n z : Nat}
set_option maxRecDepth 100000 in
theorem number_any (h : DbAt A B w tb db M logged n z) (hM : M.length ≤ 1000000) (k : ByteArray) (nn r : Nat) (hr : NumR M k nn r) :
    Calls Tryz.prog 56 #[.pointer (some ⟨tb, 0, none⟩), .string k, .int .u64 nn] w fun e w' => e = .returned (.int .u64 r) ∧ Below w.heap.size w w' := by
  have HG := Lib.hid (tget_any h k hM)
  clear h
  rcases hr with ⟨hg, rfl⟩ | ⟨x, hg, hx1, hx2, hx3⟩
  · rw [hg] at HG
    unfold askV at HG
    go_enter Tryz.func56, Tryz.ntmps56
    go_wp2_with fail
    refine HG.out.mono ?_
    rintro e w1 ⟨rfl, hb⟩
    have HB := Lib.hid hb
    clear hb
    go_wp2_with fail
    go_ret
    exact ⟨rfl, HB.out⟩
  · rw [hg] at HG
    simp only [askV, hx1, hx2, Bool.not_false] at HG
    have HP := Lib.hid (fun W => parseU_dec r hx3 W)
    generalize dec r = s at *
    clear hg hx1 hx2 hx3
    go_enter Tryz.func56, Tryz.ntmps56
    go_wp2_with fail
    refine HG.out.mono ?_
    rintro e w1 ⟨rfl, hb⟩
    have HB := Lib.hid hb
    clear hb
    go_wp2_with fail
    refine (HP.out _).mono ?_
    rintro e w2 ⟨rfl, hb⟩
    have HB2 := Lib.hid (HB.out.trans (hb.mono HB.out.size))
    clear hb
    go_wp2_with fail
    go_ret
    exact ⟨rfl, HB2.out⟩
/-- a key of three parts, its slice just built -/
theorem key3 (a b c : ByteArray) (W : World) (bk : Nat) (h : W.heap[bk]? = some (.cells #[.string a, .string b, .string c] 9 (0, 0))) (hl : a.size + b.size + c.size ≤ 1000) :
    Calls Tryz.prog 25 #[.slice (some ⟨bk, 0, none⟩) 3 3] W fun e w' => e = .returned (.string (joinB [a, b, c])) ∧ Below W.heap.size W w' := by
  refine key_any bk 3 [a, b, c] W (fun j x hj => ?_) (heap_lt h) (by simp) (by simp) ?_
  · rw [World.cell?, h]
    match j, hj with
    | 0, hj => cases hj; rfl
    | 1, hj => cases hj; rfl
    | 2, hj => cases hj; rfl
  · have e : ∀ s : ByteArray, s.data.toList.length = s.size := len_list
    simp only [Lib.join, List.intercalate, List.map_cons, List.map_nil, List.intersperse, List.flatten_cons, List.flatten_nil, List.length_append, List.length_cons, List.length_nil, e]
    omega
set_option maxRecDepth 100000 in
set_option maxHeartbeats 1000000 in
theorem ends_any (h : DbAt A B w tb db M logged n z) (hM : M.length ≤ 1000000) (q a b : Nat) (hq : q < 8) (hH : NumR M (kH q) 1 a) (hT : NumR M (kT q) 0 b) :
    Calls Tryz.prog 24 #[.pointer (some ⟨tb, 0, none⟩), .int .i64 q] w fun e w' => e = .returned (.tuple #[.int .u64 a, .int .u64 b]) ∧ Below w.heap.size w w' := by
  have HI := Lib.hid (itoa_dec q (by omega) w)
  have HD := Lib.hid h
  have HN1 := Lib.hid (fun W (hb : Below w.heap.size w W) => number_any (h.below hb) hM (kH q) 1 a hH)
  have HN2 := Lib.hid (fun W (hb : Below w.heap.size w W) => number_any (h.below hb) hM (kT q) 0 b hT)
  have HK1 := Lib.hid (join_kH q hq)
  have HK2 := Lib.hid (join_kT q hq)
  have hdz : (dec q).size = 1 := by rw [dec_size q (by omega), if_pos (by omega)]
  have HK3 := Lib.hid (fun W bk (hk : W.heap[bk]? = some (.cells #[.string ⟨#[113]⟩, .string (dec q), .string ⟨#[104]⟩] 9 (0, 0))) => key3 ⟨#[113]⟩ (dec q) ⟨#[104]⟩ W bk hk (by rw [hdz]; decide))
  have HK4 := Lib.hid (fun W bk (hk : W.heap[bk]? = some (.cells #[.string ⟨#[113]⟩, .string (dec q), .string ⟨#[116]⟩] 9 (0, 0))) => key3 ⟨#[113]⟩ (dec q) ⟨#[116]⟩ W bk hk (by rw [hdz]; decide))
  rw [HK1.out] at HK3
  rw [HK2.out] at HK4
  generalize dec q = s at *
  generalize kH q = x1 at *
  generalize kT q = x2 at *
  clear h hdz hH hT HK1 HK2
  go_enter Tryz.func24, Tryz.ntmps24
  go_wp2_with fail
  refine HI.out.mono ?_
  rintro e w1 ⟨rfl, rfl⟩
  go_wp2_with fail
  refine (HK3.out _ _ (heap_alloc_new w _)).mono ?_
  rintro e w2 ⟨rfl, hb2⟩
  have HB2 := Lib.hid ((bl1 w _).trans (hb2.mono (by simp)))
  clear hb2
  go_wp2_with fail
  refine (HN1.out w2 HB2.out).mono ?_
  rintro e w3 ⟨rfl, hb3⟩
  have HB3 := Lib.hid (HB2.out.trans (hb3.mono HB2.out.size))
  clear hb3
  go_wp2_with fail
  refine (HK4.out _ _ (heap_alloc_new w3 _)).mono ?_
  rintro e w4 ⟨rfl, hb4⟩
  have HB4 := Lib.hid (HB3.out.trans (((bl1 w3 _).trans (hb4.mono (by simp))).mono HB3.out.size))
  clear hb4
  go_wp2_with fail
  refine (HN2.out w4 HB4.out).mono ?_
  rintro e w5 ⟨rfl, hb5⟩
  have HB5 := Lib.hid (HB4.out.trans (hb5.mono HB4.out.size))
  clear hb5
  go_wp2_with fail
  go_ret2
  exact ⟨rfl, HB5.out⟩
/-- how many wait -/
def cntN (a b : Nat) : Nat := if b < a then 0 else b - a + 1
set_option maxRecDepth 100000 in
theorem count_any (h : DbAt A B w tb db M logged n z) (hM : M.length ≤ 1000000) (q a b : Nat) (hq : q < 8) (hH : NumR M (kH q) 1 a) (hT : NumR M (kT q) 0 b) (ha : a ≤ 1000) (hb : b ≤ 1000) :
    Calls Tryz.prog 17 #[.pointer (some ⟨tb, 0, none⟩), .int .i64 q] w fun e w' => e = .returned (.int .i64 (cntN a b : Nat)) ∧ Below w.heap.size w w' := by
  have HS := Lib.hid (show Calls Tryz.prog 23 #[.int .i64 q] w fun e w' => e = .returned (.bool true) ∧ w = w' from by
    have := is_any q w
    rwa [show (decide (0 ≤ (q : Int)) && decide ((q : Int) < 8)) = true by simp; omega] at this)
  have HE := Lib.hid (ends_any h hM q a b hq hH hT)
  clear h hH hT
  unfold cntN
  by_cases hlt : b < a
  · rw [if_pos hlt]
    go_enter Tryz.func17, Tryz.ntmps17
    go_wp2_with fail
    refine HS.out.mono ?_
    rintro e w1 ⟨rfl, rfl⟩
    go_wp2_with fail
    refine HE.out.mono ?_
    rintro e w1 ⟨rfl, hb1⟩
    have HB := Lib.hid hb1
    clear hb1
    go_wp2_with fail
    go_ret
    exact ⟨rfl, HB.out⟩
  · rw [if_neg hlt]
    have g1 : IntKind.u64.wrap ((b : Int) - (a : Int)) = (b : Int) - (a : Int) := by rw [IntKind.wrap_u64]; omega
    have g2 : IntKind.u64.wrap ((b : Int) - (a : Int) + 1) = (b : Int) - (a : Int) + 1 := by rw [IntKind.wrap_u64]; omega
    have g3 : wrap64 ((b : Int) - (a : Int) + 1) = (b : Int) - (a : Int) + 1 := IntWalk.wrap64_in _ ⟨by omega, by omega⟩
    go_enter Tryz.func17, Tryz.ntmps17
    go_wp2_with fail
    refine HS.out.mono ?_
    rintro e w1 ⟨rfl, rfl⟩
    go_wp2_with fail
    refine HE.out.mono ?_
    rintro e w1 ⟨rfl, hb1⟩
    have HB := Lib.hid hb1
    clear hb1
    go_wp2_with fail
    go_ret
    exact ⟨ret_int (by omega), HB.out⟩
theorem count_bad (w : World) (p : Addr) (q : Int) (hq : (decide (0 ≤ q) && decide (q < 8)) = false) :
    Calls Tryz.prog 17 #[.pointer (some p), .int .i64 q] w fun e w' => e = .returned (.int .i64 0) ∧ w = w' := by
  have HS := Lib.hid (is_any q w)
  rw [hq] at HS
  go_enter Tryz.func17, Tryz.ntmps17
  go_wp2_with fail
  refine HS.out.mono ?_
  rintro e w1 ⟨rfl, rfl⟩
  go_wp2_with fail
  go_ret
  exact ⟨rfl, rfl⟩
theorem count_nil (w : World) (q : Int) :
    Calls Tryz.prog 17 #[.pointer none, .int .i64 q] w fun e w' => e = .returned (.int .i64 0) ∧ w = w' := by
  go_enter Tryz.func17, Tryz.ntmps17
  go_wp2_with fail
  go_ret
  exact ⟨rfl, rfl⟩
end Go.Proofs.YtcohbfabcdjefaaGreatDoor
