/-
  redresslaw19.awake.
-/
import Derived.Test.YtcohbfabcdjefaaGreatDoorGb
namespace Go.Proofs.YtcohbfabcdjefaaGreatDoor
open Go.RowKit Go.Maps

/-- a db that was committed to at most k times, little each time -/
def DbB (A B : Nat) (w : World) (tb db : Nat) (M : List It) (k : Nat) : Prop := ∃ logged n z, DbAt A B w tb db M logged n z ∧ logged ≤ 200 * k ∧ n ≤ k ∧ z ≤ 200 * k
variable {A B : Nat} {w : World} {tb db : Nat} {M : List It} {k : Nat}
theorem DbB.below {w' : World} (h : DbB A B w tb db M k) (hb : Below w.heap.size w w') : DbB A B w' tb db M k := by
  obtain ⟨l, n, z, h1, h2⟩ := h; exact ⟨l, n, z, h1.below hb, h2⟩
theorem DbB.commit (h : DbB A B w tb db M k) (hk : k ≤ 70) (v : Value) (L : List It) (hv : RdE w v L) (hok : ∀ x ∈ L, OkE x) (hL : L.length ≤ 2) (hs : sumE L ≤ 100) (hlen : M.length ≤ 100) (hsum : sumE M ≤ 20000) :
    Calls Tryz.prog 9 #[.pointer (some ⟨tb, 0, none⟩), v] w fun e w' => e = .returned (.int .i64 0) ∧ DbB A B w' tb db (putAll M (putAll [] L)) (k + 1) ∧ Below A w w' ∧ Kx [db] tsD w w' := by
  obtain ⟨l, n, z, h1, h2, h3, h4⟩ := h
  refine (commit_any h1 v L hv hok (by omega) (by omega) (by omega) (by omega) (by omega) (by omega) (by omega)).mono fun e w' ⟨he, hc, hb, hk⟩ => ⟨he, ⟨_, _, _, hc, ?_, by omega, ?_⟩, hb, hk⟩
  all_goals
    have g1 := putAll_len (M := []) trivial L
    have g2 := putAll_sum (M := []) trivial L
    simp only [List.length_nil, Nat.zero_add, sumE] at g1 g2
    omega
theorem kH_lt_kI (q n : Nat) : cmpK (kH q) (kI q n) = -1 := by
  show Lib.compareBytes (113 :: 47 :: d1 q :: 47 :: [104]) (113 :: 47 :: d1 q :: 47 :: 105 :: 47 :: num20 n) = -1
  rw [cmp_same, cmp_same, cmp_same, cmp_same]
  rfl
theorem putsN_ok (q b : Nat) (hb : b < 99) (now : Int) (txt : ByteArray) (ht : txt.size ≤ 16368) : ∀ x ∈ putsN q b now txt, OkE x := by
  intro x hx
  have hd : (dec (b + 1)).size ≤ 2 := by rw [dec_size _ (by omega)]; split <;> omega
  have hv := valB_size 0 (u64N now) txt
  simp only [putsN, List.mem_cons, List.not_mem_nil, or_false] at hx
  rcases hx with rfl | rfl
  · exact ⟨by show 0 < (kT q).size; rw [kT_size]; omega, by show (kT q).size ≤ 128; rw [kT_size]; omega, by show (dec (b + 1)).size ≤ _; omega, fun h => by cases h⟩
  · exact ⟨by show 0 < (kI q (b + 1)).size; rw [kI_size]; omega, by show (kI q (b + 1)).size ≤ 128; rw [kI_size]; omega, by show (valB 0 (u64N now) txt).size ≤ _; omega, fun h => by cases h⟩
theorem putsN_sum (q b : Nat) (hb : b < 99) (now : Int) (txt : ByteArray) (ht : txt.size ≤ 20) : sumE (putsN q b now txt) ≤ 100 := by
  have hd : (dec (b + 1)).size ≤ 2 := by rw [dec_size _ (by omega)]; split <;> omega
  have hv := valB_size 0 (u64N now) txt
  have h1 := kT_size q
  have h2 := kI_size q (b + 1)
  simp only [putsN, sumE, szE]
  omega
theorem putsN_all (q b : Nat) (now : Int) (txt : ByteArray) : putAll [] (putsN q b now txt) = [⟨kI q (b + 1), valB 0 (u64N now) txt, false⟩, ⟨kT q, dec (b + 1), false⟩] :=
  put2 _ _ (by show cmpK (kI q (b + 1)) (kT q) < 0; rw [kI_lt_kT]; decide)
/-- a text of one letter -/
def tA : ByteArray := ⟨#[97]⟩
def awI (t d : Nat) : It := ⟨kI 2 1, valB t d tA, false⟩
def awT : It := ⟨kT 2, dec 1, false⟩
theorem aw1 : putAll [] (putAll [] (putsN 2 0 5 tA)) = [awI 0 5, awT] := by
  rw [putsN_all, show u64N 5 = 5 from rfl]
  show putL (putL [] (awI 0 5)) awT = _
  rw [putL_nil, putL_cons, if_pos (by show cmpK (kI 2 1) (kT 2) < 0; rw [kI_lt_kT]; decide), putL_nil]
theorem aw2 : putAll [awI 0 5, awT] (putAll [] [awI 1 9]) = [awI 1 9, awT] := by
  show putL [awI 0 5, awT] (awI 1 9) = _
  have h0 : cmpK (awI 0 5).key (awI 1 9).key = 0 := cmpK_self _
  rw [putL_cons, if_neg (by omega), if_pos h0]
def awH : It := ⟨kH 2, dec 2, false⟩
def awG : It := ⟨kI 2 1, ⟨#[]⟩, true⟩
theorem aw3 : putAll [awI 1 9, awT] (putAll [] [awH, awG]) = [awH, awG, awT] := by
  have e1 : cmpK awH.key awG.key < 0 := by show cmpK (kH 2) (kI 2 1) < 0; rw [kH_lt_kI]; decide
  have e2 : putAll [] [awH, awG] = [awH, awG] := by
    show putL (putL [] awH) awG = _
    rw [putL_nil, putL_cons, if_pos e1, putL_nil]
  rw [e2]
  show putL (putL [awI 1 9, awT] awH) awG = _
  have e3 : cmpK (awI 1 9).key awH.key = 1 := by
    have := cmpK_anti (kH 2) (kI 2 1)
    rw [kH_lt_kI] at this
    exact this
  have e4 : cmpK (awI 1 9).key awG.key = 0 := cmpK_self _
  rw [putL_cons (awI 1 9) [awT] awH, if_neg (by omega), if_neg (by omega), putL_cons awH, if_pos e1, putL_cons (awI 1 9), if_neg (by omega), if_pos e4]
theorem aw_h1 (t d : Nat) : NumR [awI t d, awT] (kH 2) 1 1 := .inl ⟨by
  rw [getL_cons, if_neg (show (awI t d).key ≠ kH 2 from kI_ne_kH 2 1), getL_cons, if_neg (show awT.key ≠ kH 2 from fun e => kH_ne_kT 2 e.symm)]; rfl, rfl⟩
theorem aw_t1 (t d : Nat) : NumR [awI t d, awT] (kT 2) 0 1 := .inr ⟨awT, by
  rw [getL_cons, if_neg (show (awI t d).key ≠ kT 2 from kI_ne_kT 2 1), getL_cons, if_pos (show awT.key = kT 2 from rfl)], rfl, rfl, by omega⟩
theorem aw_i1 (t d : Nat) : getL [awI t d, awT] (kI 2 1) = some ⟨kI 2 1, valB t d tA, false⟩ := by rw [getL_cons, if_pos (show (awI t d).key = kI 2 1 from rfl)]; rfl
theorem aw_h3 : NumR [awH, awG, awT] (kH 2) 1 2 := .inr ⟨awH, by rw [getL_cons, if_pos (show awH.key = kH 2 from rfl)], rfl, rfl, by omega⟩
theorem aw_t3 : NumR [awH, awG, awT] (kT 2) 0 1 := .inr ⟨awT, by
  rw [getL_cons, if_neg (show awH.key ≠ kT 2 from kH_ne_kT 2), getL_cons, if_neg (show awG.key ≠ kT 2 from kI_ne_kT 2 1), getL_cons, if_pos (show awT.key = kT 2 from rfl)], rfl, rfl, by omega⟩
theorem awI_ok (t d : Nat) : OkE (awI t d) := by
  have hv := valB_size t d tA
  have ht : tA.size = 1 := rfl
  exact ⟨by show 0 < (kI 2 1).size; rw [kI_size]; omega, by show (kI 2 1).size ≤ 128; rw [kI_size]; omega, by show (valB t d tA).size ≤ _; omega, fun h => by cases h⟩
theorem awI_sz (t d : Nat) : szE (awI t d) = 43 := by
  have hv := valB_size t d tA
  have ht : tA.size = 1 := rfl
  have h2 := kI_size 2 1
  show (kI 2 1).size + (valB t d tA).size = 43
  omega
theorem aw_sum (t d : Nat) : sumE [awI t d, awT] ≤ 100 := by
  have h1 := awI_sz t d
  have h2 : szE awT = 6 := by
    have e1 : (dec 1).size = 1 := by rw [dec_size 1 (by omega)]; rfl
    show (kT 2).size + (dec 1).size = 6
    rw [e1, kT_size]
  simp only [sumE]; omega
theorem aw_ok3 : ∀ x ∈ [awH, awG], OkE x := by
  intro x hx
  simp only [List.mem_cons, List.not_mem_nil, or_false] at hx
  rcases hx with rfl | rfl
  · have e1 : (dec 2).size = 1 := by rw [dec_size 2 (by omega)]; rfl
    exact ⟨by decide, by decide, by show (dec 2).size ≤ _; rw [e1]; decide, fun h => by cases h⟩
  · exact ⟨by decide, by decide, by decide, fun _ => rfl⟩
theorem aw_neq (W : World) : (binOp .neq 43 (.agg #[.string tA, .int .u64 1, .int .i64 1, .int .i64 9]) (.agg #[.string ⟨#[97]⟩, .int .u64 1, .int .i64 1, .int .i64 9])).run Tryz.prog W = .ok (.bool false) W := by kernel_rfl
set_option maxRecDepth 100000 in
set_option maxHeartbeats 2000000 in
theorem awake_any (w : World) : Calls Tryz.prog 4 #[] w fun e w' => e = .returned (.bool true) ∧ Below w.heap.size w w' := by
  go_enter Tryz.func4, Tryz.ntmps4
  go_wp2_with fail
  refine (new_any w).mono ?_
  rintro e w1 ⟨rfl, hd1, hb1⟩
  have HO := Lib.hid (topen_fresh w.heap.size w1 (w.heap.size + 1) w.heap.size hd1 ⟨by omega, Nat.le_refl _⟩)
  have HB1 := Lib.hid hb1
  obtain ⟨db, hdb⟩ : ∃ db, db = w.heap.size + 1 := ⟨_, rfl⟩
  rw [← hdb] at HO ⊢
  clear hd1 hb1 hdb
  go_wp2_with fail
  refine HO.out.mono ?_
  rintro e w2 ⟨tb, rfl, hdb2, hb2, hk2⟩
  have HD2 := Lib.hid (show DbB w.heap.size w1.heap.size w2 tb db [] 0 from ⟨0, 0, 0, hdb2, by omega, by omega, by omega⟩)
  have HB2 := Lib.hid (HB1.out.trans hb2)
  clear hdb2 hb2 hk2 HO
  go_wp2_with fail
  obtain ⟨l2, n2, z2, hd, _⟩ := HD2.out
  refine (add_ok hd (by simp) 2 1 0 (by omega) (.inl ⟨rfl, rfl⟩) (.inl ⟨rfl, rfl⟩) (by omega) (by omega) 5 tA (by decide) (by decide)).mono ?_
  clear hd
  rintro e w3 ⟨b3, rfl, hr3, hb3⟩
  have HD3 := Lib.hid (HD2.out.below hb3)
  have HR3 := Lib.hid hr3
  have HB3 := Lib.hid (HB2.out.trans (hb3.mono HB2.out.size))
  clear hr3 hb3
  go_wp2_with fail
  refine (HD3.out.commit (by omega) _ _ HR3.out (putsN_ok 2 0 (by omega) 5 tA (by decide)) (by decide) (putsN_sum 2 0 (by omega) 5 tA (by decide)) (by simp) (by simp [sumE])).mono ?_
  rw [aw1]
  rintro e w4 ⟨rfl, hd4, hb4, _⟩
  have HD4 := Lib.hid hd4
  have HB4 := Lib.hid (HB3.out.trans hb4)
  clear hd4 hb4
  go_wp2_with fail
  obtain ⟨l4, n4, z4, hd, _⟩ := HD4.out
  refine (tried_ok hd (by simp) 2 1 1 (by omega) (aw_h1 0 5) (aw_t1 0 5) (by omega) (by omega) (by omega) 0 5 tA (by omega) (by omega) (by decide) (aw_i1 0 5) 9).mono ?_
  clear hd
  rw [show u64N 9 = 9 from rfl]
  rintro e w5 ⟨b5, rfl, hr5, hb5⟩
  have HD5 := Lib.hid (HD4.out.below hb5)
  have HR5 := Lib.hid (show RdE w5 (.slice (some ⟨b5, 0, none⟩) 1 1) [awI 1 9] from hr5)
  have HB5 := Lib.hid (HB4.out.trans (hb5.mono HB4.out.size))
  clear hr5 hb5
  go_wp2_with fail
  refine (HD5.out.commit (by omega) _ _ HR5.out (fun x hx => by rw [List.mem_singleton.1 hx]; exact awI_ok 1 9) (by simp) (by have := awI_sz 1 9; simp only [sumE]; omega) (by simp) (by have := aw_sum 0 5; omega)).mono ?_
  rw [aw2]
  rintro e w6 ⟨rfl, hd6, hb6, _⟩
  have HD6 := Lib.hid hd6
  have HB6 := Lib.hid (HB5.out.trans hb6)
  clear hd6 hb6
  go_wp2_with fail
  obtain ⟨l6, n6, z6, hd, _⟩ := HD6.out
  refine (head_any hd (by simp) 2 1 1 (by omega) (aw_h1 1 9) (aw_t1 1 9) (by omega) (by omega) (by omega) 1 9 tA (by omega) (by omega) (by decide) (aw_i1 1 9)).mono ?_
  clear hd
  unfold headV
  rintro e w7 ⟨rfl, hb7⟩
  have HD7 := Lib.hid (HD6.out.below hb7)
  have HB7 := Lib.hid (HB6.out.trans (hb7.mono HB6.out.size))
  have hq := aw_neq
  clear hb7
  go_wp2_with fail
  have HD8 := Lib.hid (HD7.out.below (bl1 w7 (.cells #[.string tA, .int .u64 1, .int .i64 1, .int .i64 9] 43)))
  have HB8 := Lib.hid (HB7.out.alloc HB7.out.size (.cells #[.string tA, .int .u64 1, .int .i64 1, .int .i64 9] 43))
  obtain ⟨l8, n8, z8, hd, _⟩ := HD8.out
  refine (done_ok hd (by simp) 2 1 1 (by omega) (aw_h1 1 9) (aw_t1 1 9) (by omega) (by omega) (by omega) 1 9 tA (by omega) (by omega) (by decide) (aw_i1 1 9)).mono ?_
  clear hd
  rintro e w9 ⟨b9, rfl, hr9, hb9⟩
  have HD9 := Lib.hid (HD8.out.below hb9)
  have HR9 := Lib.hid (show RdE w9 (.slice (some ⟨b9, 0, none⟩) 2 2) [awH, awG] from hr9)
  have HB9 := Lib.hid (HB8.out.trans (hb9.mono HB8.out.size))
  clear hr9 hb9
  go_wp2_with fail
  refine (HD9.out.commit (by omega) _ _ HR9.out aw_ok3 (by simp) (by
    have e1 : (dec 2).size = 1 := by rw [dec_size 2 (by omega)]; rfl
    have h1 : szE awH = 6 := by show (kH 2).size + (dec 2).size = 6; rw [e1, kH_size]
    have h2 : szE awG = 26 := rfl
    simp only [sumE]; omega) (by simp) (by have := aw_sum 1 9; omega)).mono ?_
  rw [aw3]
  rintro e w10 ⟨rfl, hd10, hb10, _⟩
  have HD10 := Lib.hid hd10
  have HB10 := Lib.hid (HB9.out.trans hb10)
  clear hd10 hb10
  go_wp2_with fail
  obtain ⟨l10, n10, z10, hd, _⟩ := HD10.out
  refine (count_any hd (by simp) 2 2 1 (by omega) aw_h3 aw_t3 (by omega) (by omega)).mono ?_
  clear hd
  rw [show cntN 2 1 = 0 from rfl]
  rintro e w11 ⟨rfl, hb11⟩
  have HB11 := Lib.hid (HB10.out.trans (hb11.mono HB10.out.size))
  clear hb11
  go_wp2_with fail
  go_ret
  exact ⟨rfl, HB11.out⟩
end Go.Proofs.YtcohbfabcdjefaaGreatDoor
