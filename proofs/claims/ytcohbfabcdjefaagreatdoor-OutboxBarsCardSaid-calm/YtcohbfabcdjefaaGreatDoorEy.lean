/-
  package outbox: Item.value, Next, Add.
-/
import Derived.Test.YtcohbfabcdjefaaGreatDoorEx
namespace Go.Proofs.YtcohbfabcdjefaaGreatDoor
open Go.RowKit Go.Maps

/-- a number's bits, as no sign is looked at -/
def u64N (x : Int) : Nat := (x % 18446744073709551616).toNat
theorem u64N_lt (x : Int) : u64N x < 18446744073709551616 := by unfold u64N; omega
theorem u64N_wrap (x : Int) : IntKind.u64.wrap x = (u64N x : Nat) := by rw [IntKind.wrap_u64]; unfold u64N; omega
theorem u64N_nat (n : Nat) (h : n < 18446744073709551616) : u64N n = n := by unfold u64N; omega
/-- an item's bytes -/
def valB (t d : Nat) (txt : ByteArray) : ByteArray := bA (le8 t) ++ bA (le8 d) ++ txt
theorem valB_size (t d : Nat) (txt : ByteArray) : (valB t d txt).size = 16 + txt.size := by
  unfold valB; rw [ByteArray.size_append, ByteArray.size_append, bA_size, bA_size, le8_len, le8_len]
set_option maxRecDepth 100000 in
set_option maxHeartbeats 2000000 in
theorem value_any (w : World) (txt : ByteArray) (seq t : Nat) (due : Int) (ht : t < 1000000) (htx : txt.size ≤ 1000000) :
    Calls Tryz.prog 29 #[.agg #[.string txt, .int .u64 seq, .int .i64 t, .int .i64 due]] w fun e w' => e = .returned (.string (valB t (u64N due) txt)) ∧ Below w.heap.size w w' := by
  obtain ⟨W, hW⟩ : ∃ W, W = w.alloc (.cells #[.string txt, .int .u64 seq, .int .i64 t, .int .i64 due] 43 (0, 0)) := ⟨_, rfl⟩
  have hq : W.heap[w.heap.size]? = some (.cells #[.string txt, .int .u64 seq, .int .i64 t, .int .i64 due] 43 (0, 0)) := by rw [hW]; exact heap_alloc_new w _
  have HBW := Lib.hid (show Below w.heap.size w W by rw [hW]; exact bl1 w _)
  have HW := Lib.hid hW
  have HQ := Lib.hid hq
  have HP1 := Lib.hid (fun W' => oput_any W' t (by omega))
  have HP2 := Lib.hid (fun W' => oput_any W' (u64N due) (u64N_lt due))
  have g1 : IntKind.u64.wrap due = (u64N due : Nat) := u64N_wrap due
  have g2 : IntKind.u64.wrap (t : Int) = (t : Nat) := by rw [IntKind.wrap_u64]; omega
  have hz1 : (bA (le8 t)).size = 8 := by rw [bA_size, le8_len]
  have hz2 : (bA (le8 (u64N due))).size = 8 := by rw [bA_size, le8_len]
  have HV := Lib.hid (show valB t (u64N due) txt = bA (le8 t) ++ bA (le8 (u64N due)) ++ txt from rfl)
  have g3 : ¬ 9223372036854775807 < (bA (le8 t)).size + (bA (le8 (u64N due))).size := by omega
  have g4 : ¬ 9223372036854775807 < (bA (le8 t) ++ bA (le8 (u64N due))).size + txt.size := by rw [ByteArray.size_append]; omega
  have g5 : ¬ 9223372036854775807 < (bA (le8 t)).size + (bA (le8 (u64N due))).size + txt.size := by omega
  generalize bA (le8 t) = s1 at *
  generalize bA (le8 (u64N due)) = s2 at *
  generalize valB t (u64N due) txt = s3 at *
  generalize u64N due = d at *
  have HS := Lib.hid (show ∀ W' : World, W'.heap[w.heap.size]? = some (.cells #[.string txt, .int .u64 seq, .int .i64 t, .int .i64 due] 43 (0, 0)) → (W'.cell? ⟨w.heap.size, 0, none⟩ = some (.string txt) ∧ W'.cell? ⟨w.heap.size, 2, none⟩ = some (.int .i64 t) ∧ W'.cell? ⟨w.heap.size, 3, none⟩ = some (.int .i64 due)) from fun W' h => ⟨by simp [World.cell?, h], by simp [World.cell?, h], by simp [World.cell?, h]⟩)
  clear hW hq hz1 hz2
  go_enter Tryz.func29, Tryz.ntmps29
  go_wp2_with fail
  rw [← HW.out]
  have hqd : W.drew.heap[w.heap.size]? = some (.cells #[.string txt, .int .u64 seq, .int .i64 t, .int .i64 due] 43 (0, 0)) := HQ.out
  have HQD := Lib.hid hqd
  clear hqd
  go_region_held3 (fun w' => w'.cell? ⟨w.heap.size, 0, none⟩ = some (.string txt) ∧ w'.cell? ⟨w.heap.size, 2, none⟩ = some (.int .i64 t) ∧ w'.cell? ⟨w.heap.size, 3, none⟩ = some (.int .i64 due))
    (first | with_reducible exact HS.out _ HQD.out | with_reducible exact HS.out _ Q1.out | with_reducible exact HS.out _ Q2.out | assumption)
    (first
      | (go_at_call 60; ((with_reducible refine (HP1.out W.drew).mono ?_); rintro e w1 ⟨rfl, hb1⟩; have Q1 := Lib.hid ((hb1.block w.heap.size (heap_lt HQD.out)).trans HQD.out); have B1 := Lib.hid hb1; clear hb1))
      | (go_at_call 60; ((with_reducible refine (HP2.out w1).mono ?_); rintro e w2 ⟨rfl, hb2⟩; have Q2 := Lib.hid ((hb2.block w.heap.size (heap_lt Q1.out)).trans Q1.out); have B2 := Lib.hid hb2; clear hb2)))
  all_goals
    go_wp2_with fail
    go_ret
    exact ⟨by rw [HV.out]; rfl, (HBW.out.drew.trans (B1.out.mono HBW.out.size)).trans (B2.out.mono (Nat.le_trans HBW.out.size (show W.heap.size ≤ w1.heap.size from B1.out.size)))⟩
variable {A B : Nat} {w : World} {tb db : Nat} {M : List It} {logged n z : Nat}
theorem onext_nil (w : World) (q now : Int) (txt : ByteArray) : Calls Tryz.prog 11 #[.pointer none, .int .i64 q, .string txt, .int .i64 now] w fun e w' => e = .returned (.tuple #[.slice none 0 0, .int .i64 2]) ∧ w = w' := by
  go_enter Tryz.func11, Tryz.ntmps11
  go_wp2_with fail
  go_ret2
  exact ⟨rfl, rfl⟩
theorem onext_bad (w : World) (p : Addr) (q now : Int) (txt : ByteArray) (hq : (decide (0 ≤ q) && decide (q < 8)) = false) : Calls Tryz.prog 11 #[.pointer (some p), .int .i64 q, .string txt, .int .i64 now] w fun e w' => e = .returned (.tuple #[.slice none 0 0, .int .i64 1]) ∧ w = w' := by
  have HS := Lib.hid (is_any q w)
  rw [hq] at HS
  clear hq
  go_enter Tryz.func11, Tryz.ntmps11
  go_wp2_with fail
  refine HS.out.mono ?_
  rintro e w1 ⟨rfl, rfl⟩
  go_wp2_with fail
  go_ret2
  exact ⟨rfl, rfl⟩
theorem is_ok (q : Nat) (hq : q < 8) (w : World) : Calls Tryz.prog 23 #[.int .i64 q] w fun e w' => e = .returned (.bool true) ∧ w = w' := by
  have := is_any q w
  rwa [show (decide (0 ≤ (q : Int)) && decide ((q : Int) < 8)) = true by simp; omega] at this
theorem onext_long (w : World) (p : Addr) (q : Nat) (hq : q < 8) (now : Int) (txt : ByteArray) (ht : 16368 < txt.size) (ht2 : txt.size ≤ maxLen) : Calls Tryz.prog 11 #[.pointer (some p), .int .i64 q, .string txt, .int .i64 now] w fun e w' => e = .returned (.tuple #[.slice none 0 0, .int .i64 3]) ∧ w = w' := by
  have HS := Lib.hid (is_ok q hq w)
  have g1 : (16368 : Int) < (txt.size : Int) := by omega
  go_enter Tryz.func11, Tryz.ntmps11
  go_wp2_with fail
  refine HS.out.mono ?_
  rintro e w1 ⟨rfl, rfl⟩
  go_wp2_with fail
  go_ret2
  exact ⟨rfl, rfl⟩
/-- two puts in memory -/
theorem rd2 {w : World} {bk : Nat} {a b : It} (h : w.heap[bk]? = some (.cells #[.string a.key, .string a.val, .bool a.gone, .string b.key, .string b.val, .bool b.gone] 73 (0, 0))) : RdE w (.slice (some ⟨bk, 0, none⟩) 2 2) [a, b] :=
  ⟨⟨_, 2, rfl, Nat.le_refl _, by unfold maxLen; simp, fun _ => ⟨bk, rfl, heap_lt h, fun i hi => by
    match i, hi with
    | 0, _ => exact ⟨by simp [World.cell?, h], by simp [World.cell?, h], by simp [World.cell?, h]⟩
    | 1, _ => exact ⟨by simp [World.cell?, h], by simp [World.cell?, h], by simp [World.cell?, h]⟩⟩⟩⟩
/-- what Next puts -/
def putsN (q b : Nat) (now : Int) (txt : ByteArray) : List It := [⟨kT q, dec (b + 1), false⟩, ⟨kI q (b + 1), valB 0 (u64N now) txt, false⟩]
set_option maxRecDepth 100000 in
set_option maxHeartbeats 2000000 in
theorem onext_ok (h : DbAt A B w tb db M logged n z) (hM : M.length ≤ 1000000) (q a b : Nat) (hq : q < 8) (hH : NumR M (kH q) 1 a) (hT : NumR M (kT q) 0 b) (hb : b < 99) (now : Int) (txt : ByteArray) (ht : txt.size ≤ 16368) :
    Calls Tryz.prog 11 #[.pointer (some ⟨tb, 0, none⟩), .int .i64 q, .string txt, .int .i64 now] w fun e w' => ∃ bk, e = .returned (.tuple #[.slice (some ⟨bk, 0, none⟩) 2 2, .int .i64 0]) ∧ RdE w' (.slice (some ⟨bk, 0, none⟩) 2 2) (putsN q b now txt) ∧ Below w.heap.size w w' := by
  have HS := Lib.hid (is_ok q hq w)
  have HE := Lib.hid (ends_any h hM q a b hq hH hT)
  have HI := Lib.hid (fun W => itoa_dec q (by omega) W)
  have HF := Lib.hid (fun W => fmt_dec (b + 1) (by omega) W)
  have HK := Lib.hid (fun W => ikey_any q (b + 1) hq (by omega) W)
  have HV := Lib.hid (show ∀ W, Calls Tryz.prog 29 #[.agg #[.string txt, .int .u64 ((b + 1 : Nat) : Int), .int .i64 0, .int .i64 now]] W fun e w' => e = .returned (.string (valB 0 (u64N now) txt)) ∧ Below W.heap.size W w' from fun W => value_any W txt (b + 1) 0 now (by omega) (by omega))
  have hdz : (dec q).size = 1 := by rw [dec_size q (by omega), if_pos (by omega)]
  have HK4 := Lib.hid (fun W bk (hk : W.heap[bk]? = some (.cells #[.string ⟨#[113]⟩, .string (dec q), .string ⟨#[116]⟩] 9 (0, 0))) => key3 ⟨#[113]⟩ (dec q) ⟨#[116]⟩ W bk hk (by rw [hdz]; decide))
  rw [join_kT q hq] at HK4
  have g1 : ¬ (16368 : Int) < (txt.size : Int) := by omega
  have g2 : IntKind.u64.wrap ((b : Int) + 1) = ((b + 1 : Nat) : Int) := by rw [IntKind.wrap_u64]; omega
  unfold putsN
  generalize dec q = s at *
  generalize dec (b + 1) = s1 at *
  generalize kT q = s2 at *
  generalize kI q (b + 1) = s3 at *
  generalize valB 0 (u64N now) txt = s4 at *
  clear h hdz hH hT
  generalize hb1 : b + 1 = b1 at *
  have HB1 := Lib.hid hb1
  clear hb1
  go_enter Tryz.func11, Tryz.ntmps11
  go_wp2_with fail
  refine HS.out.mono ?_
  rintro e w1 ⟨rfl, rfl⟩
  go_wp2_with fail
  refine HE.out.mono ?_
  rintro e w1 ⟨rfl, hb1⟩
  have HBW := Lib.hid hb1
  clear hb1
  go_wp2_with fail
  obtain ⟨W, hW⟩ : ∃ W, W = w1.alloc (.cells #[.string txt, .int .u64 b1, .int .i64 0, .int .i64 now] 43 (0, 0)) := ⟨_, rfl⟩
  have hx : W.heap[w1.heap.size]? = some (.cells #[.string txt, .int .u64 b1, .int .i64 0, .int .i64 now] 43 (0, 0)) := by rw [hW]; exact heap_alloc_new w1 _
  have HBW2 := Lib.hid (show Below w.heap.size w W by rw [hW]; exact HBW.out.alloc HBW.out.size _)
  rw [← hW]
  clear hW
  obtain ⟨xb, hxb⟩ : ∃ xb, xb = w1.heap.size := ⟨_, rfl⟩
  rw [← hxb] at hx ⊢
  clear hxb
  have HX := Lib.hid hx
  have HXD := Lib.hid (show W.drew.heap[xb]? = some (.cells #[.string txt, .int .u64 b1, .int .i64 0, .int .i64 now] 43 (0, 0)) from hx)
  have HXA := Lib.hid (show ((W.alloc (.cells #[.string ⟨#[113]⟩, .string s, .string ⟨#[116]⟩] 9 (0, 0))).drew).heap[xb]? = some (.cells #[.string txt, .int .u64 b1, .int .i64 0, .int .i64 now] 43 (0, 0)) from (heap_alloc_old W _ (heap_lt hx)).trans hx)
  have HKA := Lib.hid (HK4.out ((W.alloc (.cells #[.string ⟨#[113]⟩, .string s, .string ⟨#[116]⟩] 9 (0, 0))).drew) W.heap.size (heap_alloc_new W (.cells #[.string ⟨#[113]⟩, .string s, .string ⟨#[116]⟩] 9 (0, 0))))
  have HBA := Lib.hid (show Below w.heap.size w ((W.alloc (.cells #[.string ⟨#[113]⟩, .string s, .string ⟨#[116]⟩] 9 (0, 0))).drew) from (HBW2.out.alloc HBW2.out.size _).drew)
  have HSx := Lib.hid (show ∀ W' : World, W'.heap[xb]? = some (.cells #[.string txt, .int .u64 b1, .int .i64 0, .int .i64 now] 43 (0, 0)) → (W'.cell? ⟨xb, 0, none⟩ = some (.string txt) ∧ W'.cell? ⟨xb, 1, none⟩ = some (.int .u64 b1) ∧ W'.cell? ⟨xb, 2, none⟩ = some (.int .i64 0) ∧ W'.cell? ⟨xb, 3, none⟩ = some (.int .i64 now)) from fun W' h => ⟨by simp [World.cell?, h], by simp [World.cell?, h], by simp [World.cell?, h], by simp [World.cell?, h]⟩)
  clear hx
  go_region_held3 (fun w' => w'.cell? ⟨xb, 0, none⟩ = some (.string txt) ∧ w'.cell? ⟨xb, 1, none⟩ = some (.int .u64 b1) ∧ w'.cell? ⟨xb, 2, none⟩ = some (.int .i64 0) ∧ w'.cell? ⟨xb, 3, none⟩ = some (.int .i64 now))
    (first | with_reducible exact HSx.out _ HXD.out | with_reducible exact HSx.out _ HXA.out | with_reducible exact HSx.out _ Q2.out | with_reducible exact HSx.out _ Q3.out | with_reducible exact HSx.out _ Q4.out | exact HSx.out _ ((heap_alloc_old w4 _ (heap_lt Q4.out)).trans Q4.out) | assumption)
    (first
      | (go_at_call 26; ((with_reducible refine (HI.out W.drew).mono ?_); rintro e w0 ⟨rfl, rfl⟩))
      | (go_at_call 25; ((with_reducible refine HKA.out.mono ?_); rintro e w2 ⟨rfl, hb2⟩; have Q2 := Lib.hid ((hb2.block xb (heap_lt HXA.out)).trans HXA.out); have B2 := Lib.hid (HBA.out.trans (hb2.mono HBA.out.size)); clear hb2))
      | (go_at_call 27; ((with_reducible refine (HF.out w2).mono ?_); rintro e w0 ⟨rfl, rfl⟩))
      | (go_at_call 28; ((with_reducible refine (HK.out w2).mono ?_); rintro e w3 ⟨rfl, hb3⟩; have Q3 := Lib.hid ((hb3.block xb (heap_lt Q2.out)).trans Q2.out); have B3 := Lib.hid (B2.out.trans (hb3.mono B2.out.size)); clear hb3))
      | (go_at_call 29; ((with_reducible refine (HV.out w3).mono ?_); rintro e w4 ⟨rfl, hb4⟩; have Q4 := Lib.hid ((hb4.block xb (heap_lt Q3.out)).trans Q3.out); have B4 := Lib.hid (B3.out.trans (hb4.mono B3.out.size)); clear hb4)))
  all_goals
    go_wp2_with fail
    go_ret2
    exact ⟨w4.heap.size, rfl, rd2 (heap_alloc_new w4 _), B4.out.alloc B4.out.size _⟩
set_option maxRecDepth 100000 in
theorem add_err (w : World) (pv : Value) (q E now : Int) (txt : ByteArray) (hE : E ≠ 0) (hp : pv = .pointer none ∨ ∃ p, pv = .pointer (some p))
    (hN : Calls Tryz.prog 11 #[pv, .int .i64 q, .string txt, .int .i64 now] w fun e w' => e = .returned (.tuple #[.slice none 0 0, .int .i64 E]) ∧ w = w') :
    Calls Tryz.prog 7 #[pv, .int .i64 q, .string txt, .int .i64 now] w fun e w' => e = .returned (.tuple #[.slice none 0 0, .int .i64 E]) ∧ w = w' := by
  have HN := Lib.hid hN
  have e0 : (E == 0) = false := by simpa using hE
  clear hN hE
  rcases hp with rfl | ⟨p, rfl⟩
  all_goals
    go_enter Tryz.func7, Tryz.ntmps7
    go_wp2_with fail
    refine HN.out.mono ?_
    rintro e w1 ⟨rfl, rfl⟩
    go_wp2_with fail
    go_ret2
    exact ⟨rfl, rfl⟩
set_option maxRecDepth 100000 in
theorem add_ok (h : DbAt A B w tb db M logged n z) (hM : M.length ≤ 1000000) (q a b : Nat) (hq : q < 8) (hH : NumR M (kH q) 1 a) (hT : NumR M (kT q) 0 b) (ha : a ≤ 1000) (hb : b < 99) (now : Int) (txt : ByteArray) (ht : txt.size ≤ 16368) (hc : cntN a b < 64) :
    Calls Tryz.prog 7 #[.pointer (some ⟨tb, 0, none⟩), .int .i64 q, .string txt, .int .i64 now] w fun e w' => ∃ bk, e = .returned (.tuple #[.slice (some ⟨bk, 0, none⟩) 2 2, .int .i64 0]) ∧ RdE w' (.slice (some ⟨bk, 0, none⟩) 2 2) (putsN q b now txt) ∧ Below w.heap.size w w' := by
  have HN := Lib.hid (onext_ok h hM q a b hq hH hT hb now txt ht)
  have HC := Lib.hid (fun W (hW : Below w.heap.size w W) => count_any (h.below hW) hM q a b hq hH hT ha (by omega))
  have g1 : ¬ (64 : Int) ≤ (cntN a b : Int) := by omega
  clear h hH hT hc
  go_enter Tryz.func7, Tryz.ntmps7
  go_wp2_with fail
  refine HN.out.mono ?_
  rintro e w1 ⟨bk, rfl, hr, hb1⟩
  have HR := Lib.hid hr
  have HB1 := Lib.hid hb1
  clear hr hb1
  go_wp2_with fail
  refine (HC.out _ HB1.out).mono ?_
  rintro e w2 ⟨rfl, hb2⟩
  have HB2 := Lib.hid hb2
  clear hb2
  go_wp2_with fail
  go_ret2
  exact ⟨bk, rfl, HR.out.below HB2.out, HB1.out.trans (HB2.out.mono HB1.out.size)⟩
set_option maxRecDepth 100000 in
theorem add_full (h : DbAt A B w tb db M logged n z) (hM : M.length ≤ 1000000) (q a b : Nat) (hq : q < 8) (hH : NumR M (kH q) 1 a) (hT : NumR M (kT q) 0 b) (ha : a ≤ 1000) (hb : b < 99) (now : Int) (txt : ByteArray) (ht : txt.size ≤ 16368) (hc : 64 ≤ cntN a b) :
    Calls Tryz.prog 7 #[.pointer (some ⟨tb, 0, none⟩), .int .i64 q, .string txt, .int .i64 now] w fun e w' => e = .returned (.tuple #[.slice none 0 0, .int .i64 6]) ∧ Below w.heap.size w w' := by
  have HN := Lib.hid (onext_ok h hM q a b hq hH hT hb now txt ht)
  have HC := Lib.hid (fun W (hW : Below w.heap.size w W) => count_any (h.below hW) hM q a b hq hH hT ha (by omega))
  have g1 : (64 : Int) ≤ (cntN a b : Int) := by omega
  clear h hH hT hc
  go_enter Tryz.func7, Tryz.ntmps7
  go_wp2_with fail
  refine HN.out.mono ?_
  rintro e w1 ⟨bk, rfl, hr, hb1⟩
  have HB1 := Lib.hid hb1
  clear hr hb1
  go_wp2_with fail
  refine (HC.out _ HB1.out).mono ?_
  rintro e w2 ⟨rfl, hb2⟩
  have HB2 := Lib.hid hb2
  clear hb2
  go_wp2_with fail
  go_ret2
  exact ⟨rfl, HB1.out.trans (HB2.out.mono HB1.out.size)⟩
end Go.Proofs.YtcohbfabcdjefaaGreatDoor
