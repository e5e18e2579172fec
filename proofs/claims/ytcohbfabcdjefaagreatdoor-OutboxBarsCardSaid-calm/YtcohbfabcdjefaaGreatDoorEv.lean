/-
  Joined: Eu, Ga, Ev.
-/
import Derived.Test.YtcohbfabcdjefaaGreatDoorEt
namespace Go.Proofs.YtcohbfabcdjefaaGreatDoor
open Go.RowKit Go.Maps

/-- a db at block tb: what is in memory is M -/
structure DbAt (A B : Nat) (w : World) (tb db : Nat) (M : List It) (logged n z : Nat) : Prop where
  ex : ∃ sb mb m lb nb, w.heap[tb]? = some (.cells #[.pointer (some ⟨sb, 0, none⟩), .pointer (some ⟨db, 0, none⟩), .bool false] 57 (0, 0)) ∧ SD A B w sb mb db m lb nb M logged n z
  hA : A ≤ B
  htb : B ≤ tb
variable {A B : Nat} {w : World} {tb db : Nat} {M : List It} {logged n z : Nat}
theorem DbAt.below {w' : World} (h : DbAt A B w tb db M logged n z) (hb : Below w.heap.size w w') : DbAt A B w' tb db M logged n z := by
  obtain ⟨sb, mb, m, lb, nb, h1, h2⟩ := h.ex
  exact ⟨⟨sb, mb, m, lb, nb, (hb.block tb (heap_lt h1)).trans h1, h2.below hb⟩, h.hA, h.htb⟩
theorem DbAt.lt (h : DbAt A B w tb db M logged n z) : A ≤ w.heap.size ∧ B ≤ w.heap.size ∧ db < B ∧ tb < w.heap.size := by
  obtain ⟨sb, mb, m, lb, nb, h1, h2⟩ := h.ex
  have := h.hA
  have := h.htb
  have := heap_lt h1
  exact ⟨by omega, by omega, h2.log.hdb, this⟩
theorem DbAt.up (h : DbAt A B w tb db M logged n z) : Up M := by
  obtain ⟨sb, mb, m, lb, nb, h1, h2⟩ := h.ex
  exact h2.up
abbrev tsD : List TypeId := [176, 144, 106, 167, 192, 3, 57]
set_option maxRecDepth 100000 in
theorem topen_fresh (A : Nat) (w : World) (db m : Nat) (hd : DAt w db m d0) (hA : A ≤ db ∧ A ≤ m) :
    Calls Tryz.prog 5 #[.pointer (some ⟨db, 0, none⟩)] w fun e w' => ∃ tb, e = .returned (.tuple #[.pointer (some ⟨tb, 0, none⟩), .int .i64 0]) ∧ DbAt A w.heap.size w' tb db [] 0 0 0 ∧ Below A w w' ∧ Kx [db] tsD w w' := by
  have HS := Lib.hid (sopen_fresh A w db m hd hA)
  have hdl := hd.lt
  obtain ⟨hA1, hA2⟩ := hA
  clear hd
  go_enter Tryz.func5, Tryz.ntmps5
  go_wp2_with fail
  refine HS.out.mono ?_
  rintro e w1 ⟨sb, rfl, ⟨mb, lb, nb, hs⟩, hb1, hk1⟩
  have HSD := Lib.hid hs
  have HB1 := Lib.hid hb1
  have HK1 := Lib.hid hk1
  clear hs hb1 hk1 HS
  go_wp2_with fail
  go_ret2
  have hz := HK1.out.size
  exact ⟨w1.heap.size, rfl, ⟨⟨sb, mb, m, lb, nb, heap_alloc_new w1 _, HSD.out.below (bl1 w1 _)⟩, by omega, hz⟩, HB1.out.trans ((bl1 w1 _).mono (by have := HB1.out.size; omega)), (HK1.out.wide (by decide)).trans (Kx.of_below (bl1 w1 _))⟩
set_option maxRecDepth 100000 in
theorem tget_any (h : DbAt A B w tb db M logged n z) (k : ByteArray) (hM : M.length ≤ 1000000) :
    Calls Tryz.prog 30 #[.pointer (some ⟨tb, 0, none⟩), .string k] w fun e w' => e = .returned (askV (getL M k)) ∧ Below w.heap.size w w' := by
  obtain ⟨sb, mb, m, lb, nb, h1, h2⟩ := h.ex
  have c0 : w.cell? ⟨tb, 0, none⟩ = some (.pointer (some ⟨sb, 0, none⟩)) := by simp [World.cell?, h1]
  have HE := Lib.hid (sget_any h2 k hM)
  clear h h1 h2
  have hk : ∃ v b, askV (getL M k) = .tuple #[.string v, .bool b] := by
    cases getL M k with
    | some x => exact ⟨_, _, rfl⟩
    | none => exact ⟨_, _, rfl⟩
  obtain ⟨v, b, hv⟩ := hk
  rw [hv] at HE ⊢
  clear hv
  go_enter Tryz.func30, Tryz.ntmps30
  go_wp2_with fail
  refine HE.out.mono ?_
  rintro e w1 ⟨rfl, hb1⟩
  have HB := Lib.hid hb1
  clear hb1
  go_wp2_with fail
  go_ret2
  exact ⟨rfl, HB.out⟩
/-- what a commit leaves -/
def Cmt (A B : Nat) (w : World) (tb db : Nat) (M L : List It) (logged n z : Nat) (w' : World) : Prop :=
  DbAt A B w' tb db (putAll M (putAll [] L)) (logged + (1 + (4 * (putAll [] L).length + sumE (putAll [] L)))) (n + 1) (z + (8 + (1 + (4 * (putAll [] L).length + sumE (putAll [] L))))) ∧ Below A w w' ∧ Kx [db] tsD w w'
set_option maxRecDepth 100000 in
set_option maxHeartbeats 1000000 in
theorem commit_any (h : DbAt A B w tb db M logged n z) (v : Value) (L : List It) (hv : RdE w v L) (hok : ∀ x ∈ L, OkE x) (hL : L.length ≤ 64) (hs : sumE L ≤ 20000) (hn : n < 98) (hz : z < 16384)
    (hlen : M.length + L.length < 128) (hsum : sumE M + sumE L < 32768) (hlg : logged ≤ 60000) :
    Calls Tryz.prog 9 #[.pointer (some ⟨tb, 0, none⟩), v] w fun e w' => e = .returned (.int .i64 0) ∧ Cmt A B w tb db M L logged n z w' := by
  obtain ⟨sb, mb, m, lb, nb, h1, h2⟩ := h.ex
  have c0 : w.cell? ⟨tb, 0, none⟩ = some (.pointer (some ⟨sb, 0, none⟩)) := by simp [World.cell?, h1]
  have HB := Lib.hid (batch_any w v L hv hok hL (by omega))
  have HG := Lib.hid (batch_good hok hL (by omega))
  have g1 := putAll_len (M := []) trivial L
  have g2 := putAll_sum (M := []) trivial L
  simp only [List.length_nil, Nat.zero_add, sumE] at g1 g2
  have H1 := Lib.hid h1
  have H2 := Lib.hid h2
  have hl := h.lt
  have HD := Lib.hid h
  have ht := heap_lt h1
  obtain ⟨a, c, rfl⟩ := hv.shape
  clear h h1 h2 hv hok
  unfold Cmt
  obtain ⟨N, hN⟩ : ∃ N, N = putAll [] L := ⟨_, rfl⟩
  rw [← hN] at HB HG g1 g2 ⊢
  clear hN
  go_enter Tryz.func9, Tryz.ntmps9
  go_wp2_with fail
  refine HB.out.mono ?_
  rintro e w1 ⟨u, rfl, hown, hb1⟩
  have HO := Lib.hid hown
  have HB1 := Lib.hid hb1
  have c01 : w1.cell? ⟨tb, 0, none⟩ = some (.pointer (some ⟨sb, 0, none⟩)) := (hb1.cell (p := ⟨tb, 0, none⟩) ht).trans c0
  clear hown hb1 HB
  go_wp2_with fail
  refine (swrite_any (H2.out.below HB1.out) w.heap.size N u HO.out (by omega) HG.out (by omega) hn hz (by omega) (by omega) hlg).mono ?_
  rintro e w2 ⟨rfl, hs2, hb2, hk2⟩
  have hblk : w2.heap[tb]? = some (.cells #[.pointer (some ⟨sb, 0, none⟩), .pointer (some ⟨db, 0, none⟩), .bool false] 57 (0, 0)) :=
    hk2.blk tb _ _ _ ((HB1.out.block tb ht).trans H1.out) (by have := HD.out.htb; simp; omega) (by decide)
  have c2 : w2.cell? ⟨tb, 2, none⟩ = some (.bool false) := by simp [World.cell?, hblk]
  have z2 : w2.frozen? ⟨tb, 2, none⟩ = false := by simp [World.frozen?, hblk]
  have HK := Lib.hid hblk
  have HS2 := Lib.hid hs2
  have HB2 := Lib.hid ((HB1.out.mono hl.1).trans hb2)
  have HK2 := Lib.hid ((Kx.of_below (l := [db]) (ts := tsW) HB1.out).trans hk2)
  clear hblk hs2 hb2 hk2
  go_wp2_with fail
  go_ret
  have hk3 : Kp B [57] w2 (w2.setCell ⟨tb, 2, none⟩ (.bool false)) := (Kp.refl B _ w2).setCell HK.out (by simp) HD.out.htb _ _
  have hmm : ∀ (k : Nat) (cs : Array Value) (T : TypeId) (fr : Nat × Nat), w2.heap[k]? = some (.cells cs T fr) → T ≠ 57 → (w2.setCell ⟨tb, 2, none⟩ (.bool false)).heap[k]? = some (.cells cs T fr) := fun k cs T fr e hT => hk3.blk k _ e (.inr (fun _ _ _ e2 => by injection e2 with _ e3; rw [← e3]; simpa using hT))
  obtain ⟨u2, hu1, hu2⟩ := HS2.out.mem
  refine ⟨rfl, ⟨⟨sb, mb, m, lb, nb, heap_setCell_same _ _ _ _ _ _ HK.out, ⟨hmm _ _ _ _ HS2.out.st (by decide), ⟨u2, ⟨hmm _ _ _ _ hu1.blk (by decide)⟩, hk3.own hu2 (by decide)⟩, HS2.out.up, HS2.out.log.kpT hk3 (by decide) (by decide) (by decide), HS2.out.hA, HS2.out.hsb, HS2.out.hmb⟩⟩, HD.out.hA, HD.out.htb⟩, HB2.out.trans (hk3.below HD.out.hA (by have := HB2.out.size; omega)), (HK2.out.wide (by decide)).trans (Kx.of_kp hk3 (by decide))⟩
end Go.Proofs.YtcohbfabcdjefaaGreatDoor
namespace Go.Proofs.YtcohbfabcdjefaaGreatDoor
open Go.RowKit Go.Maps

/-- a number below 100, in decimal -/
def dec (n : Nat) : ByteArray := ⟨(Lib.decDigits n).toArray⟩
def d1 (q : Nat) : UInt8 := UInt8.ofNat (48 + q)
def num20 (n : Nat) : List UInt8 := [48, 48, 48, 48, 48, 48, 48, 48, 48, 48, 48, 48, 48, 48, 48, 48, 48, 48] ++ dig2 n
def kH (q : Nat) : ByteArray := bA [113, 47, d1 q, 47, 104]
def kT (q : Nat) : ByteArray := bA [113, 47, d1 q, 47, 116]
def kI (q n : Nat) : ByteArray := bA ([113, 47, d1 q, 47, 105, 47] ++ num20 n)
theorem kH_size (q : Nat) : (kH q).size = 5 := rfl
theorem kT_size (q : Nat) : (kT q).size = 5 := rfl
theorem kI_size (q n : Nat) : (kI q n).size = 26 := rfl
theorem kH_ne_kT (q : Nat) : kH q ≠ kT q := fun h => by
  have := congrArg bl h
  simp [bl, kH, kT, bA] at this
theorem kI_ne_kT (q n : Nat) : kI q n ≠ kT q := fun h => by
  have := congrArg ByteArray.size h
  rw [kI_size, kT_size] at this; omega
theorem kI_ne_kH (q n : Nat) : kI q n ≠ kH q := fun h => by
  have := congrArg ByteArray.size h
  rw [kI_size, kH_size] at this; omega
theorem cmp_same (x : UInt8) (a b : List UInt8) : Lib.compareBytes (x :: a) (x :: b) = Lib.compareBytes a b := by
  simp [Lib.compareBytes]
theorem kI_lt_kT (q n : Nat) : cmpK (kI q n) (kT q) = -1 := by
  show Lib.compareBytes (113 :: 47 :: d1 q :: 47 :: 105 :: 47 :: num20 n) (113 :: 47 :: d1 q :: 47 :: [116]) = -1
  rw [cmp_same, cmp_same, cmp_same, cmp_same]
  rfl
theorem dec_size (n : Nat) (h : n < 100) : (dec n).size = if n < 10 then 1 else 2 := by
  unfold dec
  rw [dec_small n h, ← ByteArray.size_data]
  split <;> rfl
/-- putting two -/
theorem put2 (a b : It) (h : cmpK b.key a.key < 0) : putL (putL [] a) b = [b, a] := by
  have h1 := cmpK_anti b.key a.key
  rw [putL_nil, putL_cons, if_neg (by omega), if_neg (by omega)]
theorem putL_len_le {M : List It} (x : It) (h : Up M) : (putL M x).length ≤ M.length + 1 := by
  rw [getL_len x h]; split <;> omega
theorem putL_sum_le {M : List It} (x : It) (h : Up M) : sumE (putL M x) ≤ sumE M + szE x := by
  cases hg : getL M x.key with
  | none => rw [sumE_putL_none x h hg]; omega
  | some y => have := sumE_putL_some x y h hg; omega
/-- after n Adds of short texts to queue q -/
structure Had (q n : Nat) (M : List It) : Prop where
  up : Up M
  h : getL M (kH q) = none
  t : getL M (kT q) = if n = 0 then none else some ⟨kT q, dec n, false⟩
  len : M.length ≤ n + 1
  nil : n = 0 → M = []
  sum : sumE M ≤ 100 * n
theorem Had.zero (q : Nat) : Had q 0 [] := ⟨trivial, rfl, rfl, by simp, fun _ => rfl, by simp [sumE]⟩
theorem Had.step {q n : Nat} {M : List It} (h : Had q n M) (v : ByteArray) (hv : v.size ≤ 40) (hn : n < 99) :
    Had q (n + 1) (putL (putL M ⟨kI q (n + 1), v, false⟩) ⟨kT q, dec (n + 1), false⟩) := by
  have hu1 := putL_up ⟨kI q (n + 1), v, false⟩ h.up
  have hsz : (dec (n + 1)).size ≤ 2 := by rw [dec_size _ (by omega)]; split <;> omega
  refine ⟨putL_up _ hu1, ?_, ?_, ?_, fun e => by omega, ?_⟩
  · rw [getL_putL _ _ hu1, if_neg (fun e => kH_ne_kT q e.symm), getL_putL _ _ h.up, if_neg (kI_ne_kH _ _)]
    exact h.h
  · rw [getL_putL _ _ hu1, if_pos rfl, if_neg (by omega)]
  · rw [getL_len _ hu1, getL_putL _ _ h.up, if_neg (kI_ne_kT _ _), h.t]
    have h1 := putL_len_le ⟨kI q (n + 1), v, false⟩ h.up
    have h2 := h.len
    by_cases h0 : n = 0
    · have := h.nil h0
      subst this
      rw [if_pos h0]; simp [putL_nil]
    · rw [if_neg h0]; simp; omega
  · have h1 := putL_sum_le ⟨kI q (n + 1), v, false⟩ h.up
    have h2 := putL_sum_le ⟨kT q, dec (n + 1), false⟩ hu1
    have h3 := h.sum
    have h4 : szE ⟨kI q (n + 1), v, false⟩ = 26 + v.size := rfl
    have h5 : szE ⟨kT q, dec (n + 1), false⟩ = 5 + (dec (n + 1)).size := rfl
    omega
end Go.Proofs.YtcohbfabcdjefaaGreatDoor
namespace Go.Proofs.YtcohbfabcdjefaaGreatDoor
open Go.RowKit Go.Maps

theorem itoa_dec (n : Nat) (h : n < 100) (w : World) : Calls Tryz.prog 26 #[.int .i64 n] w fun e w' => e = .returned (.string (dec n)) ∧ w = w' :=
  (Tryz.strconv_Itoa_small n h w).mono fun _ _ ⟨he, hw⟩ => ⟨he, hw.symm⟩
set_option maxRecDepth 100000 in
theorem ifmt_dec (n : Nat) (h : n < 100) (w : World) : Calls Tryz.prog 59 #[.int .u64 n, .int .i64 10] w fun e w' => e = .returned (.string (dec n)) ∧ w = w' := by
  have HS := Lib.hid (Tryz.internal_strconv_small n h)
  go_enter Tryz.func59, Tryz.ntmps59
  go_wp2_with fail
  refine (HS.out _).mono ?_
  rintro e w1 ⟨rfl, rfl⟩
  go_wp2_with fail
  go_ret
  exact ⟨rfl, rfl⟩
theorem fmt_dec (n : Nat) (h : n < 100) (w : World) : Calls Tryz.prog 27 #[.int .u64 n, .int .i64 10] w fun e w' => e = .returned (.string (dec n)) ∧ w = w' := by
  have HS := Lib.hid (ifmt_dec n h)
  go_enter Tryz.func27, Tryz.ntmps27
  go_wp2_with fail
  refine (HS.out _).mono ?_
  rintro e w1 ⟨rfl, rfl⟩
  go_wp2_with fail
  go_ret
  exact ⟨rfl, rfl⟩
theorem parse_dec (n : Nat) (h : n < 100) : Lib.parseUintB 64 (dec n).data.toList = .ok n := by
  have e : ∀ k, k < 100 → Lib.parseUintB 64 (if k < 10 then [UInt8.ofNat (48 + k)] else dig2 k) = .ok k := by decide +kernel
  have := e n h
  rwa [← dec_small n h] at this
theorem below_bytes (w : World) (e : TypeId) (s : ByteArray) : Below w.heap.size w (Lib.bytesWorld w e s) := by
  unfold Lib.bytesWorld
  have h1 : Below w.heap.size w (w.drew.alloc (.cells (Lib.bytesCells w e s) e)) := ((Below.refl _ w).drew).alloc (Nat.le_refl _) _
  exact Lib.below_freeze h1 (Nat.le_refl _) _
theorem parseU_dec (n : Nat) (h : n < 100) (w : World) : Calls Tryz.prog 37 #[.string (dec n), .int .i64 10, .int .i64 64] w fun e w' => e = .returned (.tuple #[.int .u64 n, .nilIface]) ∧ Below w.heap.size w w' :=
  (Tryz.strconv_ParseUint_10_at64_ok (dec n) (by rw [dec_size n h]; split <;> omega) n (parse_dec n h) w).mono fun _ w' ⟨he, hw⟩ => ⟨he, by
    rcases hw with rfl | rfl
    · exact Below.refl _ _
    · exact below_bytes _ _ _⟩
def joinB (l : List ByteArray) : ByteArray := ⟨(Lib.join (l.map (·.data.toList)) [47]).toArray⟩
theorem key_any (bk c : Nat) (xs : List ByteArray) (w : World) (h : ∀ (j : Nat) x, xs[j]? = some x → w.cell? ⟨bk, j, none⟩ = some (.string x)) (hbk : bk < w.heap.size) (hN : xs.length ≤ 100) (hcap : xs.length ≤ c) (hlen : (Lib.join (xs.map (·.data.toList)) [47]).length ≤ 1000000) :
    Calls Tryz.prog 25 #[.slice (some ⟨bk, 0, none⟩) xs.length c] w fun e w' => e = .returned (.string (joinB xs)) ∧ Below w.heap.size w w' := by
  have HJ := Lib.hid (Tryz.strings_Join bk 0 c xs ⟨#[47]⟩ w (fun j x hj => by rw [Nat.zero_add]; exact h j x hj) hbk (by omega) hcap (by show (Lib.join (xs.map (·.data.toList)) [47]).length ≤ _; omega))
  go_enter Tryz.func25, Tryz.ntmps25
  go_wp2_with fail
  refine HJ.out.mono ?_
  rintro e w1 ⟨rfl, hb⟩
  have HB := Lib.hid hb
  clear hb
  go_wp2_with fail
  go_ret
  exact ⟨rfl, HB.out⟩
theorem dec_one (q : Nat) (hq : q < 8) : dec q = bA [d1 q] := by unfold dec; rw [dec_small q (by omega), if_pos (by omega)]; rfl
theorem join_kH (q : Nat) (hq : q < 8) : joinB [⟨#[113]⟩, dec q, ⟨#[104]⟩] = kH q := by rw [dec_one q hq]; rfl
theorem join_kT (q : Nat) (hq : q < 8) : joinB [⟨#[113]⟩, dec q, ⟨#[116]⟩] = kT q := by rw [dec_one q hq]; rfl
theorem join_kI (q n : Nat) (hq : q < 8) : joinB [⟨#[113]⟩, dec q, ⟨#[105]⟩, bA (num20 n)] = kI q n := by rw [dec_one q hq]; rfl
end Go.Proofs.YtcohbfabcdjefaaGreatDoor
