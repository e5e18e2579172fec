/-
  The walk of DiskKnown.
-/
import Derived.Test.YtmhflhbogkkblaaIn
namespace Go.Proofs.Ytmhflhbogkkblaa
open Go.RowKit Go.Maps

theorem tx_max {a : Array UInt8} (h : a.size ≤ 1000) : ByteArray.size ⟨a⟩ ≤ maxLen := by unfold maxLen; show a.size ≤ _; omega
theorem tx_15 {a : Array UInt8} (h : a.size ≤ 1000) : ByteArray.size ⟨a⟩ ≤ 1000000000000000 := by show a.size ≤ _; omega
theorem crash_new {w0 w : World} {b m : Nat} {d : Dk} (h : In w0 w b m d) (ks : List Int) (hk : ks.length ≤ 1000) {d' : Dk} (hD : { d with fs := crashF ks d.fs, down := true, fuse := 0 } = d') :
    Calls Try.prog 26 #[.pointer (some ⟨b, 0, none⟩), .slice (some ⟨w.heap.size, 0, none⟩) ks.length ks.length] (w.alloc (.cells (ks.map (Value.int .i64)).toArray 3)) fun e w' => e = .returned (.tuple #[]) ∧ In w0 w' b m d' :=
  (h.alloc _).crash (some ⟨w.heap.size, 0, none⟩) ks.length ks.length ks rfl (by omega) (fun _ => ⟨w.heap.size, 0, rfl, Nat.ne_of_gt h.dat.lt, fun i hi => by
    have e : (w.alloc (.cells (ks.map (Value.int .i64)).toArray 3)).cell? ⟨w.heap.size, 0 + i, none⟩ = (ks.map (Value.int .i64)).toArray[i]? := by simp [go_sem]
    rw [e]
    simp [List.getD_eq_getElem?_getD, hi]⟩) hD

set_option maxHeartbeats 400000 in
/-- two lists of texts that are the same -/
theorem lists_same (w : World) (a1 a2 : Option Addr) (c1 c2 : Nat) (l : List Nm) (hl : l.length ≤ 1000000000000000)
    (h1 : 0 < l.length → ∃ g o, a1 = some ⟨g, o, none⟩ ∧ ∀ i (hi : i < l.length), w.cell? ⟨g, o + i, none⟩ = some (.string ⟨l[i].toArray⟩))
    (h2 : 0 < l.length → ∃ g o, a2 = some ⟨g, o, none⟩ ∧ ∀ i (hi : i < l.length), w.cell? ⟨g, o + i, none⟩ = some (.string ⟨l[i].toArray⟩)) :
    Calls Try.prog 32 #[.slice a1 l.length c1, .slice a2 l.length c2] w fun e w' => e = .returned (.bool true) ∧ Below w.heap.size w w' := by
  have H1 := Lib.hid h1
  have H2 := Lib.hid h2
  clear h1 h2
  go_enter Try.func32, Try.ntmps32
  go_wp2_with fail
  go_loopw [5] (fun i wr => ∃ K : Nat, K ≤ l.length ∧ i = .int .i64 K ∧ Hid (Below w.heap.size w wr)) (fun i _ => l.length - (intOf i).toNat)
  case atStart => exact ⟨0, Nat.zero_le _, rfl, Below.refl _ _⟩
  case round =>
    obtain ⟨K, hK, rfl, HB⟩ := hrel
    by_cases hlt : K < l.length
    · obtain ⟨g1, o1, rfl, hc1⟩ := H1.out (by omega)
      obtain ⟨g2, o2, rfl, hc2⟩ := H2.out (by omega)
      have q1 := (HB.out.cell (p := ⟨g1, o1 + K, none⟩) (cell_lt (hc1 K hlt))).trans (hc1 K hlt)
      have q2 := (HB.out.cell (p := ⟨g2, o2 + K, none⟩) (cell_lt (hc2 K hlt))).trans (hc2 K hlt)
      clear hc1 hc2
      generalize l[K] = s at *
      go_wp2_with fail
      have g2 : (K : Int) < (l.length : Int) := by omega
      go_quiet (fail)
      clear g2
      go_wp2_with fail
      exact ⟨⟨K + 1, by omega, by go_num, Lib.hid (below_drewN HB.out nq)⟩, by simp [intOf]; omega⟩
    · go_wp2_with fail
      go_ret
      exact ⟨rfl, HB.out⟩

theorem kf0 : createE d0 (ByteArray.data ⟨#[97]⟩).toList = 0 := by kernel_rfl
def k1 : Dk := createD d0 (ByteArray.data ⟨#[97]⟩).toList
theorem kf1 : createE k1 (ByteArray.data ⟨#[97]⟩).toList = 5 := by kernel_rfl
def k2 : Dk := createD k1 (ByteArray.data ⟨#[97]⟩).toList
theorem kf2 : createE k2 (ByteArray.data ⟨#[65]⟩).toList = 1 := by kernel_rfl
def k3 : Dk := createD k2 (ByteArray.data ⟨#[65]⟩).toList
theorem kf3 : appendE k3 (ByteArray.data ⟨#[98]⟩).toList ⟨#[120]⟩ = 4 := by kernel_rfl
def k4 : Dk := appendD k3 (ByteArray.data ⟨#[98]⟩).toList ⟨#[120]⟩
theorem kf4 : appendE k4 (ByteArray.data ⟨#[97]⟩).toList ⟨#[104, 101, 108, 108, 111]⟩ = 0 := by kernel_rfl
def k5 : Dk := appendD k4 (ByteArray.data ⟨#[97]⟩).toList ⟨#[104, 101, 108, 108, 111]⟩
theorem kf5 : ((total k5.fs : Nat) : Int) = 5 := by kernel_rfl
theorem kf6 : syncE k5 (ByteArray.data ⟨#[97]⟩).toList = 0 := by kernel_rfl
def k6 : Dk := syncD k5 (ByteArray.data ⟨#[97]⟩).toList
theorem kf7 : appendE k6 (ByteArray.data ⟨#[97]⟩).toList ⟨#[119, 111, 114, 108, 100]⟩ = 0 := by kernel_rfl
def k7 : Dk := appendD k6 (ByteArray.data ⟨#[97]⟩).toList ⟨#[119, 111, 114, 108, 100]⟩
def k8 : Dk := { k7 with fs := crashF [2] k7.fs, down := true, fuse := 0 }
def k9 : Dk := startD k8
def k10 : Dk := { k9 with fuse := max 2 0 }
theorem kf8 : appendE k10 (ByteArray.data ⟨#[97]⟩).toList ⟨#[120]⟩ = 0 := by kernel_rfl
def k11 : Dk := appendD k10 (ByteArray.data ⟨#[97]⟩).toList ⟨#[120]⟩
theorem kf9 : renameE k11 (ByteArray.data ⟨#[97]⟩).toList (ByteArray.data ⟨#[98]⟩).toList = 7 := by kernel_rfl
def k12 : Dk := renameD k11 (ByteArray.data ⟨#[97]⟩).toList (ByteArray.data ⟨#[98]⟩).toList
theorem kf10 : k12.down = true := by kernel_rfl
def k13 : Dk := startD k12
theorem kf11 : readS k13 (ByteArray.data ⟨#[97]⟩).toList = ⟨#[104, 101, 108, 108, 111, 119, 111]⟩ := by kernel_rfl
theorem kf12 : readE k13 (ByteArray.data ⟨#[97]⟩).toList = 0 := by kernel_rfl
theorem kf13 : names k13.fs = [(ByteArray.data ⟨#[97]⟩).toList] := by kernel_rfl
def k14 : Dk := { k13 with fuse := max 1 0 }
theorem kf14 : appendE k14 (ByteArray.data ⟨#[97]⟩).toList ⟨#[120, 121, 122]⟩ = 7 := by kernel_rfl
def k15 : Dk := appendD k14 (ByteArray.data ⟨#[97]⟩).toList ⟨#[120, 121, 122]⟩
def k16 : Dk := { k15 with fs := crashF [0, 5] k15.fs, down := true, fuse := 0 }
def k17 : Dk := { k16 with fs := crashF [5] k16.fs, down := true, fuse := 0 }
def k18 : Dk := startD k17
theorem kf15 : readS k18 (ByteArray.data ⟨#[97]⟩).toList = ⟨#[104, 101, 108, 108, 111, 119, 111]⟩ := by kernel_rfl
theorem kf16 : readE k18 (ByteArray.data ⟨#[97]⟩).toList = 0 := by kernel_rfl
def k19 : Dk := { k18 with room := max 8 (-1) }
theorem kf17 : appendE k19 (ByteArray.data ⟨#[97]⟩).toList ⟨#[121, 122]⟩ = 6 := by kernel_rfl
def k20 : Dk := appendD k19 (ByteArray.data ⟨#[97]⟩).toList ⟨#[121, 122]⟩
theorem kf18 : appendE k20 (ByteArray.data ⟨#[97]⟩).toList ⟨#[121]⟩ = 0 := by kernel_rfl
def k21 : Dk := appendD k20 (ByteArray.data ⟨#[97]⟩).toList ⟨#[121]⟩
theorem kf19 : renameE k21 (ByteArray.data ⟨#[97]⟩).toList (ByteArray.data ⟨#[98]⟩).toList = 0 := by kernel_rfl
def k22 : Dk := renameD k21 (ByteArray.data ⟨#[97]⟩).toList (ByteArray.data ⟨#[98]⟩).toList
theorem kf20 : names k22.fs = [(ByteArray.data ⟨#[98]⟩).toList] := by kernel_rfl
def kx1 : Dk := { d0 with fuse := max 1 0 }
def kx2 : Dk := createD kx1 (ByteArray.data ⟨#[97]⟩).toList
def ky : Dk := { d0 with fs := crashF [] d0.fs, down := true, fuse := 0 }
theorem kf21 : createE kx1 (ByteArray.data ⟨#[97]⟩).toList = 7 := by kernel_rfl
theorem kf22 : kx2 = ky := by kernel_rfl
set_option maxRecDepth 100000 in
set_option maxHeartbeats 4000000 in
theorem known_walk (w : World) : Calls Try.prog 7 #[] w fun e w' => e = .returned (.bool true) ∧ Below w.heap.size w w' := by
  go_enter Try.func7, Try.ntmps7
  go_wp2_with fail
  refine (In.new (Below.refl _ _)).mono ?_
  rintro e w1 ⟨rfl, h1⟩
  have H1 := Lib.hid h1
  clear h1
  go_wp2_with fail
  refine (H1.out.create (tx_max (a := #[97]) (by decide)) kf0 rfl (d' := k1)).mono ?_
  rintro e w2 ⟨rfl, h2⟩
  have H2 := Lib.hid h2
  clear h2
  go_wp2_with fail
  refine (H2.out.create (tx_max (a := #[97]) (by decide)) kf1 rfl (d' := k2)).mono ?_
  rintro e w3 ⟨rfl, h3⟩
  have H3 := Lib.hid h3
  clear h3
  go_wp2_with fail
  refine (H3.out.create (tx_max (a := #[65]) (by decide)) kf2 rfl (d' := k3)).mono ?_
  rintro e w4 ⟨rfl, h4⟩
  have H4 := Lib.hid h4
  clear h4
  go_wp2_with fail
  refine (H4.out.append (tx_max (a := #[98]) (by decide)) (tx_15 (a := #[120]) (by decide)) kf3 rfl (d' := k4)).mono ?_
  rintro e w5 ⟨rfl, h5⟩
  have H5 := Lib.hid h5
  clear h5
  go_wp2_with fail
  refine (H5.out.append (tx_max (a := #[97]) (by decide)) (tx_15 (a := #[104, 101, 108, 108, 111]) (by decide)) kf4 rfl (d' := k5)).mono ?_
  rintro e w6 ⟨rfl, h6⟩
  have H6 := Lib.hid h6
  clear h6
  go_wp2_with fail
  refine (H6.out.usedIs kf5).mono ?_
  rintro e w7 ⟨rfl, h7⟩
  have H7 := Lib.hid h7
  clear h7
  go_wp2_with fail
  refine (H7.out.sync (tx_max (a := #[97]) (by decide)) kf6 rfl (d' := k6)).mono ?_
  rintro e w8 ⟨rfl, h8⟩
  have H8 := Lib.hid h8
  clear h8
  go_wp2_with fail
  refine (H8.out.append (tx_max (a := #[97]) (by decide)) (tx_15 (a := #[119, 111, 114, 108, 100]) (by decide)) kf7 rfl (d' := k7)).mono ?_
  rintro e w9 ⟨rfl, h9⟩
  have H9 := Lib.hid h9
  clear h9
  go_wp2_with fail
  refine (crash_new H9.out [2] (by decide) rfl (d' := k8)).mono ?_
  rintro e w10 ⟨rfl, h10⟩
  have H10 := Lib.hid h10
  clear h10
  go_wp2_with fail
  refine (H10.out.start rfl (d' := k9)).mono ?_
  rintro e w11 ⟨rfl, h11⟩
  have H11 := Lib.hid h11
  clear h11
  go_wp2_with fail
  refine (H11.out.fuse 2 (by decide) rfl (d' := k10)).mono ?_
  rintro e w12 ⟨rfl, h12⟩
  have H12 := Lib.hid h12
  clear h12
  go_wp2_with fail
  refine (H12.out.append (tx_max (a := #[97]) (by decide)) (tx_15 (a := #[120]) (by decide)) kf8 rfl (d' := k11)).mono ?_
  rintro e w13 ⟨rfl, h13⟩
  have H13 := Lib.hid h13
  clear h13
  go_wp2_with fail
  refine (H13.out.rename (tx_max (a := #[97]) (by decide)) (tx_max (a := #[98]) (by decide)) kf9 rfl (d' := k12)).mono ?_
  rintro e w14 ⟨rfl, h14⟩
  have H14 := Lib.hid h14
  clear h14
  go_wp2_with fail
  refine (H14.out.down kf10).mono ?_
  rintro e w15 ⟨rfl, rfl⟩
  go_wp2_with fail
  refine (H14.out.start rfl (d' := k13)).mono ?_
  rintro e w16 ⟨rfl, h16⟩
  have H16 := Lib.hid h16
  clear h16
  go_wp2_with fail
  refine (H16.out.read (tx_max (a := #[97]) (by decide)) kf11 kf12).mono ?_
  rintro e w17 ⟨rfl, h17⟩
  have H17 := Lib.hid h17
  clear h17
  go_wp2_with fail
  refine (H17.out.list).mono ?_
  rintro e w18 ⟨⟨v, rfl, hs⟩, _, h18⟩
  rw [kf13] at hs
  obtain ⟨g, cap, rfl, _, hg, hcs⟩ := hs.row (by simp)
  have hcs0 := hcs 0 (by decide)
  have HCS := Lib.hid hcs0
  have HG := Lib.hid hg
  have H18 := Lib.hid (h18.alloc (.cells #[.string ⟨#[97]⟩] 9))
  clear hs hcs hcs0 hg h18
  go_wp2_with fail
  refine (lists_same _ (some ⟨g, 0, none⟩) (some ⟨w18.heap.size, 0, none⟩) cap 1 [(ByteArray.data ⟨#[97]⟩).toList] (by decide) (fun _ => ⟨g, 0, rfl, fun i hi => by
    obtain rfl : i = 0 := by simp at hi; omega
    exact cell_alloc HCS.out _⟩) (fun _ => ⟨_, 0, rfl, fun i hi => by
    obtain rfl : i = 0 := by simp at hi; omega
    simp [go_sem]⟩)).mono ?_
  rintro e w19 ⟨rfl, h19⟩
  have H19 := Lib.hid (H18.out.quiet h19)
  clear h19 HCS HG
  go_wp2_with fail
  refine (H19.out.fuse 1 (by decide) rfl (d' := k14)).mono ?_
  rintro e w20 ⟨rfl, h20⟩
  have H20 := Lib.hid h20
  clear h20
  go_wp2_with fail
  refine (H20.out.append (tx_max (a := #[97]) (by decide)) (tx_15 (a := #[120, 121, 122]) (by decide)) kf14 rfl (d' := k15)).mono ?_
  rintro e w21 ⟨rfl, h21⟩
  have H21 := Lib.hid h21
  clear h21
  go_wp2_with fail
  refine (crash_new H21.out [0, 5] (by decide) rfl (d' := k16)).mono ?_
  rintro e w22 ⟨rfl, h22⟩
  have H22 := Lib.hid h22
  clear h22
  go_wp2_with fail
  refine (crash_new H22.out [5] (by decide) rfl (d' := k17)).mono ?_
  rintro e w23 ⟨rfl, h23⟩
  have H23 := Lib.hid h23
  clear h23
  go_wp2_with fail
  refine (H23.out.start rfl (d' := k18)).mono ?_
  rintro e w24 ⟨rfl, h24⟩
  have H24 := Lib.hid h24
  clear h24
  go_wp2_with fail
  refine (H24.out.read (tx_max (a := #[97]) (by decide)) kf15 kf16).mono ?_
  rintro e w25 ⟨rfl, h25⟩
  have H25 := Lib.hid h25
  clear h25
  go_wp2_with fail
  refine (H25.out.room 8 (by decide) rfl (d' := k19)).mono ?_
  rintro e w26 ⟨rfl, h26⟩
  have H26 := Lib.hid h26
  clear h26
  go_wp2_with fail
  refine (H26.out.append (tx_max (a := #[97]) (by decide)) (tx_15 (a := #[121, 122]) (by decide)) kf17 rfl (d' := k20)).mono ?_
  rintro e w27 ⟨rfl, h27⟩
  have H27 := Lib.hid h27
  clear h27
  go_wp2_with fail
  refine (H27.out.append (tx_max (a := #[97]) (by decide)) (tx_15 (a := #[121]) (by decide)) kf18 rfl (d' := k21)).mono ?_
  rintro e w28 ⟨rfl, h28⟩
  have H28 := Lib.hid h28
  clear h28
  go_wp2_with fail
  refine (H28.out.rename (tx_max (a := #[97]) (by decide)) (tx_max (a := #[98]) (by decide)) kf19 rfl (d' := k22)).mono ?_
  rintro e w29 ⟨rfl, h29⟩
  have H29 := Lib.hid h29
  clear h29
  go_wp2_with fail
  refine (H29.out.list).mono ?_
  rintro e w30 ⟨⟨v, rfl, hs⟩, _, h30⟩
  rw [kf20] at hs
  obtain ⟨g, cap, rfl, _, hg, hcs⟩ := hs.row (by simp)
  have hcs0 := hcs 0 (by decide)
  have HCS := Lib.hid hcs0
  have HG := Lib.hid hg
  have H30 := Lib.hid (h30.alloc (.cells #[.string ⟨#[98]⟩] 9))
  clear hs hcs hcs0 hg h30
  go_wp2_with fail
  refine (lists_same _ (some ⟨g, 0, none⟩) (some ⟨w30.heap.size, 0, none⟩) cap 1 [(ByteArray.data ⟨#[98]⟩).toList] (by decide) (fun _ => ⟨g, 0, rfl, fun i hi => by
    obtain rfl : i = 0 := by simp at hi; omega
    exact cell_alloc HCS.out _⟩) (fun _ => ⟨_, 0, rfl, fun i hi => by
    obtain rfl : i = 0 := by simp at hi; omega
    simp [go_sem]⟩)).mono ?_
  rintro e w31 ⟨rfl, h31⟩
  have H31 := Lib.hid (H30.out.quiet h31)
  clear h31 HCS HG
  go_wp2_with fail
  refine (In.new H31.out.bel).mono ?_
  rintro e w32 ⟨rfl, h32⟩
  have H32 := Lib.hid h32
  clear h32
  go_wp2_with fail
  refine (H32.out.two).mono ?_
  rintro e w33 ⟨rfl, h33⟩
  have H33 := Lib.hid h33
  clear h33
  go_wp2_with fail
  refine (H33.out.fuse 1 (by decide) rfl (d' := kx1)).mono ?_
  rintro e w34 ⟨rfl, h34⟩
  have H34 := Lib.hid h34
  clear h34
  go_wp2_with fail
  refine (H34.out.create (tx_max (a := #[97]) (by decide)) kf21 rfl (d' := kx2)).mono ?_
  rintro e w35 ⟨rfl, h35⟩
  have H35 := Lib.hid h35
  clear h35
  go_wp2_with fail
  refine (H35.out.symm.crash none 0 0 [] rfl (by decide) (fun h => absurd h (by decide)) rfl (d' := ky)).mono ?_
  rintro e w36 ⟨rfl, h36⟩
  have H36 := Lib.hid h36.symm
  clear h36
  go_wp2_with fail
  refine (H36.out.same kf22).mono ?_
  rintro e w37 ⟨rfl, h37⟩
  have H37 := Lib.hid h37
  clear h37
  go_wp2_with fail
  refine (fuse_nil _ _).mono ?_
  rintro e w38 ⟨rfl, rfl⟩
  go_wp2_with fail
  refine (room_nil _ _).mono ?_
  rintro e w39 ⟨rfl, rfl⟩
  go_wp2_with fail
  refine (crash_nil _ _).mono ?_
  rintro e w40 ⟨rfl, rfl⟩
  go_wp2_with fail
  refine (start_nil _).mono ?_
  rintro e w41 ⟨rfl, rfl⟩
  go_wp2_with fail
  refine (read_nil _ _).mono ?_
  rintro e w42 ⟨rfl, h42⟩
  have H42 := Lib.hid (H37.out.quiet h42)
  clear h42
  go_wp2_with fail
  refine (awake_true _).mono ?_
  rintro e w43 ⟨rfl, h43⟩
  have H43 := Lib.hid (H42.out.quiet h43)
  clear h43
  go_wp2_with fail
  refine (create_nil _ _).mono ?_
  rintro e w44 ⟨rfl, h44⟩
  have H44 := Lib.hid (H43.out.quiet h44)
  clear h44
  go_wp2_with fail
  refine (down_nil _).mono ?_
  rintro e w45 ⟨rfl, rfl⟩
  go_wp2_with fail
  refine (used_nil _).mono ?_
  rintro e w46 ⟨rfl, rfl⟩
  go_wp2_with fail
  refine (list_nil _).mono ?_
  rintro e w47 ⟨rfl, rfl⟩
  go_wp2_with fail
  refine (twin_nil _).mono ?_
  rintro e w48 ⟨rfl, rfl⟩
  go_wp2_with fail
  refine (same_nil _).mono ?_
  rintro e w49 ⟨rfl, rfl⟩
  go_wp2_with fail
  go_ret
  exact ⟨rfl, H44.out.l.bel⟩
end Go.Proofs.Ytmhflhbogkkblaa
