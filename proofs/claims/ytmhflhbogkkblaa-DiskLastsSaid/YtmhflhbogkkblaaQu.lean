/-
  The walk of DiskQuiet.
-/
import Derived.Test.YtmhflhbogkkblaaQp
import Derived.Test.YtmhflhbogkkblaaKn
namespace Go.Proofs.Ytmhflhbogkkblaa
open Go.RowKit Go.Maps

def boxOf (B : Nat) (a : Act) : List (Nat × Nat × Value) := [(B, 0, .int .i64 a.dw), (B, 1, .string a.name), (B, 2, .string a.to), (B, 3, .string a.data), (B, 4, .int .i64 a.n), (B, 5, .slice a.ka a.kn a.kc)]
theorem In.box {w0 w : World} {b m : Nat} {d : Dk} (h : In w0 w b m d) (a : Act) (T : TypeId) : Ik w0 (w.alloc (.cells a.vals.toArray T)) b m d (boxOf w.heap.size a) := by
  have h1 := h.dat.lt
  have h2 := h.dat.map.lt
  refine ⟨h.alloc _, fun c hc => ?_, fun c hc hm => ?_⟩
  · simp only [boxOf, List.mem_cons, List.not_mem_nil, or_false] at hc
    rcases hc with rfl | rfl | rfl | rfl | rfl | rfl <;> simp [go_sem, Act.vals]
  · have e : c.1 = w.heap.size := by
      simp only [boxOf, List.mem_cons, List.not_mem_nil, or_false] at hc
      rcases hc with rfl | rfl | rfl | rfl | rfl | rfl <;> rfl
    rw [e] at hm
    simp only [List.mem_cons, List.not_mem_nil, or_false] at hm
    omega
set_option maxRecDepth 100000 in
set_option maxHeartbeats 2000000 in
theorem quiet_walk (w : World) (la : Option Addr) (lc : Nat) (l : List Act) (hl : l.length ≤ 9223372036854775807) (h : ActsAt w la l) (fuse room : Int) :
    Calls Try.prog 8 #[.slice la l.length lc, .int .i64 fuse, .int .i64 room] w fun e w' => e = .returned (.bool true) ∧ Below w.heap.size w w' := by
  have H := Lib.hid h
  clear h
  obtain ⟨hf0, hf1⟩ := and_mask fuse
  obtain ⟨hr0, hr1⟩ := and_mask room
  go_enter Try.func8, Try.ntmps8
  go_wp2_with fail
  refine (awake_true _).mono ?_
  rintro e w1 ⟨rfl, hb1⟩
  have HB1 := Lib.hid hb1
  clear hb1
  go_wp2_with fail
  refine (great_any _ la lc l hl (H.out.below HB1.out)).mono ?_
  rintro e w2 ⟨rfl, hb2⟩
  have HB2 := Lib.hid (HB1.out.trans (hb2.mono HB1.out.size))
  clear hb2
  cases hg : greatB l
  case true =>
    go_wp2_with fail
    go_ret
    exact ⟨rfl, HB2.out⟩
  case false =>
    have HG := Lib.hid (great_no hg)
    clear hg
    go_wp2_with fail
    refine (In.new HB2.out).mono ?_
    rintro e w3 ⟨rfl, h3⟩
    have H3 := Lib.hid h3
    clear h3
    go_wp2_with fail
    obtain ⟨left, hle⟩ : ∃ left, left = 1 + bits .and .i64 fuse 4611686018427387903 % 30 := ⟨_, rfl⟩
    obtain ⟨ro, hro⟩ : ∃ ro, ro = bits .and .i64 room 4611686018427387903 % 3000 := ⟨_, rfl⟩
    have hl1 : 1 ≤ left := by omega
    have hl2 : left ≤ 30 := by omega
    have hr2 : 0 ≤ ro := by omega
    have hr3 : ro ≤ 3000 := by omega
    rw [← hle, ← hro]
    clear hle hro hf0 hf1 hr0 hr1
    refine (H3.out.fuse left (by omega) rfl).mono ?_
    rintro e w4 ⟨rfl, h4⟩
    have H4 := Lib.hid h4
    clear h4
    go_wp2_with fail
    refine (H4.out.room ro (by omega) rfl).mono ?_
    rintro e w5 ⟨rfl, h5⟩
    have H5 := Lib.hid h5
    clear h5
    have HQ := Lib.hid (show Qs { { d0 with fuse := max left 0 } with room := max ro (-1) } left ro from
      ⟨H5.out.ok, rfl, by show max left 0 = left; omega, hl1, hl2, by show max ro (-1) = ro; omega, hr2, by show ((total d0.fs : Nat) : Int) ≤ ro; simpa [d0, total] using hr2⟩)
    go_wp2_with fail
    go_loopw [8, 9] (fun lf i wr => ∃ (I : Nat) (L : Int) (d : Dk), I ≤ l.length ∧ i = .int .i64 I ∧ lf = .int .i64 L ∧ Hid (In w wr (w2.heap.size + 1) w2.heap.size d) ∧ Hid (Qs d L ro)) (fun _ i _ => l.length - (intOf i).toNat)
    case atStart => exact ⟨0, left, _, by omega, rfl, rfl, H5, HQ⟩
    case round =>
      obtain ⟨I, L, d, hI, rfl, rfl, HD, HS⟩ := hrel
      have hL1 := HS.out.l1
      have hL2 := HS.out.l30
      by_cases hlt : I < l.length
      · obtain ⟨lb, lo, rfl, hc⟩ := H.out.cells (by omega)
        have hq := fun j v hj => (HD.out.bel.cell (p := ⟨lb, lo + I * 6 + j, none⟩) (cell_lt (hc I hlt j v hj))).trans (hc I hlt j v hj)
        have q0 : wr.cell? ⟨lb, lo + I * 6, none⟩ = some (.int .i64 l[I].dw) := hq 0 _ rfl
        have q1 : wr.cell? ⟨lb, lo + I * 6 + 1, none⟩ = some (.string l[I].name) := hq 1 _ rfl
        have q2 : wr.cell? ⟨lb, lo + I * 6 + 2, none⟩ = some (.string l[I].to) := hq 2 _ rfl
        have q3 : wr.cell? ⟨lb, lo + I * 6 + 3, none⟩ = some (.string l[I].data) := hq 3 _ rfl
        have q4 : wr.cell? ⟨lb, lo + I * 6 + 4, none⟩ = some (.int .i64 l[I].n) := hq 4 _ rfl
        have q5 : wr.cell? ⟨lb, lo + I * 6 + 5, none⟩ = some (.slice l[I].ka l[I].kn l[I].kc) := hq 5 _ rfl
        have hOK := H.out.ok _ (List.getElem_mem hlt)
        have hDA := (HG.out.2 _ (List.getElem_mem hlt)).1
        have hnm := hOK.name
        have hto := hOK.to
        clear hc hq hOK
        generalize l[I] = a at *
        have HK := Lib.hid (HD.out.box a 45)
        have HDA := Lib.hid (show a.data.size ≤ 1000000000000000 by omega)
        have HNM := Lib.hid hnm
        have HTO := Lib.hid hto
        clear hDA hnm hto H3 H4 H5 HQ
        have hdo : a.dw = 0 ∨ a.dw = 1 ∨ a.dw = 2 ∨ a.dw = 3 ∨ a.dw = 4 ∨ ((a.dw == 0) = false ∧ (a.dw == 1) = false ∧ (a.dw == 2) = false ∧ (a.dw == 3) = false ∧ (a.dw == 4) = false) := by
          simp only [beq_eq_false_iff_ne]; omega
        rcases hdo with hdo | hdo | hdo | hdo | hdo | ⟨n0, n1, n2, n3, n4⟩
        · have hd0 : (a.dw == 0) = true := by rw [hdo]; rfl
          clear hdo
          go_wp2_with fail
          refine (HK.out.create HNM.out rfl rfl).mono ?_
          rintro e w6 ⟨rfl, h6⟩
          have H6 := Lib.hid h6
          clear h6
          have hqa := HS.out.create a.name.data.toList
          generalize createE d a.name.data.toList = E at *
          generalize createD d a.name.data.toList = d' at *
          cases hqa with
          | other e0 e7 ed =>
            subst ed
            have t0 : (E != 0) = true := by simpa using e0
            have t7 : (E != 7) = true := by simpa using e7
            have HE0 := Lib.hid e0
            have HE7 := Lib.hid e7
            clear e0 e7
            go_wp2_with fail
            exact ⟨⟨I + 1, L, _, by omega, by simp, rfl, Lib.hid H6.out.i, HS⟩, by simp [intOf]; omega⟩
          | ok e0 hl3 hs3 =>
            subst e0
            have HS3 := Lib.hid hs3
            have ht := hs3.tot
            clear hs3
            have z1 : (L - 1 == 0) = false := by rw [beq_eq_false_iff_ne]; omega
            go_wp2_with fail
            refine (H6.out.down HS3.out.up).mono ?_
            rintro e w7 ⟨rfl, rfl⟩
            go_wp2_with fail
            refine (H6.out.used).mono ?_
            rintro e w7 ⟨rfl, h7⟩
            have H7 := Lib.hid h7
            clear h7
            go_wp2_with fail
            exact ⟨⟨I + 1, L - 1, _, by omega, by simp, rfl, Lib.hid H7.out.i, HS3⟩, by simp [intOf]; omega⟩
          | down e7 el hd3 =>
            subst e7
            subst el
            have HS3 := Lib.hid hd3
            have HX := Lib.hid hd3.dead
            have ht := hd3.tot
            clear hd3
            go_wp2_with fail
            refine (H6.out.down HS3.out.dn).mono ?_
            rintro e w7 ⟨rfl, rfl⟩
            go_wp2_with fail
            refine (H6.out.used).mono ?_
            rintro e w7 ⟨rfl, h7⟩
            have H7 := Lib.hid h7
            clear h7
            go_wp2_with fail
            refine (H7.out.twin).mono ?_
            rintro e w8 ⟨t, n, rfl, h8⟩
            have H8 := Lib.hid h8
            clear h8 ht
            have x8 := H8.out.k.eq (wr.heap.size, 1, .string a.name) (by simp [boxOf])
            go_wp2_with fail
            refine (H8.out.read HNM.out rfl (HX.out.e _)).mono ?_
            rintro e w9 ⟨rfl, h9⟩
            have H9 := Lib.hid h9
            clear h9 x8
            have x9 := H9.out.k.eq (wr.heap.size, 1, .string a.name) (by simp [boxOf])
            go_wp2_with fail
            refine (H9.out.create (tx_max (a := #[113]) (by decide)) (HX.out.c _).1 (HX.out.c _).2).mono ?_
            rintro e w10 ⟨rfl, h10⟩
            have H10 := Lib.hid h10
            clear h10 x9
            have x10 := H10.out.k.eq (wr.heap.size, 1, .string a.name) (by simp [boxOf])
            go_wp2_with fail
            refine (H10.out.append HNM.out (tx_15 (a := #[113]) (by decide)) (HX.out.a _ _).1 (HX.out.a _ _).2).mono ?_
            rintro e w11 ⟨rfl, h11⟩
            have H11 := Lib.hid h11
            clear h11 x10
            have x11 := H11.out.k.eq (wr.heap.size, 1, .string a.name) (by simp [boxOf])
            go_wp2_with fail
            refine (H11.out.sync HNM.out (HX.out.s _).1 (HX.out.s _).2).mono ?_
            rintro e w12 ⟨rfl, h12⟩
            have H12 := Lib.hid h12
            clear h12 x11
            have x12 := H12.out.k.eq (wr.heap.size, 1, .string a.name) (by simp [boxOf])
            go_wp2_with fail
            refine (H12.out.rename HNM.out (tx_max (a := #[113]) (by decide)) (HX.out.r _ _).1 (HX.out.r _ _).2).mono ?_
            rintro e w13 ⟨rfl, h13⟩
            have H13 := Lib.hid h13
            clear h13 x12
            have x13 := H13.out.k.eq (wr.heap.size, 1, .string a.name) (by simp [boxOf])
            go_wp2_with fail
            refine (H13.out.remove HNM.out (HX.out.m _).1 (HX.out.m _).2).mono ?_
            rintro e w14 ⟨rfl, h14⟩
            have H14 := Lib.hid h14
            clear h14 x13
            have x14 := H14.out.k.eq (wr.heap.size, 1, .string a.name) (by simp [boxOf])
            go_wp2_with fail
            refine (H14.out.same rfl).mono ?_
            rintro e w15 ⟨rfl, h15⟩
            have H15 := Lib.hid h15
            clear h15 x14
            go_wp2_with fail
            refine (H15.out.i.l.start rfl).mono ?_
            rintro e w16 ⟨rfl, h16⟩
            have H16 := Lib.hid h16
            clear h16
            go_wp2_with fail
            refine (H16.out.down HX.out.st.1).mono ?_
            rintro e w17 ⟨rfl, rfl⟩
            go_wp2_with fail
            refine (H16.out.create (tx_max (a := #[45]) (by decide)) rfl rfl).mono ?_
            rintro e w17 ⟨rfl, h17⟩
            have H17 := Lib.hid h17
            have h7 := create_not7 HX.out.st.1 HX.out.st.2 (ByteArray.data ⟨#[45]⟩).toList
            generalize createE (startD d') (ByteArray.data ⟨#[45]⟩).toList = E2 at *
            clear h17
            go_wp2_with fail
            go_ret
            exact ⟨rfl, H17.out.bel⟩
        · have hd0 : (a.dw == 1) = true := by rw [hdo]; rfl
          have m0 : (a.dw == 0) = false := by rw [hdo]; rfl
          clear hdo
          go_wp2_with fail
          refine (HK.out.append HNM.out HDA.out rfl rfl).mono ?_
          rintro e w6 ⟨rfl, h6⟩
          have H6 := Lib.hid h6
          clear h6
          have hqa := HS.out.append a.name.data.toList a.data
          generalize appendE d a.name.data.toList a.data = E at *
          generalize appendD d a.name.data.toList a.data = d' at *
          cases hqa with
          | other e0 e7 ed =>
            subst ed
            have t0 : (E != 0) = true := by simpa using e0
            have t7 : (E != 7) = true := by simpa using e7
            have HE0 := Lib.hid e0
            have HE7 := Lib.hid e7
            clear e0 e7
            go_wp2_with fail
            exact ⟨⟨I + 1, L, _, by omega, by simp, rfl, Lib.hid H6.out.i, HS⟩, by simp [intOf]; omega⟩
          | ok e0 hl3 hs3 =>
            subst e0
            have HS3 := Lib.hid hs3
            have ht := hs3.tot
            clear hs3
            have z1 : (L - 1 == 0) = false := by rw [beq_eq_false_iff_ne]; omega
            go_wp2_with fail
            refine (H6.out.down HS3.out.up).mono ?_
            rintro e w7 ⟨rfl, rfl⟩
            go_wp2_with fail
            refine (H6.out.used).mono ?_
            rintro e w7 ⟨rfl, h7⟩
            have H7 := Lib.hid h7
            clear h7
            go_wp2_with fail
            exact ⟨⟨I + 1, L - 1, _, by omega, by simp, rfl, Lib.hid H7.out.i, HS3⟩, by simp [intOf]; omega⟩
          | down e7 el hd3 =>
            subst e7
            subst el
            have HS3 := Lib.hid hd3
            have HX := Lib.hid hd3.dead
            have ht := hd3.tot
            clear hd3
            go_wp2_with fail
            refine (H6.out.down HS3.out.dn).mono ?_
            rintro e w7 ⟨rfl, rfl⟩
            go_wp2_with fail
            refine (H6.out.used).mono ?_
            rintro e w7 ⟨rfl, h7⟩
            have H7 := Lib.hid h7
            clear h7
            go_wp2_with fail
            refine (H7.out.twin).mono ?_
            rintro e w8 ⟨t, n, rfl, h8⟩
            have H8 := Lib.hid h8
            clear h8 ht
            have x8 := H8.out.k.eq (wr.heap.size, 1, .string a.name) (by simp [boxOf])
            go_wp2_with fail
            refine (H8.out.read HNM.out rfl (HX.out.e _)).mono ?_
            rintro e w9 ⟨rfl, h9⟩
            have H9 := Lib.hid h9
            clear h9 x8
            have x9 := H9.out.k.eq (wr.heap.size, 1, .string a.name) (by simp [boxOf])
            go_wp2_with fail
            refine (H9.out.create (tx_max (a := #[113]) (by decide)) (HX.out.c _).1 (HX.out.c _).2).mono ?_
            rintro e w10 ⟨rfl, h10⟩
            have H10 := Lib.hid h10
            clear h10 x9
            have x10 := H10.out.k.eq (wr.heap.size, 1, .string a.name) (by simp [boxOf])
            go_wp2_with fail
            refine (H10.out.append HNM.out (tx_15 (a := #[113]) (by decide)) (HX.out.a _ _).1 (HX.out.a _ _).2).mono ?_
            rintro e w11 ⟨rfl, h11⟩
            have H11 := Lib.hid h11
            clear h11 x10
            have x11 := H11.out.k.eq (wr.heap.size, 1, .string a.name) (by simp [boxOf])
            go_wp2_with fail
            refine (H11.out.sync HNM.out (HX.out.s _).1 (HX.out.s _).2).mono ?_
            rintro e w12 ⟨rfl, h12⟩
            have H12 := Lib.hid h12
            clear h12 x11
            have x12 := H12.out.k.eq (wr.heap.size, 1, .string a.name) (by simp [boxOf])
            go_wp2_with fail
            refine (H12.out.rename HNM.out (tx_max (a := #[113]) (by decide)) (HX.out.r _ _).1 (HX.out.r _ _).2).mono ?_
            rintro e w13 ⟨rfl, h13⟩
            have H13 := Lib.hid h13
            clear h13 x12
            have x13 := H13.out.k.eq (wr.heap.size, 1, .string a.name) (by simp [boxOf])
            go_wp2_with fail
            refine (H13.out.remove HNM.out (HX.out.m _).1 (HX.out.m _).2).mono ?_
            rintro e w14 ⟨rfl, h14⟩
            have H14 := Lib.hid h14
            clear h14 x13
            have x14 := H14.out.k.eq (wr.heap.size, 1, .string a.name) (by simp [boxOf])
            go_wp2_with fail
            refine (H14.out.same rfl).mono ?_
            rintro e w15 ⟨rfl, h15⟩
            have H15 := Lib.hid h15
            clear h15 x14
            go_wp2_with fail
            refine (H15.out.i.l.start rfl).mono ?_
            rintro e w16 ⟨rfl, h16⟩
            have H16 := Lib.hid h16
            clear h16
            go_wp2_with fail
            refine (H16.out.down HX.out.st.1).mono ?_
            rintro e w17 ⟨rfl, rfl⟩
            go_wp2_with fail
            refine (H16.out.create (tx_max (a := #[45]) (by decide)) rfl rfl).mono ?_
            rintro e w17 ⟨rfl, h17⟩
            have H17 := Lib.hid h17
            have h7 := create_not7 HX.out.st.1 HX.out.st.2 (ByteArray.data ⟨#[45]⟩).toList
            generalize createE (startD d') (ByteArray.data ⟨#[45]⟩).toList = E2 at *
            clear h17
            go_wp2_with fail
            go_ret
            exact ⟨rfl, H17.out.bel⟩
        · have hd0 : (a.dw == 2) = true := by rw [hdo]; rfl
          have m0 : (a.dw == 0) = false := by rw [hdo]; rfl
          have m1 : (a.dw == 1) = false := by rw [hdo]; rfl
          clear hdo
          go_wp2_with fail
          refine (HK.out.sync HNM.out rfl rfl).mono ?_
          rintro e w6 ⟨rfl, h6⟩
          have H6 := Lib.hid h6
          clear h6
          have hqa := HS.out.sync a.name.data.toList
          generalize syncE d a.name.data.toList = E at *
          generalize syncD d a.name.data.toList = d' at *
          cases hqa with
          | other e0 e7 ed =>
            subst ed
            have t0 : (E != 0) = true := by simpa using e0
            have t7 : (E != 7) = true := by simpa using e7
            have HE0 := Lib.hid e0
            have HE7 := Lib.hid e7
            clear e0 e7
            go_wp2_with fail
            exact ⟨⟨I + 1, L, _, by omega, by simp, rfl, Lib.hid H6.out.i, HS⟩, by simp [intOf]; omega⟩
          | ok e0 hl3 hs3 =>
            subst e0
            have HS3 := Lib.hid hs3
            have ht := hs3.tot
            clear hs3
            have z1 : (L - 1 == 0) = false := by rw [beq_eq_false_iff_ne]; omega
            go_wp2_with fail
            refine (H6.out.down HS3.out.up).mono ?_
            rintro e w7 ⟨rfl, rfl⟩
            go_wp2_with fail
            refine (H6.out.used).mono ?_
            rintro e w7 ⟨rfl, h7⟩
            have H7 := Lib.hid h7
            clear h7
            go_wp2_with fail
            exact ⟨⟨I + 1, L - 1, _, by omega, by simp, rfl, Lib.hid H7.out.i, HS3⟩, by simp [intOf]; omega⟩
          | down e7 el hd3 =>
            subst e7
            subst el
            have HS3 := Lib.hid hd3
            have HX := Lib.hid hd3.dead
            have ht := hd3.tot
            clear hd3
            go_wp2_with fail
            refine (H6.out.down HS3.out.dn).mono ?_
            rintro e w7 ⟨rfl, rfl⟩
            go_wp2_with fail
            refine (H6.out.used).mono ?_
            rintro e w7 ⟨rfl, h7⟩
            have H7 := Lib.hid h7
            clear h7
            go_wp2_with fail
            refine (H7.out.twin).mono ?_
            rintro e w8 ⟨t, n, rfl, h8⟩
            have H8 := Lib.hid h8
            clear h8 ht
            have x8 := H8.out.k.eq (wr.heap.size, 1, .string a.name) (by simp [boxOf])
            go_wp2_with fail
            refine (H8.out.read HNM.out rfl (HX.out.e _)).mono ?_
            rintro e w9 ⟨rfl, h9⟩
            have H9 := Lib.hid h9
            clear h9 x8
            have x9 := H9.out.k.eq (wr.heap.size, 1, .string a.name) (by simp [boxOf])
            go_wp2_with fail
            refine (H9.out.create (tx_max (a := #[113]) (by decide)) (HX.out.c _).1 (HX.out.c _).2).mono ?_
            rintro e w10 ⟨rfl, h10⟩
            have H10 := Lib.hid h10
            clear h10 x9
            have x10 := H10.out.k.eq (wr.heap.size, 1, .string a.name) (by simp [boxOf])
            go_wp2_with fail
            refine (H10.out.append HNM.out (tx_15 (a := #[113]) (by decide)) (HX.out.a _ _).1 (HX.out.a _ _).2).mono ?_
            rintro e w11 ⟨rfl, h11⟩
            have H11 := Lib.hid h11
            clear h11 x10
            have x11 := H11.out.k.eq (wr.heap.size, 1, .string a.name) (by simp [boxOf])
            go_wp2_with fail
            refine (H11.out.sync HNM.out (HX.out.s _).1 (HX.out.s _).2).mono ?_
            rintro e w12 ⟨rfl, h12⟩
            have H12 := Lib.hid h12
            clear h12 x11
            have x12 := H12.out.k.eq (wr.heap.size, 1, .string a.name) (by simp [boxOf])
            go_wp2_with fail
            refine (H12.out.rename HNM.out (tx_max (a := #[113]) (by decide)) (HX.out.r _ _).1 (HX.out.r _ _).2).mono ?_
            rintro e w13 ⟨rfl, h13⟩
            have H13 := Lib.hid h13
            clear h13 x12
            have x13 := H13.out.k.eq (wr.heap.size, 1, .string a.name) (by simp [boxOf])
            go_wp2_with fail
            refine (H13.out.remove HNM.out (HX.out.m _).1 (HX.out.m _).2).mono ?_
            rintro e w14 ⟨rfl, h14⟩
            have H14 := Lib.hid h14
            clear h14 x13
            have x14 := H14.out.k.eq (wr.heap.size, 1, .string a.name) (by simp [boxOf])
            go_wp2_with fail
            refine (H14.out.same rfl).mono ?_
            rintro e w15 ⟨rfl, h15⟩
            have H15 := Lib.hid h15
            clear h15 x14
            go_wp2_with fail
            refine (H15.out.i.l.start rfl).mono ?_
            rintro e w16 ⟨rfl, h16⟩
            have H16 := Lib.hid h16
            clear h16
            go_wp2_with fail
            refine (H16.out.down HX.out.st.1).mono ?_
            rintro e w17 ⟨rfl, rfl⟩
            go_wp2_with fail
            refine (H16.out.create (tx_max (a := #[45]) (by decide)) rfl rfl).mono ?_
            rintro e w17 ⟨rfl, h17⟩
            have H17 := Lib.hid h17
            have h7 := create_not7 HX.out.st.1 HX.out.st.2 (ByteArray.data ⟨#[45]⟩).toList
            generalize createE (startD d') (ByteArray.data ⟨#[45]⟩).toList = E2 at *
            clear h17
            go_wp2_with fail
            go_ret
            exact ⟨rfl, H17.out.bel⟩
        · have hd0 : (a.dw == 3) = true := by rw [hdo]; rfl
          have m0 : (a.dw == 0) = false := by rw [hdo]; rfl
          have m1 : (a.dw == 1) = false := by rw [hdo]; rfl
          have m2 : (a.dw == 2) = false := by rw [hdo]; rfl
          clear hdo
          go_wp2_with fail
          refine (HK.out.rename HNM.out HTO.out rfl rfl).mono ?_
          rintro e w6 ⟨rfl, h6⟩
          have H6 := Lib.hid h6
          clear h6
          have hqa := HS.out.rename a.name.data.toList a.to.data.toList
          generalize renameE d a.name.data.toList a.to.data.toList = E at *
          generalize renameD d a.name.data.toList a.to.data.toList = d' at *
          cases hqa with
          | other e0 e7 ed =>
            subst ed
            have t0 : (E != 0) = true := by simpa using e0
            have t7 : (E != 7) = true := by simpa using e7
            have HE0 := Lib.hid e0
            have HE7 := Lib.hid e7
            clear e0 e7
            go_wp2_with fail
            exact ⟨⟨I + 1, L, _, by omega, by simp, rfl, Lib.hid H6.out.i, HS⟩, by simp [intOf]; omega⟩
          | ok e0 hl3 hs3 =>
            subst e0
            have HS3 := Lib.hid hs3
            have ht := hs3.tot
            clear hs3
            have z1 : (L - 1 == 0) = false := by rw [beq_eq_false_iff_ne]; omega
            go_wp2_with fail
            refine (H6.out.down HS3.out.up).mono ?_
            rintro e w7 ⟨rfl, rfl⟩
            go_wp2_with fail
            refine (H6.out.used).mono ?_
            rintro e w7 ⟨rfl, h7⟩
            have H7 := Lib.hid h7
            clear h7
            go_wp2_with fail
            exact ⟨⟨I + 1, L - 1, _, by omega, by simp, rfl, Lib.hid H7.out.i, HS3⟩, by simp [intOf]; omega⟩
          | down e7 el hd3 =>
            subst e7
            subst el
            have HS3 := Lib.hid hd3
            have HX := Lib.hid hd3.dead
            have ht := hd3.tot
            clear hd3
            go_wp2_with fail
            refine (H6.out.down HS3.out.dn).mono ?_
            rintro e w7 ⟨rfl, rfl⟩
            go_wp2_with fail
            refine (H6.out.used).mono ?_
            rintro e w7 ⟨rfl, h7⟩
            have H7 := Lib.hid h7
            clear h7
            go_wp2_with fail
            refine (H7.out.twin).mono ?_
            rintro e w8 ⟨t, n, rfl, h8⟩
            have H8 := Lib.hid h8
            clear h8 ht
            have x8 := H8.out.k.eq (wr.heap.size, 1, .string a.name) (by simp [boxOf])
            go_wp2_with fail
            refine (H8.out.read HNM.out rfl (HX.out.e _)).mono ?_
            rintro e w9 ⟨rfl, h9⟩
            have H9 := Lib.hid h9
            clear h9 x8
            have x9 := H9.out.k.eq (wr.heap.size, 1, .string a.name) (by simp [boxOf])
            go_wp2_with fail
            refine (H9.out.create (tx_max (a := #[113]) (by decide)) (HX.out.c _).1 (HX.out.c _).2).mono ?_
            rintro e w10 ⟨rfl, h10⟩
            have H10 := Lib.hid h10
            clear h10 x9
            have x10 := H10.out.k.eq (wr.heap.size, 1, .string a.name) (by simp [boxOf])
            go_wp2_with fail
            refine (H10.out.append HNM.out (tx_15 (a := #[113]) (by decide)) (HX.out.a _ _).1 (HX.out.a _ _).2).mono ?_
            rintro e w11 ⟨rfl, h11⟩
            have H11 := Lib.hid h11
            clear h11 x10
            have x11 := H11.out.k.eq (wr.heap.size, 1, .string a.name) (by simp [boxOf])
            go_wp2_with fail
            refine (H11.out.sync HNM.out (HX.out.s _).1 (HX.out.s _).2).mono ?_
            rintro e w12 ⟨rfl, h12⟩
            have H12 := Lib.hid h12
            clear h12 x11
            have x12 := H12.out.k.eq (wr.heap.size, 1, .string a.name) (by simp [boxOf])
            go_wp2_with fail
            refine (H12.out.rename HNM.out (tx_max (a := #[113]) (by decide)) (HX.out.r _ _).1 (HX.out.r _ _).2).mono ?_
            rintro e w13 ⟨rfl, h13⟩
            have H13 := Lib.hid h13
            clear h13 x12
            have x13 := H13.out.k.eq (wr.heap.size, 1, .string a.name) (by simp [boxOf])
            go_wp2_with fail
            refine (H13.out.remove HNM.out (HX.out.m _).1 (HX.out.m _).2).mono ?_
            rintro e w14 ⟨rfl, h14⟩
            have H14 := Lib.hid h14
            clear h14 x13
            have x14 := H14.out.k.eq (wr.heap.size, 1, .string a.name) (by simp [boxOf])
            go_wp2_with fail
            refine (H14.out.same rfl).mono ?_
            rintro e w15 ⟨rfl, h15⟩
            have H15 := Lib.hid h15
            clear h15 x14
            go_wp2_with fail
            refine (H15.out.i.l.start rfl).mono ?_
            rintro e w16 ⟨rfl, h16⟩
            have H16 := Lib.hid h16
            clear h16
            go_wp2_with fail
            refine (H16.out.down HX.out.st.1).mono ?_
            rintro e w17 ⟨rfl, rfl⟩
            go_wp2_with fail
            refine (H16.out.create (tx_max (a := #[45]) (by decide)) rfl rfl).mono ?_
            rintro e w17 ⟨rfl, h17⟩
            have H17 := Lib.hid h17
            have h7 := create_not7 HX.out.st.1 HX.out.st.2 (ByteArray.data ⟨#[45]⟩).toList
            generalize createE (startD d') (ByteArray.data ⟨#[45]⟩).toList = E2 at *
            clear h17
            go_wp2_with fail
            go_ret
            exact ⟨rfl, H17.out.bel⟩
        · have hd0 : (a.dw == 4) = true := by rw [hdo]; rfl
          have m0 : (a.dw == 0) = false := by rw [hdo]; rfl
          have m1 : (a.dw == 1) = false := by rw [hdo]; rfl
          have m2 : (a.dw == 2) = false := by rw [hdo]; rfl
          have m3 : (a.dw == 3) = false := by rw [hdo]; rfl
          clear hdo
          go_wp2_with fail
          refine (HK.out.remove HNM.out rfl rfl).mono ?_
          rintro e w6 ⟨rfl, h6⟩
          have H6 := Lib.hid h6
          clear h6
          have hqa := HS.out.remove a.name.data.toList
          generalize removeE d a.name.data.toList = E at *
          generalize removeD d a.name.data.toList = d' at *
          cases hqa with
          | other e0 e7 ed =>
            subst ed
            have t0 : (E != 0) = true := by simpa using e0
            have t7 : (E != 7) = true := by simpa using e7
            have HE0 := Lib.hid e0
            have HE7 := Lib.hid e7
            clear e0 e7
            go_wp2_with fail
            exact ⟨⟨I + 1, L, _, by omega, by simp, rfl, Lib.hid H6.out.i, HS⟩, by simp [intOf]; omega⟩
          | ok e0 hl3 hs3 =>
            subst e0
            have HS3 := Lib.hid hs3
            have ht := hs3.tot
            clear hs3
            have z1 : (L - 1 == 0) = false := by rw [beq_eq_false_iff_ne]; omega
            go_wp2_with fail
            refine (H6.out.down HS3.out.up).mono ?_
            rintro e w7 ⟨rfl, rfl⟩
            go_wp2_with fail
            refine (H6.out.used).mono ?_
            rintro e w7 ⟨rfl, h7⟩
            have H7 := Lib.hid h7
            clear h7
            go_wp2_with fail
            exact ⟨⟨I + 1, L - 1, _, by omega, by simp, rfl, Lib.hid H7.out.i, HS3⟩, by simp [intOf]; omega⟩
          | down e7 el hd3 =>
            subst e7
            subst el
            have HS3 := Lib.hid hd3
            have HX := Lib.hid hd3.dead
            have ht := hd3.tot
            clear hd3
            go_wp2_with fail
            refine (H6.out.down HS3.out.dn).mono ?_
            rintro e w7 ⟨rfl, rfl⟩
            go_wp2_with fail
            refine (H6.out.used).mono ?_
            rintro e w7 ⟨rfl, h7⟩
            have H7 := Lib.hid h7
            clear h7
            go_wp2_with fail
            refine (H7.out.twin).mono ?_
            rintro e w8 ⟨t, n, rfl, h8⟩
            have H8 := Lib.hid h8
            clear h8 ht
            have x8 := H8.out.k.eq (wr.heap.size, 1, .string a.name) (by simp [boxOf])
            go_wp2_with fail
            refine (H8.out.read HNM.out rfl (HX.out.e _)).mono ?_
            rintro e w9 ⟨rfl, h9⟩
            have H9 := Lib.hid h9
            clear h9 x8
            have x9 := H9.out.k.eq (wr.heap.size, 1, .string a.name) (by simp [boxOf])
            go_wp2_with fail
            refine (H9.out.create (tx_max (a := #[113]) (by decide)) (HX.out.c _).1 (HX.out.c _).2).mono ?_
            rintro e w10 ⟨rfl, h10⟩
            have H10 := Lib.hid h10
            clear h10 x9
            have x10 := H10.out.k.eq (wr.heap.size, 1, .string a.name) (by simp [boxOf])
            go_wp2_with fail
            refine (H10.out.append HNM.out (tx_15 (a := #[113]) (by decide)) (HX.out.a _ _).1 (HX.out.a _ _).2).mono ?_
            rintro e w11 ⟨rfl, h11⟩
            have H11 := Lib.hid h11
            clear h11 x10
            have x11 := H11.out.k.eq (wr.heap.size, 1, .string a.name) (by simp [boxOf])
            go_wp2_with fail
            refine (H11.out.sync HNM.out (HX.out.s _).1 (HX.out.s _).2).mono ?_
            rintro e w12 ⟨rfl, h12⟩
            have H12 := Lib.hid h12
            clear h12 x11
            have x12 := H12.out.k.eq (wr.heap.size, 1, .string a.name) (by simp [boxOf])
            go_wp2_with fail
            refine (H12.out.rename HNM.out (tx_max (a := #[113]) (by decide)) (HX.out.r _ _).1 (HX.out.r _ _).2).mono ?_
            rintro e w13 ⟨rfl, h13⟩
            have H13 := Lib.hid h13
            clear h13 x12
            have x13 := H13.out.k.eq (wr.heap.size, 1, .string a.name) (by simp [boxOf])
            go_wp2_with fail
            refine (H13.out.remove HNM.out (HX.out.m _).1 (HX.out.m _).2).mono ?_
            rintro e w14 ⟨rfl, h14⟩
            have H14 := Lib.hid h14
            clear h14 x13
            have x14 := H14.out.k.eq (wr.heap.size, 1, .string a.name) (by simp [boxOf])
            go_wp2_with fail
            refine (H14.out.same rfl).mono ?_
            rintro e w15 ⟨rfl, h15⟩
            have H15 := Lib.hid h15
            clear h15 x14
            go_wp2_with fail
            refine (H15.out.i.l.start rfl).mono ?_
            rintro e w16 ⟨rfl, h16⟩
            have H16 := Lib.hid h16
            clear h16
            go_wp2_with fail
            refine (H16.out.down HX.out.st.1).mono ?_
            rintro e w17 ⟨rfl, rfl⟩
            go_wp2_with fail
            refine (H16.out.create (tx_max (a := #[45]) (by decide)) rfl rfl).mono ?_
            rintro e w17 ⟨rfl, h17⟩
            have H17 := Lib.hid h17
            have h7 := create_not7 HX.out.st.1 HX.out.st.2 (ByteArray.data ⟨#[45]⟩).toList
            generalize createE (startD d') (ByteArray.data ⟨#[45]⟩).toList = E2 at *
            clear h17
            go_wp2_with fail
            go_ret
            exact ⟨rfl, H17.out.bel⟩
        · go_wp2_with fail
          exact ⟨⟨I + 1, L, _, by omega, by simp, rfl, Lib.hid HK.out.i, HS⟩, by simp [intOf]; omega⟩
      · go_wp2_with fail
        go_ret
        exact ⟨rfl, HD.out.bel⟩
end Go.Proofs.Ytmhflhbogkkblaa
