/-
  'Drop' of all there is: the log goes on in a new file first (printed by mkOk.py).
-/
import Derived.Test.YtkpoecofblhggaaGreatDoorOg
namespace Go.Proofs.YtkpoecofblhggaaGreatDoor
open Go.RowKit Go.Maps

theorem drop_sync {d : Dk} {x : Lg} {n : Int} (ho : offE d x = 0) (h1 : (x.last : Int) ≤ n) (h2 : x.fr ≤ x.last) (hs : syncE d x.nm ≠ 0) : dropS d x n = (toldE (syncE d x.nm), syncD d x.nm, toldX (syncE d x.nm) x) := by
  rw [drop_turn ho h1 h2, turn_sync hs, if_neg (show ¬ toldE (syncE d x.nm) = 0 by rw [toldE_zero]; exact hs)]
theorem drop_rot {d : Dk} {x : Lg} {n : Int} (ho : offE d x = 0) (h1 : (x.last : Int) ≤ n) (h2 : x.fr ≤ x.last) (hs : syncE d x.nm = 0) {E : Int} {d2 : Dk} {x2 : Lg} (hr : rotateS (syncD d x.nm) x = (E, d2, x2)) (hE : E ≠ 0) : dropS d x n = (toldE E, d2, toldX E x2) := by
  have e := turn_is hs
  rw [hr] at e
  rw [drop_turn ho h1 h2, e, if_neg (show ¬ toldE E = 0 by rw [toldE_zero]; exact hE)]
theorem drop_all {d : Dk} {x : Lg} {n : Int} (ho : offE d x = 0) (h1 : (x.last : Int) ≤ n) (h2 : x.fr ≤ x.last) (hs : syncE d x.nm = 0) {d2 : Dk} {x2 : Lg} (hr : rotateS (syncD d x.nm) x = (0, d2, x2)) : dropS d x n = goS n x2.old.length d2 x2 := by
  have e := turn_is hs
  rw [hr] at e
  rw [drop_turn ho h1 h2, e]
  rfl
set_option maxRecDepth 100000 in
set_option maxHeartbeats 8000000 in
theorem wdrop_turn (w : World) (b sb ob db m : Nat) (d : Dk) (x : Lg) (n : Int) (h : WD w b sb ob db m d x) (hl : x.log.size ≤ 1000) (hol : x.old.length ≤ 999) (ho1 : ∀ k ∈ x.old, k < 100) (hfr : x.fr < 100) (hla : x.last < 99) (ho : offE d x = 0) (hn1 : (x.last : Int) ≤ n) (hn2 : x.fr ≤ x.last) :
    Calls Tryz.prog 18 #[.pointer (some ⟨b, 0, none⟩), .int .i64 n] w (DropP w b sb ob db m (dropS d x n)) := by
  have H0 := Lib.hid (WA.start h)
  have HO := Lib.hid (H0.out.off hl)
  rw [ho, off_zero ho] at HO
  have HA0 := Lib.hid ho
  clear h ho
  by_cases hS : syncE d x.nm = 0
  · obtain ⟨Z, hZ⟩ : ∃ Z, Z = rotateS (syncD d x.nm) x := ⟨_, rfl⟩
    obtain ⟨E, d2, x2⟩ := Z
    have HSN := Lib.hid hS
    have HZ := Lib.hid hZ
    go_enter Tryz.func18, Tryz.ntmps18
    go_wp2_with fail
    refine HO.out.mono ?_
    rintro e w1 ⟨rfl, h1⟩
    obtain ⟨v1, hc1, _⟩ := h1.cells
    have b01 := hc1.b0
    have b31 := hc1.b3
    have s21 := hc1.s2
    have H1 := Lib.hid (show ∀ nq, WA w (w1.drewN nq) b sb ob db m sb ob d x from fun nq => h1.drewN nq)
    clear h1 hc1
    go_wp2_with fail
    go_quiet (fail)
    generalize hwq : w1.drewN _ = wq
    have HQ := Lib.hid (show WA w wq b sb ob db m sb ob d x from hwq ▸ H1.out _)
    have H1d := Lib.hid HQ.out.drew
    clear hwq b01 b31 s21
    obtain ⟨v2, hc2, _⟩ := HQ.out.cells
    have b02 := hc2.b0
    have s02 := hc2.s0
    have s12 := hc2.s1
    clear hc2
    have HSY := Lib.hid (H1d.out.sync hl)
    rw [HSN.out] at HSY
    go_wp2_with fail
    go_region_held3 (fun w' => w'.cell? ⟨b, 0, none⟩ = some (.pointer (some ⟨sb, 0, none⟩)) ∧ w'.cell? ⟨sb, 0, none⟩ = some (.pointer (some ⟨db, 0, none⟩)) ∧ w'.cell? ⟨sb, 1, none⟩ = some (.string (fileB x.log x.fr)))
      (first | exact H1d.out.segs | exact h2.segs | exact h3.segsT | assumption)
      (first
        | (go_at_call 31; ((with_reducible refine HSY.out.mono ?_); rintro e w2 ⟨rfl, h2⟩))
        | (go_at_call 30; ((with_reducible refine (h2.told _).mono ?_); rintro e w3 ⟨rfl, h3⟩)))
    have H3 := Lib.hid (show WA w w3 b sb ob db m sb ob (syncD d x.nm) x from h3)
    clear h2 h3
    have hT0 : toldE 0 = 0 := rfl
    rw [hT0]
    have HRO := Lib.hid (H3.out.rotate hl (by omega) (by omega))
    rw [← HZ.out] at HRO
    by_cases hE : E = 0
    · subst hE
      have hk := rotate_ok (d := syncD d x.nm) (x := x) (by rw [← HZ.out])
      have hk2 := rotate_fr (d := syncD d x.nm) (x := x) (by rw [← HZ.out]) hn2
      rw [← HZ.out] at hk hk2
      have HR := Lib.hid (drop_all HA0.out hn1 hn2 HSN.out HZ.out.symm)
      have hl2 : x2.log.size ≤ 1000 := by rw [hk.2.2.1]; exact hl
      have ho2 : ∀ k ∈ x2.old, k < 100 := fun k hk3 => by
        rw [hk2.2] at hk3
        rcases List.mem_append.1 hk3 with h | h
        · exact ho1 k h
        · rw [List.mem_singleton.1 h]; exact hfr
      have hfr2 : x2.fr < 100 := by rw [hk2.1]; omega
      have hol2 : x2.old.length ≤ 1000 := by rw [hk2.2, List.length_append]; simp; omega
      have HB2 := Lib.hid (And.intro hl2 (And.intro ho2 (And.intro hfr2 hol2)))
      clear hk hk2 hl2 ho2 hfr2 hol2
      go_wp2_with fail
      refine HRO.out.mono ?_
      rintro e w4 ⟨rfl, sb2, ob2, h4⟩
      have H4 := Lib.hid h4
      clear h4
      go_wp2_with fail
      refine (H4.out.told 0).mono ?_
      rintro e w5 ⟨rfl, h5⟩
      have HI := Lib.hid (show ∀ _ : Nat, DropI w b sb ob db m n (dropS d x n) w5 sb2 ob2 d2 x2 from fun _ => ⟨h5, HR.out, HB2.out.1, HB2.out.2.1, HB2.out.2.2.1, HB2.out.2.2.2⟩)
      clear h5
      rw [hT0]
      generalize dropS d x n = R at *
      go_wp2_with fail
      go_loopw [8, 9] (fun _ _ wr => ∃ sbk obk d' x', Hid (DropI w b sb ob db m n R wr sbk obk d' x')) (fun _ _ wr => oldLen b wr)
      case atStart => exact ⟨_, _, _, _, Lib.hid (HI.out 0)⟩
      case round =>
        clear HI
        obtain ⟨sbk, obk, d', x', HI⟩ := hrel
        obtain ⟨vv, hcc, hvv⟩ := HI.out.wa.cells
        have HOL := Lib.hid HI.out.oldLen
        have cb0 := hcc.b0
        have cb1 := hcc.b1
        have cb2 := hcc.b2
        have cs0 := hcc.s0
        have cs2 := hcc.s2
        have HFR := Lib.hid HI.out.fr
        have HLN := Lib.hid HI.out.len
        cases hold : x'.old with
        | nil =>
          rw [hold] at hvv
          obtain ⟨va, vc, rfl⟩ := hvv.shape
          clear hvv hcc cb1
          have HX := Lib.hid (HI.out.res.trans (goS_nil hold))
          clear hold
          go_wp2_with fail
          go_ret
          exact DropP.mk HX.out HI.out.wa
        | cons f r =>
          obtain ⟨off, cap, rfl, hc1, hc2, hc3, hc4⟩ := hvv.cell (by rw [hold]; simp)
          rw [hold] at cb2 hc1 hc4
          simp only [List.length_cons] at cb2 hc1
          have hg0 : wr.cell? ⟨obk, off, none⟩ = some (.int .i64 (f : Nat)) := by have := hc4 0 (by simp); simpa using this
          have hrl : r.length + 1 ≤ 1000 := by have := HLN.out; rw [hold] at this; simpa using this
          have HRN := Lib.hid (show ∃ q : Nat, q = r.headD x'.fr ∧ q < 100 ∧ (r = [] → q = x'.fr) ∧ (0 < r.length → wr.cell? ⟨obk, off + 1, none⟩ = some (.int .i64 (q : Nat))) from by
            cases r with
            | nil => exact ⟨_, rfl, HFR.out, fun _ => rfl, fun h => by cases h⟩
            | cons f2 r2 =>
              refine ⟨f2, rfl, HI.out.old f2 (by rw [hold]; simp), (fun h => by cases h), fun _ => ?_⟩
              have := hc4 1 (by simp)
              simpa using this)
          obtain ⟨q, hq1, hq2, hq3, hq4⟩ := HRN.out
          have HQ := Lib.hid hq1
          clear hc4
          have hf100 := HI.out.old f (by rw [hold]; simp)
          have HOLD := Lib.hid hold
          have HFF := Lib.hid (fun W => file_any x'.log f f rfl hf100 HI.out.log W)
          have HH1 := Lib.hid (Hold5.below (show Hold5 b sbk db obk off x'.log (.slice (some ⟨obk, off, none⟩) (r.length + 1) cap) f wr from ⟨cb0, cs0, cb1, cb2, hg0⟩) (Below.refl _ _).drew)
          have HA1 := Lib.hid HI.out.wa.drew
          have HLG := Lib.hid HI.out.log
          have HNE := Lib.hid (show (sbk ≠ b ∧ obk ≠ b) ∧ (b ∉ [db, m] ∧ sbk ∉ [db, m] ∧ obk ∉ [db, m]) from by
            obtain ⟨h1, h2⟩ := HI.out.wa.wd.wal.blk
            have e1 := HI.out.wa.wd.dk
            have ea := e1 b (.inl rfl)
            have eb := e1 sbk (.inr (.inl rfl))
            have ec := e1 obk (.inr (.inr rfl))
            refine ⟨⟨Ne.symm HI.out.wa.wd.wal.ne, ?_⟩, by simp [ea], by simp [eb], by simp [ec]⟩
            obtain ⟨h3, h4⟩ := h2
            rintro rfl
            have : wr.cell? ⟨obk, 0, none⟩ = some (.pointer (some ⟨sbk, 0, none⟩)) := cb0
            rcases h4 with ⟨_, h4⟩ | ⟨_, _, cur, _, h5, _⟩
            · rw [hold] at h4; cases h4
            · rw [h3] at h5; injection h5 with h6; injection h6 with _ h7; exact absurd h7 (by decide))
          by_cases hst : n < (q : Int) - 1
          · have HX := Lib.hid (HI.out.res.trans (goS_stop hold (by rw [← hq1]; exact hst)))
            clear hvv hcc HRN hq1 hold HFF
            by_cases hr0 : 0 < r.length
            · have hq5 := hq4 hr0
              go_wp2_with fail
              go_ret
              exact DropP.mk HX.out HI.out.wa
            · have hq5 := hq3 (List.eq_nil_of_length_eq_zero (by omega))
              subst hq5
              go_wp2_with fail
              go_ret
              exact DropP.mk HX.out HI.out.wa
          · have HST := Lib.hid (show ¬ n < ((r.headD x'.fr : Nat) : Int) - 1 by rw [← hq1]; exact hst)
            clear hvv hcc HRN hq1 hold
            have hqw : wrap64 ((q : Int) - 1) = (q : Int) - 1 := IntWalk.wrap64_in _ (by omega)
            by_cases hr0 : 0 < r.length
            · have hq5 := hq4 hr0
              go_wp2_with fail
              go_region_held3 (fun w' => w'.cell? ⟨b, 0, none⟩ = some (.pointer (some ⟨sbk, 0, none⟩)) ∧ w'.cell? ⟨sbk, 0, none⟩ = some (.pointer (some ⟨db, 0, none⟩)) ∧ w'.cell? ⟨b, 1, none⟩ = some (.string x'.log) ∧ w'.cell? ⟨b, 2, none⟩ = some (.slice (some ⟨obk, off, none⟩) (r.length + 1) cap) ∧ w'.cell? ⟨obk, off, none⟩ = some (.int .i64 (f : Nat)))
                (first | exact hh4 | exact hh3 | exact hh2 | exact HH1.out | assumption)
                (first
                  | (go_at_call 36; ((with_reducible refine (HFF.out _).mono ?_); rintro e w2 ⟨rfl, hb2⟩; have h2 := HA1.out.below hb2; have hh2 := HH1.out.below hb2))
                  | (go_at_call 35; ((with_reducible refine (h2.removeB HLG.out f).mono ?_); rintro e w3 ⟨rfl, h3, hb3⟩; have hh3 := hh2.but hb3 HNE.out.2.1 HNE.out.2.2.1 HNE.out.2.2.2))
                  | (go_at_call 30; ((with_reducible refine (h3.toldC _).mono ?_); rintro e w4 ⟨rfl, h4, hb4, hk4⟩; have hh4 := hh3.told hb4 hk4 HNE.out.1.1 HNE.out.1.2)))
              by_cases hE : removeE d' (fileL x'.log f) = 0
              · have HNX := Lib.hid (fun w2 (hw : WA w w2 b sb ob db m sbk obk (removeD d' (fileL x'.log f)) { x' with old := r }) => HI.out.next HOLD.out (Int.not_lt.2 HST.out) hE rfl hw)
                rw [hE] at h4 ⊢
                have H4 := Lib.hid (show WA w w4 b sb ob db m sbk obk (removeD d' (fileL x'.log f)) x' from h4)
                have c42 := hh4.2.2.2.1
                obtain ⟨_, hc9, _⟩ := H4.out.cells
                have z42 := hc9.zb 2
                have hT0 : toldE 0 = 0 := rfl
                rw [hT0]
                clear h2 h3 h4 hb2 hb3 hb4 hk4 hh2 hh3 hh4 hc9 hE
                go_wp2_with fail
                go_roundw
                case rel => exact ⟨_, _, _, _, Lib.hid (HNX.out _ (H4.out.shift HOLD.out c42 (by first | rfl | (rw [if_neg (by omega)]))))⟩
                case measure =>
                  rw [HOL.out]
                  exact Nat.lt_of_le_of_lt (Nat.le_of_eq (HNX.out _ (H4.out.shift HOLD.out c42 (by first | rfl | (rw [if_neg (by omega)])))).oldLen) (by rw [HOLD.out]; simp)
              · have HX := Lib.hid (HI.out.res.trans (goS_fail HOLD.out (Int.not_lt.2 HST.out) hE))
                have hT : (toldE (removeE d' (fileL x'.log f)) != 0) = true := by rw [bne_iff_ne, ne_eq, toldE_zero]; exact hE
                have H4 := Lib.hid h4
                clear h2 h3 h4 hb2 hb3 hb4 hk4 hh2 hh3 hh4 hE
                go_wp2_with fail
                go_ret
                exact DropP.mk HX.out H4.out
            · have hq5 := hq3 (List.eq_nil_of_length_eq_zero (by omega))
              subst hq5
              go_wp2_with fail
              go_region_held3 (fun w' => w'.cell? ⟨b, 0, none⟩ = some (.pointer (some ⟨sbk, 0, none⟩)) ∧ w'.cell? ⟨sbk, 0, none⟩ = some (.pointer (some ⟨db, 0, none⟩)) ∧ w'.cell? ⟨b, 1, none⟩ = some (.string x'.log) ∧ w'.cell? ⟨b, 2, none⟩ = some (.slice (some ⟨obk, off, none⟩) (r.length + 1) cap) ∧ w'.cell? ⟨obk, off, none⟩ = some (.int .i64 (f : Nat)))
                (first | exact hh4 | exact hh3 | exact hh2 | exact HH1.out | assumption)
                (first
                  | (go_at_call 36; ((with_reducible refine (HFF.out _).mono ?_); rintro e w2 ⟨rfl, hb2⟩; have h2 := HA1.out.below hb2; have hh2 := HH1.out.below hb2))
                  | (go_at_call 35; ((with_reducible refine (h2.removeB HLG.out f).mono ?_); rintro e w3 ⟨rfl, h3, hb3⟩; have hh3 := hh2.but hb3 HNE.out.2.1 HNE.out.2.2.1 HNE.out.2.2.2))
                  | (go_at_call 30; ((with_reducible refine (h3.toldC _).mono ?_); rintro e w4 ⟨rfl, h4, hb4, hk4⟩; have hh4 := hh3.told hb4 hk4 HNE.out.1.1 HNE.out.1.2)))
              by_cases hE : removeE d' (fileL x'.log f) = 0
              · have HNX := Lib.hid (fun w2 (hw : WA w w2 b sb ob db m sbk obk (removeD d' (fileL x'.log f)) { x' with old := r }) => HI.out.next HOLD.out (Int.not_lt.2 HST.out) hE rfl hw)
                rw [hE] at h4 ⊢
                have H4 := Lib.hid (show WA w w4 b sb ob db m sbk obk (removeD d' (fileL x'.log f)) x' from h4)
                have c42 := hh4.2.2.2.1
                obtain ⟨_, hc9, _⟩ := H4.out.cells
                have z42 := hc9.zb 2
                have hT0 : toldE 0 = 0 := rfl
                rw [hT0]
                clear h2 h3 h4 hb2 hb3 hb4 hk4 hh2 hh3 hh4 hc9 hE
                go_wp2_with fail
                go_roundw
                case rel => exact ⟨_, _, _, _, Lib.hid (HNX.out _ (H4.out.shift HOLD.out c42 (by first | rfl | (rw [if_neg (by omega)]))))⟩
                case measure =>
                  rw [HOL.out]
                  exact Nat.lt_of_le_of_lt (Nat.le_of_eq (HNX.out _ (H4.out.shift HOLD.out c42 (by first | rfl | (rw [if_neg (by omega)])))).oldLen) (by rw [HOLD.out]; simp)
              · have HX := Lib.hid (HI.out.res.trans (goS_fail HOLD.out (Int.not_lt.2 HST.out) hE))
                have hT : (toldE (removeE d' (fileL x'.log f)) != 0) = true := by rw [bne_iff_ne, ne_eq, toldE_zero]; exact hE
                have H4 := Lib.hid h4
                clear h2 h3 h4 hb2 hb3 hb4 hk4 hh2 hh3 hh4 hE
                go_wp2_with fail
                go_ret
                exact DropP.mk HX.out H4.out
    · have hT2 : (toldE E != 0) = true := by rw [bne_iff_ne, ne_eq, toldE_zero]; exact hE
      have HAD := Lib.hid (drop_rot HA0.out hn1 hn2 HSN.out HZ.out.symm hE)
      go_wp2_with fail
      refine HRO.out.mono ?_
      rintro e w4 ⟨rfl, sb2, ob2, h4⟩
      have H4 := Lib.hid h4
      clear h4
      go_wp2_with fail
      refine (H4.out.told E).mono ?_
      rintro e w5 ⟨rfl, h5⟩
      have H5 := Lib.hid h5
      clear h5
      go_wp2_with fail
      go_ret
      exact DropP.mk HAD.out H5.out
  · have HSN := Lib.hid hS
    have hT : (toldE (syncE d x.nm) != 0) = true := by rw [bne_iff_ne, ne_eq, toldE_zero]; exact hS
    have HAD := Lib.hid (drop_sync HA0.out hn1 hn2 hS)
    go_enter Tryz.func18, Tryz.ntmps18
    go_wp2_with fail
    refine HO.out.mono ?_
    rintro e w1 ⟨rfl, h1⟩
    obtain ⟨v1, hc1, _⟩ := h1.cells
    have b01 := hc1.b0
    have b31 := hc1.b3
    have s21 := hc1.s2
    have H1 := Lib.hid (show ∀ nq, WA w (w1.drewN nq) b sb ob db m sb ob d x from fun nq => h1.drewN nq)
    clear h1 hc1
    go_wp2_with fail
    go_quiet (fail)
    generalize hwq : w1.drewN _ = wq
    have HQ := Lib.hid (show WA w wq b sb ob db m sb ob d x from hwq ▸ H1.out _)
    have H1d := Lib.hid HQ.out.drew
    clear hwq b01 b31 s21
    obtain ⟨v2, hc2, _⟩ := HQ.out.cells
    have b02 := hc2.b0
    have s02 := hc2.s0
    have s12 := hc2.s1
    clear hc2
    have HSY := Lib.hid (H1d.out.sync hl)
    skip
    go_wp2_with fail
    go_region_held3 (fun w' => w'.cell? ⟨b, 0, none⟩ = some (.pointer (some ⟨sb, 0, none⟩)) ∧ w'.cell? ⟨sb, 0, none⟩ = some (.pointer (some ⟨db, 0, none⟩)) ∧ w'.cell? ⟨sb, 1, none⟩ = some (.string (fileB x.log x.fr)))
      (first | exact H1d.out.segs | exact h2.segs | exact h3.segsT | assumption)
      (first
        | (go_at_call 31; ((with_reducible refine HSY.out.mono ?_); rintro e w2 ⟨rfl, h2⟩))
        | (go_at_call 30; ((with_reducible refine (h2.told _).mono ?_); rintro e w3 ⟨rfl, h3⟩)))
    have H3 := Lib.hid h3
    clear h2 h3
    go_wp2_with fail
    go_ret
    exact DropP.mk HAD.out H3.out
end Go.Proofs.YtkpoecofblhggaaGreatDoor
