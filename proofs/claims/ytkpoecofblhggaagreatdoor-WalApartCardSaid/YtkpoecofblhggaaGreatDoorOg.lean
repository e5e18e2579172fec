/-
  'Drop' on a log that is not off (printed by mkOg.py).
-/
import Derived.Test.YtkpoecofblhggaaGreatDoorOf
import Derived.Deep.QuietTactic
namespace Go.Proofs.YtkpoecofblhggaaGreatDoor
open Go.RowKit Go.Maps

/-- what 'Drop' answers and leaves -/
def DropP (w : World) (b sb ob db m : Nat) (R : Rs) (e : Ending) (w' : World) : Prop := e = .returned (.int .i64 R.1) ∧ WR w b sb ob db m R.2.1 R.2.2 w'
theorem DropP.mk {w w' : World} {b sb ob db m sbk obk : Nat} {R : Rs} {E : Int} {d : Dk} {x : Lg} (hR : R = (E, d, x)) (h : WA w w' b sb ob db m sbk obk d x) : DropP w b sb ob db m R (.returned (.int .i64 E)) w' := by
  subst hR; exact ⟨rfl, h.to⟩
theorem goS_nil {n : Int} {k : Nat} {d : Dk} {x : Lg} (h : x.old = []) : goS n k d x = (0, d, x) := by
  cases k <;> simp [goS, h]
theorem goS_stop {n : Int} {d : Dk} {x : Lg} {f : Nat} {r : List Nat} (h : x.old = f :: r) (hn : n < ((r.headD x.fr : Nat) : Int) - 1) : goS n x.old.length d x = (0, d, x) := by
  rw [h, List.length_cons, goS, h]; simp only; rw [if_pos hn]
theorem goS_fail {n : Int} {d : Dk} {x : Lg} {f : Nat} {r : List Nat} (h : x.old = f :: r) (hn : ¬ n < ((r.headD x.fr : Nat) : Int) - 1) (hE : removeE d (fileL x.log f) ≠ 0) : goS n x.old.length d x = (toldE (removeE d (fileL x.log f)), removeD d (fileL x.log f), toldX (removeE d (fileL x.log f)) x) := by
  rw [h, List.length_cons, goS, h]; simp only; rw [if_neg hn, if_neg hE]
theorem goS_next {n : Int} {d : Dk} {x : Lg} {f : Nat} {r : List Nat} (h : x.old = f :: r) (hn : ¬ n < ((r.headD x.fr : Nat) : Int) - 1) (hE : removeE d (fileL x.log f) = 0) : goS n x.old.length d x = goS n r.length (removeD d (fileL x.log f)) { x with old := r } := by
  rw [h, List.length_cons, goS, h]; simp only; rw [if_neg hn, if_pos hE]
theorem DropI.next {w wr w2 : World} {b sb ob db m sbk obk : Nat} {n : Int} {R : Rs} {d d2 : Dk} {x : Lg} {f : Nat} {r : List Nat} (h : DropI w b sb ob db m n R wr sbk obk d x) (ho : x.old = f :: r) (hn : ¬ n < ((r.headD x.fr : Nat) : Int) - 1) (hE : removeE d (fileL x.log f) = 0) (hd : d2 = removeD d (fileL x.log f)) (hw : WA w w2 b sb ob db m sbk obk d2 { x with old := r }) : DropI w b sb ob db m n R w2 sbk obk d2 { x with old := r } := by
  subst hd
  refine ⟨hw, h.res.trans (goS_next ho hn hE), h.log, fun k hk => h.old k (by rw [ho]; exact List.mem_cons_of_mem _ hk), h.fr, ?_⟩
  have := h.len
  rw [ho, List.length_cons] at this
  show r.length ≤ 1000
  omega
theorem DropI.oldLen {w wr : World} {b sb ob db m sbk obk : Nat} {n : Int} {R : Rs} {d : Dk} {x : Lg} (h : DropI w b sb ob db m n R wr sbk obk d x) : oldLen b wr = x.old.length := by
  obtain ⟨v, hc, hv⟩ := h.wa.cells
  obtain ⟨a, c, rfl⟩ := hv.shape
  unfold Proofs.YtkpoecofblhggaaGreatDoor.oldLen
  rw [hc.b2]
theorem drop_turn {d : Dk} {x : Lg} {n : Int} (ho : offE d x = 0) (h1 : (x.last : Int) ≤ n) (h2 : x.fr ≤ x.last) : dropS d x n = if (turnS d x).1 = 0 then goS n (turnS d x).2.2.old.length (turnS d x).2.1 (turnS d x).2.2 else turnS d x := by
  unfold dropS; rw [if_pos ho, off_zero ho, if_pos ⟨h1, h2⟩]
theorem drop_go {d : Dk} {x : Lg} {n : Int} (ho : offE d x = 0) (h : ¬ ((x.last : Int) ≤ n ∧ x.fr ≤ x.last)) : dropS d x n = goS n x.old.length d x := by
  unfold dropS; rw [if_pos ho, off_zero ho, if_neg h]
theorem turn_sync {d : Dk} {x : Lg} (h : syncE d x.nm ≠ 0) : turnS d x = (toldE (syncE d x.nm), syncD d x.nm, toldX (syncE d x.nm) x) := by
  unfold turnS
  rw [if_neg (show ¬ (syncT d x).1 = 0 by show ¬ toldE _ = 0; rw [toldE_zero]; exact h)]
  rfl
theorem rotate_fr {d : Dk} {x : Lg} (h : (rotateS d x).1 = 0) (hf : x.fr ≤ x.last) : (rotateS d x).2.2.fr = x.last + 1 ∧ (rotateS d x).2.2.old = x.old ++ [x.fr] := by
  unfold rotateS at h ⊢
  rw [if_neg (by omega)] at h ⊢
  dsimp only at h ⊢
  rw [if_pos h]
  exact ⟨rfl, rfl⟩
set_option maxRecDepth 100000 in
set_option maxHeartbeats 4000000 in
theorem wdrop_go (w : World) (b sb ob db m : Nat) (d : Dk) (x : Lg) (n : Int) (h : WD w b sb ob db m d x) (hl : x.log.size ≤ 1000) (hol : x.old.length ≤ 1000) (ho1 : ∀ k ∈ x.old, k < 100) (hfr : x.fr < 100) (hla : x.last < 100) (ho : offE d x = 0) (hn : ¬ ((x.last : Int) ≤ n ∧ x.fr ≤ x.last)) :
    Calls Tryz.prog 18 #[.pointer (some ⟨b, 0, none⟩), .int .i64 n] w (DropP w b sb ob db m (dropS d x n)) := by
  have H0 := Lib.hid (WA.start h)
  have HR := Lib.hid (drop_go ho hn)
  have HO := Lib.hid (H0.out.off hl)
  rw [ho, off_zero ho] at HO
  have HN := Lib.hid hn
  clear h ho hn
  generalize dropS d x n = R at *
  go_enter Tryz.func18, Tryz.ntmps18
  go_wp2_with fail
  refine HO.out.mono ?_
  rintro e w1 ⟨rfl, h1⟩
  obtain ⟨v1, hc1, _⟩ := h1.cells
  have b01 := hc1.b0
  have b31 := hc1.b3
  have s21 := hc1.s2
  have HI := Lib.hid (show ∀ nq, DropI w b sb ob db m n R (w1.drewN nq) sb ob d x from fun nq => ⟨h1.drewN nq, HR.out, hl, ho1, hfr, hol⟩)
  clear h1 hc1
  by_cases hn1 : (x.last : Int) ≤ n
  · have hn2 : ¬ x.fr ≤ x.last := fun h => HN.out ⟨hn1, h⟩
    go_wp2_with fail
    go_quiet (fail)
    go_wp2_with fail
    go_loopw [8, 9] (fun _ _ wr => ∃ sbk obk d' x', Hid (DropI w b sb ob db m n R wr sbk obk d' x')) (fun _ _ wr => oldLen b wr)
    case atStart => exact ⟨_, _, _, _, Lib.hid (HI.out _)⟩
    case round =>
      clear HI
      obtain ⟨sbk, obk, d', x', HI⟩ := hrel
      obtain ⟨vv, hcc, hvv⟩ := HI.out.wa.cells
      have HOL := Lib.hid HI.out.oldLen
      have cb0 := hcc.b0
      have cb1 := hcc.b1
      have cb2 := hcc.b2
      have cs0 := hcc.s0
      have cs2 := hcc.s2
      have HFR := Lib.hid HI.out.fr
      have HLN := Lib.hid HI.out.len
      cases hold : x'.old with
      | nil =>
        rw [hold] at hvv
        obtain ⟨va, vc, rfl⟩ := hvv.shape
        clear hvv hcc cb1
        have HX := Lib.hid (HI.out.res.trans (goS_nil hold))
        clear hold
        go_wp2_with fail
        go_ret
        exact DropP.mk HX.out HI.out.wa
      | cons f r =>
        obtain ⟨off, cap, rfl, hc1, hc2, hc3, hc4⟩ := hvv.cell (by rw [hold]; simp)
        rw [hold] at cb2 hc1 hc4
        simp only [List.length_cons] at cb2 hc1
        have hg0 : wr.cell? ⟨obk, off, none⟩ = some (.int .i64 (f : Nat)) := by have := hc4 0 (by simp); simpa using this
        have hrl : r.length + 1 ≤ 1000 := by have := HLN.out; rw [hold] at this; simpa using this
        have HRN := Lib.hid (show ∃ q : Nat, q = r.headD x'.fr ∧ q < 100 ∧ (r = [] → q = x'.fr) ∧ (0 < r.length → wr.cell? ⟨obk, off + 1, none⟩ = some (.int .i64 (q : Nat))) from by
          cases r with
          | nil => exact ⟨_, rfl, HFR.out, fun _ => rfl, fun h => by cases h⟩
          | cons f2 r2 =>
            refine ⟨f2, rfl, HI.out.old f2 (by rw [hold]; simp), (fun h => by cases h), fun _ => ?_⟩
            have := hc4 1 (by simp)
            simpa using this)
        obtain ⟨q, hq1, hq2, hq3, hq4⟩ := HRN.out
        have HQ := Lib.hid hq1
        clear hc4
        have hf100 := HI.out.old f (by rw [hold]; simp)
        have HOLD := Lib.hid hold
        have HFF := Lib.hid (fun W => file_any x'.log f f rfl hf100 HI.out.log W)
        have HH1 := Lib.hid (Hold5.below (show Hold5 b sbk db obk off x'.log (.slice (some ⟨obk, off, none⟩) (r.length + 1) cap) f wr from ⟨cb0, cs0, cb1, cb2, hg0⟩) (Below.refl _ _).drew)
        have HA1 := Lib.hid HI.out.wa.drew
        have HLG := Lib.hid HI.out.log
        have HNE := Lib.hid (show (sbk ≠ b ∧ obk ≠ b) ∧ (b ∉ [db, m] ∧ sbk ∉ [db, m] ∧ obk ∉ [db, m]) from by
          obtain ⟨h1, h2⟩ := HI.out.wa.wd.wal.blk
          have e1 := HI.out.wa.wd.dk
          have ea := e1 b (.inl rfl)
          have eb := e1 sbk (.inr (.inl rfl))
          have ec := e1 obk (.inr (.inr rfl))
          refine ⟨⟨Ne.symm HI.out.wa.wd.wal.ne, ?_⟩, by simp [ea], by simp [eb], by simp [ec]⟩
          obtain ⟨h3, h4⟩ := h2
          rintro rfl
          have : wr.cell? ⟨obk, 0, none⟩ = some (.pointer (some ⟨sbk, 0, none⟩)) := cb0
          rcases h4 with ⟨_, h4⟩ | ⟨_, _, cur, _, h5, _⟩
          · rw [hold] at h4; cases h4
          · rw [h3] at h5; injection h5 with h6; injection h6 with _ h7; exact absurd h7 (by decide))
        by_cases hst : n < (q : Int) - 1
        · have HX := Lib.hid (HI.out.res.trans (goS_stop hold (by rw [← hq1]; exact hst)))
          clear hvv hcc HRN hq1 hold HFF
          by_cases hr0 : 0 < r.length
          · have hq5 := hq4 hr0
            go_wp2_with fail
            go_ret
            exact DropP.mk HX.out HI.out.wa
          · have hq5 := hq3 (List.eq_nil_of_length_eq_zero (by omega))
            subst hq5
            go_wp2_with fail
            go_ret
            exact DropP.mk HX.out HI.out.wa
        · have HST := Lib.hid (show ¬ n < ((r.headD x'.fr : Nat) : Int) - 1 by rw [← hq1]; exact hst)
          clear hvv hcc HRN hq1 hold
          have hqw : wrap64 ((q : Int) - 1) = (q : Int) - 1 := IntWalk.wrap64_in _ (by omega)
          by_cases hr0 : 0 < r.length
          · have hq5 := hq4 hr0
            go_wp2_with fail
            go_region_held3 (fun w' => w'.cell? ⟨b, 0, none⟩ = some (.pointer (some ⟨sbk, 0, none⟩)) ∧ w'.cell? ⟨sbk, 0, none⟩ = some (.pointer (some ⟨db, 0, none⟩)) ∧ w'.cell? ⟨b, 1, none⟩ = some (.string x'.log) ∧ w'.cell? ⟨b, 2, none⟩ = some (.slice (some ⟨obk, off, none⟩) (r.length + 1) cap) ∧ w'.cell? ⟨obk, off, none⟩ = some (.int .i64 (f : Nat)))
              (first | exact hh4 | exact hh3 | exact hh2 | exact HH1.out | assumption)
              (first
                | (go_at_call 36; ((with_reducible refine (HFF.out _).mono ?_); rintro e w2 ⟨rfl, hb2⟩; have h2 := HA1.out.below hb2; have hh2 := HH1.out.below hb2))
                | (go_at_call 35; ((with_reducible refine (h2.removeB HLG.out f).mono ?_); rintro e w3 ⟨rfl, h3, hb3⟩; have hh3 := hh2.but hb3 HNE.out.2.1 HNE.out.2.2.1 HNE.out.2.2.2))
                | (go_at_call 30; ((with_reducible refine (h3.toldC _).mono ?_); rintro e w4 ⟨rfl, h4, hb4, hk4⟩; have hh4 := hh3.told hb4 hk4 HNE.out.1.1 HNE.out.1.2)))
            by_cases hE : removeE d' (fileL x'.log f) = 0
            · have HNX := Lib.hid (fun w2 (hw : WA w w2 b sb ob db m sbk obk (removeD d' (fileL x'.log f)) { x' with old := r }) => HI.out.next HOLD.out (Int.not_lt.2 HST.out) hE rfl hw)
              rw [hE] at h4 ⊢
              have H4 := Lib.hid (show WA w w4 b sb ob db m sbk obk (removeD d' (fileL x'.log f)) x' from h4)
              have c42 := hh4.2.2.2.1
              obtain ⟨_, hc9, _⟩ := H4.out.cells
              have z42 := hc9.zb 2
              have hT0 : toldE 0 = 0 := rfl
              rw [hT0]
              clear h2 h3 h4 hb2 hb3 hb4 hk4 hh2 hh3 hh4 hc9 hE
              go_wp2_with fail
              go_roundw
              case rel => exact ⟨_, _, _, _, Lib.hid (HNX.out _ (H4.out.shift HOLD.out c42 (by first | rfl | (rw [if_neg (by omega)]))))⟩
              case measure =>
                rw [HOL.out]
                exact Nat.lt_of_le_of_lt (Nat.le_of_eq (HNX.out _ (H4.out.shift HOLD.out c42 (by first | rfl | (rw [if_neg (by omega)])))).oldLen) (by rw [HOLD.out]; simp)
            · have HX := Lib.hid (HI.out.res.trans (goS_fail HOLD.out (Int.not_lt.2 HST.out) hE))
              have hT : (toldE (removeE d' (fileL x'.log f)) != 0) = true := by rw [bne_iff_ne, ne_eq, toldE_zero]; exact hE
              have H4 := Lib.hid h4
              clear h2 h3 h4 hb2 hb3 hb4 hk4 hh2 hh3 hh4 hE
              go_wp2_with fail
              go_ret
              exact DropP.mk HX.out H4.out
          · have hq5 := hq3 (List.eq_nil_of_length_eq_zero (by omega))
            subst hq5
            go_wp2_with fail
            go_region_held3 (fun w' => w'.cell? ⟨b, 0, none⟩ = some (.pointer (some ⟨sbk, 0, none⟩)) ∧ w'.cell? ⟨sbk, 0, none⟩ = some (.pointer (some ⟨db, 0, none⟩)) ∧ w'.cell? ⟨b, 1, none⟩ = some (.string x'.log) ∧ w'.cell? ⟨b, 2, none⟩ = some (.slice (some ⟨obk, off, none⟩) (r.length + 1) cap) ∧ w'.cell? ⟨obk, off, none⟩ = some (.int .i64 (f : Nat)))
              (first | exact hh4 | exact hh3 | exact hh2 | exact HH1.out | assumption)
              (first
                | (go_at_call 36; ((with_reducible refine (HFF.out _).mono ?_); rintro e w2 ⟨rfl, hb2⟩; have h2 := HA1.out.below hb2; have hh2 := HH1.out.below hb2))
                | (go_at_call 35; ((with_reducible refine (h2.removeB HLG.out f).mono ?_); rintro e w3 ⟨rfl, h3, hb3⟩; have hh3 := hh2.but hb3 HNE.out.2.1 HNE.out.2.2.1 HNE.out.2.2.2))
                | (go_at_call 30; ((with_reducible refine (h3.toldC _).mono ?_); rintro e w4 ⟨rfl, h4, hb4, hk4⟩; have hh4 := hh3.told hb4 hk4 HNE.out.1.1 HNE.out.1.2)))
            by_cases hE : removeE d' (fileL x'.log f) = 0
            · have HNX := Lib.hid (fun w2 (hw : WA w w2 b sb ob db m sbk obk (removeD d' (fileL x'.log f)) { x' with old := r }) => HI.out.next HOLD.out (Int.not_lt.2 HST.out) hE rfl hw)
              rw [hE] at h4 ⊢
              have H4 := Lib.hid (show WA w w4 b sb ob db m sbk obk (removeD d' (fileL x'.log f)) x' from h4)
              have c42 := hh4.2.2.2.1
              obtain ⟨_, hc9, _⟩ := H4.out.cells
              have z42 := hc9.zb 2
              have hT0 : toldE 0 = 0 := rfl
              rw [hT0]
              clear h2 h3 h4 hb2 hb3 hb4 hk4 hh2 hh3 hh4 hc9 hE
              go_wp2_with fail
              go_roundw
              case rel => exact ⟨_, _, _, _, Lib.hid (HNX.out _ (H4.out.shift HOLD.out c42 (by first | rfl | (rw [if_neg (by omega)]))))⟩
              case measure =>
                rw [HOL.out]
                exact Nat.lt_of_le_of_lt (Nat.le_of_eq (HNX.out _ (H4.out.shift HOLD.out c42 (by first | rfl | (rw [if_neg (by omega)])))).oldLen) (by rw [HOLD.out]; simp)
            · have HX := Lib.hid (HI.out.res.trans (goS_fail HOLD.out (Int.not_lt.2 HST.out) hE))
              have hT : (toldE (removeE d' (fileL x'.log f)) != 0) = true := by rw [bne_iff_ne, ne_eq, toldE_zero]; exact hE
              have H4 := Lib.hid h4
              clear h2 h3 h4 hb2 hb3 hb4 hk4 hh2 hh3 hh4 hE
              go_wp2_with fail
              go_ret
              exact DropP.mk HX.out H4.out
  · have hn3 : decide ((x.last : Int) ≤ n) = false := by rw [decide_eq_false_iff_not]; exact hn1
    go_wp2_with fail
    go_quiet (fail)
    go_wp2_with fail
    go_loopw [8, 9] (fun _ _ wr => ∃ sbk obk d' x', Hid (DropI w b sb ob db m n R wr sbk obk d' x')) (fun _ _ wr => oldLen b wr)
    case atStart => exact ⟨_, _, _, _, Lib.hid (HI.out _)⟩
    case round =>
      clear HI
      obtain ⟨sbk, obk, d', x', HI⟩ := hrel
      obtain ⟨vv, hcc, hvv⟩ := HI.out.wa.cells
      have HOL := Lib.hid HI.out.oldLen
      have cb0 := hcc.b0
      have cb1 := hcc.b1
      have cb2 := hcc.b2
      have cs0 := hcc.s0
      have cs2 := hcc.s2
      have HFR := Lib.hid HI.out.fr
      have HLN := Lib.hid HI.out.len
      cases hold : x'.old with
      | nil =>
        rw [hold] at hvv
        obtain ⟨va, vc, rfl⟩ := hvv.shape
        clear hvv hcc cb1
        have HX := Lib.hid (HI.out.res.trans (goS_nil hold))
        clear hold
        go_wp2_with fail
        go_ret
        exact DropP.mk HX.out HI.out.wa
      | cons f r =>
        obtain ⟨off, cap, rfl, hc1, hc2, hc3, hc4⟩ := hvv.cell (by rw [hold]; simp)
        rw [hold] at cb2 hc1 hc4
        simp only [List.length_cons] at cb2 hc1
        have hg0 : wr.cell? ⟨obk, off, none⟩ = some (.int .i64 (f : Nat)) := by have := hc4 0 (by simp); simpa using this
        have hrl : r.length + 1 ≤ 1000 := by have := HLN.out; rw [hold] at this; simpa using this
        have HRN := Lib.hid (show ∃ q : Nat, q = r.headD x'.fr ∧ q < 100 ∧ (r = [] → q = x'.fr) ∧ (0 < r.length → wr.cell? ⟨obk, off + 1, none⟩ = some (.int .i64 (q : Nat))) from by
          cases r with
          | nil => exact ⟨_, rfl, HFR.out, fun _ => rfl, fun h => by cases h⟩
          | cons f2 r2 =>
            refine ⟨f2, rfl, HI.out.old f2 (by rw [hold]; simp), (fun h => by cases h), fun _ => ?_⟩
            have := hc4 1 (by simp)
            simpa using this)
        obtain ⟨q, hq1, hq2, hq3, hq4⟩ := HRN.out
        have HQ := Lib.hid hq1
        clear hc4
        have hf100 := HI.out.old f (by rw [hold]; simp)
        have HOLD := Lib.hid hold
        have HFF := Lib.hid (fun W => file_any x'.log f f rfl hf100 HI.out.log W)
        have HH1 := Lib.hid (Hold5.below (show Hold5 b sbk db obk off x'.log (.slice (some ⟨obk, off, none⟩) (r.length + 1) cap) f wr from ⟨cb0, cs0, cb1, cb2, hg0⟩) (Below.refl _ _).drew)
        have HA1 := Lib.hid HI.out.wa.drew
        have HLG := Lib.hid HI.out.log
        have HNE := Lib.hid (show (sbk ≠ b ∧ obk ≠ b) ∧ (b ∉ [db, m] ∧ sbk ∉ [db, m] ∧ obk ∉ [db, m]) from by
          obtain ⟨h1, h2⟩ := HI.out.wa.wd.wal.blk
          have e1 := HI.out.wa.wd.dk
          have ea := e1 b (.inl rfl)
          have eb := e1 sbk (.inr (.inl rfl))
          have ec := e1 obk (.inr (.inr rfl))
          refine ⟨⟨Ne.symm HI.out.wa.wd.wal.ne, ?_⟩, by simp [ea], by simp [eb], by simp [ec]⟩
          obtain ⟨h3, h4⟩ := h2
          rintro rfl
          have : wr.cell? ⟨obk, 0, none⟩ = some (.pointer (some ⟨sbk, 0, none⟩)) := cb0
          rcases h4 with ⟨_, h4⟩ | ⟨_, _, cur, _, h5, _⟩
          · rw [hold] at h4; cases h4
          · rw [h3] at h5; injection h5 with h6; injection h6 with _ h7; exact absurd h7 (by decide))
        by_cases hst : n < (q : Int) - 1
        · have HX := Lib.hid (HI.out.res.trans (goS_stop hold (by rw [← hq1]; exact hst)))
          clear hvv hcc HRN hq1 hold HFF
          by_cases hr0 : 0 < r.length
          · have hq5 := hq4 hr0
            go_wp2_with fail
            go_ret
            exact DropP.mk HX.out HI.out.wa
          · have hq5 := hq3 (List.eq_nil_of_length_eq_zero (by omega))
            subst hq5
            go_wp2_with fail
            go_ret
            exact DropP.mk HX.out HI.out.wa
        · have HST := Lib.hid (show ¬ n < ((r.headD x'.fr : Nat) : Int) - 1 by rw [← hq1]; exact hst)
          clear hvv hcc HRN hq1 hold
          have hqw : wrap64 ((q : Int) - 1) = (q : Int) - 1 := IntWalk.wrap64_in _ (by omega)
          by_cases hr0 : 0 < r.length
          · have hq5 := hq4 hr0
            go_wp2_with fail
            go_region_held3 (fun w' => w'.cell? ⟨b, 0, none⟩ = some (.pointer (some ⟨sbk, 0, none⟩)) ∧ w'.cell? ⟨sbk, 0, none⟩ = some (.pointer (some ⟨db, 0, none⟩)) ∧ w'.cell? ⟨b, 1, none⟩ = some (.string x'.log) ∧ w'.cell? ⟨b, 2, none⟩ = some (.slice (some ⟨obk, off, none⟩) (r.length + 1) cap) ∧ w'.cell? ⟨obk, off, none⟩ = some (.int .i64 (f : Nat)))
              (first | exact hh4 | exact hh3 | exact hh2 | exact HH1.out | assumption)
              (first
                | (go_at_call 36; ((with_reducible refine (HFF.out _).mono ?_); rintro e w2 ⟨rfl, hb2⟩; have h2 := HA1.out.below hb2; have hh2 := HH1.out.below hb2))
                | (go_at_call 35; ((with_reducible refine (h2.removeB HLG.out f).mono ?_); rintro e w3 ⟨rfl, h3, hb3⟩; have hh3 := hh2.but hb3 HNE.out.2.1 HNE.out.2.2.1 HNE.out.2.2.2))
                | (go_at_call 30; ((with_reducible refine (h3.toldC _).mono ?_); rintro e w4 ⟨rfl, h4, hb4, hk4⟩; have hh4 := hh3.told hb4 hk4 HNE.out.1.1 HNE.out.1.2)))
            by_cases hE : removeE d' (fileL x'.log f) = 0
            · have HNX := Lib.hid (fun w2 (hw : WA w w2 b sb ob db m sbk obk (removeD d' (fileL x'.log f)) { x' with old := r }) => HI.out.next HOLD.out (Int.not_lt.2 HST.out) hE rfl hw)
              rw [hE] at h4 ⊢
              have H4 := Lib.hid (show WA w w4 b sb ob db m sbk obk (removeD d' (fileL x'.log f)) x' from h4)
              have c42 := hh4.2.2.2.1
              obtain ⟨_, hc9, _⟩ := H4.out.cells
              have z42 := hc9.zb 2
              have hT0 : toldE 0 = 0 := rfl
              rw [hT0]
              clear h2 h3 h4 hb2 hb3 hb4 hk4 hh2 hh3 hh4 hc9 hE
              go_wp2_with fail
              go_roundw
              case rel => exact ⟨_, _, _, _, Lib.hid (HNX.out _ (H4.out.shift HOLD.out c42 (by first | rfl | (rw [if_neg (by omega)]))))⟩
              case measure =>
                rw [HOL.out]
                exact Nat.lt_of_le_of_lt (Nat.le_of_eq (HNX.out _ (H4.out.shift HOLD.out c42 (by first | rfl | (rw [if_neg (by omega)])))).oldLen) (by rw [HOLD.out]; simp)
            · have HX := Lib.hid (HI.out.res.trans (goS_fail HOLD.out (Int.not_lt.2 HST.out) hE))
              have hT : (toldE (removeE d' (fileL x'.log f)) != 0) = true := by rw [bne_iff_ne, ne_eq, toldE_zero]; exact hE
              have H4 := Lib.hid h4
              clear h2 h3 h4 hb2 hb3 hb4 hk4 hh2 hh3 hh4 hE
              go_wp2_with fail
              go_ret
              exact DropP.mk HX.out H4.out
          · have hq5 := hq3 (List.eq_nil_of_length_eq_zero (by omega))
            subst hq5
            go_wp2_with fail
            go_region_held3 (fun w' => w'.cell? ⟨b, 0, none⟩ = some (.pointer (some ⟨sbk, 0, none⟩)) ∧ w'.cell? ⟨sbk, 0, none⟩ = some (.pointer (some ⟨db, 0, none⟩)) ∧ w'.cell? ⟨b, 1, none⟩ = some (.string x'.log) ∧ w'.cell? ⟨b, 2, none⟩ = some (.slice (some ⟨obk, off, none⟩) (r.length + 1) cap) ∧ w'.cell? ⟨obk, off, none⟩ = some (.int .i64 (f : Nat)))
              (first | exact hh4 | exact hh3 | exact hh2 | exact HH1.out | assumption)
              (first
                | (go_at_call 36; ((with_reducible refine (HFF.out _).mono ?_); rintro e w2 ⟨rfl, hb2⟩; have h2 := HA1.out.below hb2; have hh2 := HH1.out.below hb2))
                | (go_at_call 35; ((with_reducible refine (h2.removeB HLG.out f).mono ?_); rintro e w3 ⟨rfl, h3, hb3⟩; have hh3 := hh2.but hb3 HNE.out.2.1 HNE.out.2.2.1 HNE.out.2.2.2))
                | (go_at_call 30; ((with_reducible refine (h3.toldC _).mono ?_); rintro e w4 ⟨rfl, h4, hb4, hk4⟩; have hh4 := hh3.told hb4 hk4 HNE.out.1.1 HNE.out.1.2)))
            by_cases hE : removeE d' (fileL x'.log f) = 0
            · have HNX := Lib.hid (fun w2 (hw : WA w w2 b sb ob db m sbk obk (removeD d' (fileL x'.log f)) { x' with old := r }) => HI.out.next HOLD.out (Int.not_lt.2 HST.out) hE rfl hw)
              rw [hE] at h4 ⊢
              have H4 := Lib.hid (show WA w w4 b sb ob db m sbk obk (removeD d' (fileL x'.log f)) x' from h4)
              have c42 := hh4.2.2.2.1
              obtain ⟨_, hc9, _⟩ := H4.out.cells
              have z42 := hc9.zb 2
              have hT0 : toldE 0 = 0 := rfl
              rw [hT0]
              clear h2 h3 h4 hb2 hb3 hb4 hk4 hh2 hh3 hh4 hc9 hE
              go_wp2_with fail
              go_roundw
              case rel => exact ⟨_, _, _, _, Lib.hid (HNX.out _ (H4.out.shift HOLD.out c42 (by first | rfl | (rw [if_neg (by omega)]))))⟩
              case measure =>
                rw [HOL.out]
                exact Nat.lt_of_le_of_lt (Nat.le_of_eq (HNX.out _ (H4.out.shift HOLD.out c42 (by first | rfl | (rw [if_neg (by omega)])))).oldLen) (by rw [HOLD.out]; simp)
            · have HX := Lib.hid (HI.out.res.trans (goS_fail HOLD.out (Int.not_lt.2 HST.out) hE))
              have hT : (toldE (removeE d' (fileL x'.log f)) != 0) = true := by rw [bne_iff_ne, ne_eq, toldE_zero]; exact hE
              have H4 := Lib.hid h4
              clear h2 h3 h4 hb2 hb3 hb4 hk4 hh2 hh3 hh4 hE
              go_wp2_with fail
              go_ret
              exact DropP.mk HX.out H4.out
end Go.Proofs.YtkpoecofblhggaaGreatDoor
