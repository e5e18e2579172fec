/-
  'Append' where the file is full (printed by mkNh.py).
-/
import Derived.Test.YtkpoecofblhggaaGreatDoorNg
namespace Go.Proofs.YtkpoecofblhggaaGreatDoor
open Go.RowKit Go.Maps

theorem toldE_zero {e : Int} : toldE e = 0 ↔ e = 0 := by
  unfold toldE; split
  · rename_i h; subst h; decide
  · exact Iff.rfl
theorem toldX_zero (x : Lg) : toldX 0 x = x := rfl
theorem rotate_ok {d : Dk} {x : Lg} (h : (rotateS d x).1 = 0) : (rotateS d x).2.2.size = 0 ∧ (rotateS d x).2.2.last = x.last ∧ (rotateS d x).2.2.log = x.log ∧ (rotateS d x).2.2.dead = x.dead := by
  unfold rotateS at h ⊢
  split at h <;> rename_i h1
  · rw [if_pos h1]
    unfold emptyS at h ⊢
    split at h <;> rename_i h2
    · rw [if_pos h2]; exact ⟨rfl, rfl, rfl, rfl⟩
    · exact absurd (.inl h) h2
  · rw [if_neg h1]
    dsimp only at h ⊢
    rw [if_pos h]
    exact ⟨rfl, rfl, rfl, rfl⟩
theorem turn_no {d : Dk} {x : Lg} {s : ByteArray} (hb : s.size ≤ 65536) (ho : offE d x = 0) (hz : 16384 ≤ x.size) (h : toldE (syncE d x.nm) ≠ 0) : appendS d x s = (toldE (syncE d x.nm), syncD d x.nm, toldX (syncE d x.nm) x) := by
  unfold appendS addS turnS
  rw [if_neg (by omega), if_pos ho, off_zero ho, if_pos hz, if_neg (show ¬ (syncT d x).1 = 0 from h), if_neg (show ¬ (syncT d x).1 = 0 from h)]
  rfl
theorem turn_is {d : Dk} {x : Lg} (h : syncE d x.nm = 0) : turnS d x = (toldE (rotateS (syncD d x.nm) x).1, (rotateS (syncD d x.nm) x).2.1, toldX (rotateS (syncD d x.nm) x).1 (rotateS (syncD d x.nm) x).2.2) := by
  have e : syncT d x = (0, syncD d x.nm, x) := by unfold syncT; rw [h]; rfl
  unfold turnS
  rw [e]
  rfl
theorem turn_no2 {d : Dk} {x : Lg} {s : ByteArray} (hb : s.size ≤ 65536) (ho : offE d x = 0) (hz : 16384 ≤ x.size) (hs : syncE d x.nm = 0) {E : Int} {d2 : Dk} {x2 : Lg} (hr : rotateS (syncD d x.nm) x = (E, d2, x2)) (h : toldE E ≠ 0) : appendS d x s = (toldE E, d2, toldX E x2) := by
  have e := turn_is hs
  rw [hr] at e
  unfold appendS addS
  rw [if_neg (by omega), if_pos ho, off_zero ho, if_pos hz, e, if_neg h]
theorem turn_yes {d : Dk} {x : Lg} {s : ByteArray} (hb : s.size ≤ 65536) (ho : offE d x = 0) (hz : 16384 ≤ x.size) (hs : syncE d x.nm = 0) {d2 : Dk} {x2 : Lg} (hr : rotateS (syncD d x.nm) x = (0, d2, x2)) : appendS d x s = putS s (0, d2, x2) := by
  have e := turn_is hs
  rw [hr] at e
  unfold appendS addS
  rw [if_neg (by omega), if_pos ho, off_zero ho, if_pos hz, e]
  rfl
set_option maxRecDepth 100000 in
set_option maxHeartbeats 4000000 in
theorem wappend_turn (w : World) (b sb ob db m : Nat) (d : Dk) (x : Lg) (s : ByteArray) (h : WD w b sb ob db m d x) (hl : x.log.size ≤ 1000) (hla : x.last < 98) (hol : x.old.length ≤ 1000) (hz : 16384 ≤ x.size) (hzz : x.size ≤ 1048576) (hb : s.size ≤ 65536) (ho : offE d x = 0) :
    Calls Tryz.prog 10 #[.pointer (some ⟨b, 0, none⟩), .string s] w (ApP w b sb ob db m d x s) := by
  have H0 := Lib.hid (WA.start h)
  obtain ⟨v, hc, _⟩ := h.wal.cells
  have b0 := hc.b0
  have HA0 := Lib.hid ho
  have HO := Lib.hid (H0.out.off hl)
  rw [ho, off_zero ho] at HO
  clear h hc ho
  go_enter Tryz.func10, Tryz.ntmps10
  go_wp2_with fail
  refine HO.out.mono ?_
  rintro e w1 ⟨rfl, h1⟩
  obtain ⟨v1, hc1, _⟩ := h1.cells
  have b01 := hc1.b0
  have s01 := hc1.s0
  have s11 := hc1.s1
  have s31 := hc1.s3
  have H1 := Lib.hid h1.drew
  clear h1 hc1
  by_cases hS : syncE d x.nm = 0
  · have HSN := Lib.hid hS
    have hT : toldE 0 = 0 := rfl
    have HSY := Lib.hid (H1.out.sync hl)
    rw [hS] at HSY
    clear hS
    go_wp2_with fail
    go_region_held3 (fun w' => w'.cell? ⟨b, 0, none⟩ = some (.pointer (some ⟨sb, 0, none⟩)) ∧ w'.cell? ⟨sb, 0, none⟩ = some (.pointer (some ⟨db, 0, none⟩)) ∧ w'.cell? ⟨sb, 1, none⟩ = some (.string (fileB x.log x.fr)))
      (first | exact H1.out.segs | exact h2.segs | exact h3.segsT | assumption)
      (first
        | (go_at_call 31; ((with_reducible refine HSY.out.mono ?_); rintro e w2 ⟨rfl, h2⟩))
        | (go_at_call 30; ((with_reducible refine (h2.told _).mono ?_); rintro e w3 ⟨rfl, h3⟩)))
    have H3 := Lib.hid (show WA w w3 b sb ob db m sb ob (syncD d x.nm) x from h3)
    clear h2 h3
    have HRO := Lib.hid (H3.out.rotate hl (by omega) hol)
    obtain ⟨R, hR⟩ : ∃ R, R = rotateS (syncD d x.nm) x := ⟨_, rfl⟩
    rw [← hR] at HRO
    obtain ⟨E, d2, x2⟩ := R
    have HRE := Lib.hid hR.symm
    by_cases hE : E = 0
    · subst hE
      have hk := rotate_ok (d := syncD d x.nm) (x := x) (by rw [← hR])
      rw [← hR] at hk
      have HR := Lib.hid (turn_yes hb HA0.out hz HSN.out hR.symm)
      clear hR
      have hl2 : x2.log.size ≤ 1000 := by rw [hk.2.2.1]; exact hl
      have hz2 : x2.size = 0 := hk.1
      have hla2 : x2.last < 98 := by rw [hk.2.1]; exact hla
      clear hk
      go_wp2_with fail
      refine HRO.out.mono ?_
      rintro e w4 ⟨rfl, sb2, ob2, h4⟩
      have H4 := Lib.hid h4
      clear h4
      go_wp2_with fail
      refine (H4.out.told 0).mono ?_
      rintro e w5 ⟨rfl, h5⟩
      have H5 := Lib.hid (show WA w w5 b sb ob db m sb2 ob2 d2 x2 from h5)
      clear h5
      have hT0 : toldE 0 = 0 := rfl
      rw [hT0]
      go_wp2_with fail
      refine (frame_any _ s hb).mono ?_
      rintro e wf ⟨rfl, hbf⟩
      have HF := Lib.hid (H5.out.below hbf).drew
      clear hbf
      obtain ⟨vf, hcf, _⟩ := (H5.out.below (Below.refl _ _)).cells
      clear hcf
      have hfs : (frame s).size ≤ 65544 := by rw [frame_size]; omega
      have HAP := Lib.hid (HF.out.append hl2 (frame s) (by omega))
      by_cases hA : appendE d2 x2.nm (frame s) = 0
      · have HPS := Lib.hid (show appendS d x s = (0, appendD d2 x2.nm (frame s), { x2 with size := x2.size + (frame s).size, last := x2.last + 1 }) by rw [HR.out, putS]; simp [hA])
        rw [hA] at HAP
        go_wp2_with fail
        go_region_held3 (fun w' => w'.cell? ⟨b, 0, none⟩ = some (.pointer (some ⟨sb2, 0, none⟩)) ∧ w'.cell? ⟨sb2, 0, none⟩ = some (.pointer (some ⟨db, 0, none⟩)) ∧ w'.cell? ⟨sb2, 1, none⟩ = some (.string (fileB x2.log x2.fr)))
          (first | exact HF.out.segs | exact h8.segs | exact h9.segsT | assumption)
          (first
            | (go_at_call 22; ((with_reducible refine HAP.out.mono ?_); rintro e w8 ⟨rfl, h8⟩))
            | (go_at_call 30; ((with_reducible refine (h8.told _).mono ?_); rintro e w9 ⟨rfl, h9⟩)))
        all_goals
          have h9' : WA w w9 b sb ob db m sb2 _ (appendD d2 x2.nm (frame s)) x2 := h9
          obtain ⟨v9, hc9, _⟩ := h9'.cells
          have b09 := hc9.b0
          have b39 := hc9.b3
          have s39 := hc9.s3
          have zb9 := hc9.zb 3
          have zs9 := hc9.zs 3
          have H9 := Lib.hid h9'
          have hne1 := H9.out.wd.wal.ne
          have hne2 := Ne.symm hne1
          clear h8 h9 h9' hc9
          generalize frame s = f at *
          go_wp2_with fail
          go_ret2
          exact ApP.mk HPS.out rfl (by simp) (H9.out.put _ _ (by omega) (by omega)).to
      · have HPS := Lib.hid (show appendS d x s = (toldE (appendE d2 x2.nm (frame s)), appendD d2 x2.nm (frame s), toldX (appendE d2 x2.nm (frame s)) x2) by rw [HR.out, putS]; simp [hA])
        have hTE : (toldE (appendE d2 x2.nm (frame s)) != 0) = true := by
          simp only [bne_iff_ne, ne_eq, toldE]
          split
          · decide
          · exact hA
        have HTE := Lib.hid (show toldE (appendE d2 x2.nm (frame s)) ≠ 0 from by simpa using hTE)
        go_wp2_with fail
        go_region_held3 (fun w' => w'.cell? ⟨b, 0, none⟩ = some (.pointer (some ⟨sb2, 0, none⟩)) ∧ w'.cell? ⟨sb2, 0, none⟩ = some (.pointer (some ⟨db, 0, none⟩)) ∧ w'.cell? ⟨sb2, 1, none⟩ = some (.string (fileB x2.log x2.fr)))
          (first | exact HF.out.segs | exact h8.segs | exact h9.segsT | assumption)
          (first
            | (go_at_call 22; ((with_reducible refine HAP.out.mono ?_); rintro e w8 ⟨rfl, h8⟩))
            | (go_at_call 30; ((with_reducible refine (h8.told _).mono ?_); rintro e w9 ⟨rfl, h9⟩)))
        all_goals
          have H9 := Lib.hid h9
          clear h8 h9
          generalize frame s = f at *
          go_wp2_with fail
          go_ret2
          exact ApP.mk HPS.out rfl (by rw [if_neg HTE.out]) H9.out.to
    · have hT2 : (toldE E != 0) = true := by rw [bne_iff_ne, ne_eq, toldE_zero]; exact hE
      have HAD := Lib.hid (turn_no2 hb HA0.out hz HSN.out hR.symm (by rw [ne_eq, toldE_zero]; exact hE))
      clear hR hE
      go_wp2_with fail
      refine HRO.out.mono ?_
      rintro e w4 ⟨rfl, sb2, ob2, h4⟩
      have H4 := Lib.hid h4
      clear h4
      go_wp2_with fail
      refine (H4.out.told E).mono ?_
      rintro e w5 ⟨rfl, h5⟩
      have H5 := Lib.hid h5
      clear h5
      go_wp2_with fail
      go_ret2
      exact ApP.mk HAD.out rfl (by rw [if_neg (by simpa using hT2)]) H5.out.to
  · have HSN := Lib.hid hS
    have hT : (toldE (syncE d x.nm) != 0) = true := by
      rw [bne_iff_ne, ne_eq, toldE_zero]; exact hS
    have HAD := Lib.hid (turn_no hb HA0.out hz (by rw [ne_eq, toldE_zero]; exact hS))
    have HSY := Lib.hid (H1.out.sync hl)
    skip
    clear hS
    go_wp2_with fail
    go_region_held3 (fun w' => w'.cell? ⟨b, 0, none⟩ = some (.pointer (some ⟨sb, 0, none⟩)) ∧ w'.cell? ⟨sb, 0, none⟩ = some (.pointer (some ⟨db, 0, none⟩)) ∧ w'.cell? ⟨sb, 1, none⟩ = some (.string (fileB x.log x.fr)))
      (first | exact H1.out.segs | exact h2.segs | exact h3.segsT | assumption)
      (first
        | (go_at_call 31; ((with_reducible refine HSY.out.mono ?_); rintro e w2 ⟨rfl, h2⟩))
        | (go_at_call 30; ((with_reducible refine (h2.told _).mono ?_); rintro e w3 ⟨rfl, h3⟩)))
    all_goals
      have H3 := Lib.hid h3
      clear h2 h3
      go_wp2_with fail
      go_ret2
      exact ApP.mk HAD.out rfl (by rw [if_neg (by simpa using hT)]) H3.out.to
end Go.Proofs.YtkpoecofblhggaaGreatDoor
