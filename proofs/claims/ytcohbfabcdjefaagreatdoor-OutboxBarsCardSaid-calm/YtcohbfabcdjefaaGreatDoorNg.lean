/-
  'Append'.
-/
import Derived.Test.YtcohbfabcdjefaaGreatDoorNf
namespace Go.Proofs.YtcohbfabcdjefaaGreatDoor
open Go.RowKit Go.Maps

theorem WAt.lasted {w : World} {b sb ob db : Nat} {x : Lg} (h : WAt w b sb ob db x) (n : Nat) : WAt (w.setCell ⟨b, 3, none⟩ (.int .i64 n)) b sb ob db { x with last := n } := by
  obtain ⟨v, h1, h2⟩ := h.blk
  exact ⟨⟨v, heap_setCell_same _ _ _ _ _ _ h1, h2.block fun cur hk => (Below.heap_setCell _ _ _ _ (h.far hk (by decide) (by decide)).1).trans hk⟩, (Below.heap_setCell _ _ _ _ (Ne.symm h.ne)).trans h.seg⟩
theorem WD.lasted {w : World} {b sb ob db m : Nat} {d : Dk} {x : Lg} (h : WD w b sb ob db m d x) (n : Nat) : WD (w.setCell ⟨b, 3, none⟩ (.int .i64 n)) b sb ob db m d { x with last := n } := by
  have hb : But [b] w (w.setCell ⟨b, 3, none⟩ (.int .i64 n)) := (But.refl [b] w).setCell (.inl (by simp)) _
  have hk := h.dk b (.inl rfl)
  exact ⟨h.wal.lasted n, h.dat.but hb (by simpa using Ne.symm hk.1) (by simpa using Ne.symm hk.2), h.ok, h.dk⟩
theorem WA.put {w wk : World} {b sb ob db m sbk obk : Nat} {d : Dk} {x : Lg} (h : WA w wk b sb ob db m sbk obk d x) {N M : Int} (n k : Nat) (hN : N = n) (hM : M = k) : WA w ((wk.setCell ⟨sbk, 3, none⟩ (.int .i64 N)).setCell ⟨b, 3, none⟩ (.int .i64 M)) b sb ob db m sbk obk d { x with size := n, last := k } := by
  subst hN hM
  exact h.step ((h.wd.sized n).lasted k) (l := [sbk, b]) (((But.refl _ _).setCell (.inl (by simp)) _).setCell (.inl (by simp)) _) (by simp)
/-- what 'Append' answers -/
def ApP (w : World) (b sb ob db m : Nat) (d : Dk) (x : Lg) (s : ByteArray) (e : Ending) (w' : World) : Prop :=
  e = .returned (.tuple #[.int .i64 (appendN d x s), .int .i64 (appendS d x s).1]) ∧ WR w b sb ob db m (appendS d x s).2.1 (appendS d x s).2.2 w'
theorem ApP.mk {w w' : World} {b sb ob db m : Nat} {d : Dk} {x : Lg} {s : ByteArray} {n E : Int} {r : Rs} (hr : appendS d x s = r) (hE : r.1 = E) (hn : (if E = 0 then (r.2.2.last : Int) else 0) = n) (h : WR w b sb ob db m r.2.1 r.2.2 w') :
    ApP w b sb ob db m d x s (.returned (.tuple #[.int .i64 n, .int .i64 E])) w' := by
  subst hr hE hn
  exact ⟨rfl, h⟩
set_option maxRecDepth 100000 in
theorem wappend_long (w : World) (b sb ob db m : Nat) (d : Dk) (x : Lg) (s : ByteArray) (h : WD w b sb ob db m d x) (hs : s.size ≤ maxLen) (hb : 65536 < s.size) :
    Calls Tryz.prog 102 #[.pointer (some ⟨b, 0, none⟩), .string s] w (ApP w b sb ob db m d x s) := by
  have H0 := Lib.hid (WA.start h)
  obtain ⟨v, hc, _⟩ := h.wal.cells
  have b0 := hc.b0
  have HR := Lib.hid (show appendS d x s = (3, d, x) by simp [appendS, hb])
  unfold maxLen at hs
  clear h hc
  go_enter Tryz.func102, Tryz.ntmps102
  go_wp2_with fail
  go_ret2
  exact ApP.mk HR.out rfl rfl H0.out.to
set_option maxRecDepth 100000 in
theorem wappend_off (w : World) (b sb ob db m : Nat) (d : Dk) (x : Lg) (s : ByteArray) (h : WD w b sb ob db m d x) (hl : x.log.size ≤ 1000) (hb : s.size ≤ 65536) (ho : offE d x ≠ 0) :
    Calls Tryz.prog 102 #[.pointer (some ⟨b, 0, none⟩), .string s] w (ApP w b sb ob db m d x s) := by
  have H0 := Lib.hid (WA.start h)
  obtain ⟨v, hc, _⟩ := h.wal.cells
  have b0 := hc.b0
  have HR := Lib.hid (show appendS d x s = (offE d x, d, offX d x) by simp [appendS, show ¬ 65536 < s.size by omega, ho])
  have hne : (offE d x != 0) = true := by simpa using ho
  have HE := Lib.hid ho
  have HO := Lib.hid (H0.out.off hl)
  clear h hc ho
  generalize offE d x = E at *
  generalize offX d x = X at *
  go_enter Tryz.func102, Tryz.ntmps102
  go_wp2_with fail
  refine HO.out.mono ?_
  rintro e w1 ⟨rfl, h1⟩
  have H1 := Lib.hid h1
  clear h1
  go_wp2_with fail
  go_ret2
  exact ApP.mk HR.out rfl (by rw [if_neg HE.out]) H1.out.to
set_option maxRecDepth 100000 in
set_option maxHeartbeats 2000000 in
theorem wappend_put (w : World) (b sb ob db m : Nat) (d : Dk) (x : Lg) (s : ByteArray) (h : WD w b sb ob db m d x) (hl : x.log.size ≤ 1000) (hla : x.last < 98) (hz : x.size < 16384) (hb : s.size ≤ 65536) (ho : offE d x = 0) :
    Calls Tryz.prog 102 #[.pointer (some ⟨b, 0, none⟩), .string s] w (ApP w b sb ob db m d x s) := by
  have H0 := Lib.hid (WA.start h)
  obtain ⟨v, hc, _⟩ := h.wal.cells
  have b0 := hc.b0
  have HR := Lib.hid (show appendS d x s = putS s (0, d, x) by simp [appendS, show ¬ 65536 < s.size by omega, ho, addS, off_zero ho, show ¬ 16384 ≤ x.size by omega])
  have HO := Lib.hid (H0.out.off hl)
  rw [ho, off_zero ho] at HO
  clear h hc ho
  go_enter Tryz.func102, Tryz.ntmps102
  go_wp2_with fail
  refine HO.out.mono ?_
  rintro e w1 ⟨rfl, h1⟩
  obtain ⟨v1, hc1, _⟩ := h1.cells
  have b01 := hc1.b0
  have s31 := hc1.s3
  have H1 := Lib.hid h1
  clear h1 hc1
  go_wp2_with fail
  refine (frame_any _ s hb).mono ?_
  rintro e wf ⟨rfl, hbf⟩
  have HF := Lib.hid (H1.out.below hbf).drew
  clear hbf
  obtain ⟨vf, hcf, _⟩ := (H1.out.below (Below.refl _ _)).cells
  clear hcf
  have hfs : (frame s).size ≤ 65544 := by rw [frame_size]; omega
  have HAP := Lib.hid (HF.out.append hl (frame s) (by omega))
  by_cases hA : appendE d x.nm (frame s) = 0
  · have HPS := Lib.hid (show appendS d x s = (0, appendD d x.nm (frame s), { x with size := x.size + (frame s).size, last := x.last + 1 }) by rw [HR.out, putS]; simp [hA])
    rw [hA] at HAP
    go_wp2_with fail
    go_region_held3 (fun w' => w'.cell? ⟨b, 0, none⟩ = some (.pointer (some ⟨sb, 0, none⟩)) ∧ w'.cell? ⟨sb, 0, none⟩ = some (.pointer (some ⟨db, 0, none⟩)) ∧ w'.cell? ⟨sb, 1, none⟩ = some (.string (fileB x.log x.fr)))
      (first | exact HF.out.segs | exact h8.segs | exact h9.segsT | assumption)
      (first
        | (go_at_call 164; ((with_reducible refine HAP.out.mono ?_); rintro e w8 ⟨rfl, h8⟩))
        | (go_at_call 162; ((with_reducible refine (h8.told _).mono ?_); rintro e w9 ⟨rfl, h9⟩)))
    all_goals
      have h9' : WA w w9 b sb ob db m sb _ (appendD d x.nm (frame s)) x := h9
      obtain ⟨v9, hc9, _⟩ := h9'.cells
      have b09 := hc9.b0
      have b39 := hc9.b3
      have s39 := hc9.s3
      have zb9 := hc9.zb 3
      have zs9 := hc9.zs 3
      have H9 := Lib.hid h9'
      have hne1 := H9.out.wd.wal.ne
      have hne2 := Ne.symm hne1
      clear h8 h9 h9' hc9
      generalize frame s = f at *
      go_wp2_with fail
      go_ret2
      exact ApP.mk HPS.out rfl (by simp) (H9.out.put _ _ (by simp) (by simp)).to
  · have HPS := Lib.hid (show appendS d x s = (toldE (appendE d x.nm (frame s)), appendD d x.nm (frame s), toldX (appendE d x.nm (frame s)) x) by rw [HR.out, putS]; simp [hA])
    have hTE : (toldE (appendE d x.nm (frame s)) != 0) = true := by
      simp only [bne_iff_ne, ne_eq, toldE]
      split
      · decide
      · exact hA
    have HTE := Lib.hid (show toldE (appendE d x.nm (frame s)) ≠ 0 from by simpa using hTE)
    go_wp2_with fail
    go_region_held3 (fun w' => w'.cell? ⟨b, 0, none⟩ = some (.pointer (some ⟨sb, 0, none⟩)) ∧ w'.cell? ⟨sb, 0, none⟩ = some (.pointer (some ⟨db, 0, none⟩)) ∧ w'.cell? ⟨sb, 1, none⟩ = some (.string (fileB x.log x.fr)))
      (first | exact HF.out.segs | exact h8.segs | exact h9.segsT | assumption)
      (first
        | (go_at_call 164; ((with_reducible refine HAP.out.mono ?_); rintro e w8 ⟨rfl, h8⟩))
        | (go_at_call 162; ((with_reducible refine (h8.told _).mono ?_); rintro e w9 ⟨rfl, h9⟩)))
    all_goals
      have H9 := Lib.hid h9
      clear h8 h9
      generalize frame s = f at *
      go_wp2_with fail
      go_ret2
      exact ApP.mk HPS.out rfl (by rw [if_neg HTE.out]) H9.out.to
end Go.Proofs.YtcohbfabcdjefaaGreatDoor
