/-
  For 'Drop': what its loop keeps.
-/
import Derived.Test.YtkpoecofblhggaaGreatDoorOc
import Derived.Test.YtkpoecofblhggaaGreatDoorNh
namespace Go.Proofs.YtkpoecofblhggaaGreatDoor
open Go.RowKit Go.Maps

/-- 'told' turns no cell but that of the power -/
theorem told_cells (w : World) (b sb ob db m : Nat) (d : Dk) (x : Lg) (e : Int) (h : WD w b sb ob db m d x) :
    Calls Tryz.prog 30 #[.pointer (some ⟨b, 0, none⟩), .int .i64 e] w fun r w' => r = .returned (.int .i64 (toldE e)) ∧ WD w' b sb ob db m d (toldX e x) ∧ But [b] w w' ∧ ∀ o, o ≠ 4 → w'.cell? ⟨b, o, none⟩ = w.cell? ⟨b, o, none⟩ := by
  obtain ⟨v, hc, _⟩ := h.wal.cells
  have b4 := hc.b4
  have z4 := hc.zb 4
  have HD := Lib.hid h
  clear hc h
  by_cases h7 : e = 7
  · subst h7
    have e1 : toldE 7 = 7 ∧ toldX 7 x = { x with dead := true } := ⟨rfl, rfl⟩
    rw [e1.1, e1.2]
    clear e1
    go_enter Tryz.func30, Tryz.ntmps30
    go_wp2_with fail
    go_ret
    exact ⟨rfl, HD.out.kill, (But.refl _ _).setCell (.inl (by simp)) _, fun o ho => World.cell?_setCell_other _ _ _ _ (fun e => by injection e with _ e2; omega)⟩
  · have e7 : (e == 7) = false := by simpa using h7
    by_cases h3 : e = 3
    · subst h3
      have e1 : toldE 3 = 6 ∧ toldX 3 x = x := ⟨rfl, rfl⟩
      rw [e1.1, e1.2]
      clear e1 h7
      go_enter Tryz.func30, Tryz.ntmps30
      go_wp2_with fail
      go_ret
      exact ⟨rfl, HD.out, But.refl _ _, fun _ _ => rfl⟩
    · have e3 : (e == 3) = false := by simpa using h3
      have e1 : toldE e = e ∧ toldX e x = x := by simp [toldE, toldX, h7, h3]
      rw [e1.1, e1.2]
      clear e1 h7 h3
      go_enter Tryz.func30, Tryz.ntmps30
      go_wp2_with fail
      go_ret
      exact ⟨rfl, HD.out, But.refl _ _, fun _ _ => rfl⟩
variable {w wk : World} {b sb ob db m sbk obk : Nat} {d : Dk} {x : Lg}
theorem WA.toldC (h : WA w wk b sb ob db m sbk obk d x) (e : Int) :
    Calls Tryz.prog 30 #[.pointer (some ⟨b, 0, none⟩), .int .i64 e] wk fun r w' => r = .returned (.int .i64 (toldE e)) ∧ WA w w' b sb ob db m sbk obk d (toldX e x) ∧ But [b] wk w' ∧ ∀ o, o ≠ 4 → w'.cell? ⟨b, o, none⟩ = wk.cell? ⟨b, o, none⟩ :=
  (told_cells wk b sbk obk db m d x e h.wd).mono fun _ _ ⟨he, hd, hb, hk⟩ => ⟨he, h.step hd hb (by simp), hb, hk⟩
theorem WA.removeB (h : WA w wk b sb ob db m sbk obk d x) (hl : x.log.size ≤ 1000) (k : Nat) :
    Calls Tryz.prog 35 #[.pointer (some ⟨db, 0, none⟩), .string (fileB x.log k)] wk fun r w' => r = .returned (.int .i64 (removeE d (fileL x.log k))) ∧ WA w w' b sb ob db m sbk obk (removeD d (fileL x.log k)) x ∧ But [db, m] wk w' :=
  (remove_any wk db m d (fileB x.log k) h.wd.dat (fileB_le _ _ hl) h.wd.ok).mono fun _ _ ⟨he, hd, hb⟩ => ⟨he, h.step (h.wd.disk hd hb (h.wd.ok.remove _)) hb (by simp), hb⟩
/-- the cells that the region of the removal reads -/
def Hold5 (b sbk db g off : Nat) (log : ByteArray) (v : Value) (k : Nat) (w' : World) : Prop :=
  w'.cell? ⟨b, 0, none⟩ = some (.pointer (some ⟨sbk, 0, none⟩)) ∧ w'.cell? ⟨sbk, 0, none⟩ = some (.pointer (some ⟨db, 0, none⟩)) ∧ w'.cell? ⟨b, 1, none⟩ = some (.string log) ∧ w'.cell? ⟨b, 2, none⟩ = some v ∧ w'.cell? ⟨g, off, none⟩ = some (.int .i64 k)
variable {g off k : Nat} {log : ByteArray} {v : Value} {w1 w2 : World}
theorem Hold5.below (h : Hold5 b sbk db g off log v k w1) (hb : Below w1.heap.size w1 w2) : Hold5 b sbk db g off log v k w2 := by
  obtain ⟨h1, h2, h3, h4, h5⟩ := h
  exact ⟨(hb.cell (p := ⟨b, 0, none⟩) (World.block_lt_of_cell? w1 ⟨b, 0, none⟩ h1)).trans h1, (hb.cell (p := ⟨sbk, 0, none⟩) (World.block_lt_of_cell? w1 ⟨sbk, 0, none⟩ h2)).trans h2, (hb.cell (p := ⟨b, 1, none⟩) (World.block_lt_of_cell? w1 ⟨b, 1, none⟩ h3)).trans h3, (hb.cell (p := ⟨b, 2, none⟩) (World.block_lt_of_cell? w1 ⟨b, 2, none⟩ h4)).trans h4, (hb.cell (p := ⟨g, off, none⟩) (World.block_lt_of_cell? w1 ⟨g, off, none⟩ h5)).trans h5⟩
theorem Hold5.but {l : List Nat} (h : Hold5 b sbk db g off log v k w1) (hb : But l w1 w2) (h0 : b ∉ l) (hs : sbk ∉ l) (hg : g ∉ l) : Hold5 b sbk db g off log v k w2 := by
  obtain ⟨h1, h2, h3, h4, h5⟩ := h
  exact ⟨(hb.cell (World.block_lt_of_cell? w1 ⟨b, 0, none⟩ h1) h0).trans h1, (hb.cell (World.block_lt_of_cell? w1 ⟨sbk, 0, none⟩ h2) hs).trans h2, (hb.cell (World.block_lt_of_cell? w1 ⟨b, 1, none⟩ h3) h0).trans h3, (hb.cell (World.block_lt_of_cell? w1 ⟨b, 2, none⟩ h4) h0).trans h4, (hb.cell (World.block_lt_of_cell? w1 ⟨g, off, none⟩ h5) hg).trans h5⟩
theorem Hold5.told (h : Hold5 b sbk db g off log v k w1) (hb : But [b] w1 w2) (hk : ∀ o, o ≠ 4 → w2.cell? ⟨b, o, none⟩ = w1.cell? ⟨b, o, none⟩) (hs : sbk ≠ b) (hg : g ≠ b) : Hold5 b sbk db g off log v k w2 := by
  obtain ⟨h1, h2, h3, h4, h5⟩ := h
  exact ⟨(hk 0 (by decide)).trans h1, (hb.cell (World.block_lt_of_cell? w1 ⟨sbk, 0, none⟩ h2) (by simpa using hs)).trans h2, (hk 1 (by decide)).trans h3, (hk 2 (by decide)).trans h4, (hb.cell (World.block_lt_of_cell? w1 ⟨g, off, none⟩ h5) (by simpa using hg)).trans h5⟩
/-- the first of the older files is no more -/
theorem WA.shift {f : Nat} {r : List Nat} {off cap : Nat} {a : Option Addr} (h : WA w wk b sb ob db m sbk obk d x) (ho : x.old = f :: r) (hb2 : wk.cell? ⟨b, 2, none⟩ = some (.slice (some ⟨obk, off, none⟩) (r.length + 1) cap)) (ha : a = if cap = 1 then some ⟨obk, off, none⟩ else some ⟨obk, off + 1, none⟩) :
    WA w (wk.setCell ⟨b, 2, none⟩ (.slice a r.length (cap - 1))) b sb ob db m sbk obk d { x with old := r } := by
  obtain ⟨v, h1, h2⟩ := h.wd.wal.blk
  have hv : v = .slice (some ⟨obk, off, none⟩) (r.length + 1) cap := by
    have : wk.cell? ⟨b, 2, none⟩ = some v := by simp [World.cell?, h1, walCells]
    rw [this] at hb2; injection hb2
  subst hv
  have h3 : OldAt wk obk (.slice a r.length (cap - 1)) r := by
    rcases h2 with ⟨h2, _⟩ | ⟨off2, cap2, cur, e, e1, e2, e3, e4, e5⟩
    · cases h2
    · injection e with e6 e7 e8
      injection e6 with e6
      injection e6 with _ e6 _
      subst e6 e8
      rw [ho] at e2 e5
      simp only [List.length_cons] at e2 e5
      by_cases h1 : cap = 1
      · subst h1
        rw [if_pos rfl] at ha
        subst ha
        exact .inr ⟨off, 0, cur, rfl, e1, by omega, by omega, by omega, fun i hi => by omega⟩
      rw [if_neg h1] at ha
      subst ha
      refine .inr ⟨off + 1, cap - 1, cur, rfl, e1, by omega, by omega, by omega, fun i hi => ?_⟩
      have := e5 (i + 1) (by omega)
      rw [show off + 1 + i = off + (i + 1) by omega]
      simpa using this
  have hd : WAt (wk.setCell ⟨b, 2, none⟩ (.slice a r.length (cap - 1))) b sbk obk db { x with old := r } := by
    have hn := h.wd.wal.ne
    refine ⟨⟨_, heap_setCell_same _ _ 2 _ _ _ h1, h3.block fun cur hk => (Below.heap_setCell _ _ _ _ (h.wd.wal.far hk (by decide) (by decide)).1).trans hk⟩, (Below.heap_setCell _ _ _ _ (Ne.symm hn)).trans h.wd.wal.seg⟩
  have hb : But [b] wk (wk.setCell ⟨b, 2, none⟩ (.slice a r.length (cap - 1))) := (But.refl _ _).setCell (.inl (by simp)) _
  have hk := h.wd.dk b (.inl rfl)
  exact h.step ⟨hd, h.wd.dat.but hb (by simpa using Ne.symm hk.1) (by simpa using Ne.symm hk.2), h.wd.ok, h.wd.dk⟩ hb (by simp)
/-- how many older files a log's cell names -/
def oldLen (b : Nat) (w : World) : Nat := match w.cell? ⟨b, 2, none⟩ with
  | some (.slice _ n _) => n
  | _ => 0
/-- what the loop of 'Drop' keeps -/
structure DropI (w : World) (b sb ob db m : Nat) (n : Int) (R : Rs) (wr : World) (sbk obk : Nat) (d : Dk) (x : Lg) : Prop where
  wa : WA w wr b sb ob db m sbk obk d x
  res : R = goS n x.old.length d x
  log : x.log.size ≤ 1000
  old : ∀ k ∈ x.old, k < 100
  fr : x.fr < 100
  len : x.old.length ≤ 1000
end Go.Proofs.YtkpoecofblhggaaGreatDoor
