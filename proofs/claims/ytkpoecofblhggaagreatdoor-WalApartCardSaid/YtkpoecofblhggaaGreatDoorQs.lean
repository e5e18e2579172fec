/-
  Plain: a log's methods turn, and read, its own files alone: two disks whose files of a log are alike are turned alike.
-/
import Derived.Test.YtkpoecofblhggaaGreatDoorPl
import Derived.Test.YtkpoecofblhggaaGreatDoorNa
namespace Go.Proofs.YtkpoecofblhggaaGreatDoor
section
open Go.RowKit Go.Maps

/-- two disks at their ease whose files of a log are alike -/
structure Sim (log : ByteArray) (d c : Dk) : Prop where
  ed : d.down = false ∧ d.fuse = 0 ∧ d.room = -1
  ec : c.down = false ∧ c.fuse = 0 ∧ c.room = -1
  fd : Fit d
  fc : Fit c
  files : ∀ r : Nm, fget d.fs (preL log ++ r) = fget c.fs (preL log ++ r)
variable {log : ByteArray} {d c : Dk}
theorem pre_ne {log : ByteArray} {r q : Nm} (h : r ≠ q) : preL log ++ r ≠ preL log ++ q := fun e => h (List.append_cancel_left e)
/-- a change of one file of the log, on both disks -/
theorem Sim.turn (h : Sim log d c) (r : Nm) (f : Fl) {d' c' : Dk} (hd : d' = { d with fs := fput d.fs (preL log ++ r) f }) (hc : c' = { c with fs := fput c.fs (preL log ++ r) f }) (fd : Fit d') (fc : Fit c') : Sim log d' c' := by
  subst hd hc
  refine ⟨h.ed, h.ec, fd, fc, fun q => ?_⟩
  by_cases e : q = r
  · subst e
    show fget (fput d.fs _ f) _ = fget (fput c.fs _ f) _
    rw [fget_put_same h.fd.up, fget_put_same h.fc.up]
  · show fget (fput d.fs _ f) _ = fget (fput c.fs _ f) _
    rw [fget_put_ne h.fd.up _ _ (pre_ne e), fget_put_ne h.fc.up _ _ (pre_ne e)]
    exact h.files q
theorem Sim.gone (h : Sim log d c) (r : Nm) {d' c' : Dk} (hd : d' = { d with fs := fdel d.fs (preL log ++ r) }) (hc : c' = { c with fs := fdel c.fs (preL log ++ r) }) (fd : Fit d') (fc : Fit c') : Sim log d' c' := by
  subst hd hc
  refine ⟨h.ed, h.ec, fd, fc, fun q => ?_⟩
  by_cases e : q = r
  · subst e
    show fget (fdel d.fs _) _ = fget (fdel c.fs _) _
    rw [fget_del_same, fget_del_same]
  · show fget (fdel d.fs _) _ = fget (fdel c.fs _) _
    rw [fget_del_ne _ (pre_ne e), fget_del_ne _ (pre_ne e)]
    exact h.files q
theorem ease_chg {d : Dk} (h : d.down = false ∧ d.fuse = 0 ∧ d.room = -1) (G : Fs → Fs) (b : Bool) : chg d G b = { d with fs := G d.fs } ∧ chgE d = 0 := by
  obtain ⟨h1, h2, h3⟩ := h
  cases d
  simp only at h1 h2 h3
  subst h1 h2 h3
  exact ⟨rfl, rfl⟩
theorem Sim.create (h : Sim log d c) (r : Nm) (hl : d.fs.length < 256) (hm : c.fs.length < 256) : createE d (preL log ++ r) = createE c (preL log ++ r) ∧ Sim log (createD d (preL log ++ r)) (createD c (preL log ++ r)) := by
  have e1 : ¬ 256 ≤ d.fs.length := by omega
  have e2 : ¬ 256 ≤ c.fs.length := by omega
  have hf := h.files r
  have k1 := ease_chg h.ed (fun F => fput F (preL log ++ r) ⟨⟨#[]⟩, 0⟩) false
  have k2 := ease_chg h.ec (fun F => fput F (preL log ++ r) ⟨⟨#[]⟩, 0⟩) false
  have g1 := h.fd.create (preL log ++ r)
  have g2 := h.fc.create (preL log ++ r)
  unfold createD at g1 g2 ⊢
  unfold createE
  rw [h.ed.1] at g1 ⊢
  rw [h.ec.1] at g2 ⊢
  rw [← hf] at g2 ⊢
  cases hn : nameB (preL log ++ r)
  · simp only [hn, Bool.false_eq_true, if_false, if_true] at g1 g2 ⊢
    exact ⟨by simp, h⟩
  · cases hg : fget d.fs (preL log ++ r) with
    | none =>
      simp only [hn, hg, e1, e2, Bool.false_eq_true, Bool.true_eq_false, Option.isSome_none, if_false] at g1 g2 ⊢
      rw [k1.1] at g1 ⊢
      rw [k2.1] at g2 ⊢
      exact ⟨by rw [k1.2, k2.2], h.turn r _ rfl rfl g1 g2⟩
    | some y =>
      simp only [hn, hg, Bool.false_eq_true, Bool.true_eq_false, Option.isSome_some, if_true, if_false] at g1 g2 ⊢
      exact ⟨trivial, h⟩
theorem Sim.append (h : Sim log d c) (r : Nm) (y : ByteArray) : appendE d (preL log ++ r) y = appendE c (preL log ++ r) y ∧ Sim log (appendD d (preL log ++ r) y) (appendD c (preL log ++ r) y) := by
  have hf := h.files r
  have g1 := h.fd.append (preL log ++ r) y
  have g2 := h.fc.append (preL log ++ r) y
  have n1 : ¬ (0 ≤ d.room ∧ d.room < (total d.fs : Int) + y.size) := by rw [h.ed.2.2]; omega
  have n2 : ¬ (0 ≤ c.room ∧ c.room < (total c.fs : Int) + y.size) := by rw [h.ec.2.2]; omega
  unfold appendD at g1 g2 ⊢
  unfold appendE
  rw [h.ed.1] at g1 ⊢
  rw [h.ec.1] at g2 ⊢
  rw [← hf] at g2 ⊢
  cases hg : fget d.fs (preL log ++ r) with
  | none => exact ⟨rfl, h⟩
  | some z =>
    have k1 := ease_chg h.ed (fun F => fput F (preL log ++ r) ⟨z.data ++ y, z.syn⟩) true
    have k2 := ease_chg h.ec (fun F => fput F (preL log ++ r) ⟨z.data ++ y, z.syn⟩) true
    simp only [hg, Bool.false_eq_true, if_false] at g1 g2 ⊢
    by_cases hb : 1048576 < z.data.size + y.size
    · simp only [hb, if_true]; exact ⟨trivial, h⟩
    · simp only [hb, n1, n2, if_false] at g1 g2 ⊢
      rw [k1.1] at g1 ⊢
      rw [k2.1] at g2 ⊢
      exact ⟨by rw [k1.2, k2.2], h.turn r _ rfl rfl g1 g2⟩
theorem Sim.sync (h : Sim log d c) (r : Nm) : syncE d (preL log ++ r) = syncE c (preL log ++ r) ∧ Sim log (syncD d (preL log ++ r)) (syncD c (preL log ++ r)) := by
  have hf := h.files r
  have g1 := h.fd.sync (preL log ++ r)
  have g2 := h.fc.sync (preL log ++ r)
  unfold syncD at g1 g2 ⊢
  unfold syncE
  rw [h.ed.1] at g1 ⊢
  rw [h.ec.1] at g2 ⊢
  rw [← hf] at g2 ⊢
  cases hg : fget d.fs (preL log ++ r) with
  | none => exact ⟨rfl, h⟩
  | some z =>
    have k1 := ease_chg h.ed (fun F => fput F (preL log ++ r) ⟨z.data, z.data.size⟩) false
    have k2 := ease_chg h.ec (fun F => fput F (preL log ++ r) ⟨z.data, z.data.size⟩) false
    simp only [hg, Option.isNone_some, Bool.false_eq_true, if_false] at g1 g2 ⊢
    rw [k1.1] at g1 ⊢
    rw [k2.1] at g2 ⊢
    exact ⟨by rw [k1.2, k2.2], h.turn r _ rfl rfl g1 g2⟩
theorem Sim.remove (h : Sim log d c) (r : Nm) : removeE d (preL log ++ r) = removeE c (preL log ++ r) ∧ Sim log (removeD d (preL log ++ r)) (removeD c (preL log ++ r)) := by
  have hf := h.files r
  have g1 := h.fd.remove (preL log ++ r)
  have g2 := h.fc.remove (preL log ++ r)
  unfold removeD at g1 g2 ⊢
  unfold removeE
  rw [h.ed.1] at g1 ⊢
  rw [h.ec.1] at g2 ⊢
  rw [← hf] at g2 ⊢
  have k1 := ease_chg h.ed (fun F => fdel F (preL log ++ r)) false
  have k2 := ease_chg h.ec (fun F => fdel F (preL log ++ r)) false
  cases hg : fget d.fs (preL log ++ r) with
  | none => exact ⟨rfl, h⟩
  | some z =>
    simp only [hg, Option.isNone_some, Bool.false_eq_true, if_false] at g1 g2 ⊢
    rw [k1.1] at g1 ⊢
    rw [k2.1] at g2 ⊢
    exact ⟨by rw [k1.2, k2.2], h.gone r rfl rfl g1 g2⟩
theorem Sim.read (h : Sim log d c) (r : Nm) : readE d (preL log ++ r) = readE c (preL log ++ r) ∧ readS d (preL log ++ r) = readS c (preL log ++ r) := by
  unfold readE readS
  rw [h.ed.1, h.ec.1, h.files r]
  exact ⟨rfl, rfl⟩
end

section
open Go.RowKit Go.Maps

variable {log : ByteArray} {d c : Dk} {n : Nat} {x : Lg}
theorem fins_ln {a : Nm × Fl} : ∀ F : Fs, (fins a F).length = F.length + 1
  | [] => rfl
  | y :: r => by unfold fins; split <;> simp [fins_ln r]
theorem fdel_len (F : Fs) (k : Nm) : (fdel F k).length ≤ F.length := List.length_filter_le _ _
theorem fput_len (F : Fs) (k : Nm) (f : Fl) : (fput F k f).length ≤ F.length + 1 := by
  unfold fput; rw [fins_ln]; have := fdel_len F k; omega
theorem chg_len {d : Dk} {G : Fs → Fs} {b : Bool} {m : Nat} (h0 : d.fs.length ≤ m) (h : (G d.fs).length ≤ m) : (chg d G b).fs.length ≤ m := by
  unfold chg
  split
  · split
    · exact h
    · exact h0
  · exact h
theorem create_len (d : Dk) (k : Nm) : (createD d k).fs.length ≤ d.fs.length + 1 := by
  unfold createD
  repeat' split
  all_goals first
    | omega
    | exact chg_len (by omega) (fput_len _ _ _)
theorem append_len (d : Dk) (k : Nm) (y : ByteArray) : (appendD d k y).fs.length ≤ d.fs.length + 1 := by
  unfold appendD
  repeat' split
  all_goals first
    | omega
    | exact chg_len (by omega) (fput_len _ _ _)
theorem sync_len (d : Dk) (k : Nm) : (syncD d k).fs.length ≤ d.fs.length + 1 := by
  unfold syncD
  repeat' split
  all_goals first
    | omega
    | exact chg_len (by omega) (fput_len _ _ _)
theorem remove_len (d : Dk) (k : Nm) : (removeD d k).fs.length ≤ d.fs.length := by
  unfold removeD
  repeat' split
  all_goals first
    | exact Nat.le_refl _
    | exact chg_len (Nat.le_refl _) (fdel_len _ _)
theorem rename_len (d : Dk) (k j : Nm) : (renameD d k j).fs.length ≤ d.fs.length + 1 := by
  unfold renameD
  repeat' split
  all_goals first
    | omega
    | exact chg_len (by omega) (by have := fput_len (fdel d.fs k) j ‹Fl›; have := fdel_len d.fs k; omega)
theorem Sim.rename (h : Sim log d c) (r q : Nm) : renameE d (preL log ++ r) (preL log ++ q) = renameE c (preL log ++ r) (preL log ++ q) ∧ Sim log (renameD d (preL log ++ r) (preL log ++ q)) (renameD c (preL log ++ r) (preL log ++ q)) := by
  have hf := h.files r
  have g1 := h.fd.rename (preL log ++ r) (preL log ++ q)
  have g2 := h.fc.rename (preL log ++ r) (preL log ++ q)
  unfold renameD at g1 g2 ⊢
  unfold renameE
  rw [h.ed.1] at g1 ⊢
  rw [h.ec.1] at g2 ⊢
  rw [← hf] at g2 ⊢
  cases hg : fget d.fs (preL log ++ r) with
  | none => exact ⟨rfl, h⟩
  | some z =>
    have k1 := ease_chg h.ed (fun F => fput (fdel F (preL log ++ r)) (preL log ++ q) z) false
    have k2 := ease_chg h.ec (fun F => fput (fdel F (preL log ++ r)) (preL log ++ q) z) false
    simp only [hg, Option.isNone_some, Bool.false_eq_true, if_false] at g1 g2 ⊢
    cases hn : nameB (preL log ++ q)
    · simp only [if_true]; exact ⟨trivial, h⟩
    · simp only [hn, Bool.true_eq_false, if_false] at g1 g2 ⊢
      rw [k1.1] at g1 ⊢
      rw [k2.1] at g2 ⊢
      refine ⟨by rw [k1.2, k2.2], ⟨h.ed, h.ec, g1, g2, fun s => ?_⟩⟩
      show fget (fput (fdel d.fs _) _ z) _ = fget (fput (fdel c.fs _) _ z) _
      have u1 := up_del h.fd.up (preL log ++ r)
      have u2 := up_del h.fc.up (preL log ++ r)
      by_cases e : s = q
      · subst e; rw [fget_put_same u1, fget_put_same u2]
      · rw [fget_put_ne u1 _ _ (pre_ne e), fget_put_ne u2 _ _ (pre_ne e)]
        by_cases e2 : s = r
        · subst e2; rw [fget_del_same, fget_del_same]
        · rw [fget_del_ne _ (pre_ne e2), fget_del_ne _ (pre_ne e2)]; exact h.files s
/-- alike, and of at most n files each -/
structure SimN (log : ByteArray) (n : Nat) (d c : Dk) : Prop where
  sim : Sim log d c
  ld : d.fs.length ≤ n
  lc : c.fs.length ≤ n
theorem SimN.le {m : Nat} (h : SimN log n d c) (hm : n ≤ m) : SimN log m d c := ⟨h.sim, by have := h.ld; omega, by have := h.lc; omega⟩
/-- two results alike -/
structure SimR (log : ByteArray) (n : Nat) (r s : Rs) : Prop where
  e : r.1 = s.1
  x : r.2.2 = s.2.2
  nm : r.2.2.log = log
  d : SimN log n r.2.1 s.2.1
theorem SimN.off (h : SimN log n d c) (hx : x.log = log) : offE d x = offE c x ∧ offX d x = offX c x := by
  have hr := h.sim.read (num12 x.fr)
  have e : x.nm = preL log ++ num12 x.fr := by rw [← hx]; rfl
  have hw : wholeB d x = wholeB c x := by unfold wholeB; rw [e, hr.1, hr.2]
  unfold offE offX
  rw [hw]
  exact ⟨rfl, rfl⟩
theorem toldX_nm (e : Int) (x : Lg) : (toldX e x).log = x.log := by unfold toldX; split <;> rfl
theorem SimN.syncT (h : SimN log n d c) (hx : x.log = log) : SimR log (n + 1) (Proofs.YtkpoecofblhggaaGreatDoor.syncT d x) (Proofs.YtkpoecofblhggaaGreatDoor.syncT c x) := by
  have hs := h.sim.sync (num12 x.fr)
  have e : x.nm = preL log ++ num12 x.fr := by rw [← hx]; rfl
  have l1 := sync_len d x.nm
  have l2 := sync_len c x.nm
  have := h.ld
  have := h.lc
  unfold Proofs.YtkpoecofblhggaaGreatDoor.syncT
  rw [← e] at hs
  exact ⟨by rw [hs.1], by rw [hs.1], by rw [toldX_nm]; exact hx, ⟨hs.2, by show (syncD d x.nm).fs.length ≤ _; omega, by show (syncD c x.nm).fs.length ≤ _; omega⟩⟩
theorem SimN.rotateS (h : SimN log n d c) (hx : x.log = log) (hn : n < 256) : SimR log (n + 2) (Proofs.YtkpoecofblhggaaGreatDoor.rotateS d x) (Proofs.YtkpoecofblhggaaGreatDoor.rotateS c x) := by
  have h1 := h.ld
  have h2 := h.lc
  unfold Proofs.YtkpoecofblhggaaGreatDoor.rotateS
  by_cases hlt : x.last < x.fr
  · rw [if_pos hlt, if_pos hlt]
    have hc := h.sim.create newL (by omega) (by omega)
    have e1 : freshL x.log = preL log ++ newL := by rw [hx]; rfl
    have e2 : x.nm = preL log ++ num12 x.fr := by rw [← hx]; rfl
    have l1 := create_len d (preL log ++ newL)
    have l2 := create_len c (preL log ++ newL)
    unfold emptyS
    rw [e1, hc.1]
    split
    · have hr := hc.2.rename newL (num12 x.fr)
      rw [e2, hr.1]
      have l3 := rename_len (createD d (preL log ++ newL)) (preL log ++ newL) (preL log ++ num12 x.fr)
      have l4 := rename_len (createD c (preL log ++ newL)) (preL log ++ newL) (preL log ++ num12 x.fr)
      exact ⟨rfl, rfl, hx, ⟨hr.2, Nat.le_trans l3 (by omega), Nat.le_trans l4 (by omega)⟩⟩
    · exact ⟨rfl, rfl, hx, ⟨hc.2, Nat.le_trans l1 (by omega), Nat.le_trans l2 (by omega)⟩⟩
  · rw [if_neg hlt, if_neg hlt]
    have e1 : fileL x.log (x.last + 1) = preL log ++ num12 (x.last + 1) := by rw [hx]; rfl
    have hc := h.sim.create (num12 (x.last + 1)) (by omega) (by omega)
    have l1 := create_len d (preL log ++ num12 (x.last + 1))
    have l2 := create_len c (preL log ++ num12 (x.last + 1))
    rw [e1, hc.1]
    refine ⟨rfl, rfl, ?_, ⟨hc.2, Nat.le_trans l1 (by omega), Nat.le_trans l2 (by omega)⟩⟩
    dsimp only
    split <;> exact hx
theorem SimR.rotateT {r s : Rs} (h : SimR log n r s) (hn : n < 256) : SimR log (n + 2) (Proofs.YtkpoecofblhggaaGreatDoor.rotateT r) (Proofs.YtkpoecofblhggaaGreatDoor.rotateT s) := by
  have hr := h.d.rotateS (x := r.2.2) h.nm hn
  unfold Proofs.YtkpoecofblhggaaGreatDoor.rotateT
  rw [← h.x]
  exact ⟨by rw [hr.e], by show toldX _ _ = toldX _ _; rw [hr.e, hr.x], by show (toldX _ _).log = _; rw [toldX_nm]; exact hr.nm, hr.d⟩
theorem SimN.turnS (h : SimN log n d c) (hx : x.log = log) (hn : n + 1 < 256) : SimR log (n + 3) (Proofs.YtkpoecofblhggaaGreatDoor.turnS d x) (Proofs.YtkpoecofblhggaaGreatDoor.turnS c x) := by
  have hs := h.syncT hx
  unfold Proofs.YtkpoecofblhggaaGreatDoor.turnS
  rw [← hs.e]
  split
  · exact hs.rotateT (by omega)
  · exact ⟨hs.e, hs.x, hs.nm, hs.d.le (by omega)⟩
theorem SimR.putS {r s : Rs} (b : ByteArray) (h : SimR log n r s) : SimR log (n + 1) (Proofs.YtkpoecofblhggaaGreatDoor.putS b r) (Proofs.YtkpoecofblhggaaGreatDoor.putS b s) := by
  have e : r.2.2.nm = preL log ++ num12 r.2.2.fr := by rw [← h.nm]; rfl
  have ha := h.d.sim.append (num12 r.2.2.fr) (frame b)
  rw [← e] at ha
  have l1 := append_len r.2.1 r.2.2.nm (frame b)
  have l2 := append_len s.2.1 r.2.2.nm (frame b)
  have h1 := h.d.ld
  have h2 := h.d.lc
  have hd : SimN log (n + 1) (appendD r.2.1 r.2.2.nm (frame b)) (appendD s.2.1 r.2.2.nm (frame b)) := ⟨ha.2, by omega, by omega⟩
  unfold Proofs.YtkpoecofblhggaaGreatDoor.putS
  rw [← h.x, ha.1]
  split
  · exact ⟨rfl, rfl, h.nm, hd⟩
  · exact ⟨rfl, rfl, by show (toldX _ _).log = _; rw [toldX_nm]; exact h.nm, hd⟩
theorem offX_nm (d : Dk) (x : Lg) : (offX d x).log = x.log := by
  unfold offX
  split
  · rfl
  · split <;> rfl
theorem SimN.appendS (h : SimN log n d c) (hx : x.log = log) (hn : n + 1 < 256) (b : ByteArray) : SimR log (n + 4) (Proofs.YtkpoecofblhggaaGreatDoor.appendS d x b) (Proofs.YtkpoecofblhggaaGreatDoor.appendS c x b) := by
  have ho := h.off (x := x) hx
  have hx2 : (offX c x).log = log := by rw [offX_nm]; exact hx
  unfold Proofs.YtkpoecofblhggaaGreatDoor.appendS
  rw [ho.1, ho.2]
  split
  · exact ⟨rfl, rfl, hx, h.le (by omega)⟩
  · split
    · unfold addS
      split
      · have ht := h.turnS (x := offX c x) hx2 hn
        rw [← ht.e]
        split
        · exact ht.putS b
        · exact ⟨ht.e, ht.x, ht.nm, ht.d.le (by omega)⟩
      · have hp := SimR.putS b (r := (0, d, offX c x)) (s := (0, c, offX c x)) (log := log) (n := n) ⟨rfl, rfl, hx2, h⟩
        exact ⟨hp.e, hp.x, hp.nm, hp.d.le (by omega)⟩
    · exact ⟨rfl, rfl, hx2, h.le (by omega)⟩
theorem SimN.syncS (h : SimN log n d c) (hx : x.log = log) : SimR log (n + 4) (Proofs.YtkpoecofblhggaaGreatDoor.syncS d x) (Proofs.YtkpoecofblhggaaGreatDoor.syncS c x) := by
  have ho := h.off (x := x) hx
  have hx2 : (offX c x).log = log := by rw [offX_nm]; exact hx
  unfold Proofs.YtkpoecofblhggaaGreatDoor.syncS
  rw [ho.1, ho.2]
  split
  · have hs := h.syncT (x := offX c x) hx2
    exact ⟨hs.e, hs.x, hs.nm, hs.d.le (by omega)⟩
  · exact ⟨rfl, rfl, hx2, h.le (by omega)⟩
theorem SimN.goS (m : Int) : ∀ (k : Nat) {d c : Dk} {x : Lg}, SimN log n d c → x.log = log → SimR log n (Proofs.YtkpoecofblhggaaGreatDoor.goS m k d x) (Proofs.YtkpoecofblhggaaGreatDoor.goS m k c x)
  | 0, _, _, _, h, hx => ⟨rfl, rfl, hx, h⟩
  | k + 1, d, c, x, h, hx => by
    unfold Proofs.YtkpoecofblhggaaGreatDoor.goS
    cases hold : x.old with
    | nil => exact ⟨rfl, rfl, hx, h⟩
    | cons f r =>
      dsimp only
      have e : fileL x.log f = preL log ++ num12 f := by rw [hx]; rfl
      have hr := h.sim.remove (num12 f)
      rw [← e] at hr
      have l1 := remove_len d (fileL x.log f)
      have l2 := remove_len c (fileL x.log f)
      have h1 := h.ld
      have h2 := h.lc
      have hd : SimN log n (removeD d (fileL x.log f)) (removeD c (fileL x.log f)) := ⟨hr.2, by omega, by omega⟩
      rw [hr.1]
      split
      · exact ⟨rfl, rfl, hx, h⟩
      · split
        · exact SimN.goS m k hd hx
        · exact ⟨rfl, rfl, by show (toldX _ _).log = _; rw [toldX_nm]; exact hx, hd⟩
theorem SimN.dropS (h : SimN log n d c) (hx : x.log = log) (hn : n + 1 < 256) (m : Int) : SimR log (n + 4) (Proofs.YtkpoecofblhggaaGreatDoor.dropS d x m) (Proofs.YtkpoecofblhggaaGreatDoor.dropS c x m) := by
  have ho := h.off (x := x) hx
  have hx2 : (offX c x).log = log := by rw [offX_nm]; exact hx
  unfold Proofs.YtkpoecofblhggaaGreatDoor.dropS
  rw [ho.1, ho.2]
  split
  · split
    · have ht := h.turnS (x := offX c x) hx2 hn
      rw [← ht.e]
      split
      · have hg := SimN.goS m (Proofs.YtkpoecofblhggaaGreatDoor.turnS d (offX c x)).2.2.old.length ht.d ht.nm
        rw [← ht.x]
        exact ⟨hg.e, hg.x, hg.nm, hg.d.le (by omega)⟩
      · exact ⟨ht.e, ht.x, ht.nm, ht.d.le (by omega)⟩
    · have hg := SimN.goS m (offX c x).old.length h hx2
      exact ⟨hg.e, hg.x, hg.nm, hg.d.le (by omega)⟩
  · exact ⟨rfl, rfl, hx2, h.le (by omega)⟩
end

section
open Go.RowKit Go.Maps

/-- d', made out of d by changes of the log's own files, at most n of which may bring a file more -/
inductive Ops (log : ByteArray) : Nat → Dk → Dk → Prop
  | nil (d : Dk) : Ops log 0 d d
  | create {n : Nat} {d e : Dk} (r : Nm) : Ops log n d e → Ops log (n + 1) d (createD e (preL log ++ r))
  | append {n : Nat} {d e : Dk} (r : Nm) (y : ByteArray) : Ops log n d e → Ops log (n + 1) d (appendD e (preL log ++ r) y)
  | sync {n : Nat} {d e : Dk} (r : Nm) : Ops log n d e → Ops log (n + 1) d (syncD e (preL log ++ r))
  | rename {n : Nat} {d e : Dk} (r q : Nm) : Ops log n d e → Ops log (n + 1) d (renameD e (preL log ++ r) (preL log ++ q))
  | remove {n : Nat} {d e : Dk} (r : Nm) : Ops log n d e → Ops log n d (removeD e (preL log ++ r))
  | le {n m : Nat} {d e : Dk} : n ≤ m → Ops log n d e → Ops log m d e
variable {log : ByteArray} {d e : Dk} {n : Nat} {x : Lg}
theorem Ops.fit (h : Ops log n d e) (hd : Fit d) : Fit e := by
  induction h with
  | nil => exact hd
  | create r _ ih => exact (ih hd).create _
  | append r y _ ih => exact (ih hd).append _ _
  | sync r _ ih => exact (ih hd).sync _
  | rename r q _ ih => exact (ih hd).rename _ _
  | remove r _ ih => exact (ih hd).remove _
  | le _ _ ih => exact ih hd
theorem Ops.len (h : Ops log n d e) : e.fs.length ≤ d.fs.length + n := by
  induction h with
  | nil => omega
  | create r _ ih => have := create_len ‹Dk› (preL log ++ r); rename_i n d e _; have := create_len e (preL log ++ r); omega
  | append r y _ ih => rename_i n d e _; have := append_len e (preL log ++ r) y; omega
  | sync r _ ih => rename_i n d e _; have := sync_len e (preL log ++ r); omega
  | rename r q _ ih => rename_i n d e _; have := rename_len e (preL log ++ r) (preL log ++ q); omega
  | remove r _ ih => rename_i n d e _; have := remove_len e (preL log ++ r); omega
  | le _ _ ih => omega
/-- at its ease -/
def Ease (d : Dk) : Prop := d.down = false ∧ d.fuse = 0 ∧ d.room = -1
theorem ease_of {d : Dk} (h : Ease d) (G : Fs → Fs) (b : Bool) : Ease (chg d G b) := by
  rw [(ease_chg h G b).1]; exact h
theorem Ops.ease (h : Ops log n d e) (hd : Ease d) : Ease e := by
  induction h with
  | nil => exact hd
  | create r _ ih => unfold createD; repeat' split
                     all_goals first | exact ih hd | exact ease_of (ih hd) _ _
  | append r y _ ih => unfold appendD; repeat' split
                       all_goals first | exact ih hd | exact ease_of (ih hd) _ _
  | sync r _ ih => unfold syncD; repeat' split
                   all_goals first | exact ih hd | exact ease_of (ih hd) _ _
  | rename r q _ ih => unfold renameD; repeat' split
                       all_goals first | exact ih hd | exact ease_of (ih hd) _ _
  | remove r _ ih => unfold removeD; repeat' split
                     all_goals first | exact ih hd | exact ease_of (ih hd) _ _
  | le _ _ ih => exact ih hd
theorem Ops.other (h : Ops log n d e) (hd : Ease d) (hf : Fit d) {nm : Nm} (hn : ∀ r, nm ≠ preL log ++ r) : fget e.fs nm = fget d.fs nm := by
  induction h with
  | nil => rfl
  | create r h ih =>
    have he := h.ease hd
    have hu := (h.fit hf).up
    rw [← ih hd hf]
    unfold createD
    repeat' split
    all_goals first
      | rfl
      | (rw [(ease_chg he _ _).1]; exact fget_put_ne hu _ _ (hn r))
  | append r y h ih =>
    have he := h.ease hd
    have hu := (h.fit hf).up
    rw [← ih hd hf]
    unfold appendD
    repeat' split
    all_goals first
      | rfl
      | (rw [(ease_chg he _ _).1]; exact fget_put_ne hu _ _ (hn r))
  | sync r h ih =>
    have he := h.ease hd
    have hu := (h.fit hf).up
    rw [← ih hd hf]
    unfold syncD
    repeat' split
    all_goals first
      | rfl
      | (rw [(ease_chg he _ _).1]; exact fget_put_ne hu _ _ (hn r))
  | rename r q h ih =>
    have he := h.ease hd
    have hu := (h.fit hf).up
    rw [← ih hd hf]
    unfold renameD
    repeat' split
    all_goals first
      | rfl
      | (rw [(ease_chg he _ _).1]; exact (fget_put_ne (up_del hu _) _ _ (hn q)).trans (fget_del_ne _ (hn r)))
  | remove r h ih =>
    have he := h.ease hd
    rw [← ih hd hf]
    unfold removeD
    repeat' split
    all_goals first
      | rfl
      | (rw [(ease_chg he _ _).1]; exact fget_del_ne _ (hn r))
  | le _ _ ih => exact ih hd hf
/-- a result whose disk is made so -/
structure OpsR (log : ByteArray) (n : Nat) (d : Dk) (r : Rs) : Prop where
  nm : r.2.2.log = log
  ops : Ops log n d r.2.1
theorem nm_pre (hx : x.log = log) : x.nm = preL log ++ num12 x.fr := by rw [← hx]; rfl
theorem Ops.syncT (h : Ops log n d e) (hx : x.log = log) : OpsR log (n + 1) d (Proofs.YtkpoecofblhggaaGreatDoor.syncT e x) := by
  unfold Proofs.YtkpoecofblhggaaGreatDoor.syncT
  refine ⟨by show (toldX _ _).log = _; rw [toldX_nm]; exact hx, ?_⟩
  show Ops log (n + 1) d (syncD e x.nm)
  rw [nm_pre hx]
  exact h.sync _
theorem Ops.rotateS (h : Ops log n d e) (hx : x.log = log) : OpsR log (n + 2) d (Proofs.YtkpoecofblhggaaGreatDoor.rotateS e x) := by
  unfold Proofs.YtkpoecofblhggaaGreatDoor.rotateS
  split
  · unfold emptyS
    have e1 : freshL x.log = preL log ++ newL := by rw [hx]; rfl
    rw [e1, nm_pre hx]
    split
    · exact ⟨hx, (h.create _).rename _ _⟩
    · exact ⟨hx, .le (by omega) (h.create _)⟩
  · have e1 : fileL x.log (x.last + 1) = preL log ++ num12 (x.last + 1) := by rw [hx]; rfl
    rw [e1]
    refine ⟨?_, .le (by omega) (h.create _)⟩
    dsimp only
    split <;> exact hx
theorem OpsR.turn {r : Rs} (h : OpsR log n d r) : OpsR log (n + 2) d (Proofs.YtkpoecofblhggaaGreatDoor.rotateT r) := by
  have hr := h.ops.rotateS (x := r.2.2) h.nm
  unfold Proofs.YtkpoecofblhggaaGreatDoor.rotateT
  exact ⟨by show (toldX _ _).log = _; rw [toldX_nm]; exact hr.nm, hr.ops⟩
theorem Ops.turnS (h : Ops log n d e) (hx : x.log = log) : OpsR log (n + 3) d (Proofs.YtkpoecofblhggaaGreatDoor.turnS e x) := by
  have hs := h.syncT hx
  unfold Proofs.YtkpoecofblhggaaGreatDoor.turnS
  split
  · exact hs.turn
  · exact ⟨hs.nm, .le (by omega) hs.ops⟩
theorem OpsR.putS {r : Rs} (b : ByteArray) (h : OpsR log n d r) : OpsR log (n + 1) d (Proofs.YtkpoecofblhggaaGreatDoor.putS b r) := by
  have e := nm_pre h.nm
  unfold Proofs.YtkpoecofblhggaaGreatDoor.putS
  rw [e]
  split
  · exact ⟨h.nm, h.ops.append _ _⟩
  · exact ⟨by show (toldX _ _).log = _; rw [toldX_nm]; exact h.nm, h.ops.append _ _⟩
theorem ops_appendS (hx : x.log = log) (d : Dk) (b : ByteArray) : OpsR log 4 d (appendS d x b) := by
  have hx2 : (offX d x).log = log := by rw [offX_nm]; exact hx
  unfold appendS
  split
  · exact ⟨hx, .le (by omega) (.nil d)⟩
  · split
    · unfold addS
      split
      · have ht := (Ops.nil (log := log) d).turnS (x := offX d x) hx2
        split
        · exact ht.putS b
        · exact ⟨ht.nm, .le (by omega) ht.ops⟩
      · have hp := OpsR.putS b (r := (0, d, offX d x)) (log := log) (n := 0) (d := d) ⟨hx2, .nil d⟩
        exact ⟨hp.nm, .le (by omega) hp.ops⟩
    · exact ⟨hx2, .le (by omega) (.nil d)⟩
theorem ops_syncS (hx : x.log = log) (d : Dk) : OpsR log 4 d (syncS d x) := by
  have hx2 : (offX d x).log = log := by rw [offX_nm]; exact hx
  unfold syncS
  split
  · have hs := (Ops.nil (log := log) d).syncT (x := offX d x) hx2
    exact ⟨hs.nm, .le (by omega) hs.ops⟩
  · exact ⟨hx2, .le (by omega) (.nil d)⟩
theorem Ops.goS (m : Int) : ∀ (k : Nat) {d e : Dk} {x : Lg}, Ops log n d e → x.log = log → OpsR log n d (Proofs.YtkpoecofblhggaaGreatDoor.goS m k e x)
  | 0, _, _, _, h, hx => ⟨hx, h⟩
  | k + 1, d, e, x, h, hx => by
    unfold Proofs.YtkpoecofblhggaaGreatDoor.goS
    cases hold : x.old with
    | nil => exact ⟨hx, h⟩
    | cons f r =>
      dsimp only
      have e1 : fileL x.log f = preL log ++ num12 f := by rw [hx]; rfl
      rw [e1]
      split
      · exact ⟨hx, h⟩
      · split
        · exact Ops.goS m k (h.remove _) hx
        · exact ⟨by show (toldX _ _).log = _; rw [toldX_nm]; exact hx, h.remove _⟩
theorem ops_dropS (hx : x.log = log) (d : Dk) (m : Int) : OpsR log 4 d (dropS d x m) := by
  have hx2 : (offX d x).log = log := by rw [offX_nm]; exact hx
  unfold dropS
  split
  · split
    · have ht := (Ops.nil (log := log) d).turnS (x := offX d x) hx2
      split
      · have hg := Ops.goS m (Proofs.YtkpoecofblhggaaGreatDoor.turnS d (offX d x)).2.2.old.length ht.ops ht.nm
        exact ⟨hg.nm, .le (by omega) hg.ops⟩
      · exact ⟨ht.nm, .le (by omega) ht.ops⟩
    · have hg := Ops.goS m (offX d x).old.length (Ops.nil (log := log) d) hx2
      exact ⟨hg.nm, .le (by omega) hg.ops⟩
  · exact ⟨hx2, .le (by omega) (.nil d)⟩
/-- a log's methods leave another log's files as they are -/
theorem Sim.apart {lg : ByteArray} {c : Dk} (h : Sim lg d c) (ho : Ops log n d e) (hne : ∀ r q, preL lg ++ r ≠ preL log ++ q) : Sim lg e c :=
  ⟨ho.ease h.ed, h.ec, ho.fit h.fd, h.fc, fun r => (ho.other h.ed h.fd (hne r)).trans (h.files r)⟩
end
end Go.Proofs.YtkpoecofblhggaaGreatDoor
