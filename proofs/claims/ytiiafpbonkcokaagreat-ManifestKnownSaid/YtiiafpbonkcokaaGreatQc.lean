/-
  Plain law of 'save': the text that is kept is the old one or the new one, whole.
-/
import Derived.Test.YtiiafpbonkcokaaGreatMo
namespace Go.Proofs.YtiiafpbonkcokaaGreat
open Go.RowKit Go.Maps

theorem fr_kp : fr ≠ kp := by decide
/-- what 'save' may have come to -/
structure Out (d : Dk) (o : Option Fl) (t : ByteArray) (r : Int × Dk) : Prop where
  room : r.2.room = d.room
  oth : ∀ j, j ≠ fr → j ≠ kp → fget r.2.fs j = fget d.fs j
  ok : Fit r.2
  fu : d.fuse = 0 → r.1 ≠ 7 ∧ r.2.fuse = 0
  res : (r.1 = 0 ∧ r.2.down = false ∧ fget r.2.fs kp = some ⟨t, t.size⟩) ∨ (r.1 = 7 ∧ r.2.down = true ∧ (fget r.2.fs kp = o ∨ fget r.2.fs kp = some ⟨t, t.size⟩)) ∨ (r.1 = 6 ∧ r.2.down = false ∧ fget r.2.fs kp = o ∧ 0 ≤ d.room)
/-- on the way -/
structure Mid (d : Dk) (o : Option Fl) (d1 : Dk) : Prop where
  up : d1.down = false
  ok : Fit d1
  room : d1.room = d.room
  oth : ∀ j, j ≠ fr → j ≠ kp → fget d1.fs j = fget d.fs j
  kpt : fget d1.fs kp = o
  fu : d.fuse = 0 → d1.fuse = 0
theorem chg_mid {d : Dk} {o : Option Fl} {d1 : Dk} (t : ByteArray) (h : Mid d o d1) (G : Fs → Fs) (b : Bool) (hG : ∀ j, j ≠ fr → fget (G d1.fs) j = fget d1.fs j) (ok : Fit (chg d1 G b)) :
    (chgE d1 = 0 ∧ Mid d o (chg d1 G b) ∧ (chg d1 G b).fs = G d1.fs) ∨ (chgE d1 = 7 ∧ Out d o t (7, chg d1 G b)) := by
  by_cases hf : d1.fuse = 1
  · right
    have e1 : chgE d1 = 7 := by simp [chgE, hf]
    have e2 : chg d1 G b = { d1 with fs := if b then G d1.fs else d1.fs, down := true, fuse := 0 } := by simp [chg, hf]
    have hj : ∀ j, j ≠ fr → fget (chg d1 G b).fs j = fget d1.fs j := fun j hj => by
      rw [e2]; cases b <;> simp; exact hG j hj
    refine ⟨e1, by rw [e2]; exact h.room, fun j h1 h2 => (hj j h1).trans (h.oth j h1 h2), ok, fun h0 => absurd (h.fu h0) (by omega), .inr (.inl ⟨rfl, by rw [e2], .inl ((hj kp fr_kp.symm).trans h.kpt)⟩)⟩
  · left
    have e1 : chgE d1 = 0 := by simp [chgE, hf]
    have e2 : chg d1 G b = { d1 with fs := G d1.fs, fuse := if 0 < d1.fuse then d1.fuse - 1 else d1.fuse } := by simp [chg, hf]
    refine ⟨e1, ⟨by rw [e2]; exact h.up, ok, by rw [e2]; exact h.room, fun j h1 h2 => ?_, ?_, fun h0 => by rw [e2]; have := h.fu h0; simp [this]⟩, by rw [e2]⟩
    · rw [e2]; exact (hG j h1).trans (h.oth j h1 h2)
    · rw [e2]; exact (hG kp fr_kp.symm).trans h.kpt
theorem fdel_le (F : Fs) (k : Nm) : (fdel F k).length ≤ F.length := List.length_filter_le _ _
theorem mid_remove {d : Dk} {o : Option Fl} {d1 : Dk} (t : ByteArray) (h : Mid d o d1) :
    ((removeE d1 fr = 0 ∨ removeE d1 fr = 4) ∧ Mid d o (removeD d1 fr) ∧ fget (removeD d1 fr).fs fr = none ∧ (removeD d1 fr).fs.length ≤ d1.fs.length) ∨ (removeE d1 fr = 7 ∧ Out d o t (7, removeD d1 fr)) := by
  have hok := h.ok.remove fr
  unfold removeE removeD at *
  simp only [h.up, Bool.false_eq_true, if_false] at *
  cases hn : fget d1.fs fr with
  | none =>
    left
    simp [hn]
    exact h
  | some y =>
    simp only [hn, Option.isNone_some, Bool.false_eq_true, if_false] at *
    rcases chg_mid t h (fun F => fdel F fr) false (fun j hj => fget_del_ne fr hj) hok with ⟨e, hm, hf⟩ | ⟨e, ho⟩
    · exact .inl ⟨.inl e, hm, by rw [hf]; exact fget_del_same _ _, by rw [hf]; exact fdel_le _ _⟩
    · exact .inr ⟨e, ho⟩
theorem out_rename {d : Dk} {o : Option Fl} {d1 : Dk} {t : ByteArray} (h : Mid d o d1) (hf : fget d1.fs fr = some ⟨t, t.size⟩) : Out d o t (stepS (renameE d1 fr kp) (renameD d1 fr kp) fun d => (0, d)) := by
  have hok := h.ok.rename fr kp
  have hnk : nameB kp = true := by decide
  have e1 : renameE d1 fr kp = chgE d1 := by simp [renameE, h.up, hf, hnk]
  have e2 : renameD d1 fr kp = chg d1 (fun F => fput (fdel F fr) kp ⟨t, t.size⟩) false := by simp [renameD, h.up, hf, hnk]
  rw [e2] at hok
  rw [e1, e2]
  have hup := up_del h.ok.up fr
  by_cases hfu : d1.fuse = 1
  · have e3 : chgE d1 = 7 := by simp [chgE, hfu]
    have e4 : chg d1 (fun F => fput (fdel F fr) kp ⟨t, t.size⟩) false = { d1 with fs := d1.fs, down := true, fuse := 0 } := by simp [chg, hfu]
    rw [e3, stepS_e (by decide) (by decide)]
    exact ⟨by rw [e4]; exact h.room, fun j h1 h2 => by rw [e4]; exact h.oth j h1 h2, hok, fun h0 => absurd (h.fu h0) (by omega), .inr (.inl ⟨rfl, by rw [e4], .inl (by rw [e4]; exact h.kpt)⟩)⟩
  · have e3 : chgE d1 = 0 := by simp [chgE, hfu]
    have e4 : chg d1 (fun F => fput (fdel F fr) kp ⟨t, t.size⟩) false = { d1 with fs := fput (fdel d1.fs fr) kp ⟨t, t.size⟩, fuse := if 0 < d1.fuse then d1.fuse - 1 else d1.fuse } := by simp [chg, hfu]
    rw [e3, stepS_0 rfl]
    refine ⟨by rw [e4]; exact h.room, fun j h1 h2 => ?_, hok, fun h0 => ⟨by show (0 : Int) ≠ 7; decide, by rw [e4]; have := h.fu h0; simp [this]⟩, .inl ⟨rfl, by rw [e4]; exact h.up, by rw [e4]; exact fget_put_same hup _ _⟩⟩
    rw [e4]
    show fget (fput (fdel d1.fs fr) kp ⟨t, t.size⟩) j = _
    rw [fget_put_ne hup _ _ h2, fget_del_ne _ h1]
    exact h.oth j h1 h2
theorem out_sync {d : Dk} {o : Option Fl} {d1 : Dk} {t : ByteArray} (h : Mid d o d1) {n : Nat} (hf : fget d1.fs fr = some ⟨t, n⟩) : Out d o t (save3 d1) := by
  unfold save3
  have hok := h.ok.sync fr
  have e1 : syncE d1 fr = chgE d1 := by simp [syncE, h.up, hf]
  have e2 : syncD d1 fr = chg d1 (fun F => fput F fr ⟨t, t.size⟩) false := by simp [syncD, h.up, hf]
  rw [e2] at hok
  rw [e1, e2]
  rcases chg_mid t h (fun F => fput F fr ⟨t, t.size⟩) false (fun j hj => fget_put_ne h.ok.up _ _ hj) hok with ⟨e, hm, hfs⟩ | ⟨e, ho⟩
  · rw [stepS_0 e]
    exact out_rename hm (by rw [hfs]; exact fget_put_same h.ok.up _ _)
  · rw [e, stepS_e (by decide) (by decide)]
    exact ho
theorem nil_app (t : ByteArray) : (⟨#[]⟩ : ByteArray) ++ t = t := by refine ba_ext ?_; rw [app_list]; rfl
theorem out_append {d : Dk} {o : Option Fl} {d1 : Dk} {t : ByteArray} (ht : t.size ≤ 100000) (h : Mid d o d1) (hf : fget d1.fs fr = some ⟨⟨#[]⟩, 0⟩) : Out d o t (save2 t d1) := by
  unfold save2
  have hok := h.ok.append fr t
  by_cases hr : 0 ≤ d1.room ∧ d1.room < (total d1.fs : Int) + t.size
  · have e1 : appendE d1 fr t = 6 := by simp only [appendE, h.up, hf, Bool.false_eq_true, if_false]; rw [if_neg (by show ¬ 1048576 < (0 : Nat) + t.size; omega), if_pos hr]
    have e2 : appendD d1 fr t = d1 := by simp only [appendD, h.up, hf, Bool.false_eq_true, if_false]; rw [if_neg (by show ¬ 1048576 < (0 : Nat) + t.size; omega), if_pos hr]
    rw [e1, e2]
    rcases mid_remove t h with ⟨h0, hm, _, _⟩ | ⟨h7, ho⟩
    · rw [stepS_6 rfl (by rcases h0 with e | e <;> rw [e] <;> decide)]
      exact ⟨hm.room, hm.oth, hm.ok, fun h0 => ⟨by show (6 : Int) ≠ 7; decide, hm.fu h0⟩, .inr (.inr ⟨rfl, hm.up, hm.kpt, by rw [← h.room]; exact hr.1⟩)⟩
    · rw [stepS_67 rfl h7]
      exact ho
  · have e1 : appendE d1 fr t = chgE d1 := by simp only [appendE, h.up, hf, Bool.false_eq_true, if_false]; rw [if_neg (by show ¬ 1048576 < (0 : Nat) + t.size; omega), if_neg hr]
    have e2 : appendD d1 fr t = chg d1 (fun F => fput F fr ⟨⟨#[]⟩ ++ t, 0⟩) true := by simp only [appendD, h.up, hf, Bool.false_eq_true, if_false]; rw [if_neg (by show ¬ 1048576 < (0 : Nat) + t.size; omega), if_neg hr]
    rw [e2] at hok
    rw [e1, e2]
    rcases chg_mid t h (fun F => fput F fr ⟨⟨#[]⟩ ++ t, 0⟩) true (fun j hj => fget_put_ne h.ok.up _ _ hj) hok with ⟨e, hm, hfs⟩ | ⟨e, ho⟩
    · rw [stepS_0 e]
      exact out_sync (n := 0) hm (by rw [hfs, fget_put_same h.ok.up, nil_app])
    · rw [e, stepS_e (by decide) (by decide)]
      exact ho
theorem out_create {d : Dk} {o : Option Fl} {d1 : Dk} {t : ByteArray} (ht : t.size ≤ 100000) (h : Mid d o d1) (hf : fget d1.fs fr = none) (hl : d1.fs.length < 256) : Out d o t (save1 t d1) := by
  unfold save1
  have hok := h.ok.create fr
  have hnf : nameB fr = true := by decide
  have e1 : createE d1 fr = chgE d1 := by simp [createE, h.up, hf, hnf]; omega
  have e2 : createD d1 fr = chg d1 (fun F => fput F fr ⟨⟨#[]⟩, 0⟩) false := by simp [createD, h.up, hf, hnf]; omega
  rw [e2] at hok
  rw [e1, e2]
  rcases chg_mid t h (fun F => fput F fr ⟨⟨#[]⟩, 0⟩) false (fun j hj => fget_put_ne h.ok.up _ _ hj) hok with ⟨e, hm, hfs⟩ | ⟨e, ho⟩
  · rw [stepS_0 e]
    exact out_append ht hm (by rw [hfs, fget_put_same h.ok.up])
  · rw [e, stepS_e (by decide) (by decide)]
    exact ho
theorem save_out {d : Dk} (ok : Fit d) (hup : d.down = false) (hl : d.fs.length < 256) {t : ByteArray} (ht : t.size ≤ 100000) : Out d (fget d.fs kp) t (saveS t d) := by
  have h : Mid d (fget d.fs kp) d := ⟨hup, ok, rfl, fun _ _ _ => rfl, rfl, id⟩
  unfold saveS
  rcases mid_remove t h with ⟨h0, hm, hn, hlen⟩ | ⟨h7, ho⟩
  · rw [if_pos h0]
    exact out_create ht hm hn (by omega)
  · rw [if_neg (by rw [h7]; decide), h7]
    exact ho

/-- the text that is kept stands for S -/
def Kpt (F : Fs) (S : St) : Prop := (fget F kp = none ∧ S = ⟨1, 0, []⟩) ∨ (checkB S = true ∧ fget F kp = some ⟨packB S, (packB S).size⟩)
theorem fget_crash : ∀ (ks : List Int) (F : Fs) (k : Nm), (fget F k = none → fget (crashF ks F) k = none) ∧ (∀ f, fget F k = some f → f.data.size = f.syn → fget (crashF ks F) k = some f)
  | ks, [], k => ⟨fun _ => rfl, fun f h => by cases h⟩
  | ks, x :: r, k => by
    have h0 : ∀ (y : Nm × Fl) (R : Fs), fget (y :: R) k = if (y.1 == k) = true then some y.2 else fget R k := fun y R => by
      unfold fget; rw [List.find?_cons]; cases (y.1 == k) <;> rfl
    unfold crashF
    split
    · obtain ⟨i1, i2⟩ := fget_crash ks r k
      rw [h0, h0]
      cases x.1 == k <;> simp
      · exact ⟨i1, i2⟩
    · rename_i hne
      obtain ⟨i1, i2⟩ := fget_crash ks.tail r k
      rw [h0, h0]
      cases x.1 == k <;> simp
      · exact ⟨i1, i2⟩
      · intro e; exact absurd e hne
theorem Kpt.crash {F : Fs} {S : St} (h : Kpt F S) (ks : List Int) : Kpt (crashF ks F) S := by
  rcases h with ⟨h1, h2⟩ | ⟨h1, h2⟩
  · exact .inl ⟨(fget_crash ks F kp).1 h1, h2⟩
  · exact .inr ⟨h1, (fget_crash ks F kp).2 _ h2 rfl⟩
theorem d0_kpt : Kpt d0.fs ⟨1, 0, []⟩ := .inl ⟨rfl, rfl⟩
/-- what a Commit comes to -/
inductive Com (d : Dk) (s : St) (ed : Ed) : Cm → Prop
  | no : (applyS s ed).1 ≠ 0 → Com d s ed ⟨(applyS s ed).1, d, s, false⟩
  | yes {d'} : (applyS s ed).1 = 0 → d'.down = false → Kpt d'.fs (applyS s ed).2 → Com d s ed ⟨0, d', (applyS s ed).2, false⟩
  | down {d'} : (applyS s ed).1 = 0 → d'.down = true → d.fuse ≠ 0 → (Kpt d'.fs s ∨ Kpt d'.fs (applyS s ed).2) → Com d s ed ⟨7, d', s, true⟩
  | full {d'} : (applyS s ed).1 = 0 → d'.down = false → 0 ≤ d.room → Kpt d'.fs s → Com d s ed ⟨6, d', s, false⟩
theorem commit_law {d : Dk} {s : St} (ed : Ed) (ok : Fit d) (hup : d.down = false) (hl : d.fs.length < 256) (hk : Kpt d.fs s) :
    Com d s ed (commitS d s false ed) ∧ (commitS d s false ed).d.room = d.room ∧ Fit (commitS d s false ed).d ∧ (∀ j, j ≠ fr → j ≠ kp → fget (commitS d s false ed).d.fs j = fget d.fs j) ∧ (d.fuse = 0 → (commitS d s false ed).d.fuse = 0) := by
  have e0 : commitS d s false ed = if (applyS s ed).1 ≠ 0 then ⟨(applyS s ed).1, d, s, false⟩ else if (saveS (packB (applyS s ed).2) d).1 ≠ 0 then ⟨(saveS (packB (applyS s ed).2) d).1, (saveS (packB (applyS s ed).2) d).2, s, (saveS (packB (applyS s ed).2) d).1 == 7⟩ else ⟨0, (saveS (packB (applyS s ed).2) d).2, (applyS s ed).2, false⟩ := by unfold commitS; rw [hup]; rfl
  by_cases hw : (applyS s ed).1 = 0
  · have hck := apply_check hw
    have hsz : (packB (applyS s ed).2).size ≤ 100000 := by obtain ⟨_, _, _, _, hl, hf⟩ := check_fit hck; have := packL_size (applyS s ed).2 _ hf; unfold packB; omega
    have ho := save_out ok hup hl hsz
    rw [if_neg (by simpa using hw)] at e0
    obtain ⟨room, oth, fit, fu, res⟩ := ho
    have hkp : ∀ F : Fs, fget F kp = fget d.fs kp → Kpt F s := fun F e => by unfold Kpt at hk ⊢; rw [e]; exact hk
    have hkn : ∀ F : Fs, fget F kp = some ⟨packB (applyS s ed).2, (packB (applyS s ed).2).size⟩ → Kpt F (applyS s ed).2 := fun F e => .inr ⟨hck, e⟩
    generalize saveS (packB (applyS s ed).2) d = r at *
    obtain ⟨E, d'⟩ := r
    dsimp only at *
    rcases res with ⟨r1, r2, r3⟩ | ⟨r1, r2, r3⟩ | ⟨r1, r2, r3, r4⟩
    · rw [if_neg (by simpa using r1)] at e0
      rw [e0]
      exact ⟨.yes hw r2 (hkn _ r3), room, fit, oth, fun h => (fu h).2⟩
    · subst r1
      rw [if_pos (by decide)] at e0
      rw [e0]
      exact ⟨.down hw r2 (fun h => (fu h).1 rfl) (r3.elim (fun h => .inl (hkp _ h)) (fun h => .inr (hkn _ h))), room, fit, oth, fun h => (fu h).2⟩
    · subst r1
      rw [if_pos (by decide)] at e0
      rw [e0]
      exact ⟨.full hw r2 r4 (hkp _ r3), room, fit, oth, fun h => (fu h).2⟩
  · rw [if_pos hw] at e0
    rw [e0]
    exact ⟨.no hw, rfl, ok, fun _ _ _ => rfl, id⟩
end Go.Proofs.YtiiafpbonkcokaaGreat
