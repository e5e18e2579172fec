/-
  The plain law of DiskCounts: what a step does to the sum of all bytes (no program in sight).
-/
import Derived.Test.YtmhflhbogkkblaaU
namespace Go.Proofs.Ytmhflhbogkkblaa
open Go.RowKit Go.Maps

theorem total_fins (a : Nm × Fl) : ∀ F : Fs, total (fins a F) = total F + a.2.data.size
  | [] => by simp [fins, total]
  | y :: r => by
    unfold fins
    split
    · simp only [total_cons]; omega
    · rw [total_cons, total_cons, total_fins a r]; omega
theorem del_none : ∀ {F : Fs} {k : Nm}, fget F k = none → fdel F k = F
  | F, k, h => by
    unfold fdel
    refine List.filter_eq_self.2 (fun x hx => ?_)
    have h2 : F.find? (fun x => x.1 == k) = none := by
      unfold fget at h
      cases hf : F.find? (fun x => x.1 == k) with
      | none => rfl
      | some y => rw [hf] at h; cases h
    have := List.find?_eq_none.1 h2 x hx
    simpa using this
theorem total_del : ∀ {F : Fs} {k : Nm} {y : Fl}, F.Pairwise (fun x y => bytesBefore x.1 y.1 = true) → fget F k = some y → total F = total (fdel F k) + y.data.size
  | [], k, y, _, h => by cases h
  | x :: r, k, y, hp, h => by
    have hp' := List.pairwise_cons.1 hp
    by_cases hk : x.1 = k
    · have e : fget (x :: r) k = some x.2 := by simp [fget, hk]
      rw [e] at h; cases h
      have hn : fget r k = none := by
        cases hg : fget r k with
        | none => rfl
        | some z => exact absurd hk (before_ne (hp'.1 _ (get_mem hg)))
      have e2 : fdel (x :: r) k = fdel r k := by simp [fdel, hk]
      rw [e2, del_none hn, total_cons]; omega
    · have e : fget (x :: r) k = fget r k := by simp [fget, hk]
      rw [e] at h
      have e2 : fdel (x :: r) k = x :: fdel r k := by simp [fdel, hk]
      rw [e2]
      have := total_del hp'.2 h
      rw [total_cons, total_cons]; omega
theorem total_put (F : Fs) (k : Nm) (f : Fl) : total (fput F k f) = total (fdel F k) + f.data.size := total_fins _ _

/-- a disk whose fuse does not burn -/
structure Calm (d : Dk) : Prop where
  fit : Fit d
  up : d.down = false
  fu : d.fuse = 0
theorem Calm.chg {d : Dk} (h : Calm d) (G : Fs → Fs) (be : Bool) : chg d G be = { d with fs := G d.fs } := by
  unfold Ytmhflhbogkkblaa.chg
  rw [if_neg (by rw [h.fu]; omega), if_neg (by rw [h.fu]; omega)]
theorem Calm.step {d : Dk} (h : Calm d) (n : Nat) : Calm (stepD d n) ∧ (stepD d n).room = d.room := by
  have hf := h.fit.step n
  refine ⟨⟨hf, ?_, ?_⟩, ?_⟩ <;> clear hf
  all_goals
    unfold stepD appendD createD syncD renameD removeD
    have := h.up
    have := h.fu
    simp only [h.chg, h.up]
    repeat' split
    all_goals first | assumption | rfl | contradiction

/-- what the law asks of an act's answer and of the sums before and behind -/
def Sums (d : Dk) (e : Int) (d' : Dk) : Prop :=
  (e ≠ 0 → total d'.fs = total d.fs) ∧ (0 ≤ d.room → total d.fs < total d'.fs → (total d'.fs : Int) ≤ d.room)
theorem Sums.same {d d' : Dk} {e : Int} (h : total d'.fs = total d.fs) : Sums d e d' := ⟨fun _ => h, fun _ h2 => absurd h2 (by omega)⟩
theorem Sums.less {d d' : Dk} (h : total d'.fs ≤ total d.fs) : Sums d 0 d' := ⟨fun h => absurd rfl h, fun _ h2 => absurd h2 (by omega)⟩
theorem Calm.chgE {d : Dk} (h : Calm d) : chgE d = 0 := by unfold Ytmhflhbogkkblaa.chgE; rw [if_neg (by rw [h.fu]; omega)]
theorem del_total_le (F : Fs) (k : Nm) (hp : F.Pairwise (fun x y => bytesBefore x.1 y.1 = true)) : total (fdel F k) ≤ total F := by
  cases h : fget F k with
  | none => rw [del_none h]; exact Nat.le_refl _
  | some y => have := total_del hp h; omega
theorem Calm.append {d : Dk} (h : Calm d) (k : Nm) (x : ByteArray) : Sums d (appendE d k x) (appendD d k x) := by
  unfold appendE appendD
  simp only [h.chg, h.up, h.chgE, Bool.false_eq_true, if_false]
  cases hg : fget d.fs k with
  | none => exact .same rfl
  | some y =>
    dsimp only
    split; · exact .same rfl
    split; · exact .same rfl
    rename_i hr
    have e := total_put d.fs k ⟨y.data ++ x, y.syn⟩
    have e2 := total_del h.fit.up hg
    simp only [ByteArray.size_append] at e
    refine ⟨fun h => absurd rfl h, fun h0 _ => ?_⟩
    show ((total (fput d.fs k ⟨y.data ++ x, y.syn⟩) : Nat) : Int) ≤ d.room
    omega
theorem Calm.create {d : Dk} (h : Calm d) (k : Nm) : Sums d (createE d k) (createD d k) := by
  unfold createE createD
  simp only [h.chg, h.up, h.chgE, Bool.false_eq_true, if_false]
  split; · exact .same rfl
  split; · exact .same rfl
  split; · exact .same rfl
  rename_i hn _
  have hn' : fget d.fs k = none := by simpa using hn
  refine .same ?_
  show total (fput d.fs k ⟨⟨#[]⟩, 0⟩) = total d.fs
  rw [total_put, del_none hn']; simp [ByteArray.size]
theorem Calm.sync {d : Dk} (h : Calm d) (k : Nm) : Sums d (syncE d k) (syncD d k) := by
  unfold syncE syncD
  simp only [h.chg, h.up, h.chgE, Bool.false_eq_true, if_false]
  cases hg : fget d.fs k with
  | none => exact .same rfl
  | some y =>
    refine .same ?_
    have e2 := total_del h.fit.up hg
    show total (fput d.fs k ⟨y.data, y.data.size⟩) = total d.fs
    rw [total_put]; dsimp only; omega
theorem Calm.remove {d : Dk} (h : Calm d) (k : Nm) : Sums d (removeE d k) (removeD d k) := by
  unfold removeE removeD
  simp only [h.chg, h.up, h.chgE, Bool.false_eq_true, if_false]
  split; · exact .same rfl
  exact .less (del_total_le _ _ h.fit.up)
theorem Calm.rename {d : Dk} (h : Calm d) (k j : Nm) : Sums d (renameE d k j) (renameD d k j) := by
  unfold renameE renameD
  simp only [h.chg, h.up, h.chgE, Bool.false_eq_true, if_false]
  cases hg : fget d.fs k with
  | none => exact .same rfl
  | some y =>
    dsimp only [Option.isNone]
    simp only [Bool.false_eq_true, if_false]
    split; · exact .same rfl
    refine .less ?_
    have e2 := total_del h.fit.up hg
    have e3 := total_put (fdel d.fs k) j y
    have e4 := del_total_le (fdel d.fs k) j (h.fit.good.del k).up
    show total (fput (fdel d.fs k) j y) ≤ total d.fs
    omega
theorem Calm.sums {d : Dk} (h : Calm d) (n : Nat) : Sums d (stepE d n) (stepD d n) := by
  unfold stepE stepD
  split; · exact h.append _ _
  split; · exact h.create _
  split; · exact h.sync _
  split; · exact h.rename _ _
  split; · exact h.remove _
  exact .same rfl

/-- no name is longer than three bytes -/
def Short (F : Fs) : Prop := ∀ x ∈ F, x.1.length ≤ 3
theorem Short.del {F : Fs} (h : Short F) (k : Nm) : Short (fdel F k) := fun x hx => h x (mem_fdel.1 hx).1
theorem Short.put {F : Fs} (h : Short F) (k : Nm) (f : Fl) (hk : k.length ≤ 3) : Short (fput F k f) := fun x hx => by
  rcases mem_fins.1 hx with rfl | hx
  · exact hk
  · exact h.del k x hx
theorem fourB_len (n : Nat) : (fourB n).data.toList.length ≤ 3 := by rw [Array.length_toList]; exact fourB_size n
theorem Calm.short {d : Dk} (h : Calm d) (n : Nat) (hs : Short d.fs) : Short (stepD d n).fs := by
  unfold stepD appendD createD syncD renameD removeD
  simp only [h.chg, h.up]
  have h1 := fourB_len (n / 8)
  have h2 := fourB_len (n / 32)
  repeat' split
  all_goals first | assumption | exact hs.put _ _ h1 | exact hs.del _ | exact (hs.del _).put _ _ h2
theorem Short.none {F : Fs} (h : Short F) {k : Nm} (hk : 3 < k.length) : fget F k = none := by
  cases hg : fget F k with
  | none => rfl
  | some y => have := h _ (get_mem hg); dsimp only at this; omega

theorem get_at {F : Fs} (h : F.Pairwise (fun x y => bytesBefore x.1 y.1 = true)) (i : Nat) (hi : i < F.length) : fget F F[i].1 = some F[i].2 := by
  have e : F = F.take i ++ F[i] :: F.drop (i + 1) := by
    rw [← List.drop_eq_getElem_cons hi, List.take_append_drop]
  have h2 := h
  rw [e] at h2
  have := get_mid h2
  rw [← e] at this
  exact this
theorem total_take (F : Fs) (i : Nat) (hi : i < F.length) : total (F.take (i + 1)) = total (F.take i) + F[i].2.data.size := by
  rw [List.take_succ_eq_append_getElem hi]; unfold total; rw [List.map_append, List.sum_append]; rfl
theorem Calm.read_at {d : Dk} (h : Calm d) (i : Nat) (hi : i < d.fs.length) : readE d d.fs[i].1 = 0 ∧ readS d d.fs[i].1 = d.fs[i].2.data := by
  have := get_at h.fit.up i hi
  simp [readE, readS, h.up, this]
theorem Calm.read_none {d : Dk} (h : Calm d) {k : Nm} (hk : fget d.fs k = none) : readE d k = 4 := by simp [readE, h.up, hk]
end Go.Proofs.Ytmhflhbogkkblaa
