/-
  The plain law of DiskQuiet (no program in sight).
-/
import Derived.Test.YtmhflhbogkkblaaAc
import Derived.Test.YtmhflhbogkkblaaIk
namespace Go.Proofs.Ytmhflhbogkkblaa
open Go.RowKit Go.Maps

/-- a disk that is up, whose fuse burns, whose room holds -/
structure Qs (d : Dk) (left room : Int) : Prop where
  fit : Fit d
  up : d.down = false
  fu : d.fuse = left
  l1 : 1 ≤ left
  l30 : left ≤ 30
  ro : d.room = room
  r0 : 0 ≤ room
  tot : (total d.fs : Int) ≤ room
/-- when the power has gone -/
structure Qd (d : Dk) (room : Int) : Prop where
  fit : Fit d
  dn : d.down = true
  tot : (total d.fs : Int) ≤ room
inductive Qafter (d : Dk) (left room E : Int) (d' : Dk) : Prop
  | other : E ≠ 0 → E ≠ 7 → d' = d → Qafter d left room E d'
  | ok : E = 0 → 1 ≤ left - 1 → Qs d' (left - 1) room → Qafter d left room E d'
  | down : E = 7 → left = 1 → Qd d' room → Qafter d left room E d'
theorem Qs.chg {d : Dk} {left room : Int} (h : Qs d left room) (G : Fs → Fs) (be : Bool) (hf : Fit (chg d G be)) (hg : (total (G d.fs) : Int) ≤ room) : Qafter d left room (chgE d) (chg d G be) := by
  have h1 := h.l1
  have h2 := h.l30
  by_cases hl : left = 1
  · have hfu : d.fuse = 1 := by rw [h.fu]; exact hl
    refine .down (by simp [chgE, hfu]) hl ⟨hf, ?_, ?_⟩
    · unfold Ytmhflhbogkkblaa.chg; rw [if_pos hfu]
    · unfold Ytmhflhbogkkblaa.chg; rw [if_pos hfu]
      dsimp only
      split
      · exact hg
      · exact h.tot
  · have hfu : ¬ d.fuse = 1 := by rw [h.fu]; exact hl
    refine .ok (by simp [chgE, hfu]) (by omega) ⟨hf, ?_, ?_, by omega, by omega, ?_, h.r0, ?_⟩
    · unfold Ytmhflhbogkkblaa.chg; rw [if_neg hfu]; exact h.up
    · unfold Ytmhflhbogkkblaa.chg; rw [if_neg hfu]; dsimp only; rw [if_pos (by rw [h.fu]; omega), h.fu]
    · unfold Ytmhflhbogkkblaa.chg; rw [if_neg hfu]; exact h.ro
    · unfold Ytmhflhbogkkblaa.chg; rw [if_neg hfu]; exact hg
theorem Qs.create {d : Dk} {left room : Int} (h : Qs d left room) (k : Nm) : Qafter d left room (createE d k) (createD d k) := by
  have hf := h.fit.create k
  unfold createE createD at *
  simp only [h.up, Bool.false_eq_true, if_false] at *
  split
  · exact .other (by decide) (by decide) rfl
  · split
    · exact .other (by decide) (by decide) rfl
    · split
      · exact .other (by decide) (by decide) rfl
      · rename_i h1 h2 h3
        simp only [h1, h2, h3, if_false] at hf
        refine h.chg _ _ hf ?_
        rw [total_put, del_none (by simpa using h2)]
        have := h.tot
        simp [ByteArray.size]; omega
theorem Qs.append {d : Dk} {left room : Int} (h : Qs d left room) (k : Nm) (x : ByteArray) : Qafter d left room (appendE d k x) (appendD d k x) := by
  have hf := h.fit.append k x
  unfold appendE appendD at *
  simp only [h.up, Bool.false_eq_true, if_false] at *
  cases hg : fget d.fs k with
  | none => exact (show Qafter d left room 4 d from .other (by decide) (by decide) rfl)
  | some y =>
    simp only [hg] at hf
    dsimp only
    split
    · exact .other (by decide) (by decide) rfl
    · split
      · exact .other (by decide) (by decide) rfl
      · rename_i h1 h2
        simp only [h1, h2, if_false] at hf
        refine h.chg _ _ hf ?_
        have e := total_put d.fs k ⟨y.data ++ x, y.syn⟩
        have e2 := total_del h.fit.up hg
        simp only [ByteArray.size_append] at e
        have := h.ro
        have := h.r0
        omega
theorem Qs.sync {d : Dk} {left room : Int} (h : Qs d left room) (k : Nm) : Qafter d left room (syncE d k) (syncD d k) := by
  have hf := h.fit.sync k
  unfold syncE syncD at *
  simp only [h.up, Bool.false_eq_true, if_false] at *
  cases hg : fget d.fs k with
  | none => exact (show Qafter d left room 4 d from .other (by decide) (by decide) rfl)
  | some y =>
    simp only [hg] at hf
    dsimp only [Option.isNone]
    simp only [Bool.false_eq_true, if_false]
    refine h.chg _ _ hf ?_
    have e := total_put d.fs k ⟨y.data, y.data.size⟩
    have e2 := total_del h.fit.up hg
    have := h.tot
    dsimp only at e
    omega
theorem Qs.remove {d : Dk} {left room : Int} (h : Qs d left room) (k : Nm) : Qafter d left room (removeE d k) (removeD d k) := by
  have hf := h.fit.remove k
  unfold removeE removeD at *
  simp only [h.up, Bool.false_eq_true, if_false] at *
  split
  · exact .other (by decide) (by decide) rfl
  · rename_i h1
    simp only [h1] at hf
    refine h.chg _ _ hf ?_
    have := del_total_le d.fs k h.fit.up
    have := h.tot
    omega
theorem Qs.rename {d : Dk} {left room : Int} (h : Qs d left room) (k j : Nm) : Qafter d left room (renameE d k j) (renameD d k j) := by
  have hf := h.fit.rename k j
  unfold renameE renameD at *
  simp only [h.up, Bool.false_eq_true, if_false] at *
  cases hg : fget d.fs k with
  | none => exact (show Qafter d left room 4 d from .other (by decide) (by decide) rfl)
  | some y =>
    simp only [hg] at hf
    dsimp only [Option.isNone]
    simp only [Bool.false_eq_true, if_false]
    split
    · exact .other (by decide) (by decide) rfl
    · rename_i h1
      simp only [h1] at hf
      refine h.chg _ _ hf ?_
      have e2 := total_del h.fit.up hg
      have e3 := total_put (fdel d.fs k) j y
      have e4 := del_total_le (fdel d.fs k) j (h.fit.good.del k).up
      have := h.tot
      omega
/-- no power: each says so, nothing turns -/
structure Dead (d : Dk) : Prop where
  c : ∀ k, createE d k = 7 ∧ createD d k = d
  a : ∀ k x, appendE d k x = 7 ∧ appendD d k x = d
  s : ∀ k, syncE d k = 7 ∧ syncD d k = d
  r : ∀ k j, renameE d k j = 7 ∧ renameD d k j = d
  m : ∀ k, removeE d k = 7 ∧ removeD d k = d
  e : ∀ k, readE d k = 7
  st : (startD d).down = false ∧ (startD d).fuse = 0
theorem Qd.dead {d : Dk} {room : Int} (h : Qd d room) : Dead d := by
  have e := h.dn
  exact ⟨fun k => by simp [createE, createD, e], fun k x => by simp [appendE, appendD, e], fun k => by simp [syncE, syncD, e], fun k j => by simp [renameE, renameD, e], fun k => by simp [removeE, removeD, e], fun k => by simp [readE, e], by simp [startD, e]⟩
theorem create_not7 {d : Dk} (h1 : d.down = false) (h2 : d.fuse = 0) (k : Nm) : (createE d k != 7) = true := by
  have e : chgE d = 0 := by simp [chgE, h2]
  unfold createE
  simp only [h1, e, Bool.false_eq_true, if_false]
  repeat' split
  all_goals decide
theorem and_mask (x : Int) : 0 ≤ bits .and .i64 x 4611686018427387903 ∧ bits .and .i64 x 4611686018427387903 ≤ 4611686018427387903 := by
  unfold bits
  have e : ((BitVec.ofInt 64 x) &&& (BitVec.ofInt 64 4611686018427387903)).toNat ≤ 4611686018427387903 := by
    rw [BitVec.toNat_and]
    exact Nat.le_trans Nat.and_le_right (by decide)
  show 0 ≤ IntKind.i64.wrap (((BitVec.ofInt 64 x) &&& (BitVec.ofInt 64 4611686018427387903)).toNat : Int) ∧ IntKind.i64.wrap (((BitVec.ofInt 64 x) &&& (BitVec.ofInt 64 4611686018427387903)).toNat : Int) ≤ _
  generalize ((BitVec.ofInt 64 x) &&& (BitVec.ofInt 64 4611686018427387903)).toNat = n at *
  rw [IntWalk.i64_in _ (by omega)]
  omega
end Go.Proofs.Ytmhflhbogkkblaa
