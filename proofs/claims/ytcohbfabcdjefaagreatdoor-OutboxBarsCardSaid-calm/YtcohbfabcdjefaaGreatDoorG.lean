/-
  'Create', 'Remove', 'Sync', 'Rename' at every disk, up or not: what they answer and what becomes of it.
-/
import Derived.Test.YtcohbfabcdjefaaGreatDoorF
namespace Go.Proofs.YtcohbfabcdjefaaGreatDoor
open Go.RowKit Go.Maps

/-- what holds of every disk -/
structure Fit (d : Dk) : Prop where
  len : d.fs.length ≤ 256
  flo : 0 ≤ d.fuse
  fhi : d.fuse ≤ 9223372036854775807
  rlo : -1 ≤ d.room
  rhi : d.room ≤ 9223372036854775807
  sz : ∀ x ∈ d.fs, x.2.data.size ≤ 1048576
  syn : ∀ x ∈ d.fs, x.2.syn ≤ x.2.data.size
  nm : ∀ x ∈ d.fs, x.1.length ≤ 32
  up : d.fs.Pairwise (fun x y => bytesBefore x.1 y.1 = true)

def createE (d : Dk) (k : Nm) : Int := if d.down then 7 else if nameB k = false then 1 else if (fget d.fs k).isSome then 5 else if 256 ≤ d.fs.length then 6 else chgE d
def createD (d : Dk) (k : Nm) : Dk := if d.down then d else if nameB k = false then d else if (fget d.fs k).isSome then d else if 256 ≤ d.fs.length then d else chg d (fun F => fput F k ⟨⟨#[]⟩, 0⟩) false
def removeE (d : Dk) (k : Nm) : Int := if d.down then 7 else if (fget d.fs k).isNone then 4 else chgE d
def removeD (d : Dk) (k : Nm) : Dk := if d.down then d else if (fget d.fs k).isNone then d else chg d (fun F => fdel F k) false
def syncE (d : Dk) (k : Nm) : Int := if d.down then 7 else if (fget d.fs k).isNone then 4 else chgE d
def syncD (d : Dk) (k : Nm) : Dk := if d.down then d else match fget d.fs k with | none => d | some y => chg d (fun F => fput F k ⟨y.data, y.data.size⟩) false
def renameE (d : Dk) (k j : Nm) : Int := if d.down then 7 else if (fget d.fs k).isNone then 4 else if nameB j = false then 1 else chgE d
def renameD (d : Dk) (k j : Nm) : Dk := if d.down then d else match fget d.fs k with | none => d | some y => if nameB j = false then d else chg d (fun F => fput (fdel F k) j y) false

theorem keepOf {w w' : World} {b m : Nat} {d : Dk} (h : DAt w b m d) (hb : Below w.heap.size w w') : DAt w' b m d ∧ But [b, m] w w' := ⟨h.below hb, .of_below hb⟩

theorem create_any (w : World) (b m : Nat) (d : Dk) (s : ByteArray) (h : DAt w b m d) (hs : s.size ≤ maxLen) (ok : Fit d) :
    Calls Tryz.prog 150 #[.pointer (some ⟨b, 0, none⟩), .string s] w fun e w' => e = .returned (.int .i64 (createE d s.data.toList)) ∧ DAt w' b m (createD d s.data.toList) ∧ But [b, m] w w' := by
  cases hd : d.down
  · cases hn : nameB s.data.toList
    · have e1 : createE d s.data.toList = 1 ∧ createD d s.data.toList = d := by simp [createE, createD, hd, hn]
      rw [e1.1, e1.2]
      cases hx : fget d.fs s.data.toList with
      | none => exact (create_bad_none w b m d s h hs hd hx hn).mono fun _ _ ⟨he, hb⟩ => ⟨he, keepOf h hb⟩
      | some y => exact (create_bad_some w b m d s h hs hd y hx hn).mono fun _ _ ⟨he, hb⟩ => ⟨he, keepOf h hb⟩
    · cases hx : fget d.fs s.data.toList with
      | none =>
        by_cases hf : 256 ≤ d.fs.length
        · have e1 : createE d s.data.toList = 6 ∧ createD d s.data.toList = d := by simp [createE, createD, hd, hn, hx, hf]
          rw [e1.1, e1.2]
          exact (create_full w b m d s h hs hd hx hn hf).mono fun _ _ ⟨he, hb⟩ => ⟨he, keepOf h hb⟩
        · have e1 : createE d s.data.toList = chgE d ∧ createD d s.data.toList = chg d (fun F => fput F s.data.toList ⟨⟨#[]⟩, 0⟩) false := by simp [createE, createD, hd, hn, hx, hf]
          rw [e1.1, e1.2]
          exact create_go w b m d s h hs hd hx hn (by omega) ok.flo ok.fhi ok.len
      | some y =>
        have e1 : createE d s.data.toList = 5 ∧ createD d s.data.toList = d := by simp [createE, createD, hd, hn, hx]
        rw [e1.1, e1.2]
        exact (create_there w b m d s h hs hd y hx hn).mono fun _ _ ⟨he, hb⟩ => ⟨he, keepOf h hb⟩
  · have e1 : createE d s.data.toList = 7 ∧ createD d s.data.toList = d := by simp [createE, createD, hd]
    rw [e1.1, e1.2]
    exact (create_down w b m d s h hs hd).mono fun _ _ ⟨he, hb⟩ => ⟨he, keepOf h hb⟩

theorem remove_any (w : World) (b m : Nat) (d : Dk) (s : ByteArray) (h : DAt w b m d) (hs : s.size ≤ maxLen) (ok : Fit d) :
    Calls Tryz.prog 78 #[.pointer (some ⟨b, 0, none⟩), .string s] w fun e w' => e = .returned (.int .i64 (removeE d s.data.toList)) ∧ DAt w' b m (removeD d s.data.toList) ∧ But [b, m] w w' := by
  cases hd : d.down
  · cases hx : fget d.fs s.data.toList with
    | none =>
      have e1 : removeE d s.data.toList = 4 ∧ removeD d s.data.toList = d := by simp [removeE, removeD, hd, hx]
      rw [e1.1, e1.2]
      exact (remove_none w b m d s h hs hd hx).mono fun _ _ ⟨he, hb⟩ => ⟨he, keepOf h hb⟩
    | some y =>
      have e1 : removeE d s.data.toList = chgE d ∧ removeD d s.data.toList = chg d (fun F => fdel F s.data.toList) false := by simp [removeE, removeD, hd, hx]
      rw [e1.1, e1.2]
      exact remove_go w b m d s h hs hd y hx ok.flo ok.fhi ok.len
  · have e1 : removeE d s.data.toList = 7 ∧ removeD d s.data.toList = d := by simp [removeE, removeD, hd]
    rw [e1.1, e1.2]
    exact (remove_down w b m d s h hs hd).mono fun _ _ ⟨he, hb⟩ => ⟨he, keepOf h hb⟩

theorem sync_any (w : World) (b m : Nat) (d : Dk) (s : ByteArray) (h : DAt w b m d) (hs : s.size ≤ maxLen) (ok : Fit d) :
    Calls Tryz.prog 151 #[.pointer (some ⟨b, 0, none⟩), .string s] w fun e w' => e = .returned (.int .i64 (syncE d s.data.toList)) ∧ DAt w' b m (syncD d s.data.toList) ∧ But [b, m] w w' := by
  cases hd : d.down
  · cases hx : fget d.fs s.data.toList with
    | none =>
      have e1 : syncE d s.data.toList = 4 ∧ syncD d s.data.toList = d := by simp [syncE, syncD, hd, hx]
      rw [e1.1, e1.2]
      exact (sync_none w b m d s h hs hd hx).mono fun _ _ ⟨he, hb⟩ => ⟨he, keepOf h hb⟩
    | some y =>
      have e1 : syncE d s.data.toList = chgE d ∧ syncD d s.data.toList = chg d (fun F => fput F s.data.toList ⟨y.data, y.data.size⟩) false := by simp [syncE, syncD, hd, hx]
      rw [e1.1, e1.2]
      exact sync_go w b m d s h hs hd y hx ok.flo ok.fhi ok.len
  · have e1 : syncE d s.data.toList = 7 ∧ syncD d s.data.toList = d := by simp [syncE, syncD, hd]
    rw [e1.1, e1.2]
    exact (sync_down w b m d s h hs hd).mono fun _ _ ⟨he, hb⟩ => ⟨he, keepOf h hb⟩

theorem rename_any (w : World) (b m : Nat) (d : Dk) (s x : ByteArray) (h : DAt w b m d) (hs : s.size ≤ maxLen) (hx2 : x.size ≤ maxLen) (ok : Fit d) :
    Calls Tryz.prog 256 #[.pointer (some ⟨b, 0, none⟩), .string s, .string x] w fun e w' => e = .returned (.int .i64 (renameE d s.data.toList x.data.toList)) ∧ DAt w' b m (renameD d s.data.toList x.data.toList) ∧ But [b, m] w w' := by
  cases hd : d.down
  · cases hx : fget d.fs s.data.toList with
    | none =>
      have e1 : renameE d s.data.toList x.data.toList = 4 ∧ renameD d s.data.toList x.data.toList = d := by simp [renameE, renameD, hd, hx]
      rw [e1.1, e1.2]
      exact (rename_none w b m d s x h hs hx2 hd hx).mono fun _ _ ⟨he, hb⟩ => ⟨he, keepOf h hb⟩
    | some y =>
      cases hn : nameB x.data.toList
      · have e1 : renameE d s.data.toList x.data.toList = 1 ∧ renameD d s.data.toList x.data.toList = d := by simp [renameE, renameD, hd, hx, hn]
        rw [e1.1, e1.2]
        exact (rename_bad w b m d s x h hs hx2 hd y hx hn).mono fun _ _ ⟨he, hb⟩ => ⟨he, keepOf h hb⟩
      · have e1 : renameE d s.data.toList x.data.toList = chgE d ∧ renameD d s.data.toList x.data.toList = chg d (fun F => fput (fdel F s.data.toList) x.data.toList y) false := by simp [renameE, renameD, hd, hx, hn]
        rw [e1.1, e1.2]
        exact rename_go w b m d s x h hs hx2 hd y hx hn ok.flo ok.fhi ok.len
  · have e1 : renameE d s.data.toList x.data.toList = 7 ∧ renameD d s.data.toList x.data.toList = d := by simp [renameE, renameD, hd]
    rw [e1.1, e1.2]
    exact (rename_down w b m d s x h hs hx2 hd).mono fun _ _ ⟨he, hb⟩ => ⟨he, keepOf h hb⟩
end Go.Proofs.YtcohbfabcdjefaaGreatDoor
