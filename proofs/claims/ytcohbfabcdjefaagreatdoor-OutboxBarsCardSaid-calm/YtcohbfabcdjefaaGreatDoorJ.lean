/-
  'New', 'Append', 'Read', 'Down', 'Fuse', 'Room' at every disk.
-/
import Derived.Test.YtcohbfabcdjefaaGreatDoorI
namespace Go.Proofs.YtcohbfabcdjefaaGreatDoor
open Go.RowKit Go.Maps

def d0 : Dk := ⟨[], false, 0, -1⟩
theorem new_any (w : World) :
    Calls Tryz.prog 6 #[] w fun e w' => e = .returned (.pointer (some ⟨w.heap.size + 1, 0, none⟩)) ∧ DAt w' (w.heap.size + 1) w.heap.size d0 ∧ Below w.heap.size w w' := by
  have hmm := @run_makeMap Tryz.prog
  go_enter Tryz.func6, Tryz.ntmps6
  go_wp2
  go_ret
  refine ⟨rfl, ?_, ((Below.refl _ _).alloc (Nat.le_refl _) _).alloc (by simp) _⟩
  have hm : HasMap (w.alloc (.map #[] 0)) w.heap.size [] := .of (World.ownsMap_made w Tryz.prog 9 fileElem)
  constructor
  case map => exact hm.alloc _
  all_goals simp [go_sem, d0]

def appendE (d : Dk) (k : Nm) (x : ByteArray) : Int :=
  if d.down then 7 else match fget d.fs k with
    | none => 4
    | some y => if 1048576 < y.data.size + x.size then 3 else if 0 ≤ d.room ∧ d.room < (total d.fs : Int) + x.size then 6 else chgE d
def appendD (d : Dk) (k : Nm) (x : ByteArray) : Dk :=
  if d.down then d else match fget d.fs k with
    | none => d
    | some y => if 1048576 < y.data.size + x.size then d else if 0 ≤ d.room ∧ d.room < (total d.fs : Int) + x.size then d else chg d (fun F => fput F k ⟨y.data ++ x, y.syn⟩) true

theorem get_mem {F : Fs} {k : Nm} {y : Fl} (h : fget F k = some y) : (k, y) ∈ F := by
  unfold fget at h
  cases hf : F.find? (fun x => x.1 == k) with
  | none => rw [hf] at h; cases h
  | some z =>
    rw [hf] at h
    have e : z.2 = y := by simpa using h
    have hk : z.1 = k := by simpa using List.find?_some hf
    have := List.mem_of_find?_eq_some hf
    rw [← e, ← hk]; exact this

theorem append_any (w : World) (b m : Nat) (d : Dk) (s x : ByteArray) (h : DAt w b m d) (hs : s.size ≤ maxLen) (hx2 : x.size ≤ 1000000000000000) (ok : Fit d) :
    Calls Tryz.prog 164 #[.pointer (some ⟨b, 0, none⟩), .string s, .string x] w fun e w' => e = .returned (.int .i64 (appendE d s.data.toList x)) ∧ DAt w' b m (appendD d s.data.toList x) ∧ But [b, m] w w' := by
  cases hd : d.down
  · cases hx : fget d.fs s.data.toList with
    | none =>
      have e1 : appendE d s.data.toList x = 4 ∧ appendD d s.data.toList x = d := by simp [appendE, appendD, hd, hx]
      rw [e1.1, e1.2]
      exact (append_none w b m d s x h hs hx2 hd hx).mono fun _ _ ⟨he, hb⟩ => ⟨he, keepOf h hb⟩
    | some y =>
      have hy := ok.sz _ (get_mem hx)
      by_cases hl : 1048576 < y.data.size + x.size
      · have e1 : appendE d s.data.toList x = 3 ∧ appendD d s.data.toList x = d := by simp [appendE, appendD, hd, hx, hl]
        rw [e1.1, e1.2]
        exact (append_long w b m d s x h hs hx2 hd y hx hy hl).mono fun _ _ ⟨he, hb⟩ => ⟨he, keepOf h hb⟩
      · by_cases hr : 0 ≤ d.room
        · by_cases ho : d.room < (total d.fs : Int) + x.size
          · have e1 : appendE d s.data.toList x = 6 ∧ appendD d s.data.toList x = d := by simp [appendE, appendD, hd, hx, hl, hr, ho]
            rw [e1.1, e1.2]
            exact (append_full w b m d s x h hs hx2 hd y hx hy (by omega) hr ho ok).mono fun _ _ ⟨he, hb⟩ => ⟨he, keepOf h hb⟩
          · have e1 : appendE d s.data.toList x = chgE d ∧ appendD d s.data.toList x = chg d (fun F => fput F s.data.toList ⟨y.data ++ x, y.syn⟩) true := by simp [appendE, appendD, hd, hx, hl, ho]
            rw [e1.1, e1.2]
            exact append_go w b m d s x h hs hx2 hd y hx hy (by omega) hr (by omega) ok ok.flo ok.fhi ok.len
        · have e1 : appendE d s.data.toList x = chgE d ∧ appendD d s.data.toList x = chg d (fun F => fput F s.data.toList ⟨y.data ++ x, y.syn⟩) true := by simp [appendE, appendD, hd, hx, hl, hr]
          rw [e1.1, e1.2]
          exact append_room_no w b m d s x h hs hx2 hd y hx hy (by omega) (by omega) ok.flo ok.fhi ok.len
  · have e1 : appendE d s.data.toList x = 7 ∧ appendD d s.data.toList x = d := by simp [appendE, appendD, hd]
    rw [e1.1, e1.2]
    exact (append_down w b m d s x h hs hx2 hd).mono fun _ _ ⟨he, hb⟩ => ⟨he, keepOf h hb⟩

def readE (d : Dk) (k : Nm) : Int := if d.down then 7 else if (fget d.fs k).isNone then 4 else 0
def readS (d : Dk) (k : Nm) : ByteArray := if d.down then ⟨#[]⟩ else match fget d.fs k with | none => ⟨#[]⟩ | some y => y.data

theorem read_down (w : World) (b m : Nat) (d : Dk) (s : ByteArray) (h : DAt w b m d) (hd : d.down = true) :
    Calls Tryz.prog 71 #[.pointer (some ⟨b, 0, none⟩), .string s] w fun e w' => e = .returned (.tuple #[.string ⟨#[]⟩, .int .i64 7]) ∧ Below w.heap.size w w' := by
  have c1 := h.c1
  rw [hd] at c1
  clear h hd
  go_enter Tryz.func71, Tryz.ntmps71
  go_wp2_with fail
  refine (off_down _ b c1).mono ?_
  rintro e w1 ⟨rfl, rfl⟩
  go_wp2_with fail
  go_ret2
  exact ⟨rfl, Below.refl _ _⟩
theorem read_nil (w : World) (s : ByteArray) :
    Calls Tryz.prog 71 #[.pointer none, .string s] w fun e w' => e = .returned (.tuple #[.string ⟨#[]⟩, .int .i64 2]) ∧ Below w.heap.size w w' := by
  go_enter Tryz.func71, Tryz.ntmps71
  go_wp2_with fail
  refine (off_nil _).mono ?_
  rintro e w1 ⟨rfl, rfl⟩
  go_wp2_with fail
  go_ret2
  exact ⟨rfl, Below.refl _ _⟩
theorem read_none (w : World) (b m : Nat) (d : Dk) (s : ByteArray) (h : DAt w b m d) (hs : s.size ≤ maxLen) (hd : d.down = false) (hx : fget d.fs s.data.toList = none) :
    Calls Tryz.prog 71 #[.pointer (some ⟨b, 0, none⟩), .string s] w fun e w' => e = .returned (.tuple #[.string ⟨#[]⟩, .int .i64 4]) ∧ Below w.heap.size w w' := by
  have c1 := h.c1
  have c0 := h.c0
  have e1 := look_none hs hx w h.map
  rw [hd] at c1
  clear h hd hx
  go_enter Tryz.func71, Tryz.ntmps71
  go_wp2_with fail
  refine (off_up _ b c1).mono ?_
  rintro e w1 ⟨rfl, rfl⟩
  go_wp2_with fail
  go_ret2
  exact ⟨rfl, bl1 _ _⟩
theorem read_some (w : World) (b m : Nat) (d : Dk) (s : ByteArray) (h : DAt w b m d) (hs : s.size ≤ maxLen) (hd : d.down = false) (y : Fl) (hx : fget d.fs s.data.toList = some y) :
    Calls Tryz.prog 71 #[.pointer (some ⟨b, 0, none⟩), .string s] w fun e w' => e = .returned (.tuple #[.string y.data, .int .i64 0]) ∧ Below w.heap.size w w' := by
  have c1 := h.c1
  have c0 := h.c0
  have e1 := look_some hs hx w h.map
  rw [hd] at c1
  clear h hd hx
  go_enter Tryz.func71, Tryz.ntmps71
  go_wp2_with fail
  refine (off_up _ b c1).mono ?_
  rintro e w1 ⟨rfl, rfl⟩
  go_wp2_with fail
  go_ret2
  exact ⟨rfl, bl1 _ _⟩
theorem read_any (w : World) (b m : Nat) (d : Dk) (s : ByteArray) (h : DAt w b m d) (hs : s.size ≤ maxLen) :
    Calls Tryz.prog 71 #[.pointer (some ⟨b, 0, none⟩), .string s] w fun e w' => e = .returned (.tuple #[.string (readS d s.data.toList), .int .i64 (readE d s.data.toList)]) ∧ Below w.heap.size w w' := by
  cases hd : d.down
  · cases hx : fget d.fs s.data.toList with
    | none =>
      have e1 : readE d s.data.toList = 4 ∧ readS d s.data.toList = ⟨#[]⟩ := by simp [readE, readS, hd, hx]
      rw [e1.1, e1.2]
      exact read_none w b m d s h hs hd hx
    | some y =>
      have e1 : readE d s.data.toList = 0 ∧ readS d s.data.toList = y.data := by simp [readE, readS, hd, hx]
      rw [e1.1, e1.2]
      exact read_some w b m d s h hs hd y hx
  · have e1 : readE d s.data.toList = 7 ∧ readS d s.data.toList = ⟨#[]⟩ := by simp [readE, readS, hd]
    rw [e1.1, e1.2]
    exact read_down w b m d s h hd

theorem down_any (w : World) (b m : Nat) (d : Dk) (h : DAt w b m d) :
    Calls Tryz.prog 86 #[.pointer (some ⟨b, 0, none⟩)] w fun e w' => e = .returned (.bool d.down) ∧ w = w' := by
  have c1 := h.c1
  clear h
  go_enter Tryz.func86, Tryz.ntmps86
  go_wp2
  go_ret
  exact ⟨rfl, rfl⟩

end Go.Proofs.YtcohbfabcdjefaaGreatDoor
