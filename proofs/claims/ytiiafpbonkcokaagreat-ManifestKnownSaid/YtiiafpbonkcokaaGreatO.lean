/-
  'Start', for every disk; what a nil disk answers.
-/
import Derived.Test.YtiiafpbonkcokaaGreatL
import Derived.Test.YtiiafpbonkcokaaGreatJ
namespace Go.Proofs.YtiiafpbonkcokaaGreat
open Go.RowKit Go.Maps

/-- the disk behind 'Start' -/
def startD (d : Dk) : Dk := if d.down then { d with fs := crashF [] d.fs, down := false, fuse := 0 } else d
theorem start_any (w : World) (b m : Nat) (d : Dk) (h : DAt w b m d) (ok : Fit d) :
    Calls Tryz.prog 29 #[.pointer (some ⟨b, 0, none⟩)] w fun e w' => e = .returned (.tuple #[]) ∧ DAt w' b m (startD d) ∧ But [b, m] w w' := by
  cases hd : d.down
  · have hdn : w.cell? ⟨b, 1, none⟩ = some (.bool false) := by rw [← hd]; exact h.c1
    have e : startD d = d := by simp [startD, hd]
    rw [e]
    have HD := Lib.hid h
    clear h e
    go_enter Tryz.func29, Tryz.ntmps29
    go_wp2_with fail
    refine (off_up _ b hdn).mono ?_
    rintro e w1 ⟨rfl, rfl⟩
    go_wp2_with fail
    go_end0
    exact ⟨rfl, HD.out, But.refl _ _⟩
  · have hdn : w.cell? ⟨b, 1, none⟩ = some (.bool true) := by rw [← hd]; exact h.c1
    have e : startD d = { d with fs := crashF [] d.fs, down := false, fuse := 0 } := by simp [startD, hd]
    rw [e]
    have HD := Lib.hid h
    clear h e
    go_enter Tryz.func29, Tryz.ntmps29
    go_wp2_with fail
    refine (off_down _ b hdn).mono ?_
    rintro e w1 ⟨rfl, rfl⟩
    go_wp2_with fail
    refine (crash_any _ b m d none 0 0 [] HD.out ok rfl (by omega) (by omega)).mono ?_
    rintro e w1 ⟨rfl, hd1, hb1⟩
    have c1 := hd1.c1
    have f1 := hd1.f1
    have H1 := Lib.hid hd1
    have HB := Lib.hid hb1
    clear hd1 hb1
    go_wp2_with fail
    go_end0
    exact ⟨rfl, H1.out.set1 false, HB.out.setCell (.inl (by simp)) _⟩

theorem create_nil (w : World) (s : ByteArray) :
    Calls Tryz.prog 25 #[.pointer none, .string s] w fun e w' => e = .returned (.int .i64 2) ∧ Below w.heap.size w w' := by
  go_enter Tryz.func25, Tryz.ntmps25
  go_wp2_with fail
  refine (off_nil _).mono ?_
  rintro e w1 ⟨rfl, rfl⟩
  go_wp2_with fail
  go_ret
  exact ⟨rfl, bl2 _ _ _⟩

theorem append_nil (w : World) (s x : ByteArray) :
    Calls Tryz.prog 69 #[.pointer none, .string s, .string x] w fun e w' => e = .returned (.int .i64 2) ∧ Below w.heap.size w w' := by
  go_enter Tryz.func69, Tryz.ntmps69
  go_wp2_with fail
  refine (off_nil _).mono ?_
  rintro e w1 ⟨rfl, rfl⟩
  go_wp2_with fail
  go_ret
  exact ⟨rfl, bl3 _ _ _ _⟩

theorem remove_nil (w : World) (s : ByteArray) :
    Calls Tryz.prog 66 #[.pointer none, .string s] w fun e w' => e = .returned (.int .i64 2) ∧ Below w.heap.size w w' := by
  go_enter Tryz.func66, Tryz.ntmps66
  go_wp2_with fail
  refine (off_nil _).mono ?_
  rintro e w1 ⟨rfl, rfl⟩
  go_wp2_with fail
  go_ret
  exact ⟨rfl, bl2 _ _ _⟩

theorem sync_nil (w : World) (s : ByteArray) :
    Calls Tryz.prog 71 #[.pointer none, .string s] w fun e w' => e = .returned (.int .i64 2) ∧ Below w.heap.size w w' := by
  go_enter Tryz.func71, Tryz.ntmps71
  go_wp2_with fail
  refine (off_nil _).mono ?_
  rintro e w1 ⟨rfl, rfl⟩
  go_wp2_with fail
  go_ret
  exact ⟨rfl, bl2 _ _ _⟩

theorem rename_nil (w : World) (s x : ByteArray) :
    Calls Tryz.prog 73 #[.pointer none, .string s, .string x] w fun e w' => e = .returned (.int .i64 2) ∧ Below w.heap.size w w' := by
  go_enter Tryz.func73, Tryz.ntmps73
  go_wp2_with fail
  refine (off_nil _).mono ?_
  rintro e w1 ⟨rfl, rfl⟩
  go_wp2_with fail
  go_ret
  exact ⟨rfl, bl3 _ _ _ _⟩

theorem used_nil (w : World) :
    Calls Tryz.prog 92 #[.pointer none] w fun e w' => e = .returned (.int .i64 0) ∧ w = w' := by
  go_enter Tryz.func92, Tryz.ntmps92
  go_wp2_with fail
  go_ret
  exact ⟨rfl, rfl⟩

theorem down_nil (w : World) :
    Calls Tryz.prog 28 #[.pointer none] w fun e w' => e = .returned (.bool true) ∧ w = w' := by
  go_enter Tryz.func28, Tryz.ntmps28
  go_wp2_with fail
  go_ret
  exact ⟨rfl, rfl⟩

theorem fuse_nil (w : World) (n : Int) :
    Calls Tryz.prog 27 #[.pointer none, .int .i64 n] w fun e w' => e = .returned (.tuple #[]) ∧ w = w' := by
  go_enter Tryz.func27, Tryz.ntmps27
  go_wp2_with fail
  go_end0
  exact ⟨rfl, rfl⟩

theorem room_nil (w : World) (n : Int) :
    Calls Tryz.prog 34 #[.pointer none, .int .i64 n] w fun e w' => e = .returned (.tuple #[]) ∧ w = w' := by
  go_enter Tryz.func34, Tryz.ntmps34
  go_wp2_with fail
  go_end0
  exact ⟨rfl, rfl⟩

theorem crash_nil (w : World) (v : Value) :
    Calls Tryz.prog 14 #[.pointer none, v] w fun e w' => e = .returned (.tuple #[]) ∧ w = w' := by
  go_enter Tryz.func14, Tryz.ntmps14
  go_wp2_with fail
  exact ⟨rfl, _, results_none (by rfl) _ _ _, rfl, rfl⟩

theorem start_nil (w : World) :
    Calls Tryz.prog 29 #[.pointer none] w fun e w' => e = .returned (.tuple #[]) ∧ w = w' := by
  go_enter Tryz.func29, Tryz.ntmps29
  go_wp2_with fail
  refine (off_nil _).mono ?_
  rintro e w1 ⟨rfl, rfl⟩
  go_wp2_with fail
  go_end0
  exact ⟨rfl, rfl⟩
end Go.Proofs.YtiiafpbonkcokaaGreat
