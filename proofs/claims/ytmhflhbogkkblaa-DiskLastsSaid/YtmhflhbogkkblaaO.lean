/-
  'Start', for every disk; what a nil disk answers.
-/
import Derived.Test.YtmhflhbogkkblaaL
import Derived.Test.YtmhflhbogkkblaaJ
namespace Go.Proofs.Ytmhflhbogkkblaa
open Go.RowKit Go.Maps

/-- the disk behind 'Start' -/
def startD (d : Dk) : Dk := if d.down then { d with fs := crashF [] d.fs, down := false, fuse := 0 } else d
theorem start_any (w : World) (b m : Nat) (d : Dk) (h : DAt w b m d) (ok : Fit d) :
    Calls Try.prog 27 #[.pointer (some ⟨b, 0, none⟩)] w fun e w' => e = .returned (.tuple #[]) ∧ DAt w' b m (startD d) ∧ But [b, m] w w' := by
  cases hd : d.down
  · have hdn : w.cell? ⟨b, 1, none⟩ = some (.bool false) := by rw [← hd]; exact h.c1
    have e : startD d = d := by simp [startD, hd]
    rw [e]
    have HD := Lib.hid h
    clear h e
    go_enter Try.func27, Try.ntmps27
    go_wp2_with fail
    refine (off_up _ b hdn).mono ?_
    rintro e w1 ⟨rfl, rfl⟩
    go_wp2_with fail
    go_end0
    exact ⟨rfl, HD.out, But.refl _ _⟩
  · have hdn : w.cell? ⟨b, 1, none⟩ = some (.bool true) := by rw [← hd]; exact h.c1
    have e : startD d = { d with fs := crashF [] d.fs, down := false, fuse := 0 } := by simp [startD, hd]
    rw [e]
    have HD := Lib.hid h
    clear h e
    go_enter Try.func27, Try.ntmps27
    go_wp2_with fail
    refine (off_down _ b hdn).mono ?_
    rintro e w1 ⟨rfl, rfl⟩
    go_wp2_with fail
    refine (crash_any _ b m d none 0 0 [] HD.out ok rfl (by omega) (by omega)).mono ?_
    rintro e w1 ⟨rfl, hd1, hb1⟩
    have c1 := hd1.c1
    have f1 := hd1.f1
    have H1 := Lib.hid hd1
    have HB := Lib.hid hb1
    clear hd1 hb1
    go_wp2_with fail
    go_end0
    exact ⟨rfl, H1.out.set1 false, HB.out.setCell (.inl (by simp)) _⟩

theorem create_nil (w : World) (s : ByteArray) :
    Calls Try.prog 11 #[.pointer none, .string s] w fun e w' => e = .returned (.int .i64 2) ∧ Below w.heap.size w w' := by
  go_enter Try.func11, Try.ntmps11
  go_wp2_with fail
  refine (off_nil _).mono ?_
  rintro e w1 ⟨rfl, rfl⟩
  go_wp2_with fail
  go_ret
  exact ⟨rfl, bl2 _ _ _⟩

theorem append_nil (w : World) (s x : ByteArray) :
    Calls Try.prog 12 #[.pointer none, .string s, .string x] w fun e w' => e = .returned (.int .i64 2) ∧ Below w.heap.size w w' := by
  go_enter Try.func12, Try.ntmps12
  go_wp2_with fail
  refine (off_nil _).mono ?_
  rintro e w1 ⟨rfl, rfl⟩
  go_wp2_with fail
  go_ret
  exact ⟨rfl, bl3 _ _ _ _⟩

theorem remove_nil (w : World) (s : ByteArray) :
    Calls Try.prog 14 #[.pointer none, .string s] w fun e w' => e = .returned (.int .i64 2) ∧ Below w.heap.size w w' := by
  go_enter Try.func14, Try.ntmps14
  go_wp2_with fail
  refine (off_nil _).mono ?_
  rintro e w1 ⟨rfl, rfl⟩
  go_wp2_with fail
  go_ret
  exact ⟨rfl, bl2 _ _ _⟩

theorem sync_nil (w : World) (s : ByteArray) :
    Calls Try.prog 20 #[.pointer none, .string s] w fun e w' => e = .returned (.int .i64 2) ∧ Below w.heap.size w w' := by
  go_enter Try.func20, Try.ntmps20
  go_wp2_with fail
  refine (off_nil _).mono ?_
  rintro e w1 ⟨rfl, rfl⟩
  go_wp2_with fail
  go_ret
  exact ⟨rfl, bl2 _ _ _⟩

theorem rename_nil (w : World) (s x : ByteArray) :
    Calls Try.prog 22 #[.pointer none, .string s, .string x] w fun e w' => e = .returned (.int .i64 2) ∧ Below w.heap.size w w' := by
  go_enter Try.func22, Try.ntmps22
  go_wp2_with fail
  refine (off_nil _).mono ?_
  rintro e w1 ⟨rfl, rfl⟩
  go_wp2_with fail
  go_ret
  exact ⟨rfl, bl3 _ _ _ _⟩

theorem used_nil (w : World) :
    Calls Try.prog 13 #[.pointer none] w fun e w' => e = .returned (.int .i64 0) ∧ w = w' := by
  go_enter Try.func13, Try.ntmps13
  go_wp2_with fail
  go_ret
  exact ⟨rfl, rfl⟩

theorem down_nil (w : World) :
    Calls Try.prog 29 #[.pointer none] w fun e w' => e = .returned (.bool true) ∧ w = w' := by
  go_enter Try.func29, Try.ntmps29
  go_wp2_with fail
  go_ret
  exact ⟨rfl, rfl⟩

theorem fuse_nil (w : World) (n : Int) :
    Calls Try.prog 24 #[.pointer none, .int .i64 n] w fun e w' => e = .returned (.tuple #[]) ∧ w = w' := by
  go_enter Try.func24, Try.ntmps24
  go_wp2_with fail
  go_end0
  exact ⟨rfl, rfl⟩

theorem room_nil (w : World) (n : Int) :
    Calls Try.prog 16 #[.pointer none, .int .i64 n] w fun e w' => e = .returned (.tuple #[]) ∧ w = w' := by
  go_enter Try.func16, Try.ntmps16
  go_wp2_with fail
  go_end0
  exact ⟨rfl, rfl⟩

theorem crash_nil (w : World) (v : Value) :
    Calls Try.prog 26 #[.pointer none, v] w fun e w' => e = .returned (.tuple #[]) ∧ w = w' := by
  go_enter Try.func26, Try.ntmps26
  go_wp2_with fail
  exact ⟨rfl, _, results_none (by rfl) _ _ _, rfl, rfl⟩

theorem twin_nil (w : World) :
    Calls Try.prog 25 #[.pointer none] w fun e w' => e = .returned (.pointer none) ∧ w = w' := by
  go_enter Try.func25, Try.ntmps25
  go_wp2_with fail
  go_ret
  exact ⟨rfl, rfl⟩

theorem start_nil (w : World) :
    Calls Try.prog 27 #[.pointer none] w fun e w' => e = .returned (.tuple #[]) ∧ w = w' := by
  go_enter Try.func27, Try.ntmps27
  go_wp2_with fail
  refine (off_nil _).mono ?_
  rintro e w1 ⟨rfl, rfl⟩
  go_wp2_with fail
  go_end0
  exact ⟨rfl, rfl⟩
end Go.Proofs.Ytmhflhbogkkblaa
