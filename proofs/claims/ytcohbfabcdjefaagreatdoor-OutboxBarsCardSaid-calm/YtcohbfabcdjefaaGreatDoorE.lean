/-
  'change', with each of the functions that it is given.
-/
import Derived.Test.YtcohbfabcdjefaaGreatDoorD
namespace Go.Proofs.YtcohbfabcdjefaaGreatDoor
open Go.RowKit Go.Maps

theorem DAt.set2 {w : World} {b m : Nat} {d : Dk} (h : DAt w b m d) (x : Int) : DAt (w.setCell ⟨b, 2, none⟩ (.int .i64 x)) b m { d with fuse := x } := by
  have e : ∀ j, j ≠ 2 → (w.setCell ⟨b, 2, none⟩ (.int .i64 x)).cell? ⟨b, j, none⟩ = w.cell? ⟨b, j, none⟩ := fun j hj => World.cell?_setCell_other _ _ _ _ (fun e => hj (by injection e with _ e2 _; exact e2.symm))
  refine ⟨(e 0 (by decide)).trans h.c0, (e 1 (by decide)).trans h.c1, World.cell?_setCell_same _ _ _ h.c2, (e 3 (by decide)).trans h.c3, ?_, ?_, ?_, ?_, by simpa using h.lt, h.map.setCell _ _⟩
  all_goals rw [World.frozen?_setCell]
  · exact h.f0
  · exact h.f1
  · exact h.f2
  · exact h.f3
theorem DAt.set1 {w : World} {b m : Nat} {d : Dk} (h : DAt w b m d) (x : Bool) : DAt (w.setCell ⟨b, 1, none⟩ (.bool x)) b m { d with down := x } := by
  have e : ∀ j, j ≠ 1 → (w.setCell ⟨b, 1, none⟩ (.bool x)).cell? ⟨b, j, none⟩ = w.cell? ⟨b, j, none⟩ := fun j hj => World.cell?_setCell_other _ _ _ _ (fun e => hj (by injection e with _ e2 _; exact e2.symm))
  refine ⟨(e 0 (by decide)).trans h.c0, World.cell?_setCell_same _ _ _ h.c1, (e 2 (by decide)).trans h.c2, (e 3 (by decide)).trans h.c3, ?_, ?_, ?_, ?_, by simpa using h.lt, h.map.setCell _ _⟩
  all_goals rw [World.frozen?_setCell]
  · exact h.f0
  · exact h.f1
  · exact h.f2
  · exact h.f3
theorem DAt.set3 {w : World} {b m : Nat} {d : Dk} (h : DAt w b m d) (x : Int) : DAt (w.setCell ⟨b, 3, none⟩ (.int .i64 x)) b m { d with room := x } := by
  have e : ∀ j, j ≠ 3 → (w.setCell ⟨b, 3, none⟩ (.int .i64 x)).cell? ⟨b, j, none⟩ = w.cell? ⟨b, j, none⟩ := fun j hj => World.cell?_setCell_other _ _ _ _ (fun e => hj (by injection e with _ e2 _; exact e2.symm))
  refine ⟨(e 0 (by decide)).trans h.c0, (e 1 (by decide)).trans h.c1, (e 2 (by decide)).trans h.c2, World.cell?_setCell_same _ _ _ h.c3, ?_, ?_, ?_, ?_, by simpa using h.lt, h.map.setCell _ _⟩
  all_goals rw [World.frozen?_setCell]
  · exact h.f0
  · exact h.f1
  · exact h.f2
  · exact h.f3

/-- what 'change' makes of a disk, and its answer -/
def chg (d : Dk) (G : Fs → Fs) (behind : Bool) : Dk :=
  if d.fuse = 1 then { d with fs := if behind then G d.fs else d.fs, down := true, fuse := 0 } else { d with fs := G d.fs, fuse := if 0 < d.fuse then d.fuse - 1 else d.fuse }
def chgE (d : Dk) : Int := if d.fuse = 1 then 7 else 0

theorem change_Create (w : World) (b m p q : Nat) (d : Dk) (h : DAt w b m d) (G : Fs → Fs) (C : World → Prop) (hC : C w) (hset : ∀ (W : World) (o : Nat) (v : Value), C W → C (W.setCell ⟨b, o, none⟩ v))
    (hc : ∀ (W : World) (d' : Dk), DAt W b m d' → d'.fs = d.fs → C W → Calls Tryz.prog 206 #[.pointer (some ⟨p, 0, none⟩), .pointer (some ⟨q, 0, none⟩)] W fun e w' => e = .returned (.tuple #[]) ∧ DAt w' b m { d' with fs := G d'.fs } ∧ But [m] W w')
    (hlo : 0 ≤ d.fuse) (hhi : d.fuse ≤ 9223372036854775807) :
    Calls Tryz.prog 139 #[.pointer (some ⟨b, 0, none⟩), .func (.func 206) #[] #[.pointer (some ⟨p, 0, none⟩), .pointer (some ⟨q, 0, none⟩)], .bool false] w fun e w' => e = .returned (.int .i64 (chgE d)) ∧ DAt w' b m (chg d G false) ∧ But [b, m] w w' := by
  have HC := Lib.hid hC
  have HS := Lib.hid hset
  have HF := Lib.hid hc
  have HD := Lib.hid h
  have c2 := h.c2
  have c1 := h.c1
  have f1 := h.f1
  have f2 := h.f2
  clear hC hset hc
  by_cases hf : d.fuse = 1
  · have hd : chgE d = 7 ∧ chg d G false = { d with fs := d.fs, down := true, fuse := 0 } := by simp [chgE, chg, hf]
    rw [hd.1, hd.2]
    clear hd h hlo hhi
    rw [hf] at c2
    clear hf
    go_enter Tryz.func139, Tryz.ntmps139
    go_wp2_with fail
    go_ret
    exact ⟨rfl, (HD.out.set2 0).set1 true, ((But.refl [b, m] w).setCell (.inl (by simp)) _).setCell (.inl (by simp)) _⟩
  · by_cases hp : 0 < d.fuse
    · have hd : chgE d = 0 ∧ chg d G false = { d with fs := G d.fs, fuse := d.fuse - 1 } := by simp [chgE, chg, hf, hp]
      rw [hd.1, hd.2]
      have hf' : (d.fuse == 1) = false := by simpa using hf
      clear hd h hf
      go_enter Tryz.func139, Tryz.ntmps139
      go_wp2_with fail
      refine (HF.out _ _ (HD.out.set2 (d.fuse - 1)) rfl (HS.out _ _ _ HC.out)).mono ?_
      rintro e w1 ⟨rfl, hd1, hb1⟩
      have HR := Lib.hid (show DAt w1 b m _ ∧ But [b, m] w w1 from ⟨hd1, ((But.refl [b, m] w).setCell (.inl (by simp)) _).trans (hb1.wider (by simp))⟩)
      clear hd1 hb1
      go_wp2_with fail
      go_ret
      exact ⟨rfl, HR.out⟩
    · have hd : chgE d = 0 ∧ chg d G false = { d with fs := G d.fs } := by simp [chgE, chg, hf, hp]
      rw [hd.1, hd.2]
      have hf' : (d.fuse == 1) = false := by simpa using hf
      clear hd h hf
      go_enter Tryz.func139, Tryz.ntmps139
      go_wp2_with fail
      refine (HF.out _ _ HD.out rfl HC.out).mono ?_
      rintro e w1 ⟨rfl, hd1, hb1⟩
      have HR := Lib.hid (show DAt w1 b m _ ∧ But [b, m] w w1 from ⟨hd1, hb1.wider (by simp)⟩)
      clear hd1 hb1
      go_wp2_with fail
      go_ret
      exact ⟨rfl, HR.out⟩

theorem change_Append (w : World) (b m t r p q : Nat) (d : Dk) (h : DAt w b m d) (G : Fs → Fs) (C : World → Prop) (hC : C w) (hset : ∀ (W : World) (o : Nat) (v : Value), C W → C (W.setCell ⟨b, o, none⟩ v))
    (hc : ∀ (W : World) (d' : Dk), DAt W b m d' → d'.fs = d.fs → C W → Calls Tryz.prog 215 #[.pointer (some ⟨t, 0, none⟩), .pointer (some ⟨r, 0, none⟩), .pointer (some ⟨p, 0, none⟩), .pointer (some ⟨q, 0, none⟩)] W fun e w' => e = .returned (.tuple #[]) ∧ DAt w' b m { d' with fs := G d'.fs } ∧ But [m] W w')
    (hlo : 0 ≤ d.fuse) (hhi : d.fuse ≤ 9223372036854775807) :
    Calls Tryz.prog 139 #[.pointer (some ⟨b, 0, none⟩), .func (.func 215) #[] #[.pointer (some ⟨t, 0, none⟩), .pointer (some ⟨r, 0, none⟩), .pointer (some ⟨p, 0, none⟩), .pointer (some ⟨q, 0, none⟩)], .bool true] w fun e w' => e = .returned (.int .i64 (chgE d)) ∧ DAt w' b m (chg d G true) ∧ But [b, m] w w' := by
  have HC := Lib.hid hC
  have HS := Lib.hid hset
  have HF := Lib.hid hc
  have HD := Lib.hid h
  have c2 := h.c2
  have c1 := h.c1
  have f1 := h.f1
  have f2 := h.f2
  clear hC hset hc
  by_cases hf : d.fuse = 1
  · have hd : chgE d = 7 ∧ chg d G true = { d with fs := G d.fs, down := true, fuse := 0 } := by simp [chgE, chg, hf]
    rw [hd.1, hd.2]
    clear hd h hlo hhi
    rw [hf] at c2
    clear hf
    go_enter Tryz.func139, Tryz.ntmps139
    go_wp2_with fail
    refine (HF.out _ _ ((HD.out.set2 0).set1 true) rfl (HS.out _ _ _ (HS.out _ _ _ HC.out))).mono ?_
    rintro e w1 ⟨rfl, hd1, hb1⟩
    have HR := Lib.hid (show DAt w1 b m _ ∧ But [b, m] w w1 from ⟨hd1, (((But.refl [b, m] w).setCell (.inl (by simp)) _).setCell (.inl (by simp)) _).trans (hb1.wider (by simp))⟩)
    clear hd1 hb1
    go_wp2_with fail
    go_ret
    exact ⟨rfl, HR.out⟩
  · by_cases hp : 0 < d.fuse
    · have hd : chgE d = 0 ∧ chg d G true = { d with fs := G d.fs, fuse := d.fuse - 1 } := by simp [chgE, chg, hf, hp]
      rw [hd.1, hd.2]
      have hf' : (d.fuse == 1) = false := by simpa using hf
      clear hd h hf
      go_enter Tryz.func139, Tryz.ntmps139
      go_wp2_with fail
      refine (HF.out _ _ (HD.out.set2 (d.fuse - 1)) rfl (HS.out _ _ _ HC.out)).mono ?_
      rintro e w1 ⟨rfl, hd1, hb1⟩
      have HR := Lib.hid (show DAt w1 b m _ ∧ But [b, m] w w1 from ⟨hd1, ((But.refl [b, m] w).setCell (.inl (by simp)) _).trans (hb1.wider (by simp))⟩)
      clear hd1 hb1
      go_wp2_with fail
      go_ret
      exact ⟨rfl, HR.out⟩
    · have hd : chgE d = 0 ∧ chg d G true = { d with fs := G d.fs } := by simp [chgE, chg, hf, hp]
      rw [hd.1, hd.2]
      have hf' : (d.fuse == 1) = false := by simpa using hf
      clear hd h hf
      go_enter Tryz.func139, Tryz.ntmps139
      go_wp2_with fail
      refine (HF.out _ _ HD.out rfl HC.out).mono ?_
      rintro e w1 ⟨rfl, hd1, hb1⟩
      have HR := Lib.hid (show DAt w1 b m _ ∧ But [b, m] w w1 from ⟨hd1, hb1.wider (by simp)⟩)
      clear hd1 hb1
      go_wp2_with fail
      go_ret
      exact ⟨rfl, HR.out⟩

theorem change_Remove (w : World) (b m p q : Nat) (d : Dk) (h : DAt w b m d) (G : Fs → Fs) (C : World → Prop) (hC : C w) (hset : ∀ (W : World) (o : Nat) (v : Value), C W → C (W.setCell ⟨b, o, none⟩ v))
    (hc : ∀ (W : World) (d' : Dk), DAt W b m d' → d'.fs = d.fs → C W → Calls Tryz.prog 140 #[.pointer (some ⟨p, 0, none⟩), .pointer (some ⟨q, 0, none⟩)] W fun e w' => e = .returned (.tuple #[]) ∧ DAt w' b m { d' with fs := G d'.fs } ∧ But [m] W w')
    (hlo : 0 ≤ d.fuse) (hhi : d.fuse ≤ 9223372036854775807) :
    Calls Tryz.prog 139 #[.pointer (some ⟨b, 0, none⟩), .func (.func 140) #[] #[.pointer (some ⟨p, 0, none⟩), .pointer (some ⟨q, 0, none⟩)], .bool false] w fun e w' => e = .returned (.int .i64 (chgE d)) ∧ DAt w' b m (chg d G false) ∧ But [b, m] w w' := by
  have HC := Lib.hid hC
  have HS := Lib.hid hset
  have HF := Lib.hid hc
  have HD := Lib.hid h
  have c2 := h.c2
  have c1 := h.c1
  have f1 := h.f1
  have f2 := h.f2
  clear hC hset hc
  by_cases hf : d.fuse = 1
  · have hd : chgE d = 7 ∧ chg d G false = { d with fs := d.fs, down := true, fuse := 0 } := by simp [chgE, chg, hf]
    rw [hd.1, hd.2]
    clear hd h hlo hhi
    rw [hf] at c2
    clear hf
    go_enter Tryz.func139, Tryz.ntmps139
    go_wp2_with fail
    go_ret
    exact ⟨rfl, (HD.out.set2 0).set1 true, ((But.refl [b, m] w).setCell (.inl (by simp)) _).setCell (.inl (by simp)) _⟩
  · by_cases hp : 0 < d.fuse
    · have hd : chgE d = 0 ∧ chg d G false = { d with fs := G d.fs, fuse := d.fuse - 1 } := by simp [chgE, chg, hf, hp]
      rw [hd.1, hd.2]
      have hf' : (d.fuse == 1) = false := by simpa using hf
      clear hd h hf
      go_enter Tryz.func139, Tryz.ntmps139
      go_wp2_with fail
      refine (HF.out _ _ (HD.out.set2 (d.fuse - 1)) rfl (HS.out _ _ _ HC.out)).mono ?_
      rintro e w1 ⟨rfl, hd1, hb1⟩
      have HR := Lib.hid (show DAt w1 b m _ ∧ But [b, m] w w1 from ⟨hd1, ((But.refl [b, m] w).setCell (.inl (by simp)) _).trans (hb1.wider (by simp))⟩)
      clear hd1 hb1
      go_wp2_with fail
      go_ret
      exact ⟨rfl, HR.out⟩
    · have hd : chgE d = 0 ∧ chg d G false = { d with fs := G d.fs } := by simp [chgE, chg, hf, hp]
      rw [hd.1, hd.2]
      have hf' : (d.fuse == 1) = false := by simpa using hf
      clear hd h hf
      go_enter Tryz.func139, Tryz.ntmps139
      go_wp2_with fail
      refine (HF.out _ _ HD.out rfl HC.out).mono ?_
      rintro e w1 ⟨rfl, hd1, hb1⟩
      have HR := Lib.hid (show DAt w1 b m _ ∧ But [b, m] w w1 from ⟨hd1, hb1.wider (by simp)⟩)
      clear hd1 hb1
      go_wp2_with fail
      go_ret
      exact ⟨rfl, HR.out⟩

theorem change_Sync (w : World) (b m t p q : Nat) (d : Dk) (h : DAt w b m d) (G : Fs → Fs) (C : World → Prop) (hC : C w) (hset : ∀ (W : World) (o : Nat) (v : Value), C W → C (W.setCell ⟨b, o, none⟩ v))
    (hc : ∀ (W : World) (d' : Dk), DAt W b m d' → d'.fs = d.fs → C W → Calls Tryz.prog 207 #[.pointer (some ⟨t, 0, none⟩), .pointer (some ⟨p, 0, none⟩), .pointer (some ⟨q, 0, none⟩)] W fun e w' => e = .returned (.tuple #[]) ∧ DAt w' b m { d' with fs := G d'.fs } ∧ But [m] W w')
    (hlo : 0 ≤ d.fuse) (hhi : d.fuse ≤ 9223372036854775807) :
    Calls Tryz.prog 139 #[.pointer (some ⟨b, 0, none⟩), .func (.func 207) #[] #[.pointer (some ⟨t, 0, none⟩), .pointer (some ⟨p, 0, none⟩), .pointer (some ⟨q, 0, none⟩)], .bool false] w fun e w' => e = .returned (.int .i64 (chgE d)) ∧ DAt w' b m (chg d G false) ∧ But [b, m] w w' := by
  have HC := Lib.hid hC
  have HS := Lib.hid hset
  have HF := Lib.hid hc
  have HD := Lib.hid h
  have c2 := h.c2
  have c1 := h.c1
  have f1 := h.f1
  have f2 := h.f2
  clear hC hset hc
  by_cases hf : d.fuse = 1
  · have hd : chgE d = 7 ∧ chg d G false = { d with fs := d.fs, down := true, fuse := 0 } := by simp [chgE, chg, hf]
    rw [hd.1, hd.2]
    clear hd h hlo hhi
    rw [hf] at c2
    clear hf
    go_enter Tryz.func139, Tryz.ntmps139
    go_wp2_with fail
    go_ret
    exact ⟨rfl, (HD.out.set2 0).set1 true, ((But.refl [b, m] w).setCell (.inl (by simp)) _).setCell (.inl (by simp)) _⟩
  · by_cases hp : 0 < d.fuse
    · have hd : chgE d = 0 ∧ chg d G false = { d with fs := G d.fs, fuse := d.fuse - 1 } := by simp [chgE, chg, hf, hp]
      rw [hd.1, hd.2]
      have hf' : (d.fuse == 1) = false := by simpa using hf
      clear hd h hf
      go_enter Tryz.func139, Tryz.ntmps139
      go_wp2_with fail
      refine (HF.out _ _ (HD.out.set2 (d.fuse - 1)) rfl (HS.out _ _ _ HC.out)).mono ?_
      rintro e w1 ⟨rfl, hd1, hb1⟩
      have HR := Lib.hid (show DAt w1 b m _ ∧ But [b, m] w w1 from ⟨hd1, ((But.refl [b, m] w).setCell (.inl (by simp)) _).trans (hb1.wider (by simp))⟩)
      clear hd1 hb1
      go_wp2_with fail
      go_ret
      exact ⟨rfl, HR.out⟩
    · have hd : chgE d = 0 ∧ chg d G false = { d with fs := G d.fs } := by simp [chgE, chg, hf, hp]
      rw [hd.1, hd.2]
      have hf' : (d.fuse == 1) = false := by simpa using hf
      clear hd h hf
      go_enter Tryz.func139, Tryz.ntmps139
      go_wp2_with fail
      refine (HF.out _ _ HD.out rfl HC.out).mono ?_
      rintro e w1 ⟨rfl, hd1, hb1⟩
      have HR := Lib.hid (show DAt w1 b m _ ∧ But [b, m] w w1 from ⟨hd1, hb1.wider (by simp)⟩)
      clear hd1 hb1
      go_wp2_with fail
      go_ret
      exact ⟨rfl, HR.out⟩

theorem change_Rename (w : World) (b m p q t r : Nat) (d : Dk) (h : DAt w b m d) (G : Fs → Fs) (C : World → Prop) (hC : C w) (hset : ∀ (W : World) (o : Nat) (v : Value), C W → C (W.setCell ⟨b, o, none⟩ v))
    (hc : ∀ (W : World) (d' : Dk), DAt W b m d' → d'.fs = d.fs → C W → Calls Tryz.prog 294 #[.pointer (some ⟨p, 0, none⟩), .pointer (some ⟨q, 0, none⟩), .pointer (some ⟨t, 0, none⟩), .pointer (some ⟨r, 0, none⟩)] W fun e w' => e = .returned (.tuple #[]) ∧ DAt w' b m { d' with fs := G d'.fs } ∧ But [m] W w')
    (hlo : 0 ≤ d.fuse) (hhi : d.fuse ≤ 9223372036854775807) :
    Calls Tryz.prog 139 #[.pointer (some ⟨b, 0, none⟩), .func (.func 294) #[] #[.pointer (some ⟨p, 0, none⟩), .pointer (some ⟨q, 0, none⟩), .pointer (some ⟨t, 0, none⟩), .pointer (some ⟨r, 0, none⟩)], .bool false] w fun e w' => e = .returned (.int .i64 (chgE d)) ∧ DAt w' b m (chg d G false) ∧ But [b, m] w w' := by
  have HC := Lib.hid hC
  have HS := Lib.hid hset
  have HF := Lib.hid hc
  have HD := Lib.hid h
  have c2 := h.c2
  have c1 := h.c1
  have f1 := h.f1
  have f2 := h.f2
  clear hC hset hc
  by_cases hf : d.fuse = 1
  · have hd : chgE d = 7 ∧ chg d G false = { d with fs := d.fs, down := true, fuse := 0 } := by simp [chgE, chg, hf]
    rw [hd.1, hd.2]
    clear hd h hlo hhi
    rw [hf] at c2
    clear hf
    go_enter Tryz.func139, Tryz.ntmps139
    go_wp2_with fail
    go_ret
    exact ⟨rfl, (HD.out.set2 0).set1 true, ((But.refl [b, m] w).setCell (.inl (by simp)) _).setCell (.inl (by simp)) _⟩
  · by_cases hp : 0 < d.fuse
    · have hd : chgE d = 0 ∧ chg d G false = { d with fs := G d.fs, fuse := d.fuse - 1 } := by simp [chgE, chg, hf, hp]
      rw [hd.1, hd.2]
      have hf' : (d.fuse == 1) = false := by simpa using hf
      clear hd h hf
      go_enter Tryz.func139, Tryz.ntmps139
      go_wp2_with fail
      refine (HF.out _ _ (HD.out.set2 (d.fuse - 1)) rfl (HS.out _ _ _ HC.out)).mono ?_
      rintro e w1 ⟨rfl, hd1, hb1⟩
      have HR := Lib.hid (show DAt w1 b m _ ∧ But [b, m] w w1 from ⟨hd1, ((But.refl [b, m] w).setCell (.inl (by simp)) _).trans (hb1.wider (by simp))⟩)
      clear hd1 hb1
      go_wp2_with fail
      go_ret
      exact ⟨rfl, HR.out⟩
    · have hd : chgE d = 0 ∧ chg d G false = { d with fs := G d.fs } := by simp [chgE, chg, hf, hp]
      rw [hd.1, hd.2]
      have hf' : (d.fuse == 1) = false := by simpa using hf
      clear hd h hf
      go_enter Tryz.func139, Tryz.ntmps139
      go_wp2_with fail
      refine (HF.out _ _ HD.out rfl HC.out).mono ?_
      rintro e w1 ⟨rfl, hd1, hb1⟩
      have HR := Lib.hid (show DAt w1 b m _ ∧ But [b, m] w w1 from ⟨hd1, hb1.wider (by simp)⟩)
      clear hd1 hb1
      go_wp2_with fail
      go_ret
      exact ⟨rfl, HR.out⟩
end Go.Proofs.YtcohbfabcdjefaaGreatDoor
