/-
  'awake'.
-/
import Derived.Test.YtiiafpbonkcokaaGreatQb
import Derived.Test.YtiiafpbonkcokaaGreatQc
namespace Go.Proofs.YtiiafpbonkcokaaGreat
open Go.RowKit Go.Maps

theorem open_kpt (w : World) (b m : Nat) (d : Dk) (hd : DAt w b m d) (ok : Fit d) (up : d.down = false) (s : St) (hk : Kpt d.fs s) :
    Calls Tryz.prog 12 #[.pointer (some ⟨b, 0, none⟩)] w fun e w' => e = .returned (.tuple #[.pointer (some ⟨w.heap.size, 0, none⟩), .int .i64 0]) ∧ Mn w' w.heap.size b m d s false ∧ Below w.heap.size w w' := by
  rcases hk with ⟨h1, rfl⟩ | ⟨h1, h2⟩
  · exact open_none w b m d hd ok (by simp [readE, up, h1])
  · exact open_text w b m d hd ok s h1 (by simp [readE, up, h2]) (by simp [readS, up, h2])
theorem open_down (w : World) (b m : Nat) (d : Dk) (hd : DAt w b m d) (dn : d.down = true) :
    Calls Tryz.prog 12 #[.pointer (some ⟨b, 0, none⟩)] w fun e w' => e = .returned (.tuple #[.pointer none, .int .i64 7]) ∧ Below w.heap.size w w' :=
  open_bad w b m d hd 7 (by simp [readE, dn]) (by decide) (by decide)
/-- the disk behind Crash, and behind Start -/
def crD (ks : List Int) (d : Dk) : Dk := { d with fs := crashF ks d.fs, down := true, fuse := 0 }
theorem Kpt.start {d : Dk} {s : St} (h : Kpt d.fs s) : Kpt (startD d).fs s := by
  unfold startD
  split
  · exact h.crash []
  · exact h
theorem start_up (d : Dk) : (startD d).down = false := by
  unfold startD
  split
  · rfl
  · rename_i h; simpa using h
theorem crash_none (w0 w : World) (b m : Nat) (d : Dk) (h : Bk w0 w b m d) : Calls Tryz.prog 14 #[.pointer (some ⟨b, 0, none⟩), .slice none 0 0] w fun e w' => e = .returned (.tuple #[]) ∧ Bk w0 w' b m (crD [] d) :=
  h.crash none 0 0 [] rfl (by omega) (by omega) rfl
theorem one_row {w : World} {k : Nat} {T : TypeId} (h : w.heap[k]? = some (.cells #[.int .i64 1, .int .i64 0, .int .i64 2, .string ⟨#[97]⟩, .string ⟨#[99]⟩] T (0, 0))) : FRow (fun _ => True) w (.slice (some ⟨k, 0, none⟩) 1 1) [f1] := by
  refine ⟨⟨some ⟨k, 0, none⟩, 1, rfl, by simp, by omega, (fun e => by cases e), fun _ => ⟨k, 0, rfl, trivial, heap_lt h, fun i hi => ?_⟩⟩, fun f hf => ?_⟩
  · obtain rfl : i = 0 := by simpa using hi
    exact ⟨by simp [World.cell?, h, f1], by simp [World.cell?, h, f1], by simp [World.cell?, h, f1], by simp [World.cell?, h, f1], by simp [World.cell?, h, f1]⟩
  · rw [List.mem_singleton.1 hf]
    exact ⟨by decide, by decide, by decide, by decide⟩
theorem IRow.nil (S : Nat → Prop) (w : World) : IRow S w (.slice none 0 0) [] := ⟨⟨none, 0, rfl, by simp, by omega, fun _ => rfl, fun h => absurd h (by simp)⟩⟩
def ed1 : Ed := ⟨[], [f1], 2, 7⟩
theorem awake_apply : applyS ⟨1, 0, []⟩ ed1 = (0, ⟨2, 7, [f1]⟩) := by
  have h1 : checkB ⟨1, 0, []⟩ = true := by decide
  have h2 : checkB ⟨2, 7, [f1]⟩ = true := by kernel_rfl
  have h3 : addL [] [f1] = some [f1] := by rfl
  have h4 : [f1].mergeSort leN = [f1] := by simp
  simp only [applyS, h1, if_true, ed1, dropL, h3, h4]
  show (if checkB ⟨2, 7, [f1]⟩ = true then _ else _) = _
  rw [if_pos h2]
  rfl
theorem awake_commit : ∃ d', commitS d0 ⟨1, 0, []⟩ false ed1 = ⟨0, d', ⟨2, 7, [f1]⟩, false⟩ ∧ d'.down = false ∧ Kpt d'.fs ⟨2, 7, [f1]⟩ := by
  obtain ⟨h, _⟩ := commit_law ed1 Fit.d0 rfl (by decide) d0_kpt
  generalize commitS d0 ⟨1, 0, []⟩ false ed1 = c at *
  have ha := awake_apply
  cases h with
  | no h => rw [ha] at h; exact absurd rfl h
  | yes h h1 h2 => rw [ha] at h2; exact ⟨_, by rw [ha], h1, h2⟩
  | down h h1 h2 h3 => exact absurd rfl h2
  | full h h1 h2 h3 => exact absurd h2 (by decide)
set_option maxRecDepth 100000 in
set_option maxHeartbeats 4000000 in
theorem awake_any (w : World) : Calls Tryz.prog 15 #[] w fun e w' => e = .returned (.bool true) ∧ Below w.heap.size w w' := by
  obtain ⟨d', hc, hup, hk⟩ := awake_commit
  have HC := Lib.hid hc
  have HK := Lib.hid hk
  clear hc hk
  go_enter Tryz.func15, Tryz.ntmps15
  go_wp2_with fail
  refine (new_any w).mono ?_
  rintro e w1 ⟨rfl, hd1, hb1⟩
  have HD1 := Lib.hid hd1
  have HB1 := Lib.hid hb1
  clear hd1 hb1
  go_wp2_with fail
  refine (open_kpt w1 _ _ d0 HD1.out Fit.d0 rfl ⟨1, 0, []⟩ d0_kpt).mono ?_
  rintro e w2 ⟨rfl, hm2, hb2⟩
  have HM2 := Lib.hid hm2
  have HB2 := Lib.hid (HB1.out.trans (hb2.mono HB1.out.size))
  clear hm2 hb2
  go_wp2_with fail
  refine (one_any w2).mono ?_
  rintro e w3 ⟨rfl, hb3⟩
  have HM3 := Lib.hid (HM2.out.quiet hb3)
  have HB3 := Lib.hid (HB2.out.trans (hb3.mono HB2.out.size))
  clear hb3
  go_wp2_with fail
  refine (commit_any (fun _ => True) (fun _ => True) _ w1.heap.size (w.heap.size + 1) w.heap.size d0 ⟨1, 0, []⟩ (HM3.out.quiet (bl1 _ _)) rfl _ _ ed1 (IRow.nil _ _) (one_row (heap_alloc_new w3 _)) (by simp) (by simp [ed1])).mono ?_
  rw [HC.out]
  rintro e w4 ⟨rfl, hm4, hbt4⟩
  have HM4 := Lib.hid hm4
  have HB4 := Lib.hid (show Below w.heap.size w w4 from HB3.out.trans (((bl1 w3 _).mono HB3.out.size).trans (hbt4.below (by have := HB3.out.size; simp; omega) (by have := HB1.out.size; simp; omega))))
  clear hm4 hbt4
  go_wp2_with fail
  refine (crash_none w4 w4 (w.heap.size + 1) w.heap.size d' ⟨HM4.out.dat, HM4.out.ok, But.refl _ _⟩).mono ?_
  rintro e w5 ⟨rfl, hk5⟩
  have HK5 := Lib.hid hk5
  clear hk5
  go_wp2_with fail
  refine (HK5.out.start rfl).mono ?_
  rintro e w6 ⟨rfl, hk6⟩
  have HK6 := Lib.hid hk6
  have HKP := Lib.hid (Kpt.start (d := crD [] d') (HK.out.crash []))
  have HUP := Lib.hid (start_up (crD [] d'))
  have HB6 := Lib.hid (show Below w.heap.size w w6 from HB4.out.trans (hk6.but.below HB4.out.size (by simp)))
  clear hk6
  go_wp2_with fail
  refine (open_kpt w6 _ _ _ HK6.out.dat HK6.out.ok HUP.out _ HKP.out).mono ?_
  rintro e w7 ⟨rfl, hm7, hb7⟩
  have HM7 := Lib.hid hm7
  have HB7 := Lib.hid (HB6.out.trans (hb7.mono HB6.out.size))
  clear hm7 hb7
  go_wp2_with fail
  refine (state_any w7 _ _ _ _ _ _ HM7.out (by simp)).mono ?_
  rintro e w8 ⟨v8, rfl, hr8, hb8⟩
  have HR8 := Lib.hid hr8
  have HB8 := Lib.hid (HB7.out.trans (hb8.mono HB7.out.size))
  clear hr8 hb8
  go_wp2_with fail
  refine (one_any w8).mono ?_
  rintro e w9 ⟨rfl, hb9⟩
  have HB9 := Lib.hid (HB8.out.trans (hb9.mono HB8.out.size))
  have HF9 := Lib.hid ((FRow.own HR8.out (fun f hf => by rw [List.mem_singleton.1 hf]; exact ⟨by decide, by decide, by decide, by decide⟩)).below hb9)
  clear hb9
  go_wp2_with fail
  refine (lsame_any _ _ _ ⟨2, 7, [f1]⟩ ⟨2, 7, [f1]⟩ _ _ (HF9.out.below (bl1 _ _)) (one_row (heap_alloc_new w9 _)) (by simp)).mono ?_
  rintro e w10 ⟨rfl, hb10⟩
  have HB10 := Lib.hid (HB9.out.trans (((bl1 w9 _).trans (hb10.mono (by simp))).mono HB9.out.size))
  rw [show stEq ⟨2, 7, [f1]⟩ ⟨2, 7, [f1]⟩ = true by kernel_rfl]
  go_wp2_with fail
  go_ret
  exact ⟨rfl, HB10.out⟩
end Go.Proofs.YtiiafpbonkcokaaGreat
