/-
  The manifest: 'Open', 'State'.
-/
import Derived.Test.YtiiafpbonkcokaaGreatMm
namespace Go.Proofs.YtiiafpbonkcokaaGreat
open Go.RowKit Go.Maps

/-- at x there is a manifest: its state is s; its disk, at b, is d -/
structure Mn (w : World) (x b m : Nat) (d : Dk) (s : St) (dead : Bool) : Prop where
  dat : DAt w b m d
  ok : Fit d
  xb : x ≠ b
  xm : x ≠ m
  blk : ∃ v, w.heap[x]? = some (.cells #[.pointer (some ⟨b, 0, none⟩), .int .i64 s.next, .int .i64 s.log, v, .bool dead] 50 (0, 0)) ∧ FRow (fun k => k ≠ b ∧ k ≠ m ∧ k ≠ x) w v s.fs
theorem Mn.lt {w : World} {x b m : Nat} {d : Dk} {s : St} {dead : Bool} (h : Mn w x b m d s dead) : x < w.heap.size := by obtain ⟨v, h1, _⟩ := h.blk; exact heap_lt h1
theorem Mn.quiet {w w' : World} {x b m : Nat} {d : Dk} {s : St} {dead : Bool} (h : Mn w x b m d s dead) (hb : Below w.heap.size w w') : Mn w' x b m d s dead := by
  obtain ⟨v, h1, h2⟩ := h.blk
  exact ⟨h.dat.below hb, h.ok, h.xb, h.xm, v, (hb.block x (heap_lt h1)).trans h1, h2.below hb⟩
/-- the disk has turned, the manifest has not -/
theorem Mn.disk {w w' : World} {x b m : Nat} {d d' : Dk} {s : St} {dead : Bool} (h : Mn w x b m d s dead) (hk : Bk w w' b m d') : Mn w' x b m d' s dead := by
  obtain ⟨v, h1, h2⟩ := h.blk
  exact ⟨hk.dat, hk.ok, h.xb, h.xm, v, (hk.but.block x (heap_lt h1) (by simp [h.xb, h.xm])).trans h1, h2.but hk.but (fun k hk _ => by simp [hk.1, hk.2.1]) (fun _ h _ => h)⟩

theorem open_nil (w : World) : Calls Tryz.prog 12 #[.pointer none] w fun e w' => e = .returned (.tuple #[.pointer none, .int .i64 2]) ∧ w = w' := by
  go_enter Tryz.func12, Tryz.ntmps12
  go_wp2_with fail
  exact bodyPost_ret (v := .tuple #[.pointer none, .int .i64 2]) (by simp [results, Tryz.results12, go_sem]) rfl ⟨rfl, rfl⟩
theorem open_bad (w : World) (b m : Nat) (d : Dk) (hd : DAt w b m d) (E : Int) (hE : readE d kp = E) (h0 : E ≠ 0) (h4 : E ≠ 4) : Calls Tryz.prog 12 #[.pointer (some ⟨b, 0, none⟩)] w fun e w' => e = .returned (.tuple #[.pointer none, .int .i64 E]) ∧ Below w.heap.size w w' := by
  have e0 : (E == 0) = false := by simpa using h0
  have e4 : (E == 4) = false := by simpa using h4
  have HD := Lib.hid hd
  have HE := Lib.hid hE
  clear hd hE h0 h4
  go_enter Tryz.func12, Tryz.ntmps12
  go_wp2_with fail
  refine (read_any _ b m d keptB (HD.out.below (bl1 _ _)) kept_len).mono ?_
  rintro e w1 ⟨rfl, hb1⟩
  rw [HE.out]
  have HB := Lib.hid ((bl1 _ _).trans (hb1.mono (by simp)))
  clear hb1
  go_wp2_with fail
  exact bodyPost_ret (v := .tuple #[.pointer none, .int .i64 E]) (by simp [results, Tryz.results12, go_sem]) rfl ⟨rfl, HB.out⟩
theorem open_none (w : World) (b m : Nat) (d : Dk) (hd : DAt w b m d) (ok : Fit d) (hE : readE d kp = 4) : Calls Tryz.prog 12 #[.pointer (some ⟨b, 0, none⟩)] w fun e w' => e = .returned (.tuple #[.pointer (some ⟨w.heap.size, 0, none⟩), .int .i64 0]) ∧ Mn w' w.heap.size b m d ⟨1, 0, []⟩ false ∧ Below w.heap.size w w' := by
  have HD := Lib.hid hd
  have HE := Lib.hid hE
  have HO := Lib.hid ok
  clear hd hE ok
  go_enter Tryz.func12, Tryz.ntmps12
  go_wp2_with fail
  refine (read_any _ b m d keptB (HD.out.below (bl1 _ _)) kept_len).mono ?_
  rintro e w1 ⟨rfl, hb1⟩
  rw [HE.out]
  have HB := Lib.hid hb1
  clear hb1
  go_wp2_with fail
  have hbl : b < w.heap.size := World.block_lt_of_cell? w _ HD.out.c0
  have hml : m < w.heap.size := HD.out.map.lt
  refine bodyPost_ret (v := .tuple #[.pointer (some ⟨w.heap.size, 0, none⟩), .int .i64 0]) (by simp [results, Tryz.results12, go_sem]) rfl ⟨rfl, ⟨(HD.out.below (bl1 _ _)).below HB.out, HO.out, by omega, by omega, .slice none 0 0, ?_, FRow.nil _ _⟩, (bl1 _ _).trans (HB.out.mono (by simp))⟩
  exact (HB.out.block w.heap.size (by simp)).trans (heap_alloc_new w _)

set_option maxRecDepth 100000 in
set_option maxHeartbeats 2000000 in
theorem open_text (w : World) (b m : Nat) (d : Dk) (hd : DAt w b m d) (ok : Fit d) (s : St) (hck : checkB s = true) (hE : readE d kp = 0) (hS : readS d kp = packB s) : Calls Tryz.prog 12 #[.pointer (some ⟨b, 0, none⟩)] w fun e w' => e = .returned (.tuple #[.pointer (some ⟨w.heap.size, 0, none⟩), .int .i64 0]) ∧ Mn w' w.heap.size b m d s false ∧ Below w.heap.size w w' := by
  have HD := Lib.hid hd
  have HE := Lib.hid hE
  have HS := Lib.hid hS
  have HO := Lib.hid ok
  have HC := Lib.hid hck
  clear hd hE ok hS hck
  go_enter Tryz.func12, Tryz.ntmps12
  go_wp2_with fail
  refine (read_any _ b m d keptB (HD.out.below (bl1 _ _)) kept_len).mono ?_
  rintro e w1 ⟨rfl, hb1⟩
  rw [HE.out]
  generalize htx : readS d kp = text at *
  have HB := Lib.hid hb1
  clear hb1
  go_wp2_with fail
  refine (mread_any w1 s HC.out text (by rw [HS.out])).mono ?_
  rintro e w2 ⟨v, rfl, hrow, hb2⟩
  have hw1 : w.heap.size < w1.heap.size := by have := HB.out.size; simp at this; omega
  have hblk : w2.heap[w.heap.size]? = some (.cells #[.pointer (some ⟨b, 0, none⟩), .int .i64 1, .int .i64 0, .slice none 0 0, .bool false] 50 (0, 0)) :=
    (hb2.block w.heap.size hw1).trans ((HB.out.block w.heap.size (by simp)).trans (heap_alloc_new w _))
  have hwl : w.heap.size < w2.heap.size := heap_lt hblk
  have c0 : w2.cell? ⟨w.heap.size, 0, none⟩ = some (.pointer (some ⟨b, 0, none⟩)) := by simp [World.cell?, hblk]
  have c1 : w2.cell? ⟨w.heap.size, 1, none⟩ = some (.int .i64 1) := by simp [World.cell?, hblk]
  have c2 : w2.cell? ⟨w.heap.size, 2, none⟩ = some (.int .i64 0) := by simp [World.cell?, hblk]
  have c3 : w2.cell? ⟨w.heap.size, 3, none⟩ = some (.slice none 0 0) := by simp [World.cell?, hblk]
  have z1 : w2.frozen? ⟨w.heap.size, 1, none⟩ = false := by simp [World.frozen?, hblk]
  have z2 : w2.frozen? ⟨w.heap.size, 2, none⟩ = false := by simp [World.frozen?, hblk]
  have z3 : w2.frozen? ⟨w.heap.size, 3, none⟩ = false := by simp [World.frozen?, hblk]
  have HR := Lib.hid hrow
  have HB2 := Lib.hid hb2
  have HK := Lib.hid hblk
  obtain ⟨⟨a, c, rfl, q1, q2, q3, q4⟩, qk⟩ := hrow
  have hne := World.new_ne w2 _ c0
  clear hb2 hblk q3 q4 qk
  go_wp2_with fail
  have hbl : b < w.heap.size := World.block_lt_of_cell? w _ HD.out.c0
  have hml : m < w.heap.size := HD.out.map.lt
  have hbut : Below w.heap.size w (((w2.setCell ⟨w.heap.size, 1, none⟩ (.int .i64 s.next)).setCell ⟨w.heap.size, 2, none⟩ (.int .i64 s.log)).setCell ⟨w.heap.size, 3, none⟩ (.slice a s.fs.length c)) :=
    (((((bl1 _ _).trans (HB.out.mono (by simp))).trans (HB2.out.mono (by omega))).setCell (Nat.le_refl _) _).setCell (Nat.le_refl _) _).setCell (Nat.le_refl _) _
  have hoth : ∀ k, k ≠ w.heap.size → (((w2.setCell ⟨w.heap.size, 1, none⟩ (.int .i64 s.next)).setCell ⟨w.heap.size, 2, none⟩ (.int .i64 s.log)).setCell ⟨w.heap.size, 3, none⟩ (.slice a s.fs.length c)).heap[k]? = w2.heap[k]? := fun k hk => by
    rw [Below.heap_setCell _ _ _ _ hk, Below.heap_setCell _ _ _ _ hk, Below.heap_setCell _ _ _ _ hk]
  have hfin := heap_setCell_same _ w.heap.size 3 _ _ (.slice a s.fs.length c) (heap_setCell_same _ w.heap.size 2 _ _ (.int .i64 s.log) (heap_setCell_same _ w.heap.size 1 _ _ (.int .i64 s.next) HK.out))
  refine bodyPost_ret (v := .tuple #[.pointer (some ⟨w.heap.size, 0, none⟩), .int .i64 0]) (by simp [results, Tryz.results12, go_sem]) rfl ⟨rfl, Mn.quiet ⟨HD.out.below hbut, HO.out, by omega, by omega, .slice a s.fs.length c, hfin, ?_⟩ (bl1 _ _), hbut.alloc hbut.size _⟩
  exact HR.out.keep (fun k hk _ => hoth k (by omega)) (by simp [World.setCell]) (fun k hk _ => ⟨by omega, by omega, by omega⟩)

theorem state_nil (w : World) : Calls Tryz.prog 17 #[.pointer none] w fun e w' => e = .returned (stv 0 0 (.slice none 0 0)) ∧ Below w.heap.size w w' := by
  go_enter Tryz.func17, Tryz.ntmps17
  go_wp2_with fail
  refine bodyPost_ret (v := stv 0 0 (.slice none 0 0)) (by simp [results, Tryz.results17, go_sem, stv]) rfl ⟨rfl, bl1 _ _⟩

set_option maxRecDepth 100000 in
set_option maxHeartbeats 2000000 in
theorem state_any (w : World) (x b m : Nat) (d : Dk) (s : St) (dead : Bool) (h : Mn w x b m d s dead) (hL : s.fs.length ≤ 1000000) :
    Calls Tryz.prog 17 #[.pointer (some ⟨x, 0, none⟩)] w fun e w' => ∃ v, e = .returned (stv s.next s.log v) ∧ w'.ownsRow w.heap.size 29 5 v s.fs.length (rcells s.fs) ∧ Below w.heap.size w w' := by
  obtain ⟨v, hblk, hrow⟩ := h.blk
  have hxl := heap_lt hblk
  have c1 : w.cell? ⟨x, 1, none⟩ = some (.int .i64 s.next) := by simp [World.cell?, hblk]
  have c2 : w.cell? ⟨x, 2, none⟩ = some (.int .i64 s.log) := by simp [World.cell?, hblk]
  have c3 : w.cell? ⟨x, 3, none⟩ = some v := by simp [World.cell?, hblk]
  have HR := Lib.hid hrow
  obtain ⟨⟨a, c, rfl, q1, q2, q3, q4⟩, qk⟩ := hrow
  have hne := World.new_ne w _ c1
  clear q3 q4 qk hblk h
  go_enter Tryz.func17, Tryz.ntmps17
  go_wp2_with fail
  refine (clone_any _ _ _ s.fs (HR.out.below (bl2 _ _ _)) hL).mono ?_
  rintro e w1 ⟨u, rfl, hown, hb⟩
  obtain ⟨ua, uc, rfl⟩ := own_slice hown
  have b0 : w1.heap[w.heap.size]? = some (.cells #[.int .i64 0, .int .i64 0, .slice none 0 0] 24 (0, 0)) := by
    rw [hb.block _ (by simp; omega), Below.heap_alloc _ _ _ (by simp)]; exact heap_alloc_new w _
  have b1 : w1.heap[w.heap.size + 1]? = some (.cells #[.int .i64 s.next, .int .i64 s.log, .slice a s.fs.length c] 24 (0, 0)) := by
    have := heap_alloc_new (w.alloc (.cells #[.int .i64 0, .int .i64 0, .slice none 0 0] 24)) (.cells #[.int .i64 s.next, .int .i64 s.log, .slice a s.fs.length c] 24)
    rw [World.size_alloc] at this
    rw [hb.block _ (by simp)]; exact this
  have p0 : w1.cell? ⟨w.heap.size, 0, none⟩ = some (.int .i64 0) := by simp [World.cell?, b0]
  have p1 : w1.cell? ⟨w.heap.size, 1, none⟩ = some (.int .i64 0) := by simp [World.cell?, b0]
  have p2 : w1.cell? ⟨w.heap.size, 2, none⟩ = some (.slice none 0 0) := by simp [World.cell?, b0]
  have z0 : ∀ o, w1.frozen? ⟨w.heap.size, o, none⟩ = false := fun o => by simp [World.frozen?, b0]
  have r0 : w1.cell? ⟨w.heap.size + 1, 0, none⟩ = some (.int .i64 s.next) := by simp [World.cell?, b1]
  have r1 : w1.cell? ⟨w.heap.size + 1, 1, none⟩ = some (.int .i64 s.log) := by simp [World.cell?, b1]
  have r2 : w1.cell? ⟨w.heap.size + 1, 2, none⟩ = some (.slice a s.fs.length c) := by simp [World.cell?, b1]
  have z1 : ∀ o, w1.frozen? ⟨w.heap.size + 1, o, none⟩ = false := fun o => by simp [World.frozen?, b1]
  have hwl : w.heap.size + 1 < w1.heap.size := heap_lt b1
  have HB := Lib.hid ((bl2 w _ _).trans (hb.mono (by simp; omega)))
  have HN0 := Lib.hid (own_type (T' := 24) hown b0 (by decide))
  have HN1 := Lib.hid (own_type (T' := 24) hown b1 (by decide))
  have HOW := Lib.hid hown
  clear hb hown b0 b1
  go_wp2_with fail
  refine bodyPost_ret (v := stv s.next s.log (.slice ua s.fs.length uc)) (by simp [results, Tryz.results17, go_sem, stv, p0, p1, p2]) rfl ⟨_, rfl, ?_, ?_⟩
  · exact ownsRow_setCell_other (ownsRow_setCell_other (ownsRow_setCell_other (ownsRow_setCell_other (own_base HOW.out (by simp; omega)) HN1.out _) HN0.out _) HN0.out _) HN0.out _
  · exact (((HB.out.setCell (by show w.heap.size ≤ w.heap.size + 1; omega) _).setCell (Nat.le_refl _) _).setCell (Nat.le_refl _) _).setCell (Nat.le_refl _) _
end Go.Proofs.YtiiafpbonkcokaaGreat
