/-
  'Commit'.
-/
import Derived.Test.YtiiafpbonkcokaaGreatMn
import Derived.Deep.DeepCutAuto
namespace Go.Proofs.YtiiafpbonkcokaaGreat
open Go.RowKit Go.Maps

theorem commit_nil (w : World) (vd va : Value) (n l : Int) : Calls Tryz.prog 16 #[.pointer none, edv vd va n l] w fun e w' => e = .returned (.int .i64 2) ∧ Below w.heap.size w w' := by
  unfold edv
  go_enter Tryz.func16, Tryz.ntmps16
  go_wp2_with fail
  go_ret
  exact ⟨rfl, bl1 _ _⟩
/-- what Commit does: its answer, the disk, the state, dead -/
structure Cm where
  e : Int
  d : Dk
  s : St
  dead : Bool
def commitS (d : Dk) (s : St) (dead : Bool) (ed : Ed) : Cm :=
  if dead || d.down then ⟨7, d, s, true⟩
  else if (applyS s ed).1 ≠ 0 then ⟨(applyS s ed).1, d, s, false⟩
  else if (saveS (packB (applyS s ed).2) d).1 ≠ 0 then ⟨(saveS (packB (applyS s ed).2) d).1, (saveS (packB (applyS s ed).2) d).2, s, (saveS (packB (applyS s ed).2) d).1 == 7⟩
  else ⟨0, (saveS (packB (applyS s ed).2) d).2, (applyS s ed).2, false⟩
/-- Commit's answer and what stands then -/
def CmR (w : World) (x b m : Nat) (c : Cm) (e : Ending) (w' : World) : Prop := e = .returned (.int .i64 c.e) ∧ Mn w' x b m c.d c.s c.dead ∧ But [b, m, x] w w'
structure Cells5 (w : World) (x b : Nat) (s : St) (v : Value) (dead : Bool) : Prop where
  c0 : w.cell? ⟨x, 0, none⟩ = some (.pointer (some ⟨b, 0, none⟩))
  c1 : w.cell? ⟨x, 1, none⟩ = some (.int .i64 s.next)
  c2 : w.cell? ⟨x, 2, none⟩ = some (.int .i64 s.log)
  c3 : w.cell? ⟨x, 3, none⟩ = some v
  c4 : w.cell? ⟨x, 4, none⟩ = some (.bool dead)
  z1 : w.frozen? ⟨x, 1, none⟩ = false
  z2 : w.frozen? ⟨x, 2, none⟩ = false
  z3 : w.frozen? ⟨x, 3, none⟩ = false
  z4 : w.frozen? ⟨x, 4, none⟩ = false
theorem cells5 {w : World} {x b : Nat} {s : St} {v : Value} {dead : Bool} (h : w.heap[x]? = some (.cells #[.pointer (some ⟨b, 0, none⟩), .int .i64 s.next, .int .i64 s.log, v, .bool dead] 50 (0, 0))) : Cells5 w x b s v dead :=
  ⟨by simp [World.cell?, h], by simp [World.cell?, h], by simp [World.cell?, h], by simp [World.cell?, h], by simp [World.cell?, h], by simp [World.frozen?, h], by simp [World.frozen?, h], by simp [World.frozen?, h], by simp [World.frozen?, h]⟩
/-- dead is written -/
theorem Mn.die {w : World} {x b m : Nat} {d : Dk} {s : St} {dead : Bool} (h : Mn w x b m d s dead) (q : Bool) : Mn (w.setCell ⟨x, 4, none⟩ (.bool q)) x b m d s q ∧ But [b, m, x] w (w.setCell ⟨x, 4, none⟩ (.bool q)) := by
  obtain ⟨v, h1, h2⟩ := h.blk
  have hb : But [x] w (w.setCell ⟨x, 4, none⟩ (.bool q)) := (But.refl _ _).setCell (.inl (by simp)) _
  exact ⟨⟨h.dat.but hb (by simp; exact fun e => h.xb e.symm) (by simp; exact fun e => h.xm e.symm), h.ok, h.xb, h.xm, v, heap_setCell_same _ _ _ _ _ _ h1, h2.but hb (fun k hk _ => by simp [hk.2.2]) (fun _ h _ => h)⟩, hb.wider (by simp)⟩
theorem dieR {w : World} {x b m : Nat} {d : Dk} {s : St} {dead : Bool} (h : Mn w x b m d s dead) (o : Obj) : CmR w x b m ⟨7, d, s, true⟩ (.returned (.int .i64 7)) ((w.setCell ⟨x, 4, none⟩ (.bool true)).alloc o) :=
  ⟨rfl, (h.die true).1.quiet (bl1 _ _), (h.die true).2.alloc _⟩
set_option maxRecDepth 100000 in
set_option maxHeartbeats 4000000 in
theorem commit_dead (w : World) (x b m : Nat) (d : Dk) (s : St) (dead : Bool) (h : Mn w x b m d s dead) (hd : (dead || d.down) = true) (vd va : Value) (n l : Int) :
    Calls Tryz.prog 16 #[.pointer (some ⟨x, 0, none⟩), edv vd va n l] w (CmR w x b m ⟨7, d, s, true⟩) := by
  unfold edv
  obtain ⟨v, hblk, hrow⟩ := h.blk
  have hM := Lib.hid h
  have hxl := heap_lt hblk
  obtain ⟨c0, c1, c2, c3, c4, z1, z2, z3, z4⟩ := cells5 hblk
  have hne := World.new_ne w _ c0
  clear h hblk hrow
  go_enter Tryz.func16, Tryz.ntmps16
  cases dead with
  | true =>
    go_wp2_with fail
    go_ret
    exact dieR hM.out _
  | false =>
    have hdd : d.down = true := by simpa using hd
    go_wp2_with fail
    refine (down_any _ b m d (hM.out.dat.below (bl1 _ _))).mono ?_
    rintro e w1 ⟨rfl, rfl⟩
    rw [hdd]
    go_wp2_with fail
    go_ret
    exact dieR hM.out _
/-- behind Apply: the new state lies at q -/
structure CoM (W0 wx : World) (q : Nat) (s2 : St) (v3 : Value) : Prop where
  below : Below W0.heap.size W0 wx
  blk : wx.heap[q]? = some (.cells #[.int .i64 s2.next, .int .i64 s2.log, v3] 24 (0, 0))
  row : FRow (W0.heap.size ≤ ·) wx v3 s2.fs
  ge : W0.heap.size ≤ q
theorem stz {w : World} {q : Nat} {a b c : Value} (h : w.heap[q]? = some (.cells #[a, b, c] 24 (0, 0))) : w.cell? ⟨q, 0, none⟩ = some a ∧ w.cell? ⟨q, 1, none⟩ = some b ∧ w.cell? ⟨q, 2, none⟩ = some c ∧ ∀ o, w.frozen? ⟨q, o, none⟩ = false :=
  ⟨by simp [World.cell?, h], by simp [World.cell?, h], by simp [World.cell?, h], fun o => by simp [World.frozen?, h]⟩
theorem apply_check {s : St} {ed : Ed} (h : (applyS s ed).1 = 0) : checkB (applyS s ed).2 = true := by
  unfold applyS at h ⊢
  split at h
  · rename_i hc
    rw [if_pos hc]
    split at h
    · simp at h
    · rename_i L hL
      split at h
      · simp at h
      · rename_i M hM
        split at h
        · rename_i hk; rw [if_pos hk]; exact hk
        · simp at h
  · simp at h
theorem dEd {w : World} {vd va : Value} {n l : Int} : (w.alloc (.cells #[vd, va, .int .i64 n, .int .i64 l] 33)).cell? ⟨w.heap.size, 0, none⟩ = some vd ∧ (w.alloc (.cells #[vd, va, .int .i64 n, .int .i64 l] 33)).cell? ⟨w.heap.size, 1, none⟩ = some va ∧ (w.alloc (.cells #[vd, va, .int .i64 n, .int .i64 l] 33)).cell? ⟨w.heap.size, 2, none⟩ = some (.int .i64 n) ∧ (w.alloc (.cells #[vd, va, .int .i64 n, .int .i64 l] 33)).cell? ⟨w.heap.size, 3, none⟩ = some (.int .i64 l) := by
  refine ⟨?_, ?_, ?_, ?_⟩ <;> simp [go_sem]
set_option maxRecDepth 100000 in
set_option maxHeartbeats 4000000 in
theorem commit_any (S2 S3 : Nat → Prop) (w : World) (x b m : Nat) (d : Dk) (s : St) (h : Mn w x b m d s false) (hd : d.down = false) (vd va : Value) (ed : Ed)
    (h2 : IRow S2 w vd ed.drop) (h3 : FRow S3 w va ed.add) (b1 : s.fs.length ≤ 1000) (b3 : ed.add.length ≤ 1000) :
    Calls Tryz.prog 16 #[.pointer (some ⟨x, 0, none⟩), edv vd va ed.next ed.log] w (CmR w x b m (commitS d s false ed)) := by
  unfold edv
  obtain ⟨v, hblk, hrow⟩ := h.blk
  have hM := Lib.hid h
  have hxl := heap_lt hblk
  obtain ⟨c0, c1, c2, c3, c4, z1, z2, z3, z4⟩ := cells5 hblk
  have hne := World.new_ne w _ c0
  have HR := Lib.hid hrow
  have H2 := Lib.hid h2
  have H3 := Lib.hid h3
  have hCS : commitS d s false ed = if (applyS s ed).1 ≠ 0 then ⟨(applyS s ed).1, d, s, false⟩ else if (saveS (packB (applyS s ed).2) d).1 ≠ 0 then ⟨(saveS (packB (applyS s ed).2) d).1, (saveS (packB (applyS s ed).2) d).2, s, (saveS (packB (applyS s ed).2) d).1 == 7⟩ else ⟨0, (saveS (packB (applyS s ed).2) d).2, (applyS s ed).2, false⟩ := by unfold commitS; rw [hd]; rfl
  have HCS := Lib.hid hCS
  obtain ⟨⟨a, c, rfl, q1, q2, q3, q4⟩, qk⟩ := hrow
  obtain ⟨⟨a2, k2, rfl, p1, p2, p3, p4⟩⟩ := h2
  obtain ⟨⟨a3, k3, rfl, r1, r2, r3, r4⟩, rk⟩ := h3
  clear h hblk hCS q3 q4 qk p3 p4 r3 r4 rk
  go_enter Tryz.func16, Tryz.ntmps16
  go_wp2_with fail
  refine (down_any _ b m d (hM.out.dat.below (bl1 _ _))).mono ?_
  rintro e w1 ⟨rfl, rfl⟩
  rw [hd]
  go_upto_region 6 with (fail)
  obtain ⟨W0, hW0⟩ : ∃ W0, w.alloc (.cells #[.slice a2 ed.drop.length k2, .slice a3 ed.add.length k3, .int .i64 ed.next, .int .i64 ed.log] 33) = W0 := ⟨_, rfl⟩
  rw [hW0]
  have hB0 : Below w.heap.size w W0 := by rw [← hW0]; exact bl1 _ _
  have hz : w.heap.size < W0.heap.size := by rw [← hW0]; simp
  obtain ⟨e0, e1, e2, e3⟩ : W0.cell? ⟨w.heap.size, 0, none⟩ = some (.slice a2 ed.drop.length k2) ∧ W0.cell? ⟨w.heap.size, 1, none⟩ = some (.slice a3 ed.add.length k3) ∧ W0.cell? ⟨w.heap.size, 2, none⟩ = some (.int .i64 ed.next) ∧ W0.cell? ⟨w.heap.size, 3, none⟩ = some (.int .i64 ed.log) := by rw [← hW0]; exact dEd
  have d1 : W0.cell? ⟨x, 1, none⟩ = some (.int .i64 s.next) := (hB0.cell (p := ⟨x, 1, none⟩) hxl).trans c1
  have d2 : W0.cell? ⟨x, 2, none⟩ = some (.int .i64 s.log) := (hB0.cell (p := ⟨x, 2, none⟩) hxl).trans c2
  have d3 : W0.cell? ⟨x, 3, none⟩ = some (.slice a s.fs.length c) := (hB0.cell (p := ⟨x, 3, none⟩) hxl).trans c3
  have hxl0 : x < W0.heap.size := by omega
  have HCs := Lib.hid (show ∀ w', Below W0.heap.size W0 w' → (w'.cell? ⟨x, 1, none⟩ = some (.int .i64 s.next) ∧ w'.cell? ⟨x, 2, none⟩ = some (.int .i64 s.log) ∧ w'.cell? ⟨x, 3, none⟩ = some (.slice a s.fs.length c)) ∧ (w'.cell? ⟨w.heap.size, 0, none⟩ = some (.slice a2 ed.drop.length k2) ∧ w'.cell? ⟨w.heap.size, 1, none⟩ = some (.slice a3 ed.add.length k3) ∧ w'.cell? ⟨w.heap.size, 2, none⟩ = some (.int .i64 ed.next) ∧ w'.cell? ⟨w.heap.size, 3, none⟩ = some (.int .i64 ed.log)) from fun w' X =>
    ⟨⟨(X.cell (p := ⟨x, 1, none⟩) hxl0).trans d1, (X.cell (p := ⟨x, 2, none⟩) hxl0).trans d2, (X.cell (p := ⟨x, 3, none⟩) hxl0).trans d3⟩, (X.cell (p := ⟨w.heap.size, 0, none⟩) hz).trans e0, (X.cell (p := ⟨w.heap.size, 1, none⟩) hz).trans e1, (X.cell (p := ⟨w.heap.size, 2, none⟩) hz).trans e2, (X.cell (p := ⟨w.heap.size, 3, none⟩) hz).trans e3⟩)
  have HAP := Lib.hid (show ∀ w', Below W0.heap.size W0 w' → Calls Tryz.prog 7 #[.agg #[.int .i64 s.next, .int .i64 s.log, .slice a s.fs.length c], .agg #[.slice a2 ed.drop.length k2, .slice a3 ed.add.length k3, .int .i64 ed.next, .int .i64 ed.log]] w' (ApR w' (applyS s ed)) from fun w' X =>
    apply_any _ _ _ w' s ed _ _ _ ((HR.out.below hB0).below X) ((H2.out.below hB0).below X) ((H3.out.below hB0).below X) b1 b3)
  have X0 : Below W0.heap.size W0 W0.drew := (Below.refl _ _).drew
  have HX0 := Lib.hid X0
  have HB0 := Lib.hid hB0
  have HW0 := Lib.hid hW0
  generalize hap : applyS s ed = ap at *
  obtain ⟨why, s2⟩ := ap
  have HX1 := Lib.hid ((bl1 W0 (.cells #[.int .i64 0, .int .i64 0, .slice none 0 0] 24)).drew)
  clear c0 c1 c2 c3 c4 z1 z2 z3 z4 d1 d2 d3 e0 e1 e2 e3 hB0 hW0 X0
  go_cut [5, 6] from 33 to 41 (fun s5 s6 wx => s6 = .int .i64 why ∧ ∃ q v3, s5 = .pointer (some ⟨q, 0, none⟩) ∧ Hid (CoM W0 wx q s2 v3))
  case first =>
    go_region_held3 (fun w' => (w'.cell? ⟨x, 1, none⟩ = some (.int .i64 s.next) ∧ w'.cell? ⟨x, 2, none⟩ = some (.int .i64 s.log) ∧ w'.cell? ⟨x, 3, none⟩ = some (.slice a s.fs.length c)) ∧ (w'.cell? ⟨w.heap.size, 0, none⟩ = some (.slice a2 ed.drop.length k2) ∧ w'.cell? ⟨w.heap.size, 1, none⟩ = some (.slice a3 ed.add.length k3) ∧ w'.cell? ⟨w.heap.size, 2, none⟩ = some (.int .i64 ed.next) ∧ w'.cell? ⟨w.heap.size, 3, none⟩ = some (.int .i64 ed.log)))
      (first | exact HCs.out _ HX0.out | exact HCs.out _ X3 | exact HCs.out _ (X3.alloc X3.size _) | exact HCs.out _ HX1.out | exact HCs.out _ (((X3.setCell (Nat.le_refl _) _).setCell (Nat.le_refl _) _).setCell (Nat.le_refl _) _) | assumption)
      (first
        | (go_at_call 7; ((with_reducible refine (HAP.out _ HX0.out).mono ?_); rintro e w3 ⟨v3, rfl, hr3, hb3⟩; have HR3 := Lib.hid hr3; have X3 := HX0.out.trans (hb3.mono HX0.out.size); obtain ⟨⟨a4, k4, rfl, t1, t2, t3, t4⟩, tk⟩ := hr3))
        | (go_at_call 7; ((with_reducible refine (HAP.out _ HX1.out).mono ?_); rintro e w3 ⟨v3, rfl, hr3, hb3⟩; have HR3 := Lib.hid hr3; have X3 := HX1.out.trans (hb3.mono HX1.out.size); have y3 := (hb3.block W0.heap.size (by simp)).trans (heap_alloc_new W0 _); obtain ⟨p0, p1, p2, p3⟩ := stz y3; have p4 := heap_lt y3; obtain ⟨⟨a4, k4, rfl, t1, t2, t3, t4⟩, tk⟩ := hr3)))
    all_goals
      go_wp2_with fail
      go_meet
      first
        | exact ⟨rfl, _, _, rfl, ⟨X3.alloc X3.size _, heap_alloc_new _ _, (HR3.out.below (bl1 _ _)), X3.size⟩⟩
        | (refine ⟨rfl, _, _, rfl, ⟨((X3.setCell (Nat.le_refl _) _).setCell (Nat.le_refl _) _).setCell (Nat.le_refl _) _, heap_setCell_same _ _ _ _ _ _ (heap_setCell_same _ _ _ _ _ _ (heap_setCell_same _ _ _ _ _ _ y3)), HR3.out.keep (fun k hk _ => ?_) (by simp [World.setCell]) (fun k hk _ => ?_), Nat.le_refl _⟩⟩
           · have hkn : k ≠ W0.heap.size := by simp at hk; omega
             rw [Below.heap_setCell _ _ _ _ hkn, Below.heap_setCell _ _ _ _ hkn, Below.heap_setCell _ _ _ _ hkn]
           · simp at hk; omega)
  case rest =>
    obtain ⟨rfl, q, v3, rfl, HCO⟩ := hcut
    have hco := HCO.out
    obtain ⟨f0, f1, f2, _⟩ := stz hco.blk
    have hz0 : w.heap.size < W0.heap.size := hz
    by_cases hw : why = 0
    · subst hw
      have hck : checkB s2 = true := by have := apply_check (s := s) (ed := ed) (by rw [hap]); rw [hap] at this; exact this
      have hsz : (packB s2).size ≤ 100000 := by obtain ⟨_, _, _, _, hl, hf⟩ := check_fit hck; have := packL_size s2 s2.fs hf; unfold packB; omega
      have HSZ := Lib.hid hsz
      have HMX := Lib.hid ((hM.out.quiet HB0.out).quiet HCO.out.below)
      have hwx : W0.heap.size ≤ wc.heap.size := hco.below.size
      obtain ⟨⟨a4, k4, rfl, t1, t2, t3, t4⟩, tk⟩ := hco.row
      clear t3 t4 tk hsz
      generalize hX : saveS (packB s2) d = SV at *
      obtain ⟨E, d2⟩ := SV
      have hql := heap_lt hco.blk
      have hge := hco.ge
      clear hco
      go_wp2_with fail
      refine (pack_any _ _ s2 _ HCO.out.row hck).mono ?_
      rintro e w5 ⟨rfl, hb5⟩
      have HB5 := Lib.hid hb5
      have HM5 := Lib.hid (HMX.out.quiet hb5)
      obtain ⟨v5, hblk5, hrow5⟩ := (HMX.out.quiet hb5).blk
      have hx5 : w5.cell? ⟨x, 0, none⟩ = some (.pointer (some ⟨b, 0, none⟩)) := by simp [World.cell?, hblk5]
      clear hb5 hblk5 hrow5
      go_wp2_with fail
      refine (save_any w5 b m x d (packB s2) hx5 ⟨HM5.out.xb, HM5.out.xm⟩ HSZ.out HM5.out.dat HM5.out.ok).mono ?_
      rw [hX]
      rintro e w6 ⟨rfl, hk6⟩
      have HK6 := Lib.hid hk6
      have HM6 := Lib.hid (HM5.out.disk hk6)
      have hqb : q ≠ b ∧ q ≠ m := by
        have h1 : b < w.heap.size := World.block_lt_of_cell? w _ hM.out.dat.c0
        have h2 : m < w.heap.size := hM.out.dat.map.lt
        exact ⟨by omega, by omega⟩
      have hq6 : w6.heap[q]? = some (.cells #[.int .i64 s2.next, .int .i64 s2.log, .slice a4 s2.fs.length k4] 24 (0, 0)) :=
        (hk6.but.block q (by have := HB5.out.size; omega) (by simp [hqb.1, hqb.2])).trans ((HB5.out.block q hql).trans HCO.out.blk)
      obtain ⟨g0, g1, g2, _⟩ := stz hq6
      obtain ⟨v6, hblk6, hrow6⟩ := (HM5.out.disk hk6).blk
      obtain ⟨x0, x1, x2, x3, x4, y1, y2, y3, y4⟩ := cells5 hblk6
      have HBT := Lib.hid (show But [b, m, x] w w6 from (((But.of_below HB0.out).trans (But.of_below HCO.out.below)).trans (But.of_below HB5.out)).trans (hk6.but.wider (by simp)))
      have HBK6 := Lib.hid hblk6
      clear hk6 hblk6 hrow6 hq6
      by_cases hE : E = 0
      · subst hE
        have hres : commitS d s false ed = ⟨0, d2, s2, false⟩ := by rw [HCS.out, if_neg (by simp), if_neg (by simp)]
        have HRES := Lib.hid hres
        clear hres
        go_wp2_with fail
        go_ret
        rw [HRES.out]
        have hxb := HM6.out.xb
        have hxm := HM6.out.xm
        have hbx : But [x] w6 (((w6.setCell ⟨x, 1, none⟩ (.int .i64 s2.next)).setCell ⟨x, 2, none⟩ (.int .i64 s2.log)).setCell ⟨x, 3, none⟩ (.slice a4 s2.fs.length k4)) :=
          (((But.refl _ _).setCell (.inl (by simp)) _).setCell (.inl (by simp)) _).setCell (.inl (by simp)) _
        have hrw : FRow (fun k => k ≠ b ∧ k ≠ m ∧ k ≠ x) w6 (.slice a4 s2.fs.length k4) s2.fs := by
          have h1 : b < w.heap.size := World.block_lt_of_cell? w _ hM.out.dat.c0
          have h2 : m < w.heap.size := hM.out.dat.map.lt
          exact ((HCO.out.row.below HB5.out).but HK6.out.but (fun k hk _ => by simp; omega) (fun k hk _ => ⟨by omega, by omega, by omega⟩))
        exact ⟨rfl, ⟨HM6.out.dat.but hbx (by simp; exact fun e => hxb e.symm) (by simp; exact fun e => hxm e.symm), HM6.out.ok, hxb, hxm, _, heap_setCell_same _ _ _ _ _ _ (heap_setCell_same _ _ _ _ _ _ (heap_setCell_same _ _ _ _ _ _ HBK6.out)), hrw.but hbx (fun k hk _ => by simp [hk.2.2]) (fun _ h _ => h)⟩, HBT.out.trans (hbx.wider (by simp))⟩
      · have hn : (E != 0) = true := by simpa using hE
        have hres : commitS d s false ed = ⟨E, d2, s, E == 7⟩ := by rw [HCS.out, if_neg (by simp), if_pos hE]
        have HRES := Lib.hid hres
        clear hres hE
        go_wp2_with fail
        go_ret
        rw [HRES.out]
        exact ⟨rfl, (HM6.out.die _).1, HBT.out.trans (HM6.out.die _).2⟩
    · have hn : (why != 0) = true := by simpa using hw
      have hres : commitS d s false ed = ⟨why, d, s, false⟩ := by rw [HCS.out, if_pos hw]
      have HRES := Lib.hid hres
      clear hres hw
      go_wp2_with fail
      go_ret
      rw [HRES.out]
      exact ⟨rfl, (hM.out.quiet HB0.out).quiet HCO.out.below, (But.of_below HB0.out).trans (But.of_below HCO.out.below)⟩
end Go.Proofs.YtiiafpbonkcokaaGreat
