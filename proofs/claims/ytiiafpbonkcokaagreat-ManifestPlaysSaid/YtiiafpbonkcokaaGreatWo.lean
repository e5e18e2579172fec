/-
  ManifestPlays: the law's world; its 'open'.
-/
import Derived.Test.YtiiafpbonkcokaaGreatRa
import Derived.Test.YtiiafpbonkcokaaGreatQd
import Derived.Deep.DeepCutAuto
namespace Go.Proofs.YtiiafpbonkcokaaGreat
section
open Go.RowKit Go.Maps

/-- no text stands in block X -/
def NoText (w : World) (X : Nat) : Prop := ∀ o s, w.cell? ⟨X, o, none⟩ ≠ some (.string s)
theorem FRow.off {S : Nat → Prop} {w : World} {v : Value} {L : List Fi} (h : FRow S w v L) {X : Nat} (hX : NoText w X) : FRow (fun k => S k ∧ k ≠ X) w v L := by
  obtain ⟨⟨a, c, rfl, h1, h2, h0, h3⟩, ok⟩ := h
  refine ⟨⟨a, c, rfl, h1, h2, h0, fun hl => ?_⟩, ok⟩
  obtain ⟨b, o, e, hb, hlt, hc⟩ := h3 hl
  exact ⟨b, o, e, ⟨hb, fun e2 => hX _ _ (e2 ▸ (hc 0 hl).c3)⟩, hlt, hc⟩
theorem Mn.but {w w' : World} {x b m X : Nat} {d : Dk} {s : St} {dead : Bool} (h : Mn w x b m d s dead) (hX : NoText w X) (hb : But [X] w w') (h1 : X ≠ b) (h2 : X ≠ m) (h3 : X ≠ x) : Mn w' x b m d s dead := by
  obtain ⟨v, h4, h5⟩ := h.blk
  refine ⟨h.dat.but hb (by simp; omega) (by simp; omega), h.ok, h.xb, h.xm, v, (hb.block x (heap_lt h4) (by simp; omega)).trans h4, (h5.off hX).but hb (fun k hk _ => by simp; exact hk.2) (fun k hk _ => hk.1)⟩
theorem sEq_eq {a b : ByteArray} (h : sEq a b = true) : a = b := by
  unfold sEq at h
  rw [beq_iff_eq, ByteArray.toList_eq, ByteArray.toList_eq] at h
  exact ba_ext h
theorem fiEq_eq {f g : Fi} (h : fiEq f g = true) : f = g := by
  obtain ⟨a, b, c, d, e⟩ := f
  obtain ⟨a', b', c', d', e'⟩ := g
  unfold fiEq at h
  simp only [Bool.and_eq_true, beq_iff_eq] at h
  obtain ⟨⟨⟨⟨rfl, rfl⟩, rfl⟩, h4⟩, h5⟩ := h
  rw [sEq_eq h4, sEq_eq h5]
theorem fsEq_eq : ∀ {L R : List Fi}, L.length = R.length → (List.zipWith fiEq L R).all id = true → L = R
  | [], [], _, _ => rfl
  | [], _ :: _, h, _ => by simp at h
  | _ :: _, [], h, _ => by simp at h
  | f :: L, g :: R, h, h2 => by
    simp only [List.zipWith_cons_cons, List.all_cons, Bool.and_eq_true, id] at h2
    rw [fiEq_eq h2.1, fsEq_eq (by simpa using h) h2.2]
theorem stEq_eq {s t : St} (h : stEq s t = true) : s = t := by
  obtain ⟨a, b, L⟩ := s
  obtain ⟨a', b', R⟩ := t
  unfold stEq at h
  simp only [Bool.and_eq_true, beq_iff_eq] at h
  obtain ⟨⟨⟨rfl, rfl⟩, h3⟩, h4⟩ := h
  rw [fsEq_eq h3 h4]
theorem stEq_refl (S : St) : stEq S S = true := by
  have h : (List.zipWith fiEq S.fs S.fs).all id = true := (zip_all rfl).2 rfl
  unfold stEq
  rw [h]
  simp
/-- the law's world at X: its cells -/
def wcells (b : Nat) (pm : Value) (S T : St) (vs vt : Value) (bd : Bool) : Array Value := #[.pointer (some ⟨b, 0, none⟩), pm, .int .i64 S.next, .int .i64 S.log, vs, .int .i64 T.next, .int .i64 T.log, vt, .bool bd]
/-- the law's world, whatever manifest it has -/
structure W0 (w : World) (X b m : Nat) (pm : Value) (d : Dk) (S T : St) (bd : Bool) : Prop where
  dat : DAt w b m d
  ok : Fit d
  xb : X ≠ b
  xm : X ≠ m
  blk : ∃ vs vt, w.heap[X]? = some (.cells (wcells b pm S T vs vt bd) 74 (0, 0)) ∧ FRow (fun k => k ≠ b ∧ k ≠ m ∧ k ≠ X) w vs S.fs ∧ FRow (fun k => k ≠ b ∧ k ≠ m ∧ k ≠ X) w vt T.fs
/-- the law's world with its manifest at x -/
structure Wd (w : World) (X x b m : Nat) (d : Dk) (M S T : St) (dead bd : Bool) : Prop where
  mn : Mn w x b m d M dead
  xb : X ≠ b
  xm : X ≠ m
  xx : X ≠ x
  blk : ∃ vs vt, w.heap[X]? = some (.cells (wcells b (.pointer (some ⟨x, 0, none⟩)) S T vs vt bd) 74 (0, 0)) ∧ FRow (fun k => k ≠ b ∧ k ≠ m ∧ k ≠ x ∧ k ≠ X) w vs S.fs ∧ FRow (fun k => k ≠ b ∧ k ≠ m ∧ k ≠ x ∧ k ≠ X) w vt T.fs
theorem Wd.w0 {w : World} {X x b m : Nat} {d : Dk} {M S T : St} {dead bd : Bool} (h : Wd w X x b m d M S T dead bd) : W0 w X b m (.pointer (some ⟨x, 0, none⟩)) d S T bd := by
  obtain ⟨vs, vt, h1, h2, h3⟩ := h.blk
  exact ⟨h.mn.dat, h.mn.ok, h.xb, h.xm, vs, vt, h1, h2.wider (fun k h _ => ⟨h.1, h.2.1, h.2.2.2⟩), h3.wider (fun k h _ => ⟨h.1, h.2.1, h.2.2.2⟩)⟩
theorem wnt {w : World} {X b : Nat} {pm : Value} {S T : St} {vs vt : Value} {bd : Bool} {ty : TypeId} (h : w.heap[X]? = some (.cells (wcells b pm S T vs vt bd) ty (0, 0))) (hp : ∀ s, pm ≠ .string s) (hs : ∀ s, vs ≠ .string s) (ht : ∀ s, vt ≠ .string s) : NoText w X := by
  intro o s e
  have e' : (wcells b pm S T vs vt bd)[o]? = some (.string s) := by simpa [World.cell?, h] using e
  unfold wcells at e'
  match o, e' with
  | 0, e' => simp at e'
  | 1, e' => simp at e'; exact hp _ e'
  | 2, e' => simp at e'
  | 3, e' => simp at e'
  | 4, e' => simp at e'; exact hs _ e'
  | 5, e' => simp at e'
  | 6, e' => simp at e'
  | 7, e' => simp at e'; exact ht _ e'
  | 8, e' => simp at e'
  | o + 9, e' => simp at e'
theorem wc {w : World} {X b : Nat} {pm : Value} {S T : St} {vs vt : Value} {bd : Bool} {ty : TypeId} (h : w.heap[X]? = some (.cells (wcells b pm S T vs vt bd) ty (0, 0))) :
    w.cell? ⟨X, 0, none⟩ = some (.pointer (some ⟨b, 0, none⟩)) ∧ w.cell? ⟨X, 1, none⟩ = some pm ∧ (w.cell? ⟨X, 2, none⟩ = some (.int .i64 S.next) ∧ w.cell? ⟨X, 3, none⟩ = some (.int .i64 S.log) ∧ w.cell? ⟨X, 4, none⟩ = some vs) ∧ (w.cell? ⟨X, 5, none⟩ = some (.int .i64 T.next) ∧ w.cell? ⟨X, 6, none⟩ = some (.int .i64 T.log) ∧ w.cell? ⟨X, 7, none⟩ = some vt) ∧ w.cell? ⟨X, 8, none⟩ = some (.bool bd) ∧ (∀ o, w.frozen? ⟨X, o, none⟩ = false) ∧ X < w.heap.size := by
  refine ⟨?_, ?_, ⟨?_, ?_, ?_⟩, ⟨?_, ?_, ?_⟩, ?_, fun o => by simp [World.frozen?, h], heap_lt h⟩
  all_goals simp [World.cell?, h, wcells]
end

section
open Go.RowKit Go.Maps

set_option maxRecDepth 100000 in
set_option maxHeartbeats 8000000 in
theorem wopen_any (w : World) (X b m : Nat) (pm : Value) (d : Dk) (S T N : St) (bd : Bool) (h : W0 w X b m pm d S T bd) (hpm : ∀ s, pm ≠ .string s) (up : d.down = false) (hk : Kpt d.fs N) (hN : N = S ∨ N = T) (hl : N.fs.length ≤ 200) (hok : ∀ f ∈ N.fs, FiOk f) :
    Calls Tryz.prog 31 #[.pointer (some ⟨X, 0, none⟩)] w fun e w' => e = .returned (.bool true) ∧ Wd w' X w.heap.size b m d N N N false bd ∧ But [X] w w' := by
  obtain ⟨vs, vt, hblk, hrs, hrt⟩ := h.blk
  have HRS := Lib.hid hrs
  have HRT := Lib.hid hrt
  obtain ⟨sa, sc, rfl⟩ : ∃ a c, vs = .slice a S.fs.length c := by obtain ⟨⟨a, c, e, _⟩, _⟩ := hrs; exact ⟨a, c, e⟩
  obtain ⟨ta, tc, rfl⟩ : ∃ a c, vt = .slice a T.fs.length c := by obtain ⟨⟨a, c, e, _⟩, _⟩ := hrt; exact ⟨a, c, e⟩
  have HD := Lib.hid h
  have HUP := Lib.hid up
  have HK := Lib.hid hk
  have HN := Lib.hid hN
  have HOK := Lib.hid hok
  have HPM := Lib.hid hpm
  have hXl := heap_lt hblk
  have HBLK := Lib.hid hblk
  have hxb := h.xb
  have hxm := h.xm
  clear h up hk hN hok hpm hrs hrt hblk
  go_enter Tryz.func31, Tryz.ntmps31
  go_wp2_with fail
  go_loopw [3] (fun i wr => i = .int .i64 0 ∧ Hid (wr = w)) (fun _ _ => 0)
  case atStart => exact ⟨rfl, rfl⟩
  case round =>
    obtain ⟨rfl, HE⟩ := hrel
    obtain rfl : wr = w := HE.out
    clear HE
    obtain ⟨c0, c1, ⟨c2, c3, c4⟩, ⟨c5, c6, c7⟩, c8, fz, xl⟩ := wc HBLK.out
    go_wp2_with fail
    refine (open_kpt wr b m d HD.out.dat HD.out.ok HUP.out N HK.out).mono ?_
    rintro e w1 ⟨rfl, hm1, hb1⟩
    have hblk1 := (hb1.block X hXl).trans HBLK.out
    have HB1 := Lib.hid hb1
    have HM1 := Lib.hid hm1
    have HBK1 := Lib.hid hblk1
    clear c0 c1 c2 c3 c4 c5 c6 c7 c8 fz xl hm1 hb1
    obtain ⟨c0, c1, ⟨c2, c3, c4⟩, ⟨c5, c6, c7⟩, c8, fz, xl⟩ := wc hblk1
    clear hblk1
    have hne : X ≠ wr.heap.size := by omega
    go_upto_region 10 with (fail)
    obtain ⟨w2, hw2⟩ : ∃ w2, w1.setCell ⟨X, 1, none⟩ (.pointer (some ⟨wr.heap.size, 0, none⟩)) = w2 := ⟨_, rfl⟩
    have hblk2 : w2.heap[X]? = some (.cells (wcells b (.pointer (some ⟨wr.heap.size, 0, none⟩)) S T (.slice sa S.fs.length sc) (.slice ta T.fs.length tc) bd) 74 (0, 0)) := by rw [← hw2]; exact heap_setCell_same w1 X 1 _ _ _ HBK1.out
    have hbt2 : But [X] w1 w2 := by rw [← hw2]; exact (But.refl _ _).setCell (.inl (by simp)) _
    have hm2 := HM1.out.but (wnt HBK1.out HPM.out (fun s e => by cases e) (fun s e => by cases e)) hbt2 hxb hxm hne
    have hall2 : But [X] wr w2 := (But.of_below HB1.out).trans hbt2
    have HM2 := Lib.hid hm2
    have HA2 := Lib.hid hall2
    have HBK2 := Lib.hid hblk2
    have HW2 := Lib.hid hw2
    have HRS2 := Lib.hid (show FRow (fun k => k ≠ b ∧ k ≠ m ∧ k ≠ wr.heap.size ∧ k ≠ X) w2 (.slice sa S.fs.length sc) S.fs from HRS.out.but hall2 (fun k hk _ => by simp; exact hk.2.2) (fun k hk hlt => ⟨hk.1, hk.2.1, by omega, hk.2.2⟩))
    have HRT2 := Lib.hid (show FRow (fun k => k ≠ b ∧ k ≠ m ∧ k ≠ wr.heap.size ∧ k ≠ X) w2 (.slice ta T.fs.length tc) T.fs from HRT.out.but hall2 (fun k hk _ => by simp; exact hk.2.2) (fun k hk hlt => ⟨hk.1, hk.2.1, by omega, hk.2.2⟩))
    rw [HW2.out]
    clear c0 c1 c2 c3 c4 c5 c6 c7 c8 fz xl hm2 hall2 hbt2 hw2
    obtain ⟨c0, c1, ⟨c2, c3, c4⟩, ⟨c5, c6, c7⟩, c8, fz, xl⟩ := wc hblk2
    clear hblk2
    have HST := Lib.hid (show ∀ w' , Mn w' wr.heap.size b m d N false → Calls Tryz.prog 17 #[.pointer (some ⟨wr.heap.size, 0, none⟩)] w' (fun e w'' => ∃ a c, e = .returned (.agg #[.int .i64 N.next, .int .i64 N.log, .slice a N.fs.length c]) ∧ FRow (w'.heap.size ≤ ·) w'' (.slice a N.fs.length c) N.fs ∧ Below w'.heap.size w' w'') from fun w' hm => by
      refine (state_any w' _ _ _ _ _ _ hm (by omega)).mono ?_
      rintro e w'' ⟨v, rfl, hown, hb⟩
      obtain ⟨a, c, rfl⟩ := own_slice hown
      exact ⟨a, c, rfl, FRow.own hown HOK.out, hb⟩)
    have HSA := Lib.hid (show ∀ w' (SS : Nat → Prop) a c, Below w2.heap.size w2 w' → FRow SS w' (.slice a N.fs.length c) N.fs → Calls Tryz.prog 10 #[.agg #[.int .i64 N.next, .int .i64 N.log, .slice a N.fs.length c], .agg #[.int .i64 T.next, .int .i64 T.log, .slice ta T.fs.length tc]] w' (fun e w'' => e = .returned (.bool (stEq N T)) ∧ Below w'.heap.size w' w'') from fun w' SS a c hb hr =>
      lsame_any _ _ w' N T _ _ hr (HRT2.out.below hb) (by omega))
    have HC2 := Lib.hid (show ∀ w', Below w2.heap.size w2 w' → (w'.cell? ⟨X, 5, none⟩ = some (.int .i64 T.next) ∧ w'.cell? ⟨X, 6, none⟩ = some (.int .i64 T.log) ∧ w'.cell? ⟨X, 7, none⟩ = some (.slice ta T.fs.length tc)) from fun w' Y => (wc ((Y.block X (heap_lt HBK2.out)).trans HBK2.out)).2.2.2.1)
    have HY0 := Lib.hid (show Below w2.heap.size w2 w2.drew from (Below.refl _ _).drew)
    have HMD := Lib.hid (HM2.out.quiet HY0.out)
    go_region_held3 (fun w' => w'.cell? ⟨X, 5, none⟩ = some (.int .i64 T.next) ∧ w'.cell? ⟨X, 6, none⟩ = some (.int .i64 T.log) ∧ w'.cell? ⟨X, 7, none⟩ = some (.slice ta T.fs.length tc))
      (first | exact HC2.out _ HY0.out | exact HC2.out _ YA | exact HC2.out _ YB | assumption)
      (first
        | (go_at_call 17; ((with_reducible refine (HST.out _ HMD.out).mono ?_); rintro e wA ⟨ga, gc, rfl, hrA, hbA⟩; have YA := HY0.out.trans (hbA.mono HY0.out.size)))
        | (go_at_call 10; ((with_reducible refine (HSA.out _ _ _ _ YA hrA).mono ?_); rintro e wB ⟨rfl, hbB⟩; have YB := YA.trans (hbB.mono YA.size))))
    have HYB := Lib.hid YB
    have HM3 := Lib.hid (HM2.out.quiet YB)
    have hblk3 := (YB.block X (heap_lt HBK2.out)).trans HBK2.out
    have HBK3 := Lib.hid hblk3
    clear YA YB hbA hbB hrA c0 c1 c2 c3 c4 c5 c6 c7 c8 fz xl
    obtain ⟨c0, c1, ⟨c2, c3, c4⟩, ⟨c5, c6, c7⟩, c8, fz, xl⟩ := wc hblk3
    clear hblk3
    have HQ := Lib.hid (show stEq N T = true → N = T from stEq_eq)
    have HQ2 := Lib.hid (show stEq N T = false → N = S from fun h => by
      rcases HN.out with h2 | h2
      · exact h2
      · rw [h2, stEq_refl] at h; cases h)
    generalize stEq N T = q at *
    clear HST HSA HC2 HMD HY0
    cases q with
    | true =>
      obtain rfl : N = T := HQ.out rfl
      go_upto_region 13 with (fail)
      obtain ⟨w4, hw4⟩ : ∃ w4, ((((((wB.setCell ⟨X, 2, none⟩ (.int .i64 N.next)).setCell ⟨X, 3, none⟩ (.int .i64 N.log)).setCell ⟨X, 4, none⟩ (.slice ta N.fs.length tc)).setCell ⟨X, 5, none⟩ (.int .i64 N.next)).setCell ⟨X, 6, none⟩ (.int .i64 N.log)).setCell ⟨X, 7, none⟩ (.slice ta N.fs.length tc)) = w4 := ⟨_, rfl⟩
      have hblk4 : w4.heap[X]? = some (.cells (wcells b (.pointer (some ⟨wr.heap.size, 0, none⟩)) N N (.slice ta N.fs.length tc) (.slice ta N.fs.length tc) bd) 74 (0, 0)) := by rw [← hw4]; exact heap_setCell_same _ X 7 _ _ _ (heap_setCell_same _ X 6 _ _ _ (heap_setCell_same _ X 5 _ _ _ (heap_setCell_same _ X 4 _ _ _ (heap_setCell_same _ X 3 _ _ _ (heap_setCell_same _ X 2 _ _ _ (HBK3.out))))))
      have hbt4 : But [X] wB w4 := by rw [← hw4]; exact (((((((But.refl _ _).setCell (.inl (by simp)) _).setCell (.inl (by simp)) _).setCell (.inl (by simp)) _).setCell (.inl (by simp)) _).setCell (.inl (by simp)) _).setCell (.inl (by simp)) _)
      have HBK4 := Lib.hid hblk4
      have HM4 := Lib.hid (HM3.out.but (wnt HBK3.out (fun s e => by cases e) (fun s e => by cases e) (fun s e => by cases e)) hbt4 hxb hxm hne)
      have HW4 := Lib.hid hw4
      have HRV := Lib.hid (show FRow (fun k => k ≠ b ∧ k ≠ m ∧ k ≠ wr.heap.size ∧ k ≠ X) w4 ((.slice ta N.fs.length tc)) N.fs from (HRT2.out.below HYB.out).but hbt4 (fun k hk _ => by simp; exact hk.2.2.2) (fun k hk _ => hk))
      have HA4 := Lib.hid ((HA2.out.trans (.of_below HYB.out)).trans hbt4)
      rw [HW4.out]
      clear hw4 hbt4 c0 c1 c2 c3 c4 c5 c6 c7 c8 fz xl
      obtain ⟨c0, c1, ⟨c2, c3, c4⟩, ⟨c5, c6, c7⟩, c8, fz, xl⟩ := wc hblk4
      clear hblk4
      have H17 := Lib.hid (show ∀ w' , Mn w' wr.heap.size b m d N false → Calls Tryz.prog 17 #[.pointer (some ⟨wr.heap.size, 0, none⟩)] w' (fun e w'' => ∃ a c, e = .returned (.agg #[.int .i64 N.next, .int .i64 N.log, .slice a N.fs.length c]) ∧ FRow (w'.heap.size ≤ ·) w'' (.slice a N.fs.length c) N.fs ∧ Below w'.heap.size w' w'') from fun w' hm => by
        refine (state_any w' _ _ _ _ _ _ hm (by omega)).mono ?_
        rintro e w'' ⟨v, rfl, hown, hb⟩
        obtain ⟨a, c, rfl⟩ := own_slice hown
        exact ⟨a, c, rfl, FRow.own hown HOK.out, hb⟩)
      have H10 := Lib.hid (show ∀ w' (SS : Nat → Prop) a c, Below w4.heap.size w4 w' → FRow SS w' (.slice a N.fs.length c) N.fs → Calls Tryz.prog 10 #[.agg #[.int .i64 N.next, .int .i64 N.log, .slice a N.fs.length c], .agg #[.int .i64 N.next, .int .i64 N.log, (.slice ta N.fs.length tc)]] w' (fun e w'' => e = .returned (.bool true) ∧ Below w'.heap.size w' w'') from fun w' SS a c hb hr => by
        have := lsame_any _ _ w' N N _ _ hr (HRV.out.below hb) (by omega)
        rw [stEq_refl] at this
        exact this)
      have HC4 := Lib.hid (show ∀ w', Below w4.heap.size w4 w' → (w'.cell? ⟨X, 2, none⟩ = some (.int .i64 N.next) ∧ w'.cell? ⟨X, 3, none⟩ = some (.int .i64 N.log) ∧ w'.cell? ⟨X, 4, none⟩ = some ((.slice ta N.fs.length tc))) from fun w' Y => (wc ((Y.block X (heap_lt HBK4.out)).trans HBK4.out)).2.2.1)
      have HY0 := Lib.hid (show Below w4.heap.size w4 w4.drew from (Below.refl _ _).drew)
      have HMD := Lib.hid (HM4.out.quiet HY0.out)
      go_region_held3 (fun w' => w'.cell? ⟨X, 2, none⟩ = some (.int .i64 N.next) ∧ w'.cell? ⟨X, 3, none⟩ = some (.int .i64 N.log) ∧ w'.cell? ⟨X, 4, none⟩ = some ((.slice ta N.fs.length tc)))
        (first | exact HC4.out _ HY0.out | exact HC4.out _ YA | exact HC4.out _ YC | assumption)
        (first
          | (go_at_call 17; ((with_reducible refine (H17.out _ HMD.out).mono ?_); rintro e wA ⟨ga, gc, rfl, hrA, hbA⟩; have YA := HY0.out.trans (hbA.mono HY0.out.size)))
          | (go_at_call 10; ((with_reducible refine (H10.out _ _ _ _ YA hrA).mono ?_); rintro e wC ⟨rfl, hbC⟩; have YC := YA.trans (hbC.mono YA.size))))
      have HYC := Lib.hid YC
      clear YA YC hbA hbC hrA
      go_wp2_with fail
      go_ret
      exact ⟨rfl, ⟨HM4.out.quiet HYC.out, hxb, hxm, hne, (.slice ta N.fs.length tc), (.slice ta N.fs.length tc), (HYC.out.block X (heap_lt HBK4.out)).trans HBK4.out, HRV.out.below HYC.out, HRV.out.below HYC.out⟩, HA4.out.trans (.of_below HYC.out)⟩
    | false =>
      obtain rfl : N = S := HQ2.out rfl
      go_upto_region 13 with (fail)
      obtain ⟨w4, hw4⟩ : ∃ w4, (((wB.setCell ⟨X, 5, none⟩ (.int .i64 N.next)).setCell ⟨X, 6, none⟩ (.int .i64 N.log)).setCell ⟨X, 7, none⟩ (.slice sa N.fs.length sc)) = w4 := ⟨_, rfl⟩
      have hblk4 : w4.heap[X]? = some (.cells (wcells b (.pointer (some ⟨wr.heap.size, 0, none⟩)) N N (.slice sa N.fs.length sc) (.slice sa N.fs.length sc) bd) 74 (0, 0)) := by rw [← hw4]; exact heap_setCell_same _ X 7 _ _ _ (heap_setCell_same _ X 6 _ _ _ (heap_setCell_same _ X 5 _ _ _ (HBK3.out)))
      have hbt4 : But [X] wB w4 := by rw [← hw4]; exact ((((But.refl _ _).setCell (.inl (by simp)) _).setCell (.inl (by simp)) _).setCell (.inl (by simp)) _)
      have HBK4 := Lib.hid hblk4
      have HM4 := Lib.hid (HM3.out.but (wnt HBK3.out (fun s e => by cases e) (fun s e => by cases e) (fun s e => by cases e)) hbt4 hxb hxm hne)
      have HW4 := Lib.hid hw4
      have HRV := Lib.hid (show FRow (fun k => k ≠ b ∧ k ≠ m ∧ k ≠ wr.heap.size ∧ k ≠ X) w4 ((.slice sa N.fs.length sc)) N.fs from (HRS2.out.below HYB.out).but hbt4 (fun k hk _ => by simp; exact hk.2.2.2) (fun k hk _ => hk))
      have HA4 := Lib.hid ((HA2.out.trans (.of_below HYB.out)).trans hbt4)
      rw [HW4.out]
      clear hw4 hbt4 c0 c1 c2 c3 c4 c5 c6 c7 c8 fz xl
      obtain ⟨c0, c1, ⟨c2, c3, c4⟩, ⟨c5, c6, c7⟩, c8, fz, xl⟩ := wc hblk4
      clear hblk4
      have H17 := Lib.hid (show ∀ w' , Mn w' wr.heap.size b m d N false → Calls Tryz.prog 17 #[.pointer (some ⟨wr.heap.size, 0, none⟩)] w' (fun e w'' => ∃ a c, e = .returned (.agg #[.int .i64 N.next, .int .i64 N.log, .slice a N.fs.length c]) ∧ FRow (w'.heap.size ≤ ·) w'' (.slice a N.fs.length c) N.fs ∧ Below w'.heap.size w' w'') from fun w' hm => by
        refine (state_any w' _ _ _ _ _ _ hm (by omega)).mono ?_
        rintro e w'' ⟨v, rfl, hown, hb⟩
        obtain ⟨a, c, rfl⟩ := own_slice hown
        exact ⟨a, c, rfl, FRow.own hown HOK.out, hb⟩)
      have H10 := Lib.hid (show ∀ w' (SS : Nat → Prop) a c, Below w4.heap.size w4 w' → FRow SS w' (.slice a N.fs.length c) N.fs → Calls Tryz.prog 10 #[.agg #[.int .i64 N.next, .int .i64 N.log, .slice a N.fs.length c], .agg #[.int .i64 N.next, .int .i64 N.log, (.slice sa N.fs.length sc)]] w' (fun e w'' => e = .returned (.bool true) ∧ Below w'.heap.size w' w'') from fun w' SS a c hb hr => by
        have := lsame_any _ _ w' N N _ _ hr (HRV.out.below hb) (by omega)
        rw [stEq_refl] at this
        exact this)
      have HC4 := Lib.hid (show ∀ w', Below w4.heap.size w4 w' → (w'.cell? ⟨X, 2, none⟩ = some (.int .i64 N.next) ∧ w'.cell? ⟨X, 3, none⟩ = some (.int .i64 N.log) ∧ w'.cell? ⟨X, 4, none⟩ = some ((.slice sa N.fs.length sc))) from fun w' Y => (wc ((Y.block X (heap_lt HBK4.out)).trans HBK4.out)).2.2.1)
      have HY0 := Lib.hid (show Below w4.heap.size w4 w4.drew from (Below.refl _ _).drew)
      have HMD := Lib.hid (HM4.out.quiet HY0.out)
      go_region_held3 (fun w' => w'.cell? ⟨X, 2, none⟩ = some (.int .i64 N.next) ∧ w'.cell? ⟨X, 3, none⟩ = some (.int .i64 N.log) ∧ w'.cell? ⟨X, 4, none⟩ = some ((.slice sa N.fs.length sc)))
        (first | exact HC4.out _ HY0.out | exact HC4.out _ YA | exact HC4.out _ YC | assumption)
        (first
          | (go_at_call 17; ((with_reducible refine (H17.out _ HMD.out).mono ?_); rintro e wA ⟨ga, gc, rfl, hrA, hbA⟩; have YA := HY0.out.trans (hbA.mono HY0.out.size)))
          | (go_at_call 10; ((with_reducible refine (H10.out _ _ _ _ YA hrA).mono ?_); rintro e wC ⟨rfl, hbC⟩; have YC := YA.trans (hbC.mono YA.size))))
      have HYC := Lib.hid YC
      clear YA YC hbA hbC hrA
      go_wp2_with fail
      go_ret
      exact ⟨rfl, ⟨HM4.out.quiet HYC.out, hxb, hxm, hne, (.slice sa N.fs.length sc), (.slice sa N.fs.length sc), (HYC.out.block X (heap_lt HBK4.out)).trans HBK4.out, HRV.out.below HYC.out, HRV.out.below HYC.out⟩, HA4.out.trans (.of_below HYC.out)⟩
end

section
open Go.RowKit Go.Maps

theorem W0.bk {w w' : World} {X b m : Nat} {pm : Value} {d d' : Dk} {S T : St} {bd : Bool} (h : W0 w X b m pm d S T bd) (hk : Bk w w' b m d') : W0 w' X b m pm d' S T bd := by
  obtain ⟨vs, vt, h1, h2, h3⟩ := h.blk
  exact ⟨hk.dat, hk.ok, h.xb, h.xm, vs, vt, (hk.but.block X (heap_lt h1) (by simp [h.xb, h.xm])).trans h1, h2.but hk.but (fun k hk _ => by simp [hk.1, hk.2.1]) (fun _ h _ => h), h3.but hk.but (fun k hk _ => by simp [hk.1, hk.2.1]) (fun _ h _ => h)⟩
theorem Wd.quiet {w w' : World} {X x b m : Nat} {d : Dk} {M S T : St} {dead bd : Bool} (h : Wd w X x b m d M S T dead bd) (hb : Below w.heap.size w w') : Wd w' X x b m d M S T dead bd := by
  obtain ⟨vs, vt, h1, h2, h3⟩ := h.blk
  exact ⟨h.mn.quiet hb, h.xb, h.xm, h.xx, vs, vt, (hb.block X (heap_lt h1)).trans h1, h2.below hb, h3.below hb⟩
theorem W0.cell {w : World} {X b m : Nat} {pm : Value} {d : Dk} {S T : St} {bd : Bool} (h : W0 w X b m pm d S T bd) : w.cell? ⟨X, 0, none⟩ = some (.pointer (some ⟨b, 0, none⟩)) ∧ X < w.heap.size := by
  obtain ⟨vs, vt, h1, _⟩ := h.blk
  exact ⟨(wc h1).1, heap_lt h1⟩
set_option maxRecDepth 100000 in
set_option maxHeartbeats 4000000 in
theorem wagain_any (w : World) (X b m : Nat) (pm : Value) (d : Dk) (S T N : St) (bd : Bool) (h : W0 w X b m pm d S T bd) (hpm : ∀ s, pm ≠ .string s) (hk : Kpt d.fs N) (hN : N = S ∨ N = T) (hl : N.fs.length ≤ 200) (hok : ∀ f ∈ N.fs, FiOk f)
    (ka : Option Addr) (kn kc : Nat) (ks : List Int) (hkl : ks.length = kn) (hkn : kn ≤ 1000) (hks : 0 < kn → ∃ kb ko, ka = some ⟨kb, ko, none⟩ ∧ kb ≠ b ∧ ∀ i, i < kn → w.cell? ⟨kb, ko + i, none⟩ = some (.int .i64 (ks.getD i 0))) :
    Calls Tryz.prog 33 #[.pointer (some ⟨X, 0, none⟩), .slice ka kn kc] w fun e w' => e = .returned (.bool true) ∧ ∃ x', w.heap.size ≤ x' ∧ Wd w' X x' b m (startD (crD ks d)) N N N false bd ∧ But [b, m, X] w w' := by
  have HD := Lib.hid h
  have HK := Lib.hid hk
  have HN := Lib.hid hN
  have HOK := Lib.hid hok
  have HPM := Lib.hid hpm
  have HKS := Lib.hid hks
  have HKL := Lib.hid hkl
  obtain ⟨c0, xl⟩ := h.cell
  clear h hk hN hok hpm hks hkl
  go_enter Tryz.func33, Tryz.ntmps33
  go_wp2_with fail
  refine (Bk.crash (w0 := w) ⟨HD.out.dat, HD.out.ok, But.refl _ _⟩ ka kn kc ks HKL.out (by omega) HKS.out rfl).mono ?_
  rintro e w1 ⟨rfl, hk1⟩
  have HK1 := Lib.hid hk1
  have HD1 := Lib.hid (HD.out.bk hk1)
  clear hk1 c0 xl
  obtain ⟨c0, xl⟩ := HD1.out.cell
  go_wp2_with fail
  refine (HK1.out.start (d' := startD (crD ks d)) rfl).mono ?_
  rintro e w2 ⟨rfl, hk2⟩
  have HK2 := Lib.hid hk2
  have HD2 := Lib.hid (HD.out.bk hk2)
  clear hk2 c0 xl
  obtain ⟨c0, xl⟩ := HD2.out.cell
  go_wp2_with fail
  refine (wopen_any w2 X b m pm (startD (crD ks d)) S T N bd HD2.out HPM.out (start_up _) (Kpt.start (HK.out.crash ks)) HN.out hl HOK.out).mono ?_
  rintro e w3 ⟨rfl, hd3, hb3⟩
  have HD3 := Lib.hid hd3
  have HB3 := Lib.hid hb3
  clear hd3 hb3
  go_wp2_with fail
  go_ret
  exact ⟨rfl, _, HK2.out.but.size, HD3.out, (HK2.out.but.wider (by simp)).trans (HB3.out.wider (by simp))⟩
end
end Go.Proofs.YtiiafpbonkcokaaGreat
