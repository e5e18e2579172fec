/-
  A log in memory ('WAt'); 'whole', 'off', 'told'.
-/
import Derived.Test.YtcohbfabcdjefaaGreatDoorNb
import Derived.Test.YtcohbfabcdjefaaGreatDoorIn
import Derived.BigQuiet
namespace Go.Proofs.YtcohbfabcdjefaaGreatDoor
open Go.RowKit Go.Maps

theorem heap_lt {w : World} {k : Nat} {o : Obj} (h : w.heap[k]? = some o) : k < w.heap.size := (Array.getElem?_eq_some_iff.1 h).1
theorem own_type {w : World} {B : Nat} {T T' : TypeId} {z : Nat} {v : Value} {n : Nat} {xs : List Value} {k : Nat} {cs : Array Value} (h : w.ownsRow B T z v n xs) (hk : w.heap[k]? = some (.cells cs T' (0, 0))) (hne : T' ≠ T) : v.ownBlock ≠ some k := by
  rcases h.2 with ⟨rfl, _⟩ | ⟨g, cap, cur, rfl, _, hg, _⟩
  · intro e; cases e
  · intro e
    have : g = k := by simpa [Value.ownBlock] using e
    subst this
    rw [hk] at hg; injection hg with e2; injection e2 with _ e3; exact hne e3
theorem own_base {w : World} {B B' : Nat} {T : TypeId} {k : Nat} {v : Value} {n : Nat} {xs : List Value} (h : w.ownsRow B T k v n xs) (hB : B' ≤ B) : w.ownsRow B' T k v n xs := by
  obtain ⟨h1, h2⟩ := h
  refine ⟨h1, h2.imp id ?_⟩
  rintro ⟨g, cap, cur, e, hg, r⟩
  exact ⟨g, cap, cur, e, Nat.le_trans hB hg, r⟩
theorem own_slice {w : World} {B : Nat} {T : TypeId} {k : Nat} {v : Value} {n : Nat} {xs : List Value} (h : w.ownsRow B T k v n xs) : ∃ a c, v = .slice a n c := by
  rcases h.2 with ⟨rfl, rfl⟩ | ⟨g, cap, cur, rfl, _⟩
  · exact ⟨_, _, rfl⟩
  · exact ⟨_, _, rfl⟩

/-- v is a slice in block g that holds the numbers l -/
def OldAt (w : World) (g : Nat) (v : Value) (l : List Nat) : Prop :=
  (v = .slice none 0 0 ∧ l = []) ∨ ∃ off cap cur, v = .slice (some ⟨g, off, none⟩) l.length cap ∧ w.heap[g]? = some (.cells cur 3 (0, 0)) ∧ l.length ≤ cap ∧ cap ≤ maxLen ∧ off + cap ≤ cur.size ∧ ∀ i (h : i < l.length), cur[off + i]? = some (.int .i64 (l[i] : Nat))
theorem OldAt.nil (w : World) (g : Nat) : OldAt w g (.slice none 0 0) [] := .inl ⟨rfl, rfl⟩
theorem OldAt.shape {w : World} {g : Nat} {v : Value} {l : List Nat} (h : OldAt w g v l) : ∃ a c, v = .slice a l.length c := by
  rcases h with ⟨rfl, rfl⟩ | ⟨off, cap, cur, rfl, _⟩
  · exact ⟨_, _, rfl⟩
  · exact ⟨_, _, rfl⟩
theorem OldAt.block {w w' : World} {g : Nat} {v : Value} {l : List Nat} (h : OldAt w g v l) (hb : ∀ cur, w.heap[g]? = some (.cells cur 3 (0, 0)) → w'.heap[g]? = some (.cells cur 3 (0, 0))) : OldAt w' g v l := by
  rcases h with h | ⟨off, cap, cur, h1, h2, h3⟩
  · exact .inl h
  · exact .inr ⟨off, cap, cur, h1, hb _ h2, h3⟩
theorem OldAt.cell {w : World} {g : Nat} {v : Value} {l : List Nat} (h : OldAt w g v l) (hl : 0 < l.length) : ∃ off cap, v = .slice (some ⟨g, off, none⟩) l.length cap ∧ l.length ≤ cap ∧ cap ≤ maxLen ∧ g < w.heap.size ∧ ∀ i (h : i < l.length), w.cell? ⟨g, off + i, none⟩ = some (.int .i64 (l[i] : Nat)) := by
  rcases h with ⟨_, rfl⟩ | ⟨off, cap, cur, h1, h2, h3, h4, h5, h6⟩
  · cases hl
  · exact ⟨off, cap, h1, h3, h4, heap_lt h2, fun i hi => by simp [World.cell?, h2, h6 i hi]⟩

def walCells (sb : Nat) (x : Lg) (v : Value) : Array Value := #[.pointer (some ⟨sb, 0, none⟩), .string x.log, v, .int .i64 x.last, .bool x.dead]
def segCells (db : Nat) (x : Lg) : Array Value := #[.pointer (some ⟨db, 0, none⟩), .string (fileB x.log x.fr), .int .i64 x.fr, .int .i64 x.size]
/-- block b holds a log, block sb its file, block ob the numbers of the files ahead -/
structure WAt (w : World) (b sb ob db : Nat) (x : Lg) : Prop where
  blk : ∃ v, w.heap[b]? = some (.cells (walCells sb x v) 167 (0, 0)) ∧ OldAt w ob v x.old
  seg : w.heap[sb]? = some (.cells (segCells db x) 192 (0, 0))
theorem WAt.lt {w : World} {b sb ob db : Nat} {x : Lg} (h : WAt w b sb ob db x) : b < w.heap.size ∧ sb < w.heap.size := by obtain ⟨v, h1, _⟩ := h.blk; exact ⟨heap_lt h1, heap_lt h.seg⟩
theorem WAt.ne {w : World} {b sb ob db : Nat} {x : Lg} (h : WAt w b sb ob db x) : b ≠ sb := by
  obtain ⟨v, h1, _⟩ := h.blk
  rintro rfl
  have := h1.symm.trans h.seg
  simp at this
theorem WAt.far {w : World} {b sb ob db : Nat} {x : Lg} (h : WAt w b sb ob db x) {k : Nat} {cs : Array Value} {T : TypeId} {fr : Nat × Nat} (hk : w.heap[k]? = some (.cells cs T fr)) (h1 : T ≠ 167) (h2 : T ≠ 192) : k ≠ b ∧ k ≠ sb := by
  obtain ⟨v, hb, _⟩ := h.blk
  refine ⟨?_, ?_⟩
  · rintro rfl
    rw [hb] at hk; injection hk with e; injection e with _ e2; exact h1 e2.symm
  · rintro rfl
    have := h.seg.symm.trans hk; injection this with e; injection e with _ e2; exact h2 e2.symm
theorem WAt.blocks {w w' : World} {b sb ob db : Nat} {x : Lg} (h : WAt w b sb ob db x) (hb : ∀ k o, w.heap[k]? = some o → k = b ∨ k = sb ∨ k = ob → w'.heap[k]? = some o) : WAt w' b sb ob db x := by
  obtain ⟨v, h1, h2⟩ := h.blk
  exact ⟨⟨v, hb b _ h1 (.inl rfl), h2.block (fun cur hk => hb ob _ hk (.inr (.inr rfl)))⟩, hb sb _ h.seg (.inr (.inl rfl))⟩
theorem WAt.below {w w' : World} {b sb ob db : Nat} {x : Lg} (h : WAt w b sb ob db x) (hb : Below w.heap.size w w') : WAt w' b sb ob db x :=
  h.blocks fun k o hk _ => (hb.block k (heap_lt hk)).trans hk
theorem WAt.but {w w' : World} {b sb ob db : Nat} {x : Lg} {l : List Nat} (h : WAt w b sb ob db x) (hb : But l w w') (hl : b ∉ l ∧ sb ∉ l ∧ ob ∉ l) : WAt w' b sb ob db x :=
  h.blocks fun k o hk e => (hb.block k (heap_lt hk) (by rcases e with rfl | rfl | rfl; exact hl.1; exact hl.2.1; exact hl.2.2)).trans hk
/-- a log and its disk -/
structure WD (w : World) (b sb ob db m : Nat) (d : Dk) (x : Lg) : Prop where
  wal : WAt w b sb ob db x
  dat : DAt w db m d
  ok : Fit d
  dk : ∀ k, k = b ∨ k = sb ∨ k = ob → k ≠ db ∧ k ≠ m
theorem WD.below {w w' : World} {b sb ob db m : Nat} {d : Dk} {x : Lg} (h : WD w b sb ob db m d x) (hb : Below w.heap.size w w') : WD w' b sb ob db m d x := ⟨h.wal.below hb, h.dat.below hb, h.ok, h.dk⟩
theorem WD.drewN {w : World} {b sb ob db m : Nat} {d : Dk} {x : Lg} (h : WD w b sb ob db m d x) (n : Nat) : WD (w.drewN n) b sb ob db m d x := h.below (below_drewN (Below.refl _ _) n)
theorem WD.drew {w : World} {b sb ob db m : Nat} {d : Dk} {x : Lg} (h : WD w b sb ob db m d x) : WD w.drew b sb ob db m d x := h.below (Below.refl _ _).drew
/-- the disk has turned, the log has not -/
theorem WD.disk {w w' : World} {b sb ob db m : Nat} {d d' : Dk} {x : Lg} (h : WD w b sb ob db m d x) (hd : DAt w' db m d') (hb : But [db, m] w w') (ok : Fit d') : WD w' b sb ob db m d' x :=
  ⟨h.wal.but hb ⟨by have := h.dk b (.inl rfl); simp [this], by have := h.dk sb (.inr (.inl rfl)); simp [this], by have := h.dk ob (.inr (.inr rfl)); simp [this]⟩, hd, ok, h.dk⟩
/-- the cells of the log, and of its file -/
structure C5 (w : World) (b sb db : Nat) (x : Lg) (v : Value) : Prop where
  b0 : w.cell? ⟨b, 0, none⟩ = some (.pointer (some ⟨sb, 0, none⟩))
  b1 : w.cell? ⟨b, 1, none⟩ = some (.string x.log)
  b2 : w.cell? ⟨b, 2, none⟩ = some v
  b3 : w.cell? ⟨b, 3, none⟩ = some (.int .i64 x.last)
  b4 : w.cell? ⟨b, 4, none⟩ = some (.bool x.dead)
  s0 : w.cell? ⟨sb, 0, none⟩ = some (.pointer (some ⟨db, 0, none⟩))
  s1 : w.cell? ⟨sb, 1, none⟩ = some (.string (fileB x.log x.fr))
  s2 : w.cell? ⟨sb, 2, none⟩ = some (.int .i64 x.fr)
  s3 : w.cell? ⟨sb, 3, none⟩ = some (.int .i64 x.size)
  zb : ∀ o, w.frozen? ⟨b, o, none⟩ = false
  zs : ∀ o, w.frozen? ⟨sb, o, none⟩ = false
theorem WAt.cells {w : World} {b sb ob db : Nat} {x : Lg} (h : WAt w b sb ob db x) : ∃ v, C5 w b sb db x v ∧ OldAt w ob v x.old := by
  obtain ⟨v, h1, h2⟩ := h.blk
  have h3 := h.seg
  unfold walCells at h1
  unfold segCells at h3
  exact ⟨v, ⟨by simp [World.cell?, h1], by simp [World.cell?, h1], by simp [World.cell?, h1], by simp [World.cell?, h1], by simp [World.cell?, h1], by simp [World.cell?, h3], by simp [World.cell?, h3], by simp [World.cell?, h3], by simp [World.cell?, h3], fun o => by simp [World.frozen?, h1], fun o => by simp [World.frozen?, h3]⟩, h2⟩
/-- the power has gone -/
theorem WAt.kill {w : World} {b sb ob db : Nat} {x : Lg} (h : WAt w b sb ob db x) : WAt (w.setCell ⟨b, 4, none⟩ (.bool true)) b sb ob db { x with dead := true } := by
  obtain ⟨v, h1, h2⟩ := h.blk
  refine ⟨⟨v, heap_setCell_same _ _ _ _ _ _ h1, h2.block fun cur hk => (Below.heap_setCell _ _ _ _ (h.far hk (by decide) (by decide)).1).trans hk⟩, (Below.heap_setCell _ _ _ _ (Ne.symm h.ne)).trans h.seg⟩

theorem fileB_len {x : Lg} (h : x.log.size ≤ 1000) : (fileB x.log x.fr).size ≤ maxLen := by
  unfold fileB maxLen; rw [bA_size, fileL_len]; omega

theorem whole_any (w : World) (b sb ob db m : Nat) (d : Dk) (x : Lg) (h : WD w b sb ob db m d x) (hl : x.log.size ≤ 1000) :
    Calls Tryz.prog 212 #[.pointer (some ⟨sb, 0, none⟩)] w fun e w' => e = .returned (.bool (wholeB d x)) ∧ Below w.heap.size w w' := by
  obtain ⟨v, hc, _⟩ := h.wal.cells
  have s0 := hc.s0
  have s1 := hc.s1
  have s3 := hc.s3
  have hf := fileB_len hl
  have hsl := h.wal.lt.2
  have HR := Lib.hid (show ∀ W, Below w.heap.size w W → Calls Tryz.prog 71 #[.pointer (some ⟨db, 0, none⟩), .string (fileB x.log x.fr)] W fun e w' => e = .returned (.tuple #[.string (readS d x.nm), .int .i64 (readE d x.nm)]) ∧ Below W.heap.size W w' from fun W hb => (read_any W db m d (fileB x.log x.fr) (h.dat.below hb) hf))
  have HS := Lib.hid (show ∀ W, Below w.heap.size w W → W.cell? ⟨sb, 0, none⟩ = some (.pointer (some ⟨db, 0, none⟩)) ∧ W.cell? ⟨sb, 1, none⟩ = some (.string (fileB x.log x.fr)) ∧ W.cell? ⟨sb, 3, none⟩ = some (.int .i64 x.size) from fun W hb => ⟨(hb.cell (p := ⟨sb, 0, none⟩) hsl).trans s0, (hb.cell (p := ⟨sb, 1, none⟩) hsl).trans s1, (hb.cell (p := ⟨sb, 3, none⟩) hsl).trans s3⟩)
  have HB := Lib.hid (Below.refl w.heap.size w).drew
  have HW := Lib.hid (show wholeB d x = ((readE d x.nm == 0) && (((readS d x.nm).size : Int) == x.size)) from rfl)
  clear h hc hf
  generalize wholeB d x = r at *
  generalize readE d x.nm = E at *
  generalize readS d x.nm = S at *
  generalize fileB x.log x.fr = F at *
  by_cases hE : E = 0
  · have e1 : (E == 0) = true := by simp [hE]
    rw [e1, Bool.true_and] at HW
    clear hE
    go_enter Tryz.func212, Tryz.ntmps212
    go_wp2_with fail
    go_region_held3 (fun w' => w'.cell? ⟨sb, 0, none⟩ = some (.pointer (some ⟨db, 0, none⟩)) ∧ w'.cell? ⟨sb, 1, none⟩ = some (.string F))
      (first | exact ⟨(HS.out _ HB.out).1, (HS.out _ HB.out).2.1⟩ | exact ⟨(HS.out _ hb1).1, (HS.out _ hb1).2.1⟩ | assumption)
      (first | (go_at_call 71; ((with_reducible refine (HR.out _ HB.out).mono ?_); rintro e w1 ⟨rfl, hb⟩; have hb1 := HB.out.trans (hb.mono HB.out.size))))
    all_goals
      obtain ⟨_, _, c3⟩ := HS.out _ hb1
      have HB1 := Lib.hid hb1
      clear hb1 hb
      go_wp2_with fail
      go_ret
      exact ⟨ret_bool HW.out.symm, HB1.out⟩
  · have e1 : (E == 0) = false := by simp [hE]
    rw [e1, Bool.false_and] at HW
    clear hE
    go_enter Tryz.func212, Tryz.ntmps212
    go_wp2_with fail
    go_region_held3 (fun w' => w'.cell? ⟨sb, 0, none⟩ = some (.pointer (some ⟨db, 0, none⟩)) ∧ w'.cell? ⟨sb, 1, none⟩ = some (.string F))
      (first | exact ⟨(HS.out _ HB.out).1, (HS.out _ HB.out).2.1⟩ | exact ⟨(HS.out _ hb1).1, (HS.out _ hb1).2.1⟩ | assumption)
      (first | (go_at_call 71; ((with_reducible refine (HR.out _ HB.out).mono ?_); rintro e w1 ⟨rfl, hb⟩; have hb1 := HB.out.trans (hb.mono HB.out.size))))
    all_goals
      obtain ⟨_, _, c3⟩ := HS.out _ hb1
      have HB1 := Lib.hid hb1
      clear hb1 hb
      go_wp2_with fail
      go_ret
      exact ⟨ret_bool HW.out.symm, HB1.out⟩
theorem WD.kill {w : World} {b sb ob db m : Nat} {d : Dk} {x : Lg} (h : WD w b sb ob db m d x) : WD (w.setCell ⟨b, 4, none⟩ (.bool true)) b sb ob db m d { x with dead := true } := by
  have hb : But [b] w (w.setCell ⟨b, 4, none⟩ (.bool true)) := (But.refl [b] w).setCell (.inl (by simp)) _
  have hk := h.dk b (.inl rfl)
  exact ⟨h.wal.kill, h.dat.but hb (by simpa using Ne.symm hk.1) (by simpa using Ne.symm hk.2), h.ok, h.dk⟩
theorem off_any (w : World) (b sb ob db m : Nat) (d : Dk) (x : Lg) (h : WD w b sb ob db m d x) (hl : x.log.size ≤ 1000) :
    Calls Tryz.prog 161 #[.pointer (some ⟨b, 0, none⟩)] w fun e w' => e = .returned (.int .i64 (offE d x)) ∧ WD w' b sb ob db m d (offX d x) ∧ But [b] w w' := by
  obtain ⟨v, hc, _⟩ := h.wal.cells
  have b0 := hc.b0
  have b4 := hc.b4
  have z4 := hc.zb 4
  have hbl := h.wal.lt.1
  have HD := Lib.hid h
  cases hd : x.dead
  · rw [hd] at b4
    cases hw : wholeB d x
    · have e1 : offE d x = 7 ∧ offX d x = { x with dead := true } := by simp [offE, offX, hd, hw]
      rw [e1.1, e1.2]
      have HW := Lib.hid (show Calls Tryz.prog 212 #[.pointer (some ⟨sb, 0, none⟩)] w fun e w' => e = .returned (.bool false) ∧ Below w.heap.size w w' from by have := whole_any w b sb ob db m d x h hl; rwa [hw] at this)
      clear hc h hd hw e1
      go_enter Tryz.func161, Tryz.ntmps161
      go_wp2_with fail
      refine HW.out.mono ?_
      rintro e w1 ⟨rfl, hb⟩
      have z41 : w1.frozen? ⟨b, 4, none⟩ = false := (hb.frozen (p := ⟨b, 4, none⟩) hbl).trans z4
      have b41 : w1.cell? ⟨b, 4, none⟩ = some (.bool false) := (hb.cell (p := ⟨b, 4, none⟩) hbl).trans b4
      have HB := Lib.hid hb
      clear hb HW
      go_wp2_with fail
      go_ret
      exact ⟨rfl, (HD.out.below HB.out).kill, (But.of_below HB.out).setCell (.inl (by simp)) _⟩
    · have e1 : offE d x = 0 ∧ offX d x = x := by simp [offE, offX, hd, hw]
      rw [e1.1, e1.2]
      have HW := Lib.hid (show Calls Tryz.prog 212 #[.pointer (some ⟨sb, 0, none⟩)] w fun e w' => e = .returned (.bool true) ∧ Below w.heap.size w w' from by have := whole_any w b sb ob db m d x h hl; rwa [hw] at this)
      clear hc h hd hw e1
      go_enter Tryz.func161, Tryz.ntmps161
      go_wp2_with fail
      refine HW.out.mono ?_
      rintro e w1 ⟨rfl, hb⟩
      have HB := Lib.hid hb
      clear hb HW
      go_wp2_with fail
      go_ret
      exact ⟨rfl, HD.out.below HB.out, .of_below HB.out⟩
  · rw [hd] at b4
    have e1 : offE d x = 7 ∧ offX d x = { x with dead := true } := by
      refine ⟨by simp [offE, hd], ?_⟩
      simp only [offX, hd, if_true]
      cases x; simp_all
    rw [e1.1, e1.2]
    clear hc h hd e1
    go_enter Tryz.func161, Tryz.ntmps161
    go_wp2_with fail
    go_ret
    exact ⟨rfl, HD.out.kill, (But.refl _ _).setCell (.inl (by simp)) _⟩
theorem woff_nil (w : World) : Calls Tryz.prog 161 #[.pointer none] w fun e w' => e = .returned (.int .i64 2) ∧ w = w' := by
  go_enter Tryz.func161, Tryz.ntmps161
  go_wp2_with fail
  go_ret
  exact ⟨rfl, rfl⟩
theorem told_any (w : World) (b sb ob db m : Nat) (d : Dk) (x : Lg) (e : Int) (h : WD w b sb ob db m d x) :
    Calls Tryz.prog 162 #[.pointer (some ⟨b, 0, none⟩), .int .i64 e] w fun r w' => r = .returned (.int .i64 (toldE e)) ∧ WD w' b sb ob db m d (toldX e x) ∧ But [b] w w' := by
  obtain ⟨v, hc, _⟩ := h.wal.cells
  have b4 := hc.b4
  have z4 := hc.zb 4
  have HD := Lib.hid h
  clear hc h
  by_cases h7 : e = 7
  · subst h7
    have e1 : toldE 7 = 7 ∧ toldX 7 x = { x with dead := true } := ⟨rfl, rfl⟩
    rw [e1.1, e1.2]
    clear e1
    go_enter Tryz.func162, Tryz.ntmps162
    go_wp2_with fail
    go_ret
    exact ⟨rfl, HD.out.kill, (But.refl _ _).setCell (.inl (by simp)) _⟩
  · have e7 : (e == 7) = false := by simpa using h7
    by_cases h3 : e = 3
    · subst h3
      have e1 : toldE 3 = 6 ∧ toldX 3 x = x := ⟨rfl, rfl⟩
      rw [e1.1, e1.2]
      clear e1 h7
      go_enter Tryz.func162, Tryz.ntmps162
      go_wp2_with fail
      go_ret
      exact ⟨rfl, HD.out, But.refl _ _⟩
    · have e3 : (e == 3) = false := by simpa using h3
      have e1 : toldE e = e ∧ toldX e x = x := by simp [toldE, toldX, h7, h3]
      rw [e1.1, e1.2]
      clear e1 h7 h3
      go_enter Tryz.func162, Tryz.ntmps162
      go_wp2_with fail
      go_ret
      exact ⟨rfl, HD.out, But.refl _ _⟩
end Go.Proofs.YtcohbfabcdjefaaGreatDoor
