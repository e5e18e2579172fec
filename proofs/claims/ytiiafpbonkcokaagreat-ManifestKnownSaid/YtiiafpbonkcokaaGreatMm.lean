/-
  A disk apart from all else ('Bk'), and 'save': the text laid beside, synced, put in its place.
-/
import Derived.Test.YtiiafpbonkcokaaGreatMl
namespace Go.Proofs.YtiiafpbonkcokaaGreat
open Go.RowKit Go.Maps

/-- since world w0 nothing but the disk at b has turned; it is d now -/
structure Bk (w0 w : World) (b m : Nat) (d : Dk) : Prop where
  dat : DAt w b m d
  ok : Fit d
  but : But [b, m] w0 w
theorem Bk.step {w0 w w' : World} {b m : Nat} {d d' : Dk} (h : Bk w0 w b m d) (hd : DAt w' b m d') (hb : But [b, m] w w') (ok : Fit d') : Bk w0 w' b m d' := ⟨hd, ok, h.but.trans hb⟩
theorem Bk.quiet {w0 w w' : World} {b m : Nat} {d : Dk} (h : Bk w0 w b m d) (hb : Below w.heap.size w w') : Bk w0 w' b m d := ⟨h.dat.below hb, h.ok, h.but.trans (.of_below hb)⟩
theorem Bk.drewN {w0 w : World} {b m : Nat} {d : Dk} (h : Bk w0 w b m d) (k : Nat) : Bk w0 (w.drewN k) b m d := h.quiet (below_drewN (Below.refl _ _) k)
theorem Bk.drew {w0 w : World} {b m : Nat} {d : Dk} (h : Bk w0 w b m d) : Bk w0 w.drew b m d := h.quiet ((Below.refl _ _).drew)
theorem Bk.cell {w0 w : World} {b m : Nat} {d : Dk} (h : Bk w0 w b m d) {k o : Nat} {v : Value} (hc : w0.cell? ⟨k, o, none⟩ = some v) (hb : k ≠ b) (hm : k ≠ m) : w.cell? ⟨k, o, none⟩ = some v :=
  (h.but.cell (World.block_lt_of_cell? w0 _ hc) (by simp [hb, hm])).trans hc
theorem Bk.create {w0 w : World} {b m : Nat} {d : Dk} (h : Bk w0 w b m d) {s : ByteArray} (hs : s.size ≤ maxLen) {E : Int} {d' : Dk} (hE : createE d s.data.toList = E) (hD : createD d s.data.toList = d') :
    Calls Tryz.prog 25 #[.pointer (some ⟨b, 0, none⟩), .string s] w fun e w' => e = .returned (.int .i64 E) ∧ Bk w0 w' b m d' := by
  subst hD hE
  exact (create_any w b m d s h.dat hs h.ok).mono fun _ _ ⟨he, hd, hb⟩ => ⟨he, h.step hd hb (h.ok.create _)⟩
theorem Bk.append {w0 w : World} {b m : Nat} {d : Dk} (h : Bk w0 w b m d) {s x : ByteArray} (hs : s.size ≤ maxLen) (hx : x.size ≤ 1000000000000000) {E : Int} {d' : Dk} (hE : appendE d s.data.toList x = E) (hD : appendD d s.data.toList x = d') :
    Calls Tryz.prog 69 #[.pointer (some ⟨b, 0, none⟩), .string s, .string x] w fun e w' => e = .returned (.int .i64 E) ∧ Bk w0 w' b m d' := by
  subst hD hE
  exact (append_any w b m d s x h.dat hs hx h.ok).mono fun _ _ ⟨he, hd, hb⟩ => ⟨he, h.step hd hb (h.ok.append _ _)⟩
theorem Bk.sync {w0 w : World} {b m : Nat} {d : Dk} (h : Bk w0 w b m d) {s : ByteArray} (hs : s.size ≤ maxLen) {E : Int} {d' : Dk} (hE : syncE d s.data.toList = E) (hD : syncD d s.data.toList = d') :
    Calls Tryz.prog 71 #[.pointer (some ⟨b, 0, none⟩), .string s] w fun e w' => e = .returned (.int .i64 E) ∧ Bk w0 w' b m d' := by
  subst hD hE
  exact (sync_any w b m d s h.dat hs h.ok).mono fun _ _ ⟨he, hd, hb⟩ => ⟨he, h.step hd hb (h.ok.sync _)⟩
theorem Bk.rename {w0 w : World} {b m : Nat} {d : Dk} (h : Bk w0 w b m d) {s x : ByteArray} (hs : s.size ≤ maxLen) (hx : x.size ≤ maxLen) {E : Int} {d' : Dk} (hE : renameE d s.data.toList x.data.toList = E) (hD : renameD d s.data.toList x.data.toList = d') :
    Calls Tryz.prog 73 #[.pointer (some ⟨b, 0, none⟩), .string s, .string x] w fun e w' => e = .returned (.int .i64 E) ∧ Bk w0 w' b m d' := by
  subst hD hE
  exact (rename_any w b m d s x h.dat hs hx h.ok).mono fun _ _ ⟨he, hd, hb⟩ => ⟨he, h.step hd hb (h.ok.rename _ _)⟩
theorem Bk.remove {w0 w : World} {b m : Nat} {d : Dk} (h : Bk w0 w b m d) {s : ByteArray} (hs : s.size ≤ maxLen) {E : Int} {d' : Dk} (hE : removeE d s.data.toList = E) (hD : removeD d s.data.toList = d') :
    Calls Tryz.prog 66 #[.pointer (some ⟨b, 0, none⟩), .string s] w fun e w' => e = .returned (.int .i64 E) ∧ Bk w0 w' b m d' := by
  subst hD hE
  exact (remove_any w b m d s h.dat hs h.ok).mono fun _ _ ⟨he, hd, hb⟩ => ⟨he, h.step hd hb (h.ok.remove _)⟩
theorem Bk.fuse {w0 w : World} {b m : Nat} {d : Dk} (h : Bk w0 w b m d) (n : Int) (hn : n ≤ 9223372036854775807) {d' : Dk} (hD : { d with fuse := max n 0 } = d') :
    Calls Tryz.prog 27 #[.pointer (some ⟨b, 0, none⟩), .int .i64 n] w fun e w' => e = .returned (.tuple #[]) ∧ Bk w0 w' b m d' := by
  subst hD
  exact (fuse_any w b m d h.dat n).mono fun _ _ ⟨he, hd, hb⟩ => ⟨he, h.step hd hb (h.ok.fuse n hn)⟩
theorem Bk.room {w0 w : World} {b m : Nat} {d : Dk} (h : Bk w0 w b m d) (n : Int) (hn : n ≤ 9223372036854775807) {d' : Dk} (hD : { d with room := max n (-1) } = d') :
    Calls Tryz.prog 34 #[.pointer (some ⟨b, 0, none⟩), .int .i64 n] w fun e w' => e = .returned (.tuple #[]) ∧ Bk w0 w' b m d' := by
  subst hD
  exact (room_any w b m d h.dat n).mono fun _ _ ⟨he, hd, hb⟩ => ⟨he, h.step hd hb (h.ok.room n hn)⟩
theorem Bk.start {w0 w : World} {b m : Nat} {d : Dk} (h : Bk w0 w b m d)  {d' : Dk} (hD : startD d = d') :
    Calls Tryz.prog 29 #[.pointer (some ⟨b, 0, none⟩)] w fun e w' => e = .returned (.tuple #[]) ∧ Bk w0 w' b m d' := by
  subst hD
  exact (start_any w b m d h.dat h.ok).mono fun _ _ ⟨he, hd, hb⟩ => ⟨he, h.step hd hb (h.ok.start)⟩
theorem Bk.crash {w0 w : World} {b m : Nat} {d : Dk} (h : Bk w0 w b m d) (ka : Option Addr) (kn kc : Nat) (ks : List Int) (hkl : ks.length = kn) (hkn : kn ≤ 1000000000000000)
    (hk : 0 < kn → ∃ kb ko, ka = some ⟨kb, ko, none⟩ ∧ kb ≠ b ∧ ∀ i, i < kn → w.cell? ⟨kb, ko + i, none⟩ = some (.int .i64 (ks.getD i 0))) {d' : Dk} (hD : { d with fs := crashF ks d.fs, down := true, fuse := 0 } = d') :
    Calls Tryz.prog 14 #[.pointer (some ⟨b, 0, none⟩), .slice ka kn kc] w fun e w' => e = .returned (.tuple #[]) ∧ Bk w0 w' b m d' := by
  subst hD
  exact (crash_any w b m d ka kn kc ks h.dat h.ok hkl hkn hk).mono fun _ _ ⟨he, hd, hb⟩ => ⟨he, h.step hd hb (h.ok.crash ks true)⟩
theorem Bk.read {w0 w : World} {b m : Nat} {d : Dk} (h : Bk w0 w b m d) {s : ByteArray} (hs : s.size ≤ maxLen) {S : ByteArray} {E : Int} (hS : readS d s.data.toList = S) (hE : readE d s.data.toList = E) :
    Calls Tryz.prog 30 #[.pointer (some ⟨b, 0, none⟩), .string s] w fun e w' => e = .returned (.tuple #[.string S, .int .i64 E]) ∧ Bk w0 w' b m d := by
  subst hS hE
  exact (read_any w b m d s h.dat hs).mono fun _ _ ⟨he, hb⟩ => ⟨he, h.quiet hb⟩
theorem Bk.down {w0 w : World} {b m : Nat} {d : Dk} (h : Bk w0 w b m d) {f : Bool} (hf : d.down = f) :
    Calls Tryz.prog 28 #[.pointer (some ⟨b, 0, none⟩)] w fun e w' => e = .returned (.bool f) ∧ w = w' := by
  subst hf
  exact down_any w b m d h.dat

abbrev freshB : ByteArray := ⟨#[109, 97, 110, 105, 102, 101, 115, 116, 46, 110, 101, 119]⟩
abbrev keptB : ByteArray := ⟨#[109, 97, 110, 105, 102, 101, 115, 116, 46, 115, 116, 97, 116, 101]⟩
abbrev fr : Nm := freshB.data.toList
abbrev kp : Nm := keptB.data.toList
/-- a step of 'save' has answered e, and left d -/
def stepS (e : Int) (d : Dk) (k : Dk → Int × Dk) : Int × Dk :=
  if e = 6 then (if removeE d fr = 7 then (7, removeD d fr) else (6, removeD d fr)) else if e = 0 then k d else (e, d)
def save4 (d : Dk) : Int × Dk := stepS (renameE d fr kp) (renameD d fr kp) fun d => (0, d)
def save3 (d : Dk) : Int × Dk := stepS (syncE d fr) (syncD d fr) save4
def save2 (t : ByteArray) (d : Dk) : Int × Dk := stepS (appendE d fr t) (appendD d fr t) save3
def save1 (t : ByteArray) (d : Dk) : Int × Dk := stepS (createE d fr) (createD d fr) (save2 t)
def saveS (t : ByteArray) (d : Dk) : Int × Dk := if removeE d fr = 0 ∨ removeE d fr = 4 then save1 t (removeD d fr) else (removeE d fr, removeD d fr)
theorem fresh_len : freshB.size ≤ maxLen := by decide
theorem kept_len : keptB.size ≤ maxLen := by decide
theorem clo1_any (w0 w : World) (b m x p : Nat) (d : Dk) (hp : w0.cell? ⟨p, 0, none⟩ = some (.pointer (some ⟨x, 0, none⟩))) (hx : w0.cell? ⟨x, 0, none⟩ = some (.pointer (some ⟨b, 0, none⟩))) (hpn : p ≠ b ∧ p ≠ m) (hxn : x ≠ b ∧ x ≠ m) (h : Bk w0 w b m d) :
    Calls Tryz.prog 67 #[.pointer (some ⟨p, 0, none⟩)] w fun e w' => e = .returned (.int .i64 (createE d fr)) ∧ Bk w0 w' b m (createD d fr) := by
  have HB := Lib.hid h
  have cp := h.cell hp hpn.1 hpn.2
  have cx := h.cell hx hxn.1 hxn.2
  clear h hp hx
  go_enter Tryz.func67, Tryz.ntmps67
  go_wp2_with fail
  refine (HB.out.create (s := freshB) fresh_len rfl rfl).mono ?_
  rintro e w1 ⟨rfl, h1⟩
  go_wp2_with fail
  go_ret
  exact ⟨rfl, h1⟩
theorem clo2_any (w0 w : World) (b m x p q : Nat) (d : Dk) (t : ByteArray) (hp : w0.cell? ⟨p, 0, none⟩ = some (.pointer (some ⟨x, 0, none⟩))) (hx : w0.cell? ⟨x, 0, none⟩ = some (.pointer (some ⟨b, 0, none⟩))) (hpn : p ≠ b ∧ p ≠ m) (hxn : x ≠ b ∧ x ≠ m) (hq : w0.cell? ⟨q, 0, none⟩ = some (.string t)) (hqn : q ≠ b ∧ q ≠ m) (ht : t.size ≤ 100000) (h : Bk w0 w b m d) :
    Calls Tryz.prog 68 #[.pointer (some ⟨p, 0, none⟩), .pointer (some ⟨q, 0, none⟩)] w fun e w' => e = .returned (.int .i64 (appendE d fr t)) ∧ Bk w0 w' b m (appendD d fr t) := by
  have HB := Lib.hid h
  have cp := h.cell hp hpn.1 hpn.2
  have cx := h.cell hx hxn.1 hxn.2
  have cq := h.cell hq hqn.1 hqn.2
  have HCs := Lib.hid (fun w1 d1 (h1 : Bk w0 w1 b m d1) => show w1.cell? ⟨p, 0, none⟩ = some (.pointer (some ⟨x, 0, none⟩)) ∧ w1.cell? ⟨x, 0, none⟩ = some (.pointer (some ⟨b, 0, none⟩)) ∧ w1.cell? ⟨q, 0, none⟩ = some (.string t) from ⟨h1.cell hp hpn.1 hpn.2, h1.cell hx hxn.1 hxn.2, h1.cell hq hqn.1 hqn.2⟩)
  clear h hp hx
  go_enter Tryz.func68, Tryz.ntmps68
  go_wp2_with fail
  go_region_held3 (fun w' => w'.cell? ⟨p, 0, none⟩ = some (.pointer (some ⟨x, 0, none⟩)) ∧ w'.cell? ⟨x, 0, none⟩ = some (.pointer (some ⟨b, 0, none⟩)) ∧ w'.cell? ⟨q, 0, none⟩ = some (.string t))
    (first | exact HCs.out _ _ (HB.out.drew) | exact HCs.out _ _ h1 | assumption)
    (first | (go_at_call 69; ((with_reducible refine ((HB.out.drew).append (s := freshB) fresh_len (show t.size ≤ 1000000000000000 by omega) rfl rfl).mono ?_); rintro e w1 ⟨rfl, h1⟩)))
  all_goals
    go_wp2_with fail
    go_ret
    exact ⟨rfl, h1⟩
theorem clo3_any (w0 w : World) (b m x p : Nat) (d : Dk) (hp : w0.cell? ⟨p, 0, none⟩ = some (.pointer (some ⟨x, 0, none⟩))) (hx : w0.cell? ⟨x, 0, none⟩ = some (.pointer (some ⟨b, 0, none⟩))) (hpn : p ≠ b ∧ p ≠ m) (hxn : x ≠ b ∧ x ≠ m) (h : Bk w0 w b m d) :
    Calls Tryz.prog 70 #[.pointer (some ⟨p, 0, none⟩)] w fun e w' => e = .returned (.int .i64 (syncE d fr)) ∧ Bk w0 w' b m (syncD d fr) := by
  have HB := Lib.hid h
  have cp := h.cell hp hpn.1 hpn.2
  have cx := h.cell hx hxn.1 hxn.2
  clear h hp hx
  go_enter Tryz.func70, Tryz.ntmps70
  go_wp2_with fail
  refine (HB.out.sync (s := freshB) fresh_len rfl rfl).mono ?_
  rintro e w1 ⟨rfl, h1⟩
  go_wp2_with fail
  go_ret
  exact ⟨rfl, h1⟩
theorem clo4_any (w0 w : World) (b m x p : Nat) (d : Dk) (hp : w0.cell? ⟨p, 0, none⟩ = some (.pointer (some ⟨x, 0, none⟩))) (hx : w0.cell? ⟨x, 0, none⟩ = some (.pointer (some ⟨b, 0, none⟩))) (hpn : p ≠ b ∧ p ≠ m) (hxn : x ≠ b ∧ x ≠ m) (h : Bk w0 w b m d) :
    Calls Tryz.prog 72 #[.pointer (some ⟨p, 0, none⟩)] w fun e w' => e = .returned (.int .i64 (renameE d fr kp)) ∧ Bk w0 w' b m (renameD d fr kp) := by
  have HB := Lib.hid h
  have cp := h.cell hp hpn.1 hpn.2
  have cx := h.cell hx hxn.1 hxn.2
  clear h hp hx
  go_enter Tryz.func72, Tryz.ntmps72
  go_wp2_with fail
  refine (HB.out.rename (s := freshB) (x := keptB) fresh_len kept_len rfl rfl).mono ?_
  rintro e w1 ⟨rfl, h1⟩
  go_wp2_with fail
  go_ret
  exact ⟨rfl, h1⟩

def rest (t : ByteArray) : Nat → Dk → Int × Dk
  | 0 => save1 t
  | 1 => save2 t
  | 2 => save3
  | 3 => save4
  | _ => fun d => (0, d)
theorem stepS_0 {e : Int} {d : Dk} {k : Dk → Int × Dk} (h : e = 0) : stepS e d k = k d := by subst h; rfl
theorem stepS_67 {e : Int} {d : Dk} {k : Dk → Int × Dk} (h : e = 6) (h7 : removeE d fr = 7) : stepS e d k = (7, removeD d fr) := by subst h; simp [stepS, h7]
theorem stepS_6 {e : Int} {d : Dk} {k : Dk → Int × Dk} (h : e = 6) (h7 : removeE d fr ≠ 7) : stepS e d k = (6, removeD d fr) := by subst h; simp [stepS, h7]
theorem stepS_e {e : Int} {d : Dk} {k : Dk → Int × Dk} (h : e ≠ 6) (h0 : e ≠ 0) : stepS e d k = (e, d) := by simp [stepS, h, h0]
theorem saveRet {w w2 w3 : World} {b m : Nat} {d d' : Dk} {e : Int} {t : ByteArray} (hb : But [b, m] w w2) (h : Bk w2 w3 b m d') (hs : saveS t d = (e, d')) : Ending.returned (.int .i64 e) = .returned (.int .i64 (saveS t d).1) ∧ Bk w w3 b m (saveS t d).2 := by
  rw [hs]; exact ⟨rfl, h.dat, h.ok, hb.trans h.but⟩

set_option maxRecDepth 100000 in
set_option maxHeartbeats 4000000 in
theorem save_any (w : World) (b m x : Nat) (d : Dk) (t : ByteArray) (hx : w.cell? ⟨x, 0, none⟩ = some (.pointer (some ⟨b, 0, none⟩))) (hxn : x ≠ b ∧ x ≠ m) (ht : t.size ≤ 100000) (hd : DAt w b m d) (ok : Fit d) :
    Calls Tryz.prog 50 #[.pointer (some ⟨x, 0, none⟩), .string t] w fun e w' => e = .returned (.int .i64 (saveS t d).1) ∧ Bk w w' b m (saveS t d).2 := by
  have hxl := World.block_lt_of_cell? w _ hx
  have hbl := World.block_lt_of_cell? w _ hd.c0
  have hml : m < w.heap.size := hd.map.lt
  obtain ⟨W, hW⟩ : ∃ W, (w.alloc (.cells #[.pointer (some ⟨x, 0, none⟩)] 40)).alloc (.cells #[.string t] 9) = W := ⟨_, rfl⟩
  have hbel : Below w.heap.size w W := by rw [← hW]; exact bl2 _ _ _
  have hp1 : W.cell? ⟨w.heap.size, 0, none⟩ = some (.pointer (some ⟨x, 0, none⟩)) := by rw [← hW]; simp [go_sem]
  have hq1 : W.cell? ⟨w.heap.size + 1, 0, none⟩ = some (.string t) := by rw [← hW]; simp [go_sem]
  have hx1 : W.cell? ⟨x, 0, none⟩ = some (.pointer (some ⟨b, 0, none⟩)) := (hbel.cell (p := ⟨x, 0, none⟩) hxl).trans hx
  have HBE := Lib.hid hbel
  have HB := Lib.hid (show Bk W W b m d from ⟨hd.below hbel, ok, But.refl _ _⟩)
  clear hd ok hbel
  have HW := Lib.hid hW
  clear hW
  go_enter Tryz.func50, Tryz.ntmps50
  go_upto_region 1 with (fail)
  rw [HW.out]
  go_wp2_with fail
  refine (HB.out.remove (s := freshB) fresh_len rfl rfl).mono ?_
  rintro e w1 ⟨rfl, h1⟩
  have H1 := Lib.hid h1
  clear h1
  by_cases he : removeE d fr = 0 ∨ removeE d fr = 4
  · have HR := Lib.hid (show saveS t d = rest t 0 (removeD d fr) by unfold saveS; rw [if_pos he]; rfl)
    have cp := H1.out.cell hp1 (by omega) (by omega)
    have cq := H1.out.cell hq1 (by omega) (by omega)
    have cx := H1.out.cell hx1 hxn.1 hxn.2
    obtain ⟨w2, hw2⟩ : ∃ w2, w1.alloc (.cells #[.func (.func 67) #[] #[.pointer (some ⟨w.heap.size, 0, none⟩)], .func (.func 68) #[] #[.pointer (some ⟨w.heap.size, 0, none⟩), .pointer (some ⟨w.heap.size + 1, 0, none⟩)], .func (.func 70) #[] #[.pointer (some ⟨w.heap.size, 0, none⟩)], .func (.func 72) #[] #[.pointer (some ⟨w.heap.size, 0, none⟩)]] 99 (0, 0)) = w2 := ⟨_, rfl⟩
    have hbel2 : Below w1.heap.size w1 w2 := by rw [← hw2]; exact bl1 _ _
    have hg : w2.heap[w1.heap.size]? = some (.cells #[.func (.func 67) #[] #[.pointer (some ⟨w.heap.size, 0, none⟩)], .func (.func 68) #[] #[.pointer (some ⟨w.heap.size, 0, none⟩), .pointer (some ⟨w.heap.size + 1, 0, none⟩)], .func (.func 70) #[] #[.pointer (some ⟨w.heap.size, 0, none⟩)], .func (.func 72) #[] #[.pointer (some ⟨w.heap.size, 0, none⟩)]] 99 (0, 0)) := by rw [← hw2]; exact heap_alloc_new _ _
    have hgl : w.heap.size + 2 ≤ w1.heap.size := by have := H1.out.but.size; rw [← HW.out] at this; simpa using this
    have H2 := Lib.hid (show Bk w2 w2 b m (removeD d fr) from ⟨(H1.out.quiet hbel2).dat, H1.out.ok, But.refl _ _⟩)
    have HG := Lib.hid hg
    have HP2 := Lib.hid ((hbel2.cell (p := ⟨w.heap.size, 0, none⟩) (by show w.heap.size < _; omega)).trans cp)
    have HQ2 := Lib.hid ((hbel2.cell (p := ⟨w.heap.size + 1, 0, none⟩) (by show w.heap.size + 1 < _; omega)).trans cq)
    have HX2 := Lib.hid ((hbel2.cell (p := ⟨x, 0, none⟩) (by show x < _; omega)).trans cx)
    have HBB := Lib.hid (show But [b, m] w w2 from ((But.of_below HBE.out).trans H1.out.but).trans (.of_below hbel2))
    have HW2 := Lib.hid hw2
    clear hg hbel2 hw2
    rcases he with he | he <;> rw [he]
    all_goals
      go_wp2_with fail
      rw [HW2.out]
      clear cp cq cx hp1 hq1 hx1
      go_loopw [28] (fun i wr => ∃ k : Nat, k ≤ 4 ∧ i = .int .i64 k ∧ Hid (∃ dk, Bk w2 wr b m dk ∧ saveS t d = rest t k dk)) (fun i _ => 4 - (intOf i).toNat)
      case atStart => exact ⟨0, by omega, rfl, _, H2.out, HR.out⟩
      case round =>
        obtain ⟨k, hk, rfl, HCUR⟩ := hrel
        by_cases hlt : k < 4
        · obtain ⟨dk, hbk, hrest⟩ := HCUR.out
          have HK := Lib.hid hbk
          have HRR := Lib.hid hrest
          have f0 := hbk.cell (k := w1.heap.size) (o := 0) (by simp only [World.cell?, HG.out]; rfl) (by omega) (by omega)
          have f1 := hbk.cell (k := w1.heap.size) (o := 1) (by simp only [World.cell?, HG.out]; rfl) (by omega) (by omega)
          have f2 := hbk.cell (k := w1.heap.size) (o := 2) (by simp only [World.cell?, HG.out]; rfl) (by omega) (by omega)
          have f3 := hbk.cell (k := w1.heap.size) (o := 3) (by simp only [World.cell?, HG.out]; rfl) (by omega) (by omega)
          have cp := hbk.cell HP2.out (by omega) (by omega)
          have cx := hbk.cell HX2.out hxn.1 hxn.2
          clear hbk hrest HCUR
          rcases (show k = 0 ∨ k = 1 ∨ k = 2 ∨ k = 3 by omega) with rfl | rfl | rfl | rfl
          · go_wp2_with fail
            refine (clo1_any w2 wr b m x w.heap.size dk HP2.out HX2.out (by omega) hxn HK.out).mono ?_
            rintro e w3 ⟨rfl, h3⟩
            have hst : saveS t d = stepS (createE dk fr) (createD dk fr) (rest t 1) := HRR.out
            generalize createE dk fr = E at *
            generalize createD dk fr = D at *
            have H3 := Lib.hid h3
            have cp3 := h3.cell HP2.out (by omega) (by omega)
            have cx3 := h3.cell HX2.out hxn.1 hxn.2
            clear h3 HRR
            by_cases h0 : E = 0
            · have HN := Lib.hid (hst.trans (stepS_0 h0))
              clear hst
              subst h0
              go_wp2_with fail
              exact ⟨⟨1, by omega, by go_num, D, H3.out, HN.out⟩, by simp [intOf]⟩
            · by_cases h6 : E = 6
              · subst h6
                clear h0
                have HST := Lib.hid hst
                clear hst
                go_wp2_with fail
                refine (H3.out.remove (s := freshB) fresh_len rfl rfl).mono ?_
                rintro e w4 ⟨rfl, h4⟩
                have H4 := Lib.hid h4
                clear h4
                by_cases h7 : removeE D fr = 7
                · have HS := Lib.hid (HST.out.trans (stepS_67 rfl h7))
                  rw [h7]
                  go_wp2_with fail
                  go_ret
                  exact saveRet HBB.out H4.out HS.out
                · have HS := Lib.hid (HST.out.trans (stepS_6 rfl h7))
                  have h7b : (removeE D fr == 7) = false := by simpa using h7
                  clear h7
                  go_wp2_with fail
                  go_ret
                  exact saveRet HBB.out H4.out HS.out
              · have HS := Lib.hid (hst.trans (stepS_e h6 h0))
                have e6 : (E == 6) = false := by simpa using h6
                have e0 : (E != 0) = true := by simpa using h0
                clear hst h6 h0
                go_wp2_with fail
                go_ret
                exact saveRet HBB.out H3.out HS.out
          · go_wp2_with fail
            refine (clo2_any w2 wr b m x w.heap.size (w.heap.size + 1) dk t HP2.out HX2.out (by omega) hxn HQ2.out (by omega) ht HK.out).mono ?_
            rintro e w3 ⟨rfl, h3⟩
            have hst : saveS t d = stepS (appendE dk fr t) (appendD dk fr t) (rest t 2) := HRR.out
            generalize appendE dk fr t = E at *
            generalize appendD dk fr t = D at *
            have H3 := Lib.hid h3
            have cp3 := h3.cell HP2.out (by omega) (by omega)
            have cx3 := h3.cell HX2.out hxn.1 hxn.2
            clear h3 HRR
            by_cases h0 : E = 0
            · have HN := Lib.hid (hst.trans (stepS_0 h0))
              clear hst
              subst h0
              go_wp2_with fail
              exact ⟨⟨2, by omega, by go_num, D, H3.out, HN.out⟩, by simp [intOf]⟩
            · by_cases h6 : E = 6
              · subst h6
                clear h0
                have HST := Lib.hid hst
                clear hst
                go_wp2_with fail
                refine (H3.out.remove (s := freshB) fresh_len rfl rfl).mono ?_
                rintro e w4 ⟨rfl, h4⟩
                have H4 := Lib.hid h4
                clear h4
                by_cases h7 : removeE D fr = 7
                · have HS := Lib.hid (HST.out.trans (stepS_67 rfl h7))
                  rw [h7]
                  go_wp2_with fail
                  go_ret
                  exact saveRet HBB.out H4.out HS.out
                · have HS := Lib.hid (HST.out.trans (stepS_6 rfl h7))
                  have h7b : (removeE D fr == 7) = false := by simpa using h7
                  clear h7
                  go_wp2_with fail
                  go_ret
                  exact saveRet HBB.out H4.out HS.out
              · have HS := Lib.hid (hst.trans (stepS_e h6 h0))
                have e6 : (E == 6) = false := by simpa using h6
                have e0 : (E != 0) = true := by simpa using h0
                clear hst h6 h0
                go_wp2_with fail
                go_ret
                exact saveRet HBB.out H3.out HS.out
          · go_wp2_with fail
            refine (clo3_any w2 wr b m x w.heap.size dk HP2.out HX2.out (by omega) hxn HK.out).mono ?_
            rintro e w3 ⟨rfl, h3⟩
            have hst : saveS t d = stepS (syncE dk fr) (syncD dk fr) (rest t 3) := HRR.out
            generalize syncE dk fr = E at *
            generalize syncD dk fr = D at *
            have H3 := Lib.hid h3
            have cp3 := h3.cell HP2.out (by omega) (by omega)
            have cx3 := h3.cell HX2.out hxn.1 hxn.2
            clear h3 HRR
            by_cases h0 : E = 0
            · have HN := Lib.hid (hst.trans (stepS_0 h0))
              clear hst
              subst h0
              go_wp2_with fail
              exact ⟨⟨3, by omega, by go_num, D, H3.out, HN.out⟩, by simp [intOf]⟩
            · by_cases h6 : E = 6
              · subst h6
                clear h0
                have HST := Lib.hid hst
                clear hst
                go_wp2_with fail
                refine (H3.out.remove (s := freshB) fresh_len rfl rfl).mono ?_
                rintro e w4 ⟨rfl, h4⟩
                have H4 := Lib.hid h4
                clear h4
                by_cases h7 : removeE D fr = 7
                · have HS := Lib.hid (HST.out.trans (stepS_67 rfl h7))
                  rw [h7]
                  go_wp2_with fail
                  go_ret
                  exact saveRet HBB.out H4.out HS.out
                · have HS := Lib.hid (HST.out.trans (stepS_6 rfl h7))
                  have h7b : (removeE D fr == 7) = false := by simpa using h7
                  clear h7
                  go_wp2_with fail
                  go_ret
                  exact saveRet HBB.out H4.out HS.out
              · have HS := Lib.hid (hst.trans (stepS_e h6 h0))
                have e6 : (E == 6) = false := by simpa using h6
                have e0 : (E != 0) = true := by simpa using h0
                clear hst h6 h0
                go_wp2_with fail
                go_ret
                exact saveRet HBB.out H3.out HS.out
          · go_wp2_with fail
            refine (clo4_any w2 wr b m x w.heap.size dk HP2.out HX2.out (by omega) hxn HK.out).mono ?_
            rintro e w3 ⟨rfl, h3⟩
            have hst : saveS t d = stepS (renameE dk fr kp) (renameD dk fr kp) (rest t 4) := HRR.out
            generalize renameE dk fr kp = E at *
            generalize renameD dk fr kp = D at *
            have H3 := Lib.hid h3
            have cp3 := h3.cell HP2.out (by omega) (by omega)
            have cx3 := h3.cell HX2.out hxn.1 hxn.2
            clear h3 HRR
            by_cases h0 : E = 0
            · have HN := Lib.hid (hst.trans (stepS_0 h0))
              clear hst
              subst h0
              go_wp2_with fail
              exact ⟨⟨4, by omega, by go_num, D, H3.out, HN.out⟩, by simp [intOf]⟩
            · by_cases h6 : E = 6
              · subst h6
                clear h0
                have HST := Lib.hid hst
                clear hst
                go_wp2_with fail
                refine (H3.out.remove (s := freshB) fresh_len rfl rfl).mono ?_
                rintro e w4 ⟨rfl, h4⟩
                have H4 := Lib.hid h4
                clear h4
                by_cases h7 : removeE D fr = 7
                · have HS := Lib.hid (HST.out.trans (stepS_67 rfl h7))
                  rw [h7]
                  go_wp2_with fail
                  go_ret
                  exact saveRet HBB.out H4.out HS.out
                · have HS := Lib.hid (HST.out.trans (stepS_6 rfl h7))
                  have h7b : (removeE D fr == 7) = false := by simpa using h7
                  clear h7
                  go_wp2_with fail
                  go_ret
                  exact saveRet HBB.out H4.out HS.out
              · have HS := Lib.hid (hst.trans (stepS_e h6 h0))
                have e6 : (E == 6) = false := by simpa using h6
                have e0 : (E != 0) = true := by simpa using h0
                clear hst h6 h0
                go_wp2_with fail
                go_ret
                exact saveRet HBB.out H3.out HS.out
        · obtain ⟨dk, hbk, hrest⟩ := HCUR.out
          obtain rfl : k = 4 := by omega
          have HK := Lib.hid hbk
          have HRR := Lib.hid (show saveS t d = (0, dk) from hrest)
          clear hbk hrest HCUR
          go_wp2_with fail
          go_ret
          exact saveRet HBB.out HK.out HRR.out
  · have hs : saveS t d = (removeE d fr, removeD d fr) := by unfold saveS; rw [if_neg he]
    have h0 : (removeE d fr != 0) = true := by simp; omega
    have h4 : (removeE d fr != 4) = true := by simp; omega
    have HS := Lib.hid hs
    clear hs he
    go_wp2_with fail
    go_ret
    exact saveRet (But.of_below HBE.out) H1.out HS.out
end Go.Proofs.YtiiafpbonkcokaaGreat
