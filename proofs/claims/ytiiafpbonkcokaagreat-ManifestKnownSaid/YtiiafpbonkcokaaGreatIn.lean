/-
  Each method's contract, said of a disk that was made behind a given world ('In'), and of two such disks apart ('Tw').
-/
import Derived.Test.YtiiafpbonkcokaaGreatPl
namespace Go.Proofs.YtiiafpbonkcokaaGreat
open Go.RowKit Go.Maps

theorem Fit.fuse {d : Dk} (h : Fit d) (n : Int) (hn : n ≤ 9223372036854775807) : Fit { d with fuse := max n 0 } := ⟨h.len, by show 0 ≤ max n 0; omega, by show max n 0 ≤ _; omega, h.rlo, h.rhi, h.sz, h.syn, h.nm, h.up⟩
theorem Fit.room {d : Dk} (h : Fit d) (n : Int) (hn : n ≤ 9223372036854775807) : Fit { d with room := max n (-1) } := ⟨h.len, h.flo, h.fhi, by show -1 ≤ max n (-1); omega, by show max n (-1) ≤ _; omega, h.sz, h.syn, h.nm, h.up⟩
/-- block b holds a fit disk that was made behind world w0 -/
structure In (w0 w : World) (b m : Nat) (d : Dk) : Prop where
  dat : DAt w b m d
  ok : Fit d
  lb : w0.heap.size ≤ b
  lm : w0.heap.size ≤ m
  bel : Below w0.heap.size w0 w
theorem In.step {w0 w w' : World} {b m : Nat} {d d' : Dk} (h : In w0 w b m d) (hd : DAt w' b m d') (hb : But [b, m] w w') (ok : Fit d') : In w0 w' b m d' :=
  ⟨hd, ok, h.lb, h.lm, h.bel.trans (hb.below h.bel.size (fun x hx => by rcases List.mem_cons.1 hx with rfl | hx; exact h.lb; rw [List.mem_singleton.1 hx]; exact h.lm))⟩
theorem In.quiet {w0 w w' : World} {b m : Nat} {d : Dk} (h : In w0 w b m d) (hb : Below w.heap.size w w') : In w0 w' b m d :=
  ⟨h.dat.below hb, h.ok, h.lb, h.lm, h.bel.trans (hb.mono h.bel.size)⟩
theorem In.alloc {w0 w : World} {b m : Nat} {d : Dk} (h : In w0 w b m d) (o : Obj) : In w0 (w.alloc o) b m d := h.quiet (bl1 w o)
theorem In.drew {w0 w : World} {b m : Nat} {d : Dk} (h : In w0 w b m d) : In w0 w.drew b m d := h.quiet ((Below.refl _ _).drew)
theorem In.drewN {w0 w : World} {b m : Nat} {d : Dk} (h : In w0 w b m d) (n : Nat) : In w0 (w.drewN n) b m d := h.quiet (below_drewN (Below.refl _ _) n)
theorem In.new {w0 w : World} (h : Below w0.heap.size w0 w) : Calls Tryz.prog 13 #[] w fun e w' => e = .returned (.pointer (some ⟨w.heap.size + 1, 0, none⟩)) ∧ In w0 w' (w.heap.size + 1) w.heap.size d0 :=
  (new_any w).mono fun _ _ ⟨he, hd, hb⟩ => ⟨he, hd, Fit.d0, by have := h.size; omega, h.size, h.trans (hb.mono h.size)⟩
/-- two disks apart -/
structure Tw (w0 w : World) (b m : Nat) (d : Dk) (t n : Nat) (c : Dk) : Prop where
  l : In w0 w b m d
  r : In w0 w t n c
  bt : b ≠ t
  bn : b ≠ n
  mt : m ≠ t
  mn : m ≠ n
theorem Tw.symm {w0 w : World} {b m t n : Nat} {d c : Dk} (h : Tw w0 w b m d t n c) : Tw w0 w t n c b m d := ⟨h.r, h.l, h.bt.symm, h.mt.symm, h.bn.symm, h.mn.symm⟩
theorem Tw.step {w0 w w' : World} {b m t n : Nat} {d d' c : Dk} (h : Tw w0 w b m d t n c) (hd : DAt w' b m d') (hb : But [b, m] w w') (ok : Fit d') : Tw w0 w' b m d' t n c :=
  have hl := h.l.step hd hb ok
  ⟨hl, ⟨h.r.dat.but hb (by simp [h.bt.symm, h.mt.symm]) (by simp [h.bn.symm, h.mn.symm]), h.r.ok, h.r.lb, h.r.lm, hl.bel⟩, h.bt, h.bn, h.mt, h.mn⟩
theorem Tw.quiet {w0 w w' : World} {b m t n : Nat} {d c : Dk} (h : Tw w0 w b m d t n c) (hb : Below w.heap.size w w') : Tw w0 w' b m d t n c := ⟨h.l.quiet hb, h.r.quiet hb, h.bt, h.bn, h.mt, h.mn⟩
theorem Tw.alloc {w0 w : World} {b m t n : Nat} {d c : Dk} (h : Tw w0 w b m d t n c) (o : Obj) : Tw w0 (w.alloc o) b m d t n c := h.quiet (bl1 w o)
theorem Tw.drew {w0 w : World} {b m t n : Nat} {d c : Dk} (h : Tw w0 w b m d t n c) : Tw w0 w.drew b m d t n c := h.quiet ((Below.refl _ _).drew)
theorem Tw.drewN {w0 w : World} {b m t n : Nat} {d c : Dk} (h : Tw w0 w b m d t n c) (k : Nat) : Tw w0 (w.drewN k) b m d t n c := h.quiet (below_drewN (Below.refl _ _) k)
theorem In.two {w0 w : World} {b m : Nat} {d : Dk} (h : In w0 w b m d) : Calls Tryz.prog 13 #[] w fun e w' => e = .returned (.pointer (some ⟨w.heap.size + 1, 0, none⟩)) ∧ Tw w0 w' b m d (w.heap.size + 1) w.heap.size d0 :=
  (new_any w).mono fun _ _ ⟨he, hd, hb⟩ => by
    have h1 := h.dat.lt
    have h2 := h.dat.map.lt
    have h3 := h.bel.size
    have hq := h.quiet hb
    exact ⟨he, hq, ⟨hd, Fit.d0, by omega, by omega, hq.bel⟩, by omega, by omega, by omega, by omega⟩
theorem In.create {w0 w : World} {b m : Nat} {d : Dk} (h : In w0 w b m d) {s : ByteArray} (hs : s.size ≤ maxLen) {E : Int} {d' : Dk} (hE : createE d s.data.toList = E) (hD : createD d s.data.toList = d') :
    Calls Tryz.prog 25 #[.pointer (some ⟨b, 0, none⟩), .string s] w fun e w' => e = .returned (.int .i64 E) ∧ In w0 w' b m d' := by
  subst hD hE
  exact (create_any w b m d s h.dat hs h.ok).mono fun _ _ ⟨he, hd, hb⟩ => ⟨he, h.step hd hb (h.ok.create _)⟩
theorem In.append {w0 w : World} {b m : Nat} {d : Dk} (h : In w0 w b m d) {s x : ByteArray} (hs : s.size ≤ maxLen) (hx : x.size ≤ 1000000000000000) {E : Int} {d' : Dk} (hE : appendE d s.data.toList x = E) (hD : appendD d s.data.toList x = d') :
    Calls Tryz.prog 69 #[.pointer (some ⟨b, 0, none⟩), .string s, .string x] w fun e w' => e = .returned (.int .i64 E) ∧ In w0 w' b m d' := by
  subst hD hE
  exact (append_any w b m d s x h.dat hs hx h.ok).mono fun _ _ ⟨he, hd, hb⟩ => ⟨he, h.step hd hb (h.ok.append _ _)⟩
theorem In.sync {w0 w : World} {b m : Nat} {d : Dk} (h : In w0 w b m d) {s : ByteArray} (hs : s.size ≤ maxLen) {E : Int} {d' : Dk} (hE : syncE d s.data.toList = E) (hD : syncD d s.data.toList = d') :
    Calls Tryz.prog 71 #[.pointer (some ⟨b, 0, none⟩), .string s] w fun e w' => e = .returned (.int .i64 E) ∧ In w0 w' b m d' := by
  subst hD hE
  exact (sync_any w b m d s h.dat hs h.ok).mono fun _ _ ⟨he, hd, hb⟩ => ⟨he, h.step hd hb (h.ok.sync _)⟩
theorem In.rename {w0 w : World} {b m : Nat} {d : Dk} (h : In w0 w b m d) {s x : ByteArray} (hs : s.size ≤ maxLen) (hx : x.size ≤ maxLen) {E : Int} {d' : Dk} (hE : renameE d s.data.toList x.data.toList = E) (hD : renameD d s.data.toList x.data.toList = d') :
    Calls Tryz.prog 73 #[.pointer (some ⟨b, 0, none⟩), .string s, .string x] w fun e w' => e = .returned (.int .i64 E) ∧ In w0 w' b m d' := by
  subst hD hE
  exact (rename_any w b m d s x h.dat hs hx h.ok).mono fun _ _ ⟨he, hd, hb⟩ => ⟨he, h.step hd hb (h.ok.rename _ _)⟩
theorem In.remove {w0 w : World} {b m : Nat} {d : Dk} (h : In w0 w b m d) {s : ByteArray} (hs : s.size ≤ maxLen) {E : Int} {d' : Dk} (hE : removeE d s.data.toList = E) (hD : removeD d s.data.toList = d') :
    Calls Tryz.prog 66 #[.pointer (some ⟨b, 0, none⟩), .string s] w fun e w' => e = .returned (.int .i64 E) ∧ In w0 w' b m d' := by
  subst hD hE
  exact (remove_any w b m d s h.dat hs h.ok).mono fun _ _ ⟨he, hd, hb⟩ => ⟨he, h.step hd hb (h.ok.remove _)⟩
theorem In.fuse {w0 w : World} {b m : Nat} {d : Dk} (h : In w0 w b m d) (n : Int) (hn : n ≤ 9223372036854775807) {d' : Dk} (hD : { d with fuse := max n 0 } = d') :
    Calls Tryz.prog 27 #[.pointer (some ⟨b, 0, none⟩), .int .i64 n] w fun e w' => e = .returned (.tuple #[]) ∧ In w0 w' b m d' := by
  subst hD
  exact (fuse_any w b m d h.dat n).mono fun _ _ ⟨he, hd, hb⟩ => ⟨he, h.step hd hb (h.ok.fuse n hn)⟩
theorem In.room {w0 w : World} {b m : Nat} {d : Dk} (h : In w0 w b m d) (n : Int) (hn : n ≤ 9223372036854775807) {d' : Dk} (hD : { d with room := max n (-1) } = d') :
    Calls Tryz.prog 34 #[.pointer (some ⟨b, 0, none⟩), .int .i64 n] w fun e w' => e = .returned (.tuple #[]) ∧ In w0 w' b m d' := by
  subst hD
  exact (room_any w b m d h.dat n).mono fun _ _ ⟨he, hd, hb⟩ => ⟨he, h.step hd hb (h.ok.room n hn)⟩
theorem In.start {w0 w : World} {b m : Nat} {d : Dk} (h : In w0 w b m d)  {d' : Dk} (hD : startD d = d') :
    Calls Tryz.prog 29 #[.pointer (some ⟨b, 0, none⟩)] w fun e w' => e = .returned (.tuple #[]) ∧ In w0 w' b m d' := by
  subst hD
  exact (start_any w b m d h.dat h.ok).mono fun _ _ ⟨he, hd, hb⟩ => ⟨he, h.step hd hb (h.ok.start)⟩
theorem In.crash {w0 w : World} {b m : Nat} {d : Dk} (h : In w0 w b m d) (ka : Option Addr) (kn kc : Nat) (ks : List Int) (hkl : ks.length = kn) (hkn : kn ≤ 1000000000000000)
    (hk : 0 < kn → ∃ kb ko, ka = some ⟨kb, ko, none⟩ ∧ kb ≠ b ∧ ∀ i, i < kn → w.cell? ⟨kb, ko + i, none⟩ = some (.int .i64 (ks.getD i 0))) {d' : Dk} (hD : { d with fs := crashF ks d.fs, down := true, fuse := 0 } = d') :
    Calls Tryz.prog 14 #[.pointer (some ⟨b, 0, none⟩), .slice ka kn kc] w fun e w' => e = .returned (.tuple #[]) ∧ In w0 w' b m d' := by
  subst hD
  exact (crash_any w b m d ka kn kc ks h.dat h.ok hkl hkn hk).mono fun _ _ ⟨he, hd, hb⟩ => ⟨he, h.step hd hb (h.ok.crash ks true)⟩
theorem In.read {w0 w : World} {b m : Nat} {d : Dk} (h : In w0 w b m d) {s : ByteArray} (hs : s.size ≤ maxLen) {S : ByteArray} {E : Int} (hS : readS d s.data.toList = S) (hE : readE d s.data.toList = E) :
    Calls Tryz.prog 30 #[.pointer (some ⟨b, 0, none⟩), .string s] w fun e w' => e = .returned (.tuple #[.string S, .int .i64 E]) ∧ In w0 w' b m d := by
  subst hS hE
  exact (read_any w b m d s h.dat hs).mono fun _ _ ⟨he, hb⟩ => ⟨he, h.quiet hb⟩
theorem In.used {w0 w : World} {b m : Nat} {d : Dk} (h : In w0 w b m d) :
    Calls Tryz.prog 92 #[.pointer (some ⟨b, 0, none⟩)] w fun e w' => e = .returned (.int .i64 (total d.fs)) ∧ In w0 w' b m d :=
  (used_any w b m d h.dat h.ok).mono fun _ _ ⟨he, hb⟩ => ⟨he, h.quiet hb⟩
theorem In.down {w0 w : World} {b m : Nat} {d : Dk} (h : In w0 w b m d) {f : Bool} (hf : d.down = f) :
    Calls Tryz.prog 28 #[.pointer (some ⟨b, 0, none⟩)] w fun e w' => e = .returned (.bool f) ∧ w = w' := by
  subst hf
  exact down_any w b m d h.dat
theorem In.list {w0 w : World} {b m : Nat} {d : Dk} (h : In w0 w b m d) :
    Calls Tryz.prog 49 #[.pointer (some ⟨b, 0, none⟩)] w fun e w' => (∃ v, e = .returned v ∧ StrsAt w' w.heap.size v (names d.fs)) ∧ Below w.heap.size w w' ∧ In w0 w' b m d :=
  (list_any w b m d h.dat h.ok).mono fun _ _ ⟨he, hb⟩ => ⟨he, hb, h.quiet hb⟩
theorem Tw.create {w0 w : World} {b m t n : Nat} {d c : Dk} (h : Tw w0 w b m d t n c) {s : ByteArray} (hs : s.size ≤ maxLen) {E : Int} {d' : Dk} (hE : createE d s.data.toList = E) (hD : createD d s.data.toList = d') :
    Calls Tryz.prog 25 #[.pointer (some ⟨b, 0, none⟩), .string s] w fun e w' => e = .returned (.int .i64 E) ∧ Tw w0 w' b m d' t n c := by
  subst hD hE
  exact (create_any w b m d s h.l.dat hs h.l.ok).mono fun _ _ ⟨he, hd, hb⟩ => ⟨he, h.step hd hb (h.l.ok.create _)⟩
theorem Tw.append {w0 w : World} {b m t n : Nat} {d c : Dk} (h : Tw w0 w b m d t n c) {s x : ByteArray} (hs : s.size ≤ maxLen) (hx : x.size ≤ 1000000000000000) {E : Int} {d' : Dk} (hE : appendE d s.data.toList x = E) (hD : appendD d s.data.toList x = d') :
    Calls Tryz.prog 69 #[.pointer (some ⟨b, 0, none⟩), .string s, .string x] w fun e w' => e = .returned (.int .i64 E) ∧ Tw w0 w' b m d' t n c := by
  subst hD hE
  exact (append_any w b m d s x h.l.dat hs hx h.l.ok).mono fun _ _ ⟨he, hd, hb⟩ => ⟨he, h.step hd hb (h.l.ok.append _ _)⟩
theorem Tw.sync {w0 w : World} {b m t n : Nat} {d c : Dk} (h : Tw w0 w b m d t n c) {s : ByteArray} (hs : s.size ≤ maxLen) {E : Int} {d' : Dk} (hE : syncE d s.data.toList = E) (hD : syncD d s.data.toList = d') :
    Calls Tryz.prog 71 #[.pointer (some ⟨b, 0, none⟩), .string s] w fun e w' => e = .returned (.int .i64 E) ∧ Tw w0 w' b m d' t n c := by
  subst hD hE
  exact (sync_any w b m d s h.l.dat hs h.l.ok).mono fun _ _ ⟨he, hd, hb⟩ => ⟨he, h.step hd hb (h.l.ok.sync _)⟩
theorem Tw.rename {w0 w : World} {b m t n : Nat} {d c : Dk} (h : Tw w0 w b m d t n c) {s x : ByteArray} (hs : s.size ≤ maxLen) (hx : x.size ≤ maxLen) {E : Int} {d' : Dk} (hE : renameE d s.data.toList x.data.toList = E) (hD : renameD d s.data.toList x.data.toList = d') :
    Calls Tryz.prog 73 #[.pointer (some ⟨b, 0, none⟩), .string s, .string x] w fun e w' => e = .returned (.int .i64 E) ∧ Tw w0 w' b m d' t n c := by
  subst hD hE
  exact (rename_any w b m d s x h.l.dat hs hx h.l.ok).mono fun _ _ ⟨he, hd, hb⟩ => ⟨he, h.step hd hb (h.l.ok.rename _ _)⟩
theorem Tw.remove {w0 w : World} {b m t n : Nat} {d c : Dk} (h : Tw w0 w b m d t n c) {s : ByteArray} (hs : s.size ≤ maxLen) {E : Int} {d' : Dk} (hE : removeE d s.data.toList = E) (hD : removeD d s.data.toList = d') :
    Calls Tryz.prog 66 #[.pointer (some ⟨b, 0, none⟩), .string s] w fun e w' => e = .returned (.int .i64 E) ∧ Tw w0 w' b m d' t n c := by
  subst hD hE
  exact (remove_any w b m d s h.l.dat hs h.l.ok).mono fun _ _ ⟨he, hd, hb⟩ => ⟨he, h.step hd hb (h.l.ok.remove _)⟩
theorem Tw.fuse {w0 w : World} {b m t n : Nat} {d c : Dk} (h : Tw w0 w b m d t n c) (j : Int) (hn : j ≤ 9223372036854775807) {d' : Dk} (hD : { d with fuse := max j 0 } = d') :
    Calls Tryz.prog 27 #[.pointer (some ⟨b, 0, none⟩), .int .i64 j] w fun e w' => e = .returned (.tuple #[]) ∧ Tw w0 w' b m d' t n c := by
  subst hD
  exact (fuse_any w b m d h.l.dat j).mono fun _ _ ⟨he, hd, hb⟩ => ⟨he, h.step hd hb (h.l.ok.fuse j hn)⟩
theorem Tw.room {w0 w : World} {b m t n : Nat} {d c : Dk} (h : Tw w0 w b m d t n c) (j : Int) (hn : j ≤ 9223372036854775807) {d' : Dk} (hD : { d with room := max j (-1) } = d') :
    Calls Tryz.prog 34 #[.pointer (some ⟨b, 0, none⟩), .int .i64 j] w fun e w' => e = .returned (.tuple #[]) ∧ Tw w0 w' b m d' t n c := by
  subst hD
  exact (room_any w b m d h.l.dat j).mono fun _ _ ⟨he, hd, hb⟩ => ⟨he, h.step hd hb (h.l.ok.room j hn)⟩
theorem Tw.start {w0 w : World} {b m t n : Nat} {d c : Dk} (h : Tw w0 w b m d t n c)  {d' : Dk} (hD : startD d = d') :
    Calls Tryz.prog 29 #[.pointer (some ⟨b, 0, none⟩)] w fun e w' => e = .returned (.tuple #[]) ∧ Tw w0 w' b m d' t n c := by
  subst hD
  exact (start_any w b m d h.l.dat h.l.ok).mono fun _ _ ⟨he, hd, hb⟩ => ⟨he, h.step hd hb (h.l.ok.start)⟩
theorem Tw.crash {w0 w : World} {b m t n : Nat} {d c : Dk} (h : Tw w0 w b m d t n c) (ka : Option Addr) (kn kc : Nat) (ks : List Int) (hkl : ks.length = kn) (hkn : kn ≤ 1000000000000000)
    (hk : 0 < kn → ∃ kb ko, ka = some ⟨kb, ko, none⟩ ∧ kb ≠ b ∧ ∀ i, i < kn → w.cell? ⟨kb, ko + i, none⟩ = some (.int .i64 (ks.getD i 0))) {d' : Dk} (hD : { d with fs := crashF ks d.fs, down := true, fuse := 0 } = d') :
    Calls Tryz.prog 14 #[.pointer (some ⟨b, 0, none⟩), .slice ka kn kc] w fun e w' => e = .returned (.tuple #[]) ∧ Tw w0 w' b m d' t n c := by
  subst hD
  exact (crash_any w b m d ka kn kc ks h.l.dat h.l.ok hkl hkn hk).mono fun _ _ ⟨he, hd, hb⟩ => ⟨he, h.step hd hb (h.l.ok.crash ks true)⟩
theorem Tw.read {w0 w : World} {b m t n : Nat} {d c : Dk} (h : Tw w0 w b m d t n c) {s : ByteArray} (hs : s.size ≤ maxLen) {S : ByteArray} {E : Int} (hS : readS d s.data.toList = S) (hE : readE d s.data.toList = E) :
    Calls Tryz.prog 30 #[.pointer (some ⟨b, 0, none⟩), .string s] w fun e w' => e = .returned (.tuple #[.string S, .int .i64 E]) ∧ Tw w0 w' b m d t n c := by
  subst hS hE
  exact (read_any w b m d s h.l.dat hs).mono fun _ _ ⟨he, hb⟩ => ⟨he, h.quiet hb⟩
theorem Tw.used {w0 w : World} {b m t n : Nat} {d c : Dk} (h : Tw w0 w b m d t n c) :
    Calls Tryz.prog 92 #[.pointer (some ⟨b, 0, none⟩)] w fun e w' => e = .returned (.int .i64 (total d.fs)) ∧ Tw w0 w' b m d t n c :=
  (used_any w b m d h.l.dat h.l.ok).mono fun _ _ ⟨he, hb⟩ => ⟨he, h.quiet hb⟩
theorem Tw.down {w0 w : World} {b m t n : Nat} {d c : Dk} (h : Tw w0 w b m d t n c) {f : Bool} (hf : d.down = f) :
    Calls Tryz.prog 28 #[.pointer (some ⟨b, 0, none⟩)] w fun e w' => e = .returned (.bool f) ∧ w = w' := by
  subst hf
  exact down_any w b m d h.l.dat
theorem Tw.list {w0 w : World} {b m t n : Nat} {d c : Dk} (h : Tw w0 w b m d t n c) :
    Calls Tryz.prog 49 #[.pointer (some ⟨b, 0, none⟩)] w fun e w' => (∃ v, e = .returned v ∧ StrsAt w' w.heap.size v (names d.fs)) ∧ Below w.heap.size w w' ∧ Tw w0 w' b m d t n c :=
  (list_any w b m d h.l.dat h.l.ok).mono fun _ _ ⟨he, hb⟩ => ⟨he, hb, h.quiet hb⟩
theorem In.usedIs {w0 w : World} {b m : Nat} {d : Dk} (h : In w0 w b m d) {U : Int} (hU : (total d.fs : Int) = U) :
    Calls Tryz.prog 92 #[.pointer (some ⟨b, 0, none⟩)] w fun e w' => e = .returned (.int .i64 U) ∧ In w0 w' b m d := by
  subst hU
  exact h.used
theorem Tw.usedIs {w0 w : World} {b m t n : Nat} {d c : Dk} (h : Tw w0 w b m d t n c) {U : Int} (hU : (total d.fs : Int) = U) :
    Calls Tryz.prog 92 #[.pointer (some ⟨b, 0, none⟩)] w fun e w' => e = .returned (.int .i64 U) ∧ Tw w0 w' b m d t n c := by
  subst hU
  exact h.used
end Go.Proofs.YtiiafpbonkcokaaGreat
