/-
  The contracts over 'In' and 'Tw' once more, with a list of cells that nothing turns ('Ik', 'Tk').
-/
import Derived.Test.YtmhflhbogkkblaaIn
namespace Go.Proofs.Ytmhflhbogkkblaa
open Go.RowKit Go.Maps

/-- cells that no disk of the list has -/
structure Kept (w : World) (bs : List Nat) (xs : List (Nat × Nat × Value)) : Prop where
  eq : ∀ c ∈ xs, w.cell? ⟨c.1, c.2.1, none⟩ = some c.2.2
  ne : ∀ c ∈ xs, c.1 ∉ bs
theorem Kept.but {w w' : World} {l bs : List Nat} {xs : List (Nat × Nat × Value)} (h : Kept w bs xs) (hb : But l w w') (hs : ∀ x ∈ l, x ∈ bs) : Kept w' bs xs :=
  ⟨fun c hc => (hb.cell (cell_lt (h.eq c hc)) (fun e => h.ne c hc (hs _ e))).trans (h.eq c hc), h.ne⟩
theorem Kept.more {w : World} {bs bs' : List Nat} {xs : List (Nat × Nat × Value)} (h : Kept w bs xs) (hn : ∀ x ∈ bs', x ∈ bs ∨ w.heap.size ≤ x) : Kept w bs' xs :=
  ⟨h.eq, fun c hc hm => (hn _ hm).elim (h.ne c hc) (fun hl => absurd (cell_lt (h.eq c hc)) (by omega))⟩
structure Ik (w0 w : World) (b m : Nat) (d : Dk) (xs : List (Nat × Nat × Value)) : Prop where
  i : In w0 w b m d
  k : Kept w [b, m] xs
structure Tk (w0 w : World) (b m : Nat) (d : Dk) (t n : Nat) (c : Dk) (xs : List (Nat × Nat × Value)) : Prop where
  i : Tw w0 w b m d t n c
  k : Kept w [b, m, t, n] xs
theorem Ik.quiet {w0 w w' : World} {b m : Nat} {d : Dk} {xs : List (Nat × Nat × Value)} (h : Ik w0 w b m d xs) (hb : Below w.heap.size w w') : Ik w0 w' b m d xs := ⟨h.i.quiet hb, h.k.but (.of_below hb) (fun _ hx => hx)⟩
theorem Tk.quiet {w0 w w' : World} {b m t n : Nat} {d c : Dk} {xs : List (Nat × Nat × Value)} (h : Tk w0 w b m d t n c xs) (hb : Below w.heap.size w w') : Tk w0 w' b m d t n c xs := ⟨h.i.quiet hb, h.k.but (.of_below hb) (fun _ hx => hx)⟩
theorem Ik.alloc {w0 w : World} {b m : Nat} {d : Dk} {xs : List (Nat × Nat × Value)} (h : Ik w0 w b m d xs) (o : Obj) : Ik w0 (w.alloc o) b m d xs := h.quiet (bl1 w o)
theorem Tk.alloc {w0 w : World} {b m t n : Nat} {d c : Dk} {xs : List (Nat × Nat × Value)} (h : Tk w0 w b m d t n c xs) (o : Obj) : Tk w0 (w.alloc o) b m d t n c xs := h.quiet (bl1 w o)
theorem Ik.drew {w0 w : World} {b m : Nat} {d : Dk} {xs : List (Nat × Nat × Value)} (h : Ik w0 w b m d xs) : Ik w0 w.drew b m d xs := h.quiet ((Below.refl _ _).drew)
theorem Ik.drewN {w0 w : World} {b m : Nat} {d : Dk} {xs : List (Nat × Nat × Value)} (h : Ik w0 w b m d xs) (k : Nat) : Ik w0 (w.drewN k) b m d xs := h.quiet (below_drewN (Below.refl _ _) k)
theorem Tk.symm {w0 w : World} {b m t n : Nat} {d c : Dk} {xs : List (Nat × Nat × Value)} (h : Tk w0 w b m d t n c xs) : Tk w0 w t n c b m d xs :=
  ⟨h.i.symm, h.k.eq, fun x hx hm => h.k.ne x hx (by simp only [List.mem_cons] at hm ⊢; rcases hm with h | h | h | h | h <;> simp [h] <;> cases h)⟩
theorem Tk.left {w0 w : World} {b m t n : Nat} {d c : Dk} {xs : List (Nat × Nat × Value)} (h : Tk w0 w b m d t n c xs) : Ik w0 w b m d xs :=
  ⟨h.i.l, h.k.eq, fun x hx hm => h.k.ne x hx (by simp only [List.mem_cons] at hm ⊢; rcases hm with h | h | h <;> simp [h])⟩
theorem Ik.step {w0 w w' : World} {b m : Nat} {d d' : Dk} {xs : List (Nat × Nat × Value)} (h : Ik w0 w b m d xs) (hd : DAt w' b m d') (hb : But [b, m] w w') (ok : Fit d') : Ik w0 w' b m d' xs := ⟨h.i.step hd hb ok, h.k.but hb (fun _ hx => hx)⟩
theorem Tk.step {w0 w w' : World} {b m t n : Nat} {d d' c : Dk} {xs : List (Nat × Nat × Value)} (h : Tk w0 w b m d t n c xs) (hd : DAt w' b m d') (hb : But [b, m] w w') (ok : Fit d') : Tk w0 w' b m d' t n c xs :=
  ⟨h.i.step hd hb ok, h.k.but hb (fun x hx => by simp only [List.mem_cons] at hx ⊢; rcases hx with h | h | h <;> simp [h])⟩
theorem Ik.twin {w0 w : World} {b m : Nat} {d : Dk} {xs : List (Nat × Nat × Value)} (h : Ik w0 w b m d xs) : Calls Try.prog 25 #[.pointer (some ⟨b, 0, none⟩)] w fun e w' => ∃ t n, e = .returned (.pointer (some ⟨t, 0, none⟩)) ∧ Tk w0 w' b m d t n d xs :=
  (twin_any w b m d h.i.dat).mono fun _ _ ⟨t, n, he, ht, hn, hd, hb⟩ => by
    have h1 := h.i.dat.lt
    have h2 := h.i.dat.map.lt
    have h3 := h.i.bel.size
    have hq := h.quiet hb
    refine ⟨t, n, he, ⟨hq.i, ⟨hd, h.i.ok, by omega, by omega, hq.i.bel⟩, by omega, by omega, by omega, by omega⟩, hq.k.eq, fun c hc hm => ?_⟩
    have hlt := cell_lt (h.k.eq c hc)
    simp only [List.mem_cons] at hm
    rcases hm with e | e | e | e | e
    · exact h.k.ne c hc (by simp [e])
    · exact h.k.ne c hc (by simp [e])
    · omega
    · omega
    · cases e
theorem Tk.same {w0 w : World} {b m t n : Nat} {d c : Dk} {xs : List (Nat × Nat × Value)} (h : Tk w0 w b m d t n c xs) (e : d = c) : Calls Try.prog 31 #[.pointer (some ⟨b, 0, none⟩), .pointer (some ⟨t, 0, none⟩)] w fun e w' => e = .returned (.bool true) ∧ Tk w0 w' b m d t n c xs :=
  (same_any w b m t n d h.i.l.dat (by rw [e]; exact h.i.r.dat) h.i.l.ok).mono fun _ _ ⟨he, hb⟩ => ⟨he, h.quiet hb⟩

theorem Ik.create {w0 w : World} {b m : Nat} {d : Dk} {xs : List (Nat × Nat × Value)} (h : Ik w0 w b m d xs) {s : ByteArray} (hs : s.size ≤ maxLen) {E : Int} {d' : Dk} (hE : createE d s.data.toList = E) (hD : createD d s.data.toList = d') :
    Calls Try.prog 11 #[.pointer (some ⟨b, 0, none⟩), .string s] w fun e w' => e = .returned (.int .i64 E) ∧ Ik w0 w' b m d' xs := by
  subst hD hE
  exact (create_any w b m d s h.i.dat hs h.i.ok).mono fun _ _ ⟨he, hd, hb⟩ => ⟨he, h.step hd hb (h.i.ok.create _)⟩
theorem Ik.append {w0 w : World} {b m : Nat} {d : Dk} {xs : List (Nat × Nat × Value)} (h : Ik w0 w b m d xs) {s x : ByteArray} (hs : s.size ≤ maxLen) (hx : x.size ≤ 1000000000000000) {E : Int} {d' : Dk} (hE : appendE d s.data.toList x = E) (hD : appendD d s.data.toList x = d') :
    Calls Try.prog 12 #[.pointer (some ⟨b, 0, none⟩), .string s, .string x] w fun e w' => e = .returned (.int .i64 E) ∧ Ik w0 w' b m d' xs := by
  subst hD hE
  exact (append_any w b m d s x h.i.dat hs hx h.i.ok).mono fun _ _ ⟨he, hd, hb⟩ => ⟨he, h.step hd hb (h.i.ok.append _ _)⟩
theorem Ik.sync {w0 w : World} {b m : Nat} {d : Dk} {xs : List (Nat × Nat × Value)} (h : Ik w0 w b m d xs) {s : ByteArray} (hs : s.size ≤ maxLen) {E : Int} {d' : Dk} (hE : syncE d s.data.toList = E) (hD : syncD d s.data.toList = d') :
    Calls Try.prog 20 #[.pointer (some ⟨b, 0, none⟩), .string s] w fun e w' => e = .returned (.int .i64 E) ∧ Ik w0 w' b m d' xs := by
  subst hD hE
  exact (sync_any w b m d s h.i.dat hs h.i.ok).mono fun _ _ ⟨he, hd, hb⟩ => ⟨he, h.step hd hb (h.i.ok.sync _)⟩
theorem Ik.rename {w0 w : World} {b m : Nat} {d : Dk} {xs : List (Nat × Nat × Value)} (h : Ik w0 w b m d xs) {s x : ByteArray} (hs : s.size ≤ maxLen) (hx : x.size ≤ maxLen) {E : Int} {d' : Dk} (hE : renameE d s.data.toList x.data.toList = E) (hD : renameD d s.data.toList x.data.toList = d') :
    Calls Try.prog 22 #[.pointer (some ⟨b, 0, none⟩), .string s, .string x] w fun e w' => e = .returned (.int .i64 E) ∧ Ik w0 w' b m d' xs := by
  subst hD hE
  exact (rename_any w b m d s x h.i.dat hs hx h.i.ok).mono fun _ _ ⟨he, hd, hb⟩ => ⟨he, h.step hd hb (h.i.ok.rename _ _)⟩
theorem Ik.remove {w0 w : World} {b m : Nat} {d : Dk} {xs : List (Nat × Nat × Value)} (h : Ik w0 w b m d xs) {s : ByteArray} (hs : s.size ≤ maxLen) {E : Int} {d' : Dk} (hE : removeE d s.data.toList = E) (hD : removeD d s.data.toList = d') :
    Calls Try.prog 14 #[.pointer (some ⟨b, 0, none⟩), .string s] w fun e w' => e = .returned (.int .i64 E) ∧ Ik w0 w' b m d' xs := by
  subst hD hE
  exact (remove_any w b m d s h.i.dat hs h.i.ok).mono fun _ _ ⟨he, hd, hb⟩ => ⟨he, h.step hd hb (h.i.ok.remove _)⟩
theorem Ik.fuse {w0 w : World} {b m : Nat} {d : Dk} {xs : List (Nat × Nat × Value)} (h : Ik w0 w b m d xs) (n : Int) (hn : n ≤ 9223372036854775807) {d' : Dk} (hD : { d with fuse := max n 0 } = d') :
    Calls Try.prog 24 #[.pointer (some ⟨b, 0, none⟩), .int .i64 n] w fun e w' => e = .returned (.tuple #[]) ∧ Ik w0 w' b m d' xs := by
  subst hD
  exact (fuse_any w b m d h.i.dat n).mono fun _ _ ⟨he, hd, hb⟩ => ⟨he, h.step hd hb (h.i.ok.fuse n hn)⟩
theorem Ik.room {w0 w : World} {b m : Nat} {d : Dk} {xs : List (Nat × Nat × Value)} (h : Ik w0 w b m d xs) (n : Int) (hn : n ≤ 9223372036854775807) {d' : Dk} (hD : { d with room := max n (-1) } = d') :
    Calls Try.prog 16 #[.pointer (some ⟨b, 0, none⟩), .int .i64 n] w fun e w' => e = .returned (.tuple #[]) ∧ Ik w0 w' b m d' xs := by
  subst hD
  exact (room_any w b m d h.i.dat n).mono fun _ _ ⟨he, hd, hb⟩ => ⟨he, h.step hd hb (h.i.ok.room n hn)⟩
theorem Ik.start {w0 w : World} {b m : Nat} {d : Dk} {xs : List (Nat × Nat × Value)} (h : Ik w0 w b m d xs)  {d' : Dk} (hD : startD d = d') :
    Calls Try.prog 27 #[.pointer (some ⟨b, 0, none⟩)] w fun e w' => e = .returned (.tuple #[]) ∧ Ik w0 w' b m d' xs := by
  subst hD
  exact (start_any w b m d h.i.dat h.i.ok).mono fun _ _ ⟨he, hd, hb⟩ => ⟨he, h.step hd hb (h.i.ok.start)⟩
theorem Ik.crash {w0 w : World} {b m : Nat} {d : Dk} {xs : List (Nat × Nat × Value)} (h : Ik w0 w b m d xs) (ka : Option Addr) (kn kc : Nat) (ks : List Int) (hkl : ks.length = kn) (hkn : kn ≤ 1000000000000000)
    (hk : 0 < kn → ∃ kb ko, ka = some ⟨kb, ko, none⟩ ∧ kb ≠ b ∧ ∀ i, i < kn → w.cell? ⟨kb, ko + i, none⟩ = some (.int .i64 (ks.getD i 0))) {d' : Dk} (hD : { d with fs := crashF ks d.fs, down := true, fuse := 0 } = d') :
    Calls Try.prog 26 #[.pointer (some ⟨b, 0, none⟩), .slice ka kn kc] w fun e w' => e = .returned (.tuple #[]) ∧ Ik w0 w' b m d' xs := by
  subst hD
  exact (crash_any w b m d ka kn kc ks h.i.dat h.i.ok hkl hkn hk).mono fun _ _ ⟨he, hd, hb⟩ => ⟨he, h.step hd hb (h.i.ok.crash ks true)⟩
theorem Ik.read {w0 w : World} {b m : Nat} {d : Dk} {xs : List (Nat × Nat × Value)} (h : Ik w0 w b m d xs) {s : ByteArray} (hs : s.size ≤ maxLen) {S : ByteArray} {E : Int} (hS : readS d s.data.toList = S) (hE : readE d s.data.toList = E) :
    Calls Try.prog 18 #[.pointer (some ⟨b, 0, none⟩), .string s] w fun e w' => e = .returned (.tuple #[.string S, .int .i64 E]) ∧ Ik w0 w' b m d xs := by
  subst hS hE
  exact (read_any w b m d s h.i.dat hs).mono fun _ _ ⟨he, hb⟩ => ⟨he, h.quiet hb⟩
theorem Ik.used {w0 w : World} {b m : Nat} {d : Dk} {xs : List (Nat × Nat × Value)} (h : Ik w0 w b m d xs) :
    Calls Try.prog 13 #[.pointer (some ⟨b, 0, none⟩)] w fun e w' => e = .returned (.int .i64 (total d.fs)) ∧ Ik w0 w' b m d xs :=
  (used_any w b m d h.i.dat h.i.ok).mono fun _ _ ⟨he, hb⟩ => ⟨he, h.quiet hb⟩
theorem Ik.down {w0 w : World} {b m : Nat} {d : Dk} {xs : List (Nat × Nat × Value)} (h : Ik w0 w b m d xs) {f : Bool} (hf : d.down = f) :
    Calls Try.prog 29 #[.pointer (some ⟨b, 0, none⟩)] w fun e w' => e = .returned (.bool f) ∧ w = w' := by
  subst hf
  exact down_any w b m d h.i.dat
theorem Ik.list {w0 w : World} {b m : Nat} {d : Dk} {xs : List (Nat × Nat × Value)} (h : Ik w0 w b m d xs) :
    Calls Try.prog 15 #[.pointer (some ⟨b, 0, none⟩)] w fun e w' => (∃ v, e = .returned v ∧ StrsAt w' w.heap.size v (names d.fs)) ∧ Below w.heap.size w w' ∧ Ik w0 w' b m d xs :=
  (list_any w b m d h.i.dat h.i.ok).mono fun _ _ ⟨he, hb⟩ => ⟨he, hb, h.quiet hb⟩
theorem Tk.create {w0 w : World} {b m t n : Nat} {d c : Dk} {xs : List (Nat × Nat × Value)} (h : Tk w0 w b m d t n c xs) {s : ByteArray} (hs : s.size ≤ maxLen) {E : Int} {d' : Dk} (hE : createE d s.data.toList = E) (hD : createD d s.data.toList = d') :
    Calls Try.prog 11 #[.pointer (some ⟨b, 0, none⟩), .string s] w fun e w' => e = .returned (.int .i64 E) ∧ Tk w0 w' b m d' t n c xs := by
  subst hD hE
  exact (create_any w b m d s h.i.l.dat hs h.i.l.ok).mono fun _ _ ⟨he, hd, hb⟩ => ⟨he, h.step hd hb (h.i.l.ok.create _)⟩
theorem Tk.append {w0 w : World} {b m t n : Nat} {d c : Dk} {xs : List (Nat × Nat × Value)} (h : Tk w0 w b m d t n c xs) {s x : ByteArray} (hs : s.size ≤ maxLen) (hx : x.size ≤ 1000000000000000) {E : Int} {d' : Dk} (hE : appendE d s.data.toList x = E) (hD : appendD d s.data.toList x = d') :
    Calls Try.prog 12 #[.pointer (some ⟨b, 0, none⟩), .string s, .string x] w fun e w' => e = .returned (.int .i64 E) ∧ Tk w0 w' b m d' t n c xs := by
  subst hD hE
  exact (append_any w b m d s x h.i.l.dat hs hx h.i.l.ok).mono fun _ _ ⟨he, hd, hb⟩ => ⟨he, h.step hd hb (h.i.l.ok.append _ _)⟩
theorem Tk.sync {w0 w : World} {b m t n : Nat} {d c : Dk} {xs : List (Nat × Nat × Value)} (h : Tk w0 w b m d t n c xs) {s : ByteArray} (hs : s.size ≤ maxLen) {E : Int} {d' : Dk} (hE : syncE d s.data.toList = E) (hD : syncD d s.data.toList = d') :
    Calls Try.prog 20 #[.pointer (some ⟨b, 0, none⟩), .string s] w fun e w' => e = .returned (.int .i64 E) ∧ Tk w0 w' b m d' t n c xs := by
  subst hD hE
  exact (sync_any w b m d s h.i.l.dat hs h.i.l.ok).mono fun _ _ ⟨he, hd, hb⟩ => ⟨he, h.step hd hb (h.i.l.ok.sync _)⟩
theorem Tk.rename {w0 w : World} {b m t n : Nat} {d c : Dk} {xs : List (Nat × Nat × Value)} (h : Tk w0 w b m d t n c xs) {s x : ByteArray} (hs : s.size ≤ maxLen) (hx : x.size ≤ maxLen) {E : Int} {d' : Dk} (hE : renameE d s.data.toList x.data.toList = E) (hD : renameD d s.data.toList x.data.toList = d') :
    Calls Try.prog 22 #[.pointer (some ⟨b, 0, none⟩), .string s, .string x] w fun e w' => e = .returned (.int .i64 E) ∧ Tk w0 w' b m d' t n c xs := by
  subst hD hE
  exact (rename_any w b m d s x h.i.l.dat hs hx h.i.l.ok).mono fun _ _ ⟨he, hd, hb⟩ => ⟨he, h.step hd hb (h.i.l.ok.rename _ _)⟩
theorem Tk.remove {w0 w : World} {b m t n : Nat} {d c : Dk} {xs : List (Nat × Nat × Value)} (h : Tk w0 w b m d t n c xs) {s : ByteArray} (hs : s.size ≤ maxLen) {E : Int} {d' : Dk} (hE : removeE d s.data.toList = E) (hD : removeD d s.data.toList = d') :
    Calls Try.prog 14 #[.pointer (some ⟨b, 0, none⟩), .string s] w fun e w' => e = .returned (.int .i64 E) ∧ Tk w0 w' b m d' t n c xs := by
  subst hD hE
  exact (remove_any w b m d s h.i.l.dat hs h.i.l.ok).mono fun _ _ ⟨he, hd, hb⟩ => ⟨he, h.step hd hb (h.i.l.ok.remove _)⟩
theorem Tk.fuse {w0 w : World} {b m t n : Nat} {d c : Dk} {xs : List (Nat × Nat × Value)} (h : Tk w0 w b m d t n c xs) (j : Int) (hn : j ≤ 9223372036854775807) {d' : Dk} (hD : { d with fuse := max j 0 } = d') :
    Calls Try.prog 24 #[.pointer (some ⟨b, 0, none⟩), .int .i64 j] w fun e w' => e = .returned (.tuple #[]) ∧ Tk w0 w' b m d' t n c xs := by
  subst hD
  exact (fuse_any w b m d h.i.l.dat j).mono fun _ _ ⟨he, hd, hb⟩ => ⟨he, h.step hd hb (h.i.l.ok.fuse j hn)⟩
theorem Tk.room {w0 w : World} {b m t n : Nat} {d c : Dk} {xs : List (Nat × Nat × Value)} (h : Tk w0 w b m d t n c xs) (j : Int) (hn : j ≤ 9223372036854775807) {d' : Dk} (hD : { d with room := max j (-1) } = d') :
    Calls Try.prog 16 #[.pointer (some ⟨b, 0, none⟩), .int .i64 j] w fun e w' => e = .returned (.tuple #[]) ∧ Tk w0 w' b m d' t n c xs := by
  subst hD
  exact (room_any w b m d h.i.l.dat j).mono fun _ _ ⟨he, hd, hb⟩ => ⟨he, h.step hd hb (h.i.l.ok.room j hn)⟩
theorem Tk.start {w0 w : World} {b m t n : Nat} {d c : Dk} {xs : List (Nat × Nat × Value)} (h : Tk w0 w b m d t n c xs)  {d' : Dk} (hD : startD d = d') :
    Calls Try.prog 27 #[.pointer (some ⟨b, 0, none⟩)] w fun e w' => e = .returned (.tuple #[]) ∧ Tk w0 w' b m d' t n c xs := by
  subst hD
  exact (start_any w b m d h.i.l.dat h.i.l.ok).mono fun _ _ ⟨he, hd, hb⟩ => ⟨he, h.step hd hb (h.i.l.ok.start)⟩
theorem Tk.crash {w0 w : World} {b m t n : Nat} {d c : Dk} {xs : List (Nat × Nat × Value)} (h : Tk w0 w b m d t n c xs) (ka : Option Addr) (kn kc : Nat) (ks : List Int) (hkl : ks.length = kn) (hkn : kn ≤ 1000000000000000)
    (hk : 0 < kn → ∃ kb ko, ka = some ⟨kb, ko, none⟩ ∧ kb ≠ b ∧ ∀ i, i < kn → w.cell? ⟨kb, ko + i, none⟩ = some (.int .i64 (ks.getD i 0))) {d' : Dk} (hD : { d with fs := crashF ks d.fs, down := true, fuse := 0 } = d') :
    Calls Try.prog 26 #[.pointer (some ⟨b, 0, none⟩), .slice ka kn kc] w fun e w' => e = .returned (.tuple #[]) ∧ Tk w0 w' b m d' t n c xs := by
  subst hD
  exact (crash_any w b m d ka kn kc ks h.i.l.dat h.i.l.ok hkl hkn hk).mono fun _ _ ⟨he, hd, hb⟩ => ⟨he, h.step hd hb (h.i.l.ok.crash ks true)⟩
theorem Tk.read {w0 w : World} {b m t n : Nat} {d c : Dk} {xs : List (Nat × Nat × Value)} (h : Tk w0 w b m d t n c xs) {s : ByteArray} (hs : s.size ≤ maxLen) {S : ByteArray} {E : Int} (hS : readS d s.data.toList = S) (hE : readE d s.data.toList = E) :
    Calls Try.prog 18 #[.pointer (some ⟨b, 0, none⟩), .string s] w fun e w' => e = .returned (.tuple #[.string S, .int .i64 E]) ∧ Tk w0 w' b m d t n c xs := by
  subst hS hE
  exact (read_any w b m d s h.i.l.dat hs).mono fun _ _ ⟨he, hb⟩ => ⟨he, h.quiet hb⟩
theorem Tk.used {w0 w : World} {b m t n : Nat} {d c : Dk} {xs : List (Nat × Nat × Value)} (h : Tk w0 w b m d t n c xs) :
    Calls Try.prog 13 #[.pointer (some ⟨b, 0, none⟩)] w fun e w' => e = .returned (.int .i64 (total d.fs)) ∧ Tk w0 w' b m d t n c xs :=
  (used_any w b m d h.i.l.dat h.i.l.ok).mono fun _ _ ⟨he, hb⟩ => ⟨he, h.quiet hb⟩
theorem Tk.down {w0 w : World} {b m t n : Nat} {d c : Dk} {xs : List (Nat × Nat × Value)} (h : Tk w0 w b m d t n c xs) {f : Bool} (hf : d.down = f) :
    Calls Try.prog 29 #[.pointer (some ⟨b, 0, none⟩)] w fun e w' => e = .returned (.bool f) ∧ w = w' := by
  subst hf
  exact down_any w b m d h.i.l.dat
theorem Tk.list {w0 w : World} {b m t n : Nat} {d c : Dk} {xs : List (Nat × Nat × Value)} (h : Tk w0 w b m d t n c xs) :
    Calls Try.prog 15 #[.pointer (some ⟨b, 0, none⟩)] w fun e w' => (∃ v, e = .returned v ∧ StrsAt w' w.heap.size v (names d.fs)) ∧ Below w.heap.size w w' ∧ Tk w0 w' b m d t n c xs :=
  (list_any w b m d h.i.l.dat h.i.l.ok).mono fun _ _ ⟨he, hb⟩ => ⟨he, hb, h.quiet hb⟩
theorem Ik.usedIs {w0 w : World} {b m : Nat} {d : Dk} {xs : List (Nat × Nat × Value)} (h : Ik w0 w b m d xs) {U : Int} (hU : (total d.fs : Int) = U) :
    Calls Try.prog 13 #[.pointer (some ⟨b, 0, none⟩)] w fun e w' => e = .returned (.int .i64 U) ∧ Ik w0 w' b m d xs := by
  subst hU
  exact h.used
theorem Tk.usedIs {w0 w : World} {b m t n : Nat} {d c : Dk} {xs : List (Nat × Nat × Value)} (h : Tk w0 w b m d t n c xs) {U : Int} (hU : (total d.fs : Int) = U) :
    Calls Try.prog 13 #[.pointer (some ⟨b, 0, none⟩)] w fun e w' => e = .returned (.int .i64 U) ∧ Tk w0 w' b m d t n c xs := by
  subst hU
  exact h.used
end Go.Proofs.Ytmhflhbogkkblaa
