/-
  Joined: Pl, In.
-/
import Derived.Test.YtcohbfabcdjefaaGreatDoorQ
namespace Go.Proofs.YtcohbfabcdjefaaGreatDoor
open Go.RowKit Go.Maps

theorem get_at {F : Fs} (h : F.Pairwise (fun x y => bytesBefore x.1 y.1 = true)) (i : Nat) (hi : i < F.length) : fget F F[i].1 = some F[i].2 := by
  have e : F = F.take i ++ F[i] :: F.drop (i + 1) := by
    rw [← List.drop_eq_getElem_cons hi, List.take_append_drop]
  have h2 := h
  rw [e] at h2
  have := get_mid h2
  rw [← e] at this
  exact this

theorem fget_mem {F : Fs} (h : F.Pairwise (fun x y => bytesBefore x.1 y.1 = true)) {k : Nm} {f : Fl} : fget F k = some f ↔ (k, f) ∈ F := by
  constructor
  · exact get_mem
  · intro hm
    obtain ⟨i, hi, he⟩ := List.getElem_of_mem hm
    have := get_at h i hi
    rwa [he] at this
theorem fget_none {F : Fs} {k : Nm} : fget F k = none ↔ ∀ f, (k, f) ∉ F := by
  unfold fget
  rw [Option.map_eq_none_iff, List.find?_eq_none]
  constructor
  · intro h f hm
    have := h _ hm
    simp at this
  · intro h x hx e
    have e' : x.1 = k := by simpa using e
    exact h x.2 (by rw [← e']; exact hx)
theorem fget_del_same (F : Fs) (k : Nm) : fget (fdel F k) k = none := fget_none.2 fun f h => (mem_fdel.1 h).2 rfl
theorem fget_del_ne {F : Fs} (k : Nm) {j : Nm} (hne : j ≠ k) : fget (fdel F k) j = fget F j := by
  induction F with
  | nil => rfl
  | cons x r ih =>
    by_cases hx : x.1 = k
    · have e2 : fdel (x :: r) k = fdel r k := by simp [fdel, hx]
      rw [e2, ih]
      have : (x.1 == j) = false := by rw [beq_eq_false_iff_ne, hx]; exact fun e => hne e.symm
      simp [fget, List.find?_cons, this]
    · have e2 : fdel (x :: r) k = x :: fdel r k := by simp [fdel, hx]
      rw [e2]
      simp only [fget, List.find?_cons] at ih ⊢
      cases x.1 == j
      · exact ih
      · rfl
theorem fget_put_same {F : Fs} (h : F.Pairwise (fun x y => bytesBefore x.1 y.1 = true)) (k : Nm) (f : Fl) : fget (fput F k f) k = some f :=
  (fget_mem (fins_up (h.filter _) (fun y hy => (mem_fdel.1 hy).2))).2 (mem_fins.2 (.inl rfl))
theorem fget_put_ne {F : Fs} (h : F.Pairwise (fun x y => bytesBefore x.1 y.1 = true)) (k : Nm) (f : Fl) {j : Nm} (hne : j ≠ k) : fget (fput F k f) j = fget F j := by
  have hu : (fput F k f).Pairwise (fun x y => bytesBefore x.1 y.1 = true) := fins_up (h.filter _) (fun y hy => (mem_fdel.1 hy).2)
  have e : ∀ g, fget (fput F k f) j = some g ↔ fget F j = some g := fun g => by
    rw [fget_mem hu, fget_mem h]
    unfold fput
    rw [mem_fins, mem_fdel]
    constructor
    · rintro (e | ⟨e, _⟩)
      · injection e with e1 e2; exact absurd e1 hne
      · exact e
    · exact fun e => .inr ⟨e, hne⟩
  cases hg : fget F j with
  | none =>
    cases hp : fget (fput F k f) j with
    | none => rfl
    | some g => rw [(e g).1 hp] at hg; cases hg
  | some g => exact (e g).2 hg
theorem up_put {F : Fs} (h : F.Pairwise (fun x y => bytesBefore x.1 y.1 = true)) (k : Nm) (f : Fl) : (fput F k f).Pairwise (fun x y => bytesBefore x.1 y.1 = true) := fins_up (h.filter _) (fun y hy => (mem_fdel.1 hy).2)
theorem up_del {F : Fs} (h : F.Pairwise (fun x y => bytesBefore x.1 y.1 = true)) (k : Nm) : (fdel F k).Pairwise (fun x y => bytesBefore x.1 y.1 = true) := h.filter _

theorem fs_ext : ∀ {F G : Fs}, F.Pairwise (fun x y => bytesBefore x.1 y.1 = true) → G.Pairwise (fun x y => bytesBefore x.1 y.1 = true) → (∀ k, fget F k = fget G k) → F = G
  | [], [], _, _, _ => rfl
  | [], y :: s, _, _, h => by
    have := h y.1
    simp [fget] at this
  | x :: r, [], _, _, h => by
    have := h x.1
    simp [fget] at this
  | x :: r, y :: s, hF, hG, h => by
    have hF' := List.pairwise_cons.1 hF
    have hG' := List.pairwise_cons.1 hG
    have hx : fget (y :: s) x.1 = some x.2 := by rw [← h]; simp [fget]
    have hy : fget (x :: r) y.1 = some y.2 := by rw [h]; simp [fget]
    have hx2 := get_mem hx
    have hy2 := get_mem hy
    have e : x = y := by
      rcases List.mem_cons.1 hx2 with e | hs
      · exact e
      · rcases List.mem_cons.1 hy2 with e | hr
        · exact e.symm
        · have h1 := (before_lt _ _).1 (hG'.1 _ hs)
          have h2 := (before_lt _ _).1 (hF'.1 _ hr)
          exact absurd (List.lt_trans h1 h2) (List.lt_irrefl _)
    subst e
    rw [fs_ext hF'.2 hG'.2 fun k => ?_]
    by_cases hk : k = x.1
    · have a : fget r k = none := fget_none.2 fun f hm => before_ne (hF'.1 _ hm) hk.symm
      have b : fget s k = none := fget_none.2 fun f hm => before_ne (hG'.1 _ hm) hk.symm
      rw [a, b]
    · have := h k
      have hb : (x.1 == k) = false := by rw [beq_eq_false_iff_ne]; exact fun e => hk e.symm
      simp only [fget, List.find?_cons, hb] at this
      exact this

/-- renamed to itself: as it was -/
theorem rename_self {F : Fs} (h : F.Pairwise (fun x y => bytesBefore x.1 y.1 = true)) {k : Nm} {f : Fl} (hk : fget F k = some f) : fput (fdel F k) k f = F := by
  refine fs_ext (up_put (up_del h k) k f) h fun j => ?_
  by_cases hj : j = k
  · subst hj; rw [fget_put_same (up_del h _), hk]
  · rw [fget_put_ne (up_del h k) k f hj, fget_del_ne k hj]
/-- renamed there and back: as it was -/
theorem rename_back {F : Fs} (h : F.Pairwise (fun x y => bytesBefore x.1 y.1 = true)) {a b : Nm} {f : Fl} (hab : a ≠ b) (ha : fget F a = some f) (hb : fget F b = none) : fput (fdel (fput (fdel F a) b f) b) a f = F := by
  have h1 := up_del h a
  have h2 := up_put h1 b f
  have h3 := up_del h2 b
  refine fs_ext (up_put h3 a f) h fun j => ?_
  by_cases hj : j = a
  · subst hj; rw [fget_put_same h3, ha]
  · rw [fget_put_ne h3 a f hj]
    by_cases hj2 : j = b
    · subst hj2; rw [fget_del_same, hb]
    · rw [fget_del_ne b hj2, fget_put_ne h1 b f hj2, fget_del_ne a hj]
end Go.Proofs.YtcohbfabcdjefaaGreatDoor
namespace Go.Proofs.YtcohbfabcdjefaaGreatDoor
open Go.RowKit Go.Maps

theorem Fit.fuse {d : Dk} (h : Fit d) (n : Int) (hn : n ≤ 9223372036854775807) : Fit { d with fuse := max n 0 } := ⟨h.len, by show 0 ≤ max n 0; omega, by show max n 0 ≤ _; omega, h.rlo, h.rhi, h.sz, h.syn, h.nm, h.up⟩
theorem Fit.room {d : Dk} (h : Fit d) (n : Int) (hn : n ≤ 9223372036854775807) : Fit { d with room := max n (-1) } := ⟨h.len, h.flo, h.fhi, by show -1 ≤ max n (-1); omega, by show max n (-1) ≤ _; omega, h.sz, h.syn, h.nm, h.up⟩
/-- block b holds a fit disk that was made behind world w0 -/
structure In (w0 w : World) (b m : Nat) (d : Dk) : Prop where
  dat : DAt w b m d
  ok : Fit d
  lb : w0.heap.size ≤ b
  lm : w0.heap.size ≤ m
  bel : Below w0.heap.size w0 w
theorem In.step {w0 w w' : World} {b m : Nat} {d d' : Dk} (h : In w0 w b m d) (hd : DAt w' b m d') (hb : But [b, m] w w') (ok : Fit d') : In w0 w' b m d' :=
  ⟨hd, ok, h.lb, h.lm, h.bel.trans (hb.below h.bel.size (fun x hx => by rcases List.mem_cons.1 hx with rfl | hx; exact h.lb; rw [List.mem_singleton.1 hx]; exact h.lm))⟩
theorem In.quiet {w0 w w' : World} {b m : Nat} {d : Dk} (h : In w0 w b m d) (hb : Below w.heap.size w w') : In w0 w' b m d :=
  ⟨h.dat.below hb, h.ok, h.lb, h.lm, h.bel.trans (hb.mono h.bel.size)⟩
theorem In.alloc {w0 w : World} {b m : Nat} {d : Dk} (h : In w0 w b m d) (o : Obj) : In w0 (w.alloc o) b m d := h.quiet (bl1 w o)
theorem In.drew {w0 w : World} {b m : Nat} {d : Dk} (h : In w0 w b m d) : In w0 w.drew b m d := h.quiet ((Below.refl _ _).drew)
theorem In.drewN {w0 w : World} {b m : Nat} {d : Dk} (h : In w0 w b m d) (n : Nat) : In w0 (w.drewN n) b m d := h.quiet (below_drewN (Below.refl _ _) n)
theorem In.new {w0 w : World} (h : Below w0.heap.size w0 w) : Calls Tryz.prog 6 #[] w fun e w' => e = .returned (.pointer (some ⟨w.heap.size + 1, 0, none⟩)) ∧ In w0 w' (w.heap.size + 1) w.heap.size d0 :=
  (new_any w).mono fun _ _ ⟨he, hd, hb⟩ => ⟨he, hd, Fit.d0, by have := h.size; omega, h.size, h.trans (hb.mono h.size)⟩
/-- two disks apart -/
structure Tw (w0 w : World) (b m : Nat) (d : Dk) (t n : Nat) (c : Dk) : Prop where
  l : In w0 w b m d
  r : In w0 w t n c
  bt : b ≠ t
  bn : b ≠ n
  mt : m ≠ t
  mn : m ≠ n
theorem Tw.symm {w0 w : World} {b m t n : Nat} {d c : Dk} (h : Tw w0 w b m d t n c) : Tw w0 w t n c b m d := ⟨h.r, h.l, h.bt.symm, h.mt.symm, h.bn.symm, h.mn.symm⟩
theorem Tw.step {w0 w w' : World} {b m t n : Nat} {d d' c : Dk} (h : Tw w0 w b m d t n c) (hd : DAt w' b m d') (hb : But [b, m] w w') (ok : Fit d') : Tw w0 w' b m d' t n c :=
  have hl := h.l.step hd hb ok
  ⟨hl, ⟨h.r.dat.but hb (by simp [h.bt.symm, h.mt.symm]) (by simp [h.bn.symm, h.mn.symm]), h.r.ok, h.r.lb, h.r.lm, hl.bel⟩, h.bt, h.bn, h.mt, h.mn⟩
theorem Tw.quiet {w0 w w' : World} {b m t n : Nat} {d c : Dk} (h : Tw w0 w b m d t n c) (hb : Below w.heap.size w w') : Tw w0 w' b m d t n c := ⟨h.l.quiet hb, h.r.quiet hb, h.bt, h.bn, h.mt, h.mn⟩
theorem Tw.alloc {w0 w : World} {b m t n : Nat} {d c : Dk} (h : Tw w0 w b m d t n c) (o : Obj) : Tw w0 (w.alloc o) b m d t n c := h.quiet (bl1 w o)
theorem Tw.drew {w0 w : World} {b m t n : Nat} {d c : Dk} (h : Tw w0 w b m d t n c) : Tw w0 w.drew b m d t n c := h.quiet ((Below.refl _ _).drew)
theorem Tw.drewN {w0 w : World} {b m t n : Nat} {d c : Dk} (h : Tw w0 w b m d t n c) (k : Nat) : Tw w0 (w.drewN k) b m d t n c := h.quiet (below_drewN (Below.refl _ _) k)
theorem In.two {w0 w : World} {b m : Nat} {d : Dk} (h : In w0 w b m d) : Calls Tryz.prog 6 #[] w fun e w' => e = .returned (.pointer (some ⟨w.heap.size + 1, 0, none⟩)) ∧ Tw w0 w' b m d (w.heap.size + 1) w.heap.size d0 :=
  (new_any w).mono fun _ _ ⟨he, hd, hb⟩ => by
    have h1 := h.dat.lt
    have h2 := h.dat.map.lt
    have h3 := h.bel.size
    have hq := h.quiet hb
    exact ⟨he, hq, ⟨hd, Fit.d0, by omega, by omega, hq.bel⟩, by omega, by omega, by omega, by omega⟩
theorem In.create {w0 w : World} {b m : Nat} {d : Dk} (h : In w0 w b m d) {s : ByteArray} (hs : s.size ≤ maxLen) {E : Int} {d' : Dk} (hE : createE d s.data.toList = E) (hD : createD d s.data.toList = d') :
    Calls Tryz.prog 150 #[.pointer (some ⟨b, 0, none⟩), .string s] w fun e w' => e = .returned (.int .i64 E) ∧ In w0 w' b m d' := by
  subst hD hE
  exact (create_any w b m d s h.dat hs h.ok).mono fun _ _ ⟨he, hd, hb⟩ => ⟨he, h.step hd hb (h.ok.create _)⟩
theorem In.append {w0 w : World} {b m : Nat} {d : Dk} (h : In w0 w b m d) {s x : ByteArray} (hs : s.size ≤ maxLen) (hx : x.size ≤ 1000000000000000) {E : Int} {d' : Dk} (hE : appendE d s.data.toList x = E) (hD : appendD d s.data.toList x = d') :
    Calls Tryz.prog 164 #[.pointer (some ⟨b, 0, none⟩), .string s, .string x] w fun e w' => e = .returned (.int .i64 E) ∧ In w0 w' b m d' := by
  subst hD hE
  exact (append_any w b m d s x h.dat hs hx h.ok).mono fun _ _ ⟨he, hd, hb⟩ => ⟨he, h.step hd hb (h.ok.append _ _)⟩
theorem In.sync {w0 w : World} {b m : Nat} {d : Dk} (h : In w0 w b m d) {s : ByteArray} (hs : s.size ≤ maxLen) {E : Int} {d' : Dk} (hE : syncE d s.data.toList = E) (hD : syncD d s.data.toList = d') :
    Calls Tryz.prog 151 #[.pointer (some ⟨b, 0, none⟩), .string s] w fun e w' => e = .returned (.int .i64 E) ∧ In w0 w' b m d' := by
  subst hD hE
  exact (sync_any w b m d s h.dat hs h.ok).mono fun _ _ ⟨he, hd, hb⟩ => ⟨he, h.step hd hb (h.ok.sync _)⟩
theorem In.rename {w0 w : World} {b m : Nat} {d : Dk} (h : In w0 w b m d) {s x : ByteArray} (hs : s.size ≤ maxLen) (hx : x.size ≤ maxLen) {E : Int} {d' : Dk} (hE : renameE d s.data.toList x.data.toList = E) (hD : renameD d s.data.toList x.data.toList = d') :
    Calls Tryz.prog 256 #[.pointer (some ⟨b, 0, none⟩), .string s, .string x] w fun e w' => e = .returned (.int .i64 E) ∧ In w0 w' b m d' := by
  subst hD hE
  exact (rename_any w b m d s x h.dat hs hx h.ok).mono fun _ _ ⟨he, hd, hb⟩ => ⟨he, h.step hd hb (h.ok.rename _ _)⟩
theorem In.remove {w0 w : World} {b m : Nat} {d : Dk} (h : In w0 w b m d) {s : ByteArray} (hs : s.size ≤ maxLen) {E : Int} {d' : Dk} (hE : removeE d s.data.toList = E) (hD : removeD d s.data.toList = d') :
    Calls Tryz.prog 78 #[.pointer (some ⟨b, 0, none⟩), .string s] w fun e w' => e = .returned (.int .i64 E) ∧ In w0 w' b m d' := by
  subst hD hE
  exact (remove_any w b m d s h.dat hs h.ok).mono fun _ _ ⟨he, hd, hb⟩ => ⟨he, h.step hd hb (h.ok.remove _)⟩
theorem In.read {w0 w : World} {b m : Nat} {d : Dk} (h : In w0 w b m d) {s : ByteArray} (hs : s.size ≤ maxLen) {S : ByteArray} {E : Int} (hS : readS d s.data.toList = S) (hE : readE d s.data.toList = E) :
    Calls Tryz.prog 71 #[.pointer (some ⟨b, 0, none⟩), .string s] w fun e w' => e = .returned (.tuple #[.string S, .int .i64 E]) ∧ In w0 w' b m d := by
  subst hS hE
  exact (read_any w b m d s h.dat hs).mono fun _ _ ⟨he, hb⟩ => ⟨he, h.quiet hb⟩
theorem In.used {w0 w : World} {b m : Nat} {d : Dk} (h : In w0 w b m d) :
    Calls Tryz.prog 214 #[.pointer (some ⟨b, 0, none⟩)] w fun e w' => e = .returned (.int .i64 (total d.fs)) ∧ In w0 w' b m d :=
  (used_any w b m d h.dat h.ok).mono fun _ _ ⟨he, hb⟩ => ⟨he, h.quiet hb⟩
theorem In.down {w0 w : World} {b m : Nat} {d : Dk} (h : In w0 w b m d) {f : Bool} (hf : d.down = f) :
    Calls Tryz.prog 86 #[.pointer (some ⟨b, 0, none⟩)] w fun e w' => e = .returned (.bool f) ∧ w = w' := by
  subst hf
  exact down_any w b m d h.dat
theorem In.list {w0 w : World} {b m : Nat} {d : Dk} (h : In w0 w b m d) :
    Calls Tryz.prog 73 #[.pointer (some ⟨b, 0, none⟩)] w fun e w' => (∃ v, e = .returned v ∧ StrsAt w' w.heap.size v (names d.fs)) ∧ Below w.heap.size w w' ∧ In w0 w' b m d :=
  (list_any w b m d h.dat h.ok).mono fun _ _ ⟨he, hb⟩ => ⟨he, hb, h.quiet hb⟩
theorem Tw.create {w0 w : World} {b m t n : Nat} {d c : Dk} (h : Tw w0 w b m d t n c) {s : ByteArray} (hs : s.size ≤ maxLen) {E : Int} {d' : Dk} (hE : createE d s.data.toList = E) (hD : createD d s.data.toList = d') :
    Calls Tryz.prog 150 #[.pointer (some ⟨b, 0, none⟩), .string s] w fun e w' => e = .returned (.int .i64 E) ∧ Tw w0 w' b m d' t n c := by
  subst hD hE
  exact (create_any w b m d s h.l.dat hs h.l.ok).mono fun _ _ ⟨he, hd, hb⟩ => ⟨he, h.step hd hb (h.l.ok.create _)⟩
theorem Tw.append {w0 w : World} {b m t n : Nat} {d c : Dk} (h : Tw w0 w b m d t n c) {s x : ByteArray} (hs : s.size ≤ maxLen) (hx : x.size ≤ 1000000000000000) {E : Int} {d' : Dk} (hE : appendE d s.data.toList x = E) (hD : appendD d s.data.toList x = d') :
    Calls Tryz.prog 164 #[.pointer (some ⟨b, 0, none⟩), .string s, .string x] w fun e w' => e = .returned (.int .i64 E) ∧ Tw w0 w' b m d' t n c := by
  subst hD hE
  exact (append_any w b m d s x h.l.dat hs hx h.l.ok).mono fun _ _ ⟨he, hd, hb⟩ => ⟨he, h.step hd hb (h.l.ok.append _ _)⟩
theorem Tw.sync {w0 w : World} {b m t n : Nat} {d c : Dk} (h : Tw w0 w b m d t n c) {s : ByteArray} (hs : s.size ≤ maxLen) {E : Int} {d' : Dk} (hE : syncE d s.data.toList = E) (hD : syncD d s.data.toList = d') :
    Calls Tryz.prog 151 #[.pointer (some ⟨b, 0, none⟩), .string s] w fun e w' => e = .returned (.int .i64 E) ∧ Tw w0 w' b m d' t n c := by
  subst hD hE
  exact (sync_any w b m d s h.l.dat hs h.l.ok).mono fun _ _ ⟨he, hd, hb⟩ => ⟨he, h.step hd hb (h.l.ok.sync _)⟩
theorem Tw.rename {w0 w : World} {b m t n : Nat} {d c : Dk} (h : Tw w0 w b m d t n c) {s x : ByteArray} (hs : s.size ≤ maxLen) (hx : x.size ≤ maxLen) {E : Int} {d' : Dk} (hE : renameE d s.data.toList x.data.toList = E) (hD : renameD d s.data.toList x.data.toList = d') :
    Calls Tryz.prog 256 #[.pointer (some ⟨b, 0, none⟩), .string s, .string x] w fun e w' => e = .returned (.int .i64 E) ∧ Tw w0 w' b m d' t n c := by
  subst hD hE
  exact (rename_any w b m d s x h.l.dat hs hx h.l.ok).mono fun _ _ ⟨he, hd, hb⟩ => ⟨he, h.step hd hb (h.l.ok.rename _ _)⟩
theorem Tw.remove {w0 w : World} {b m t n : Nat} {d c : Dk} (h : Tw w0 w b m d t n c) {s : ByteArray} (hs : s.size ≤ maxLen) {E : Int} {d' : Dk} (hE : removeE d s.data.toList = E) (hD : removeD d s.data.toList = d') :
    Calls Tryz.prog 78 #[.pointer (some ⟨b, 0, none⟩), .string s] w fun e w' => e = .returned (.int .i64 E) ∧ Tw w0 w' b m d' t n c := by
  subst hD hE
  exact (remove_any w b m d s h.l.dat hs h.l.ok).mono fun _ _ ⟨he, hd, hb⟩ => ⟨he, h.step hd hb (h.l.ok.remove _)⟩
theorem Tw.read {w0 w : World} {b m t n : Nat} {d c : Dk} (h : Tw w0 w b m d t n c) {s : ByteArray} (hs : s.size ≤ maxLen) {S : ByteArray} {E : Int} (hS : readS d s.data.toList = S) (hE : readE d s.data.toList = E) :
    Calls Tryz.prog 71 #[.pointer (some ⟨b, 0, none⟩), .string s] w fun e w' => e = .returned (.tuple #[.string S, .int .i64 E]) ∧ Tw w0 w' b m d t n c := by
  subst hS hE
  exact (read_any w b m d s h.l.dat hs).mono fun _ _ ⟨he, hb⟩ => ⟨he, h.quiet hb⟩
theorem Tw.used {w0 w : World} {b m t n : Nat} {d c : Dk} (h : Tw w0 w b m d t n c) :
    Calls Tryz.prog 214 #[.pointer (some ⟨b, 0, none⟩)] w fun e w' => e = .returned (.int .i64 (total d.fs)) ∧ Tw w0 w' b m d t n c :=
  (used_any w b m d h.l.dat h.l.ok).mono fun _ _ ⟨he, hb⟩ => ⟨he, h.quiet hb⟩
theorem Tw.down {w0 w : World} {b m t n : Nat} {d c : Dk} (h : Tw w0 w b m d t n c) {f : Bool} (hf : d.down = f) :
    Calls Tryz.prog 86 #[.pointer (some ⟨b, 0, none⟩)] w fun e w' => e = .returned (.bool f) ∧ w = w' := by
  subst hf
  exact down_any w b m d h.l.dat
theorem Tw.list {w0 w : World} {b m t n : Nat} {d c : Dk} (h : Tw w0 w b m d t n c) :
    Calls Tryz.prog 73 #[.pointer (some ⟨b, 0, none⟩)] w fun e w' => (∃ v, e = .returned v ∧ StrsAt w' w.heap.size v (names d.fs)) ∧ Below w.heap.size w w' ∧ Tw w0 w' b m d t n c :=
  (list_any w b m d h.l.dat h.l.ok).mono fun _ _ ⟨he, hb⟩ => ⟨he, hb, h.quiet hb⟩
theorem In.usedIs {w0 w : World} {b m : Nat} {d : Dk} (h : In w0 w b m d) {U : Int} (hU : (total d.fs : Int) = U) :
    Calls Tryz.prog 214 #[.pointer (some ⟨b, 0, none⟩)] w fun e w' => e = .returned (.int .i64 U) ∧ In w0 w' b m d := by
  subst hU
  exact h.used
theorem Tw.usedIs {w0 w : World} {b m t n : Nat} {d c : Dk} (h : Tw w0 w b m d t n c) {U : Int} (hU : (total d.fs : Int) = U) :
    Calls Tryz.prog 214 #[.pointer (some ⟨b, 0, none⟩)] w fun e w' => e = .returned (.int .i64 U) ∧ Tw w0 w' b m d t n c := by
  subst hU
  exact h.used
end Go.Proofs.YtcohbfabcdjefaaGreatDoor
