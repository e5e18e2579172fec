/-
  Plain: what is read behind a put and a delete; files that rise and read alike are the same.
-/
import Derived.Test.YtiiafpbonkcokaaGreatQ
namespace Go.Proofs.YtiiafpbonkcokaaGreat
open Go.RowKit Go.Maps

theorem get_at {F : Fs} (h : F.Pairwise (fun x y => bytesBefore x.1 y.1 = true)) (i : Nat) (hi : i < F.length) : fget F F[i].1 = some F[i].2 := by
  have e : F = F.take i ++ F[i] :: F.drop (i + 1) := by
    rw [← List.drop_eq_getElem_cons hi, List.take_append_drop]
  have h2 := h
  rw [e] at h2
  have := get_mid h2
  rw [← e] at this
  exact this

theorem fget_mem {F : Fs} (h : F.Pairwise (fun x y => bytesBefore x.1 y.1 = true)) {k : Nm} {f : Fl} : fget F k = some f ↔ (k, f) ∈ F := by
  constructor
  · exact get_mem
  · intro hm
    obtain ⟨i, hi, he⟩ := List.getElem_of_mem hm
    have := get_at h i hi
    rwa [he] at this
theorem fget_none {F : Fs} {k : Nm} : fget F k = none ↔ ∀ f, (k, f) ∉ F := by
  unfold fget
  rw [Option.map_eq_none_iff, List.find?_eq_none]
  constructor
  · intro h f hm
    have := h _ hm
    simp at this
  · intro h x hx e
    have e' : x.1 = k := by simpa using e
    exact h x.2 (by rw [← e']; exact hx)
theorem fget_del_same (F : Fs) (k : Nm) : fget (fdel F k) k = none := fget_none.2 fun f h => (mem_fdel.1 h).2 rfl
theorem fget_del_ne {F : Fs} (k : Nm) {j : Nm} (hne : j ≠ k) : fget (fdel F k) j = fget F j := by
  induction F with
  | nil => rfl
  | cons x r ih =>
    by_cases hx : x.1 = k
    · have e2 : fdel (x :: r) k = fdel r k := by simp [fdel, hx]
      rw [e2, ih]
      have : (x.1 == j) = false := by rw [beq_eq_false_iff_ne, hx]; exact fun e => hne e.symm
      simp [fget, List.find?_cons, this]
    · have e2 : fdel (x :: r) k = x :: fdel r k := by simp [fdel, hx]
      rw [e2]
      simp only [fget, List.find?_cons] at ih ⊢
      cases x.1 == j
      · exact ih
      · rfl
theorem fget_put_same {F : Fs} (h : F.Pairwise (fun x y => bytesBefore x.1 y.1 = true)) (k : Nm) (f : Fl) : fget (fput F k f) k = some f :=
  (fget_mem (fins_up (h.filter _) (fun y hy => (mem_fdel.1 hy).2))).2 (mem_fins.2 (.inl rfl))
theorem fget_put_ne {F : Fs} (h : F.Pairwise (fun x y => bytesBefore x.1 y.1 = true)) (k : Nm) (f : Fl) {j : Nm} (hne : j ≠ k) : fget (fput F k f) j = fget F j := by
  have hu : (fput F k f).Pairwise (fun x y => bytesBefore x.1 y.1 = true) := fins_up (h.filter _) (fun y hy => (mem_fdel.1 hy).2)
  have e : ∀ g, fget (fput F k f) j = some g ↔ fget F j = some g := fun g => by
    rw [fget_mem hu, fget_mem h]
    unfold fput
    rw [mem_fins, mem_fdel]
    constructor
    · rintro (e | ⟨e, _⟩)
      · injection e with e1 e2; exact absurd e1 hne
      · exact e
    · exact fun e => .inr ⟨e, hne⟩
  cases hg : fget F j with
  | none =>
    cases hp : fget (fput F k f) j with
    | none => rfl
    | some g => rw [(e g).1 hp] at hg; cases hg
  | some g => exact (e g).2 hg
theorem up_put {F : Fs} (h : F.Pairwise (fun x y => bytesBefore x.1 y.1 = true)) (k : Nm) (f : Fl) : (fput F k f).Pairwise (fun x y => bytesBefore x.1 y.1 = true) := fins_up (h.filter _) (fun y hy => (mem_fdel.1 hy).2)
theorem up_del {F : Fs} (h : F.Pairwise (fun x y => bytesBefore x.1 y.1 = true)) (k : Nm) : (fdel F k).Pairwise (fun x y => bytesBefore x.1 y.1 = true) := h.filter _

theorem fs_ext : ∀ {F G : Fs}, F.Pairwise (fun x y => bytesBefore x.1 y.1 = true) → G.Pairwise (fun x y => bytesBefore x.1 y.1 = true) → (∀ k, fget F k = fget G k) → F = G
  | [], [], _, _, _ => rfl
  | [], y :: s, _, _, h => by
    have := h y.1
    simp [fget] at this
  | x :: r, [], _, _, h => by
    have := h x.1
    simp [fget] at this
  | x :: r, y :: s, hF, hG, h => by
    have hF' := List.pairwise_cons.1 hF
    have hG' := List.pairwise_cons.1 hG
    have hx : fget (y :: s) x.1 = some x.2 := by rw [← h]; simp [fget]
    have hy : fget (x :: r) y.1 = some y.2 := by rw [h]; simp [fget]
    have hx2 := get_mem hx
    have hy2 := get_mem hy
    have e : x = y := by
      rcases List.mem_cons.1 hx2 with e | hs
      · exact e
      · rcases List.mem_cons.1 hy2 with e | hr
        · exact e.symm
        · have h1 := (before_lt _ _).1 (hG'.1 _ hs)
          have h2 := (before_lt _ _).1 (hF'.1 _ hr)
          exact absurd (List.lt_trans h1 h2) (List.lt_irrefl _)
    subst e
    rw [fs_ext hF'.2 hG'.2 fun k => ?_]
    by_cases hk : k = x.1
    · have a : fget r k = none := fget_none.2 fun f hm => before_ne (hF'.1 _ hm) hk.symm
      have b : fget s k = none := fget_none.2 fun f hm => before_ne (hG'.1 _ hm) hk.symm
      rw [a, b]
    · have := h k
      have hb : (x.1 == k) = false := by rw [beq_eq_false_iff_ne]; exact fun e => hk e.symm
      simp only [fget, List.find?_cons, hb] at this
      exact this

/-- renamed to itself: as it was -/
theorem rename_self {F : Fs} (h : F.Pairwise (fun x y => bytesBefore x.1 y.1 = true)) {k : Nm} {f : Fl} (hk : fget F k = some f) : fput (fdel F k) k f = F := by
  refine fs_ext (up_put (up_del h k) k f) h fun j => ?_
  by_cases hj : j = k
  · subst hj; rw [fget_put_same (up_del h _), hk]
  · rw [fget_put_ne (up_del h k) k f hj, fget_del_ne k hj]
/-- renamed there and back: as it was -/
theorem rename_back {F : Fs} (h : F.Pairwise (fun x y => bytesBefore x.1 y.1 = true)) {a b : Nm} {f : Fl} (hab : a ≠ b) (ha : fget F a = some f) (hb : fget F b = none) : fput (fdel (fput (fdel F a) b f) b) a f = F := by
  have h1 := up_del h a
  have h2 := up_put h1 b f
  have h3 := up_del h2 b
  refine fs_ext (up_put h3 a f) h fun j => ?_
  by_cases hj : j = a
  · subst hj; rw [fget_put_same h3, ha]
  · rw [fget_put_ne h3 a f hj]
    by_cases hj2 : j = b
    · subst hj2; rw [fget_del_same, hb]
    · rw [fget_del_ne b hj2, fget_put_ne h1 b f hj2, fget_del_ne a hj]
end Go.Proofs.YtiiafpbonkcokaaGreat
