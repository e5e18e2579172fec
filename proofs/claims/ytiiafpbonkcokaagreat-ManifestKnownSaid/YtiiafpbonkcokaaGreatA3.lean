/-
  Plain: what a crash makes of the files.
-/
import Derived.Test.YtiiafpbonkcokaaGreatA2
namespace Go.Proofs.YtiiafpbonkcokaaGreat

/-- how much of a tail of t bytes stays -/
def stays (ks : List Int) (t : Nat) : Nat := (min (max (ks.headD 0) 0) (t : Int)).toNat
/-- the files behind a crash: tails are cut by what 'keep' still has -/
def crashF : List Int → Fs → Fs
  | _, [] => []
  | ks, x :: r =>
    if x.2.data.size = x.2.syn then x :: crashF ks r
    else (x.1, ⟨x.2.data.extract 0 (stays ks (x.2.data.size - x.2.syn) + x.2.syn), stays ks (x.2.data.size - x.2.syn) + x.2.syn⟩) :: crashF ks.tail r

theorem fins_front {x : Nm × Fl} : ∀ {P R : Fs}, (∀ y ∈ P, bytesBefore x.1 y.1 = false) → (∀ y ∈ R, bytesBefore x.1 y.1 = true) → fins x (P ++ R) = P ++ x :: R
  | [], [], _, _ => rfl
  | [], y :: R, _, h => by simp [fins, h y (List.mem_cons_self ..)]
  | y :: P, R, h, h2 => by
    simp only [List.cons_append, fins, h y (List.mem_cons_self ..), Bool.false_eq_true, if_false]
    rw [fins_front (fun z hz => h z (List.mem_cons_of_mem _ hz)) h2]
theorem before_asymm : ∀ {a b : Nm}, bytesBefore a b = true → bytesBefore b a = false
  | [], [], h => by simp [bytesBefore] at h
  | [], _ :: _, _ => rfl
  | _ :: _, [], h => by simp [bytesBefore] at h
  | a :: r, b :: s, h => by
    simp only [bytesBefore, Bool.or_eq_true, decide_eq_true_eq, Bool.and_eq_true, beq_iff_eq] at h
    simp only [bytesBefore, Bool.or_eq_false_iff, decide_eq_false_iff_not, Bool.and_eq_false_iff, beq_eq_false_iff_ne]
    rcases h with h | ⟨rfl, h⟩
    · exact ⟨fun h' => absurd (UInt8.lt_trans h h') (UInt8.lt_irrefl _), .inl (fun e => by subst e; exact UInt8.lt_irrefl _ h)⟩
    · exact ⟨UInt8.lt_irrefl _, .inr (before_asymm h)⟩
theorem put_mid {P R : Fs} {x : Nm × Fl} (h : (P ++ x :: R).Pairwise (fun x y => bytesBefore x.1 y.1 = true)) (f : Fl) : fput (P ++ x :: R) x.1 f = P ++ (x.1, f) :: R := by
  rw [List.pairwise_append] at h
  obtain ⟨_, h2, h3⟩ := h
  rw [List.pairwise_cons] at h2
  have e : fdel (P ++ x :: R) x.1 = P ++ R := by
    unfold fdel
    rw [List.filter_append, List.filter_cons]
    have e1 : P.filter (fun y => !(y.1 == x.1)) = P := List.filter_eq_self.2 (fun y hy => by
      have := before_ne (h3 y hy x (List.mem_cons_self ..)); simpa using this)
    have e2 : R.filter (fun y => !(y.1 == x.1)) = R := List.filter_eq_self.2 (fun y hy => by
      have := before_ne (h2.1 y hy); simpa using fun e => this e.symm)
    rw [e1, e2]; simp
  unfold fput
  rw [e]
  exact fins_front (fun y hy => before_asymm (h3 y hy x (List.mem_cons_self ..))) (fun y hy => h2.1 y hy)
theorem get_mid {P R : Fs} {x : Nm × Fl} (h : (P ++ x :: R).Pairwise (fun x y => bytesBefore x.1 y.1 = true)) : fget (P ++ x :: R) x.1 = some x.2 := by
  rw [List.pairwise_append] at h
  obtain ⟨_, h2, h3⟩ := h
  unfold fget
  rw [List.find?_append]
  have : P.find? (fun y => y.1 == x.1) = none := List.find?_eq_none.2 (fun y hy => by
    have := before_ne (h3 y hy x (List.mem_cons_self ..)); simpa using this)
  rw [this]
  simp
theorem names_mid {P R : Fs} {k : Nm} {f g : Fl} (h : (P ++ (k, f) :: R).Pairwise (fun x y => bytesBefore x.1 y.1 = true)) : (P ++ (k, g) :: R).Pairwise (fun x y => bytesBefore x.1 y.1 = true) := by
  rw [List.pairwise_append, List.pairwise_cons] at h ⊢
  obtain ⟨h1, h2, h3⟩ := h
  refine ⟨h1, ⟨h2.1, h2.2⟩, fun a ha b hb => ?_⟩
  rcases List.mem_cons.1 hb with rfl | hb
  · exact h3 a ha (k, f) (List.mem_cons_self ..)
  · exact h3 a ha b (List.mem_cons_of_mem _ hb)
theorem stays_le (ks : List Int) (t : Nat) : stays ks t ≤ t := by unfold stays; omega
end Go.Proofs.YtiiafpbonkcokaaGreat
