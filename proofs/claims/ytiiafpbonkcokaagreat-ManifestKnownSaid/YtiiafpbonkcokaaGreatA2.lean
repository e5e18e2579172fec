/-
  Plain: how many bytes the files have together, as they are counted one by one in whatever order.
-/
import Derived.Test.YtiiafpbonkcokaaGreatA
namespace Go.Proofs.YtiiafpbonkcokaaGreat
open Go.Maps

def total (F : Fs) : Nat := (F.map (fun x => x.2.data.size)).sum
/-- those that are counted already: 'left' tells which are still to come -/
def counted (F : Fs) (left : Lit → Bool) : Nat := total (F.filter fun x => !left (.string x.1))
theorem total_cons (x : Nm × Fl) (F : Fs) : total (x :: F) = x.2.data.size + total F := by simp [total]
theorem counted_cons (x : Nm × Fl) (F : Fs) (left : Lit → Bool) : counted (x :: F) left = (if left (.string x.1) then 0 else x.2.data.size) + counted F left := by
  unfold counted
  rw [List.filter_cons]
  cases left (.string x.1) <;> simp [total_cons]
theorem counted_none (F : Fs) (left : Lit → Bool) (h : ∀ x ∈ F, left (.string x.1) = true) : counted F left = 0 := by
  induction F with
  | nil => rfl
  | cons x r ih => rw [counted_cons, h x (List.mem_cons_self ..), ih (fun y hy => h y (List.mem_cons_of_mem _ hy))]; rfl
theorem counted_all (F : Fs) (left : Lit → Bool) (h : ∀ kl, left kl = false) : counted F left = total F := by
  induction F with
  | nil => rfl
  | cons x r ih => rw [counted_cons, h, ih, total_cons]; rfl
theorem has_dent {F : Fs} {x : Nm × Fl} (h : x ∈ F) : Maps.has (dat F) (.string x.1) = true := by
  rw [dat_has, fhas, List.any_eq_true]
  exact ⟨x, h, by simp⟩
theorem counted_same (F : Fs) (left left' : Lit → Bool) (h : ∀ x ∈ F, left (.string x.1) = left' (.string x.1)) : counted F left = counted F left' := by
  induction F with
  | nil => rfl
  | cons x r ih => rw [counted_cons, counted_cons, h x (List.mem_cons_self ..), ih (fun y hy => h y (List.mem_cons_of_mem _ hy))]
theorem before_ne {a b : Nm} (h : bytesBefore a b = true) : a ≠ b := by
  rintro rfl
  have irr : ∀ l : Nm, bytesBefore l l = false := by
    intro l
    induction l with
    | nil => rfl
    | cons x r ih => simp [bytesBefore, ih]
  rw [irr] at h
  cases h
theorem counted_step {F : Fs} (hup : F.Pairwise (fun x y => bytesBefore x.1 y.1 = true)) {k : Nm} {f : Fl} (hg : fget F k = some f) (left : Lit → Bool) (hl : left (.string k) = true) :
    counted F (fun z => left z && !z.sameKey (.string k)) = counted F left + f.data.size := by
  induction F with
  | nil => simp [fget] at hg
  | cons x r ih =>
    rw [List.pairwise_cons] at hup
    rw [counted_cons, counted_cons]
    simp only [fget, List.find?_cons] at hg
    cases hx : x.1 == k with
    | true =>
      rw [hx] at hg
      simp only [Option.map_some, Option.some.injEq] at hg
      have hk : x.1 = k := by simpa using hx
      have e : (Lit.string x.1).sameKey (.string k) = true := by rw [sameKey_str]; exact hx
      rw [hk] at e ⊢
      rw [hl, e]
      have hr : counted r (fun z => left z && !z.sameKey (.string k)) = counted r left := by
        refine counted_same _ _ _ (fun y hy => ?_)
        have hne : y.1 ≠ k := fun e => before_ne (hup.1 y hy) (hk.trans e.symm)
        have : (Lit.string y.1).sameKey (.string k) = false := by rw [sameKey_str]; simpa using hne
        rw [this]; simp
      rw [hr, ← hg]
      simp
      omega
    | false =>
      rw [hx] at hg
      have e : (Lit.string x.1).sameKey (.string k) = false := by rw [sameKey_str]; exact hx
      rw [e, ih hup.2 hg]
      simp
      omega
theorem total_le (F : Fs) (h : ∀ x ∈ F, x.2.data.size ≤ 1048576) : total F ≤ F.length * 1048576 := by
  induction F with
  | nil => simp [total]
  | cons x r ih =>
    rw [total_cons, List.length_cons]
    have := h x (List.mem_cons_self ..)
    have := ih (fun y hy => h y (List.mem_cons_of_mem _ hy))
    omega
theorem counted_le (F : Fs) (left : Lit → Bool) : counted F left ≤ total F := by
  induction F with
  | nil => simp [counted, total]
  | cons x r ih =>
    rw [counted_cons, total_cons]
    split <;> omega
end Go.Proofs.YtiiafpbonkcokaaGreat
