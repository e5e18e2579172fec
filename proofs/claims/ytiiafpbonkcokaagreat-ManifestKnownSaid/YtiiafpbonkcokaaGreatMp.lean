/-
  Plain: numbers rise in a right state; what is dropped and added has each number once; so the sort is told.
-/
import Derived.Test.YtiiafpbonkcokaaGreatMi
namespace Go.Proofs.YtiiafpbonkcokaaGreat
open Go.RowKit Go.Maps

theorem wrong_none {next : Int} {L : List Fi} (h : wrongB next L = false) : ∀ i (hi : i < L.length), lastN L i < L[i].n ∧ L[i].n < next ∧ rightB L[i] = true := by
  intro i hi
  unfold wrongB at h
  rw [List.any_eq_false] at h
  have := h i (List.mem_range.2 hi)
  rw [getElem!_pos L i hi] at this
  unfold wrongF at this
  simpa [and_assoc] using this
theorem wrong_none_iff {next : Int} {L : List Fi} : wrongB next L = false ↔ ∀ i (hi : i < L.length), lastN L i < L[i].n ∧ L[i].n < next ∧ rightB L[i] = true := by
  refine ⟨wrong_none, fun h => ?_⟩
  unfold wrongB
  rw [List.any_eq_false]
  intro i hi
  have hi := List.mem_range.1 hi
  obtain ⟨h1, h2, h3⟩ := h i hi
  rw [getElem!_pos L i hi]
  unfold wrongF
  simp [h1, h2, h3]
def UpN (L : List Fi) : Prop := L.Pairwise fun x y => x.n < y.n
def NdN (L : List Fi) : Prop := L.Pairwise fun x y => x.n ≠ y.n
theorem lastN_succ (L : List Fi) (i : Nat) (hi : i < L.length) : lastN L (i + 1) = L[i].n := by
  unfold lastN; rw [if_neg (by omega), Nat.add_sub_cancel, getElem!_pos L i hi]
theorem up_of_last {L : List Fi} (h : ∀ i (hi : i < L.length), lastN L i < L[i].n) : UpN L := by
  have key : ∀ j (hj : j < L.length) i (hij : i < j), L[i].n < L[j].n := by
    intro j
    induction j with
    | zero => intro _ i hij; omega
    | succ j ih =>
      intro hj i hij
      have h1 := h (j + 1) hj
      rw [lastN_succ L j (by omega)] at h1
      by_cases e : i = j
      · subst e; exact h1
      · have := ih (by omega) i (by omega); omega
  unfold UpN
  rw [List.pairwise_iff_getElem]
  exact fun i j hi hj hij => key j hj i hij
theorem UpN.nd {L : List Fi} (h : UpN L) : NdN L := h.imp (fun hxy => by omega)
theorem check_parts {s : St} (h : checkB s = true) : numB s = true ∧ wrongB s.next s.fs = false ∧ s.fs.any (meetF s.fs) = false := by
  unfold checkB at h
  simp only [Bool.and_eq_true, Bool.not_eq_true'] at h
  exact ⟨h.1.1, h.1.2, h.2⟩
theorem check_up {s : St} (h : checkB s = true) : UpN s.fs := up_of_last (fun i hi => (wrong_none (check_parts h).2.1 i hi).1)
theorem nd_drop : ∀ (r : List Int) (L M : List Fi), dropL L r = some M → NdN L → NdN M
  | [], L, M, h, hn => by cases h; exact hn
  | n :: r, L, M, h, hn => by
    unfold dropL at h
    split at h
    · exact nd_drop r _ M h (hn.sublist (List.eraseP_sublist))
    · cases h
theorem nd_add : ∀ (r L M : List Fi), addL L r = some M → NdN L → NdN M
  | [], L, M, h, hn => by cases h; exact hn
  | f :: r, L, M, h, hn => by
    unfold addL at h
    split at h
    · cases h
    · rename_i hh
      refine nd_add r _ M h ?_
      unfold NdN
      rw [List.pairwise_append]
      refine ⟨hn, List.pairwise_singleton _ _, fun x hx y hy e => hh ?_⟩
      rw [List.mem_singleton.1 hy] at e
      exact hasN_iff.2 ⟨x, hx, e⟩
theorem nd_inj {L : List Fi} (h : NdN L) {x y : Fi} (hx : x ∈ L) (hy : y ∈ L) (e : x.n = y.n) : x = y := by
  induction L with
  | nil => cases hx
  | cons a r ih =>
    have h' := List.pairwise_cons.1 h
    rcases List.mem_cons.1 hx with rfl | hx'
    · rcases List.mem_cons.1 hy with rfl | hy
      · rfl
      · exact absurd e (h'.1 y hy)
    · rcases List.mem_cons.1 hy with he | hy
      · exact absurd (he ▸ e).symm (h'.1 x hx')
      · exact ih h'.2 hx' hy
theorem sort_told {R M : List Fi} (hp : R.Perm M) (hs : R.Pairwise fun x y => x.n ≤ y.n) (hn : NdN M) : R = M.mergeSort leN := by
  have hm : (M.mergeSort leN).Pairwise (fun a b => leN a b = true) := List.pairwise_mergeSort (fun a b c h1 h2 => by simp [leN] at *; omega) (fun a b => by simp [leN]; omega) M
  have hpm := List.mergeSort_perm M leN
  refine List.Perm.eq_of_pairwise (le := fun a b : Fi => a.n ≤ b.n) (fun a b ha hb h1 h2 => ?_) hs (hm.imp (fun h => by simpa [leN] using h)) (hp.trans hpm.symm)
  exact nd_inj hn (hp.mem_iff.1 ha) (hpm.mem_iff.1 hb) (by omega)
theorem sort_up {M : List Fi} (hn : NdN M) : UpN (M.mergeSort leN) := by
  have hm : (M.mergeSort leN).Pairwise (fun a b => leN a b = true) := List.pairwise_mergeSort (fun a b c h1 h2 => by simp [leN] at *; omega) (fun a b => by simp [leN]; omega) M
  have hnd : NdN (M.mergeSort leN) := (List.mergeSort_perm M leN).symm.pairwise hn (fun h => Ne.symm h)
  refine (hm.and hnd).imp (fun {a b} h => ?_)
  have h1 : a.n ≤ b.n := by simpa [leN] using h.1
  have h2 : a.n ≠ b.n := h.2
  show a.n < b.n
  omega
end Go.Proofs.YtiiafpbonkcokaaGreat
