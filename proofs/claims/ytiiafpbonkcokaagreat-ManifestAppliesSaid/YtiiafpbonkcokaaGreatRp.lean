/-
  Plain: what the document's answer says of a state is what the program's says.
-/
import Derived.Test.YtiiafpbonkcokaaGreatMg
import Derived.Test.YtiiafpbonkcokaaGreatMp

import Derived.Laws.AppendOwnNone
namespace Go.Proofs.YtiiafpbonkcokaaGreat
section
open Go.RowKit Go.Maps

theorem sLe_lt (a b : ByteArray) : sLe a b = !sLt b a := by
  unfold sLt sLe
  rw [bytesLess_lt, bytesLess_lt, Bool.eq_iff_iff]
  simp only [Bool.or_eq_true, decide_eq_true_eq, beq_iff_eq, Bool.not_eq_true', decide_eq_false_iff_not]
  rw [List.not_lt]
  constructor
  · rintro (h | h)
    · exact List.le_of_lt h
    · rw [h]; exact List.le_refl _
  · intro h
    by_cases e : a.toList < b.toList
    · exact .inl e
    · exact .inr (List.le_antisymm h (List.not_lt.1 e))
/-- do two tables of one level meet? (as the document says) -/
def rcl (f g : Fi) : Bool := decide (0 < f.level) && (g.level == f.level) && !sLt f.last g.first && !sLt g.last f.first
theorem rcl_eq (f g : Fi) : rcl f g = (decide (0 < f.level) && (g.level == f.level) && sLe f.first g.last && sLe g.first f.last) := by
  unfold rcl
  rw [sLe_lt, sLe_lt]
  cases decide (0 < f.level) <;> cases (g.level == f.level) <;> cases sLt f.last g.first <;> cases sLt g.last f.first <;> rfl
theorem rcl_symm {f g : Fi} (h : rcl f g = true) : rcl g f = true := by
  rw [rcl_eq] at *
  simp only [Bool.and_eq_true, decide_eq_true_eq, beq_iff_eq] at *
  obtain ⟨⟨⟨h1, h2⟩, h3⟩, h4⟩ := h
  exact ⟨⟨⟨by omega, h2.symm⟩, h4⟩, h3⟩
/-- table i passes -/
structure RF (next : Int) (L : List Fi) (i : Nat) (hi : i < L.length) : Prop where
  a1 : 1 ≤ L[i].n
  a2 : L[i].n < next
  a3 : lastN L i < L[i].n
  a4 : rightB L[i] = true
  a5 : ∀ k (hk : k < i), rcl L[i] L[k] = false
theorem wrong_iff {next : Int} {L : List Fi} : wrongB next L = false ↔ ∀ i (hi : i < L.length), lastN L i < L[i].n ∧ L[i].n < next ∧ rightB L[i] = true := by
  unfold wrongB
  rw [List.any_eq_false]
  constructor
  · intro h i hi
    have := h i (List.mem_range.2 hi)
    rw [getElem!_pos L i hi] at this
    unfold wrongF at this
    simpa [and_assoc] using this
  · intro h i hi
    have hi := List.mem_range.1 hi
    obtain ⟨h1, h2, h3⟩ := h i hi
    rw [getElem!_pos L i hi]
    unfold wrongF
    simp [h1, h2, h3]
theorem last_at (L : List Fi) (i : Nat) (hi : i < L.length) : lastN L (i + 1) = L[i].n := by
  unfold lastN; rw [if_neg (by omega), Nat.add_sub_cancel, getElem!_pos L i hi]
theorem up_at {L : List Fi} (h : ∀ i (hi : i < L.length), lastN L i < L[i].n) : ∀ j (hj : j < L.length) i (hij : i < j), L[i].n < L[j].n := by
  intro j
  induction j with
  | zero => intro _ i hij; omega
  | succ j ih =>
    intro hj i hij
    have h1 := h (j + 1) hj
    rw [last_at L j (by omega)] at h1
    by_cases e : i = j
    · subst e; exact h1
    · have := ih (by omega) i (by omega); omega
theorem last_nn {L : List Fi} (h : ∀ i (hi : i < L.length), lastN L i < L[i].n) : ∀ i (_ : i ≤ L.length), 0 ≤ lastN L i := by
  intro i
  induction i with
  | zero => intro _; simp [lastN]
  | succ i ih =>
    intro hi
    rw [last_at L i (by omega)]
    have := ih (by omega)
    have := h i (by omega)
    omega
theorem check_iff {s : St} : checkB s = true ↔ numB s = true ∧ ∀ i (hi : i < s.fs.length), RF s.next s.fs i hi := by
  obtain ⟨next, log, L⟩ := s
  have e : checkB ⟨next, log, L⟩ = (numB ⟨next, log, L⟩ && !wrongB next L && !L.any (meetF L)) := rfl
  rw [e]
  simp only [Bool.and_eq_true, Bool.not_eq_true']
  constructor
  · rintro ⟨⟨h1, h2⟩, h3⟩
    refine ⟨h1, fun i hi => ?_⟩
    have hw := wrong_iff.1 h2
    have hu := up_at (fun i hi => (hw i hi).1)
    have h0 := last_nn (fun i hi => (hw i hi).1) i (by omega)
    obtain ⟨w1, w2, w3⟩ := hw i hi
    refine ⟨by omega, w2, w1, w3, fun k hk => ?_⟩
    rw [List.any_eq_false] at h3
    have hm := h3 _ (List.getElem_mem hi)
    cases hr : rcl L[i] L[k] with
    | false => rfl
    | true =>
      exfalso
      apply hm
      rw [rcl_eq] at hr
      simp only [Bool.and_eq_true, decide_eq_true_eq, beq_iff_eq] at hr
      obtain ⟨⟨⟨r1, r2⟩, r3⟩, r4⟩ := hr
      have hne := hu i hi k hk
      unfold meetF
      simp only [Bool.and_eq_true, decide_eq_true_eq, List.any_eq_true]
      refine ⟨r1, L[k], List.getElem_mem _, ?_⟩
      unfold clash
      simp only [Bool.and_eq_true, beq_iff_eq, bne_iff_ne]
      exact ⟨⟨⟨r2, by omega⟩, r3⟩, r4⟩
  · rintro ⟨h1, h2⟩
    refine ⟨⟨h1, wrong_iff.2 (fun i hi => ⟨(h2 i hi).a3, (h2 i hi).a2, (h2 i hi).a4⟩)⟩, ?_⟩
    rw [List.any_eq_false]
    intro f hf hm
    unfold meetF at hm
    simp only [Bool.and_eq_true, decide_eq_true_eq, List.any_eq_true] at hm
    obtain ⟨hl, g, hg, hc⟩ := hm
    obtain ⟨i, hi, rfl⟩ := List.getElem_of_mem hf
    obtain ⟨j, hj, rfl⟩ := List.getElem_of_mem hg
    unfold clash at hc
    simp only [Bool.and_eq_true, beq_iff_eq, bne_iff_ne] at hc
    obtain ⟨⟨⟨c1, c2⟩, c3⟩, c4⟩ := hc
    have hr : rcl L[i] L[j] = true := by
      rw [rcl_eq]
      simp only [Bool.and_eq_true, decide_eq_true_eq, beq_iff_eq]
      exact ⟨⟨⟨hl, c1⟩, c3⟩, c4⟩
    have hij : i ≠ j := fun e => by subst e; exact c2 rfl
    by_cases hlt : j < i
    · rw [(h2 i hi).a5 j hlt] at hr; cases hr
    · have := (h2 j hj).a5 i (by omega)
      rw [rcl_symm hr] at this; cases this
theorem check_no {s : St} {i : Nat} (hi : i < s.fs.length) (h : ¬ RF s.next s.fs i hi) : checkB s = false := by
  cases hc : checkB s with
  | false => rfl
  | true => exact absurd ((check_iff.1 hc).2 i hi) h
theorem check_num {s : St} (h : numB s = false) : checkB s = false := by unfold checkB; rw [h]; rfl
/-- the document's own words on a table -/
theorem right_iff {f : Fi} : rightB f = true ↔ 0 ≤ f.level ∧ f.level < 4 ∧ 1 ≤ f.count ∧ f.count ≤ 4096 ∧ keyB f.first = true ∧ keyB f.last = true ∧ sLt f.last f.first = false ∧ (f.count = 1 → sEq f.first f.last = true) ∧ (1 < f.count → sEq f.first f.last = false) := by
  unfold rightB
  rw [sLe_lt]
  simp only [Bool.and_eq_true, decide_eq_true_eq, Bool.not_eq_true', beq_iff_eq]
  constructor
  · rintro ⟨⟨⟨⟨⟨⟨⟨h1, h2⟩, h3⟩, h4⟩, h5⟩, h6⟩, h7⟩, h8⟩
    refine ⟨h1, h2, h3, h4, h5, h6, h7, fun e => ?_, fun e => ?_⟩
    · rw [h8, e]; rfl
    · rw [h8]; simp; omega
  · rintro ⟨h1, h2, h3, h4, h5, h6, h7, h8, h9⟩
    refine ⟨⟨⟨⟨⟨⟨⟨h1, h2⟩, h3⟩, h4⟩, h5⟩, h6⟩, h7⟩, ?_⟩
    by_cases e : f.count = 1
    · rw [h8 e, e]; rfl
    · rw [h9 (by omega)]; symm; simpa using e
theorem heap_ltR {w : World} {k : Nat} {o : Obj} (h : w.heap[k]? = some o) : k < w.heap.size := (Array.getElem?_eq_some_iff.1 h).1
theorem ret_boolv {a b : Bool} (h : a = b) : Value.bool a = .bool b := by rw [h]
/-- the document's tests on a table, one statement each -/
def t7 (k : Nat) (n next la : Int) : Bool := decide (n < 1) || decide (next ≤ n) || (decide (0 < k) && decide (n ≤ la))
def t9 (l c : Int) (a b : ByteArray) : Bool := decide (l < 0) || decide (4 ≤ l) || decide (c < 1) || decide (4096 < c) || !keyB a || !keyB b
def t11 (c : Int) (a b : ByteArray) : Bool := sLt b a || ((c == 1) && !sEq a b) || (decide (1 < c) && sEq a b)
theorem right_no {f : Fi} : rightB f = (!t9 f.level f.count f.first f.last && !t11 f.count f.first f.last) := by
  rw [Bool.eq_iff_iff, right_iff]
  unfold t9 t11
  simp only [Bool.and_eq_true, Bool.not_eq_true', Bool.or_eq_false_iff, decide_eq_false_iff_not, Bool.and_eq_false_iff, Bool.not_eq_false', beq_eq_false_iff_ne]
  constructor
  · rintro ⟨h1, h2, h3, h4, h5, h6, h7, h8, h9⟩
    refine ⟨⟨⟨⟨⟨⟨by omega, by omega⟩, by omega⟩, by omega⟩, h5⟩, h6⟩, ⟨h7, ?_⟩, ?_⟩
    · by_cases e : f.count = 1
      · exact .inr (h8 e)
      · exact .inl e
    · by_cases e : 1 < f.count
      · exact .inr (h9 e)
      · exact .inl e
  · rintro ⟨⟨⟨⟨⟨⟨h1, h2⟩, h3⟩, h4⟩, h5⟩, h6⟩, ⟨h7, h8⟩, h9⟩
    refine ⟨by omega, by omega, by omega, by omega, h5, h6, h7, fun e => ?_, fun e => ?_⟩
    · rcases h8 with h8 | h8
      · exact absurd e h8
      · exact h8
    · rcases h9 with h9 | h9
      · exact absurd e h9
      · exact h9
end

section
open Go.RowKit Go.Maps

def ne_n (n : Int) (x : Fi) : Bool := x.n != n
/-- the document's 'Drop' -/
def rdropL : List Fi → List Int → Option (List Fi)
  | L, [] => some L
  | L, n :: r => if (L.filter (ne_n n)).length = L.length then none else rdropL (L.filter (ne_n n)) r
/-- the document's 'Add' of one -/
def rins (f : Fi) : List Fi → Option (List Fi)
  | [] => some [f]
  | x :: r => if x.n < f.n then (rins f r).map (x :: ·) else if x.n == f.n then none else some (f :: x :: r)
def raddL : List Fi → List Fi → Option (List Fi)
  | L, [] => some L
  | L, f :: r => match rins f L with
    | none => none
    | some M => raddL M r
/-- the document's answer -/
def refS (s : St) (e : Ed) : Int × St :=
  if checkB s then match rdropL s.fs e.drop with
    | none => (4, s0)
    | some L => match raddL L e.add with
      | none => (5, s0)
      | some M => if checkB ⟨max s.next e.next, max s.log e.log, M⟩ then (0, ⟨max s.next e.next, max s.log e.log, M⟩) else (1, s0)
  else (1, s0)
theorem rins_at {f : Fi} : ∀ {L : List Fi} {k : Nat}, k ≤ L.length → (∀ j (hj : j < L.length), j < k → L[j].n < f.n) → (∀ hk : k < L.length, ¬ L[k].n < f.n) →
    (∀ hk : k < L.length, L[k].n = f.n → rins f L = none) ∧ ((∀ hk : k < L.length, L[k].n ≠ f.n) → rins f L = some (L.take k ++ (f :: L.drop k)))
  | [], k, hk, _, _ => by
    obtain rfl : k = 0 := by simpa using hk
    exact ⟨fun h => absurd h (by simp), fun _ => rfl⟩
  | x :: r, 0, _, _, h2 => by
    have h3 : ¬ x.n < f.n := h2 (by simp)
    refine ⟨fun _ e => ?_, fun h => ?_⟩
    · have e : x.n = f.n := e
      unfold rins; rw [if_neg h3, if_pos (by simpa using e)]
    · have e : x.n ≠ f.n := h (by simp)
      unfold rins; rw [if_neg h3, if_neg (by simpa using e)]; rfl
  | x :: r, k + 1, hk, h1, h2 => by
    have h3 : x.n < f.n := h1 0 (by simp) (by omega)
    obtain ⟨i1, i2⟩ := rins_at (f := f) (L := r) (k := k) (by simpa using hk) (fun j hj hjk => h1 (j + 1) (by simpa using hj) (by omega)) (fun hk => h2 (by simpa using hk))
    unfold rins
    rw [if_pos h3]
    refine ⟨fun hk e => ?_, fun h => ?_⟩
    · rw [i1 (by simpa using hk) e]; rfl
    · rw [i2 (fun hk => h (by simpa using hk))]; rfl
theorem rins_none {f : Fi} : ∀ {L : List Fi}, UpN L → (rins f L = none ↔ hasN L f.n = true)
  | [], _ => by simp [rins, hasN]
  | x :: r, hu => by
    have hu' := List.pairwise_cons.1 hu
    have ih := rins_none (f := f) (L := r) hu'.2
    unfold rins
    have hh : hasN (x :: r) f.n = (x.n == f.n || hasN r f.n) := rfl
    rw [hh]
    split
    · rename_i h
      have : (x.n == f.n) = false := by rw [beq_eq_false_iff_ne]; omega
      rw [this, Bool.false_or, ← ih]
      simp
    · split
      · rename_i h; simp [h]
      · rename_i h1 h2
        have h3 : (x.n == f.n) = false := by simpa using h2
        rw [h3, Bool.false_or]
        have : hasN r f.n = false := by
          cases hc : hasN r f.n with
          | false => rfl
          | true =>
            obtain ⟨y, hy, e⟩ := hasN_iff.1 hc
            have := hu'.1 y hy
            have h4 : x.n ≠ f.n := by simpa using h3
            omega
        simp [this]
theorem rins_some {f : Fi} : ∀ {L M : List Fi}, UpN L → rins f L = some M → UpN M ∧ M.Perm (f :: L)
  | [], M, _, h => by cases h; exact ⟨List.pairwise_singleton _ _, List.Perm.refl _⟩
  | x :: r, M, hu, h => by
    have hu' := List.pairwise_cons.1 hu
    unfold rins at h
    split at h
    · rename_i hlt
      cases hr : rins f r with
      | none => rw [hr] at h; cases h
      | some M' =>
        rw [hr] at h
        cases h
        obtain ⟨h1, h2⟩ := rins_some hu'.2 hr
        refine ⟨List.pairwise_cons.2 ⟨fun y hy => ?_, h1⟩, (h2.cons x).trans (List.Perm.swap f x r)⟩
        rcases List.mem_cons.1 (h2.mem_iff.1 hy) with rfl | hy
        · exact hlt
        · exact hu'.1 y hy
    · split at h
      · cases h
      · rename_i h1 h2
        cases h
        have h3 : x.n ≠ f.n := by simpa using h2
        refine ⟨List.pairwise_cons.2 ⟨fun y hy => ?_, hu⟩, List.Perm.refl _⟩
        rcases List.mem_cons.1 hy with rfl | hy
        · omega
        · have := hu'.1 y hy; omega
theorem hasN_perm {L M : List Fi} (h : L.Perm M) (n : Int) : hasN L n = hasN M n := by
  rw [Bool.eq_iff_iff, hasN_iff, hasN_iff]
  exact ⟨fun ⟨x, hx, e⟩ => ⟨x, h.mem_iff.1 hx, e⟩, fun ⟨x, hx, e⟩ => ⟨x, h.mem_iff.2 hx, e⟩⟩
theorem add_eq : ∀ (r C L : List Fi), C.Perm L → UpN L → (addL C r = none ∧ raddL L r = none) ∨ ∃ M' M, addL C r = some M' ∧ raddL L r = some M ∧ M'.Perm M ∧ UpN M
  | [], C, L, hp, hu => .inr ⟨C, L, rfl, rfl, hp, hu⟩
  | f :: r, C, L, hp, hu => by
    unfold addL raddL
    cases hr : rins f L with
    | none =>
      have := (rins_none hu).1 hr
      rw [← hasN_perm hp] at this
      rw [if_pos this]
      exact .inl ⟨rfl, rfl⟩
    | some M =>
      have hn : hasN C f.n = false := by
        cases hc : hasN C f.n with
        | false => rfl
        | true => rw [hasN_perm hp] at hc; rw [(rins_none hu).2 hc] at hr; cases hr
      obtain ⟨h1, h2⟩ := rins_some hu hr
      rw [if_neg (by rw [hn]; decide)]
      refine add_eq r (C ++ [f]) M ?_ h1
      exact (List.perm_append_comm.trans (hp.cons f)).trans h2.symm
theorem filter_erase {n : Int} : ∀ {L : List Fi}, NdN L → (hasN L n = true → L.filter (ne_n n) = L.eraseP (fun x => x.n == n) ∧ (L.filter (ne_n n)).length ≠ L.length) ∧ (hasN L n = false → L.filter (ne_n n) = L)
  | [], _ => ⟨(fun h => by cases h), fun _ => rfl⟩
  | x :: r, hn => by
    have hn' := List.pairwise_cons.1 hn
    obtain ⟨i1, i2⟩ := filter_erase (n := n) hn'.2
    have hh : hasN (x :: r) n = (x.n == n || hasN r n) := rfl
    by_cases e : x.n = n
    · have hr : hasN r n = false := by
        cases hc : hasN r n with
        | false => rfl
        | true => obtain ⟨y, hy, ey⟩ := hasN_iff.1 hc; exact absurd (e.trans ey.symm) (hn'.1 y hy)
      have hx : ne_n n x = false := by simp [ne_n, e]
      refine ⟨fun _ => ?_, fun h => by rw [hh] at h; simp [e] at h⟩
      rw [List.filter_cons_of_neg (by rw [hx]; decide), i2 hr, List.eraseP_cons_of_pos (by simp [e])]
      exact ⟨rfl, by simp⟩
    · have hx : ne_n n x = true := by simp [ne_n, e]
      have he : (x.n == n) = false := by simpa using e
      rw [hh, he, Bool.false_or, List.filter_cons_of_pos hx]
      refine ⟨fun h => ?_, fun h => by rw [i2 h]⟩
      obtain ⟨j1, j2⟩ := i1 h
      rw [j1, List.eraseP_cons_of_neg (by simp [e])]
      refine ⟨rfl, fun h => ?_⟩
      rw [j1] at j2
      simp at h
      exact j2 h
theorem drop_eq : ∀ (d : List Int) (L : List Fi), UpN L → rdropL L d = dropL L d ∧ ∀ M, dropL L d = some M → UpN M
  | [], L, hu => ⟨rfl, fun M h => by cases h; exact hu⟩
  | n :: d, L, hu => by
    obtain ⟨h1, h2⟩ := filter_erase (n := n) hu.nd
    unfold rdropL dropL
    cases hh : hasN L n with
    | false =>
      rw [if_pos (by rw [h2 hh])]
      simp
    | true =>
      obtain ⟨e1, e2⟩ := h1 hh
      rw [if_neg e2, e1]
      simp only [if_true]
      exact drop_eq d _ (hu.sublist List.eraseP_sublist)
/-- the document's answer is the program's -/
theorem ref_apply (s : St) (e : Ed) : refS s e = applyS s e := by
  unfold refS applyS
  split
  · rename_i hc
    have hu := check_up hc
    obtain ⟨h1, h2⟩ := drop_eq e.drop s.fs hu
    rw [h1]
    cases hd : dropL s.fs e.drop with
    | none => rfl
    | some L =>
      have hL := h2 L hd
      rcases add_eq e.add L L (List.Perm.refl _) hL with ⟨a1, a2⟩ | ⟨M', M, a1, a2, hp, hM⟩
      · simp only [a1, a2]
      · have hs : M = M'.mergeSort leN := by
          refine sort_told hp.symm (hM.imp (fun h => by omega)) ?_
          exact nd_add _ _ _ a1 hL.nd
        simp only [a1, a2, ← hs]
  · rfl
theorem refS_bad {s : St} {e : Ed} (h : checkB s = false) : refS s e = (1, s0) := by simp [refS, h]
theorem refS_none {s : St} {e : Ed} (h : checkB s = true) (h2 : rdropL s.fs e.drop = none) : refS s e = (4, s0) := by simp [refS, h, h2]
theorem refS_there {s : St} {e : Ed} {L : List Fi} (h : checkB s = true) (h2 : rdropL s.fs e.drop = some L) (h3 : raddL L e.add = none) : refS s e = (5, s0) := by simp [refS, h, h2, h3]
theorem refS_wrong {s : St} {e : Ed} {L M : List Fi} (h : checkB s = true) (h2 : rdropL s.fs e.drop = some L) (h3 : raddL L e.add = some M) (h4 : checkB ⟨max s.next e.next, max s.log e.log, M⟩ = false) : refS s e = (1, s0) := by simp [refS, h, h2, h3, h4]
theorem refS_ok {s : St} {e : Ed} {L M : List Fi} (h : checkB s = true) (h2 : rdropL s.fs e.drop = some L) (h3 : raddL L e.add = some M) (h4 : checkB ⟨max s.next e.next, max s.log e.log, M⟩ = true) : refS s e = (0, ⟨max s.next e.next, max s.log e.log, M⟩) := by simp [refS, h, h2, h3, h4]
theorem rdropL_snoc : ∀ (r : List Int) (L : List Fi) (n : Int), rdropL L (r ++ [n]) = (rdropL L r).bind fun M => if (M.filter (ne_n n)).length = M.length then none else some (M.filter (ne_n n))
  | [], L, n => by simp [rdropL]
  | m :: r, L, n => by
    rw [List.cons_append, rdropL, rdropL]
    split
    · rfl
    · exact rdropL_snoc r _ n
theorem rdropL_app_none : ∀ (r q : List Int) (L : List Fi), rdropL L r = none → rdropL L (r ++ q) = none
  | [], q, L, h => by cases h
  | m :: r, q, L, h => by
    rw [List.cons_append, rdropL]
    rw [rdropL] at h
    split
    · rfl
    · rename_i hh; rw [if_neg hh] at h; exact rdropL_app_none r q _ h
theorem rdropL_ok : ∀ (r : List Int) (L M : List Fi), rdropL L r = some M → (∀ f ∈ L, FiOk f) → (∀ f ∈ M, FiOk f) ∧ M.length ≤ L.length
  | [], L, M, h, hok => by cases h; exact ⟨hok, Nat.le_refl _⟩
  | n :: r, L, M, h, hok => by
    unfold rdropL at h
    split at h
    · cases h
    · have := rdropL_ok r _ M h (fun f hf => hok f (List.mem_filter.1 hf).1)
      exact ⟨this.1, Nat.le_trans this.2 (List.length_filter_le _ _)⟩
theorem raddL_snoc : ∀ (r : List Fi) (L : List Fi) (f : Fi), raddL L (r ++ [f]) = (raddL L r).bind fun M => rins f M
  | [], L, f => by simp [raddL]; cases rins f L <;> rfl
  | m :: r, L, f => by
    rw [List.cons_append, raddL, raddL]
    cases rins m L with
    | none => rfl
    | some M => exact raddL_snoc r M f
theorem raddL_app_none : ∀ (r q : List Fi) (L : List Fi), raddL L r = none → raddL L (r ++ q) = none
  | [], q, L, h => by cases h
  | m :: r, q, L, h => by
    rw [List.cons_append, raddL]
    rw [raddL] at h
    cases hr : rins m L with
    | none => rfl
    | some M => rw [hr] at h; exact raddL_app_none r q M h
theorem rins_len {f : Fi} : ∀ {L M : List Fi}, rins f L = some M → M.length = L.length + 1 ∧ ∀ x ∈ M, x = f ∨ x ∈ L
  | [], M, h => by cases h; exact ⟨rfl, fun x hx => .inl (List.mem_singleton.1 hx)⟩
  | x :: r, M, h => by
    unfold rins at h
    split at h
    · cases hr : rins f r with
      | none => rw [hr] at h; cases h
      | some M' =>
        rw [hr] at h
        cases h
        obtain ⟨h1, h2⟩ := rins_len hr
        refine ⟨by simp [h1], fun y hy => ?_⟩
        rcases List.mem_cons.1 hy with rfl | hy
        · exact .inr (List.mem_cons_self ..)
        · rcases h2 y hy with h | h
          · exact .inl h
          · exact .inr (List.mem_cons_of_mem _ h)
    · split at h
      · cases h
      · cases h
        exact ⟨rfl, fun y hy => List.mem_cons.1 hy⟩
theorem raddL_ok : ∀ (r L M : List Fi), raddL L r = some M → (∀ f ∈ L, FiOk f) → (∀ f ∈ r, FiOk f) → (∀ f ∈ M, FiOk f) ∧ M.length = L.length + r.length
  | [], L, M, h, hok, _ => by cases h; exact ⟨hok, rfl⟩
  | g :: r, L, M, h, hok, hr => by
    unfold raddL at h
    cases hi : rins g L with
    | none => rw [hi] at h; cases h
    | some M' =>
      rw [hi] at h
      obtain ⟨h1, h2⟩ := rins_len hi
      have := raddL_ok r M' M h (fun f hf => by
        rcases h2 f hf with rfl | hf
        · exact hr _ (List.mem_cons_self ..)
        · exact hok f hf) (fun f hf => hr f (List.mem_cons_of_mem _ hf))
      exact ⟨this.1, by rw [this.2, h1, List.length_cons]; omega⟩

/-- 'append(row, rows...)' at tables: the source is any slice of tables, nil too -/
theorem wpList_append_frow {w : World} {ops : Array Oper} {rest : List Oper} {o : Oper} {a : Act} {Q : Exit → Act → World → Prop} (hgd : o.guard = none) (s x : Operand) (t : TypeId)
    (ho : o.op = .call { callee := .builtin .append, args := #[s, x], argTypes := #[t, t] })
    (base : Nat) (e : TypeId) (i : TypeInfo) (ht : Tryz.prog.underlying t = some (.slice e)) (hi : Tryz.prog.info? e = some i) (hz : i.zero = some (.agg #[.int .i64 0, .int .i64 0, .int .i64 0, .string ⟨#[]⟩, .string ⟨#[]⟩])) (hsize : i.size = 5) (hby : i.bytes = 56)
    (v : Value) (n : Nat) (xs : List Value) (hs : a.eval s = v) (hown : w.ownsRow base e 5 v n xs)
    {S : Nat → Prop} (src : Value) (L : List Fi) (hx : a.eval x = src) (hrow : FRow S w src L) (hn : n + L.length ≤ 1000000) (hbase : base ≤ w.heap.size)
    (h : ∀ v' w', w'.ownsRow base e 5 v' (n + L.length) (xs ++ rcells L) → w.grownBy w' v.ownBlock → wpList Tryz.prog ops Q rest (a.put o.dst v') w') : wpList Tryz.prog ops Q (o :: rest) a w := by
  have hrow' := hrow
  obtain ⟨⟨ad, c, rfl, q1, q2, q3, q4⟩, qk⟩ := hrow
  cases ad with
  | none =>
    have hc := q3 rfl
    subst hc
    have hL : L = [] := List.eq_nil_of_length_eq_zero (by omega)
    subst hL
    refine wpList_append_own_none hgd s x t ho base e i 5 ht hi v n xs hs hown hx ?_
    exact h v w (by simpa [rcells] using hown) ⟨rfl, rfl, rfl, Nat.le_refl _, fun _ _ _ => rfl⟩
  | some ad =>
    exact wpList_append_own w hgd s x t ho base e i _ 5 56 ht hi hz hsize hby rfl (by decide) v n xs hs hown ad L.length c (rcells L) hx (rcells_len L) (fun j u hu => FRow.cells hrow' rfl j u hu) (rcells_one L) (by unfold maxLen; omega) (by omega) hbase (fun v' w' h1 h2 _ => h v' w' h1 h2)
/-- a slice's first tables, and the rest -/
theorem FRow.front {S : Nat → Prop} {w : World} {a : Option Addr} {c : Nat} {L : List Fi} (h : FRow S w (.slice a L.length c) L) (k : Nat) (hk : k ≤ L.length) : FRow S w (.slice a k c) (L.take k) := by
  obtain ⟨⟨a', c', he, q1, q2, q3, q4⟩, qk⟩ := h
  obtain ⟨rfl, rfl⟩ : a = a' ∧ c = c' := by injection he with e1 e2 e3; exact ⟨e1, e3⟩
  have hl : (L.take k).length = k := by rw [List.length_take]; omega
  refine ⟨⟨a, c, by rw [hl], by omega, q2, q3, fun h0 => ?_⟩, fun f hf => qk f (List.mem_of_mem_take hf)⟩
  obtain ⟨b, o, e, hb, hlt, hc⟩ := q4 (by omega)
  exact ⟨b, o, e, hb, hlt, fun i hi => by rw [List.getElem_take]; exact hc i (by omega)⟩
theorem FRow.back {S : Nat → Prop} {w : World} {b o c : Nat} {L : List Fi} (h : FRow S w (.slice (some ⟨b, o, none⟩) L.length c) L) (k : Nat) (hk : k ≤ L.length) (A : Option Addr) (hA : A = if c = k then some ⟨b, o, none⟩ else some ⟨b, o + k * 5, none⟩) : FRow S w (.slice A (L.length - k) (c - k)) (L.drop k) := by
  obtain ⟨⟨a', c', he, q1, q2, q3, q4⟩, qk⟩ := h
  obtain ⟨rfl, rfl⟩ : some ⟨b, o, none⟩ = a' ∧ c = c' := by injection he with e1 e2 e3; exact ⟨e1, e3⟩
  have hl : (L.drop k).length = L.length - k := by rw [List.length_drop]
  refine ⟨⟨A, c - k, by rw [hl], by omega, by omega, (fun e => by subst hA; split at e <;> cases e), fun h0 => ?_⟩, fun f hf => qk f (List.mem_of_mem_drop hf)⟩
  obtain ⟨b', o', e, hb, hlt, hc⟩ := q4 (by omega)
  cases e
  refine ⟨b, o + k * 5, by rw [hA, if_neg (by omega)], hb, hlt, fun i hi => ?_⟩
  have := hc (k + i) (by omega)
  rw [List.getElem_drop, show o + k * 5 + i * 5 = o + (k + i) * 5 by omega]
  exact this
end
end Go.Proofs.YtiiafpbonkcokaaGreat
