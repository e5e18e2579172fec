/-
  Plain: texts in order; lists of entries with rising keys: find, put, ask. No program in sight.
-/
import Derived.Test.YtcohbfabcdjefaaGreatDoorProg
import Derived.Lib.Bytealg
namespace Go.Proofs.YtcohbfabcdjefaaGreatDoor
open Go.Lib (compareBytes)

/-- an entry -/
structure It where
  key : ByteArray
  val : ByteArray
  gone : Bool
instance : Inhabited It := ⟨⟨⟨#[]⟩, ⟨#[]⟩, false⟩⟩
def bl (s : ByteArray) : List UInt8 := s.data.toList
theorem bl_inj {a b : ByteArray} (h : bl a = bl b) : a = b := by
  cases a; cases b
  simp only [bl, Array.toList_inj] at h
  rw [h]
def cmpK (a b : ByteArray) : Int := compareBytes (bl a) (bl b)
theorem cmp_self : ∀ a : List UInt8, compareBytes a a = 0
  | [] => rfl
  | x :: r => by simp [compareBytes, cmp_self r]
theorem cmp_zero : ∀ {a b : List UInt8}, compareBytes a b = 0 → a = b
  | [], [], _ => rfl
  | [], _ :: _, h => by simp [compareBytes] at h
  | _ :: _, [], h => by simp [compareBytes] at h
  | x :: r, y :: q, h => by
    unfold compareBytes at h
    split at h
    · cases h
    · split at h
      · cases h
      · rename_i h1 h2
        have : x = y := UInt8.le_antisymm (UInt8.not_lt.1 h2) (UInt8.not_lt.1 h1)
        rw [this, cmp_zero h]
theorem cmp_anti : ∀ (a b : List UInt8), compareBytes b a = - compareBytes a b
  | [], [] => rfl
  | [], _ :: _ => rfl
  | _ :: _, [] => rfl
  | x :: r, y :: q => by
    unfold compareBytes
    by_cases h1 : x < y
    · have h2 : ¬ y < x := UInt8.lt_asymm h1
      simp [h1, h2]
    · by_cases h2 : y < x
      · simp [h1, h2]
      · simp [h1, h2, cmp_anti r q]
theorem cmp_vals : ∀ (a b : List UInt8), compareBytes a b = -1 ∨ compareBytes a b = 0 ∨ compareBytes a b = 1
  | [], [] => .inr (.inl rfl)
  | [], _ :: _ => .inl rfl
  | _ :: _, [] => .inr (.inr rfl)
  | x :: r, y :: q => by
    unfold compareBytes
    split
    · exact .inl rfl
    · split
      · exact .inr (.inr rfl)
      · exact cmp_vals r q
theorem cmp_trans : ∀ {a b c : List UInt8}, compareBytes a b < 0 → compareBytes b c < 0 → compareBytes a c < 0
  | [], [], _, h, _ => by simp [compareBytes] at h
  | [], _ :: _, [], _, h => by simp [compareBytes] at h
  | [], _ :: _, _ :: _, _, _ => by simp [compareBytes]
  | _ :: _, [], _, h, _ => by simp [compareBytes] at h
  | _ :: _, _ :: _, [], _, h => by simp [compareBytes] at h
  | x :: r, y :: q, z :: p, h1, h2 => by
    unfold compareBytes at h1 h2 ⊢
    by_cases a1 : x < y
    · by_cases a2 : y < z
      · simp [UInt8.lt_trans a1 a2]
      · by_cases a3 : z < y
        · simp [a2, a3] at h2
        · have : y = z := UInt8.le_antisymm (UInt8.not_lt.1 a3) (UInt8.not_lt.1 a2)
          subst this
          simp [a1]
    · by_cases b1 : y < x
      · simp [a1, b1] at h1
      · have : x = y := UInt8.le_antisymm (UInt8.not_lt.1 b1) (UInt8.not_lt.1 a1)
        subst this
        simp only [a1, if_false] at h1
        by_cases a2 : x < z
        · simp [a2]
        · by_cases a3 : z < x
          · simp [a2, a3] at h2
          · simp only [a2, a3, if_false] at h2 ⊢
            exact cmp_trans h1 h2
theorem cmpK_self (a : ByteArray) : cmpK a a = 0 := cmp_self _
theorem cmpK_zero {a b : ByteArray} (h : cmpK a b = 0) : a = b := bl_inj (cmp_zero h)
theorem cmpK_anti (a b : ByteArray) : cmpK b a = - cmpK a b := cmp_anti _ _
theorem cmpK_vals (a b : ByteArray) : cmpK a b = -1 ∨ cmpK a b = 0 ∨ cmpK a b = 1 := cmp_vals _ _
theorem cmpK_trans {a b c : ByteArray} (h : cmpK a b < 0) (h' : cmpK b c < 0) : cmpK a c < 0 := cmp_trans h h'

/-! ### lists of entries -/
/-- the keys rise -/
def Up : List It → Prop
  | [] => True
  | x :: r => (∀ y ∈ r, cmpK x.key y.key < 0) ∧ Up r
/-- so many keys are below one; the others are not -/
structure Split (M : List It) (k : ByteArray) (p : Nat) : Prop where
  le : p ≤ M.length
  lo : ∀ t (h : t < M.length), t < p → cmpK M[t].key k < 0
  hi : ∀ t (h : t < M.length), p ≤ t → 0 ≤ cmpK M[t].key k
def below (k : ByteArray) : List It → Nat
  | [] => 0
  | x :: r => if cmpK x.key k < 0 then below k r + 1 else 0
def foundAt (M : List It) (k : ByteArray) (p : Nat) : Bool := match M[p]? with | some x => decide (cmpK x.key k = 0) | none => false
def putAt (M : List It) (x : It) (p : Nat) : List It := if foundAt M x.key p then M.set p x else M.take p ++ x :: M.drop p
def putL (M : List It) (x : It) : List It := putAt M x (below x.key M)
def getL (M : List It) (k : ByteArray) : Option It := M.find? fun x => decide (x.key = k)
theorem below_le (k : ByteArray) : ∀ M : List It, below k M ≤ M.length
  | [] => Nat.le_refl _
  | x :: r => by unfold below; split; simp [below_le k r]; simp
theorem Up.split (k : ByteArray) : ∀ {M : List It}, Up M → Split M k (below k M)
  | [], _ => ⟨Nat.le_refl _, fun t h => (by simp at h), fun t h => (by simp at h)⟩
  | x :: r, h => by
    have ih := Up.split k h.2
    unfold below
    by_cases hx : cmpK x.key k < 0
    · rw [if_pos hx]
      refine ⟨by simpa using ih.le, fun t ht hp => ?_, fun t ht hp => ?_⟩
      · cases t with
        | zero => exact hx
        | succ t => exact ih.lo t (by simpa using ht) (by omega)
      · cases t with
        | zero => omega
        | succ t => exact ih.hi t (by simpa using ht) (by omega)
    · rw [if_neg hx]
      refine ⟨Nat.zero_le _, fun t ht hp => by omega, fun t ht _ => ?_⟩
      cases t with
      | zero => show 0 ≤ cmpK x.key k; omega
      | succ t =>
        have ht' : t < r.length := by simpa using ht
        show 0 ≤ cmpK r[t].key k
        have h1 := h.1 r[t] (List.getElem_mem _)
        rcases cmpK_vals r[t].key k with h2 | h2 | h2
        · exact absurd (cmpK_trans h1 (by omega)) hx
        · omega
        · omega
theorem Split.uniq {M : List It} {k : ByteArray} {p q : Nat} (h : Split M k p) (h' : Split M k q) : p = q := by
  rcases Nat.lt_trichotomy p q with hlt | he | hlt
  · have := h'.lo p (by have := h'.le; omega) hlt
    have := h.hi p (by have := h'.le; omega) (Nat.le_refl _)
    omega
  · exact he
  · have := h.lo q (by have := h.le; omega) hlt
    have := h'.hi q (by have := h.le; omega) (Nat.le_refl _)
    omega
theorem Split.putL {M : List It} {x : It} {p : Nat} (hU : Up M) (h : Split M x.key p) : Proofs.YtcohbfabcdjefaaGreatDoor.putL M x = putAt M x p := by
  unfold Proofs.YtcohbfabcdjefaaGreatDoor.putL; rw [(hU.split x.key).uniq h]
theorem foundAt_lt {M : List It} {k : ByteArray} {p : Nat} (h : foundAt M k p = true) : ∃ hp : p < M.length, M[p].key = k := by
  unfold foundAt at h
  split at h
  · rename_i x hx
    obtain ⟨hp, rfl⟩ := List.getElem?_eq_some_iff.1 hx
    exact ⟨hp, cmpK_zero (by simpa using h)⟩
  · cases h
theorem Up.mem_lt {M : List It} (h : Up M) : ∀ (i j : Nat) (hi : i < M.length) (hj : j < M.length), i < j → cmpK M[i].key M[j].key < 0 := by
  induction M with
  | nil => intro i j hi; simp at hi
  | cons x r ih =>
    intro i j hi hj hij
    cases j with
    | zero => omega
    | succ j =>
      cases i with
      | zero => exact h.1 _ (List.getElem_mem _)
      | succ i => exact ih h.2 i j (by simpa using hi) (by simpa using hj) (by omega)
theorem up_of {M : List It} (h : ∀ (i j : Nat) (hi : i < M.length) (hj : j < M.length), i < j → cmpK M[i].key M[j].key < 0) : Up M := by
  induction M with
  | nil => trivial
  | cons x r ih =>
    refine ⟨fun y hy => ?_, ih fun i j hi hj hij => h (i + 1) (j + 1) (by simpa using hi) (by simpa using hj) (by omega)⟩
    obtain ⟨j, hj, rfl⟩ := List.getElem_of_mem hy
    exact h 0 (j + 1) (by simp) (by simpa using hj) (by omega)
theorem find_none {M : List It} {k : ByteArray} (h : ∀ x ∈ M, x.key ≠ k) : getL M k = none := by
  unfold getL
  rw [List.find?_eq_none]
  intro x hx
  simpa using h x hx
theorem getL_cons (x : It) (r : List It) (k : ByteArray) : getL (x :: r) k = if x.key = k then some x else getL r k := by
  unfold getL
  rw [List.find?_cons]
  by_cases h : x.key = k <;> simp [h]
theorem getL_nil (k : ByteArray) : getL [] k = none := rfl
/-- putting, said step by step -/
theorem putL_nil (x : It) : putL [] x = [x] := rfl
theorem putL_cons (y : It) (r : List It) (x : It) : putL (y :: r) x = if cmpK y.key x.key < 0 then y :: putL r x else if cmpK y.key x.key = 0 then x :: r else x :: y :: r := by
  unfold putL
  rw [below]
  by_cases h : cmpK y.key x.key < 0
  · rw [if_pos h, if_pos h]
    unfold putAt foundAt
    simp only [List.getElem?_cons_succ, List.set_cons_succ, List.take_succ_cons, List.drop_succ_cons, List.cons_append]
    split <;> split <;> simp_all
  · rw [if_neg h, if_neg h]
    unfold putAt foundAt
    simp only [List.getElem?_cons_zero, List.set_cons_zero, List.take_zero, List.drop_zero, List.nil_append]
    by_cases h0 : cmpK y.key x.key = 0 <;> simp [h0]
theorem putL_mem : ∀ {M : List It} {x y : It}, Up M → y ∈ putL M x → y = x ∨ y ∈ M
  | [], x, y, _, h => by simp [putL_nil] at h; exact .inl h
  | z :: r, x, y, hU, h => by
    rw [putL_cons z r x] at h
    split at h
    · rcases List.mem_cons.1 h with rfl | h
      · exact .inr (by simp)
      · rcases putL_mem hU.2 h with h | h
        · exact .inl h
        · exact .inr (by simp [h])
    · split at h
      · rcases List.mem_cons.1 h with rfl | h
        · exact .inl rfl
        · exact .inr (by simp [h])
      · rcases List.mem_cons.1 h with rfl | h
        · exact .inl rfl
        · exact .inr h
theorem putL_up : ∀ {M : List It} (x : It), Up M → Up (putL M x)
  | [], x, _ => ⟨fun y hy => (by cases hy), trivial⟩
  | z :: r, x, hU => by
    rw [putL_cons z r x]
    split
    · rename_i h
      exact ⟨fun y hy => by rcases putL_mem hU.2 hy with rfl | hy; exact h; exact hU.1 y hy, putL_up x hU.2⟩
    · split
      · rename_i h
        have := cmpK_zero h
        exact ⟨fun y hy => this ▸ hU.1 y hy, hU.2⟩
      · rename_i h1 h2
        have h3 : cmpK x.key z.key < 0 := by
          have := cmpK_anti z.key x.key
          rcases cmpK_vals z.key x.key with h | h | h <;> omega
        exact ⟨fun y hy => by rcases List.mem_cons.1 hy with rfl | hy; exact h3; exact cmpK_trans h3 (hU.1 y hy), hU⟩
theorem getL_putL : ∀ {M : List It} (x : It) (k : ByteArray), Up M → getL (putL M x) k = if x.key = k then some x else getL M k
  | [], x, k, _ => by rw [putL_nil, getL_cons]
  | z :: r, x, k, hU => by
    rw [putL_cons z r x]
    split
    · rename_i h
      rw [getL_cons, getL_putL x k hU.2, getL_cons]
      by_cases h1 : x.key = k
      · have : z.key ≠ k := fun e => by rw [e, h1, cmpK_self] at h; omega
        simp [h1, this]
      · simp [h1]
    · split
      · rename_i h
        have := cmpK_zero h
        rw [getL_cons, getL_cons, this]
        by_cases h1 : x.key = k <;> simp [h1]
      · rw [getL_cons]
theorem getL_len : ∀ {M : List It} (x : It), Up M → (putL M x).length = if (getL M x.key).isSome then M.length else M.length + 1
  | [], x, _ => rfl
  | z :: r, x, hU => by
    rw [putL_cons z r x, getL_cons]
    split
    · rename_i h
      have : z.key ≠ x.key := fun e => by rw [e, cmpK_self] at h; omega
      rw [if_neg this, List.length_cons, getL_len x hU.2]
      split <;> simp
    · split
      · rename_i h
        simp [cmpK_zero h]
      · rename_i h1 h2
        have hn : getL (z :: r) x.key = none := find_none fun y hy e => by
          have h3 : cmpK x.key z.key < 0 := by
            have := cmpK_anti z.key x.key
            rcases cmpK_vals z.key x.key with h | h | h <;> omega
          rcases List.mem_cons.1 hy with rfl | hy
          · rw [e, cmpK_self] at h2; exact h2 rfl
          · have := cmpK_trans h3 (hU.1 y hy)
            rw [e, cmpK_self] at this; omega
        rw [getL_cons] at hn
        rw [hn]; simp
theorem getL_mem {M : List It} {k : ByteArray} {x : It} (h : getL M k = some x) : x ∈ M ∧ x.key = k := by
  unfold getL at h
  exact ⟨List.mem_of_find?_eq_some h, by simpa using List.find?_some h⟩
/-- what is found at the split is what is asked for -/
theorem getL_at {M : List It} {k : ByteArray} {p : Nat} (hU : Up M) (h : Split M k p) : getL M k = if foundAt M k p then M[p]? else none := by
  by_cases hf : foundAt M k p = true
  · obtain ⟨hp, he⟩ := foundAt_lt hf
    rw [if_pos hf, List.getElem?_eq_getElem hp]
    have : getL M k = some M[p] := by
      unfold getL
      rw [List.find?_eq_some_iff_getElem]
      refine ⟨by simpa using he, p, hp, rfl, fun j hj => ?_⟩
      have := h.lo j (by omega) hj
      simp only [Bool.not_eq_true', decide_eq_false_iff_not]
      intro e
      rw [e, cmpK_self] at this; omega
    exact this
  · rw [if_neg hf]
    refine find_none fun x hx e => hf ?_
    obtain ⟨j, hj, rfl⟩ := List.getElem_of_mem hx
    have hjp : j = p := by
      rcases Nat.lt_trichotomy j p with hlt | he | hlt
      · have := h.lo j hj hlt
        rw [e, cmpK_self] at this; omega
      · exact he
      · have h1 := hU.mem_lt p j (by omega) hj hlt
        have h2 := h.hi p (by omega) (Nat.le_refl _)
        rw [e] at h1; omega
    subst hjp
    unfold foundAt
    rw [List.getElem?_eq_getElem hj]
    simp [e, cmpK_self]
end Go.Proofs.YtcohbfabcdjefaaGreatDoor
