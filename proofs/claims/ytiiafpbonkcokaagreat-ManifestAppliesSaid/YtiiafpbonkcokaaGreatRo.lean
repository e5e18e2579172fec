/-
  An argument that is a slice of structs whose fields are one cell each: its rows of cells, and how each cell reads. Nothing of a program's own.
-/
import Derived.Test.YtiiafpbonkcokaaGreatFr
import Derived.Deep.Slices
import Derived.Deep.Fields
namespace Go.Proofs.YtiiafpbonkcokaaGreat
open Go.ChangeShapes Go.WideShapes Go.ChangeAt Go.RowKit Go.Deep

theorem rows_open {H : Type} {enc : TypeId × Value → H} {P : Program} {w : World} {r : Reach} {b0 : Nat} {t e : TypeId} {fs : Array Field} {v : Value} {d : DataW H} {ps : List MemPlace}
    (ht : P.underlying t = some (.slice e)) (he : P.underlying e = some (.struct fs)) (hone : oneCellFields P fs = true) (hC : P.cellsOf e = fs.size) (hpos : 0 < fs.size)
    (hval : Value.okWide P w r b0 t v) (h : DataW.Trod enc P w 0 (fun _ => true) true t v d ps) :
    ∃ (a : Option Addr) (len cap : Nat) (R : List (List Value)), v = .slice a len cap ∧ len ≤ 9223372036854775807 ∧ R.length = len ∧
      (0 < len → ∃ b o, a = some ⟨b, o, none⟩ ∧ ∀ i (hi : i < R.length) j x, R[i][j]? = some x → w.cell? ⟨b, o + i * fs.size + j, none⟩ = some x) ∧
      (∀ q ∈ R, q.length = fs.size ∧ ∀ (j : Nat) (f : Field) (x : Value), fs[j]? = some f → q[j]? = some x → ∃ n y, DataW.trod enc P w 0 (fun _ => true) true n f.type [x] = some y) := by
  obtain ⟨a0, len, cap, rfl⟩ := okWide_slice ht hval
  obtain ⟨fuel, hf⟩ := h
  rcases open_slice ht hf with ⟨hcs, _⟩ | ⟨a, len', cap', m, n, D, Pl, hcs, _, hl, hm, hmm, hxx, hi⟩
  · simp only [Value.cells, List.cons.injEq, Value.slice.injEq, and_true] at hcs
    obtain ⟨rfl, rfl, rfl⟩ := hcs
    exact ⟨none, 0, 0, [], rfl, by omega, rfl, fun h => absurd h (by omega), fun q hq => by cases hq⟩
  · simp only [Value.cells, List.cons.injEq, Value.slice.injEq, and_true] at hcs
    obtain ⟨rfl, rfl, rfl⟩ := hcs
    simp only [if_true] at hmm
    unfold maxLen at hm
    have hrow : ∀ i, i < len → ∃ cs', cs'.length = fs.size ∧ (∀ j, j < fs.size → w.cell? ((a.add (i * fs.size)).add j) = cs'[j]?) ∧ DataW.trod enc P w 0 (fun _ => true) true n e cs' = some (D i, Pl i) := by
      intro i hil
      obtain ⟨cs', h1, h2⟩ := hi i (by omega)
      rw [hC] at h1
      obtain ⟨_, h3, h4⟩ := World.cells?_some h1
      exact ⟨cs', h3, h4, h2⟩
    have hex : ∃ R : List (List Value), R.length = len ∧ ∀ i (hi : i < R.length), R[i].length = fs.size ∧ (∀ j, j < fs.size → w.cell? ((a.add (i * fs.size)).add j) = R[i][j]?) ∧ DataW.trod enc P w 0 (fun _ => true) true n e R[i] = some (D i, Pl i) := by
      clear hi hmm hl hm hval hf hxx
      induction len with
      | zero => exact ⟨[], rfl, fun i hi => absurd hi (by simp)⟩
      | succ k ih =>
        obtain ⟨R, hR, hRi⟩ := ih (fun i hi => hrow i (by omega))
        obtain ⟨cs', h1⟩ := hrow k (by omega)
        refine ⟨R ++ [cs'], by simp [hR], fun i hi => ?_⟩
        by_cases hik : i < R.length
        · rw [List.getElem_append_left hik]
          exact hRi i hik
        · have e : i = R.length := by simp at hi; omega
          subst e
          simp only [List.getElem_concat_length]
          rw [hR]
          exact h1
    obtain ⟨R, hR, hRi⟩ := hex
    refine ⟨some a, len, cap, R, rfl, by omega, hR, fun h0 => ?_, fun q hq => ?_⟩
    · obtain ⟨b, off, spot⟩ := a
      have hspot : spot = none := by
        obtain ⟨h1, h2, _⟩ := hRi 0 (by omega)
        have h3 := h2 0 hpos
        rw [List.getElem?_eq_getElem (by omega)] at h3
        simpa [Addr.add] using World.cell?_spot h3
      subst hspot
      refine ⟨b, off, rfl, fun i hi j x hx => ?_⟩
      obtain ⟨h1, h2, _⟩ := hRi i hi
      have hj : j < fs.size := by rw [← h1]; exact (List.getElem?_eq_some_iff.1 hx).1
      have h3 := h2 j hj
      rw [hx] at h3
      rwa [Go.WideShapes.add_plain, Go.WideShapes.add_plain] at h3
    · obtain ⟨i, hi, rfl⟩ := List.getElem_of_mem hq
      obtain ⟨h1, _, h3⟩ := hRi i hi
      refine ⟨h1, fun j f x hj hx => ?_⟩
      obtain ⟨xs, n', _, _, _, hlen, hg⟩ := DataW.trod_struct he h3
      have h4 := hg j f hj
      obtain ⟨ho, hk⟩ := hone_of hone j f hj
      rw [ho, hk] at h4
      have hj2 : j < fs.size := (Array.getElem?_eq_some_iff.1 hj).1
      have h5 : (R[i].drop j).take 1 = [x] := by
        obtain ⟨hl1, hl2⟩ := List.getElem?_eq_some_iff.1 hx
        rw [List.drop_eq_getElem_cons hl1, hl2]
        rfl
      rw [h5, List.getElem?_eq_getElem (by omega)] at h4
      exact ⟨n', _, h4⟩
end Go.Proofs.YtiiafpbonkcokaaGreat
