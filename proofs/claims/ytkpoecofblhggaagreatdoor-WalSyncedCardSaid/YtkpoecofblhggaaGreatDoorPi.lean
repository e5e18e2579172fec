/-
  An argument of type '[]string', read; 'WalSynced' at every argument.
-/
import Derived.Test.YtkpoecofblhggaaGreatDoorPh
import Derived.Test.YtkpoecofblhggaaGreatDoorFr
import Derived.Deep.Slices
namespace Go.Proofs.YtkpoecofblhggaaGreatDoor
open Go.ChangeShapes Go.WideShapes Go.ChangeAt Go.RowKit Go.Deep

theorem strs_open {H : Type} {enc : TypeId × Value → H} {P : Program} {w : World} {r : Reach} {b0 : Nat} {t e : TypeId} {v : Value} {d : DataW H} {ps : List MemPlace}
    (ht : P.underlying t = some (.slice e)) (he : P.underlying e = some .string) (hc : P.cellsOf e = 1) (hval : Value.okWide P w r b0 t v) (h : DataW.Trod enc P w 0 (fun _ => true) true t v d ps) :
    ∃ (a : Option Addr) (len cap : Nat) (S : Nat → ByteArray), v = .slice a len cap ∧ len ≤ 9223372036854775807 ∧ (∀ i, i < len → (S i).size ≤ maxLen) ∧
      (0 < len → ∃ b o, a = some ⟨b, o, none⟩ ∧ b < w.heap.size ∧ ∀ i, i < len → w.cell? ⟨b, o + i, none⟩ = some (.string (S i))) := by
  obtain ⟨a0, len, cap, rfl⟩ := okWide_slice ht hval
  obtain ⟨fuel, hf⟩ := h
  rcases open_slice1 ht hc hf with ⟨hcs, _⟩ | ⟨a, len', cap', m, n, V, D, Pl, hcs, _, hl, hm, hmm, _, hi⟩
  · simp only [Value.cells, List.cons.injEq, Value.slice.injEq, and_true] at hcs
    obtain ⟨rfl, rfl, rfl⟩ := hcs
    exact ⟨none, 0, 0, fun _ => ⟨#[]⟩, rfl, by omega, fun i hi => absurd hi (by omega), fun h => absurd h (by omega)⟩
  · simp only [Value.cells, List.cons.injEq, Value.slice.injEq, and_true] at hcs
    obtain ⟨rfl, rfl, rfl⟩ := hcs
    simp only [if_true] at hmm
    unfold maxLen at hm
    obtain ⟨S, hS⟩ := choose_lt (α := ByteArray) (n := len) (p := fun i s => w.cell? (a.add i) = some (.string s) ∧ s.size ≤ maxLen) (fun i hil => by
      obtain ⟨h1, h2⟩ := hi i (by omega)
      obtain ⟨s, e1, _, hs⟩ := DataW.trod_string he h2
      simp only [List.cons.injEq, and_true] at e1
      exact ⟨s, by rw [h1, e1], hs⟩)
    refine ⟨some a, len, cap, S, rfl, by omega, fun i hil => (hS i hil).2, fun h0 => ?_⟩
    have h1 := (hS 0 h0).1
    obtain ⟨b, o, sp⟩ := a
    have hsp : sp = none := by simpa [Addr.add] using World.cell?_spot h1
    subst hsp
    refine ⟨b, o, rfl, World.block_lt_of_cell? w (Addr.add ⟨b, o, none⟩ 0) h1, fun i hil => ?_⟩
    have := (hS i hil).1
    rwa [Go.WideShapes.add_plain] at this
theorem walSynced_args (w : World) (la : Option Addr) (ln lc : Nat) (S : Nat → ByteArray) (hln : ln ≤ 9223372036854775807) (hS : ∀ i, i < ln → (S i).size ≤ maxLen) (hla : 0 < ln → ∃ lb lo, la = some ⟨lb, lo, none⟩ ∧ lb < w.heap.size ∧ ∀ i, i < ln → w.cell? ⟨lb, lo + i, none⟩ = some (.string (S i)))
    (at_ fuse : Int) (hfu : (Lit.int .i64 fuse).wf = true) (ka : Option Addr) (kn kc : Nat) (ks : List Int) (hkn : kn ≤ 9223372036854775807) (hkl : ks.length = kn) (hk : 0 < kn → ∃ kb ko, ka = some ⟨kb, ko, none⟩ ∧ ∀ i, i < kn → w.cell? ⟨kb, ko + i, none⟩ = some (.int .i64 (ks.getD i 0))) :
    Calls Tryz.prog 3 #[.slice la ln lc, .int .i64 at_, .int .i64 fuse, .slice ka kn kc] w fun e w' => e = .returned (.bool true) ∧ Below w.heap.size w w' :=
  walSynced_any w la ln lc S hla hS hln at_ fuse (by have := bounds_i64 hfu; omega) ka kn kc ks hkl hkn (fun h0 => by
    obtain ⟨kb, ko, e, hc⟩ := hk h0
    exact ⟨kb, ko, e, World.block_lt_of_cell? w ⟨kb, ko + 0, none⟩ (hc 0 h0), hc⟩)
end Go.Proofs.YtkpoecofblhggaaGreatDoor
