/-
  What every law's proof needs around its walk: an argument that is a list of numbers, read; the end (it answered true and left what was there alone).
-/
import Derived.Test.YtcohbfabcdjefaaGreatDoorProg
import Derived.Test.YtcohbfabcdjefaaGreatDoorRows
import Derived.WalkKit
import Derived.ProofKit
import Derived.OpenShut
namespace Go.Proofs.YtcohbfabcdjefaaGreatDoor
open Go.ChangeShapes Go.WideShapes Go.ChangeAt Go.RowKit Go.ChangeShapes

theorem own : ownKnob Tryz.prog.godebug = none := by kernel_rfl

theorem ints_open {H : Type} {enc : TypeId × Value → H} {P : Program} {w : World} {r : Reach} {b0 : Nat} {t e : TypeId} {k : IntKind} {v : Value} {d : DataW H} {ps : List MemPlace}
    (ht : P.underlying t = some (.slice e)) (he : P.underlying e = some (.int k)) (hc : P.cellsOf e = 1) (hval : Value.okWide P w r b0 t v) (h : DataW.Trod enc P w 0 (fun _ => true) true t v d ps) :
    ∃ (a : Option Addr) (len cap : Nat) (zs : List Int), v = .slice a len cap ∧ len ≤ 9223372036854775807 ∧ zs.length = len ∧ (∀ n ∈ zs, (Lit.int k n).wf = true) ∧
      (0 < len → ∃ b o, a = some ⟨b, o, none⟩ ∧ ∀ i, i < len → w.cell? ⟨b, o + i, none⟩ = some (.int k (zs.getD i 0))) := by
  obtain ⟨a0, len, cap, rfl⟩ := okWide_slice ht hval
  obtain ⟨fuel, hf⟩ := h
  rcases open_ints ht he hc hf with ⟨hcs, hx⟩ | ⟨a, len', cap', zs, hcs, _, hl, hm, hz, hx, hcell, hwz⟩
  · simp only [Value.cells, List.cons.injEq, Value.slice.injEq, and_true] at hcs
    obtain ⟨rfl, rfl, rfl⟩ := hcs
    exact ⟨none, 0, 0, [], rfl, by omega, rfl, (fun _ h => by cases h), fun h => absurd h (by omega)⟩
  · simp only [Value.cells, List.cons.injEq, Value.slice.injEq, and_true] at hcs
    obtain ⟨rfl, rfl, rfl⟩ := hcs
    simp only [if_true] at hz
    unfold maxLen at hm
    refine ⟨some a, len, cap, zs.take len, rfl, by omega, by rw [List.length_take]; omega, fun n hn => hwz n (List.mem_of_mem_take hn), fun h0 => ?_⟩
    obtain ⟨b, o, rfl, hb⟩ := ints_at hcell (by omega)
    refine ⟨b, o, rfl, fun i hi => ?_⟩
    rw [hb i (by omega)]
    simp [List.getD_eq_getElem?_getD, hi]

theorem nums_open {w : World} {la : Option Addr} {ln : Nat} {zs : List Int} (hw : ∀ n ∈ zs, (Lit.int .u16 n).wf = true) (hz : zs.length = ln)
    (hc : 0 < ln → ∃ b o, la = some ⟨b, o, none⟩ ∧ ∀ i, i < ln → w.cell? ⟨b, o + i, none⟩ = some (.int .u16 (zs.getD i 0))) :
    0 < ln → ∃ lb lo, la = some ⟨lb, lo, none⟩ ∧ ∀ i, i < ln → w.cell? ⟨lb, lo + i, none⟩ = some (.int .u16 ((zs.map Int.toNat).getD i 0 : Nat)) := fun h0 => by
  obtain ⟨b, o, rfl, h⟩ := hc h0
  refine ⟨b, o, rfl, fun i hi => ?_⟩
  rw [h i hi]
  have hi2 : i < zs.length := by omega
  have := bounds_u16 (hw _ (List.getElem_mem hi2))
  have e : zs.getD i 0 = (((zs.map Int.toNat).getD i 0 : Nat) : Int) := by
    simp only [List.getD_eq_getElem?_getD, List.getElem?_map, List.getElem?_eq_getElem hi2, Option.map_some, Option.getD_some]
    omega
  rw [e]

/-- a list of readings, read again in a world that has not turned below the old heap's end -/
theorem readings_kept {H : Type} {enc : TypeId × Value → H} {P : Program} (hl : laidOutB P = true) {W W' : World} (hb : Below W.heap.size W W') :
    ∀ (ts : List TypeId) (vs : List Value) (ds : List (DataW H)) (ps : List MemPlace), (∀ t ∈ ts, P.readableRec t = true ∧ t < P.types.size) → (∀ p ∈ ps, p.block < W.heap.size) →
      DataW.TrodAll enc P W 0 (fun _ => true) true ts vs ds ps → DataW.TrodAll enc P W' 0 (fun b => decide (b < W.heap.size)) true ts vs ds ps
  | [], _, _, _, _, _, h => by
    obtain ⟨rfl, rfl, rfl⟩ := trodAll_nil h
    exact trodAll_mk0
  | t :: ts, _, _, _, ht, hp, h => by
    obtain ⟨v, vs, d, ds, p, q, rfl, rfl, rfl, h0, h1⟩ := trodAll_cons h
    obtain ⟨hr, hs⟩ := ht t (List.mem_cons_self ..)
    refine trodAll_cons_mk (Below.trod hl hr hs h0 hb (fun x hx => hp x (List.mem_append.2 (.inl hx)))) ?_
    exact readings_kept hl hb ts vs ds q (fun u hu => ht u (List.mem_cons_of_mem _ hu)) (fun x hx => hp x (List.mem_append.2 (.inr hx))) h1

/-- THE END OF A LAW's PROOF: it returned true and left what was there alone. -/
theorem law_end {H : Type} {enc : TypeId × Value → H} {P : Program} {f : Func} {s : ChangeSpec} {W W' : World} {args : Array Value} {ds : List (DataW H)} {ps : List MemPlace} {tb : TypeId}
    (hl : laidOutB P = true) (hts : ∀ t ∈ f.params.toList, P.readableRec t = true ∧ t < P.types.size) (hrt : f.resultTypes = #[tb]) (htb : P.underlying tb = some .bool) (hvars : s.vars = [])
    (hW : DataW.Whole enc P f.params.toList s.vars false W args.toList ds [] ps) (hA : DataW.TrodAll enc P W 0 (fun _ => true) true f.params.toList args.toList ds ps)
    (hfn : s.fn H ds = { results := [.lit (.bool true)], args := ds }) (hb : Below W.heap.size W W') : s.post enc P f false true false false W args (.bool true) W' := by
  refine ⟨ds, [], ps, [], ps, [], hW, ?_, ?_, ?_, hb.frame _, fun h => by cases h⟩
  · rw [List.append_nil, hfn, hrt]
    exact trodAll_mk1 (shut_bool htb true)
  · rw [List.append_nil, hfn]
    exact readings_kept hl hb _ _ _ _ hts (fun p hp => hW.lt p hp) hA
  · rw [List.append_nil, hfn, hvars]
    rfl
end Go.Proofs.YtcohbfabcdjefaaGreatDoor
