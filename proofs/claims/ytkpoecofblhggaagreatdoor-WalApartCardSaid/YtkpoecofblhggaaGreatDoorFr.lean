/-
  What every law's proof needs around its walk: an argument that is a list of numbers, read; the end (it answered true and left what was there alone).
-/
import Derived.Test.YtkpoecofblhggaaGreatDoorProg
import Derived.Test.YtkpoecofblhggaaGreatDoorRows
import Derived.WalkKit
import Derived.ProofKit
import Derived.OpenShut
import Derived.Deep.Slices
import Derived.Deep.Fields
import Derived.Test.YtkpoecofblhggaaGreatDoorRv
namespace Go.Proofs.YtkpoecofblhggaaGreatDoor
section
open Go.ChangeShapes Go.WideShapes Go.ChangeAt Go.RowKit Go.ChangeShapes

theorem own : ownKnob Tryz.prog.godebug = none := by kernel_rfl

theorem ints_open {H : Type} {enc : TypeId × Value → H} {P : Program} {w : World} {r : Reach} {b0 : Nat} {t e : TypeId} {k : IntKind} {v : Value} {d : DataW H} {ps : List MemPlace}
    (ht : P.underlying t = some (.slice e)) (he : P.underlying e = some (.int k)) (hc : P.cellsOf e = 1) (hval : Value.okWide P w r b0 t v) (h : DataW.Trod enc P w 0 (fun _ => true) true t v d ps) :
    ∃ (a : Option Addr) (len cap : Nat) (zs : List Int), v = .slice a len cap ∧ len ≤ 9223372036854775807 ∧ zs.length = len ∧ (∀ n ∈ zs, (Lit.int k n).wf = true) ∧
      (0 < len → ∃ b o, a = some ⟨b, o, none⟩ ∧ ∀ i, i < len → w.cell? ⟨b, o + i, none⟩ = some (.int k (zs.getD i 0))) := by
  obtain ⟨a0, len, cap, rfl⟩ := okWide_slice ht hval
  obtain ⟨fuel, hf⟩ := h
  rcases open_ints ht he hc hf with ⟨hcs, hx⟩ | ⟨a, len', cap', zs, hcs, _, hl, hm, hz, hx, hcell, hwz⟩
  · simp only [Value.cells, List.cons.injEq, Value.slice.injEq, and_true] at hcs
    obtain ⟨rfl, rfl, rfl⟩ := hcs
    exact ⟨none, 0, 0, [], rfl, by omega, rfl, (fun _ h => by cases h), fun h => absurd h (by omega)⟩
  · simp only [Value.cells, List.cons.injEq, Value.slice.injEq, and_true] at hcs
    obtain ⟨rfl, rfl, rfl⟩ := hcs
    simp only [if_true] at hz
    unfold maxLen at hm
    refine ⟨some a, len, cap, zs.take len, rfl, by omega, by rw [List.length_take]; omega, fun n hn => hwz n (List.mem_of_mem_take hn), fun h0 => ?_⟩
    obtain ⟨b, o, rfl, hb⟩ := ints_at hcell (by omega)
    refine ⟨b, o, rfl, fun i hi => ?_⟩
    rw [hb i (by omega)]
    simp [List.getD_eq_getElem?_getD, hi]

theorem nums_open {w : World} {la : Option Addr} {ln : Nat} {zs : List Int} (hw : ∀ n ∈ zs, (Lit.int .u16 n).wf = true) (hz : zs.length = ln)
    (hc : 0 < ln → ∃ b o, la = some ⟨b, o, none⟩ ∧ ∀ i, i < ln → w.cell? ⟨b, o + i, none⟩ = some (.int .u16 (zs.getD i 0))) :
    0 < ln → ∃ lb lo, la = some ⟨lb, lo, none⟩ ∧ ∀ i, i < ln → w.cell? ⟨lb, lo + i, none⟩ = some (.int .u16 ((zs.map Int.toNat).getD i 0 : Nat)) := fun h0 => by
  obtain ⟨b, o, rfl, h⟩ := hc h0
  refine ⟨b, o, rfl, fun i hi => ?_⟩
  rw [h i hi]
  have hi2 : i < zs.length := by omega
  have := bounds_u16 (hw _ (List.getElem_mem hi2))
  have e : zs.getD i 0 = (((zs.map Int.toNat).getD i 0 : Nat) : Int) := by
    simp only [List.getD_eq_getElem?_getD, List.getElem?_map, List.getElem?_eq_getElem hi2, Option.map_some, Option.getD_some]
    omega
  rw [e]

/-- a list of readings, read again in a world that has not turned below the old heap's end -/
theorem readings_kept {H : Type} {enc : TypeId × Value → H} {P : Program} (hl : laidOutB P = true) {W W' : World} (hb : Below W.heap.size W W') :
    ∀ (ts : List TypeId) (vs : List Value) (ds : List (DataW H)) (ps : List MemPlace), (∀ t ∈ ts, P.readableRec t = true ∧ t < P.types.size) → (∀ p ∈ ps, p.block < W.heap.size) →
      DataW.TrodAll enc P W 0 (fun _ => true) true ts vs ds ps → DataW.TrodAll enc P W' 0 (fun b => decide (b < W.heap.size)) true ts vs ds ps
  | [], _, _, _, _, _, h => by
    obtain ⟨rfl, rfl, rfl⟩ := trodAll_nil h
    exact trodAll_mk0
  | t :: ts, _, _, _, ht, hp, h => by
    obtain ⟨v, vs, d, ds, p, q, rfl, rfl, rfl, h0, h1⟩ := trodAll_cons h
    obtain ⟨hr, hs⟩ := ht t (List.mem_cons_self ..)
    refine trodAll_cons_mk (Below.trod hl hr hs h0 hb (fun x hx => hp x (List.mem_append.2 (.inl hx)))) ?_
    exact readings_kept hl hb ts vs ds q (fun u hu => ht u (List.mem_cons_of_mem _ hu)) (fun x hx => hp x (List.mem_append.2 (.inr hx))) h1

/-- THE END OF A LAW's PROOF: it returned true and left what was there alone. -/
theorem law_end {H : Type} {enc : TypeId × Value → H} {P : Program} {f : Func} {s : ChangeSpec} {W W' : World} {args : Array Value} {ds : List (DataW H)} {ps : List MemPlace} {tb : TypeId}
    (hl : laidOutB P = true) (hts : ∀ t ∈ f.params.toList, P.readableRec t = true ∧ t < P.types.size) (hrt : f.resultTypes = #[tb]) (htb : P.underlying tb = some .bool) (hvars : s.vars = [])
    (hW : DataW.Whole enc P f.params.toList s.vars false W args.toList ds [] ps) (hA : DataW.TrodAll enc P W 0 (fun _ => true) true f.params.toList args.toList ds ps)
    (hfn : s.fn H ds = { results := [.lit (.bool true)], args := ds }) (hb : Below W.heap.size W W') : s.post enc P f false true false false W args (.bool true) W' := by
  refine ⟨ds, [], ps, [], ps, [], hW, ?_, ?_, ?_, hb.frame _, fun h => by cases h⟩
  · rw [List.append_nil, hfn, hrt]
    exact trodAll_mk1 (shut_bool htb true)
  · rw [List.append_nil, hfn]
    exact readings_kept hl hb _ _ _ _ hts (fun p hp => hW.lt p hp) hA
  · rw [List.append_nil, hfn, hvars]
    rfl
end

section
open Go.ChangeShapes Go.WideShapes Go.ChangeAt Go.RowKit Go.Deep

theorem rows_open {H : Type} {enc : TypeId × Value → H} {P : Program} {w : World} {r : Reach} {b0 : Nat} {t e : TypeId} {fs : Array Field} {v : Value} {d : DataW H} {ps : List MemPlace}
    (ht : P.underlying t = some (.slice e)) (he : P.underlying e = some (.struct fs)) (hone : oneCellFields P fs = true) (hC : P.cellsOf e = fs.size) (hpos : 0 < fs.size)
    (hval : Value.okWide P w r b0 t v) (h : DataW.Trod enc P w 0 (fun _ => true) true t v d ps) :
    ∃ (a : Option Addr) (len cap : Nat) (R : List (List Value)), v = .slice a len cap ∧ len ≤ 9223372036854775807 ∧ R.length = len ∧
      (0 < len → ∃ b o, a = some ⟨b, o, none⟩ ∧ ∀ i (hi : i < R.length) j x, R[i][j]? = some x → w.cell? ⟨b, o + i * fs.size + j, none⟩ = some x) ∧
      (∀ q ∈ R, q.length = fs.size ∧ ∀ (j : Nat) (f : Field) (x : Value), fs[j]? = some f → q[j]? = some x → ∃ n y, DataW.trod enc P w 0 (fun _ => true) true n f.type [x] = some y) := by
  obtain ⟨a0, len, cap, rfl⟩ := okWide_slice ht hval
  obtain ⟨fuel, hf⟩ := h
  rcases open_slice ht hf with ⟨hcs, _⟩ | ⟨a, len', cap', m, n, D, Pl, hcs, _, hl, hm, hmm, hxx, hi⟩
  · simp only [Value.cells, List.cons.injEq, Value.slice.injEq, and_true] at hcs
    obtain ⟨rfl, rfl, rfl⟩ := hcs
    exact ⟨none, 0, 0, [], rfl, by omega, rfl, fun h => absurd h (by omega), fun q hq => by cases hq⟩
  · simp only [Value.cells, List.cons.injEq, Value.slice.injEq, and_true] at hcs
    obtain ⟨rfl, rfl, rfl⟩ := hcs
    simp only [if_true] at hmm
    unfold maxLen at hm
    have hrow : ∀ i, i < len → ∃ cs', cs'.length = fs.size ∧ (∀ j, j < fs.size → w.cell? ((a.add (i * fs.size)).add j) = cs'[j]?) ∧ DataW.trod enc P w 0 (fun _ => true) true n e cs' = some (D i, Pl i) := by
      intro i hil
      obtain ⟨cs', h1, h2⟩ := hi i (by omega)
      rw [hC] at h1
      obtain ⟨_, h3, h4⟩ := World.cells?_some h1
      exact ⟨cs', h3, h4, h2⟩
    have hex : ∃ R : List (List Value), R.length = len ∧ ∀ i (hi : i < R.length), R[i].length = fs.size ∧ (∀ j, j < fs.size → w.cell? ((a.add (i * fs.size)).add j) = R[i][j]?) ∧ DataW.trod enc P w 0 (fun _ => true) true n e R[i] = some (D i, Pl i) := by
      clear hi hmm hl hm hval hf hxx
      induction len with
      | zero => exact ⟨[], rfl, fun i hi => absurd hi (by simp)⟩
      | succ k ih =>
        obtain ⟨R, hR, hRi⟩ := ih (fun i hi => hrow i (by omega))
        obtain ⟨cs', h1⟩ := hrow k (by omega)
        refine ⟨R ++ [cs'], by simp [hR], fun i hi => ?_⟩
        by_cases hik : i < R.length
        · rw [List.getElem_append_left hik]
          exact hRi i hik
        · have e : i = R.length := by simp at hi; omega
          subst e
          simp only [List.getElem_concat_length]
          rw [hR]
          exact h1
    obtain ⟨R, hR, hRi⟩ := hex
    refine ⟨some a, len, cap, R, rfl, by omega, hR, fun h0 => ?_, fun q hq => ?_⟩
    · obtain ⟨b, off, spot⟩ := a
      have hspot : spot = none := by
        obtain ⟨h1, h2, _⟩ := hRi 0 (by omega)
        have h3 := h2 0 hpos
        rw [List.getElem?_eq_getElem (by omega)] at h3
        simpa [Addr.add] using World.cell?_spot h3
      subst hspot
      refine ⟨b, off, rfl, fun i hi j x hx => ?_⟩
      obtain ⟨h1, h2, _⟩ := hRi i hi
      have hj : j < fs.size := by rw [← h1]; exact (List.getElem?_eq_some_iff.1 hx).1
      have h3 := h2 j hj
      rw [hx] at h3
      rwa [Go.WideShapes.add_plain, Go.WideShapes.add_plain] at h3
    · obtain ⟨i, hi, rfl⟩ := List.getElem_of_mem hq
      obtain ⟨h1, _, h3⟩ := hRi i hi
      refine ⟨h1, fun j f x hj hx => ?_⟩
      obtain ⟨xs, n', _, _, _, hlen, hg⟩ := DataW.trod_struct he h3
      have h4 := hg j f hj
      obtain ⟨ho, hk⟩ := hone_of hone j f hj
      rw [ho, hk] at h4
      have hj2 : j < fs.size := (Array.getElem?_eq_some_iff.1 hj).1
      have h5 : (R[i].drop j).take 1 = [x] := by
        obtain ⟨hl1, hl2⟩ := List.getElem?_eq_some_iff.1 hx
        rw [List.drop_eq_getElem_cons hl1, hl2]
        rfl
      rw [h5, List.getElem?_eq_getElem (by omega)] at h4
      exact ⟨n', _, h4⟩
end

section
open Go.ChangeShapes Go.WideShapes Go.ChangeAt Go.RowKit Go.Deep

theorem act_cells : Tryz.prog.cellsOf 54 = 5 := by kernel_rfl
theorem one_cells : Tryz.prog.cellsOf 3 = 1 := by kernel_rfl
theorem act_one {fs : Array Field} (h : Tryz.prog.underlying 54 = some (.struct fs)) : oneCellFields Tryz.prog fs = true ∧ fs.size = 5 ∧ (fs.map (·.type)).toList = [3, 9, 5, 3, 23] := by
  rw [Tryz.underlying54] at h
  cases h
  exact ⟨by kernel_rfl, rfl, by simp⟩
theorem string_one {H : Type} {enc : TypeId × Value → H} {P : Program} {w : World} {base : Nat} {spare : Nat → Bool} {held : Bool} {n : Nat} {t : TypeId} {x : Value} {y : DataW H × List MemPlace} (ht : P.underlying t = some .string)
    (h : DataW.trod enc P w base spare held n t [x] = some y) : ∃ s, x = .string s ∧ s.size ≤ maxLen := by
  obtain ⟨s, e, _, hs⟩ := DataW.trod_string ht h
  simp only [List.cons.injEq, and_true] at e
  exact ⟨s, e, hs⟩
theorem int_one {H : Type} {enc : TypeId × Value → H} {P : Program} {w : World} {base : Nat} {spare : Nat → Bool} {held : Bool} {n : Nat} {t : TypeId} {k : IntKind} {x : Value} {y : DataW H × List MemPlace} (ht : P.underlying t = some (.int k))
    (h : DataW.trod enc P w base spare held n t [x] = some y) : ∃ z, x = .int k z ∧ (Lit.int k z).wf = true := by
  obtain ⟨z, e, _, hs⟩ := DataW.trod_int ht h
  simp only [List.cons.injEq, and_true] at e
  exact ⟨z, e, hs⟩
theorem ints_one {H : Type} {enc : TypeId × Value → H} {P : Program} {w : World} {n : Nat} {t e : TypeId} {k : IntKind} {x : Value} {y : DataW H × List MemPlace} (ht : P.underlying t = some (.slice e)) (he : P.underlying e = some (.int k)) (hc : P.cellsOf e = 1)
    (h : DataW.trod enc P w 0 (fun _ => true) true n t [x] = some y) : ∃ (a : Option Addr) (len cap : Nat) (zs : List Int), x = .slice a len cap ∧ len ≤ 9223372036854775807 ∧ zs.length = len ∧ (∀ n ∈ zs, (Lit.int k n).wf = true) ∧
      (0 < len → ∃ b o, a = some ⟨b, o, none⟩ ∧ ∀ i, i < len → w.cell? ⟨b, o + i, none⟩ = some (.int k (zs.getD i 0))) := by
  rcases open_ints ht he hc h with ⟨hcs, hx⟩ | ⟨a, len', cap', zs, hcs, _, hl, hm, hz, hx, hcell, hwz⟩
  · simp only [List.cons.injEq, and_true] at hcs
    exact ⟨none, 0, 0, [], hcs, by omega, rfl, (fun _ h => by cases h), fun h => absurd h (by omega)⟩
  · simp only [List.cons.injEq, and_true] at hcs
    simp only [if_true] at hz
    unfold maxLen at hm
    refine ⟨some a, len', cap', zs.take len', hcs, by omega, by rw [List.length_take]; omega, fun n hn => hwz n (List.mem_of_mem_take hn), fun h0 => ?_⟩
    obtain ⟨b, o, rfl, hb⟩ := ints_at hcell (by omega)
    refine ⟨b, o, rfl, fun i hi => ?_⟩
    rw [hb i (by omega)]
    simp [List.getD_eq_getElem?_getD, hi]

theorem five_of {q : List Value} (h : q.length = 5) : ∃ v0 v1 v2 v3 v4, q = [v0, v1, v2, v3, v4] := by
  match q, h with
  | [v0, v1, v2, v3, v4], _ => exact ⟨v0, v1, v2, v3, v4, rfl⟩
set_option maxRecDepth 100000 in
theorem acts_open {H : Type} {enc : TypeId × Value → H} {w : World} {r : Reach} {b0 : Nat} {v : Value} {d : DataW H} {ps : List MemPlace}
    (hval : Value.okWide Tryz.prog w r b0 48 v) (h : DataW.Trod enc Tryz.prog w 0 (fun _ => true) true 48 v d ps) :
    ∃ (a : Option Addr) (cap : Nat) (l : List Act), v = .slice a l.length cap ∧ l.length ≤ 9223372036854775807 ∧ ActsAt w a l := by
  obtain ⟨fs, hfs⟩ : ∃ fs, Tryz.prog.underlying 54 = some (.struct fs) := ⟨_, Tryz.underlying54⟩
  obtain ⟨hone, hsz, hty⟩ := act_one hfs
  obtain ⟨a, len, cap, R, rfl, hlen, hR, hcell, hq⟩ := rows_open Tryz.underlying48 hfs hone (by rw [hsz]; exact act_cells) (by rw [hsz]; decide) hval h
  have hf : ∀ (j : Nat) (t : TypeId), [3, 9, 5, 3, 23][j]? = some t → ∃ f : Field, fs[j]? = some f ∧ f.type = t := by
    intro j t hj
    rw [← hty] at hj
    simp only [Array.getElem?_toList, Array.getElem?_map] at hj
    cases hfj : fs[j]? with
    | none => rw [hfj] at hj; cases hj
    | some f => rw [hfj] at hj; exact ⟨f, rfl, by simpa using hj⟩
  have hrow : ∀ q ∈ R, ∃ x : Act, q = x.vals ∧ ActOk x := by
    intro q hqm
    obtain ⟨hl, hr⟩ := hq q hqm
    rw [hsz] at hl
    obtain ⟨v0, v1, v2, v3, v4, rfl⟩ := five_of hl
    obtain ⟨f0, hf0, e0⟩ := hf 0 _ rfl
    obtain ⟨f1, hf1, e1⟩ := hf 1 _ rfl
    obtain ⟨f2, hf2, e2⟩ := hf 2 _ rfl
    obtain ⟨f3, hf3, e3⟩ := hf 3 _ rfl
    obtain ⟨f4, hf4, e4⟩ := hf 4 _ rfl
    obtain ⟨n0, y0, t0⟩ := hr 0 f0 v0 hf0 rfl
    obtain ⟨n1, y1, t1⟩ := hr 1 f1 v1 hf1 rfl
    obtain ⟨n2, y2, t2⟩ := hr 2 f2 v2 hf2 rfl
    obtain ⟨n3, y3, t3⟩ := hr 3 f3 v3 hf3 rfl
    obtain ⟨n4, y4, t4⟩ := hr 4 f4 v4 hf4 rfl
    rw [e0] at t0
    rw [e1] at t1
    rw [e2] at t2
    rw [e3] at t3
    rw [e4] at t4
    obtain ⟨z0, rfl, w0⟩ := int_one Tryz.underlying3 t0
    obtain ⟨s1, rfl, m1⟩ := string_one Tryz.underlying9 t1
    obtain ⟨z2, rfl, w2⟩ := int_one Tryz.underlying5 t2
    obtain ⟨z3, rfl, w3⟩ := int_one Tryz.underlying3 t3
    obtain ⟨ka, kn, kc, ks, rfl, hk1, hk2, _, hk4⟩ := ints_one Tryz.underlying23 Tryz.underlying3 one_cells t4
    obtain ⟨k, hk, rfl⟩ : ∃ k : Nat, k < 256 ∧ z2 = k := ⟨z2.toNat, by have := bounds_u8 w2; omega, by have := bounds_u8 w2; omega⟩
    exact ⟨⟨z0, s1, k, z3, ka, kn, kc⟩, rfl, ⟨m1, hk, hk1⟩⟩
  have hall : ∃ l : List Act, R = l.map Act.vals ∧ ∀ x ∈ l, ActOk x := by
    clear hcell hq hR
    induction R with
    | nil => exact ⟨[], rfl, fun x hx => by cases hx⟩
    | cons q R ih =>
      obtain ⟨x, rfl, hx⟩ := hrow q (List.mem_cons_self ..)
      obtain ⟨l, rfl, hl⟩ := ih (fun q hq => hrow q (List.mem_cons_of_mem _ hq))
      exact ⟨x :: l, rfl, fun y hy => by rcases List.mem_cons.1 hy with rfl | hy; exact hx; exact hl y hy⟩
  obtain ⟨l, rfl, hl⟩ := hall
  rw [List.length_map] at hR
  subst hR
  refine ⟨a, cap, l, rfl, hlen, hl, fun h0 => ?_⟩
  obtain ⟨b, o, rfl, hc⟩ := hcell h0
  rw [hsz] at hc
  refine ⟨b, o, rfl, fun i hi j x hx => hc i (by simpa using hi) j x ?_⟩
  simpa using hx
end
end Go.Proofs.YtkpoecofblhggaaGreatDoor
