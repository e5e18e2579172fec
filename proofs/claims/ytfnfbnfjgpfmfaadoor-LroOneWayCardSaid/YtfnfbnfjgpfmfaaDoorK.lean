/-
  What is proved here: That the row's listed variable gives 'RulesAt'; how a law's proof ends.
-/
import Derived.Test.YtfnfbnfjgpfmfaaDoorCards
import Derived.Test.YtfnfbnfjgpfmfaaDoorTie
import Derived.Test.YtfnfbnfjgpfmfaaDoorA
import Derived.ProofKit
import Derived.OpenShut
import Derived.LaidMore
import Derived.Deep.DeepHandedRow
import Derived.Deep.DeepWitnessRowRef
import Derived.Lib.SmallJoins
namespace Go.Proofs.YtfnfbnfjgpfmfaaDoor
open Go.ChangeShapes Go.WideShapes Go.ChangeAt Go.RowKit

theorem own : ownKnob Tryd.prog.godebug = none := by kernel_rfl
theorem gRules : Tryd.prog.globalNamed "redress/lro.rules" = some 0 := by kernel_rfl
theorem gRulesType : (Tryd.prog.globals[0]?).map (·.type) = some 46 := by kernel_rfl
theorem cells46 : Tryd.prog.cellsOf 46 = 24 := by kernel_rfl
theorem cells42 : Tryd.prog.cellsOf 42 = 4 := by kernel_rfl
theorem cells40 : Tryd.prog.cellsOf 40 = 1 := by kernel_rfl
theorem cells4 : Tryd.prog.cellsOf 4 = 1 := by kernel_rfl
theorem cells3 : Tryd.prog.cellsOf 3 = 1 := by kernel_rfl

/-- one rule of the table, as cells -/
theorem rule_open {H : Type} {enc : TypeId × Value → H} {w : World} {m : Nat} {cs : List Value} {a b c : Bool} {d : DataW H} {q : List MemPlace}
    (h : DataW.trod enc Tryd.prog w 0 (fun _ => true) false m 42 cs = some (.agg [.lit (.bool a), .lit (.bool b), .lit (.bool c), d], q)) :
    ∃ v n q', cs = [.bool a, .bool b, .bool c, v] ∧ DataW.trod enc Tryd.prog w 0 (fun _ => true) false n 40 [v] = some (d, q') := by
  obtain ⟨xs, n, _, hx, hl, hxl, hf⟩ := DataW.trod_struct Tryd.underlying42 h
  rw [cells42] at hl
  match cs, hl with
  | [v0, v1, v2, v3], _ =>
    have f0 : DataW.trod enc Tryd.prog w 0 (fun _ => true) false n 4 [v0] = xs[0]? := by have := hf 0 _ rfl; simpa [cells4] using this
    have f1 : DataW.trod enc Tryd.prog w 0 (fun _ => true) false n 4 [v1] = xs[1]? := by have := hf 1 _ rfl; simpa [cells4] using this
    have f2 : DataW.trod enc Tryd.prog w 0 (fun _ => true) false n 4 [v2] = xs[2]? := by have := hf 2 _ rfl; simpa [cells4] using this
    have f3 : DataW.trod enc Tryd.prog w 0 (fun _ => true) false n 40 [v3] = xs[3]? := by have := hf 3 _ rfl; simpa [cells40] using this
    match xs, hxl with
    | [x0, x1, x2, x3], _ =>
      simp only [Prod.mk.injEq, List.map_cons, List.map_nil, DataW.agg.injEq, List.cons.injEq] at hx
      obtain ⟨a', e0, e0', _⟩ := DataW.trod_bool Tryd.underlying4 (show DataW.trod enc Tryd.prog w 0 _ false n 4 [v0] = some x0 from f0)
      obtain ⟨b', e1, e1', _⟩ := DataW.trod_bool Tryd.underlying4 (show DataW.trod enc Tryd.prog w 0 _ false n 4 [v1] = some x1 from f1)
      obtain ⟨c', e2, e2', _⟩ := DataW.trod_bool Tryd.underlying4 (show DataW.trod enc Tryd.prog w 0 _ false n 4 [v2] = some x2 from f2)
      have r0 := hx.1.1
      have r1 := hx.1.2.1
      have r2 := hx.1.2.2.1
      have r3 := hx.1.2.2.2.1
      simp at e0 e1 e2
      subst e0 e1 e2
      simp at r0 r1 r2
      subst r0 r1 r2
      exact ⟨v3, n, x3.2, rfl, by rw [show DataW.trod enc Tryd.prog w 0 (fun _ => true) false n 40 [v3] = some x3 from f3, r3]⟩

theorem rule_nil {H : Type} {enc : TypeId × Value → H} {w : World} {n : Nat} {v : Value} {q : List MemPlace}
    (h : DataW.trod enc Tryd.prog w 0 (fun _ => true) false n 40 [v] = some (.nil, q)) : v = .slice none 0 0 := by
  rcases open_ints Tryd.underlying40 Tryd.underlying3 cells3 h with ⟨hcs, _⟩ | ⟨_, _, _, _, _, _, _, _, _, hx, _⟩
  · simpa using hcs
  · simp at hx
theorem lits_inj {H : Type} : ∀ {l r : List Int}, lits (H := H) .i64 l = l.map (fun n => DataW.lit (.int .i64 n)) → (lits (H := H) .i64 l = r.map (fun n => DataW.lit (.int .i64 n))) → l = r := by
  intro l
  induction l with
  | nil => intro r _ h; cases r <;> simp_all [lits]
  | cons x l ih =>
    intro r _ h
    cases r with
    | nil => simp [lits] at h
    | cons y r =>
      simp only [lits, List.map_cons, List.cons.injEq, DataW.lit.injEq, Lit.int.injEq, true_and] at h
      rw [h.1, ih rfl h.2]
theorem rule_ints {H : Type} {enc : TypeId × Value → H} {w : World} {n : Nat} {v : Value} {q : List MemPlace} {l : List Int} (hne : 0 < l.length)
    (h : DataW.trod enc Tryd.prog w 0 (fun _ => true) false n 40 [v] = some (.slice (l.map (fun n => DataW.lit (.int .i64 n))) [], q)) :
    ∃ b o, v = .slice (some ⟨b, o, none⟩) l.length l.length ∧ ∀ i, i < l.length → w.cell? ⟨b, o + i, none⟩ = some (.int .i64 (l.getD i 0)) := by
  rcases open_ints Tryd.underlying40 Tryd.underlying3 cells3 h with ⟨_, hx⟩ | ⟨a, len, cap, zs, hcs, _, hl, _, hz, hx, hc, _⟩
  · simp at hx
  · simp only [if_true] at hz
    simp only [Prod.mk.injEq, DataW.slice.injEq] at hx
    have h1 := lits_inj rfl hx.1.1.symm
    have h2 : zs.drop len = [] := lits_inj (r := []) rfl (by simpa using hx.1.2.symm)
    have hll : cap ≤ len := by
      have := congrArg List.length h2
      simp at this; omega
    obtain rfl : cap = len := by omega
    have h3 : zs = l := by rw [← h1, ← hz, List.take_length]
    subst h3
    obtain ⟨b, off, rfl, hc'⟩ := ints_at hc hne
    refine ⟨b, off, ?_, hc'⟩
    rw [hz]; simpa using hcs

/-- WHAT THE ROW's LIST GIVES: the rules in memory. -/
theorem rules_of {W : World} (h : laidMetH Tryd.prog [("redress/lro.rules", Rows.laid_redress_lro_rules)] W) : ∃ b1 o1 b2 o2, RulesAt W b1 o1 b2 o2 := by
  rw [MakeChecks.laidMetH_plain _ _ _ (by kernel_rfl)] at h
  obtain ⟨ps, ⟨g0, t0, cs0, f0, p0, q0, hg0, ht0, hv0, hd0, _, _⟩, _, _⟩ := h
  obtain rfl := Option.some.inj (gRules.symm.trans hg0)
  obtain rfl := Option.some.inj (gRulesType.symm.trans ht0)
  obtain ⟨xs, m, _, hx, hl, hxl, hel⟩ := DataW.trod_array Tryd.underlying46 hd0
  rw [cells46] at hl
  have hcell : ∀ i, W.cell? ⟨0, i, none⟩ = cs0[i]? := fun i => World.var?_cell hg0 hv0 i
  obtain ⟨l0⟩ := cs0
  simp only [Prod.mk.injEq, Rows.laid_redress_lro_rules, DataW.agg.injEq] at hx
  match xs, hxl with
  | [x0, x1, x2, x3, x4, x5], _ =>
    simp only [List.map_cons, List.map_nil, List.cons.injEq] at hx
    obtain ⟨⟨r0, r1, r2, r3, r4, r5, _⟩, _⟩ := hx
    have e0 := hel 0 (by decide)
    have e1 := hel 1 (by decide)
    have e2 := hel 2 (by decide)
    have e3 := hel 3 (by decide)
    have e4 := hel 4 (by decide)
    have e5 := hel 5 (by decide)
    rw [cells42] at e0 e1 e2 e3 e4 e5
    obtain ⟨y0, z0⟩ := x0
    obtain ⟨y1, z1⟩ := x1
    obtain ⟨y2, z2⟩ := x2
    obtain ⟨y3, z3⟩ := x3
    obtain ⟨y4, z4⟩ := x4
    obtain ⟨y5, z5⟩ := x5
    dsimp only at r0 r1 r2 r3 r4 r5
    subst r0 r1 r2 r3 r4 r5
    obtain ⟨v0, n0, k0, w0, s0⟩ := rule_open e0
    obtain ⟨v1, n1, k1, w1, s1⟩ := rule_open e1
    obtain ⟨v2, n2, k2, w2, s2⟩ := rule_open e2
    obtain ⟨v3, n3, k3, w3, s3⟩ := rule_open e3
    obtain ⟨v4, n4, k4, w4, s4⟩ := rule_open e4
    obtain ⟨v5, n5, k5, w5, s5⟩ := rule_open e5
    obtain rfl := rule_nil s0
    obtain rfl := rule_nil s3
    obtain rfl := rule_nil s4
    obtain rfl := rule_nil s5
    obtain ⟨b1, o1, rfl, hc1⟩ := rule_ints (l := [2, 3, 4]) (by decide) s1
    obtain ⟨b2, o2, rfl, hc2⟩ := rule_ints (l := [2, 3, 4, 5]) (by decide) s2
    have hb1 := World.block_lt_of_cell? W _ (hc1 0 (by decide))
    have hb2 := World.block_lt_of_cell? W _ (hc2 0 (by decide))
    refine ⟨b1, o1, b2, o2, ?_⟩
    clear e0 e1 e2 e3 e4 e5 s0 s1 s2 s3 s4 s5 hel hd0
    match l0, hl with
    | [a0, a1, a2, a3, a4, a5, a6, a7, a8, a9, a10, a11, a12, a13, a14, a15, a16, a17, a18, a19, a20, a21, a22, a23], _ =>
      simp only [Nat.zero_mul, Nat.reduceMul, List.drop_zero, List.drop_succ_cons, List.take_succ_cons, List.take_zero, List.cons.injEq, and_true] at w0 w1 w2 w3 w4 w5
      obtain ⟨rfl, rfl, rfl, rfl⟩ := w0
      obtain ⟨rfl, rfl, rfl, rfl⟩ := w1
      obtain ⟨rfl, rfl, rfl, rfl⟩ := w2
      obtain ⟨rfl, rfl, rfl, rfl⟩ := w3
      obtain ⟨rfl, rfl, rfl, rfl⟩ := w4
      obtain ⟨rfl, rfl, rfl, rfl⟩ := w5
      have hsz := World.block_lt_of_cell? W ⟨0, 0, none⟩ (hcell 0)
      exact ⟨hsz, hb1, hb2, hcell 0, hcell 1, hcell 2, hcell 3, hcell 4, hcell 5, hcell 6, hcell 7, hcell 8, hcell 9, hcell 10, hcell 11, hcell 12, hcell 13, hcell 14, hcell 15, hcell 16, hcell 17, hcell 18, hcell 19, hcell 20, hcell 21, hcell 22, hcell 23, hc1 0 (by decide), hc1 1 (by decide), hc1 2 (by decide), hc2 0 (by decide), hc2 1 (by decide), hc2 2 (by decide), hc2 3 (by decide)⟩
/-- a list of readings, read again in a world that has not turned below the old heap's end -/
theorem readings_kept {H : Type} {enc : TypeId × Value → H} {P : Program} (hl : laidOutB P = true) {W W' : World} (hb : Below W.heap.size W W') :
    ∀ (ts : List TypeId) (vs : List Value) (ds : List (DataW H)) (ps : List MemPlace), (∀ t ∈ ts, P.readableRec t = true ∧ t < P.types.size) → (∀ p ∈ ps, p.block < W.heap.size) →
      DataW.TrodAll enc P W 0 (fun _ => true) true ts vs ds ps → DataW.TrodAll enc P W' 0 (fun b => decide (b < W.heap.size)) true ts vs ds ps
  | [], _, _, _, _, _, h => by
    obtain ⟨rfl, rfl, rfl⟩ := trodAll_nil h
    exact trodAll_mk0
  | t :: ts, _, _, _, ht, hp, h => by
    obtain ⟨v, vs, d, ds, p, q, rfl, rfl, rfl, h0, h1⟩ := trodAll_cons h
    obtain ⟨hr, hs⟩ := ht t (List.mem_cons_self ..)
    refine trodAll_cons_mk (Below.trod hl hr hs h0 hb (fun x hx => hp x (List.mem_append.2 (.inl hx)))) ?_
    exact readings_kept hl hb ts vs ds q (fun u hu => ht u (List.mem_cons_of_mem _ hu)) (fun x hx => hp x (List.mem_append.2 (.inr hx))) h1

/-- THE END OF A LAW's PROOF: it returned true and left what was there alone. -/
theorem law_end {H : Type} {enc : TypeId × Value → H} {P : Program} {f : Func} {s : ChangeSpec} {W W' : World} {args : Array Value} {ds : List (DataW H)} {ps : List MemPlace} {tb : TypeId}
    (hl : laidOutB P = true) (hts : ∀ t ∈ f.params.toList, P.readableRec t = true ∧ t < P.types.size) (hrt : f.resultTypes = #[tb]) (htb : P.underlying tb = some .bool) (hvars : s.vars = [])
    (hW : DataW.Whole enc P f.params.toList s.vars false W args.toList ds [] ps) (hA : DataW.TrodAll enc P W 0 (fun _ => true) true f.params.toList args.toList ds ps)
    (hfn : s.fn H ds = { results := [.lit (.bool true)], args := ds }) (hb : Below W.heap.size W W') : s.post enc P f false true false false W args (.bool true) W' := by
  refine ⟨ds, [], ps, [], ps, [], hW, ?_, ?_, ?_, hb.frame _, fun h => by cases h⟩
  · rw [List.append_nil, hfn, hrt]
    exact trodAll_mk1 (shut_bool htb true)
  · rw [List.append_nil, hfn]
    exact readings_kept hl hb _ _ _ _ hts (fun p hp => hW.lt p hp) hA
  · rw [List.append_nil, hfn, hvars]
    rfl
end Go.Proofs.YtfnfbnfjgpfmfaaDoor
