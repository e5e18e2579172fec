/- Lemmas for ModelStays' proof. -/
import Derived.Test.YtgoejmheihgpfaaGreatDoorProg
import Derived.Test.YtgoejmheihgpfaaGreatDoorRows
import Derived.WalkKit
import Derived.ProofKit
import Derived.OpenShut
import Derived.Test.YtgoejmheihgpfaaGreatDoorRx
import Derived.Deep.Slices
import Derived.Deep.Fields
namespace Go.Proofs.YtgoejmheihgpfaaGreatDoor
set_option maxRecDepth 100000
set_option maxHeartbeats 16000000
section
open Go.ChangeShapes Go.WideShapes Go.ChangeAt Go.RowKit Go.ChangeShapes
theorem own : ownKnob Tryz.prog.godebug = none := by kernel_rfl
theorem readings_kept {H : Type} {enc : TypeId × Value → H} {P : Program} (hl : laidOutB P = true) {W W' : World} (hb : Below W.heap.size W W') :
  ∀ (ts : List TypeId) (vs : List Value) (ds : List (DataW H)) (ps : List MemPlace), (∀ t ∈ ts, P.readableRec t = true ∧ t < P.types.size) → (∀ p ∈ ps, p.block < W.heap.size) →
   DataW.TrodAll enc P W 0 (fun _ => true) true ts vs ds ps → DataW.TrodAll enc P W' 0 (fun b => decide (b < W.heap.size)) true ts vs ds ps
 | [], _, _, _, _, _, h => by
  obtain ⟨rfl, rfl, rfl⟩ := trodAll_nil h
  exact trodAll_mk0
 | t :: ts, _, _, _, ht, hp, h => by
  obtain ⟨v, vs, d, ds, p, q, rfl, rfl, rfl, h0, h1⟩ := trodAll_cons h
  obtain ⟨hr, hs⟩ := ht t (List.mem_cons_self ..)
  refine trodAll_cons_mk (Below.trod hl hr hs h0 hb (fun x hx => hp x (List.mem_append.2 (.inl hx)))) ?_
  exact readings_kept hl hb ts vs ds q (fun u hu => ht u (List.mem_cons_of_mem _ hu)) (fun x hx => hp x (List.mem_append.2 (.inr hx))) h1
theorem law_end {H : Type} {enc : TypeId × Value → H} {P : Program} {f : Func} {s : ChangeSpec} {W W' : World} {args : Array Value} {ds : List (DataW H)} {ps : List MemPlace} {tb : TypeId}
  (hl : laidOutB P = true) (hts : ∀ t ∈ f.params.toList, P.readableRec t = true ∧ t < P.types.size) (hrt : f.resultTypes = #[tb]) (htb : P.underlying tb = some .bool) (hvars : s.vars = [])
  (hW : DataW.Whole enc P f.params.toList s.vars false W args.toList ds [] ps) (hA : DataW.TrodAll enc P W 0 (fun _ => true) true f.params.toList args.toList ds ps)
  (hfn : s.fn H ds = { results := [.lit (.bool true)], args := ds }) (hb : Below W.heap.size W W') : s.post enc P f false true false false W args (.bool true) W' := by
 refine ⟨ds, [], ps, [], ps, [], hW, ?_, ?_, ?_, hb.frame _, fun h => by cases h⟩
 ·rw [List.append_nil, hfn, hrt]
  exact trodAll_mk1 (shut_bool htb true)
 ·rw [List.append_nil, hfn]
  exact readings_kept hl hb _ _ _ _ hts (fun p hp => hW.lt p hp) hA
 ·rw [List.append_nil, hfn, hvars]
  rfl
end
section
open Go.ChangeShapes Go.WideShapes Go.ChangeAt Go.RowKit Go.Deep
theorem string_one {H : Type} {enc : TypeId × Value → H} {P : Program} {w : World} {base : Nat} {spare : Nat → Bool} {held : Bool} {n : Nat} {t : TypeId} {x : Value} {y : DataW H × List MemPlace} (ht : P.underlying t = some .string)
  (h : DataW.trod enc P w base spare held n t [x] = some y) : ∃ s : Tx, x = .string (bT s) ∧ s.length ≤ maxLen := by
 obtain ⟨s, e, _, hs⟩ := DataW.trod_string ht h
 simp only [List.cons.injEq, and_true] at e
 refine ⟨s.data.toList, ?_, by simpa using hs⟩
 rw [e]
 rfl
theorem int_one {H : Type} {enc : TypeId × Value → H} {P : Program} {w : World} {base : Nat} {spare : Nat → Bool} {held : Bool} {n : Nat} {t : TypeId} {k : IntKind} {x : Value} {y : DataW H × List MemPlace} (ht : P.underlying t = some (.int k))
  (h : DataW.trod enc P w base spare held n t [x] = some y) : ∃ z, x = .int k z ∧ (Lit.int k z).wf = true := by
 obtain ⟨z, e, _, hs⟩ := DataW.trod_int ht h
 simp only [List.cons.injEq, and_true] at e
 exact ⟨z, e, hs⟩
theorem bool_one {H : Type} {enc : TypeId × Value → H} {P : Program} {w : World} {base : Nat} {spare : Nat → Bool} {held : Bool} {n : Nat} {t : TypeId} {x : Value} {y : DataW H × List MemPlace} (ht : P.underlying t = some .bool)
  (h : DataW.trod enc P w base spare held n t [x] = some y) : ∃ z, x = .bool z := by
 obtain ⟨z, e, _⟩ := DataW.trod_bool ht h
 simp only [List.cons.injEq, and_true] at e
 exact ⟨z, e⟩
def RowT {H : Type} (enc : TypeId × Value → H) (P : Program) (w : World) (fs : Array Field) (q : List Value) : Prop :=
 q.length = fs.size ∧ ∀ (j : Nat) (f : Field) (x : Value), fs[j]? = some f → q[j]? = some x → ∃ n y, DataW.trod enc P w 0 (fun _ => true) true n f.type [x] = some y
theorem RowT.at {H : Type} {enc : TypeId × Value → H} {P : Program} {w : World} {fs : Array Field} {q : List Value} (h : RowT enc P w fs q) {l : List TypeId} (hty : (fs.map (·.type)).toList = l) (j : Nat) (t : TypeId) (x : Value) (hj : l[j]? = some t) (hx : q[j]? = some x) :
  ∃ n y, DataW.trod enc P w 0 (fun _ => true) true n t [x] = some y := by
 rw [← hty] at hj
 simp only [Array.getElem?_toList, Array.getElem?_map] at hj
 cases hfj : fs[j]? with
 | none => rw [hfj] at hj; cases hj
 | some f =>
  rw [hfj] at hj; obtain ⟨n, y, hy⟩ := h.2 j f x hfj hx; have e : f.type = t := by simpa using hj
  rw [e] at hy; exact ⟨n, y, hy⟩
theorem row_of {H : Type} {enc : TypeId × Value → H} {P : Program} {w : World} {e : TypeId} {fs : Array Field} (he : P.underlying e = some (.struct fs)) (hone : oneCellFields P fs = true) (_hC : P.cellsOf e = fs.size) {n : Nat} {cs : List Value} {y : DataW H × List MemPlace} (hl : cs.length = fs.size)
  (h : DataW.trod enc P w 0 (fun _ => true) true n e cs = some y) : RowT enc P w fs cs := by
 obtain ⟨d, ps⟩ := y
 refine ⟨hl, fun j f x hj hx => ?_⟩
 obtain ⟨xs, n', _, _, _, hlen, hg⟩ := DataW.trod_struct he h
 have h4 := hg j f hj
 obtain ⟨ho, hk⟩ := hone_of hone j f hj
 rw [ho, hk] at h4
 have hj2 : j < fs.size := (zq hj).1
 have h5 : (cs.drop j).take 1 = [x] := by
  obtain ⟨hl1, hl2⟩ := List.getElem?_eq_some_iff.1 hx; rw [List.drop_eq_getElem_cons hl1, hl2]; rfl
 rw [h5, List.getElem?_eq_getElem (by omega)] at h4
 exact ⟨n', _, h4⟩
theorem slc_of {H : Type} {enc : TypeId × Value → H} {P : Program} {w : World} {t e : TypeId} {fs : Array Field} {n0 : Nat} {v : Value} {y : DataW H × List MemPlace} {α : Type} {E : World → α → List Value → Prop}
  (ht : P.underlying t = some (.slice e)) (he : P.underlying e = some (.struct fs)) (hone : oneCellFields P fs = true) (hC : P.cellsOf e = fs.size) (hpos : 0 < fs.size)
  (h : DataW.trod enc P w 0 (fun _ => true) true n0 t [v] = some y) (hrow : ∀ q, RowT enc P w fs q → ∃ a, E w a q) :
  ∃ (L : List α) (xs : List Value), Slc w fs.size v L.length xs ∧ Rows E w L xs := by
 obtain ⟨d, ps⟩ := y
 rcases open_slice ht h with ⟨hcs, _⟩ | ⟨a, len, cap, m, n, D, Pl, hcs, _, hl, hm, hmm, hxx, hi⟩
 ·simp only [List.cons.injEq, and_true] at hcs
  rw [hcs]; exact ⟨[], [], Slc.nil _ _, rfl⟩
 ·simp only [List.cons.injEq, and_true] at hcs
  rw [hcs]; simp only [if_true] at hmm; unfold maxLen at hm
  have hall : ∀ j, j ≤ len → ∃ (L : List α) (xs : List Value), L.length = j ∧ xs.length = j * fs.size ∧ Rows E w L xs ∧ ∀ i u, xs[i]? = some u → w.cell? (a.add i) = some u := by
   intro j; induction j with
   | zero => exact fun _ => ⟨[], [], rfl, by simp, rfl, fun i u h => by simp at h⟩
   | succ j ih =>
    intro hj; obtain ⟨L, xs, h1, h2, h3, h4⟩ := ih (by omega); obtain ⟨cs', c1, c2⟩ := hi j (by omega); rw [hC] at c1; obtain ⟨_, c3, c4⟩ := World.cells?_some c1; obtain ⟨b, hb⟩ := hrow cs' (row_of he hone hC c3 c2); refine ⟨L ++ [b], xs ++ cs', by simp [h1], by rw [List.length_append, h2, c3, Nat.succ_mul], h3.add hb, fun i u hu => ?_⟩; by_cases hix : i < xs.length
    ·rw [List.getElem?_append_left hix] at hu
     exact h4 i u hu
    ·rw [List.getElem?_append_right (by omega)] at hu
     have hlt := (List.getElem?_eq_some_iff.1 hu).1; have h5 := c4 (i - xs.length) (by omega); rw [hu] at h5; rw [← h5]; congr 1; have e1 : i = j * fs.size + (i - xs.length) := by rw [h2] at hix ⊢; omega
     conv => lhs; rw [e1]
     simp only [Addr.add]; cases a with
     | mk b o s =>
      by_cases z1 : j * fs.size = 0
      ·by_cases z2 : i - xs.length = 0
       ·simp [z1, z2]
       ·simp [z1, z2]
      ·by_cases z2 : i - xs.length = 0
       ·simp [z1, z2]
       ·simp [z1, z2, Nat.add_assoc]
  obtain ⟨L, xs, h1, h2, h3, h4⟩ := hall len zn; subst h1; refine ⟨L, xs, ⟨⟨some a, cap, rfl, by omega, by omega, (fun e => by cases e), fun h0 => ?_⟩, h2⟩, h3⟩; have hx0 : 0 < xs.length := by rw [h2]; exact Nat.mul_pos h0 hpos
  obtain ⟨b, o, s⟩ := a
  have hs : s = none := by
   have := h4 0 _ (List.getElem?_eq_getElem hx0); simpa [Addr.add] using World.cell?_spot this
  subst hs
  have hc : ∀ i u, xs[i]? = some u → w.cell? ⟨b, o + i, none⟩ = some u := fun i u hu => by
   have := h4 i u hu; rwa [Go.WideShapes.add_plain] at this
  exact ⟨b, o, rfl, World.block_lt_of_cell? w _ (hc 0 _ (List.getElem?_eq_getElem hx0)), hc⟩
theorem row2_of {q : List Value} (h : q.length = 2) : ∃ v0 v1, q = [v0, v1] := by
 match q, h with
 | [v0, v1], _ => exact ⟨v0, v1, rfl⟩
theorem row3_of {q : List Value} (h : q.length = 3) : ∃ v0 v1 v2, q = [v0, v1, v2] := by
 match q, h with
 | [v0, v1, v2], _ => exact ⟨v0, v1, v2, rfl⟩
theorem row4_of {q : List Value} (h : q.length = 4) : ∃ v0 v1 v2 v3, q = [v0, v1, v2, v3] := by
 match q, h with
 | [v0, v1, v2, v3], _ => exact ⟨v0, v1, v2, v3, rfl⟩
theorem row5_of {q : List Value} (h : q.length = 5) : ∃ v0 v1 v2 v3 v4, q = [v0, v1, v2, v3, v4] := by
 match q, h with
 | [v0, v1, v2, v3, v4], _ => exact ⟨v0, v1, v2, v3, v4, rfl⟩
theorem row6_of {q : List Value} (h : q.length = 6) : ∃ v0 v1 v2 v3 v4 v5, q = [v0, v1, v2, v3, v4, v5] := by
 match q, h with
 | [v0, v1, v2, v3, v4, v5], _ => exact ⟨v0, v1, v2, v3, v4, v5, rfl⟩
theorem u8_nat {z : Int} (h : (Lit.int .u8 z).wf = true) : ((z.toNat : Nat) : Int) = z := by
 have := bounds_u8 h
 omega
def srtE (_ : World) (t : Srt) (c : List Value) : Prop := c = [.int .u8 (t.kind : Nat), .string (bT t.name)]
def mthE (_ : World) (m : Mth) (c : List Value) : Prop := c = [.string (bT m.name), .string (bT m.arg), .int .u8 (m.result : Nat), .string (bT m.effect), .string (bT m.undo)]
def stpE (_ : World) (m : Stp) (c : List Value) : Prop := c = [.string (bT m.service), .string (bT m.method), .int .i64 m.node]
def entE (_ : World) (e : Ent) (c : List Value) : Prop := c = (entC e).toList
theorem Sort_flds {fs : Array Field} (h : Tryz.prog.underlying 79 = some (.struct fs)) : oneCellFields Tryz.prog fs = true ∧ fs.size = 2 ∧ (fs.map (·.type)).toList = [5, 9] := by
 rw [Tryz.underlying79] at h
 cases h
 exact ⟨by kernel_rfl, rfl, by simp⟩
theorem Sort_cells : Tryz.prog.cellsOf 79 = 2 := by kernel_rfl
theorem Sort_row {H : Type} {enc : TypeId × Value → H} {w : World} {fs : Array Field} (hfs : Tryz.prog.underlying 79 = some (.struct fs)) {q : List Value} (h : RowT enc Tryz.prog w fs q) : ∃ a : Srt, srtE w a q := by
 obtain ⟨hone, hsz, hty⟩ := Sort_flds hfs
 obtain ⟨v0, v1, rfl⟩ := row2_of (h.1.trans hsz)
 obtain ⟨n0, y0, t0⟩ := h.at hty 0 _ _ rfl rfl
 obtain ⟨z0, rfl, w0⟩ := int_one Tryz.underlying5 t0
 obtain ⟨n1, y1, t1⟩ := h.at hty 1 _ _ rfl rfl
 obtain ⟨s1, rfl, m1⟩ := string_one Tryz.underlying9 t1
 exact ⟨⟨z0.toNat, s1⟩, by unfold srtE; rw [u8_nat w0]⟩
theorem Sort_slc' {H : Type} {enc : TypeId × Value → H} {w : World} {n : Nat} {v : Value} {y : DataW H × List MemPlace} (h : DataW.trod enc Tryz.prog w 0 (fun _ => true) true n 75 [v] = some y) : ∃ (L : List Srt) (xs : List Value), Slc w 2 v L.length xs ∧ Rows srtE w L xs := by
 obtain ⟨fs, hfs⟩ : ∃ fs, Tryz.prog.underlying 79 = some (.struct fs) := ⟨_, Tryz.underlying79⟩
 obtain ⟨hone, hsz, hty⟩ := Sort_flds hfs
 obtain ⟨L, xs, h1, h2⟩ := slc_of (E := srtE) Tryz.underlying75 hfs hone (by rw [hsz]; exact Sort_cells) (by omega) h (fun q hq => Sort_row hfs hq)
 rw [hsz] at h1
 exact ⟨L, xs, h1, h2⟩
theorem scells_rows {w : World} : ∀ {L : List Srt} {xs : List Value}, Rows srtE w L xs → xs = scells L
 | [], _, e => e
 | _ :: _, _, ⟨c, ys, e, h1, h2⟩ => by
  have := scells_rows h2
  subst e this
  obtain rfl := h1
  rfl
theorem Sort_slc {H : Type} {enc : TypeId × Value → H} {w : World} {n : Nat} {v : Value} {y : DataW H × List MemPlace} (h : DataW.trod enc Tryz.prog w 0 (fun _ => true) true n 75 [v] = some y) : ∃ (L : List Srt) (xs : List Value), Slc w 2 v L.length xs ∧ xs = scells L := by
 obtain ⟨L, xs, h1, h2⟩ := Sort_slc' h
 exact ⟨L, xs, h1, scells_rows h2⟩
theorem Field_flds {fs : Array Field} (h : Tryz.prog.underlying 77 = some (.struct fs)) : oneCellFields Tryz.prog fs = true ∧ fs.size = 2 ∧ (fs.map (·.type)).toList = [9, 75] := by
 rw [Tryz.underlying77] at h
 cases h
 exact ⟨by kernel_rfl, rfl, by simp⟩
theorem Field_cells : Tryz.prog.cellsOf 77 = 2 := by kernel_rfl
theorem Field_row {H : Type} {enc : TypeId × Value → H} {w : World} {fs : Array Field} (hfs : Tryz.prog.underlying 77 = some (.struct fs)) {q : List Value} (h : RowT enc Tryz.prog w fs q) : ∃ a : Fld, fldR w a q := by
 obtain ⟨hone, hsz, hty⟩ := Field_flds hfs
 obtain ⟨v0, v1, rfl⟩ := row2_of (h.1.trans hsz)
 obtain ⟨n0, y0, t0⟩ := h.at hty 0 _ _ rfl rfl
 obtain ⟨s0, rfl, m0⟩ := string_one Tryz.underlying9 t0
 obtain ⟨n1, y1, t1⟩ := h.at hty 1 _ _ rfl rfl
 obtain ⟨L1, xs1, hS1, hR1⟩ := Sort_slc t1
 subst hR1
 exact ⟨⟨s0, L1⟩, v1, rfl, hS1⟩
theorem Field_slc' {H : Type} {enc : TypeId × Value → H} {w : World} {n : Nat} {v : Value} {y : DataW H × List MemPlace} (h : DataW.trod enc Tryz.prog w 0 (fun _ => true) true n 72 [v] = some y) : ∃ (L : List Fld) (xs : List Value), Slc w 2 v L.length xs ∧ Rows fldR w L xs := by
 obtain ⟨fs, hfs⟩ : ∃ fs, Tryz.prog.underlying 77 = some (.struct fs) := ⟨_, Tryz.underlying77⟩
 obtain ⟨hone, hsz, hty⟩ := Field_flds hfs
 obtain ⟨L, xs, h1, h2⟩ := slc_of (E := fldR) Tryz.underlying72 hfs hone (by rw [hsz]; exact Field_cells) (by omega) h (fun q hq => Field_row hfs hq)
 rw [hsz] at h1
 exact ⟨L, xs, h1, h2⟩
theorem Field_slc {H : Type} {enc : TypeId × Value → H} {w : World} {n : Nat} {v : Value} {y : DataW H × List MemPlace} (h : DataW.trod enc Tryz.prog w 0 (fun _ => true) true n 72 [v] = some y) : ∃ (L : List Fld) (xs : List Value), Slc w 2 v L.length xs ∧ Rows fldR w L xs := Field_slc' h
theorem Record_flds {fs : Array Field} (h : Tryz.prog.underlying 74 = some (.struct fs)) : oneCellFields Tryz.prog fs = true ∧ fs.size = 3 ∧ (fs.map (·.type)).toList = [9, 4, 72] := by
 rw [Tryz.underlying74] at h
 cases h
 exact ⟨by kernel_rfl, rfl, by simp⟩
theorem Record_cells : Tryz.prog.cellsOf 74 = 3 := by kernel_rfl
theorem Record_row {H : Type} {enc : TypeId × Value → H} {w : World} {fs : Array Field} (hfs : Tryz.prog.underlying 74 = some (.struct fs)) {q : List Value} (h : RowT enc Tryz.prog w fs q) : ∃ a : Rec, recR w a q := by
 obtain ⟨hone, hsz, hty⟩ := Record_flds hfs
 obtain ⟨v0, v1, v2, rfl⟩ := row3_of (h.1.trans hsz)
 obtain ⟨n0, y0, t0⟩ := h.at hty 0 _ _ rfl rfl
 obtain ⟨s0, rfl, m0⟩ := string_one Tryz.underlying9 t0
 obtain ⟨n1, y1, t1⟩ := h.at hty 1 _ _ rfl rfl
 obtain ⟨b1, rfl⟩ := bool_one Tryz.underlying4 t1
 obtain ⟨n2, y2, t2⟩ := h.at hty 2 _ _ rfl rfl
 obtain ⟨L2, xs2, hS2, hR2⟩ := Field_slc t2
 exact ⟨⟨s0, b1, L2⟩, v2, xs2, rfl, hS2, hR2⟩
theorem Record_slc' {H : Type} {enc : TypeId × Value → H} {w : World} {n : Nat} {v : Value} {y : DataW H × List MemPlace} (h : DataW.trod enc Tryz.prog w 0 (fun _ => true) true n 22 [v] = some y) : ∃ (L : List Rec) (xs : List Value), Slc w 3 v L.length xs ∧ Rows recR w L xs := by
 obtain ⟨fs, hfs⟩ : ∃ fs, Tryz.prog.underlying 74 = some (.struct fs) := ⟨_, Tryz.underlying74⟩
 obtain ⟨hone, hsz, hty⟩ := Record_flds hfs
 obtain ⟨L, xs, h1, h2⟩ := slc_of (E := recR) Tryz.underlying22 hfs hone (by rw [hsz]; exact Record_cells) (by omega) h (fun q hq => Record_row hfs hq)
 rw [hsz] at h1
 exact ⟨L, xs, h1, h2⟩
theorem Record_slc {H : Type} {enc : TypeId × Value → H} {w : World} {n : Nat} {v : Value} {y : DataW H × List MemPlace} (h : DataW.trod enc Tryz.prog w 0 (fun _ => true) true n 22 [v] = some y) : ∃ (L : List Rec) (xs : List Value), Slc w 3 v L.length xs ∧ Rows recR w L xs := Record_slc' h
theorem Method_flds {fs : Array Field} (h : Tryz.prog.underlying 92 = some (.struct fs)) : oneCellFields Tryz.prog fs = true ∧ fs.size = 5 ∧ (fs.map (·.type)).toList = [9, 9, 5, 9, 9] := by
 rw [Tryz.underlying92] at h
 cases h
 exact ⟨by kernel_rfl, rfl, by simp⟩
theorem Method_cells : Tryz.prog.cellsOf 92 = 5 := by kernel_rfl
theorem Method_row {H : Type} {enc : TypeId × Value → H} {w : World} {fs : Array Field} (hfs : Tryz.prog.underlying 92 = some (.struct fs)) {q : List Value} (h : RowT enc Tryz.prog w fs q) : ∃ a : Mth, mthE w a q := by
 obtain ⟨hone, hsz, hty⟩ := Method_flds hfs
 obtain ⟨v0, v1, v2, v3, v4, rfl⟩ := row5_of (h.1.trans hsz)
 obtain ⟨n0, y0, t0⟩ := h.at hty 0 _ _ rfl rfl
 obtain ⟨s0, rfl, m0⟩ := string_one Tryz.underlying9 t0
 obtain ⟨n1, y1, t1⟩ := h.at hty 1 _ _ rfl rfl
 obtain ⟨s1, rfl, m1⟩ := string_one Tryz.underlying9 t1
 obtain ⟨n2, y2, t2⟩ := h.at hty 2 _ _ rfl rfl
 obtain ⟨z2, rfl, w2⟩ := int_one Tryz.underlying5 t2
 obtain ⟨n3, y3, t3⟩ := h.at hty 3 _ _ rfl rfl
 obtain ⟨s3, rfl, m3⟩ := string_one Tryz.underlying9 t3
 obtain ⟨n4, y4, t4⟩ := h.at hty 4 _ _ rfl rfl
 obtain ⟨s4, rfl, m4⟩ := string_one Tryz.underlying9 t4
 exact ⟨⟨s0, s1, z2.toNat, s3, s4⟩, by unfold mthE; rw [u8_nat w2]⟩
theorem Method_slc' {H : Type} {enc : TypeId × Value → H} {w : World} {n : Nat} {v : Value} {y : DataW H × List MemPlace} (h : DataW.trod enc Tryz.prog w 0 (fun _ => true) true n 110 [v] = some y) : ∃ (L : List Mth) (xs : List Value), Slc w 5 v L.length xs ∧ Rows mthE w L xs := by
 obtain ⟨fs, hfs⟩ : ∃ fs, Tryz.prog.underlying 92 = some (.struct fs) := ⟨_, Tryz.underlying92⟩
 obtain ⟨hone, hsz, hty⟩ := Method_flds hfs
 obtain ⟨L, xs, h1, h2⟩ := slc_of (E := mthE) Tryz.underlying110 hfs hone (by rw [hsz]; exact Method_cells) (by omega) h (fun q hq => Method_row hfs hq)
 rw [hsz] at h1
 exact ⟨L, xs, h1, h2⟩
theorem mcells_rows {w : World} : ∀ {L : List Mth} {xs : List Value}, Rows mthE w L xs → xs = mcells L
 | [], _, e => e
 | _ :: _, _, ⟨c, ys, e, h1, h2⟩ => by
  have := mcells_rows h2
  subst e this
  obtain rfl := h1
  rfl
theorem Method_slc {H : Type} {enc : TypeId × Value → H} {w : World} {n : Nat} {v : Value} {y : DataW H × List MemPlace} (h : DataW.trod enc Tryz.prog w 0 (fun _ => true) true n 110 [v] = some y) : ∃ (L : List Mth) (xs : List Value), Slc w 5 v L.length xs ∧ xs = mcells L := by
 obtain ⟨L, xs, h1, h2⟩ := Method_slc' h
 exact ⟨L, xs, h1, mcells_rows h2⟩
theorem Service_flds {fs : Array Field} (h : Tryz.prog.underlying 112 = some (.struct fs)) : oneCellFields Tryz.prog fs = true ∧ fs.size = 2 ∧ (fs.map (·.type)).toList = [9, 110] := by
 rw [Tryz.underlying112] at h
 cases h
 exact ⟨by kernel_rfl, rfl, by simp⟩
theorem Service_cells : Tryz.prog.cellsOf 112 = 2 := by kernel_rfl
theorem Service_row {H : Type} {enc : TypeId × Value → H} {w : World} {fs : Array Field} (hfs : Tryz.prog.underlying 112 = some (.struct fs)) {q : List Value} (h : RowT enc Tryz.prog w fs q) : ∃ a : Svc, svcR w a q := by
 obtain ⟨hone, hsz, hty⟩ := Service_flds hfs
 obtain ⟨v0, v1, rfl⟩ := row2_of (h.1.trans hsz)
 obtain ⟨n0, y0, t0⟩ := h.at hty 0 _ _ rfl rfl
 obtain ⟨s0, rfl, m0⟩ := string_one Tryz.underlying9 t0
 obtain ⟨n1, y1, t1⟩ := h.at hty 1 _ _ rfl rfl
 obtain ⟨L1, xs1, hS1, hR1⟩ := Method_slc t1
 subst hR1
 exact ⟨⟨s0, L1⟩, v1, rfl, hS1⟩
theorem Service_slc' {H : Type} {enc : TypeId × Value → H} {w : World} {n : Nat} {v : Value} {y : DataW H × List MemPlace} (h : DataW.trod enc Tryz.prog w 0 (fun _ => true) true n 23 [v] = some y) : ∃ (L : List Svc) (xs : List Value), Slc w 2 v L.length xs ∧ Rows svcR w L xs := by
 obtain ⟨fs, hfs⟩ : ∃ fs, Tryz.prog.underlying 112 = some (.struct fs) := ⟨_, Tryz.underlying112⟩
 obtain ⟨hone, hsz, hty⟩ := Service_flds hfs
 obtain ⟨L, xs, h1, h2⟩ := slc_of (E := svcR) Tryz.underlying23 hfs hone (by rw [hsz]; exact Service_cells) (by omega) h (fun q hq => Service_row hfs hq)
 rw [hsz] at h1
 exact ⟨L, xs, h1, h2⟩
theorem Service_slc {H : Type} {enc : TypeId × Value → H} {w : World} {n : Nat} {v : Value} {y : DataW H × List MemPlace} (h : DataW.trod enc Tryz.prog w 0 (fun _ => true) true n 23 [v] = some y) : ∃ (L : List Svc) (xs : List Value), Slc w 2 v L.length xs ∧ Rows svcR w L xs := Service_slc' h
theorem Step_flds {fs : Array Field} (h : Tryz.prog.underlying 108 = some (.struct fs)) : oneCellFields Tryz.prog fs = true ∧ fs.size = 3 ∧ (fs.map (·.type)).toList = [9, 9, 3] := by
 rw [Tryz.underlying108] at h
 cases h
 exact ⟨by kernel_rfl, rfl, by simp⟩
theorem Step_cells : Tryz.prog.cellsOf 108 = 3 := by kernel_rfl
theorem Step_row {H : Type} {enc : TypeId × Value → H} {w : World} {fs : Array Field} (hfs : Tryz.prog.underlying 108 = some (.struct fs)) {q : List Value} (h : RowT enc Tryz.prog w fs q) : ∃ a : Stp, stpE w a q := by
 obtain ⟨hone, hsz, hty⟩ := Step_flds hfs
 obtain ⟨v0, v1, v2, rfl⟩ := row3_of (h.1.trans hsz)
 obtain ⟨n0, y0, t0⟩ := h.at hty 0 _ _ rfl rfl
 obtain ⟨s0, rfl, m0⟩ := string_one Tryz.underlying9 t0
 obtain ⟨n1, y1, t1⟩ := h.at hty 1 _ _ rfl rfl
 obtain ⟨s1, rfl, m1⟩ := string_one Tryz.underlying9 t1
 obtain ⟨n2, y2, t2⟩ := h.at hty 2 _ _ rfl rfl
 obtain ⟨z2, rfl, w2⟩ := int_one Tryz.underlying3 t2
 exact ⟨⟨s0, s1, z2⟩, rfl⟩
theorem Step_slc' {H : Type} {enc : TypeId × Value → H} {w : World} {n : Nat} {v : Value} {y : DataW H × List MemPlace} (h : DataW.trod enc Tryz.prog w 0 (fun _ => true) true n 65 [v] = some y) : ∃ (L : List Stp) (xs : List Value), Slc w 3 v L.length xs ∧ Rows stpE w L xs := by
 obtain ⟨fs, hfs⟩ : ∃ fs, Tryz.prog.underlying 108 = some (.struct fs) := ⟨_, Tryz.underlying108⟩
 obtain ⟨hone, hsz, hty⟩ := Step_flds hfs
 obtain ⟨L, xs, h1, h2⟩ := slc_of (E := stpE) Tryz.underlying65 hfs hone (by rw [hsz]; exact Step_cells) (by omega) h (fun q hq => Step_row hfs hq)
 rw [hsz] at h1
 exact ⟨L, xs, h1, h2⟩
theorem pcells_rows {w : World} : ∀ {L : List Stp} {xs : List Value}, Rows stpE w L xs → xs = pcells L
 | [], _, e => e
 | _ :: _, _, ⟨c, ys, e, h1, h2⟩ => by
  have := pcells_rows h2
  subst e this
  obtain rfl := h1
  rfl
theorem Step_slc {H : Type} {enc : TypeId × Value → H} {w : World} {n : Nat} {v : Value} {y : DataW H × List MemPlace} (h : DataW.trod enc Tryz.prog w 0 (fun _ => true) true n 65 [v] = some y) : ∃ (L : List Stp) (xs : List Value), Slc w 3 v L.length xs ∧ xs = pcells L := by
 obtain ⟨L, xs, h1, h2⟩ := Step_slc' h
 exact ⟨L, xs, h1, pcells_rows h2⟩
theorem Saga_flds {fs : Array Field} (h : Tryz.prog.underlying 67 = some (.struct fs)) : oneCellFields Tryz.prog fs = true ∧ fs.size = 3 ∧ (fs.map (·.type)).toList = [9, 9, 65] := by
 rw [Tryz.underlying67] at h
 cases h
 exact ⟨by kernel_rfl, rfl, by simp⟩
theorem Saga_cells : Tryz.prog.cellsOf 67 = 3 := by kernel_rfl
theorem Saga_row {H : Type} {enc : TypeId × Value → H} {w : World} {fs : Array Field} (hfs : Tryz.prog.underlying 67 = some (.struct fs)) {q : List Value} (h : RowT enc Tryz.prog w fs q) : ∃ a : Sga, sgaR w a q := by
 obtain ⟨hone, hsz, hty⟩ := Saga_flds hfs
 obtain ⟨v0, v1, v2, rfl⟩ := row3_of (h.1.trans hsz)
 obtain ⟨n0, y0, t0⟩ := h.at hty 0 _ _ rfl rfl
 obtain ⟨s0, rfl, m0⟩ := string_one Tryz.underlying9 t0
 obtain ⟨n1, y1, t1⟩ := h.at hty 1 _ _ rfl rfl
 obtain ⟨s1, rfl, m1⟩ := string_one Tryz.underlying9 t1
 obtain ⟨n2, y2, t2⟩ := h.at hty 2 _ _ rfl rfl
 obtain ⟨L2, xs2, hS2, hR2⟩ := Step_slc t2
 subst hR2
 exact ⟨⟨s0, s1, L2⟩, v2, rfl, hS2⟩
theorem Saga_slc' {H : Type} {enc : TypeId × Value → H} {w : World} {n : Nat} {v : Value} {y : DataW H × List MemPlace} (h : DataW.trod enc Tryz.prog w 0 (fun _ => true) true n 24 [v] = some y) : ∃ (L : List Sga) (xs : List Value), Slc w 3 v L.length xs ∧ Rows sgaR w L xs := by
 obtain ⟨fs, hfs⟩ : ∃ fs, Tryz.prog.underlying 67 = some (.struct fs) := ⟨_, Tryz.underlying67⟩
 obtain ⟨hone, hsz, hty⟩ := Saga_flds hfs
 obtain ⟨L, xs, h1, h2⟩ := slc_of (E := sgaR) Tryz.underlying24 hfs hone (by rw [hsz]; exact Saga_cells) (by omega) h (fun q hq => Saga_row hfs hq)
 rw [hsz] at h1
 exact ⟨L, xs, h1, h2⟩
theorem Saga_slc {H : Type} {enc : TypeId × Value → H} {w : World} {n : Nat} {v : Value} {y : DataW H × List MemPlace} (h : DataW.trod enc Tryz.prog w 0 (fun _ => true) true n 24 [v] = some y) : ∃ (L : List Sga) (xs : List Value), Slc w 3 v L.length xs ∧ Rows sgaR w L xs := Saga_slc' h
theorem Entry_flds {fs : Array Field} (h : Tryz.prog.underlying 71 = some (.struct fs)) : oneCellFields Tryz.prog fs = true ∧ fs.size = 6 ∧ (fs.map (·.type)).toList = [61, 9, 9, 9, 9, 2] := by
 rw [Tryz.underlying71] at h
 cases h
 exact ⟨by kernel_rfl, rfl, by simp⟩
theorem Entry_cells : Tryz.prog.cellsOf 71 = 6 := by kernel_rfl
theorem Entry_row {H : Type} {enc : TypeId × Value → H} {w : World} {fs : Array Field} (hfs : Tryz.prog.underlying 71 = some (.struct fs)) {q : List Value} (h : RowT enc Tryz.prog w fs q) : ∃ a : Ent, entE w a q := by
 obtain ⟨hone, hsz, hty⟩ := Entry_flds hfs
 obtain ⟨v0, v1, v2, v3, v4, v5, rfl⟩ := row6_of (h.1.trans hsz)
 obtain ⟨n0, y0, t0⟩ := h.at hty 0 _ _ rfl rfl
 obtain ⟨z0, rfl, w0⟩ := int_one Tryz.underlying61 t0
 obtain ⟨n1, y1, t1⟩ := h.at hty 1 _ _ rfl rfl
 obtain ⟨s1, rfl, m1⟩ := string_one Tryz.underlying9 t1
 obtain ⟨n2, y2, t2⟩ := h.at hty 2 _ _ rfl rfl
 obtain ⟨s2, rfl, m2⟩ := string_one Tryz.underlying9 t2
 obtain ⟨n3, y3, t3⟩ := h.at hty 3 _ _ rfl rfl
 obtain ⟨s3, rfl, m3⟩ := string_one Tryz.underlying9 t3
 obtain ⟨n4, y4, t4⟩ := h.at hty 4 _ _ rfl rfl
 obtain ⟨s4, rfl, m4⟩ := string_one Tryz.underlying9 t4
 obtain ⟨n5, y5, t5⟩ := h.at hty 5 _ _ rfl rfl
 obtain ⟨z5, rfl, w5⟩ := int_one Tryz.underlying2 t5
 exact ⟨⟨z0, s1, s2, s3, s4, z5⟩, rfl⟩
theorem Entry_slc' {H : Type} {enc : TypeId × Value → H} {w : World} {n : Nat} {v : Value} {y : DataW H × List MemPlace} (h : DataW.trod enc Tryz.prog w 0 (fun _ => true) true n 27 [v] = some y) : ∃ (L : List Ent) (xs : List Value), Slc w 6 v L.length xs ∧ Rows entE w L xs := by
 obtain ⟨fs, hfs⟩ : ∃ fs, Tryz.prog.underlying 71 = some (.struct fs) := ⟨_, Tryz.underlying71⟩
 obtain ⟨hone, hsz, hty⟩ := Entry_flds hfs
 obtain ⟨L, xs, h1, h2⟩ := slc_of (E := entE) Tryz.underlying27 hfs hone (by rw [hsz]; exact Entry_cells) (by omega) h (fun q hq => Entry_row hfs hq)
 rw [hsz] at h1
 exact ⟨L, xs, h1, h2⟩
theorem ecells_rows {w : World} : ∀ {L : List Ent} {xs : List Value}, Rows entE w L xs → xs = ecells L
 | [], _, e => e
 | _ :: _, _, ⟨c, ys, e, h1, h2⟩ => by
  have := ecells_rows h2
  subst e this
  obtain rfl := h1
  rfl
theorem Entry_slc {H : Type} {enc : TypeId × Value → H} {w : World} {n : Nat} {v : Value} {y : DataW H × List MemPlace} (h : DataW.trod enc Tryz.prog w 0 (fun _ => true) true n 27 [v] = some y) : ∃ (L : List Ent) (xs : List Value), Slc w 6 v L.length xs ∧ xs = ecells L := by
 obtain ⟨L, xs, h1, h2⟩ := Entry_slc' h
 exact ⟨L, xs, h1, ecells_rows h2⟩
theorem schema_flds {fs : Array Field} (h : Tryz.prog.underlying 26 = some (.struct fs)) : oneCellFields Tryz.prog fs = true ∧ fs.size = 4 ∧ (fs.map (·.type)).toList = [9, 22, 23, 24] := by
 rw [Tryz.underlying26] at h
 cases h
 exact ⟨by kernel_rfl, rfl, by simp⟩
theorem schema_cells : Tryz.prog.cellsOf 26 = 4 := by kernel_rfl
theorem schema_open {H : Type} {enc : TypeId × Value → H} {w : World} {r : Reach} {b0 : Nat} {v : Value} {d : DataW H} {ps : List MemPlace}
  (hval : Value.okWide Tryz.prog w r b0 26 v) (h : DataW.Trod enc Tryz.prog w 0 (fun _ => true) true 26 v d ps) : ∃ (s : Sch) (ur us ug : Value), v = .agg #[.string (bT s.name), ur, us, ug] ∧ SchR w s ur us ug ∧ s.name.length ≤ maxLen := by
 obtain ⟨fs, hfs⟩ : ∃ fs, Tryz.prog.underlying 26 = some (.struct fs) := ⟨_, Tryz.underlying26⟩
 obtain ⟨hone, hsz, hty⟩ := schema_flds hfs
 obtain ⟨cs, rfl, hcs⟩ := okWide_struct hfs hval
 obtain ⟨fuel, hf⟩ := h
 obtain ⟨xs, n', _, _, hl0, hlen, hg⟩ := DataW.trod_struct hfs hf
 rw [schema_cells] at hl0
 have hR := row_of hfs hone (by rw [hsz]; exact schema_cells) (hl0.trans hsz.symm) hf
 obtain ⟨v0, v1, v2, v3, he⟩ := row4_of hl0
 rw [he] at hR
 obtain ⟨n0, y0, t0⟩ := hR.at hty 0 _ _ rfl rfl
 obtain ⟨n1, y1, t1⟩ := hR.at hty 1 _ _ rfl rfl
 obtain ⟨n2, y2, t2⟩ := hR.at hty 2 _ _ rfl rfl
 obtain ⟨n3, y3, t3⟩ := hR.at hty 3 _ _ rfl rfl
 obtain ⟨s0, rfl, m0⟩ := string_one Tryz.underlying9 t0
 obtain ⟨L1, xs1, a1, b1⟩ := Record_slc t1
 obtain ⟨L2, xs2, a2, b2⟩ := Service_slc t2
 obtain ⟨L3, xs3, a3, b3⟩ := Saga_slc t3
 refine ⟨⟨s0, L1, L2, L3⟩, v1, v2, v3, ?_, ⟨⟨xs1, a1, b1⟩, ⟨xs2, a2, b2⟩, ⟨xs3, a3, b3⟩⟩, m0⟩
 have h6 : cs.toList = [.string (bT s0), v1, v2, v3] := he
 rw [show cs = #[.string (bT s0), v1, v2, v3] from by rw [← h6]]
end
end Go.Proofs.YtgoejmheihgpfaaGreatDoor
