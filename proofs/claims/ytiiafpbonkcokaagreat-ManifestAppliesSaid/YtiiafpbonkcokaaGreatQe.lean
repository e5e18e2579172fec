/-
  Arguments that are edits, read.
-/
import Derived.Test.YtiiafpbonkcokaaGreatRo
import Derived.Test.YtiiafpbonkcokaaGreatQd
namespace Go.Proofs.YtiiafpbonkcokaaGreat
open Go.ChangeShapes Go.WideShapes Go.ChangeAt Go.RowKit Go.Deep

theorem string_one {H : Type} {enc : TypeId × Value → H} {P : Program} {w : World} {base : Nat} {spare : Nat → Bool} {held : Bool} {n : Nat} {t : TypeId} {x : Value} {y : DataW H × List MemPlace} (ht : P.underlying t = some .string)
    (h : DataW.trod enc P w base spare held n t [x] = some y) : ∃ s, x = .string s ∧ s.size ≤ maxLen := by
  obtain ⟨s, e, _, hs⟩ := DataW.trod_string ht h
  simp only [List.cons.injEq, and_true] at e
  exact ⟨s, e, hs⟩
theorem int_one {H : Type} {enc : TypeId × Value → H} {P : Program} {w : World} {base : Nat} {spare : Nat → Bool} {held : Bool} {n : Nat} {t : TypeId} {k : IntKind} {x : Value} {y : DataW H × List MemPlace} (ht : P.underlying t = some (.int k))
    (h : DataW.trod enc P w base spare held n t [x] = some y) : ∃ z, x = .int k z ∧ (Lit.int k z).wf = true := by
  obtain ⟨z, e, _, hs⟩ := DataW.trod_int ht h
  simp only [List.cons.injEq, and_true] at e
  exact ⟨z, e, hs⟩
theorem slice_one {H : Type} {enc : TypeId × Value → H} {P : Program} {w : World} {n : Nat} {t e : TypeId} {x : Value} {y : DataW H × List MemPlace} (ht : P.underlying t = some (.slice e))
    (h : DataW.trod enc P w 0 (fun _ => true) true n t [x] = some y) : ∃ a len cap, x = .slice a len cap := by
  obtain ⟨d, ps⟩ := y
  rcases open_slice ht h with ⟨hcs, _⟩ | ⟨a, len', cap', m, n', D, Pl, hcs, _⟩
  · simp only [List.cons.injEq, and_true] at hcs
    exact ⟨_, _, _, hcs⟩
  · simp only [List.cons.injEq, and_true] at hcs
    exact ⟨_, _, _, hcs⟩
theorem int_cells : Tryz.prog.cellsOf 3 = 1 := by kernel_rfl
theorem irow_one {H : Type} {enc : TypeId × Value → H} {w : World} {n : Nat} {x : Value} {y : DataW H × List MemPlace} (h : DataW.trod enc Tryz.prog w 0 (fun _ => true) true n 31 [x] = some y) : ∃ L, IRow (· < w.heap.size) w x L := by
  obtain ⟨d, ps⟩ := y
  rcases open_ints Tryz.underlying31 Tryz.underlying3 int_cells h with ⟨hcs, hx⟩ | ⟨a, len', cap', zs, hcs, _, hl, hm, hz, hx, hcell, hwz⟩
  · simp only [List.cons.injEq, and_true] at hcs
    rw [hcs]
    exact ⟨[], IRow.nil _ _⟩
  · simp only [List.cons.injEq, and_true] at hcs
    simp only [if_true] at hz
    unfold maxLen at hm
    rw [hcs]
    have hlen : (zs.take len').length = len' := by rw [List.length_take]; omega
    refine ⟨zs.take len', ⟨some a, cap', by rw [hlen], by omega, by omega, (fun e => by cases e), fun h0 => ?_⟩⟩
    obtain ⟨b, o, rfl, hb⟩ := ints_at hcell (by omega)
    have hc : ∀ i (hi : i < (zs.take len').length), w.cell? ⟨b, o + i, none⟩ = some (.int .i64 (zs.take len')[i]) := fun i hi => by
      rw [hb i (by omega), List.getElem_take]
      simp [List.getD_eq_getElem?_getD, List.getElem?_eq_getElem (show i < zs.length by omega)]
    exact ⟨b, o, rfl, World.block_lt_of_cell? w _ (hc 0 (by omega)), World.block_lt_of_cell? w _ (hc 0 (by omega)), hc⟩
theorem rows_at {H : Type} {enc : TypeId × Value → H} {P : Program} {w : World} {t e : TypeId} {fs : Array Field} {v : Value} {d : DataW H} {ps : List MemPlace}
    (ht : P.underlying t = some (.slice e)) (he : P.underlying e = some (.struct fs)) (hone : oneCellFields P fs = true) (hC : P.cellsOf e = fs.size) (hpos : 0 < fs.size)
    (hval : ∃ a len cap, v = .slice a len cap) (h : DataW.Trod enc P w 0 (fun _ => true) true t v d ps) :
    ∃ (a : Option Addr) (len cap : Nat) (R : List (List Value)), v = .slice a len cap ∧ len ≤ 9223372036854775807 ∧ R.length = len ∧
      (0 < len → ∃ b o, a = some ⟨b, o, none⟩ ∧ ∀ i (hi : i < R.length) j x, R[i][j]? = some x → w.cell? ⟨b, o + i * fs.size + j, none⟩ = some x) ∧
      (∀ q ∈ R, q.length = fs.size ∧ ∀ (j : Nat) (f : Field) (x : Value), fs[j]? = some f → q[j]? = some x → ∃ n y, DataW.trod enc P w 0 (fun _ => true) true n f.type [x] = some y) := by
  obtain ⟨a0, len, cap, rfl⟩ := hval
  obtain ⟨fuel, hf⟩ := h
  rcases open_slice ht hf with ⟨hcs, _⟩ | ⟨a, len', cap', m, n, D, Pl, hcs, _, hl, hm, hmm, hxx, hi⟩
  · simp only [Value.cells, List.cons.injEq, Value.slice.injEq, and_true] at hcs
    obtain ⟨rfl, rfl, rfl⟩ := hcs
    exact ⟨none, 0, 0, [], rfl, by omega, rfl, fun h => absurd h (by omega), fun q hq => by cases hq⟩
  · simp only [Value.cells, List.cons.injEq, Value.slice.injEq, and_true] at hcs
    obtain ⟨rfl, rfl, rfl⟩ := hcs
    simp only [if_true] at hmm
    unfold maxLen at hm
    have hrow : ∀ i, i < len → ∃ cs', cs'.length = fs.size ∧ (∀ j, j < fs.size → w.cell? ((a.add (i * fs.size)).add j) = cs'[j]?) ∧ DataW.trod enc P w 0 (fun _ => true) true n e cs' = some (D i, Pl i) := by
      intro i hil
      obtain ⟨cs', h1, h2⟩ := hi i (by omega)
      rw [hC] at h1
      obtain ⟨_, h3, h4⟩ := World.cells?_some h1
      exact ⟨cs', h3, h4, h2⟩
    have hex : ∃ R : List (List Value), R.length = len ∧ ∀ i (hi : i < R.length), R[i].length = fs.size ∧ (∀ j, j < fs.size → w.cell? ((a.add (i * fs.size)).add j) = R[i][j]?) ∧ DataW.trod enc P w 0 (fun _ => true) true n e R[i] = some (D i, Pl i) := by
      clear hi hmm hl hm hf hxx
      induction len with
      | zero => exact ⟨[], rfl, fun i hi => absurd hi (by simp)⟩
      | succ k ih =>
        obtain ⟨R, hR, hRi⟩ := ih (fun i hi => hrow i (by omega))
        obtain ⟨cs', h1⟩ := hrow k (by omega)
        refine ⟨R ++ [cs'], by simp [hR], fun i hi => ?_⟩
        by_cases hik : i < R.length
        · rw [List.getElem_append_left hik]
          exact hRi i hik
        · have e : i = R.length := by simp at hi; omega
          subst e
          simp only [List.getElem_concat_length]
          rw [hR]
          exact h1
    obtain ⟨R, hR, hRi⟩ := hex
    refine ⟨some a, len, cap, R, rfl, by omega, hR, fun h0 => ?_, fun q hq => ?_⟩
    · obtain ⟨b, off, spot⟩ := a
      have hspot : spot = none := by
        obtain ⟨h1, h2, _⟩ := hRi 0 (by omega)
        have h3 := h2 0 hpos
        rw [List.getElem?_eq_getElem (by omega)] at h3
        simpa [Addr.add] using World.cell?_spot h3
      subst hspot
      refine ⟨b, off, rfl, fun i hi j x hx => ?_⟩
      obtain ⟨h1, h2, _⟩ := hRi i hi
      have hj : j < fs.size := by rw [← h1]; exact (List.getElem?_eq_some_iff.1 hx).1
      have h3 := h2 j hj
      rw [hx] at h3
      rwa [Go.WideShapes.add_plain, Go.WideShapes.add_plain] at h3
    · obtain ⟨i, hi, rfl⟩ := List.getElem_of_mem hq
      obtain ⟨h1, _, h3⟩ := hRi i hi
      refine ⟨h1, fun j f x hj hx => ?_⟩
      obtain ⟨xs, n', _, _, _, hlen, hg⟩ := DataW.trod_struct he h3
      have h4 := hg j f hj
      obtain ⟨ho, hk⟩ := hone_of hone j f hj
      rw [ho, hk] at h4
      have hj2 : j < fs.size := (Array.getElem?_eq_some_iff.1 hj).1
      have h5 : (R[i].drop j).take 1 = [x] := by
        obtain ⟨hl1, hl2⟩ := List.getElem?_eq_some_iff.1 hx
        rw [List.drop_eq_getElem_cons hl1, hl2]
        rfl
      rw [h5, List.getElem?_eq_getElem (by omega)] at h4
      exact ⟨n', _, h4⟩

theorem fld {fs : Array Field} {l : List TypeId} (hty : (fs.map (·.type)).toList = l) (j : Nat) (t : TypeId) (hj : l[j]? = some t) : ∃ f : Field, fs[j]? = some f ∧ f.type = t := by
  rw [← hty] at hj
  simp only [Array.getElem?_toList, Array.getElem?_map] at hj
  cases hfj : fs[j]? with
  | none => rw [hfj] at hj; cases hj
  | some f => rw [hfj] at hj; exact ⟨f, rfl, by simpa using hj⟩
theorem file_cells : Tryz.prog.cellsOf 29 = 5 := by kernel_rfl
theorem file_flds {fs : Array Field} (h : Tryz.prog.underlying 29 = some (.struct fs)) : oneCellFields Tryz.prog fs = true ∧ fs.size = 5 ∧ (fs.map (·.type)).toList = [3, 3, 3, 9, 9] := by
  rw [Tryz.underlying29] at h
  cases h
  exact ⟨by kernel_rfl, rfl, by simp⟩
theorem five_of {q : List Value} (h : q.length = 5) : ∃ v0 v1 v2 v3 v4, q = [v0, v1, v2, v3, v4] := by
  match q, h with
  | [v0, v1, v2, v3, v4], _ => exact ⟨v0, v1, v2, v3, v4, rfl⟩
theorem four_of {q : List Value} (h : q.length = 4) : ∃ v0 v1 v2 v3, q = [v0, v1, v2, v3] := by
  match q, h with
  | [v0, v1, v2, v3], _ => exact ⟨v0, v1, v2, v3, rfl⟩
theorem frow_of {H : Type} {enc : TypeId × Value → H} {w : World} {v : Value} {d : DataW H} {ps : List MemPlace} (hv : ∃ a len cap, v = .slice a len cap)
    (h : DataW.Trod enc Tryz.prog w 0 (fun _ => true) true 22 v d ps) (hcap : ∀ a len cap, v = .slice a len cap → len ≤ cap ∧ cap ≤ 9223372036854775807 ∧ (a = none → cap = 0)) : ∃ L, FRow (· < w.heap.size) w v L := by
  obtain ⟨fs, hfs⟩ : ∃ fs, Tryz.prog.underlying 29 = some (.struct fs) := ⟨_, Tryz.underlying29⟩
  obtain ⟨hone, hsz, hty⟩ := file_flds hfs
  obtain ⟨a, len, cap, R, rfl, hlen, hR, hcell, hq⟩ := rows_at Tryz.underlying22 hfs hone (by rw [hsz]; exact file_cells) (by omega) hv h
  have hrow : ∀ q ∈ R, ∃ x : Fi, q = ficells x ∧ FiOk x := by
    intro q hqm
    obtain ⟨hl, hr⟩ := hq q hqm
    rw [hsz] at hl
    obtain ⟨v0, v1, v2, v3, v4, rfl⟩ := five_of hl
    obtain ⟨f0, hf0, e0⟩ := fld hty 0 _ rfl
    obtain ⟨f1, hf1, e1⟩ := fld hty 1 _ rfl
    obtain ⟨f2, hf2, e2⟩ := fld hty 2 _ rfl
    obtain ⟨f3, hf3, e3⟩ := fld hty 3 _ rfl
    obtain ⟨f4, hf4, e4⟩ := fld hty 4 _ rfl
    obtain ⟨n0, y0, t0⟩ := hr 0 f0 v0 hf0 rfl
    obtain ⟨n1, y1, t1⟩ := hr 1 f1 v1 hf1 rfl
    obtain ⟨n2, y2, t2⟩ := hr 2 f2 v2 hf2 rfl
    obtain ⟨n3, y3, t3⟩ := hr 3 f3 v3 hf3 rfl
    obtain ⟨n4, y4, t4⟩ := hr 4 f4 v4 hf4 rfl
    rw [e0] at t0
    rw [e1] at t1
    rw [e2] at t2
    rw [e3] at t3
    rw [e4] at t4
    obtain ⟨z0, rfl, w0⟩ := int_one Tryz.underlying3 t0
    obtain ⟨z1, rfl, w1⟩ := int_one Tryz.underlying3 t1
    obtain ⟨z2, rfl, w2⟩ := int_one Tryz.underlying3 t2
    obtain ⟨s3, rfl, m3⟩ := string_one Tryz.underlying9 t3
    obtain ⟨s4, rfl, m4⟩ := string_one Tryz.underlying9 t4
    have b0 := bounds_i64 w0
    unfold maxLen at m3 m4
    exact ⟨⟨z0, z1, z2, s3, s4⟩, rfl, ⟨b0.1, b0.2, m3, m4⟩⟩
  have hall : ∃ l : List Fi, R = l.map ficells ∧ ∀ x ∈ l, FiOk x := by
    clear hcell hq hR
    induction R with
    | nil => exact ⟨[], rfl, fun x hx => by cases hx⟩
    | cons q R ih =>
      obtain ⟨x, rfl, hx⟩ := hrow q (List.mem_cons_self ..)
      obtain ⟨l, rfl, hl⟩ := ih (fun q hq => hrow q (List.mem_cons_of_mem _ hq))
      exact ⟨x :: l, rfl, fun y hy => by rcases List.mem_cons.1 hy with rfl | hy; exact hx; exact hl y hy⟩
  obtain ⟨l, rfl, hl⟩ := hall
  rw [List.length_map] at hR
  subst hR
  obtain ⟨hc1, hc2, hc3⟩ := hcap _ _ _ rfl
  refine ⟨l, ⟨a, cap, rfl, hc1, hc2, hc3, fun h0 => ?_⟩, hl⟩
  obtain ⟨b, o, rfl, hc⟩ := hcell h0
  rw [hsz] at hc
  have hat : ∀ i (hi : i < l.length), FiAt w b (o + i * 5) l[i] := fun i hi =>
    have k := fun j x (hx : (ficells l[i])[j]? = some x) => hc i (by simpa using hi) j x (by simpa using hx)
    ⟨k 0 _ rfl, k 1 _ rfl, k 2 _ rfl, k 3 _ rfl, k 4 _ rfl⟩
  have hb := World.block_lt_of_cell? w _ (hat 0 h0).c0
  exact ⟨b, o, rfl, hb, hb, hat⟩
theorem cap_of {H : Type} {enc : TypeId × Value → H} {w : World} {n : Nat} {x : Value} {y : DataW H × List MemPlace} (h : DataW.trod enc Tryz.prog w 0 (fun _ => true) true n 22 [x] = some y) : ∀ a len cap, x = .slice a len cap → len ≤ cap ∧ cap ≤ 9223372036854775807 ∧ (a = none → cap = 0) := by
  obtain ⟨d, ps⟩ := y
  intro a len cap he
  rcases open_slice Tryz.underlying22 h with ⟨hcs, _⟩ | ⟨a', len', cap', m, n', D, Pl, hcs, _, hl, hm, _⟩
  · simp only [List.cons.injEq, and_true] at hcs
    rw [hcs] at he
    cases he
    exact ⟨by omega, by omega, fun _ => rfl⟩
  · simp only [List.cons.injEq, and_true] at hcs
    rw [hcs] at he
    cases he
    unfold maxLen at hm
    exact ⟨hl, by omega, fun e => by cases e⟩

theorem edit_flds {fs : Array Field} (h : Tryz.prog.underlying 33 = some (.struct fs)) : oneCellFields Tryz.prog fs = true ∧ fs.size = 4 ∧ (fs.map (·.type)).toList = [31, 22, 3, 3] := by
  rw [Tryz.underlying33] at h
  cases h
  exact ⟨by kernel_rfl, rfl, by simp⟩
theorem edit_cells : Tryz.prog.cellsOf 33 = 4 := by kernel_rfl
/-- an edit in memory: its four values -/
structure EdAt (w : World) (vd va : Value) (ed : Ed) : Prop where
  drop : IRow (· < w.heap.size) w vd ed.drop
  add : FRow (· < w.heap.size) w va ed.add
theorem EdAt.below {w w' : World} {vd va : Value} {ed : Ed} (h : EdAt w vd va ed) (hb : Below w.heap.size w w') : EdAt w' vd va ed :=
  ⟨h.drop.keep (fun b _ hlt => hb.block b hlt) hb.size (fun b _ hlt => Nat.lt_of_lt_of_le hlt hb.size), h.add.keep (fun b _ hlt => hb.block b hlt) hb.size (fun b _ hlt => Nat.lt_of_lt_of_le hlt hb.size)⟩
theorem edit_row {H : Type} {enc : TypeId × Value → H} {w : World} {fs : Array Field} (hfs : Tryz.prog.underlying 33 = some (.struct fs)) {q : List Value} (hl : q.length = fs.size)
    (hr : ∀ (j : Nat) (f : Field) (x : Value), fs[j]? = some f → q[j]? = some x → ∃ n y, DataW.trod enc Tryz.prog w 0 (fun _ => true) true n f.type [x] = some y) : ∃ (vd va : Value) (ed : Ed), q = [vd, va, .int .i64 ed.next, .int .i64 ed.log] ∧ EdAt w vd va ed := by
  obtain ⟨hone, hsz, hty⟩ := edit_flds hfs
  rw [hsz] at hl
  obtain ⟨v0, v1, v2, v3, rfl⟩ := four_of hl
  obtain ⟨f0, hf0, e0⟩ := fld hty 0 _ rfl
  obtain ⟨f1, hf1, e1⟩ := fld hty 1 _ rfl
  obtain ⟨f2, hf2, e2⟩ := fld hty 2 _ rfl
  obtain ⟨f3, hf3, e3⟩ := fld hty 3 _ rfl
  obtain ⟨n0, y0, t0⟩ := hr 0 f0 v0 hf0 rfl
  obtain ⟨n1, y1, t1⟩ := hr 1 f1 v1 hf1 rfl
  obtain ⟨n2, y2, t2⟩ := hr 2 f2 v2 hf2 rfl
  obtain ⟨n3, y3, t3⟩ := hr 3 f3 v3 hf3 rfl
  rw [e0] at t0
  rw [e1] at t1
  rw [e2] at t2
  rw [e3] at t3
  obtain ⟨D, hD⟩ := irow_one t0
  obtain ⟨a, len, cap, rfl⟩ := slice_one Tryz.underlying22 t1
  obtain ⟨A, hA⟩ := frow_of ⟨_, _, _, rfl⟩ (d := y1.1) (ps := y1.2) ⟨n1, t1⟩ (cap_of t1)
  obtain ⟨z2, rfl, _⟩ := int_one Tryz.underlying3 t2
  obtain ⟨z3, rfl, _⟩ := int_one Tryz.underlying3 t3
  exact ⟨v0, _, ⟨D, A, z2, z3⟩, rfl, hD, hA⟩
set_option maxRecDepth 100000 in
/-- an argument of type Edit -/
theorem edit_open {H : Type} {enc : TypeId × Value → H} {w : World} {r : Reach} {b0 : Nat} {v : Value} {d : DataW H} {ps : List MemPlace}
    (hval : Value.okWide Tryz.prog w r b0 33 v) (h : DataW.Trod enc Tryz.prog w 0 (fun _ => true) true 33 v d ps) : ∃ (vd va : Value) (ed : Ed), v = edv vd va ed.next ed.log ∧ EdAt w vd va ed := by
  obtain ⟨fs, hfs⟩ : ∃ fs, Tryz.prog.underlying 33 = some (.struct fs) := ⟨_, Tryz.underlying33⟩
  obtain ⟨hone, hsz, hty⟩ := edit_flds hfs
  obtain ⟨cs, rfl, hcs⟩ := okWide_struct hfs hval
  obtain ⟨fuel, hf⟩ := h
  obtain ⟨xs, n', _, _, hl0, hlen, hg⟩ := DataW.trod_struct hfs hf
  rw [edit_cells] at hl0
  have hR : ∀ (j : Nat) (f : Field) (x : Value), fs[j]? = some f → (Value.agg cs).cells.toList[j]? = some x → ∃ n y, DataW.trod enc Tryz.prog w 0 (fun _ => true) true n f.type [x] = some y := fun j f x hj hx => by
    have h4 := hg j f hj
    obtain ⟨ho, hk⟩ := hone_of hone j f hj
    rw [ho, hk] at h4
    have hj2 : j < fs.size := (Array.getElem?_eq_some_iff.1 hj).1
    have h5 : ((Value.agg cs).cells.toList.drop j).take 1 = [x] := by
      obtain ⟨hl1, hl2⟩ := List.getElem?_eq_some_iff.1 hx
      rw [List.drop_eq_getElem_cons hl1, hl2]
      rfl
    rw [h5, List.getElem?_eq_getElem (by omega)] at h4
    exact ⟨n', _, h4⟩
  obtain ⟨vd, va, ed, he, hed⟩ := edit_row hfs (by rw [hl0, hsz]) hR
  refine ⟨vd, va, ed, ?_, hed⟩
  have h6 : cs.toList = [vd, va, .int .i64 ed.next, .int .i64 ed.log] := he
  rw [show cs = #[vd, va, .int .i64 ed.next, .int .i64 ed.log] from by rw [← h6]]
  rfl
set_option maxRecDepth 100000 in
/-- an argument of type []Edit -/
theorem edits_open {H : Type} {enc : TypeId × Value → H} {w : World} {r : Reach} {b0 : Nat} {v : Value} {d : DataW H} {ps : List MemPlace}
    (hval : Value.okWide Tryz.prog w r b0 62 v) (h : DataW.Trod enc Tryz.prog w 0 (fun _ => true) true 62 v d ps) :
    ∃ (a : Option Addr) (len cap : Nat), v = .slice a len cap ∧ len ≤ 9223372036854775807 ∧ (0 < len → ∃ b o, a = some ⟨b, o, none⟩ ∧ b < w.heap.size ∧ ∀ i, i < len → ∃ (vd va : Value) (ed : Ed), EdAt w vd va ed ∧
      w.cell? ⟨b, o + i * 4, none⟩ = some vd ∧ w.cell? ⟨b, o + i * 4 + 1, none⟩ = some va ∧ w.cell? ⟨b, o + i * 4 + 2, none⟩ = some (.int .i64 ed.next) ∧ w.cell? ⟨b, o + i * 4 + 3, none⟩ = some (.int .i64 ed.log)) := by
  obtain ⟨fs, hfs⟩ : ∃ fs, Tryz.prog.underlying 33 = some (.struct fs) := ⟨_, Tryz.underlying33⟩
  obtain ⟨hone, hsz, hty⟩ := edit_flds hfs
  obtain ⟨a, len, cap, R, rfl, hlen, hR, hcell, hq⟩ := rows_open Tryz.underlying62 hfs hone (by rw [hsz]; exact edit_cells) (by omega) hval h
  refine ⟨a, len, cap, rfl, hlen, fun h0 => ?_⟩
  obtain ⟨b, o, rfl, hc⟩ := hcell h0
  rw [hsz] at hc
  have hrow : ∀ i (hi : i < len), ∃ (vd va : Value) (ed : Ed), EdAt w vd va ed ∧ w.cell? ⟨b, o + i * 4, none⟩ = some vd ∧ w.cell? ⟨b, o + i * 4 + 1, none⟩ = some va ∧ w.cell? ⟨b, o + i * 4 + 2, none⟩ = some (.int .i64 ed.next) ∧ w.cell? ⟨b, o + i * 4 + 3, none⟩ = some (.int .i64 ed.log) := fun i hi => by
    obtain ⟨hl, hr⟩ := hq R[i] (List.getElem_mem (by omega))
    obtain ⟨vd, va, ed, he, hed⟩ := edit_row hfs hl hr
    have k := fun j x (hx : [vd, va, .int .i64 ed.next, .int .i64 ed.log][j]? = some x) => hc i (by omega) j x (by rw [he]; exact hx)
    exact ⟨vd, va, ed, hed, k 0 _ rfl, k 1 _ rfl, k 2 _ rfl, k 3 _ rfl⟩
  obtain ⟨vd, va, ed, _, h1, _⟩ := hrow 0 h0
  exact ⟨b, o, rfl, World.block_lt_of_cell? w _ h1, hrow⟩
end Go.Proofs.YtiiafpbonkcokaaGreat
