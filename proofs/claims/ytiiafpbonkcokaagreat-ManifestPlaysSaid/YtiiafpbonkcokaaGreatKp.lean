/-
  Arguments that are acts of ManifestPlays, read.
-/
import Derived.Test.YtiiafpbonkcokaaGreatWr
import Derived.Deep.DeepCutAuto
import Derived.Deep.CutBlock
namespace Go.Proofs.YtiiafpbonkcokaaGreat
section
open Go.ChangeShapes Go.WideShapes Go.ChangeAt Go.RowKit Go.Deep

/-- a slice's rows of cells, each read as an element -/
theorem rows_trod {H : Type} {enc : TypeId × Value → H} {P : Program} {w : World} {t e : TypeId} {K : Nat} {v : Value} {d : DataW H} {ps : List MemPlace}
    (ht : P.underlying t = some (.slice e)) (hC : P.cellsOf e = K) (hpos : 0 < K)
    (hval : ∃ a len cap, v = .slice a len cap) (h : DataW.Trod enc P w 0 (fun _ => true) true t v d ps) :
    ∃ (a : Option Addr) (len cap : Nat) (R : List (List Value)), v = .slice a len cap ∧ len ≤ 9223372036854775807 ∧ R.length = len ∧
      (0 < len → ∃ b o, a = some ⟨b, o, none⟩ ∧ ∀ i (hi : i < R.length) j x, R[i][j]? = some x → w.cell? ⟨b, o + i * K + j, none⟩ = some x) ∧
      (∀ q ∈ R, q.length = K ∧ ∃ n y, DataW.trod enc P w 0 (fun _ => true) true n e q = some y) := by
  subst hC
  obtain ⟨a0, len, cap, rfl⟩ := hval
  obtain ⟨fuel, hf⟩ := h
  rcases open_slice ht hf with ⟨hcs, _⟩ | ⟨a, len', cap', m, n, D, Pl, hcs, _, hl, hm, hmm, hxx, hi⟩
  · simp only [Value.cells, List.cons.injEq, Value.slice.injEq, and_true] at hcs
    obtain ⟨rfl, rfl, rfl⟩ := hcs
    exact ⟨none, 0, 0, [], rfl, by omega, rfl, fun h => absurd h (by omega), fun q hq => by cases hq⟩
  · simp only [Value.cells, List.cons.injEq, Value.slice.injEq, and_true] at hcs
    obtain ⟨rfl, rfl, rfl⟩ := hcs
    simp only [if_true] at hmm
    unfold maxLen at hm
    have hrow : ∀ i, i < len → ∃ cs', cs'.length = P.cellsOf e ∧ (∀ j, j < P.cellsOf e → w.cell? ((a.add (i * P.cellsOf e)).add j) = cs'[j]?) ∧ DataW.trod enc P w 0 (fun _ => true) true n e cs' = some (D i, Pl i) := by
      intro i hil
      obtain ⟨cs', h1, h2⟩ := hi i (by omega)
      obtain ⟨_, h3, h4⟩ := World.cells?_some h1
      exact ⟨cs', h3, h4, h2⟩
    have hex : ∃ R : List (List Value), R.length = len ∧ ∀ i (hi : i < R.length), R[i].length = P.cellsOf e ∧ (∀ j, j < P.cellsOf e → w.cell? ((a.add (i * P.cellsOf e)).add j) = R[i][j]?) ∧ DataW.trod enc P w 0 (fun _ => true) true n e R[i] = some (D i, Pl i) := by
      clear hi hmm hl hm hf hxx
      induction len with
      | zero => exact ⟨[], rfl, fun i hi => absurd hi (by simp)⟩
      | succ k ih =>
        obtain ⟨R, hR, hRi⟩ := ih (fun i hi => hrow i (by omega))
        obtain ⟨cs', h1⟩ := hrow k (by omega)
        refine ⟨R ++ [cs'], by simp [hR], fun i hi => ?_⟩
        by_cases hik : i < R.length
        · rw [List.getElem_append_left hik]
          exact hRi i hik
        · have e : i = R.length := by simp at hi; omega
          subst e
          simp only [List.getElem_concat_length]
          rw [hR]
          exact h1
    obtain ⟨R, hR, hRi⟩ := hex
    refine ⟨some a, len, cap, R, rfl, by omega, hR, fun h0 => ?_, fun q hq => ?_⟩
    · obtain ⟨b, off, spot⟩ := a
      have hspot : spot = none := by
        obtain ⟨h1, h2, _⟩ := hRi 0 (by omega)
        have h3 := h2 0 hpos
        rw [List.getElem?_eq_getElem (by omega)] at h3
        simpa [Addr.add] using World.cell?_spot h3
      subst hspot
      refine ⟨b, off, rfl, fun i hi j x hx => ?_⟩
      obtain ⟨h1, h2, _⟩ := hRi i hi
      have hj : j < P.cellsOf e := by rw [← h1]; exact (List.getElem?_eq_some_iff.1 hx).1
      have h3 := h2 j hj
      rw [hx] at h3
      rwa [Go.WideShapes.add_plain, Go.WideShapes.add_plain] at h3
    · obtain ⟨i, hi, rfl⟩ := List.getElem_of_mem hq
      obtain ⟨h1, _, h3⟩ := hRi i hi
      exact ⟨h1, n, _, h3⟩
/-- an act's data -/
structure AcD where
  dn : Int
  n : Int
  vd : Value
  va : Value
  ed : Ed
  kv : Value
  ks : List Int
/-- an act in memory -/
structure AcAt (w : World) (b o : Nat) (A : AcD) : Prop where
  c : ∀ j x, (acells A.dn A.n A.vd A.va A.ed A.kv)[j]? = some x → w.cell? ⟨b, o + j, none⟩ = some x
  ed : EdAt w A.vd A.va A.ed
  ks : IRow (· < w.heap.size) w A.kv A.ks
  n0 : -9223372036854775808 ≤ A.n
  n1 : A.n ≤ 9223372036854775807
theorem act_cells : Tryz.prog.cellsOf 71 = 7 := by kernel_rfl
theorem act_flds {fs : Array Field} (h : Tryz.prog.underlying 71 = some (.struct fs)) : fs.size = 4 ∧ (fs.map (·.type)).toList = [3, 33, 3, 31] ∧ (fs.map (·.offset)).toList = [0, 1, 5, 6] := by
  rw [Tryz.underlying71] at h
  cases h
  exact ⟨rfl, by simp, by simp⟩
theorem fldo {fs : Array Field} {l : List TypeId} {os : List Nat} (hty : (fs.map (·.type)).toList = l) (hof : (fs.map (·.offset)).toList = os) (j : Nat) (t : TypeId) (o : Nat) (hj : l[j]? = some t) (ho : os[j]? = some o) : ∃ f : Field, fs[j]? = some f ∧ f.type = t ∧ f.offset = o := by
  obtain ⟨f, h1, h2⟩ := fld hty j t hj
  refine ⟨f, h1, h2, ?_⟩
  rw [← hof] at ho
  simp only [Array.getElem?_toList, Array.getElem?_map, h1, Option.map_some, Option.some.injEq] at ho
  exact ho
theorem edit_trod {H : Type} {enc : TypeId × Value → H} {w : World} {n : Nat} {q : List Value} {y : DataW H × List MemPlace} (h3 : DataW.trod enc Tryz.prog w 0 (fun _ => true) true n 33 q = some y) : ∃ (vd va : Value) (ed : Ed), q = [vd, va, .int .i64 ed.next, .int .i64 ed.log] ∧ EdAt w vd va ed := by
  obtain ⟨fs, hfs⟩ : ∃ fs, Tryz.prog.underlying 33 = some (.struct fs) := ⟨_, Tryz.underlying33⟩
  obtain ⟨hone, hsz, hty⟩ := edit_flds hfs
  obtain ⟨xs, n', _, _, h1, hlen, hg⟩ := DataW.trod_struct hfs h3
  rw [edit_cells] at h1
  refine edit_row (enc := enc) hfs (by rw [h1, hsz]) (fun j f x hj hx => ?_)
  have h4 := hg j f hj
  obtain ⟨ho, hk⟩ := hone_of hone j f hj
  rw [ho, hk] at h4
  have hj2 : j < fs.size := (Array.getElem?_eq_some_iff.1 hj).1
  have h5 : (q.drop j).take 1 = [x] := by
    obtain ⟨hl1, hl2⟩ := List.getElem?_eq_some_iff.1 hx
    rw [List.drop_eq_getElem_cons hl1, hl2]
    rfl
  rw [h5, List.getElem?_eq_getElem (by omega)] at h4
  exact ⟨n', _, h4⟩
theorem ints_cell1 : Tryz.prog.cellsOf 31 = 1 := by kernel_rfl
theorem seven_of {q : List Value} (h : q.length = 7) : ∃ v0 v1 v2 v3 v4 v5 v6, q = [v0, v1, v2, v3, v4, v5, v6] := by
  match q, h with
  | [v0, v1, v2, v3, v4, v5, v6], _ => exact ⟨v0, v1, v2, v3, v4, v5, v6, rfl⟩
theorem act_row {H : Type} {enc : TypeId × Value → H} {w : World} {n : Nat} {q : List Value} {y : DataW H × List MemPlace} (hq : q.length = 7) (h3 : DataW.trod enc Tryz.prog w 0 (fun _ => true) true n 71 q = some y) :
    ∃ A : AcD, q = (acells A.dn A.n A.vd A.va A.ed A.kv).toList ∧ EdAt w A.vd A.va A.ed ∧ IRow (· < w.heap.size) w A.kv A.ks ∧ -9223372036854775808 ≤ A.n ∧ A.n ≤ 9223372036854775807 := by
  obtain ⟨fs, hfs⟩ : ∃ fs, Tryz.prog.underlying 71 = some (.struct fs) := ⟨_, Tryz.underlying71⟩
  obtain ⟨hsz, hty, hof⟩ := act_flds hfs
  obtain ⟨xs, n', _, _, h1, hlen, hg⟩ := DataW.trod_struct hfs h3
  obtain ⟨v0, v1, v2, v3, v4, v5, v6, rfl⟩ := seven_of hq
  obtain ⟨f0, hf0, t0, o0⟩ := fldo hty hof 0 _ _ rfl rfl
  obtain ⟨f1, hf1, t1, o1⟩ := fldo hty hof 1 _ _ rfl rfl
  obtain ⟨f2, hf2, t2, o2⟩ := fldo hty hof 2 _ _ rfl rfl
  obtain ⟨f3, hf3, t3, o3⟩ := fldo hty hof 3 _ _ rfl rfl
  have g0 := hg 0 f0 hf0
  have g1 := hg 1 f1 hf1
  have g2 := hg 2 f2 hf2
  have g3 := hg 3 f3 hf3
  rw [t0, o0, int_cells, List.getElem?_eq_getElem (by omega)] at g0
  rw [t1, o1, edit_cells, List.getElem?_eq_getElem (by omega)] at g1
  rw [t2, o2, int_cells, List.getElem?_eq_getElem (by omega)] at g2
  rw [t3, o3, ints_cell1, List.getElem?_eq_getElem (by omega)] at g3
  obtain ⟨z0, rfl, w0⟩ := int_one Tryz.underlying3 g0
  obtain ⟨vd, va, ed, he, hed⟩ := edit_trod g1
  obtain ⟨z2, rfl, w2⟩ := int_one Tryz.underlying3 g2
  obtain ⟨ks, hks⟩ := irow_one g3
  have he : [v1, v2, v3, v4] = [vd, va, .int .i64 ed.next, .int .i64 ed.log] := he
  simp only [List.cons.injEq, and_true] at he
  obtain ⟨rfl, rfl, rfl, rfl⟩ := he
  have b2 := bounds_i64 w2
  exact ⟨⟨z0, z2, v1, v2, ed, v6, ks⟩, rfl, hed, hks, b2.1, b2.2⟩
set_option maxRecDepth 100000 in
/-- an argument of type []Act -/
theorem macts_open {H : Type} {enc : TypeId × Value → H} {w : World} {r : Reach} {b0 : Nat} {v : Value} {d : DataW H} {ps : List MemPlace}
    (hval : Value.okWide Tryz.prog w r b0 69 v) (h : DataW.Trod enc Tryz.prog w 0 (fun _ => true) true 69 v d ps) :
    ∃ (a : Option Addr) (len cap : Nat), v = .slice a len cap ∧ len ≤ 9223372036854775807 ∧ ∃ L : List AcD, L.length = len ∧ (0 < L.length → ∃ b o, a = some ⟨b, o, none⟩ ∧ b < w.heap.size ∧ ∀ i (hi : i < L.length), AcAt w b (o + i * 7) L[i]) := by
  obtain ⟨a, len, cap, R, rfl, hlen, hR, hcell, hq⟩ := rows_trod Tryz.underlying69 act_cells (by decide) (okWide_slice Tryz.underlying69 hval) h
  refine ⟨a, len, cap, rfl, hlen, ?_⟩
  have hall : ∃ L : List AcD, R = L.map (fun A => (acells A.dn A.n A.vd A.va A.ed A.kv).toList) ∧ ∀ A ∈ L, EdAt w A.vd A.va A.ed ∧ IRow (· < w.heap.size) w A.kv A.ks ∧ -9223372036854775808 ≤ A.n ∧ A.n ≤ 9223372036854775807 := by
    clear hcell hR
    induction R with
    | nil => exact ⟨[], rfl, fun x hx => by cases hx⟩
    | cons q R ih =>
      obtain ⟨h7, n, y, ht⟩ := hq q (List.mem_cons_self ..)
      obtain ⟨A, rfl, hA⟩ := act_row h7 ht
      obtain ⟨L, rfl, hL⟩ := ih (fun q hq' => hq q (List.mem_cons_of_mem _ hq'))
      exact ⟨A :: L, rfl, fun B hB => by rcases List.mem_cons.1 hB with rfl | hB; exact hA; exact hL B hB⟩
  obtain ⟨L, rfl, hL⟩ := hall
  rw [List.length_map] at hR
  refine ⟨L, hR, fun h0 => ?_⟩
  obtain ⟨b, o, rfl, hc⟩ := hcell (by omega)
  have hat : ∀ i (hi : i < L.length), AcAt w b (o + i * 7) L[i] := fun i hi => by
    obtain ⟨h1, h2, h3, h4⟩ := hL _ (List.getElem_mem hi)
    exact ⟨fun j x hx => hc i (by simpa using hi) j x (by simpa using hx), h1, h2, h3, h4⟩
  exact ⟨b, o, rfl, World.block_lt_of_cell? w _ ((hat 0 h0).c 0 _ rfl), hat⟩
end

section
open Go.RowKit Go.Maps

/-- the disk alone has turned -/
theorem Wd.bk {w w' : World} {X x b m : Nat} {d d' : Dk} {N S T : St} {dead bd : Bool} (h : Wd w X x b m d N S T dead bd) (hk : Bk w w' b m d') : Wd w' X x b m d' N S T dead bd := by
  obtain ⟨vs, vt, h1, h2, h3⟩ := h.blk
  exact ⟨h.mn.disk hk, h.xb, h.xm, h.xx, vs, vt, (hk.but.block X (heap_lt h1) (by simp [h.xb, h.xm])).trans h1, h2.but hk.but (fun k hk _ => by simp [hk.1, hk.2.1]) (fun _ h _ => h), h3.but hk.but (fun k hk _ => by simp [hk.1, hk.2.1]) (fun _ h _ => h)⟩
/-- 'bounded' is set -/
theorem Wd.setB {w : World} {X x b m : Nat} {d : Dk} {N S T : St} {dead bd : Bool} (h : Wd w X x b m d N S T dead bd) (q : Bool) : Wd (w.setCell ⟨X, 8, none⟩ (.bool q)) X x b m d N S T dead q ∧ But [X] w (w.setCell ⟨X, 8, none⟩ (.bool q)) := by
  obtain ⟨vs, vt, h1, h2, h3⟩ := h.blk
  have hb : But [X] w (w.setCell ⟨X, 8, none⟩ (.bool q)) := (But.refl _ _).setCell (.inl (by simp)) _
  have hs : ∀ s, vs ≠ .string s := by obtain ⟨⟨a, c, e, _⟩, _⟩ := h2; subst e; exact fun s e => by cases e
  have ht : ∀ s, vt ≠ .string s := by obtain ⟨⟨a, c, e, _⟩, _⟩ := h3; subst e; exact fun s e => by cases e
  exact ⟨⟨h.mn.but (wnt h1 pnt hs ht) hb h.xb h.xm h.xx, h.xb, h.xm, h.xx, vs, vt, heap_setCell_same w X 8 _ _ _ h1, h2.but hb (fun k hk _ => by simp; exact hk.2.2.2) (fun k hk _ => hk), h3.but hb (fun k hk _ => by simp; exact hk.2.2.2) (fun k hk _ => hk)⟩, hb⟩
/-- what stands while the acts are gone through -/
structure PI (W wr : World) (X b m : Nat) : Prop where
  ex : ∃ x d S bd, Wd wr X x b m d S S S false bd ∧ PD d S bd ∧ W.heap.size ≤ x
  bel : Below W.heap.size W wr
theorem PI.quiet {W wr w' : World} {X b m : Nat} (h : PI W wr X b m) (hb : Below wr.heap.size wr w') : PI W w' X b m := by
  obtain ⟨x, d, S, bd, h1, h2, h3⟩ := h.ex
  exact ⟨⟨x, d, S, bd, h1.quiet hb, h2, h3⟩, h.bel.trans (hb.mono h.bel.size)⟩
theorem PI.turn {W wr w' : World} {X b m x' : Nat} {d' : Dk} {S' : St} {bd' : Bool} {l : List Nat} (hbel : Below W.heap.size W wr) (hb : But l wr w') (hl : ∀ k ∈ l, W.heap.size ≤ k) (h1 : Wd w' X x' b m d' S' S' S' false bd') (h2 : PD d' S' bd') (hx : W.heap.size ≤ x') : PI W w' X b m :=
  ⟨⟨x', d', S', bd', h1, h2, hx⟩, hbel.trans (hb.below hbel.size hl)⟩
theorem pd_zero : PD d0 ⟨1, 0, []⟩ false := ⟨rfl, d0_kpt, fun _ _ _ => rfl, by decide, fun h => absurd h (by decide)⟩
/-- the acts' own bounds -/
def Small (A : AcD) : Prop := A.ed.add.length ≤ 300 ∧ A.ed.drop.length ≤ 300 ∧ A.ks.length ≤ 1000
theorem AcAt.shape {w : World} {b o : Nat} {A : AcD} (h : AcAt w b o A) : ∃ a1 c1 a2 c2 a3 c3, A.vd = .slice a1 A.ed.drop.length c1 ∧ A.va = .slice a2 A.ed.add.length c2 ∧ A.kv = .slice a3 A.ks.length c3 := by
  obtain ⟨a1, c1, e1, _⟩ := h.ed.drop.ex
  obtain ⟨a2, c2, e2, _⟩ := h.ed.add.ex
  obtain ⟨a3, c3, e3, _⟩ := h.ks.ex
  exact ⟨a1, c1, a2, c2, a3, c3, e1, e2, e3⟩
theorem AcAt.cells {w w' : World} {b o : Nat} {A : AcD} (h : AcAt w b o A) (hb : Below w.heap.size w w') : w'.cell? ⟨b, o, none⟩ = some (.int .i64 A.dn) ∧ w'.cell? ⟨b, o + 1, none⟩ = some A.vd ∧ w'.cell? ⟨b, o + 2, none⟩ = some A.va ∧ w'.cell? ⟨b, o + 3, none⟩ = some (.int .i64 A.ed.next) ∧ w'.cell? ⟨b, o + 4, none⟩ = some (.int .i64 A.ed.log) ∧ w'.cell? ⟨b, o + 5, none⟩ = some (.int .i64 A.n) ∧ w'.cell? ⟨b, o + 6, none⟩ = some A.kv := by
  have hl : b < w.heap.size := World.block_lt_of_cell? w _ (h.c 0 _ rfl)
  have k : ∀ j x, (acells A.dn A.n A.vd A.va A.ed A.kv)[j]? = some x → w'.cell? ⟨b, o + j, none⟩ = some x := fun j x hx => (hb.cell (p := ⟨b, o + j, none⟩) hl).trans (h.c j x hx)
  exact ⟨k 0 _ rfl, k 1 _ rfl, k 2 _ rfl, k 3 _ rfl, k 4 _ rfl, k 5 _ rfl, k 6 _ rfl⟩
theorem irow_get {w : World} {a : Option Addr} {c : Nat} {L : List Int} (h : IRow (· < w.heap.size) w (.slice a L.length c) L) : 0 < L.length → ∃ kb ko, a = some ⟨kb, ko, none⟩ ∧ kb < w.heap.size ∧ ∀ i, i < L.length → w.cell? ⟨kb, ko + i, none⟩ = some (.int .i64 (L.getD i 0)) := by
  obtain ⟨⟨a', c', e, _, _, _, q⟩⟩ := h
  injection e with e1 e2 e3
  subst e1
  intro h0
  obtain ⟨b, o, e, _, hlt, hc⟩ := q h0
  exact ⟨b, o, e, hlt, fun i hi => by rw [hc i hi]; simp [List.getD_eq_getElem?_getD, hi]⟩

set_option maxRecDepth 100000 in
set_option maxHeartbeats 16000000 in
theorem plays_walk (W : World) (a : Option Addr) (cap : Nat) (L : List AcD) (hlen : L.length ≤ 9223372036854775807) (hL : 0 < L.length → ∃ b o, a = some ⟨b, o, none⟩ ∧ b < W.heap.size ∧ ∀ i (hi : i < L.length), AcAt W b (o + i * 7) L[i]) :
    Calls Tryz.prog 6 #[.slice a L.length cap] W fun e w' => e = .returned (.bool true) ∧ Below W.heap.size W w' := by
  have HL := Lib.hid hL
  clear hL
  go_enter Tryz.func6, Tryz.ntmps6
  go_wp2_with fail
  refine (awake_any W).mono ?_
  rintro e w2 ⟨rfl, hb2⟩
  have HB2 := Lib.hid hb2
  clear hb2
  by_cases hl60 : 60 < L.length
  · have i60 : ((60 : Int) < (L.length : Int)) := by omega
    go_wp2_with fail
    go_ret
    exact ⟨rfl, HB2.out⟩
  have i60 : ((L.length : Int) ≤ 60) := by omega
  go_wp2_with fail
  go_loopw [3] (fun i wr => ∃ k : Nat, k ≤ L.length ∧ i = .int .i64 k ∧ Hid (∀ j (hj : j < L.length), j < k → Small L[j]) ∧ Hid (Below W.heap.size W wr)) (fun i _ => L.length - (intOf i).toNat)
  case atStart => exact ⟨0, by omega, rfl, fun j _ h => by omega, HB2.out⟩
  case round =>
    obtain ⟨k, hk, rfl, HA, HB⟩ := hrel
    by_cases hlt : k < L.length
    · obtain ⟨bb, oo, rfl, hbl, hcc⟩ := HL.out (by omega)
      have hat := hcc k hlt
      have HNA := Lib.hid (show Small L[k] → ∀ j (hj : j < L.length), j < k + 1 → Small L[j] from fun h j g1 hj => by
        by_cases e : j = k
        · subst e; exact h
        · exact HA.out j g1 (by omega))
      clear hcc
      generalize L[k] = A at *
      obtain ⟨a1, c1, a2, c2, a3, c3, e1, e2, e3⟩ := hat.shape
      obtain ⟨p0, p1, p2, p3, p4, p5, p6⟩ := hat.cells HB.out
      obtain ⟨dn, n, vd, va, ed, kv, ks⟩ := A
      dsimp only at *
      subst e1 e2 e3
      clear hat
      go_wp2_with fail
      refine (great_any wr 0 0 ed.next ed.log none a1 a2 0 0 ed.drop.length c1 ed.add.length c2).mono ?_
      rintro e w4 ⟨rfl, hb4⟩
      have HB4 := Lib.hid (HB.out.trans (hb4.mono HB.out.size))
      have hbbw : bb < wr.heap.size := World.block_lt_of_cell? wr _ p0
      have p6' : w4.cell? ⟨bb, oo + k * 7 + 6, none⟩ = some (.slice a3 ks.length c3) := (hb4.cell (p := ⟨bb, oo + k * 7 + 6, none⟩) hbbw).trans p6
      clear hb4 p0 p1 p2 p3 p4 p5 p6
      generalize hg : (decide (300 < 0) || decide (300 < ed.add.length) || decide (300 < ed.drop.length)) = g at *
      cases g with
      | true =>
        go_wp2_with fail
        go_ret
        exact ⟨rfl, HB4.out⟩
      | false =>
        by_cases hk1 : 1000 < ks.length
        · have ik : ((1000 : Int) < (ks.length : Int)) := by omega
          clear hg
          go_wp2_with fail
          go_ret
          exact ⟨rfl, HB4.out⟩
        · have ik : ((ks.length : Int) ≤ 1000) := by omega
          have HN := Lib.hid (HNA.out ⟨by show ed.add.length ≤ 300; simp at hg; omega, by show ed.drop.length ≤ 300; simp at hg; omega, by show ks.length ≤ 1000; omega⟩)
          clear hg
          go_wp2_with fail
          exact ⟨⟨k + 1, by omega, by go_num, HN, HB4⟩, by simp [intOf]; omega⟩
    · have HSM := Lib.hid (show ∀ j (hj : j < L.length), Small L[j] from fun j hj => HA.out j hj (by omega))
      clear HA
      go_wp2_with fail
      refine (new_any wr).mono ?_
      rintro e w5 ⟨rfl, hd5, hb5⟩
      have HD5 := Lib.hid hd5
      have HB5 := Lib.hid (HB.out.trans (hb5.mono HB.out.size))
      have hz5 : wr.heap.size + 1 < w5.heap.size := World.block_lt_of_cell? w5 _ hd5.c0
      have hzr : W.heap.size ≤ wr.heap.size := HB.out.size
      clear hd5 hb5
      have HW0 := Lib.hid (show W0 (w5.alloc (.cells #[.pointer (some ⟨wr.heap.size + 1, 0, none⟩), .pointer none, .int .i64 1, .int .i64 0, .slice none 0 0, .int .i64 1, .int .i64 0, .slice none 0 0, .bool false] 74)) w5.heap.size (wr.heap.size + 1) wr.heap.size (.pointer none) d0 ⟨1, 0, []⟩ ⟨1, 0, []⟩ false from
        ⟨HD5.out.below (bl1 _ _), Fit.d0, by omega, by omega, _, _, heap_alloc_new w5 _, FRow.nil _ _, FRow.nil _ _⟩)
      go_wp2_with fail
      refine (wopen_any _ w5.heap.size (wr.heap.size + 1) wr.heap.size (.pointer none) d0 ⟨1, 0, []⟩ ⟨1, 0, []⟩ ⟨1, 0, []⟩ false HW0.out (fun s e => by cases e) rfl d0_kpt (.inl rfl) (by simp) (fun f hf => by cases hf)).mono ?_
      rintro e w6 ⟨rfl, hd6, hb6⟩
      have HPI := Lib.hid (show PI W w6 w5.heap.size (wr.heap.size + 1) wr.heap.size from PI.turn (HB5.out.trans ((bl1 _ _).mono HB5.out.size)) hb6 (by simp; omega) hd6 pd_zero (by simp; omega))
      have hXW : W.heap.size ≤ w5.heap.size := by omega
      clear hd6 hb6
      generalize w5.heap.size = X at *
      have hbW : W.heap.size ≤ wr.heap.size + 1 := by omega
      generalize wr.heap.size + 1 = b at *
      generalize wr.heap.size = m at *
      clear HW0 HD5 hz5
      go_wp2_with fail
      go_loopw [5] (fun i wr => ∃ k : Nat, k ≤ L.length ∧ i = .int .i64 k ∧ Hid (PI W wr X b m)) (fun i _ => L.length - (intOf i).toNat)
      case atStart => exact ⟨0, by omega, rfl, HPI.out⟩
      case round =>
        obtain ⟨k, hk, rfl, HPK⟩ := hrel
        by_cases hlt : k < L.length
        rotate_left
        · go_wp2_with fail
          go_ret
          exact ⟨rfl, HPK.out.bel⟩
        obtain ⟨bb, oo, rfl, hbl, hcc⟩ := HL.out (by omega)
        have hat := hcc k hlt
        have hsm := HSM.out k hlt
        clear hcc
        generalize L[k] = A at *
        obtain ⟨a1, c1, a2, c2, a3, c3, e1, e2, e3⟩ := hat.shape
        obtain ⟨p0, p1, p2, p3, p4, p5, p6⟩ := hat.cells HPK.out.bel
        have HED := Lib.hid hat.ed
        have hks := hat.ks
        have hn1 := hat.n1
        obtain ⟨dn, n, vd, va, ed, kv, ks⟩ := A
        dsimp only at *
        subst e1 e2 e3
        have HKS := Lib.hid (irow_get hks)
        obtain ⟨hs1, hs2, hs3⟩ := hsm
        dsimp only at hs1 hs2 hs3
        clear hat hks
        have hbbw : bb < wr.heap.size := World.block_lt_of_cell? wr _ p0
        obtain ⟨wa, hwa⟩ : ∃ wa, wr.alloc (.cells #[.int .i64 dn, .slice a1 ed.drop.length c1, .slice a2 ed.add.length c2, .int .i64 ed.next, .int .i64 ed.log, .int .i64 n, .slice a3 ks.length c3] 71) = wa := ⟨_, rfl⟩
        have hba : Below wr.heap.size wr wa := by rw [← hwa]; exact bl1 _ _
        have hab : wa.heap[wr.heap.size]? = some (.cells (acells dn n (.slice a1 ed.drop.length c1) (.slice a2 ed.add.length c2) ed (.slice a3 ks.length c3)) 71 (0, 0)) := by rw [← hwa]; exact heap_alloc_new _ _
        have HWA := Lib.hid hwa
        have HAB := Lib.hid hab
        obtain ⟨x, d, S, bd, hwd0, hpd, hlx⟩ := HPK.out.ex
        have hwd := hwd0.quiet hba
        have hlts : x < wr.heap.size ∧ X < wr.heap.size ∧ b < wr.heap.size ∧ m < wr.heap.size := by
          obtain ⟨vs, vt, hxb, -⟩ := hwd0.blk
          exact ⟨hwd0.mn.lt, heap_lt hxb, hwd0.mn.dat.lt, hwd0.mn.dat.map.lt⟩
        have HBA := Lib.hid (HPK.out.bel.trans (hba.mono HPK.out.bel.size))
        have hla := heap_lt hab
        have HAW := Lib.hid (show ∀ w' l, But l wa w' → (∀ k ∈ l, k ≠ wr.heap.size) → w'.heap[wr.heap.size]? = some (.cells (acells dn n (.slice a1 ed.drop.length c1) (.slice a2 ed.add.length c2) ed (.slice a3 ks.length c3)) 71 (0, 0)) from fun w' l Y hn => (Y.block _ hla (fun h => hn _ h rfl)).trans hab)
        clear hwa hba hab hwd0
        go_upto_block 4 with (fail)
        rw [HWA.out]
        clear p0 p1 p2 p3 p4 p5 p6
        obtain ⟨d0', ⟨d1, d2, d3, d4⟩, d5, d6, al⟩ := ac HAB.out
        have HWD := Lib.hid hwd
        have HPD := Lib.hid hpd
        obtain ⟨vs, vt, hxb, hrs, -⟩ := hwd.blk
        obtain ⟨sa, sc, rfl⟩ : ∃ a c, vs = .slice a S.fs.length c := by obtain ⟨⟨a, c, e, _⟩, _⟩ := hrs; exact ⟨a, c, e⟩
        have HXB := Lib.hid hxb
        obtain ⟨c0, c1x, -, -, -, fz, xl⟩ := wcAll hxb
        clear hwd hpd hxb hrs
        have HKB := Lib.hid (show 0 < ks.length → ∃ kb ko, a3 = some ⟨kb, ko, none⟩ ∧ (kb ≠ b ∧ kb ≠ m ∧ kb ≠ x ∧ kb ≠ X) ∧ ∀ i, i < ks.length → wa.cell? ⟨kb, ko + i, none⟩ = some (.int .i64 (ks.getD i 0)) from fun h0 => by
          obtain ⟨kb, ko, e, hkl, hc⟩ := HKS.out h0
          exact ⟨kb, ko, e, ⟨by omega, by omega, by omega, by omega⟩, fun i hi => (HBA.out.cell (p := ⟨kb, ko + i, none⟩) hkl).trans (hc i hi)⟩)
        have HKB2 := Lib.hid (show 0 < ks.length → ∃ kb ko, a3 = some ⟨kb, ko, none⟩ ∧ kb ≠ b ∧ ∀ i, i < ks.length → wa.cell? ⟨kb, ko + i, none⟩ = some (.int .i64 (ks.getD i 0)) from fun h0 => by
          obtain ⟨kb, ko, e, hne, hc⟩ := HKB.out h0
          exact ⟨kb, ko, e, hne.1, hc⟩)
        have HEA := Lib.hid (show EdAt wa (.slice a1 ed.drop.length c1) (.slice a2 ed.add.length c2) ed from HED.out.below HBA.out)
        have HSS := Lib.hid (st_small HPD.out.chk)
        have HZ0 := Lib.hid (show But [b, m] wa wa.drew from (But.refl _ _).drew)
        have HXW := Lib.hid (show ∀ w', But [b, m] wa w' → (w'.cell? ⟨X, 0, none⟩ = some (.pointer (some ⟨b, 0, none⟩)) ∧ w'.cell? ⟨wr.heap.size, 5, none⟩ = some (.int .i64 n)) from fun w' Y =>
          ⟨(wcAll ((Y.block X (by omega) (by simp; exact ⟨HWD.out.xb, HWD.out.xm⟩)).trans HXB.out)).1, (ac (HAW.out w' _ Y (fun k hk => by simp at hk; omega))).2.2.1⟩)
        have HBK0 := Lib.hid (show Bk wa wa.drew b m d from ⟨HWD.out.mn.dat.below (Below.refl _ _).drew, HWD.out.mn.ok, HZ0.out⟩)
        have hbx : b ≠ X ∧ m ≠ X := ⟨HWD.out.xb.symm, HWD.out.xm.symm⟩
        have HFT := Lib.hid (show PD d S bd → ∀ q, PD { d with fuse := q } S bd from fun h q => ⟨h.up, h.kpt, h.non, h.chk, h.rm⟩)
        go_cut [8] (fun _ wx => Hid (PI W wx X b m))
        case first =>
          by_cases e0 : dn = 0
          · have f0 : (dn == 0) = true := by simpa using e0
            have H0 := Lib.hid e0
            clear e0
            go_wp2_with fail
            refine (wcommit_any wa X x b m d S bd HWD.out HPD.out dn n _ _ ed HEA.out hs2 hs1 a3 ks.length c3 ks rfl hs3 HKB.out).mono ?_
            rintro e w5 ⟨rfl, x', d', S', hw5, hp5, hx5, hb5⟩
            have HF := Lib.hid (show PI W w5 X b m from PI.turn HBA.out hb5 (by simp; omega) hw5 hp5 (by omega))
            clear hw5 hp5 hb5
            go_wp2_with fail
            go_meet
            exact HF
          have f0 : (dn == 0) = false := by simpa using e0
          by_cases e1 : dn = 1
          · have f1 : (dn == 1) = true := by simpa using e1
            clear e0 e1
            go_wp2_with fail
            refine (wagain_any wa X b m _ d S S S bd HWD.out.w0 pnt HPD.out.kpt (.inl rfl) HSS.out.1 HSS.out.2 a3 ks.length c3 ks rfl hs3 HKB2.out).mono ?_
            rintro e w5 ⟨rfl, x', hx5, hw5, hb5⟩
            have HF := Lib.hid (show PI W w5 X b m from PI.turn HBA.out hb5 (by simp; omega) hw5 (PD.again HPD.out.kpt HPD.out.rm HPD.out.non HPD.out.chk ks) (by have := HBA.out.size; omega))
            clear hw5 hb5
            go_wp2_with fail
            go_meet
            exact HF
          have f1 : (dn == 1) = false := by simpa using e1
          by_cases e2 : dn = 2
          · have f2 : (dn == 2) = true := by simpa using e2
            clear e0 e1 e2
            go_upto_region 25 with (fail)
            go_region_held3 (fun w' => w'.cell? ⟨X, 0, none⟩ = some (.pointer (some ⟨b, 0, none⟩)) ∧ w'.cell? ⟨wr.heap.size, 5, none⟩ = some (.int .i64 n))
              (first | with_reducible exact HXW.out _ HZ0.out | with_reducible exact HXW.out _ YA | assumption)
              (first
                | (go_at_call 27; ((with_reducible refine (HBK0.out.fuse n hn1 rfl).mono ?_); rintro e w5 ⟨rfl, hk5⟩; have YA := hk5.but)))
            have HF := Lib.hid (show PI W w5 X b m from PI.turn HBA.out YA (by simp; omega) (HWD.out.bk hk5) (HFT.out HPD.out _) hlx)
            clear hk5 YA
            go_wp2_with fail
            go_meet
            exact HF
          have f2 : (dn == 2) = false := by simpa using e2
          by_cases e3 : dn = 3
          · have f3 : (dn == 3) = true := by simpa using e3
            clear e0 e1 e2 e3
            go_upto_region 27 with (fail)
            go_region_held3 (fun w' => w'.cell? ⟨X, 0, none⟩ = some (.pointer (some ⟨b, 0, none⟩)) ∧ w'.cell? ⟨wr.heap.size, 5, none⟩ = some (.int .i64 n))
              (first | with_reducible exact HXW.out _ HZ0.out | with_reducible exact HXW.out _ YA | assumption)
              (first
                | (go_at_call 34; ((with_reducible refine (HBK0.out.room n hn1 rfl).mono ?_); rintro e w5 ⟨rfl, hk5⟩; have YA := hk5.but)))
            have HYA := Lib.hid YA
            have HW5 := Lib.hid (HWD.out.bk hk5)
            have hz5 : wa.heap.size ≤ w5.heap.size := YA.size
            clear hk5 YA c0 c1x fz xl d0' d1 d2 d3 d4 d5 d6 al
            obtain ⟨vs5, vt5, hx5, -, -⟩ := HW5.out.blk
            obtain ⟨c0, c1x, -, -, c8, fz, xl⟩ := wcAll hx5
            obtain ⟨-, d5⟩ := HXW.out w5 HYA.out
            have hal5 : wr.heap.size < w5.heap.size := by omega
            clear hx5
            have HSB := Lib.hid (show ∀ q, PI W (w5.setCell ⟨X, 8, none⟩ (.bool q)) X b m ∨ ¬ (0 ≤ n → q = true) from fun q => by
              by_cases hq : 0 ≤ n → q = true
              · obtain ⟨k1, k2⟩ := HW5.out.setB q
                exact .inl (PI.turn (l := [b, m, X]) HBA.out ((HYA.out.wider (by simp)).trans (k2.wider (by simp))) (by simp; omega) k1 ⟨HPD.out.up, HPD.out.kpt, HPD.out.non, HPD.out.chk, fun h => hq (by have : 0 ≤ max n (-1) := h; omega)⟩ hlx)
              · exact .inr hq)
            have HF := Lib.hid ((HSB.out (decide (0 ≤ n))).resolve_right (fun h => h (fun h2 => decide_eq_true h2)))
            clear HSB
            go_wp2_with fail
            go_meet
            exact HF
          have f3 : (dn == 3) = false := by simpa using e3
          by_cases e4 : dn = 4
          · have f4 : (dn == 4) = true := by simpa using e4
            clear e0 e1 e2 e3 e4
            go_wp2_with fail
            refine (wopen_any wa X b m _ d S S S bd HWD.out.w0 pnt HPD.out.up HPD.out.kpt (.inl rfl) HSS.out.1 HSS.out.2).mono ?_
            rintro e w5 ⟨rfl, hw5, hb5⟩
            have HF := Lib.hid (show PI W w5 X b m from PI.turn HBA.out hb5 (by simp; omega) hw5 HPD.out (by have := HBA.out.size; omega))
            clear hw5 hb5
            go_wp2_with fail
            go_meet
            exact HF
          have f4 : (dn == 4) = false := by simpa using e4
          by_cases e5 : dn = 5
          · have f5 : (dn == 5) = true := by simpa using e5
            clear e0 e1 e2 e3 e4 e5
            go_wp2_with fail
            refine (state_any wa x b m d S false HWD.out.mn (by have := HSS.out; omega)).mono ?_
            rintro e w5 ⟨v, rfl, hown, hb5⟩
            obtain ⟨va, vc, rfl⟩ := own_slice hown
            unfold stv
            have HOW := Lib.hid hown
            have HB5 := Lib.hid hb5
            clear hown hb5
            have HSB0 := Lib.hid (heap_alloc_new w5 (.cells #[.int .i64 S.next, .int .i64 S.log, .slice va S.fs.length vc] 24))
            have HPW := Lib.hid (show PI W wa X b m from PI.turn (l := []) HBA.out (But.refl _ _) (by simp) HWD.out HPD.out hlx)
            have hsl := HSS.out.1
            obtain ⟨wq, rfl⟩ : ∃ wq : World, wq = wr := ⟨_, rfl⟩
            go_wp2_with fail
            go_loopw [8] (fun i wx => ∃ k2 : Nat, k2 ≤ S.fs.length ∧ i = .int .i64 k2 ∧ Hid (∃ xs, wx.ownsRow wa.heap.size 29 5 (.slice va S.fs.length vc) S.fs.length xs) ∧ Hid (wx.heap[w5.heap.size]? = some (.cells #[.int .i64 S.next, .int .i64 S.log, .slice va S.fs.length vc] 24 (0, 0))) ∧ Hid (Below wa.heap.size wa wx)) (fun i _ => S.fs.length - (intOf i).toNat)
            case atStart => exact ⟨0, by omega, rfl, ⟨_, HOW.out.alloc _⟩, HSB0.out, HB5.out.trans ((bl1 _ _).mono HB5.out.size)⟩
            case round =>
              obtain ⟨k2, hk2, rfl, HXS, HSX, HBX⟩ := hrel
              obtain ⟨xs, hxs⟩ := HXS.out
              obtain ⟨s0', s1', s2', -⟩ := stz HSX.out
              have hsx := heap_lt HSX.out
              by_cases hk2l : k2 < S.fs.length
              · obtain ⟨g, rfl⟩ : ∃ g, va = some ⟨g, 0, none⟩ := by
                  rcases hxs.2 with ⟨e, hn⟩ | ⟨g, cap, cur, e, _⟩
                  · omega
                  · injection e with e1; exact ⟨g, e1⟩
                have hxl2 : xs.length = S.fs.length * 5 := hxs.1
                have hcell : wr.cell? ⟨g, k2 * 5, none⟩ = some xs[k2 * 5] := by
                  rw [hxs.cellAt (k2 * 5) (by omega)]; exact List.getElem?_eq_getElem (by omega)
                have hfr := hxs.frozenAt (k2 * 5)
                have hgb : wa.heap.size ≤ g := (hxs.lt g rfl).1
                have hgl : g < wr.heap.size := (hxs.lt g rfl).2
                obtain ⟨hst, hgr⟩ := hxs.stored (k2 * 5) (.int .i64 0)
                have hne : g ≠ w5.heap.size := fun e => own_type (T' := 24) hxs HSX.out (by decide) (by rw [e]; rfl)
                have HN1 := Lib.hid (show ∃ ys, (wr.setCell ⟨g, k2 * 5, none⟩ (.int .i64 0)).ownsRow wa.heap.size 29 5 (.slice (some ⟨g, 0, none⟩) S.fs.length vc) S.fs.length ys from ⟨_, hst⟩)
                have HN2 := Lib.hid (show (wr.setCell ⟨g, k2 * 5, none⟩ (.int .i64 0)).heap[w5.heap.size]? = some (.cells #[.int .i64 S.next, .int .i64 S.log, .slice (some ⟨g, 0, none⟩) S.fs.length vc] 24 (0, 0)) from (Below.heap_setCell _ _ _ _ hne.symm).trans HSX.out)
                have HN3 := Lib.hid (show Below wa.heap.size wa (wr.setCell ⟨g, k2 * 5, none⟩ (.int .i64 0)) from HBX.out.setCell hgb _)
                generalize xs[k2 * 5] = u at *
                clear hxs hst hgr HXS hxl2
                go_wp2_with fail
                exact ⟨⟨k2 + 1, by omega, by go_num, HN1, HN2, HN3⟩, by simp [intOf]; omega⟩
              · have HF := Lib.hid (HPW.out.quiet HBX.out)
                clear hxs
                go_wp2_with fail
                go_meet
                exact HF
          have f5 : (dn == 5) = false := by simpa using e5
          have HF := Lib.hid (show PI W wa X b m from PI.turn (l := []) HBA.out (But.refl _ _) (by simp) HWD.out HPD.out hlx)
          clear e0 e1 e2 e3 e4 e5
          go_wp2_with fail
          go_meet
          exact HF
        case rest =>
          have HPJ := hcut
          clear hcut HWD HPD HXB HKB HKB2 HEA HSS HXW HBK0 HFT c0 c1x fz xl d0' d1 d2 d3 d4 d5 d6
          obtain ⟨x, d, S, bd, hwd, hpd, hlx⟩ := HPJ.out.ex
          obtain ⟨vs, vt, hxb, hrs, -⟩ := hwd.blk
          obtain ⟨sa, sc, rfl⟩ : ∃ a c, vs = .slice a S.fs.length c := by obtain ⟨⟨a, c, e, _⟩, _⟩ := hrs; exact ⟨a, c, e⟩
          have HSS := Lib.hid (st_small hpd.chk)
          have HMN := Lib.hid hwd.mn
          have HXB := Lib.hid hxb
          have HRS := Lib.hid hrs
          obtain ⟨c0, c1x, ⟨c2x, c3x, c4x⟩, -, -, fz, xl⟩ := wcAll hxb
          have HCX := Lib.hid (show ∀ w', Below wc.heap.size wc w' → (w'.cell? ⟨X, 1, none⟩ = some (.pointer (some ⟨x, 0, none⟩)) ∧ (w'.cell? ⟨X, 2, none⟩ = some (.int .i64 S.next) ∧ w'.cell? ⟨X, 3, none⟩ = some (.int .i64 S.log) ∧ w'.cell? ⟨X, 4, none⟩ = some (.slice sa S.fs.length sc))) from fun w' Y => by
            have := wcAll ((Y.block X (heap_lt HXB.out)).trans HXB.out)
            exact ⟨this.2.1, this.2.2.1⟩)
          have HST := Lib.hid (show ∀ w' , Below wc.heap.size wc w' → Calls Tryz.prog 17 #[.pointer (some ⟨x, 0, none⟩)] w' (fun e w'' => ∃ a c, e = .returned (.agg #[.int .i64 S.next, .int .i64 S.log, .slice a S.fs.length c]) ∧ FRow (w'.heap.size ≤ ·) w'' (.slice a S.fs.length c) S.fs ∧ Below w'.heap.size w' w'') from fun w' Y => by
            refine (state_any w' _ _ _ _ _ _ (HMN.out.quiet Y) (by have := HSS.out; omega)).mono ?_
            rintro e w'' ⟨v, rfl, hown, hb⟩
            obtain ⟨a, c, rfl⟩ := own_slice hown
            exact ⟨a, c, rfl, FRow.own hown HSS.out.2, hb⟩)
          have HSA := Lib.hid (show ∀ w' (SQ : Nat → Prop) a c, Below wc.heap.size wc w' → FRow SQ w' (.slice a S.fs.length c) S.fs → Calls Tryz.prog 10 #[.agg #[.int .i64 S.next, .int .i64 S.log, .slice a S.fs.length c], .agg #[.int .i64 S.next, .int .i64 S.log, .slice sa S.fs.length sc]] w' (fun e w'' => e = .returned (.bool true) ∧ Below w'.heap.size w' w'') from fun w' SQ a c hb hr => by
            have := lsame_any _ _ w' S S _ _ hr (HRS.out.below hb) (by have := HSS.out; omega)
            rw [stEq_refl] at this
            exact this)
          have HY0 := Lib.hid (show Below wc.heap.size wc wc.drew from (Below.refl _ _).drew)
          clear hwd hpd hxb hrs
          go_upto_region 38 with (fail)
          go_region_held3 (fun w' => w'.cell? ⟨X, 1, none⟩ = some (.pointer (some ⟨x, 0, none⟩)) ∧ (w'.cell? ⟨X, 2, none⟩ = some (.int .i64 S.next) ∧ w'.cell? ⟨X, 3, none⟩ = some (.int .i64 S.log) ∧ w'.cell? ⟨X, 4, none⟩ = some (.slice sa S.fs.length sc)))
            (first | with_reducible exact HCX.out _ HY0.out | with_reducible exact HCX.out _ YA | with_reducible exact HCX.out _ YB | assumption)
            (first
              | (go_at_call 17; ((with_reducible refine (HST.out _ HY0.out).mono ?_); rintro e wA ⟨ga, gc, rfl, hrA, hbA⟩; have YA := HY0.out.trans (hbA.mono HY0.out.size)))
              | (go_at_call 10; ((with_reducible refine (HSA.out _ _ _ _ YA hrA).mono ?_); rintro e wB ⟨rfl, hbB⟩; have YB := YA.trans (hbB.mono YA.size))))
          have HF := Lib.hid (HPJ.out.quiet YB)
          clear YA YB hbA hbB hrA
          go_wp2_with fail
          exact ⟨⟨k + 1, by omega, by go_num, HF⟩, by simp [intOf]; omega⟩
end
end Go.Proofs.YtiiafpbonkcokaaGreat
