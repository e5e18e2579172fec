/-
  What is known of files ('[]kept'): 'but', 'of'; 'begins'.
-/
import Derived.Test.YtmhflhbogkkblaaAc
import Derived.Test.YtmhflhbogkkblaaIk
import Derived.Test.YtmhflhbogkkblaaQu
import Derived.Deep.RegionLaw
import Derived.Deep.AppendLies
import Derived.OwnWalk
namespace Go.Proofs.Ytmhflhbogkkblaa
open Go.RowKit Go.Maps

abbrev P2 := ByteArray × ByteArray
def pcells : List P2 → List Value
  | [] => []
  | p :: r => .string p.1 :: .string p.2 :: pcells r
theorem pcells_append : ∀ (l r : List P2), pcells (l ++ r) = pcells l ++ pcells r
  | [], _ => rfl
  | p :: l, r => by simp [pcells, pcells_append l r]
theorem pcells_at : ∀ (l : List P2) (i : Nat) (h : i < l.length), (pcells l)[i * 2]? = some (.string l[i].1) ∧ (pcells l)[i * 2 + 1]? = some (.string l[i].2)
  | p :: r, 0, _ => ⟨rfl, rfl⟩
  | p :: r, i + 1, h => by
    have := pcells_at r i (by simpa using h)
    rw [show (i + 1) * 2 = i * 2 + 2 by omega]
    simpa [pcells] using this
theorem pcells_len : ∀ l : List P2, (pcells l).length = l.length * 2
  | [] => rfl
  | p :: r => by simp [pcells, pcells_len r]; omega
/-- the cells of a list of them from block g's head on -/
def sureCells (g : Nat) (L : List P2) : List (Nat × Nat × Value) := L.zipIdx.flatMap fun q => [(g, q.2 * 2, .string q.1.1), (g, q.2 * 2 + 1, .string q.1.2)]
theorem sure_at {g : Nat} {L : List P2} {i : Nat} (h : i < L.length) : (g, i * 2, Value.string L[i].1) ∈ sureCells g L ∧ (g, i * 2 + 1, Value.string L[i].2) ∈ sureCells g L := by
  have hm : (L[i], i) ∈ L.zipIdx := by rw [List.mk_mem_zipIdx_iff_getElem?]; exact List.getElem?_eq_getElem h
  exact ⟨List.mem_flatMap.2 ⟨_, hm, by simp⟩, List.mem_flatMap.2 ⟨_, hm, by simp⟩⟩
theorem sure_of {g : Nat} {L : List P2} {c : Nat × Nat × Value} (h : c ∈ sureCells g L) : ∃ i, ∃ hi : i < L.length, c = (g, i * 2, .string L[i].1) ∨ c = (g, i * 2 + 1, .string L[i].2) := by
  obtain ⟨⟨p, i⟩, hm, hc⟩ := List.mem_flatMap.1 h
  rw [List.mk_mem_zipIdx_iff_getElem?] at hm
  obtain ⟨hi, rfl⟩ := List.getElem?_eq_some_iff.1 hm
  refine ⟨i, hi, ?_⟩
  simpa using hc
/-- v reads as the list L, from block g's head on -/
structure SuR (w : World) (v : Value) (g : Nat) (L : List P2) : Prop where
  v : ∃ a cap, v = .slice a L.length cap ∧ (0 < L.length → a = some ⟨g, 0, none⟩)
  c : ∀ c ∈ sureCells g L, w.cell? ⟨c.1, c.2.1, none⟩ = some c.2.2
/-- v is such a list of the call's own -/
structure SuO (w : World) (B : Nat) (v : Value) (L : List P2) : Prop where
  own : w.ownsRow B 48 2 v L.length (pcells L)
theorem SuO.read {w : World} {B : Nat} {v : Value} {L : List P2} (h : SuO w B v L) : ∃ g, SuR w v g L ∧ (0 < L.length → B ≤ g ∧ g < w.heap.size) := by
  obtain ⟨h1, h2⟩ := h.own
  rcases h2 with ⟨rfl, hn⟩ | ⟨g, cap, cur, rfl, hg, hb, hnc, _, hcs, ht⟩
  · have hL : L = [] := List.eq_nil_of_length_eq_zero hn
    subst hL
    exact ⟨0, ⟨⟨none, 0, rfl, fun h => absurd h (by decide)⟩, fun c hc => by cases hc⟩, fun h => absurd h (by decide)⟩
  · refine ⟨g, ⟨⟨_, cap, rfl, fun _ => rfl⟩, fun c hc => ?_⟩, fun _ => ⟨hg, (Array.getElem?_eq_some_iff.1 hb).1⟩⟩
    have e : ∀ j, w.cell? ⟨g, j, none⟩ = cur[j]? := fun j => by simp [World.cell?, hb]
    have h3 : ∀ (j : Nat) (u : Value), (pcells L)[j]? = some u → cur[j]? = some u := by
      intro j u hj
      rw [← ht, List.getElem?_take] at hj
      split at hj
      · simpa using hj
      · cases hj
    obtain ⟨i, hi, rfl | rfl⟩ := sure_of hc
    · rw [e]; exact h3 _ _ (pcells_at L i hi).1
    · rw [e]; exact h3 _ _ (pcells_at L i hi).2
theorem SuR.below {w w' : World} {v : Value} {g : Nat} {L : List P2} (h : SuR w v g L) (hb : Below w.heap.size w w') : SuR w' v g L :=
  ⟨h.v, fun c hc => (hb.cell (p := ⟨c.1, c.2.1, none⟩) (cell_lt (h.c c hc))).trans (h.c c hc)⟩
theorem SuO.below {w w' : World} {B : Nat} {v : Value} {L : List P2} (h : SuO w B v L) (hb : Below w.heap.size w w') : SuO w' B v L :=
  ⟨h.own.kept (row := none) ⟨hb.os, hb.tape, hb.output, hb.size, fun k hk _ => hb.block k hk⟩ (by cases hv : v.ownBlock <;> simp)⟩

def dropL (L : List P2) (name : ByteArray) : List P2 := L.filter fun p => !(p.1.toList == name.toList)
theorem dropL_step (L : List P2) (name : ByteArray) (i : Nat) (hi : i < L.length) : dropL (L.take (i + 1)) name = if (L[i].1.toList == name.toList) = true then dropL (L.take i) name else dropL (L.take i) name ++ [L[i]] := by
  unfold dropL
  rw [List.take_succ_eq_append_getElem hi, List.filter_append]
  by_cases h : (L[i].1.toList == name.toList) = true
  · rw [if_pos h]; simp [h]
  · rw [if_neg h]; simp [h]
theorem info_kept : (Try.prog.info? 48).map (fun i => (i.zero, i.size, i.bytes)) = some (some (.agg #[.string ⟨#[]⟩, .string ⟨#[]⟩]), 2, 32) := by kernel_rfl

set_option maxRecDepth 100000 in
set_option maxHeartbeats 1000000 in
theorem but_any (w : World) (v : Value) (g : Nat) (L : List P2) (name : ByteArray) (hL : L.length ≤ 1000) (h : SuR w v g L) :
    Calls Try.prog 21 #[v, .string name] w fun e w' => (∃ u, e = .returned u ∧ SuO w' w.heap.size u (dropL L name)) ∧ Below w.heap.size w w' := by
  obtain ⟨⟨a, cap, rfl, ha⟩, hc⟩ := h
  obtain ⟨i0, hi0, hz0, hz1, hz2⟩ := info_parts info_kept
  have HC := Lib.hid hc
  have HA := Lib.hid ha
  clear hc ha
  go_enter Try.func21, Try.ntmps21
  go_wp2_with fail
  go_loopw [5, 6] (fun mv i wr => ∃ K : Nat, K ≤ L.length ∧ i = .int .i64 K ∧ Hid (SuO wr w.heap.size mv (dropL (L.take K) name)) ∧ Hid (Below w.heap.size w wr)) (fun _ i _ => L.length - (intOf i).toNat)
  case atStart => exact ⟨0, Nat.zero_le _, rfl, ⟨World.ownsRow_nil _ _ _ _⟩, Below.refl _ _⟩
  case round =>
    obtain ⟨K, hK, rfl, HO, HB⟩ := hrel
    by_cases hlt : K < L.length
    · obtain rfl := HA.out (by omega)
      have hs := sure_at (g := g) hlt
      have q1 : wr.cell? ⟨g, K * 2, none⟩ = some (.string L[K].1) := (HB.out.cell (p := ⟨g, K * 2, none⟩) (cell_lt (HC.out _ hs.1))).trans (HC.out _ hs.1)
      have q2 : wr.cell? ⟨g, K * 2 + 1, none⟩ = some (.string L[K].2) := (HB.out.cell (p := ⟨g, K * 2 + 1, none⟩) (cell_lt (HC.out _ hs.2))).trans (HC.out _ hs.2)
      have HD := Lib.hid (dropL_step L name K hlt)
      have HLn := Lib.hid (show (dropL (L.take K) name).length ≤ 1000 from Nat.le_trans (List.length_filter_le _ _) (by rw [List.length_take]; omega))
      clear hs
      generalize L[K] = p at *
      cases hne : (p.1.toList == name.toList) with
      | false =>
        have HNE := Lib.hid hne
        go_wp2_with (first
          | (at_builtin; refine wpList_append_own _ rfl _ _ 42 rfl w.heap.size 48 i0 (.agg #[.string ⟨#[]⟩, .string ⟨#[]⟩]) 2 32 Try.underlying42 hi0 hz0 hz1 hz2 rfl (by decide) _ _ _ rfl (HO.out.own.alloc _) ⟨wr.heap.size, 0, none⟩ 1 1 [.string p.1, .string p.2] rfl rfl (World.news_of_block (cs := #[.string p.1, .string p.2]) (t := 48) (fr := (0, 0)) (heap_alloc_new wr _)) (by simp [Value.oneCell']) (by have := HLn.out; unfold maxLen; omega) (by have := HLn.out; omega) (by have := HB.out.size; simp; omega) ?_; intro v' w1 hown1 hgrow _)
          | fail)
        have e : dropL (L.take (K + 1)) name = dropL (L.take K) name ++ [p] := by rw [HD.out, if_neg (by rw [HNE.out]; decide)]
        have hfin : SuO w1 w.heap.size v' (dropL (L.take (K + 1)) name) := by
          rw [e]
          refine ⟨?_⟩
          rw [pcells_append, List.length_append]
          exact hown1
        have hbel : Below w.heap.size w w1 := (HB.out.alloc HB.out.size _).grown hgrow (by have := HB.out.size; simp; omega) (fun j hj => (HO.out.own.lt j hj).1)
        exact ⟨⟨K + 1, by omega, by go_num, hfin, hbel⟩, by simp [intOf]; omega⟩
      | true =>
        have HNE := Lib.hid hne
        go_wp2_with fail
        exact ⟨⟨K + 1, by omega, by go_num, by rw [HD.out, if_pos HNE.out]; exact HO, HB⟩, by simp [intOf]; omega⟩
    · have e : dropL (L.take K) name = dropL L name := by rw [List.take_of_length_le (by omega)]
      rw [e] at HO
      go_wp2_with fail
      go_ret
      exact ⟨⟨_, rfl, HO.out⟩, HB.out⟩

def ofS (L : List P2) (name : ByteArray) : ByteArray := match L.find? (fun p => p.1.toList == name.toList) with | some p => p.2 | none => ⟨#[]⟩
def ofB (L : List P2) (name : ByteArray) : Bool := (L.find? (fun p => p.1.toList == name.toList)).isSome
theorem find_first {α : Type} (p : α → Bool) : ∀ (L : List α) (i : Nat) (hi : i < L.length), (∀ j (hj : j < L.length), j < i → p L[j] = false) → p L[i] = true → L.find? p = some L[i]
  | a :: r, 0, _, _, h => by simp at h; simp [h]
  | a :: r, i + 1, hi, h1, h2 => by
    have h0 : p a = false := h1 0 (by simp) (by omega)
    rw [List.find?_cons, h0]
    exact find_first p r i (by simpa using hi) (fun j hj hji => h1 (j + 1) (by simpa using hj) (by omega)) h2

set_option maxRecDepth 100000 in
set_option maxHeartbeats 1000000 in
theorem of_any (w : World) (v : Value) (g : Nat) (L : List P2) (name : ByteArray) (hL : L.length ≤ 1000) (h : SuR w v g L) :
    Calls Try.prog 23 #[v, .string name] w fun e w' => e = .returned (.tuple #[.string (ofS L name), .bool (ofB L name)]) ∧ Below w.heap.size w w' := by
  obtain ⟨⟨a, cap, rfl, ha⟩, hc⟩ := h
  have HC := Lib.hid hc
  have HA := Lib.hid ha
  clear hc ha
  go_enter Try.func23, Try.ntmps23
  go_wp2_with fail
  go_loopw [6] (fun i wr => ∃ K : Nat, K ≤ L.length ∧ i = .int .i64 K ∧ Hid (∀ j (hj : j < L.length), j < K → (L[j].1.toList == name.toList) = false) ∧ Hid (Below w.heap.size w wr)) (fun i _ => L.length - (intOf i).toNat)
  case atStart => exact ⟨0, Nat.zero_le _, rfl, (fun j _ h => absurd h (by omega)), Below.refl _ _⟩
  case round =>
    obtain ⟨K, hK, rfl, HN, HB⟩ := hrel
    by_cases hlt : K < L.length
    · obtain rfl := HA.out (by omega)
      have hs := sure_at (g := g) hlt
      have q1 : wr.cell? ⟨g, K * 2, none⟩ = some (.string L[K].1) := (HB.out.cell (p := ⟨g, K * 2, none⟩) (cell_lt (HC.out _ hs.1))).trans (HC.out _ hs.1)
      have q2 : wr.cell? ⟨g, K * 2 + 1, none⟩ = some (.string L[K].2) := (HB.out.cell (p := ⟨g, K * 2 + 1, none⟩) (cell_lt (HC.out _ hs.2))).trans (HC.out _ hs.2)
      clear hs
      cases hne : (L[K].1.toList == name.toList) with
      | true =>
        have hf := find_first (fun p : P2 => p.1.toList == name.toList) L K hlt HN.out hne
        have HF := Lib.hid (show ofS L name = L[K].2 ∧ ofB L name = true by simp [ofS, ofB, hf])
        clear hf
        generalize L[K] = p at *
        go_wp2_with fail
        go_ret2
        exact ⟨by rw [HF.out.1, HF.out.2]; rfl, HB.out⟩
      | false =>
        have HN2 := Lib.hid (show ∀ j (hj : j < L.length), j < K + 1 → (L[j].1.toList == name.toList) = false from fun j hj h => by
          by_cases e : j = K
          · subst e; exact hne
          · exact HN.out j hj (by omega))
        generalize L[K] = p at *
        go_wp2_with fail
        exact ⟨⟨K + 1, by omega, by go_num, HN2, HB⟩, by simp [intOf]; omega⟩
    · have HF := Lib.hid (show ofS L name = ⟨#[]⟩ ∧ ofB L name = false by
        have hf : L.find? (fun p => p.1.toList == name.toList) = none := by
          rw [List.find?_eq_none]
          intro p hp
          obtain ⟨j, hj, rfl⟩ := List.getElem_of_mem hp
          simp [HN.out j hj (by omega)]
        simp [ofS, ofB, hf])
      go_wp2_with fail
      go_ret2
      exact ⟨by rw [HF.out.1, HF.out.2]; rfl, HB.out⟩

/-- a disk and the one that it was, of which it has beginnings -/
structure Begun (d c : Dk) : Prop where
  up : d.down = false
  up2 : c.down = false
  nm : names d.fs = names c.fs
  pre : ∀ i (hi : i < d.fs.length) (hj : i < c.fs.length), d.fs[i].2.data.size ≤ c.fs[i].2.data.size ∧ c.fs[i].2.data.extract 0 d.fs[i].2.data.size = d.fs[i].2.data
theorem read_up {d : Dk} (h : Fit d) (hu : d.down = false) (i : Nat) (hi : i < d.fs.length) : readE d d.fs[i].1 = 0 ∧ readS d d.fs[i].1 = d.fs[i].2.data := by
  have := get_at h.up i hi
  simp [readE, readS, hu, this]
set_option maxRecDepth 100000 in
set_option maxHeartbeats 2000000 in
theorem begins_true (w0 w : World) (b m t n : Nat) (d c : Dk) (xs : List (Nat × Nat × Value)) (h : Tk w0 w b m d t n c xs) (hb : Begun d c) :
    Calls Try.prog 28 #[.pointer (some ⟨b, 0, none⟩), .pointer (some ⟨t, 0, none⟩)] w fun e w' => e = .returned (.bool true) ∧ Tk w0 w' b m d t n c xs := by
  have H := Lib.hid h
  have HG := Lib.hid hb
  clear h hb
  have hlen : d.fs.length = c.fs.length := by have := congrArg List.length HG.out.nm; simpa [names] using this
  have HLEN := Lib.hid hlen
  clear hlen
  go_enter Try.func28, Try.ntmps28
  go_wp2_with fail
  refine (H.out.list).mono ?_
  rintro e w1 ⟨⟨v, rfl, hs⟩, _, h1⟩
  have H1 := Lib.hid h1
  obtain ⟨na, ncap, rfl, hnc⟩ := hs.any
  rw [show (names d.fs).length = d.fs.length by simp [names]]
  have HNC := Lib.hid (show 0 < d.fs.length → ∃ g, na = some ⟨g, 0, none⟩ ∧ ∀ i (hi : i < d.fs.length), w1.cell? ⟨g, i, none⟩ = some (.string ⟨(d.fs[i]).1.toArray⟩) from fun h0 => by
    obtain ⟨g, hg, hh⟩ := hnc (by simpa [names] using h0)
    exact ⟨g, hg, fun i hi => by have := hh i (by simpa [names] using hi); simpa [names] using this⟩)
  clear h1 hs hnc
  go_wp2_with fail
  refine (H1.out.symm.list).mono ?_
  rintro e w2 ⟨⟨v, rfl, hs⟩, hb2, h2⟩
  have H2 := Lib.hid h2.symm
  have HB2 := Lib.hid hb2
  rw [← HG.out.nm] at hs
  obtain ⟨nb, ncap2, rfl, hnc⟩ := hs.any
  rw [show (names d.fs).length = d.fs.length by simp [names]]
  have HND := Lib.hid (show 0 < d.fs.length → ∃ g, nb = some ⟨g, 0, none⟩ ∧ ∀ i (hi : i < d.fs.length), w2.cell? ⟨g, i, none⟩ = some (.string ⟨(d.fs[i]).1.toArray⟩) from fun h0 => by
    obtain ⟨g, hg, hh⟩ := hnc (by simpa [names] using h0)
    exact ⟨g, hg, fun i hi => by have := hh i (by simpa [names] using hi); simpa [names] using this⟩)
  clear h2 hs hnc hb2
  go_wp2_with fail
  refine (H2.out.symm.down HG.out.up2).mono ?_
  rintro e w3 ⟨rfl, rfl⟩
  go_wp2_with fail
  go_loopw [7] (fun i wr => ∃ K : Nat, K ≤ d.fs.length ∧ i = .int .i64 K ∧ Hid (Tk w0 wr b m d t n c xs) ∧ Hid (Below w2.heap.size w2 wr)) (fun i _ => d.fs.length - (intOf i).toNat)
  case atStart => exact ⟨0, Nat.zero_le _, rfl, H2, Below.refl _ _⟩
  case round =>
    obtain ⟨K, hK, rfl, HT, HB⟩ := hrel
    have hdl := HT.out.i.l.ok.len
    by_cases hlt : K < d.fs.length
    · obtain ⟨g1, rfl, hc1⟩ := HNC.out (by omega)
      obtain ⟨g2, rfl, hc2⟩ := HND.out (by omega)
      have hlt2 : K < c.fs.length := by rw [← HLEN.out]; exact hlt
      have p1 := (HB2.out.cell (p := ⟨g1, K, none⟩) (cell_lt (hc1 K hlt))).trans (hc1 K hlt)
      have q1 := (HB.out.cell (p := ⟨g1, K, none⟩) (cell_lt p1)).trans p1
      have q2 := (HB.out.cell (p := ⟨g2, K, none⟩) (cell_lt (hc2 K hlt))).trans (hc2 K hlt)
      have r1 := read_up HT.out.i.l.ok HG.out.up K hlt
      have r2 := read_up HT.out.i.r.ok HG.out.up2 K hlt2
      have hnn : c.fs[K].1 = d.fs[K].1 := by
        have h1 : (names d.fs)[K]? = some d.fs[K].1 := by simp [names, hlt]
        have h2 : (names c.fs)[K]? = some c.fs[K].1 := by simp [names, hlt2]
        rw [HG.out.nm, h2] at h1
        simpa using h1
      rw [hnn] at r2
      have hnm := HT.out.i.l.ok.nm _ (List.getElem_mem hlt)
      have hpr := HG.out.pre K hlt hlt2
      have hle := hpr.1
      have HP := Lib.hid hpr.2
      have HR1 := Lib.hid r1
      have HR2 := Lib.hid r2
      have hz := HT.out.i.r.ok.sz _ (List.getElem_mem hlt2)
      clear r1 r2 hnn hpr hc1 hc2 p1
      generalize d.fs[K] = x at *
      generalize c.fs[K] = y at *
      have HMX := Lib.hid (show ByteArray.size ⟨x.1.toArray⟩ ≤ maxLen by unfold maxLen; simp [ByteArray.size]; omega)
      go_wp2_with fail
      have c4 := read_any wr b m d ⟨x.1.toArray⟩ HT.out.i.l.dat HMX.out
      rw [show readE d (ByteArray.data ⟨x.1.toArray⟩).toList = 0 from by simpa using HR1.out.1, show readS d (ByteArray.data ⟨x.1.toArray⟩).toList = x.2.data from by simpa using HR1.out.2] at c4
      refine c4.mono ?_
      clear c4
      rintro e w4 ⟨rfl, hb4⟩
      have HT4 := Lib.hid (HT.out.quiet hb4)
      have HB4 := Lib.hid (HB.out.trans (hb4.mono HB.out.size))
      have q3 := (hb4.cell (p := ⟨g1, K, none⟩) (cell_lt q1)).trans q1
      have q4 := (hb4.cell (p := ⟨g2, K, none⟩) (cell_lt q2)).trans q2
      clear q1 q2 hb4
      go_wp2_with fail
      have c5 := read_any w4 t n c ⟨x.1.toArray⟩ HT4.out.i.r.dat HMX.out
      rw [show readE c (ByteArray.data ⟨x.1.toArray⟩).toList = 0 from by simpa using HR2.out.1, show readS c (ByteArray.data ⟨x.1.toArray⟩).toList = y.2.data from by simpa using HR2.out.2] at c5
      refine c5.mono ?_
      clear c5
      rintro e w5 ⟨rfl, hb5⟩
      have HT5 := Lib.hid (HT4.out.quiet hb5)
      have HB5 := Lib.hid (HB4.out.trans (hb5.mono HB4.out.size))
      have q5 := (hb5.cell (p := ⟨g1, K, none⟩) (cell_lt q3)).trans q3
      have q6 := (hb5.cell (p := ⟨g2, K, none⟩) (cell_lt q4)).trans q4
      clear q3 q4 hb5
      have s1 : decide ((y.2.data.size : Int) < (x.2.data.size : Int)) = false := by simp; omega
      have s2 : (K : Int) < (d.fs.length : Int) := by omega
      go_wp2_with fail
      go_quiet (fail)
      have s3 : decide (y.2.data.size < x.2.data.size) = false := by simp; omega
      have s4 : ((y.2.data.extract 0 x.2.data.size).toList == x.2.data.toList) = true := by rw [HP.out]; simp
      go_wp2_with fail
      · exfalso
        have hx : y.2.data.size < x.2.data.size ∨ (!(y.2.data.extract 0 x.2.data.size).toList == x.2.data.toList) = true := by assumption
        rw [s4] at hx
        rcases hx with hx | hx
        · omega
        · cases hx
      exact ⟨⟨K + 1, by omega, by go_num, Lib.hid (HT5.out.quiet (below_drewN (Below.refl _ _) nq)), Lib.hid (below_drewN HB5.out nq)⟩, by simp [intOf]; omega⟩
    · go_wp2_with fail
      go_ret
      exact ⟨rfl, HT.out⟩
end Go.Proofs.Ytmhflhbogkkblaa
