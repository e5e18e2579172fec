/-
  check.Find.
-/
import Derived.Test.YtgoejmheihgpfaaGreatDoorQg
namespace Go.Proofs.YtgoejmheihgpfaaGreatDoor
section
open Go.RowKit

theorem own_form {w : World} {B size n : Nat} {e : TypeId} {v : Value} {xs : List Value} (h : w.ownsRow B e size v n xs) (hn : 0 < n) : ∃ g cap, v = .slice (some ⟨g, 0, none⟩) n cap := by
  rcases h.2 with ⟨_, e⟩ | ⟨g, cap, _, e, _⟩
  · omega
  · exact ⟨g, cap, e⟩
def recOf (L : List Rec) (x : Tx) : Option Rec := L.find? (fun v => decide (v.name = x))
def rOr (r : Option Rec) : Rec := r.getD ⟨[], false, []⟩
theorem rows2_get {α : Type} {E : World → α → List Value → Prop} {w : World} (hE : ∀ a c, E w a c → c.length = 2) {L : List α} {xs : List Value} (h : Rows E w L xs) (i : Nat) (hi : i < L.length) : ∃ a b, xs[i * 2]? = some a ∧ xs[i * 2 + 1]? = some b ∧ E w L[i] [a, b] := by
  obtain ⟨c, hc, hx⟩ := h.at hE i hi
  have hl := hE _ _ hc
  match c, hl, hc, hx with
  | [a, b], _, hc, hx => exact ⟨a, b, hx 0 _ rfl, hx 1 _ rfl, hc⟩
theorem rows2_mk {α : Type} {E : World → α → List Value → Prop} {w : World} : ∀ {L : List α} {xs : List Value}, xs.length = L.length * 2 → (∀ (i : Nat) (hi : i < L.length), ∃ a b, xs[i * 2]? = some a ∧ xs[i * 2 + 1]? = some b ∧ E w L[i] [a, b]) → Rows E w L xs
  | [], xs, hl, _ => List.eq_nil_of_length_eq_zero (by simpa using hl)
  | a :: L, xs, hl, h => by
    obtain ⟨x, y, h0, h1, he⟩ := h 0 (by simp)
    match xs, hl, h, h0, h1 with
    | p :: q :: xs, hl, h, h0, h1 =>
      obtain rfl : p = x := by simpa using h0
      obtain rfl : q = y := by simpa using h1
      refine ⟨[p, q], xs, rfl, he, rows2_mk (by simp at hl; omega) (fun i hi => ?_)⟩
      obtain ⟨x', y', g0, g1, ge⟩ := h (i + 1) (by simpa using hi)
      refine ⟨x', y', ?_, ?_, ge⟩
      · rw [show (i + 1) * 2 = i * 2 + 1 + 1 by omega] at g0; simpa using g0
      · rw [show (i + 1) * 2 + 1 = i * 2 + 1 + 1 + 1 by omega] at g1; simpa using g1
/-- a field whose type's slice is an elder one, or the callee's own -/
def fldX (w0 : World) (B : Nat) (w : World) (f : Fld) (c : List Value) : Prop := ∃ u, c = [.string (bT f.name), u] ∧ (Slc w0 2 u f.type.length (scells f.type) ∨ w.ownsRow B 79 2 u f.type.length (scells f.type))
theorem fldX_len {w0 w : World} {B : Nat} (f : Fld) (c : List Value) : fldX w0 B w f c → c.length = 2 := fun ⟨_, e, _⟩ => by rw [e]; rfl
theorem fldX_keep {w0 w w' : World} {B : Nat} (K : ∀ u n xs, w.ownsRow B 79 2 u n xs → w'.ownsRow B 79 2 u n xs) (f : Fld) (c : List Value) : fldX w0 B w f c → fldX w0 B w' f c := fun ⟨u, e, h⟩ => ⟨u, e, h.imp id (K _ _ _)⟩
theorem fldX_read {w0 w : World} {B : Nat} (hb : Below w0.heap.size w0 w) (f : Fld) (c : List Value) : fldX w0 B w f c → fldR w f c := fun ⟨u, e, h⟩ => ⟨u, e, h.elim (fun h => h.below hb) Slc.own⟩
theorem scells_one : ∀ (L : List Srt), ∀ u ∈ scells L, u.oneCell' = true
  | [], _, h => by cases h
  | t :: L, u, h => by
    simp only [scells, List.mem_cons] at h
    rcases h with rfl | rfl | h
    · rfl
    · rfl
    · exact scells_one L u h
theorem fld_one {w : World} : ∀ {L : List Fld} {xs : List Value}, Rows fldR w L xs → ∀ u ∈ xs, u.oneCell' = true
  | [], _, e, u, h => by rw [show _ = [] from e] at h; cases h
  | f :: L, _, ⟨c, ys, e, ⟨v, ec, hs⟩, h2⟩, u, h => by
    obtain ⟨a, n, rfl⟩ := hs.shape
    rw [e, ec] at h
    simp only [List.cons_append, List.nil_append, List.mem_cons] at h
    rcases h with rfl | rfl | h
    · rfl
    · rfl
    · exact fld_one h2 u h
/-- one more type cloned -/
theorem fldX_round {w0 w w2 : World} {B g n cap : Nat} {L : List Fld} {zs : List Value} (hl : L.length = n) (hr : w.ownsRow B 77 2 (.slice (some ⟨g, 0, none⟩) n cap) n zs) (hR : Rows (fldX w0 B) w L zs) (hb : Below w.heap.size w w2) {i : Nat} (hi : i < L.length) {v : Value} (hv : w2.ownsRow B 79 2 v L[i].type.length (scells L[i].type)) :
    (w2.setCell ⟨g, i * 2 + 1, none⟩ v).ownsRow B 77 2 (.slice (some ⟨g, 0, none⟩) n cap) n (zs.set (i * 2 + 1) v) ∧ Rows (fldX w0 B) (w2.setCell ⟨g, i * 2 + 1, none⟩ v) L (zs.set (i * 2 + 1) v) := by
  have hr2 := own_below hr hb
  have hg : ∃ cs, w2.heap[g]? = some (.cells cs 77 (0, 0)) := by
    rcases hr2.2 with ⟨e, _⟩ | ⟨g', cap', cur, e, _, hg, _⟩
    · cases e
    · cases e; exact ⟨_, hg⟩
  obtain ⟨cs, hg⟩ := hg
  have hlen := hr.1
  refine ⟨(hr2.stored _ v).1, rows2_mk (by simp; omega) (fun k hk => ?_)⟩
  obtain ⟨a, b, h0, h1, he⟩ := rows2_get fldX_len hR k hk
  by_cases e : k = i
  · subst e
    obtain ⟨u, eu, _⟩ := he
    injection eu with e1 e2
    subst e1
    refine ⟨_, v, ?_, ?_, ⟨v, rfl, .inr (own_set hv hg (by decide) _ _)⟩⟩
    · rw [List.getElem?_set_ne (by omega)]; exact h0
    · rw [List.getElem?_set_self (by omega)]
  · refine ⟨a, b, ?_, ?_, fldX_keep (fun _ _ _ h => own_set (own_below h hb) hg (by decide) _ _) _ _ he⟩
    · rw [List.getElem?_set_ne (by omega)]; exact h0
    · rw [List.getElem?_set_ne (by omega)]; exact h1
abbrev zero3 : Array Value := #[.string ⟨#[]⟩, .bool false, .slice none 0 0]
theorem laid3_cells {w : World} {b : Nat} {x0 x1 x2 : Value} {T : TypeId} (h : w.heap[b]? = some (.cells #[x0, x1, x2] T (0, 0))) :
    w.cell? ⟨b, 0, none⟩ = some x0 ∧ (∀ X, (w.setCell ⟨b, 0, none⟩ X).cell? ⟨b, 1, none⟩ = some x1) ∧ (∀ X Y, ((w.setCell ⟨b, 0, none⟩ X).setCell ⟨b, 1, none⟩ Y).cell? ⟨b, 2, none⟩ = some x2) ∧
    (∀ o, w.frozen? ⟨b, o, none⟩ = false) ∧ (∀ X o, (w.setCell ⟨b, 0, none⟩ X).frozen? ⟨b, o, none⟩ = false) ∧ (∀ X Y o, ((w.setCell ⟨b, 0, none⟩ X).setCell ⟨b, 1, none⟩ Y).frozen? ⟨b, o, none⟩ = false) := by
  simp [World.cell?, World.frozen?, World.setCell, Array.getElem?_modify, h]
theorem laid3_read {w : World} {b : Nat} {x0 x1 x2 : Value} {T : TypeId} (h : w.heap[b]? = some (.cells #[x0, x1, x2] T (0, 0))) (X Y Z : Value) :
    (((w.setCell ⟨b, 0, none⟩ X).setCell ⟨b, 1, none⟩ Y).setCell ⟨b, 2, none⟩ Z).cell? ⟨b, 0, none⟩ = some X ∧ (((w.setCell ⟨b, 0, none⟩ X).setCell ⟨b, 1, none⟩ Y).setCell ⟨b, 2, none⟩ Z).cell? ⟨b, 1, none⟩ = some Y ∧ (((w.setCell ⟨b, 0, none⟩ X).setCell ⟨b, 1, none⟩ Y).setCell ⟨b, 2, none⟩ Z).cell? ⟨b, 2, none⟩ = some Z := by
  simp [World.cell?, World.setCell, Array.getElem?_modify, h]
theorem laid3_below {w0 w : World} (hb : Below w0.heap.size w0 w) {b : Nat} (h : w0.heap.size ≤ b) (X Y Z : Value) : Below w0.heap.size w0 (((w.setCell ⟨b, 0, none⟩ X).setCell ⟨b, 1, none⟩ Y).setCell ⟨b, 2, none⟩ Z) :=
  ((hb.setCell (p := ⟨b, 0, none⟩) h X).setCell (p := ⟨b, 1, none⟩) h Y).setCell (p := ⟨b, 2, none⟩) h Z
theorem laid3_keep {B b : Nat} (w : World) (hb : b < B) (X Y Z : Value) : KeepsB B w (((w.setCell ⟨b, 0, none⟩ X).setCell ⟨b, 1, none⟩ Y).setCell ⟨b, 2, none⟩ Z) :=
  ((KeepsB.set w hb 0 X).trans (KeepsB.set _ hb 1 Y)).trans (KeepsB.set _ hb 2 Z)
set_option maxRecDepth 100000 in
set_option maxHeartbeats 16000000 in
theorem find_any (w : World) (s : Sch) (ur us ug : Value) (hS : SchR w s ur us ug) (hM : Small s) (a : Tx) :
    Calls Tryz.prog 92 #[.agg #[.string (bT s.name), ur, us, ug], .string (bT a)] w fun x w' => ∃ u ys, x = .returned (.tuple #[.agg #[.string (bT (rOr (recOf s.records a)).name), .bool (rOr (recOf s.records a)).choice, u], .bool (recOf s.records a).isSome]) ∧ Slc w' 2 u (rOr (recOf s.records a)).fields.length ys ∧ Rows fldR w' (rOr (recOf s.records a)).fields ys ∧ Below w.heap.size w w' := by
  have HM := Lib.hid hM
  obtain ⟨⟨ra, rv, rfl⟩, ⟨sa, sv, rfl⟩, ⟨ga, gv, rfl⟩⟩ := hS.shape
  have HS := Lib.hid hS
  have hn2 := hM.nr
  have HQ := Lib.hid (show recOf s.records a = (s.records.drop 0).find? (fun v => decide (v.name = a)) from rfl)
  generalize recOf s.records a = Q at *
  have HB0 := Lib.hid (show Below w.heap.size w ((w.alloc (.cells #[.string (bT s.name), .slice ra s.records.length rv, .slice sa s.services.length sv, .slice ga s.sagas.length gv] 26)).alloc (.cells zero3 74)) from ((Below.refl _ w).alloc (Nat.le_refl _) _).alloc (by simp) _)
  have hX0 : ((w.alloc (.cells #[.string (bT s.name), .slice ra s.records.length rv, .slice sa s.services.length sv, .slice ga s.sagas.length gv] 26)).alloc (.cells zero3 74)).heap[w.heap.size]? = some (.cells #[.string (bT s.name), .slice ra s.records.length rv, .slice sa s.services.length sv, .slice ga s.sagas.length gv] 26 (0, 0)) := (Below.heap_alloc _ _ _ (by simp)).trans (heap_alloc_new _ _)
  have hY0 : ((w.alloc (.cells #[.string (bT s.name), .slice ra s.records.length rv, .slice sa s.services.length sv, .slice ga s.sagas.length gv] 26)).alloc (.cells zero3 74)).heap[w.heap.size + 1]? = some (.cells zero3 74 (0, 0)) := heap_alloc_new2 _ _ _
  have hZ0 : ((w.alloc (.cells #[.string (bT s.name), .slice ra s.records.length rv, .slice sa s.services.length sv, .slice ga s.sagas.length gv] 26)).alloc (.cells zero3 74)).heap.size = w.heap.size + 2 := by simp
  go_enter Tryz.func92, Tryz.ntmps92
  go_wp2_with fail
  generalize ((w.alloc (.cells #[.string (bT s.name), .slice ra s.records.length rv, .slice sa s.services.length sv, .slice ga s.sagas.length gv] 26)).alloc (.cells zero3 74)) = wM at *
  have HX := Lib.hid (fun (W : World) (h : Below wM.heap.size wM W) => show W.heap[w.heap.size]? = some (.cells #[.string (bT s.name), .slice ra s.records.length rv, .slice sa s.services.length sv, .slice ga s.sagas.length gv] 26 (0, 0)) ∧ W.heap[w.heap.size + 1]? = some (.cells zero3 74 (0, 0)) from ⟨(h.block _ (by omega)).trans hX0, (h.block _ (by omega)).trans hY0⟩)
  clear hX0 hY0 hS hM
  go_loopw [13] (fun vi wr => ∃ k : Nat, k ≤ s.records.length ∧ vi = .int .i64 (k : Nat) ∧ Hid (Below wM.heap.size wM wr) ∧ Hid (Q = (s.records.drop k).find? (fun v => decide (v.name = a)))) (fun vi _ => s.records.length - (intOf vi).toNat)
  case atStart => exact ⟨0, by omega, rfl, Below.refl _ _, HQ⟩
  case round =>
    clear HQ
    obtain ⟨k, hk, rfl, HBr, HQ⟩ := hrel
    have HBw := Lib.hid (HB0.out.trans (HBr.out.mono (by omega)))
    have hszr := HBr.out.size
    by_cases hlt : k < s.records.length
    · obtain ⟨xr, hx1, hx2⟩ := HS.out.rc
      obtain ⟨b', o, fa, fc, ys, rfl, hb, q0, q1, q2, hs, hr⟩ := rec_in HBw.out hx1 hx2 hlt
      have HH := Lib.hid (fun (h : s.records[k].name = a) => find_here (p := fun v : Rec => decide (v.name = a)) hlt (decide_eq_true h))
      have HN := Lib.hid (fun (h : ¬ s.records[k].name = a) => find_next (p := fun v : Rec => decide (v.name = a)) hlt (by simpa using h))
      have hbd := HM.out.rc _ (List.getElem_mem hlt)
      have e_n := bT_same (s.records[k].name) a
      generalize s.records[k] = r at *
      clear hx1 hx2
      by_cases hn : r.name = a
      · rw [decide_eq_true hn] at e_n
        have HQ2 := Lib.hid (HQ.out.trans (HH.out hn))
        obtain rfl := HQ2.out
        clear HH HN HQ hn HQ2
        have hm := hbd.2.1
        have HCF := Lib.hid (fun W (X : Below w.heap.size w W) => cloneField_any W (.slice fa r.fields.length fc) r.fields.length ys (hs.below X) (fld_one hr) (by omega))
        have HRS := Lib.hid hr
        clear hs hr
        go_wp2_with fail
        generalize hwi : wr.alloc (.cells #[.string (bT r.name), .bool r.choice, .slice fa r.fields.length fc] 74) = wi
        have HBi := Lib.hid (show Below wM.heap.size wM wi from hwi ▸ HBr.out.alloc HBr.out.size _)
        have hszi : wi.heap.size = wr.heap.size + 1 := by rw [← hwi]; simp
        have HGi := Lib.hid (show wi.heap[wr.heap.size]? = some (.cells #[.string (bT r.name), .bool r.choice, .slice fa r.fields.length fc] 74 (0, 0)) from hwi ▸ heap_alloc_new _ _)
        have HBwi := Lib.hid (HB0.out.trans (HBi.out.mono (by omega)))
        clear hwi
        refine (HCF.out wi HBwi.out).mono ?_
        rintro e w2 ⟨u, rfl, hu, hb2⟩
        obtain ⟨uA, uc, rfl⟩ := own_slice hu
        have HU := Lib.hid hu
        have HB2 := Lib.hid hb2
        have HRX := Lib.hid (show Rows (fldX w wi.heap.size) w2 r.fields ys from HRS.out.map (fun _ _ ⟨u, e, h⟩ => ⟨u, e, .inl h⟩))
        generalize hwrs : wr.heap.size = rb at *
        clear hu hb2 HCF HRS q0 q1 q2
        go_wp2_with fail
        go_loopw [26] (fun vj wj => ∃ (j : Nat) (zs : List Value), j ≤ r.fields.length ∧ vj = .int .i64 (j : Nat) ∧ Hid (Below wi.heap.size wi wj) ∧ Hid (wj.ownsRow wi.heap.size 77 2 (.slice uA r.fields.length uc) r.fields.length zs) ∧ Hid (Rows (fldX w wi.heap.size) wj r.fields zs)) (fun vj _ => r.fields.length - (intOf vj).toNat)
        case atStart => exact ⟨0, ys, by omega, rfl, HB2, HU, HRX⟩
        case round =>
          clear HB2 HU HRX
          obtain ⟨j, zs, hj, rfl, HBj, HU, HRX⟩ := hrel
          have HBwj := Lib.hid (HBwi.out.trans (HBj.out.mono (by omega)))
          have hszj := HBj.out.size
          by_cases hlt2 : j < r.fields.length
          · obtain ⟨g, cap, hform⟩ := own_form HU.out (by omega)
            cases hform
            obtain ⟨xa, xb, z0, z1, ⟨ux, eux, hux⟩⟩ := rows2_get fldX_len HRX.out j hlt2
            cases eux
            have hslc : Slc wr 2 xb r.fields[j].type.length (scells r.fields[j].type) := hux.elim (fun h => h.below HBwj.out) Slc.own
            obtain ⟨xa, xc, rfl⟩ := hslc.shape
            have d1 : wr.cell? ⟨g, j * 2 + 1, none⟩ = some (.slice xa r.fields[j].type.length xc) := (HU.out.cellAt _ (by omega)).trans z1
            have df := fun o => HU.out.frozenAt o
            have HFR := Lib.hid (fun w2 v hb hv => fldX_round (w2 := w2) (v := v) rfl HU.out HRX.out hb hlt2 hv)
            have htl := (hbd.2.2 _ (List.getElem_mem hlt2)).2.1
            have HCS := Lib.hid (cloneSort_any wr _ _ _ hslc (scells_one _) (by omega))
            generalize r.fields[j] = f at *
            clear hslc hux z0 z1 HRX
            have hgl := (HU.out.lt _ rfl).2
            go_wp2_with fail
            refine HCS.out.mono ?_
            rintro e w3 ⟨v, rfl, hv, hb3⟩
            obtain ⟨va, vc, rfl⟩ := own_slice hv
            have d2 : w3.cell? ⟨g, j * 2 + 1, none⟩ = some (.slice xa f.type.length xc) := (hb3.cell (p := ⟨g, j * 2 + 1, none⟩) hgl).trans d1
            have df3 : ∀ o, w3.frozen? ⟨g, o, none⟩ = false := fun o => (own_below HU.out hb3).frozenAt o
            have HG := Lib.hid (HFR.out w3 _ hb3 (own_base hv hszj))
            have HBJ := Lib.hid ((HBj.out.trans (hb3.mono hszj)).setCell (p := ⟨g, j * 2 + 1, none⟩) (show wi.heap.size ≤ g from (HU.out.lt _ rfl).1) (.slice va f.type.length vc))
            clear hv hb3 d1 df
            go_wp2_with fail
            exact ⟨⟨j + 1, _, by omega, by go_num, HBJ, Lib.hid HG.out.1, Lib.hid HG.out.2⟩, by simp [intOf]; omega⟩
          have HGr := Lib.hid ((HBj.out.block rb (by omega)).trans HGi.out)
          have i2 : wr.cell? ⟨rb, 2, none⟩ = some (.slice fa r.fields.length fc) := by simp [World.cell?, HGr.out]
          have jf : ∀ o, wr.frozen? ⟨rb, o, none⟩ = false := fun o => by simp [World.frozen?, HGr.out]
          go_upto_region 12 with (fail)
          have HG5 := Lib.hid (show (wr.setCell ⟨rb, 2, none⟩ (.slice uA r.fields.length uc)).heap[rb]? = some (.cells #[.string (bT r.name), .bool r.choice, .slice uA r.fields.length uc] 74 (0, 0)) from by simp [World.setCell, Array.getElem?_modify, HGr.out])
          have HB5 := Lib.hid ((HBi.out.trans (HBj.out.mono (by omega))).setCell (p := ⟨rb, 2, none⟩) (show wM.heap.size ≤ rb by omega) (.slice uA r.fields.length uc))
          have HBw5 := Lib.hid (HBwj.out.setCell (p := ⟨rb, 2, none⟩) (show w.heap.size ≤ rb by omega) (.slice uA r.fields.length uc))
          have HK5 := Lib.hid (KeepsB.set (B := wi.heap.size) wr (show rb < wi.heap.size by omega) 2 (.slice uA r.fields.length uc))
          clear i2 jf HGr
          generalize wr.setCell ⟨rb, 2, none⟩ (.slice uA r.fields.length uc) = w5 at *
          have i0 : w5.cell? ⟨rb, 0, none⟩ = some (.string (bT r.name)) := by simp [World.cell?, HG5.out]
          have i1 : w5.cell? ⟨rb, 1, none⟩ = some (.bool r.choice) := by simp [World.cell?, HG5.out]
          have i2 : w5.cell? ⟨rb, 2, none⟩ = some (.slice uA r.fields.length uc) := by simp [World.cell?, HG5.out]
          have HY := Lib.hid (HX.out w5 HB5.out).2
          obtain ⟨l0, l1, l2, g0, g1, g2⟩ := laid3_cells HY.out
          obtain ⟨m0, m1, m2⟩ := laid3_read HY.out (.string (bT r.name)) (.bool r.choice) (.slice uA r.fields.length uc)
          have HKf := Lib.hid (HK5.out.trans (laid3_keep w5 (show w.heap.size + 1 < wi.heap.size by omega) (.string (bT r.name)) (.bool r.choice) (.slice uA r.fields.length uc)))
          have HBf := Lib.hid (laid3_below HBw5.out (show w.heap.size ≤ w.heap.size + 1 by omega) (.string (bT r.name)) (.bool r.choice) (.slice uA r.fields.length uc))
          go_wp2_with fail
          exact bodyPost_ret (v := .tuple #[.agg #[.string (bT r.name), .bool r.choice, .slice uA r.fields.length uc], .bool true]) (by simp [results, Tryz.results92, go_sem, m0, m1, m2]) rfl ⟨_, zs, rfl, Slc.own (HKf.out _ _ _ _ _ HU.out), (HRX.out.mono (fldX_keep (fun _ _ _ h => HKf.out _ _ _ _ _ h))).map (fldX_read HBf.out), HBf.out⟩
      · rw [decide_eq_false hn] at e_n
        have HQ2 := Lib.hid (HQ.out.trans (HN.out hn))
        clear HH HN HQ hn
        go_wp2_with fail
        exact ⟨⟨k + 1, by omega, by go_num, HBr.out.alloc HBr.out.size _, HQ2⟩, by simp [intOf]; omega⟩
    have HQ2 := Lib.hid (HQ.out.trans (find_end hlt))
    obtain rfl := HQ2.out
    clear HQ HQ2
    have HY := Lib.hid (HX.out wr HBr.out).2
    obtain ⟨l0, l1, l2, g0, g1, g2⟩ := laid3_cells HY.out
    obtain ⟨m0, m1, m2⟩ := laid3_read HY.out (.string ⟨#[]⟩) (.bool false) (.slice none 0 0)
    go_wp2_with fail
    exact bodyPost_ret (v := .tuple #[.agg #[.string ⟨#[]⟩, .bool false, .slice none 0 0], .bool false]) (by simp [results, Tryz.results92, go_sem, m0, m1, m2]) rfl ⟨_, [], rfl, Slc.nil _ _, rfl, laid3_below HBw.out (by omega) _ _ _⟩
end

section
open Go.RowKit

def onlyA (L : List Srt) (kind : Nat) : Bool := match L with
  | [t] => t.kind == kind
  | _ => false
set_option maxRecDepth 100000 in
theorem only_any (w : World) (v : Value) (L : List Srt) (h : Slc w 2 v L.length (scells L)) (hL : L.length ≤ 1000) (kind : Nat) (z : Int) (hz : (kind : Int) = z) : Calls Tryz.prog 94 #[v, .int .u8 z] w fun e w' => e = .returned (.bool (onlyA L kind)) ∧ w = w' := by
  subst hz
  obtain ⟨a, c, rfl⟩ := h.shape
  match L, h, hL with
  | [], _, _ =>
    go_enter Tryz.func94, Tryz.ntmps94
    go_wp2_with fail
    exact bodyPost_ret (v := .bool false) (by simp [results, Tryz.results94, go_sem]) rfl ⟨rfl, rfl⟩
  | [t], h, _ =>
    obtain ⟨b, o, rfl, hb, q0, q1⟩ := srt_at h (k := 0) (by simp)
    clear h
    have q0' : w.cell? ⟨b, o, none⟩ = some (.int .u8 (t.kind : Nat)) := by simpa using q0
    clear q0 q1
    have hk : ((t.kind : Int) == (kind : Int)) = (t.kind == kind) := by rw [Bool.eq_iff_iff, beq_iff_eq, beq_iff_eq]; omega
    have HR := Lib.hid (show onlyA [t] kind = (t.kind == kind) from rfl)
    generalize onlyA [t] kind = R at *
    obtain rfl := HR.out
    clear HR
    have HK := Lib.hid hk
    clear hk
    show Calls _ _ #[.slice (some ⟨b, o, none⟩) 1 c, _] _ _
    go_enter Tryz.func94, Tryz.ntmps94
    go_wp2_with fail
    exact bodyPost_ret (v := .bool ((t.kind : Int) == (kind : Int))) (by simp [results, Tryz.results94, go_sem]) rfl ⟨ret_bool HK.out.symm.symm, rfl⟩
  | t :: t2 :: r, _, hL =>
    have hn : (((t :: t2 :: r).length : Int) == 1) = false := by simp; omega
    have HR : onlyA (t :: t2 :: r) kind = false := rfl
    rw [HR]
    clear HR
    generalize (t :: t2 :: r).length = n at *
    go_enter Tryz.func94, Tryz.ntmps94
    go_wp2_with fail
    exact bodyPost_ret (v := .bool false) (by simp [results, Tryz.results94, go_sem]) rfl ⟨rfl, rfl⟩
def wAccount : Tx := [97, 99, 99, 111, 117, 110, 116]
def wAmount : Tx := [97, 109, 111, 117, 110, 116]
def accF (b : Bool) (f : Fld) : Bool := b || (decide (f.name = wAccount) && onlyA f.type 4)
def amtF (b : Bool) (f : Fld) : Bool := b || (decide (f.name = wAmount) && onlyA f.type 3)
def orderA (s : Sch) (x : Tx) : Bool := (recOf s.records x).isSome && !(rOr (recOf s.records x)).choice && (rOr (recOf s.records x)).fields.foldl accF false && (rOr (recOf s.records x)).fields.foldl amtF false
theorem recOf_small {s : Sch} (h : Small s) (x : Tx) : (rOr (recOf s.records x)).name.length ≤ 200 ∧ (rOr (recOf s.records x)).fields.length ≤ 40 ∧ ∀ f ∈ (rOr (recOf s.records x)).fields, f.name.length ≤ 200 ∧ f.type.length ≤ 40 ∧ ∀ t ∈ f.type, t.name.length ≤ 200 := by
  cases h' : recOf s.records x with
  | none => exact ⟨Nat.zero_le _, Nat.zero_le _, fun f hf => by cases hf⟩
  | some r => exact h.rc r (List.mem_of_find?_eq_some h')
set_option maxRecDepth 100000 in
set_option maxHeartbeats 16000000 in
theorem order_any (w : World) (s : Sch) (ur us ug : Value) (hS : SchR w s ur us ug) (hM : Small s) (x : Tx) :
    Calls Tryz.prog 59 #[.agg #[.string (bT s.name), ur, us, ug], .string (bT x)] w fun e w' => e = .returned (.bool (orderA s x)) ∧ Below w.heap.size w w' := by
  have HBD := Lib.hid (recOf_small hM x)
  obtain ⟨⟨ra, rv, rfl⟩, ⟨sa, sv, rfl⟩, ⟨ga, gv, rfl⟩⟩ := hS.shape
  have HFd := Lib.hid (find_any (w.alloc (.cells #[.string (bT s.name), .slice ra s.records.length rv, .slice sa s.services.length sv, .slice ga s.sagas.length gv] 26)) s _ _ _ (hS.below (bl1 w _)) hM x)
  have HB0 := Lib.hid (bl1 w (.cells #[.string (bT s.name), .slice ra s.records.length rv, .slice sa s.services.length sv, .slice ga s.sagas.length gv] 26))
  have HO := Lib.hid (show orderA s x = ((recOf s.records x).isSome && !(rOr (recOf s.records x)).choice && (rOr (recOf s.records x)).fields.foldl accF false && (rOr (recOf s.records x)).fields.foldl amtF false) from rfl)
  generalize orderA s x = R at *
  generalize hr : rOr (recOf s.records x) = r at *
  generalize (recOf s.records x).isSome = ok at *
  clear hr hS hM
  have hz0 : (w.alloc (.cells #[.string (bT s.name), .slice ra s.records.length rv, .slice sa s.services.length sv, .slice ga s.sagas.length gv] 26)).heap.size = w.heap.size + 1 := by simp
  go_enter Tryz.func59, Tryz.ntmps59
  go_wp2_with fail
  refine HFd.out.mono ?_
  rintro e w2 ⟨u, ys, rfl, hs, hr, hb2⟩
  obtain ⟨fa, fc, rfl⟩ := hs.shape
  have HS2 := Lib.hid hs
  have HR2 := Lib.hid hr
  have HB2 := Lib.hid (HB0.out.trans (hb2.mono (by omega)))
  have hn := HBD.out.2.1
  clear hs hr hb2 HFd hz0
  go_wp2_with fail
  have HB3 := Lib.hid (bl1 w2 (.cells #[.string (bT r.name), .bool r.choice, .slice fa r.fields.length fc] 74))
  have d1 := (NewB.mk' w2 74 #[.string (bT r.name), .bool r.choice, .slice fa r.fields.length fc]).cell (o := 1) rfl
  have HD := Lib.hid (fun (W : World) (h : Below (w2.heap.size + 1) (w2.alloc (.cells #[.string (bT r.name), .bool r.choice, .slice fa r.fields.length fc] 74)) W) => (h.cell (p := ⟨w2.heap.size, 1, none⟩) (Nat.lt_succ_self _)).trans d1)
  have hsz3 : (w2.alloc (.cells #[.string (bT r.name), .bool r.choice, .slice fa r.fields.length fc] 74)).heap.size = w2.heap.size + 1 := by simp
  clear d1
  generalize w2.alloc (.cells #[.string (bT r.name), .bool r.choice, .slice fa r.fields.length fc] 74) = w3 at *
  go_loopw [7, 8, 20] (fun va vm vi wr => ∃ j : Nat, j ≤ r.fields.length ∧ va = .bool ((r.fields.take j).foldl accF false) ∧ vm = .bool ((r.fields.take j).foldl amtF false) ∧ vi = .int .i64 (j : Nat) ∧ Hid (Below (w2.heap.size + 1) w3 wr)) (fun _ _ vi _ => r.fields.length - (intOf vi).toNat)
  case atStart => exact ⟨0, by omega, rfl, rfl, rfl, Below.refl _ _⟩
  case round =>
    obtain ⟨j, hj, rfl, rfl, rfl, HBj⟩ := hrel
    have HBx := Lib.hid (HB3.out.trans (HBj.out.mono (by omega)))
    by_cases hlt : j < r.fields.length
    · obtain ⟨b, o, ga2, gc2, rfl, hb, q0, q1, hs⟩ := fld_in HBx.out HS2.out HR2.out hlt
      have HT1 := Lib.hid (show (r.fields.take (j + 1)).foldl accF false = ((r.fields.take j).foldl accF false || (decide (r.fields[j].name = wAccount) && onlyA r.fields[j].type 4)) from take_fold accF false r.fields j hlt)
      have HT2 := Lib.hid (show (r.fields.take (j + 1)).foldl amtF false = ((r.fields.take j).foldl amtF false || (decide (r.fields[j].name = wAmount) && onlyA r.fields[j].type 3)) from take_fold amtF false r.fields j hlt)
      have hbd := HBD.out.2.2 _ (List.getElem_mem hlt)
      have HS3 := Lib.hid (fun W (X : Below w2.heap.size w2 W) => hs.below X)
      have e_a : ((bT (r.fields[j].name)).toList == [97, 99, 99, 111, 117, 110, 116]) = decide (r.fields[j].name = wAccount) := bT_is _ wAccount
      have e_m : ((bT (r.fields[j].name)).toList == [97, 109, 111, 117, 110, 116]) = decide (r.fields[j].name = wAmount) := bT_is _ wAmount
      generalize r.fields[j] = f at *
      have hf := hbd.2.1
      have HO4 := Lib.hid (fun W (X : Below w2.heap.size w2 W) => only_any W _ _ (HS3.out W X) (by omega) 4 4 rfl)
      have HO3 := Lib.hid (fun W (X : Below w2.heap.size w2 W) => only_any W _ _ (HS3.out W X) (by omega) 3 3 rfl)
      clear hs HS3
      generalize onlyA f.type 4 = A4 at *
      generalize onlyA f.type 3 = A3 at *
      have HBa := Lib.hid (HBx.out.alloc HBx.out.size (.cells #[.string (bT f.name), .slice ga2 f.type.length gc2] 77))
      have HBb := Lib.hid (HBj.out.alloc (by have := HBj.out.size; omega) (.cells #[.string (bT f.name), .slice ga2 f.type.length gc2] 77))
      clear hbd
      generalize hA0 : (r.fields.take j).foldl accF false = A0 at *
      generalize hM0 : (r.fields.take j).foldl amtF false = M0 at *
      clear hA0 hM0
      cases A0 with
      | true =>
        have H1 := Lib.hid (show (true || (decide (f.name = wAccount) && A4)) = true from rfl)
        cases M0 with
        | true =>
          have h2 : (true || (decide (f.name = wAmount) && A3)) = true := rfl
          have H2 := Lib.hid h2
          clear h2
          go_wp2_with fail
          exact ⟨⟨j + 1, by omega, congrArg Value.bool (HT1.out.trans H1.out).symm, congrArg Value.bool (HT2.out.trans H2.out).symm, by go_num, HBb.out⟩, by simp [intOf]; omega⟩
        | false =>
          by_cases c2 : f.name = wAmount
          · have H2 := Lib.hid (show (false || (decide (f.name = wAmount) && A3)) = A3 from by rw [decide_eq_true c2]; simp)
            rw [decide_eq_true c2] at e_m
            clear c2
            go_wp2_with fail
            refine (HO3.out _ HBa.out).mono ?_
            rintro e w5 ⟨rfl, rfl⟩
            go_wp2_with fail
            exact ⟨⟨j + 1, by omega, congrArg Value.bool (HT1.out.trans H1.out).symm, congrArg Value.bool (HT2.out.trans H2.out).symm, by go_num, HBb.out⟩, by simp [intOf]; omega⟩
          · have H2 := Lib.hid (show (false || (decide (f.name = wAmount) && A3)) = false from by rw [decide_eq_false c2]; simp)
            rw [decide_eq_false c2] at e_m
            clear c2
            go_wp2_with fail
            exact ⟨⟨j + 1, by omega, congrArg Value.bool (HT1.out.trans H1.out).symm, congrArg Value.bool (HT2.out.trans H2.out).symm, by go_num, HBb.out⟩, by simp [intOf]; omega⟩
      | false =>
        by_cases c1 : f.name = wAccount
        · have H1 := Lib.hid (show (false || (decide (f.name = wAccount) && A4)) = A4 from by rw [decide_eq_true c1]; simp)
          rw [decide_eq_true c1] at e_a
          clear c1
          cases M0 with
          | true =>
            have h2 : (true || (decide (f.name = wAmount) && A3)) = true := rfl
            have H2 := Lib.hid h2
            clear h2
            go_wp2_with fail
            refine (HO4.out _ HBa.out).mono ?_
            rintro e w5 ⟨rfl, rfl⟩
            go_wp2_with fail
            exact ⟨⟨j + 1, by omega, congrArg Value.bool (HT1.out.trans H1.out).symm, congrArg Value.bool (HT2.out.trans H2.out).symm, by go_num, HBb.out⟩, by simp [intOf]; omega⟩
          | false =>
            by_cases c2 : f.name = wAmount
            · have H2 := Lib.hid (show (false || (decide (f.name = wAmount) && A3)) = A3 from by rw [decide_eq_true c2]; simp)
              rw [decide_eq_true c2] at e_m
              clear c2
              go_wp2_with fail
              refine (HO4.out _ HBa.out).mono ?_
              rintro e w5 ⟨rfl, rfl⟩
              go_wp2_with fail
              refine (HO3.out _ HBa.out).mono ?_
              rintro e w5 ⟨rfl, rfl⟩
              go_wp2_with fail
              exact ⟨⟨j + 1, by omega, congrArg Value.bool (HT1.out.trans H1.out).symm, congrArg Value.bool (HT2.out.trans H2.out).symm, by go_num, HBb.out⟩, by simp [intOf]; omega⟩
            · have H2 := Lib.hid (show (false || (decide (f.name = wAmount) && A3)) = false from by rw [decide_eq_false c2]; simp)
              rw [decide_eq_false c2] at e_m
              clear c2
              go_wp2_with fail
              refine (HO4.out _ HBa.out).mono ?_
              rintro e w5 ⟨rfl, rfl⟩
              go_wp2_with fail
              exact ⟨⟨j + 1, by omega, congrArg Value.bool (HT1.out.trans H1.out).symm, congrArg Value.bool (HT2.out.trans H2.out).symm, by go_num, HBb.out⟩, by simp [intOf]; omega⟩
        · have H1 := Lib.hid (show (false || (decide (f.name = wAccount) && A4)) = false from by rw [decide_eq_false c1]; simp)
          rw [decide_eq_false c1] at e_a
          clear c1
          cases M0 with
          | true =>
            have h2 : (true || (decide (f.name = wAmount) && A3)) = true := rfl
            have H2 := Lib.hid h2
            clear h2
            go_wp2_with fail
            exact ⟨⟨j + 1, by omega, congrArg Value.bool (HT1.out.trans H1.out).symm, congrArg Value.bool (HT2.out.trans H2.out).symm, by go_num, HBb.out⟩, by simp [intOf]; omega⟩
          | false =>
            by_cases c2 : f.name = wAmount
            · have H2 := Lib.hid (show (false || (decide (f.name = wAmount) && A3)) = A3 from by rw [decide_eq_true c2]; simp)
              rw [decide_eq_true c2] at e_m
              clear c2
              go_wp2_with fail
              refine (HO3.out _ HBa.out).mono ?_
              rintro e w5 ⟨rfl, rfl⟩
              go_wp2_with fail
              exact ⟨⟨j + 1, by omega, congrArg Value.bool (HT1.out.trans H1.out).symm, congrArg Value.bool (HT2.out.trans H2.out).symm, by go_num, HBb.out⟩, by simp [intOf]; omega⟩
            · have H2 := Lib.hid (show (false || (decide (f.name = wAmount) && A3)) = false from by rw [decide_eq_false c2]; simp)
              rw [decide_eq_false c2] at e_m
              clear c2
              go_wp2_with fail
              exact ⟨⟨j + 1, by omega, congrArg Value.bool (HT1.out.trans H1.out).symm, congrArg Value.bool (HT2.out.trans H2.out).symm, by go_num, HBb.out⟩, by simp [intOf]; omega⟩
    have hO := HO.out
    rw [← take_all accF false r.fields j hlt, ← take_all amtF false r.fields j hlt] at hO
    generalize (r.fields.take j).foldl accF false = A0 at *
    generalize (r.fields.take j).foldl amtF false = M0 at *
    have HOO := Lib.hid hO
    have e1 := HD.out wr HBj.out
    have HBf := Lib.hid (HB2.out.trans (HBx.out.mono HB2.out.size))
    clear hO HO HD
    generalize r.choice = ch at *
    cases ok <;> cases ch <;> cases A0 <;> cases M0
    all_goals
      obtain rfl := HOO.out
      clear HOO
      go_wp2_with fail
      refine bodyPost_ret (v := .bool _) (by simp [results, Tryz.results59, go_sem]; rfl) rfl ⟨by rfl, HBf.out⟩
end
end Go.Proofs.YtgoejmheihgpfaaGreatDoor
