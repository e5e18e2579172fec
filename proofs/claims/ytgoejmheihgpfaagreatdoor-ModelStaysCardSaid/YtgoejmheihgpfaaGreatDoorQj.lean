/- Lemmas for ModelStays' proof. -/
import Derived.Test.YtgoejmheihgpfaaGreatDoorQg
import Derived.Test.YtgoejmheihgpfaaGreatDoorSh
namespace Go.Proofs.YtgoejmheihgpfaaGreatDoor
set_option maxRecDepth 100000
set_option maxHeartbeats 16000000
open Go.RowKit
theorem own_form {w : World} {B size n : Nat} {e : TypeId} {v : Value} {xs : List Value} (h : w.ownsRow B e size v n xs) (hn : 0 < n) : ∃ g cap, v = .slice (some ⟨g, 0, none⟩) n cap := by
 rcases h.2 with ⟨_, e⟩ | ⟨g, cap, _, e, _⟩
 ·omega
 ·exact ⟨g, cap, e⟩
def recOf (L : List Rec) (x : Tx) : Option Rec := L.find? (fun v => decide (v.name = x))
def rOr (r : Option Rec) : Rec := r.getD ⟨[], false, []⟩
theorem rows2_get {α : Type} {E : World → α → List Value → Prop} {w : World} (hE : ∀ a c, E w a c → c.length = 2) {L : List α} {xs : List Value} (h : Rows E w L xs) (i : Nat) (hi : i < L.length) : ∃ a b, xs[i * 2]? = some a ∧ xs[i * 2 + 1]? = some b ∧ E w L[i] [a, b] := by
 obtain ⟨c, hc, hx⟩ := h.at hE i hi
 have hl := hE _ _ hc
 match c, hl, hc, hx with
 | [a, b], _, hc, hx => exact ⟨a, b, hx 0 _ rfl, hx 1 _ rfl, hc⟩
theorem rows2_mk {α : Type} {E : World → α → List Value → Prop} {w : World} : ∀ {L : List α} {xs : List Value}, xs.length = L.length * 2 → (∀ (i : Nat) (hi : i < L.length), ∃ a b, xs[i * 2]? = some a ∧ xs[i * 2 + 1]? = some b ∧ E w L[i] [a, b]) → Rows E w L xs
 | [], xs, hl, _ => List.eq_nil_of_length_eq_zero (by simpa using hl)
 | a :: L, xs, hl, h => by
  obtain ⟨x, y, h0, h1, he⟩ := h 0 (by simp)
  match xs, hl, h, h0, h1 with
  | p :: q :: xs, hl, h, h0, h1 =>
   obtain rfl : p = x := by simpa using h0
   obtain rfl : q = y := by simpa using h1
   refine ⟨[p, q], xs, rfl, he, rows2_mk (by simp at hl; omega) (fun i hi => ?_)⟩
   obtain ⟨x', y', g0, g1, ge⟩ := h (i + 1) (by simpa using hi)
   refine ⟨x', y', ?_, ?_, ge⟩
   ·rw [show (i + 1) * 2 = i * 2 + 1 + 1 by omega] at g0; simpa using g0
   ·rw [show (i + 1) * 2 + 1 = i * 2 + 1 + 1 + 1 by omega] at g1; simpa using g1
def fldX (w0 : World) (B : Nat) (w : World) (f : Fld) (c : List Value) : Prop := ∃ u, c = [sT f.name, u] ∧ (Slc w0 2 u f.type.length (scells f.type) ∨ w.ownsRow B 79 2 u f.type.length (scells f.type))
theorem fldX_len {w0 w : World} {B : Nat} (f : Fld) (c : List Value) : fldX w0 B w f c → c.length = 2 := fun ⟨_, e, _⟩ => by rw [e]; rfl
theorem fldX_keep {w0 w w' : World} {B : Nat} (K : ∀ u n xs, w.ownsRow B 79 2 u n xs → w'.ownsRow B 79 2 u n xs) (f : Fld) (c : List Value) : fldX w0 B w f c → fldX w0 B w' f c := fun ⟨u, e, h⟩ => ⟨u, e, h.imp id (K _ _ _)⟩
theorem fldX_read {w0 w : World} {B : Nat} (hb : Below w0.heap.size w0 w) (f : Fld) (c : List Value) : fldX w0 B w f c → fldR w f c := fun ⟨u, e, h⟩ => ⟨u, e, h.elim (fun h => h.below hb) Slc.own⟩
theorem scells_one : ∀ (L : List Srt), ∀ u ∈ scells L, u.oneCell' = true
 | [], _, h => by cases h
 | t :: L, u, h => by
  simp only [scells, List.mem_cons] at h
  rcases h with rfl | rfl | h
  ·rfl
  ·rfl
  ·exact scells_one L u h
theorem fld_one {w : World} : ∀ {L : List Fld} {xs : List Value}, Rows fldR w L xs → ∀ u ∈ xs, u.oneCell' = true
 | [], _, e, u, h => by rw [show _ = [] from e] at h; cases h
 | f :: L, _, ⟨c, ys, e, ⟨v, ec, hs⟩, h2⟩, u, h => by
  obtain ⟨a, n, rfl⟩ := hs.shape
  rw [e, ec] at h
  simp only [List.cons_append, List.nil_append, List.mem_cons] at h
  rcases h with rfl | rfl | h
  ·rfl
  ·rfl
  ·exact fld_one h2 u h
theorem fldX_round {w0 w w2 : World} {B g n cap : Nat} {L : List Fld} {zs : List Value} (hl : L.length = n) (hr : w.ownsRow B 77 2 (.slice (some ⟨g, 0, none⟩) n cap) n zs) (hR : Rows (fldX w0 B) w L zs) (hb : Below w.heap.size w w2) {i : Nat} (hi : i < L.length) {v : Value} (hv : w2.ownsRow B 79 2 v L[i].type.length (scells L[i].type)) :
  (w2.setCell ⟨g, i * 2 + 1, none⟩ v).ownsRow B 77 2 (.slice (some ⟨g, 0, none⟩) n cap) n (zs.set (i * 2 + 1) v) ∧ Rows (fldX w0 B) (w2.setCell ⟨g, i * 2 + 1, none⟩ v) L (zs.set (i * 2 + 1) v) := by
 have hr2 := own_below hr hb
 have hg : ∃ cs, w2.heap[g]? = some (.cells cs 77 (0, 0)) := by
  rcases hr2.2 with ⟨e, _⟩ | ⟨g', cap', cur, e, _, hg, _⟩
  ·cases e
  ·cases e; exact ⟨_, hg⟩
 obtain ⟨cs, hg⟩ := hg
 have hlen := hr.1
 refine ⟨(hr2.stored _ v).1, rows2_mk (by simp; omega) (fun k hk => ?_)⟩
 obtain ⟨a, b, h0, h1, he⟩ := rows2_get fldX_len hR k hk
 by_cases e : k = i
 ·subst e
  obtain ⟨u, eu, _⟩ := he; injection eu with e1 e2; subst e1; refine ⟨_, v, ?_, ?_, ⟨v, rfl, .inr (own_set hv hg (by decide) _ _)⟩⟩
  ·rw [List.getElem?_set_ne (by omega)]; exact h0
  ·rw [List.getElem?_set_self (by omega)]
 ·refine ⟨a, b, ?_, ?_, fldX_keep (fun _ _ _ h => own_set (own_below h hb) hg (by decide) _ _) _ _ he⟩
  ·rw [List.getElem?_set_ne (by omega)]; exact h0
  ·rw [List.getElem?_set_ne (by omega)]; exact h1
abbrev zero3 : Array Value := #[eS, .bool false, .slice none 0 0]
theorem laid3_cells {w : World} {b : Nat} {x0 x1 x2 : Value} {T : TypeId} (h : w.heap[b]? = some (.cells #[x0, x1, x2] T (0, 0))) :
  w.cell? ⟨b, 0, none⟩ = some x0 ∧ (∀ X, (w.setCell ⟨b, 0, none⟩ X).cell? ⟨b, 1, none⟩ = some x1) ∧ (∀ X Y, ((w.setCell ⟨b, 0, none⟩ X).setCell ⟨b, 1, none⟩ Y).cell? ⟨b, 2, none⟩ = some x2) ∧
  (∀ o, w.frozen? ⟨b, o, none⟩ = false) ∧ (∀ X o, (w.setCell ⟨b, 0, none⟩ X).frozen? ⟨b, o, none⟩ = false) ∧ (∀ X Y o, ((w.setCell ⟨b, 0, none⟩ X).setCell ⟨b, 1, none⟩ Y).frozen? ⟨b, o, none⟩ = false) := by
 simp [World.cell?, World.frozen?, World.setCell, Array.getElem?_modify, h]
theorem laid3_read {w : World} {b : Nat} {x0 x1 x2 : Value} {T : TypeId} (h : w.heap[b]? = some (.cells #[x0, x1, x2] T (0, 0))) (X Y Z : Value) :
  (((w.setCell ⟨b, 0, none⟩ X).setCell ⟨b, 1, none⟩ Y).setCell ⟨b, 2, none⟩ Z).cell? ⟨b, 0, none⟩ = some X ∧ (((w.setCell ⟨b, 0, none⟩ X).setCell ⟨b, 1, none⟩ Y).setCell ⟨b, 2, none⟩ Z).cell? ⟨b, 1, none⟩ = some Y ∧ (((w.setCell ⟨b, 0, none⟩ X).setCell ⟨b, 1, none⟩ Y).setCell ⟨b, 2, none⟩ Z).cell? ⟨b, 2, none⟩ = some Z := by
 simp [World.cell?, World.setCell, Array.getElem?_modify, h]
theorem laid3_below {w0 w : World} (hb : Below w0.heap.size w0 w) {b : Nat} (h : w0.heap.size ≤ b) (X Y Z : Value) : Below w0.heap.size w0 (((w.setCell ⟨b, 0, none⟩ X).setCell ⟨b, 1, none⟩ Y).setCell ⟨b, 2, none⟩ Z) :=
 ((hb.setCell (p := ⟨b, 0, none⟩) h X).setCell (p := ⟨b, 1, none⟩) h Y).setCell (p := ⟨b, 2, none⟩) h Z
theorem laid3_keep {B b : Nat} (w : World) (hb : b < B) (X Y Z : Value) : KeepsB B w (((w.setCell ⟨b, 0, none⟩ X).setCell ⟨b, 1, none⟩ Y).setCell ⟨b, 2, none⟩ Z) :=
 ((KeepsB.set w hb 0 X).trans (KeepsB.set _ hb 1 Y)).trans (KeepsB.set _ hb 2 Z)
theorem find_any (w : World) (s : Sch) (ur us ug : Value) (hS : SchR w s ur us ug) (hM : Small s) (a : Tx) :
  Calls Tryz.prog 92 #[.agg #[sT s.name, ur, us, ug], sT a] w fun x w' => ∃ u ys, x = .returned (.tuple #[.agg #[sT (rOr (recOf s.records a)).name, .bool (rOr (recOf s.records a)).choice, u], .bool (recOf s.records a).isSome]) ∧ Slc w' 2 u (rOr (recOf s.records a)).fields.length ys ∧ Rows fldR w' (rOr (recOf s.records a)).fields ys ∧ Below w.heap.size w w' := by
 have HM := zD hM
 obtain ⟨⟨ra, rv, rfl⟩, ⟨sa, sv, rfl⟩, ⟨ga, gv, rfl⟩⟩ := hS.shape
 have HS := zD hS
 have hn2 := hM.nr
 have HQ := zD (show recOf s.records a = (s.records.drop 0).find? (fun v => decide (v.name = a)) from rfl)
 generalize recOf s.records a = Q at *
 have HB0 := zD (show Below w.heap.size w ((w.alloc (.cells (sV s ra sa ga rv sv gv) 26)).alloc (.cells zero3 74)) from ((Below.refl _ w).alloc zn _).alloc (by simp) _)
 have hX0 : ((w.alloc (.cells (sV s ra sa ga rv sv gv) 26)).alloc (.cells zero3 74)).heap[w.heap.size]? = some (.cells (sV s ra sa ga rv sv gv) 26 (0, 0)) := (Below.heap_alloc _ _ _ (by simp)).trans (zw _ _)
 have hY0 : ((w.alloc (.cells (sV s ra sa ga rv sv gv) 26)).alloc (.cells zero3 74)).heap[w.heap.size + 1]? = some (.cells zero3 74 (0, 0)) := heap_alloc_new2 _ _ _
 have hZ0 : ((w.alloc (.cells (sV s ra sa ga rv sv gv) 26)).alloc (.cells zero3 74)).heap.size = w.heap.size + 2 := by simp
 go_enter Tryz.func92, Tryz.ntmps92
 go_wp2_with fail
 generalize ((w.alloc (.cells (sV s ra sa ga rv sv gv) 26)).alloc (.cells zero3 74)) = wM at *
 have HX := zD (fun (W : World) (h : Below wM.heap.size wM W) => show W.heap[w.heap.size]? = some (.cells (sV s ra sa ga rv sv gv) 26 (0, 0)) ∧ W.heap[w.heap.size + 1]? = some (.cells zero3 74 (0, 0)) from ⟨(h.block _ (by omega)).trans hX0, (h.block _ (by omega)).trans hY0⟩)
 clear hX0 hY0 hS hM
 go_loopw [13] (fun vi wr => ∃ k : Nat, k ≤ s.records.length ∧ vi = iV (k : Nat) ∧ Hid (Below wM.heap.size wM wr) ∧ Hid (Q = (s.records.drop k).find? (fun v => decide (v.name = a)))) (fun vi _ => s.records.length - (intOf vi).toNat)
 case atStart => exact ⟨0, by omega, rfl, zl, HQ⟩
 case round =>
  clear HQ; obtain ⟨k, hk, rfl, HBr, HQ⟩ := hrel; have HBw := zD (HB0.out.trans (HBr.out.mono (by omega))); have hszr := HBr.out.size; by_cases hlt : k < s.records.length
  ·obtain ⟨xr, hx1, hx2⟩ := HS.out.rc
   obtain ⟨b', o, fa, fc, ys, rfl, hb, q0, q1, q2, hs, hr⟩ := rec_in HBw.out hx1 hx2 hlt; have HH := zD (fun (h : s.records[k].name = a) => find_here (p := fun v : Rec => decide (v.name = a)) hlt (zt h)); have HN := zD (fun (h : ¬ s.records[k].name = a) => find_next (p := fun v : Rec => decide (v.name = a)) hlt (by simpa using h)); have hbd := HM.out.rc _ (List.getElem_mem hlt); have e_n := bT_same (s.records[k].name) a; generalize s.records[k] = r at *; clear hx1 hx2; by_cases hn : r.name = a
   ·rw [zt hn] at e_n
    have HQ2 := zD (HQ.out.trans (HH.out hn)); obtain rfl := HQ2.out; clear HH HN HQ hn HQ2; have hm := hbd.2.1; have HCF := zD (fun W (X : Below w.heap.size w W) => cloneField_any W (.slice fa r.fields.length fc) r.fields.length ys (hs.below X) (fld_one hr) (by omega)); have HRS := zD hr; clear hs hr; go_wp2_with fail; generalize hwi : wr.alloc (.cells #[sT r.name, .bool r.choice, .slice fa r.fields.length fc] 74) = wi; have HBi := zD (show Below wM.heap.size wM wi from hwi ▸ HBr.out.alloc HBr.out.size _); have hszi : wi.heap.size = wr.heap.size + 1 := by rw [← hwi]; simp
    have HGi := zD (show wi.heap[wr.heap.size]? = some (.cells #[sT r.name, .bool r.choice, .slice fa r.fields.length fc] 74 (0, 0)) from hwi ▸ zw _ _); have HBwi := zD (HB0.out.trans (HBi.out.mono (by omega))); clear hwi; refine (HCF.out wi HBwi.out).mono ?_; rintro e w2 ⟨u, rfl, hu, hb2⟩; obtain ⟨uA, uc, rfl⟩ := own_slice hu; have HU := zD hu; have HB2 := zD hb2; have HRX := zD (show Rows (fldX w wi.heap.size) w2 r.fields ys from HRS.out.map (fun _ _ ⟨u, e, h⟩ => ⟨u, e, .inl h⟩)); generalize hwrs : wr.heap.size = rb at *; clear hu hb2 HCF HRS q0 q1 q2; go_wp2_with fail; go_loopw [26] (fun vj wj => ∃ (j : Nat) (zs : List Value), j ≤ r.fields.length ∧ vj = iV (j : Nat) ∧ Hid (Below wi.heap.size wi wj) ∧ Hid (wj.ownsRow wi.heap.size 77 2 (.slice uA r.fields.length uc) r.fields.length zs) ∧ Hid (Rows (fldX w wi.heap.size) wj r.fields zs)) (fun vj _ => r.fields.length - (intOf vj).toNat)
    case atStart => exact ⟨0, ys, by omega, rfl, HB2, HU, HRX⟩
    case round =>
     clear HB2 HU HRX; obtain ⟨j, zs, hj, rfl, HBj, HU, HRX⟩ := hrel; have HBwj := zD (HBwi.out.trans (HBj.out.mono (by omega))); have hszj := HBj.out.size; by_cases hlt2 : j < r.fields.length
     ·obtain ⟨g, cap, hform⟩ := own_form HU.out (by omega)
      cases hform
      obtain ⟨xa, xb, z0, z1, ⟨ux, eux, hux⟩⟩ := rows2_get fldX_len HRX.out j hlt2; cases eux
      have hslc : Slc wr 2 xb r.fields[j].type.length (scells r.fields[j].type) := hux.elim (fun h => h.below HBwj.out) Slc.own; obtain ⟨xa, xc, rfl⟩ := hslc.shape; have d1 : wr.cell? ⟨g, j * 2 + 1, none⟩ = some (.slice xa r.fields[j].type.length xc) := (HU.out.cellAt _ (by omega)).trans z1; have df := fun o => HU.out.frozenAt o
      have HFR := zD (fun w2 v hb hv => fldX_round (w2 := w2) (v := v) rfl HU.out HRX.out hb hlt2 hv); have htl := (hbd.2.2 _ (List.getElem_mem hlt2)).2.1; have HCS := zD (cloneSort_any wr _ _ _ hslc (scells_one _) (by omega)); generalize r.fields[j] = f at *; clear hslc hux z0 z1 HRX; have hgl := (HU.out.lt _ rfl).2; go_wp2_with fail; refine HCS.out.mono ?_; rintro e w3 ⟨v, rfl, hv, hb3⟩; obtain ⟨va, vc, rfl⟩ := own_slice hv; have d2 : w3.cell? ⟨g, j * 2 + 1, none⟩ = some (.slice xa f.type.length xc) := (hb3.cell (p := ⟨g, j * 2 + 1, none⟩) hgl).trans d1; have df3 : ∀ o, w3.frozen? ⟨g, o, none⟩ = false := fun o => (own_below HU.out hb3).frozenAt o
      have HG := zD (HFR.out w3 _ hb3 (own_base hv hszj)); have HBJ := zD ((HBj.out.trans (hb3.mono hszj)).setCell (p := ⟨g, j * 2 + 1, none⟩) (show wi.heap.size ≤ g from (HU.out.lt _ rfl).1) (.slice va f.type.length vc)); clear hv hb3 d1 df; go_wp2_with fail; exact ⟨⟨j + 1, _, by omega, by go_num, HBJ, zD HG.out.1, zD HG.out.2⟩, by simp [intOf]; omega⟩
     have HGr := zD ((HBj.out.block rb (by omega)).trans HGi.out); have i2 : wr.cell? ⟨rb, 2, none⟩ = some (.slice fa r.fields.length fc) := by simp [World.cell?, HGr.out]
     have jf : ∀ o, wr.frozen? ⟨rb, o, none⟩ = false := fun o => by simp [World.frozen?, HGr.out]
     go_upto_region 12 with (fail); have HG5 := zD (show (wr.setCell ⟨rb, 2, none⟩ (.slice uA r.fields.length uc)).heap[rb]? = some (.cells #[sT r.name, .bool r.choice, .slice uA r.fields.length uc] 74 (0, 0)) from by simp [World.setCell, Array.getElem?_modify, HGr.out]); have HB5 := zD ((HBi.out.trans (HBj.out.mono (by omega))).setCell (p := ⟨rb, 2, none⟩) (show wM.heap.size ≤ rb by omega) (.slice uA r.fields.length uc)); have HBw5 := zD (HBwj.out.setCell (p := ⟨rb, 2, none⟩) (show w.heap.size ≤ rb by omega) (.slice uA r.fields.length uc)); have HK5 := zD (KeepsB.set (B := wi.heap.size) wr (show rb < wi.heap.size by omega) 2 (.slice uA r.fields.length uc)); clear i2 jf HGr; generalize wr.setCell ⟨rb, 2, none⟩ (.slice uA r.fields.length uc) = w5 at *; have i0 : w5.cell? ⟨rb, 0, none⟩ = some (sT r.name) := by simp [World.cell?, HG5.out]
     have i1 : w5.cell? ⟨rb, 1, none⟩ = some (.bool r.choice) := by simp [World.cell?, HG5.out]
     have i2 : w5.cell? ⟨rb, 2, none⟩ = some (.slice uA r.fields.length uc) := by simp [World.cell?, HG5.out]
     have HY := zD (HX.out w5 HB5.out).2; obtain ⟨l0, l1, l2, g0, g1, g2⟩ := laid3_cells HY.out; obtain ⟨m0, m1, m2⟩ := laid3_read HY.out (sT r.name) (.bool r.choice) (.slice uA r.fields.length uc); have HKf := zD (HK5.out.trans (laid3_keep w5 (show w.heap.size + 1 < wi.heap.size by omega) (sT r.name) (.bool r.choice) (.slice uA r.fields.length uc))); have HBf := zD (laid3_below HBw5.out (show w.heap.size ≤ w.heap.size + 1 by omega) (sT r.name) (.bool r.choice) (.slice uA r.fields.length uc)); go_wp2_with fail; exact bodyPost_ret (v := .tuple #[.agg #[sT r.name, .bool r.choice, .slice uA r.fields.length uc], .bool true]) (by simp [results, Tryz.results92, go_sem, m0, m1, m2]) rfl ⟨_, zs, rfl, Slc.own (HKf.out _ _ _ _ _ HU.out), (HRX.out.mono (fldX_keep (fun _ _ _ h => HKf.out _ _ _ _ _ h))).map (fldX_read HBf.out), HBf.out⟩
   ·rw [zf hn] at e_n
    have HQ2 := zD (HQ.out.trans (HN.out hn)); clear HH HN HQ hn; go_wp2_with fail; exact ⟨⟨k + 1, by omega, by go_num, HBr.out.alloc HBr.out.size _, HQ2⟩, by simp [intOf]; omega⟩
  have HQ2 := zD (HQ.out.trans (find_end hlt)); obtain rfl := HQ2.out; clear HQ HQ2; have HY := zD (HX.out wr HBr.out).2; obtain ⟨l0, l1, l2, g0, g1, g2⟩ := laid3_cells HY.out; obtain ⟨m0, m1, m2⟩ := laid3_read HY.out (eS) (.bool false) (.slice none 0 0); go_wp2_with fail; exact bodyPost_ret (v := .tuple #[.agg #[eS, .bool false, .slice none 0 0], .bool false]) (by simp [results, Tryz.results92, go_sem, m0, m1, m2]) rfl ⟨_, [], rfl, Slc.nil _ _, rfl, laid3_below HBw.out (by omega) _ _ _⟩
def onlyA (L : List Srt) (kind : Nat) : Bool := match L with
 | [t] => t.kind == kind
 | _ => false
theorem only_any (w : World) (v : Value) (L : List Srt) (h : Slc w 2 v L.length (scells L)) (hL : L.length ≤ 1000) (kind : Nat) (z : Int) (hz : (kind : Int) = z) : Calls Tryz.prog 94 #[v, .int .u8 z] w fun e w' => e = .returned (.bool (onlyA L kind)) ∧ w = w' := by
 subst hz
 obtain ⟨a, c, rfl⟩ := h.shape
 match L, h, hL with
 | [], _, _ =>
  go_enter Tryz.func94, Tryz.ntmps94; go_wp2_with fail; exact zR (v := .bool false) ⟨rfl, rfl⟩
 | [t], h, _ =>
  obtain ⟨b, o, rfl, hb, q0, q1⟩ := srt_at h (k := 0) (by simp); clear h; have q0' : w.cell? ⟨b, o, none⟩ = some (.int .u8 (t.kind : Nat)) := by simpa using q0
  clear q0 q1; have hk : ((t.kind : Int) == (kind : Int)) = (t.kind == kind) := by rw [Bool.eq_iff_iff, beq_iff_eq, beq_iff_eq]; omega
  have HR := zD (show onlyA [t] kind = (t.kind == kind) from rfl); generalize onlyA [t] kind = R at *; obtain rfl := HR.out; clear HR; have HK := zD hk; clear hk; show Calls _ _ #[.slice (some ⟨b, o, none⟩) 1 c, _] _ _
  go_enter Tryz.func94, Tryz.ntmps94; go_wp2_with fail; exact zR (v := .bool ((t.kind : Int) == (kind : Int))) ⟨ret_bool HK.out.symm.symm, rfl⟩
 | t :: t2 :: r, _, hL =>
  have hn : (((t :: t2 :: r).length : Int) == 1) = false := by simp; omega
  have HR : onlyA (t :: t2 :: r) kind = false := rfl; rw [HR]; clear HR; generalize (t :: t2 :: r).length = n at *; go_enter Tryz.func94, Tryz.ntmps94; go_wp2_with fail; exact zR (v := .bool false) ⟨rfl, rfl⟩
def wAccount : Tx := [97, 99, 99, 111, 117, 110, 116]
def wAmount : Tx := [97, 109, 111, 117, 110, 116]
def accF (b : Bool) (f : Fld) : Bool := b || (decide (f.name = wAccount) && onlyA f.type 4)
def amtF (b : Bool) (f : Fld) : Bool := b || (decide (f.name = wAmount) && onlyA f.type 3)
def orderA (s : Sch) (x : Tx) : Bool := (recOf s.records x).isSome && !(rOr (recOf s.records x)).choice && (rOr (recOf s.records x)).fields.foldl accF false && (rOr (recOf s.records x)).fields.foldl amtF false
theorem recOf_small {s : Sch} (h : Small s) (x : Tx) : (rOr (recOf s.records x)).name.length ≤ 200 ∧ (rOr (recOf s.records x)).fields.length ≤ 40 ∧ ∀ f ∈ (rOr (recOf s.records x)).fields, f.name.length ≤ 200 ∧ f.type.length ≤ 40 ∧ ∀ t ∈ f.type, t.name.length ≤ 200 := by
 cases h' : recOf s.records x with
 | none => exact ⟨Nat.zero_le _, Nat.zero_le _, fun f hf => by cases hf⟩
 | some r => exact h.rc r (List.mem_of_find?_eq_some h')
theorem order_any (w : World) (s : Sch) (ur us ug : Value) (hS : SchR w s ur us ug) (hM : Small s) (x : Tx) :
  Calls Tryz.prog 59 #[.agg #[sT s.name, ur, us, ug], sT x] w fun e w' => e = .returned (.bool (orderA s x)) ∧ Below w.heap.size w w' := by
 have HBD := zD (recOf_small hM x)
 obtain ⟨⟨ra, rv, rfl⟩, ⟨sa, sv, rfl⟩, ⟨ga, gv, rfl⟩⟩ := hS.shape
 have HFd := zD (find_any (w.alloc (.cells (sV s ra sa ga rv sv gv) 26)) s _ _ _ (hS.below (bl1 w _)) hM x)
 have HB0 := zD (bl1 w (.cells (sV s ra sa ga rv sv gv) 26))
 have HO := zD (show orderA s x = ((recOf s.records x).isSome && !(rOr (recOf s.records x)).choice && (rOr (recOf s.records x)).fields.foldl accF false && (rOr (recOf s.records x)).fields.foldl amtF false) from rfl)
 generalize orderA s x = R at *
 generalize hr : rOr (recOf s.records x) = r at *
 generalize (recOf s.records x).isSome = ok at *
 clear hr hS hM
 have hz0 : (w.alloc (.cells (sV s ra sa ga rv sv gv) 26)).heap.size = w.heap.size + 1 := by simp
 go_enter Tryz.func59, Tryz.ntmps59
 go_wp2_with fail
 refine HFd.out.mono ?_
 rintro e w2 ⟨u, ys, rfl, hs, hr, hb2⟩
 obtain ⟨fa, fc, rfl⟩ := hs.shape
 have HS2 := zD hs
 have HR2 := zD hr
 have HB2 := zD (HB0.out.trans (hb2.mono (by omega)))
 have hn := HBD.out.2.1
 clear hs hr hb2 HFd hz0
 go_wp2_with fail
 have HB3 := zD (bl1 w2 (.cells #[sT r.name, .bool r.choice, .slice fa r.fields.length fc] 74))
 have d1 := (NewB.mk' w2 74 #[sT r.name, .bool r.choice, .slice fa r.fields.length fc]).cell (o := 1) rfl
 have HD := zD (fun (W : World) (h : Below (w2.heap.size + 1) (w2.alloc (.cells #[sT r.name, .bool r.choice, .slice fa r.fields.length fc] 74)) W) => (h.cell (p := ⟨w2.heap.size, 1, none⟩) (Nat.lt_succ_self _)).trans d1)
 have hsz3 : (w2.alloc (.cells #[sT r.name, .bool r.choice, .slice fa r.fields.length fc] 74)).heap.size = w2.heap.size + 1 := by simp
 clear d1
 generalize w2.alloc (.cells #[sT r.name, .bool r.choice, .slice fa r.fields.length fc] 74) = w3 at *
 go_loopw [7, 8, 20] (fun va vm vi wr => ∃ j : Nat, j ≤ r.fields.length ∧ va = .bool ((r.fields.take j).foldl accF false) ∧ vm = .bool ((r.fields.take j).foldl amtF false) ∧ vi = iV (j : Nat) ∧ Hid (Below (w2.heap.size + 1) w3 wr)) (fun _ _ vi _ => r.fields.length - (intOf vi).toNat)
 case atStart => exact ⟨0, by omega, rfl, rfl, rfl, zl⟩
 case round =>
  obtain ⟨j, hj, rfl, rfl, rfl, HBj⟩ := hrel; have HBx := zD (HB3.out.trans (HBj.out.mono (by omega))); by_cases hlt : j < r.fields.length
  ·obtain ⟨b, o, ga2, gc2, rfl, hb, q0, q1, hs⟩ := fld_in HBx.out HS2.out HR2.out hlt
   have HT1 := zD (show (r.fields.take (j + 1)).foldl accF false = ((r.fields.take j).foldl accF false || (decide (r.fields[j].name = wAccount) && onlyA r.fields[j].type 4)) from take_fold accF false r.fields j hlt); have HT2 := zD (show (r.fields.take (j + 1)).foldl amtF false = ((r.fields.take j).foldl amtF false || (decide (r.fields[j].name = wAmount) && onlyA r.fields[j].type 3)) from take_fold amtF false r.fields j hlt); have hbd := HBD.out.2.2 _ (List.getElem_mem hlt); have HS3 := zD (fun W (X : Below w2.heap.size w2 W) => hs.below X); have e_a : ((bT (r.fields[j].name)).toList == [97, 99, 99, 111, 117, 110, 116]) = decide (r.fields[j].name = wAccount) := bT_is _ wAccount; have e_m : ((bT (r.fields[j].name)).toList == [97, 109, 111, 117, 110, 116]) = decide (r.fields[j].name = wAmount) := bT_is _ wAmount; generalize r.fields[j] = f at *; have hf := hbd.2.1; have HO4 := zD (fun W (X : Below w2.heap.size w2 W) => only_any W _ _ (HS3.out W X) (by omega) 4 4 rfl); have HO3 := zD (fun W (X : Below w2.heap.size w2 W) => only_any W _ _ (HS3.out W X) (by omega) 3 3 rfl); clear hs HS3; generalize onlyA f.type 4 = A4 at *; generalize onlyA f.type 3 = A3 at *; have HBa := zD (HBx.out.alloc HBx.out.size (.cells #[sT f.name, .slice ga2 f.type.length gc2] 77)); have HBb := zD (HBj.out.alloc (by have := HBj.out.size; omega) (.cells #[sT f.name, .slice ga2 f.type.length gc2] 77)); clear hbd; generalize hA0 : (r.fields.take j).foldl accF false = A0 at *; generalize hM0 : (r.fields.take j).foldl amtF false = M0 at *; clear hA0 hM0; cases A0 with
   | true =>
    have H1 := zD (show (true || (decide (f.name = wAccount) && A4)) = true from rfl); cases M0 with
    | true =>
     have h2 : (true || (decide (f.name = wAmount) && A3)) = true := rfl; have H2 := zD h2; clear h2; go_wp2_with fail; exact ⟨⟨j + 1, by omega, congrArg Value.bool (HT1.out.trans H1.out).symm, congrArg Value.bool (HT2.out.trans H2.out).symm, by go_num, HBb.out⟩, by simp [intOf]; omega⟩
    | false =>
     by_cases c2 : f.name = wAmount
     ·have H2 := zD (show (false || (decide (f.name = wAmount) && A3)) = A3 from by rw [zt c2]; simp)
      rw [zt c2] at e_m; clear c2; go_wp2_with fail; refine (HO3.out _ HBa.out).mono ?_; rintro e w5 ⟨rfl, rfl⟩; go_wp2_with fail; exact ⟨⟨j + 1, by omega, congrArg Value.bool (HT1.out.trans H1.out).symm, congrArg Value.bool (HT2.out.trans H2.out).symm, by go_num, HBb.out⟩, by simp [intOf]; omega⟩
     ·have H2 := zD (show (false || (decide (f.name = wAmount) && A3)) = false from by rw [zf c2]; simp)
      rw [zf c2] at e_m; clear c2; go_wp2_with fail; exact ⟨⟨j + 1, by omega, congrArg Value.bool (HT1.out.trans H1.out).symm, congrArg Value.bool (HT2.out.trans H2.out).symm, by go_num, HBb.out⟩, by simp [intOf]; omega⟩
   | false =>
    by_cases c1 : f.name = wAccount
    ·have H1 := zD (show (false || (decide (f.name = wAccount) && A4)) = A4 from by rw [zt c1]; simp)
     rw [zt c1] at e_a; clear c1; cases M0 with
     | true =>
      have h2 : (true || (decide (f.name = wAmount) && A3)) = true := rfl; have H2 := zD h2; clear h2; go_wp2_with fail; refine (HO4.out _ HBa.out).mono ?_; rintro e w5 ⟨rfl, rfl⟩; go_wp2_with fail; exact ⟨⟨j + 1, by omega, congrArg Value.bool (HT1.out.trans H1.out).symm, congrArg Value.bool (HT2.out.trans H2.out).symm, by go_num, HBb.out⟩, by simp [intOf]; omega⟩
     | false =>
      by_cases c2 : f.name = wAmount
      ·have H2 := zD (show (false || (decide (f.name = wAmount) && A3)) = A3 from by rw [zt c2]; simp)
       rw [zt c2] at e_m; clear c2; go_wp2_with fail; refine (HO4.out _ HBa.out).mono ?_; rintro e w5 ⟨rfl, rfl⟩; go_wp2_with fail; refine (HO3.out _ HBa.out).mono ?_; rintro e w5 ⟨rfl, rfl⟩; go_wp2_with fail; exact ⟨⟨j + 1, by omega, congrArg Value.bool (HT1.out.trans H1.out).symm, congrArg Value.bool (HT2.out.trans H2.out).symm, by go_num, HBb.out⟩, by simp [intOf]; omega⟩
      ·have H2 := zD (show (false || (decide (f.name = wAmount) && A3)) = false from by rw [zf c2]; simp)
       rw [zf c2] at e_m; clear c2; go_wp2_with fail; refine (HO4.out _ HBa.out).mono ?_; rintro e w5 ⟨rfl, rfl⟩; go_wp2_with fail; exact ⟨⟨j + 1, by omega, congrArg Value.bool (HT1.out.trans H1.out).symm, congrArg Value.bool (HT2.out.trans H2.out).symm, by go_num, HBb.out⟩, by simp [intOf]; omega⟩
    ·have H1 := zD (show (false || (decide (f.name = wAccount) && A4)) = false from by rw [zf c1]; simp)
     rw [zf c1] at e_a; clear c1; cases M0 with
     | true =>
      have h2 : (true || (decide (f.name = wAmount) && A3)) = true := rfl; have H2 := zD h2; clear h2; go_wp2_with fail; exact ⟨⟨j + 1, by omega, congrArg Value.bool (HT1.out.trans H1.out).symm, congrArg Value.bool (HT2.out.trans H2.out).symm, by go_num, HBb.out⟩, by simp [intOf]; omega⟩
     | false =>
      by_cases c2 : f.name = wAmount
      ·have H2 := zD (show (false || (decide (f.name = wAmount) && A3)) = A3 from by rw [zt c2]; simp)
       rw [zt c2] at e_m; clear c2; go_wp2_with fail; refine (HO3.out _ HBa.out).mono ?_; rintro e w5 ⟨rfl, rfl⟩; go_wp2_with fail; exact ⟨⟨j + 1, by omega, congrArg Value.bool (HT1.out.trans H1.out).symm, congrArg Value.bool (HT2.out.trans H2.out).symm, by go_num, HBb.out⟩, by simp [intOf]; omega⟩
      ·have H2 := zD (show (false || (decide (f.name = wAmount) && A3)) = false from by rw [zf c2]; simp)
       rw [zf c2] at e_m; clear c2; go_wp2_with fail; exact ⟨⟨j + 1, by omega, congrArg Value.bool (HT1.out.trans H1.out).symm, congrArg Value.bool (HT2.out.trans H2.out).symm, by go_num, HBb.out⟩, by simp [intOf]; omega⟩
  have hO := HO.out; rw [← take_all accF false r.fields j hlt, ← take_all amtF false r.fields j hlt] at hO; generalize (r.fields.take j).foldl accF false = A0 at *; generalize (r.fields.take j).foldl amtF false = M0 at *; have HOO := zD hO; have e1 := HD.out wr HBj.out; have HBf := zD (HB2.out.trans (HBx.out.mono HB2.out.size)); clear hO HO HD; generalize r.choice = ch at *; cases ok <;> cases ch <;> cases A0 <;> cases M0
  all_goals
   obtain rfl := HOO.out; clear HOO; go_wp2_with fail; refine bodyPost_ret (v := .bool _) (by simp [results, Tryz.results59, go_sem]; rfl) rfl ⟨by rfl, HBf.out⟩
def nthT (saga : Tx) (i : Nat) : Tx := partT saga (Lib.decDigits i)
theorem nth_any (w : World) (a : Tx) (ha : a.length ≤ 1000000) (i : Nat) (hi : i < 100) : Calls Tryz.prog 60 #[sT a, iV (i : Nat)] w fun e w' => e = .returned (sT (nthT a i)) ∧ w = w' := by
 have HI := zD (Tryz.strconv_Itoa_small i hi w)
 have hd : (Lib.decDigits i).length ≤ 1000000 := by
  have h : ∀ j : Fin 100, (Lib.decDigits j).length ≤ 1000000 := by decide +kernel
  exact h ⟨i, hi⟩
 have HP := zD (show Calls Tryz.prog 55 #[sT a, .string ⟨(Lib.decDigits i).toArray⟩] w _ from part_any w a (Lib.decDigits i) ha hd)
 clear hd
 unfold nthT
 generalize partT a (Lib.decDigits i) = R at *
 generalize (⟨(Lib.decDigits i).toArray⟩ : ByteArray) = D at *
 go_enter Tryz.func60, Tryz.ntmps60
 go_wp2_with fail
 refine HI.out.mono ?_
 rintro e w1 ⟨rfl, rfl⟩
 go_wp2_with fail
 refine HP.out.mono ?_
 rintro e w1 ⟨rfl, rfl⟩
 go_wp2_with fail
 exact zR (v := sT R) ⟨rfl, rfl⟩
def aheadOk (t : Srt) : Bool := (t.kind == 5 || t.kind == 6) && decide (t.name = [])
def lastOk (s : Sch) (t : Srt) : Bool := if t.kind = 1 ∨ t.kind = 2 ∨ t.kind = 3 ∨ t.kind = 4 then decide (t.name = []) else if t.kind = 7 then (recOf s.records t.name).isSome else false
def rightA (s : Sch) (L : List Srt) : Bool := match L.getLast? with
 | none => false
 | some t => decide (L.length ≤ 12) && L.dropLast.all aheadOk && lastOk s t
theorem right_last {s : Sch} {L : List Srt} {n : Nat} (h : L.length = n + 1) : rightA s L = (decide (n + 1 ≤ 12) && (L.take n).all aheadOk && lastOk s (L[n]'(by omega))) := by
 unfold rightA
 rw [List.getLast?_eq_getElem?, show L.length - 1 = n by omega, List.getElem?_eq_getElem (by omega), List.dropLast_eq_take]
 show (decide (L.length ≤ 12) && (L.take (L.length - 1)).all aheadOk && lastOk s (L[n]'(by omega))) = _
 rw [show L.length - 1 = n by omega, show decide (L.length ≤ 12) = decide (n + 1 ≤ 12) from by rw [decide_eq_decide]; omega]
theorem all_stop {p : Srt → Bool} {L : List Srt} {n k : Nat} (hk : k < L.length) (hn : k < n) (h : p L[k] = false) : (L.take n).all p = false := by
 rw [List.all_eq_false]
 refine ⟨L[k], ?_, by simp [h]⟩
 rw [List.mem_take_iff_getElem]
 exact ⟨k, by omega, rfl⟩
theorem all_through {p : Srt → Bool} {L : List Srt} {n : Nat} (h : ∀ j (hj : j < L.length), j < n → p L[j] = true) : (L.take n).all p = true := by
 rw [List.all_eq_true]
 intro x hx
 rw [List.mem_take_iff_getElem] at hx
 obtain ⟨i, hi, rfl⟩ := hx
 exact h i (by omega) (by omega)
theorem right_any (w : World) (s : Sch) (ur us ug : Value) (hS : SchR w s ur us ug) (hM : Small s) (v : Value) (L : List Srt) (hT : Slc w 2 v L.length (scells L)) (hL : L.length ≤ 40) (_hB : ∀ t ∈ L, t.name.length ≤ 200) :
  Calls Tryz.prog 56 #[.agg #[sT s.name, ur, us, ug], v] w fun e w' => e = .returned (.bool (rightA s L)) ∧ Below w.heap.size w w' := by
 obtain ⟨⟨ra, rv, rfl⟩, ⟨sa, sv, rfl⟩, ⟨ga, gv, rfl⟩⟩ := hS.shape
 obtain ⟨ta, tc, rfl⟩ := hT.shape
 have htc : L.length ≤ tc := by obtain ⟨⟨_, _, e, h, _⟩, _⟩ := hT; cases e; exact h
 have htc2 : tc ≤ 9223372036854775807 := by obtain ⟨⟨_, _, e, _, h, _⟩, _⟩ := hT; cases e; exact h
 have HF := zD (fun W (X : Below w.heap.size w W) a => find_any W s _ _ _ (hS.below X) hM a)
 have HB0 := zD (bl1 w (.cells (sV s ra sa ga rv sv gv) 26))
 have HX := zD (fun (W : World) (h : Below (w.alloc (.cells (sV s ra sa ga rv sv gv) 26)).heap.size (w.alloc (.cells (sV s ra sa ga rv sv gv) 26)) W) => show W.heap[w.heap.size]? = some (.cells (sV s ra sa ga rv sv gv) 26 (0, 0)) from (h.block _ (by simp)).trans (zw _ _))
 have hz0 : (w.alloc (.cells (sV s ra sa ga rv sv gv) 26)).heap.size = w.heap.size + 1 := by simp
 cases hn : L.length with
 | zero =>
  have hR : rightA s L = false := by
   have : L = [] := List.eq_nil_of_length_eq_zero hn; rw [this]; rfl
  rw [hR]; clear hR hT HX; go_enter Tryz.func56, Tryz.ntmps56; go_wp2_with fail; exact zR (v := .bool false) ⟨rfl, HB0.out⟩
 | succ n =>
  have HR := zD (right_last (s := s) hn); by_cases h12 : 12 < n + 1
  ·have hR : rightA s L = false := by rw [HR.out, zf (by omega)]; rfl
   rw [hR]; clear hR hT HX HR; go_enter Tryz.func56, Tryz.ntmps56; go_wp2_with fail; exact zR (v := .bool false) ⟨rfl, HB0.out⟩
  have HR2 := zD (show rightA s L = ((L.take n).all aheadOk && lastOk s (L[n]'(by omega))) from by rw [HR.out, zt (by omega)]; rfl); generalize rightA s L = R at *; have HN := zD hn; obtain ⟨tb, t0, rfl, htb, hcc⟩ := slc_cells hT (by omega); have HC := zD (fun W (X : Below w.heap.size w W) j u (hu : (scells L)[j]? = some u) => (X.cell (p := ⟨tb, t0 + j, none⟩) htb).trans (hcc j u hu)); have HZ := zD (show L[n]? = some (L[n]'(by omega)) from List.getElem?_eq_getElem _); generalize L[n]'(by omega) = z at *; rw [hn] at htc; have hL2 : n + 1 ≤ 12 := by omega
  clear HR hS hM hT hcc hL hn h12; have HIx := zD (fun W (X : Below w.heap.size w W) k (hk : k < L.length) => show W.cell? ⟨tb, t0 + k * 2, none⟩ = some (.int .u8 (L[k].kind : Nat)) ∧ W.cell? ⟨tb, t0 + k * 2 + 1, none⟩ = some (sT L[k].name) from ⟨HC.out W X _ _ (scells_at L k hk).1, (congrArg (fun q => W.cell? ⟨tb, q, none⟩) (Nat.add_assoc _ _ _)).trans (HC.out W X _ _ (scells_at L k hk).2)⟩); have hb0 : ((n : Int) + 1 == 0) = false := by rw [zb]; omega
  have hb12 : decide (12 < (n : Int) + 1) = false := by rw [decide_eq_false_iff_not]; omega
  go_enter Tryz.func56, Tryz.ntmps56; go_wp2_with fail; go_loopw [24] (fun vi wr => ∃ k : Nat, k ≤ n ∧ vi = iV (k : Nat) ∧ Hid (Below (w.alloc (.cells (sV s ra sa ga rv sv gv) 26)).heap.size (w.alloc (.cells (sV s ra sa ga rv sv gv) 26)) wr) ∧ Hid (∀ j (hj : j < L.length), j < k → aheadOk L[j] = true)) (fun vi _ => n - (intOf vi).toNat)
  case atStart => exact ⟨0, by omega, rfl, zl, zD (fun j _ h => by omega)⟩
  case round =>
   obtain ⟨k, hk, rfl, HBr, HA⟩ := hrel; have HBw := zD (HB0.out.trans (HBr.out.mono (by omega))); have htbr : tb < wr.heap.size := Nat.lt_of_lt_of_le htb HBw.out.size; by_cases hlt : k < n
   ·have hkL : k < L.length := by have := HN.out; omega
    obtain ⟨p0, p1⟩ := HIx.out wr HBw.out k hkL; have HST := zD (fun h => all_stop (p := aheadOk) hkL hlt h)
    have HGO := zD (show aheadOk L[k] = true → ∀ j (hj : j < L.length), j < k + 1 → aheadOk L[j] = true from fun h j hj h2 => by
     by_cases e : j = k
     ·subst e; exact h
     ·exact HA.out j hj (by omega))
    have e_n := bT_is (L[k].name) []; have HOK := zD (show aheadOk L[k] = ((L[k].kind == 5 || L[k].kind == 6) && decide (L[k].name = [])) from rfl); generalize aheadOk L[k] = ok at *; generalize L[k] = x at *; have hB1 := zD (HBr.out.alloc HBr.out.size (.cells #[.int .u8 (x.kind : Nat), sT x.name] 79)); have hB2 := zD (HBw.out.alloc HBw.out.size (.cells #[.int .u8 (x.kind : Nat), sT x.name] 79)); by_cases k5 : x.kind = 5
    ·have h5 : ((x.kind : Int) == 5) = true := by simp; omega
     have g5 : ((x.kind : Int) != 5) = false := by simp; omega
     have hk5 := zD k5; clear k5; by_cases hnm : x.name = []
     ·have HKo := zD (show ok = true from by rw [HOK.out, hnm]; rw [hk5.out]; rfl)
      rw [zt hnm] at e_n; have f_n : (!((bT x.name).toList == [])) = false := by rw [e_n]; rfl
      clear hnm HOK; clear HST; go_wp2_with fail; exact ⟨⟨k + 1, by omega, by go_num, hB1, zD (HGO.out HKo.out)⟩, by simp [intOf]; omega⟩
     ·have HKo := zD (show ok = false from by rw [HOK.out, zf hnm]; simp)
      rw [zf hnm] at e_n; have f_n : (!((bT x.name).toList == [])) = true := by rw [e_n]; rfl
      clear hnm HOK; have hR : R = false := by rw [HR2.out, HST.out HKo.out]; rfl
      clear HR2 HST HGO; subst hR; go_wp2_with fail; exact zR (v := .bool false) ⟨rfl, hB2.out⟩
    have h5 : ((x.kind : Int) == 5) = false := by simp; omega
    have g5 : ((x.kind : Int) != 5) = true := by simp; omega
    by_cases k6 : x.kind = 6
    ·have h6 : ((x.kind : Int) == 6) = true := by simp; omega
     have g6 : ((x.kind : Int) != 6) = false := by simp; omega
     have hk5 := zD k6; clear k6 k5; by_cases hnm : x.name = []
     ·have HKo := zD (show ok = true from by rw [HOK.out, hnm]; rw [hk5.out]; rfl)
      rw [zt hnm] at e_n; have f_n : (!((bT x.name).toList == [])) = false := by rw [e_n]; rfl
      clear hnm HOK; clear HST; go_wp2_with fail; exact ⟨⟨k + 1, by omega, by go_num, hB1, zD (HGO.out HKo.out)⟩, by simp [intOf]; omega⟩
     ·have HKo := zD (show ok = false from by rw [HOK.out, zf hnm]; simp)
      rw [zf hnm] at e_n; have f_n : (!((bT x.name).toList == [])) = true := by rw [e_n]; rfl
      clear hnm HOK; have hR : R = false := by rw [HR2.out, HST.out HKo.out]; rfl
      clear HR2 HST HGO; subst hR; go_wp2_with fail; exact zR (v := .bool false) ⟨rfl, hB2.out⟩
    have h6 : ((x.kind : Int) == 6) = false := by simp; omega
    have g6 : ((x.kind : Int) != 6) = true := by simp; omega
    have HKo := zD (show ok = false from by rw [HOK.out]; simp [k5, k6]); clear k5 k6 HOK; have hR : R = false := by rw [HR2.out, HST.out HKo.out]; rfl
    clear HR2 HST HGO; subst hR; go_wp2_with fail; exact zR (v := .bool false) ⟨rfl, hB2.out⟩
   have hall : (L.take n).all aheadOk = true := all_through (fun j hj h => HA.out j hj (by omega)); have HR3 := zD (show R = lastOk s z from by rw [HR2.out, hall]; rfl); clear hall HR2 HA; have hzz := HZ.out; rw [List.getElem?_eq_getElem (by have := HN.out; omega)] at hzz; obtain ⟨p0, p1⟩ := HIx.out wr HBw.out n (by have := HN.out; omega); rw [Option.some.inj hzz] at p0 p1; have hB2 := zD (HBw.out.alloc HBw.out.size (.cells #[.int .u8 (z.kind : Nat), sT z.name] 79)); have e_n := bT_is z.name []; clear hzz HZ HIx HC; have hX1 := HX.out (wr.alloc (.cells #[.int .u8 (z.kind : Nat), sT z.name] 79)) (HBr.out.alloc HBr.out.size _); have c0 : (wr.alloc (.cells #[.int .u8 (z.kind : Nat), sT z.name] 79)).cell? ⟨w.heap.size, 0, none⟩ = some (sT s.name) := by simp only [World.cell?, hX1]; rfl
   have c1 : (wr.alloc (.cells #[.int .u8 (z.kind : Nat), sT z.name] 79)).cell? ⟨w.heap.size, 1, none⟩ = some (.slice ra s.records.length rv) := by simp only [World.cell?, hX1]; rfl
   have c2 : (wr.alloc (.cells #[.int .u8 (z.kind : Nat), sT z.name] 79)).cell? ⟨w.heap.size, 2, none⟩ = some (.slice sa s.services.length sv) := by simp only [World.cell?, hX1]; rfl
   have c3 : (wr.alloc (.cells #[.int .u8 (z.kind : Nat), sT z.name] 79)).cell? ⟨w.heap.size, 3, none⟩ = some (.slice ga s.sagas.length gv) := by simp only [World.cell?, hX1]; rfl
   clear hX1; have hkn : k = n := by omega
   have HKN := zD hkn; clear hkn; by_cases z1 : z.kind = 1
   ·have hR : R = decide (z.name = []) := by rw [HR3.out]; unfold lastOk; rw [if_pos (by simp [z1])]
    have i1 : ((z.kind : Int) == 1) = true := by simp; omega
    clear HR3 z1; subst hR; go_wp2_with fail; exact zR (v := .bool (decide (z.name = []))) ⟨rfl, hB2.out⟩
   have i1 : ((z.kind : Int) == 1) = false := by simp; omega
   by_cases z2 : z.kind = 2
   ·have hR : R = decide (z.name = []) := by rw [HR3.out]; unfold lastOk; rw [if_pos (by simp [z2])]
    have i2 : ((z.kind : Int) == 2) = true := by simp; omega
    clear HR3 z2 z1; subst hR; go_wp2_with fail; exact zR (v := .bool (decide (z.name = []))) ⟨rfl, hB2.out⟩
   have i2 : ((z.kind : Int) == 2) = false := by simp; omega
   by_cases z3 : z.kind = 3
   ·have hR : R = decide (z.name = []) := by rw [HR3.out]; unfold lastOk; rw [if_pos (by simp [z3])]
    have i3 : ((z.kind : Int) == 3) = true := by simp; omega
    clear HR3 z3 z1 z2; subst hR; go_wp2_with fail; exact zR (v := .bool (decide (z.name = []))) ⟨rfl, hB2.out⟩
   have i3 : ((z.kind : Int) == 3) = false := by simp; omega
   by_cases z4 : z.kind = 4
   ·have hR : R = decide (z.name = []) := by rw [HR3.out]; unfold lastOk; rw [if_pos (by simp [z4])]
    have i4 : ((z.kind : Int) == 4) = true := by simp; omega
    clear HR3 z4 z1 z2 z3; subst hR; go_wp2_with fail; exact zR (v := .bool (decide (z.name = []))) ⟨rfl, hB2.out⟩
   have i4 : ((z.kind : Int) == 4) = false := by simp; omega
   by_cases z7 : z.kind = 7
   ·have hR : R = (recOf s.records z.name).isSome := by rw [HR3.out]; unfold lastOk; rw [if_neg (by simp [z1, z2, z3, z4]), if_pos z7]
    have i7 : ((z.kind : Int) == 7) = true := by simp; omega
    clear HR3 z1 z2 z3 z4 z7; have HFz := zD (HF.out _ hB2.out z.name); rw [← hR] at HFz; clear hR; generalize rOr (recOf s.records z.name) = rr at *; go_wp2_with fail; refine HFz.out.mono ?_; rintro e w5 ⟨u, ys, rfl, hs5, _, hb5⟩; obtain ⟨ua, uc, rfl⟩ := hs5.shape; have HB5 := zT hB2 hb5; clear hs5 hb5; go_wp2_with fail; exact zR (v := .bool R) ⟨rfl, HB5.out.alloc HB5.out.size _⟩
   have i7 : ((z.kind : Int) == 7) = false := by simp; omega
   have hR : R = false := by rw [HR3.out]; unfold lastOk; rw [if_neg (by simp [z1, z2, z3, z4]), if_neg z7]
   clear HR3 z1 z2 z3 z4 z7; subst hR; go_wp2_with fail; exact zR (v := .bool false) ⟨rfl, hB2.out⟩
theorem SchR.after {w w' : World} {s : Sch} {ur us ug : Value} (h : SchR w s ur us ug) (hb : Below w.heap.size w w') : SchR w' s ur us ug := h.below hb
def sagG (s : Sch) (f : Flt) (g : Sga) : Flt := atF f (orderA s g.arg) g.name 240
def sagasA (s : Sch) (f : Flt) : Flt := s.sagas.foldl (sagG s) f
theorem sagas_any (w0 w : World) (s : Sch) (ur us ug : Value) (hS : SchR w0 s ur us ug) (hM : Small s) (f : Flt) (hF : NewB w0 w 99 (fcells f)) :
  Calls Tryz.prog 33 #[.agg #[sT s.name, ur, us, ug], .pointer (some ⟨w0.heap.size, 0, none⟩)] w fun x w' => x = .returned (.tuple #[]) ∧ FQ w0 w w' (sagasA s f) := by
 have HM := zD hM
 obtain ⟨⟨ra, rv, rfl⟩, ⟨sa, sv, rfl⟩, ⟨ga, gv, rfl⟩⟩ := hS.shape
 have HS := zD (fun (wr : World) (h : Below w0.heap.size w0 wr) => hS.below h)
 have hn1 := hM.nr
 have hn2 := hM.ns
 have hn3 := hM.ng
 have HF0 := zD (FQ.start (hF.after ((Below.refl _ w).alloc zn (.cells (sV s ra sa ga rv sv gv) 26))))
 have hwf := hF.lt
 have HX := zD (fun (wr : World) (h : Aw w0.heap.size (w.alloc (.cells (sV s ra sa ga rv sv gv) 26)) wr) => show wr.heap[w.heap.size]? = some (.cells (sV s ra sa ga rv sv gv) 26 (0, 0)) from (h.block _ (by simp) (by omega)).trans (zw _ _))
 have HE := zD (fun (wr : World) (f' : Flt) (h : FQ w0 (w.alloc (.cells (sV s ra sa ga rv sv gv) 26)) wr f') => show FQ w0 w wr f' from ⟨h.nb, (Aw.below ((Below.refl _ w).alloc zn _)).trans h.aw⟩)
 have HA := zD (fun w1 w2 f h r wh e => at_any w0 w1 w2 f h r wh e)
 have HOR := zD (fun (wr : World) (h : Below w0.heap.size w0 wr) x => order_any wr s _ _ _ (hS.below h) hM x)
 clear hS hM hF
 unfold sagasA
 generalize hf2 : s.sagas.foldl (sagG s) f = f2
 have HF2 := zD hf2
 clear hf2
 go_enter Tryz.func33, Tryz.ntmps33
 go_wp2_with fail
 generalize (w.alloc (.cells (sV s ra sa ga rv sv gv) 26)) = wA at *
 go_loopw [9] (fun vi wr => ∃ k : Nat, k ≤ s.sagas.length ∧ vi = iV (k : Nat) ∧ Hid (FQ w0 wA wr ((s.sagas.take k).foldl (sagG s) f))) (fun vi _ => s.sagas.length - (intOf vi).toNat)
 case atStart => exact ⟨0, by omega, rfl, zD HF0.out⟩
 case round =>
  obtain ⟨k, hk, rfl, HFr⟩ := hrel; by_cases hlt : k < s.sagas.length
  ·obtain ⟨xr, hx1, hx2⟩ := (HS.out w0 zl).sg
   obtain ⟨b, o, fa, fc, rfl, hb, q0, q1, q2, hs⟩ := sga_in HFr.out.nb.bel hx1 hx2 hlt; have HT := zD (take_fold (sagG s) f s.sagas k hlt); have hbd := HM.out.sg _ (List.getElem_mem hlt); have hsz := HFr.out.size; generalize s.sagas[k] = r at *; clear hx1 hx2; go_wp2_with fail; generalize hwi : wr.alloc (.cells #[sT r.name, sT r.arg, .slice fa r.steps.length fc] 67) = wi; have HFi := zD (show FQ w0 wA wi _ from hwi ▸ HFr.out.alloc _); have hgi : wi.heap[wr.heap.size]? = some (.cells #[sT r.name, sT r.arg, .slice fa r.steps.length fc] 67 (0, 0)) := hwi ▸ zw _ _; have hszi : wi.heap.size = wr.heap.size + 1 := by rw [← hwi]; simp
   have hszw : w.heap.size < wi.heap.size := (zq (HX.out wi HFi.out.aw)).1; clear hwi; have HB := zD (Below.refl wi.heap.size wi).drew
   have HC := zD (fun W (X : Aw w0.heap.size wi W) => show (W.cell? ⟨w.heap.size, 0, none⟩ = some (sT s.name) ∧ W.cell? ⟨w.heap.size, 1, none⟩ = some (.slice ra s.records.length rv) ∧ W.cell? ⟨w.heap.size, 2, none⟩ = some (.slice sa s.services.length sv) ∧ W.cell? ⟨w.heap.size, 3, none⟩ = some (.slice (some ⟨b, o, none⟩) s.sagas.length gv)) ∧ W.cell? ⟨wr.heap.size, 0, none⟩ = some (sT r.name) ∧ W.cell? ⟨wr.heap.size, 1, none⟩ = some (sT r.arg) from
    ⟨by simp [World.cell?, HX.out W (HFi.out.aw.trans X)], by simp [World.cell?, (X.block wr.heap.size (by omega) (by omega)).trans hgi]⟩)
   have HOR1 := zD (fun W (X : Below wi.heap.size wi W) => HOR.out W (HFi.out.after X).nb.bel r.arg); have HA1 := zD (fun W (X : Below wi.heap.size wi W) => at_z w0 W _ (HFi.out.after X).nb (orderA s r.arg) r.name 240 240 rfl _ rfl); have HTT := zD (show atF ((s.sagas.take k).foldl (sagG s) f) (orderA s r.arg) r.name 240 = (s.sagas.take (k + 1)).foldl (sagG s) f from HT.out.symm); clear HT; obtain ⟨⟨e0, e1, e2, e3⟩, e4, e5⟩ := HC.out wi (Aw.refl _ _); generalize orderA s r.arg = R at *; clear hgi hs q0 q1 q2 hb
   go_region_held3 (fun W => (W.cell? ⟨w.heap.size, 0, none⟩ = some (sT s.name) ∧ W.cell? ⟨w.heap.size, 1, none⟩ = some (.slice ra s.records.length rv) ∧ W.cell? ⟨w.heap.size, 2, none⟩ = some (.slice sa s.services.length sv) ∧ W.cell? ⟨w.heap.size, 3, none⟩ = some (.slice (some ⟨b, o, none⟩) s.sagas.length gv)) ∧ W.cell? ⟨wr.heap.size, 0, none⟩ = some (sT r.name) ∧ W.cell? ⟨wr.heap.size, 1, none⟩ = some (sT r.arg))
    (first | exact HC.out _ (Aw.below HB.out) | exact HC.out _ (Aw.below hb1) | exact hs3 | assumption)
    (first
     | (go_at_call 59; ((with_reducible refine (HOR1.out _ HB.out).mono ?_); rintro e w2 ⟨rfl, hb⟩; have hb1 := HB.out.trans (hb.mono HB.out.size)))
     | (go_at_call 51; ((with_reducible refine (HA1.out _ hb1).mono ?_); rintro e w3 ⟨rfl, hf3⟩; have hs3 := HC.out w3 ((Aw.below hb1).trans hf3.aw))))
   all_goals
    have HF3 := zD ((HFi.out.after hb1).step hf3); clear hf3 hb1 hb hs3; go_wp2_with fail; exact ⟨⟨k + 1, by omega, by go_num, zD (by rw [← HTT.out]; exact HF3.out)⟩, by simp [intOf]; omega⟩
  have HFz := zD (show FQ w0 wA wr f2 from by have h := HFr.out; rw [take_all _ _ _ _ hlt, HF2.out] at h; exact h); go_wp2_with fail; go_end0; exact ⟨rfl, HE.out _ _ HFz.out⟩
end Go.Proofs.YtgoejmheihgpfaaGreatDoor
