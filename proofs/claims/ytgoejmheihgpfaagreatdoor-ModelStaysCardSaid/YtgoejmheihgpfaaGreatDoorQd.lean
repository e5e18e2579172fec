/- Lemmas for ModelStays' proof. -/
import Derived.Test.YtgoejmheihgpfaaGreatDoorPv
import Derived.Deep.RegionHeld3
namespace Go.Proofs.YtgoejmheihgpfaaGreatDoor
set_option maxRecDepth 100000
set_option maxHeartbeats 16000000
open Go.RowKit
section
open Go.RowKit
theorem take_fold {α β : Type} (g : β → α → β) (a : β) (l : List α) (k : Nat) (h : k < l.length) : (l.take (k + 1)).foldl g a = g ((l.take k).foldl g a) l[k] := by
 rw [List.take_succ_eq_append_getElem h, List.foldl_append]
 rfl
theorem take_all {α β : Type} (g : β → α → β) (a : β) (l : List α) (k : Nat) (h : ¬ k < l.length) : (l.take k).foldl g a = l.foldl g a := by
 rw [List.take_of_length_le (by omega)]
theorem slc_cells {w : World} {k n : Nat} {a : Option Addr} {c : Nat} {xs : List Value} (h : Slc w k (.slice a n c) n xs) (h0 : 0 < n) : ∃ b o, a = some ⟨b, o, none⟩ ∧ b < w.heap.size ∧ ∀ j u, xs[j]? = some u → w.cell? ⟨b, o + j, none⟩ = some u := by
 obtain ⟨⟨a', c', e, _, _, _, h3⟩, _⟩ := h
 cases e
 exact h3 h0
theorem recR_len {w : World} (r : Rec) (c : List Value) : recR w r c → c.length = 3 := fun ⟨_, _, e, _⟩ => by rw [e]; rfl
theorem fldR_len {w : World} (r : Fld) (c : List Value) : fldR w r c → c.length = 2 := fun ⟨_, e, _⟩ => by rw [e]; rfl
theorem svcR_len {w : World} (r : Svc) (c : List Value) : svcR w r c → c.length = 2 := fun ⟨_, e, _⟩ => by rw [e]; rfl
theorem sgaR_len {w : World} (r : Sga) (c : List Value) : sgaR w r c → c.length = 3 := fun ⟨_, e, _⟩ => by rw [e]; rfl
theorem rec_at {w : World} {n c : Nat} {a : Option Addr} {L : List Rec} {xr : List Value} (h : Slc w 3 (.slice a n c) L.length xr) (hr : Rows recR w L xr) {k : Nat} (hk : k < L.length) :
  ∃ b o fa fc ys, a = some ⟨b, o, none⟩ ∧ b < w.heap.size ∧ w.cell? ⟨b, o + k * 3, none⟩ = some (sT L[k].name) ∧ w.cell? ⟨b, o + k * 3 + 1, none⟩ = some (.bool L[k].choice) ∧ w.cell? ⟨b, o + k * 3 + 2, none⟩ = some (.slice fa L[k].fields.length fc) ∧ Slc w 2 (.slice fa L[k].fields.length fc) L[k].fields.length ys ∧ Rows fldR w L[k].fields ys := by
 obtain ⟨_, _, e⟩ := h.shape
 injection e with _ e2
 subst e2
 obtain ⟨b, o, rfl, hb, hc⟩ := slc_cells h (by omega)
 obtain ⟨cs, ⟨u, ys, rfl, hs, hrs⟩, hx⟩ := hr.at recR_len k hk
 obtain ⟨fa, fc, rfl⟩ := hs.shape
 exact ⟨b, o, fa, fc, ys, rfl, hb, hc _ _ (hx 0 _ rfl), hc _ _ (hx 1 _ rfl), hc _ _ (hx 2 _ rfl), hs, hrs⟩
theorem fld_at {w : World} {n c : Nat} {a : Option Addr} {L : List Fld} {xr : List Value} (h : Slc w 2 (.slice a n c) L.length xr) (hr : Rows fldR w L xr) {k : Nat} (hk : k < L.length) :
  ∃ b o fa fc, a = some ⟨b, o, none⟩ ∧ b < w.heap.size ∧ w.cell? ⟨b, o + k * 2, none⟩ = some (sT L[k].name) ∧ w.cell? ⟨b, o + k * 2 + 1, none⟩ = some (.slice fa L[k].type.length fc) ∧ Slc w 2 (.slice fa L[k].type.length fc) L[k].type.length (scells L[k].type) := by
 obtain ⟨_, _, e⟩ := h.shape
 injection e with _ e2
 subst e2
 obtain ⟨b, o, rfl, hb, hc⟩ := slc_cells h (by omega)
 obtain ⟨cs, ⟨u, rfl, hs⟩, hx⟩ := hr.at fldR_len k hk
 obtain ⟨fa, fc, rfl⟩ := hs.shape
 exact ⟨b, o, fa, fc, rfl, hb, hc _ _ (hx 0 _ rfl), hc _ _ (hx 1 _ rfl), hs⟩
theorem svc_at {w : World} {n c : Nat} {a : Option Addr} {L : List Svc} {xr : List Value} (h : Slc w 2 (.slice a n c) L.length xr) (hr : Rows svcR w L xr) {k : Nat} (hk : k < L.length) :
  ∃ b o fa fc, a = some ⟨b, o, none⟩ ∧ b < w.heap.size ∧ w.cell? ⟨b, o + k * 2, none⟩ = some (sT L[k].name) ∧ w.cell? ⟨b, o + k * 2 + 1, none⟩ = some (.slice fa L[k].methods.length fc) ∧ Slc w 5 (.slice fa L[k].methods.length fc) L[k].methods.length (mcells L[k].methods) := by
 obtain ⟨_, _, e⟩ := h.shape
 injection e with _ e2
 subst e2
 obtain ⟨b, o, rfl, hb, hc⟩ := slc_cells h (by omega)
 obtain ⟨cs, ⟨u, rfl, hs⟩, hx⟩ := hr.at svcR_len k hk
 obtain ⟨fa, fc, rfl⟩ := hs.shape
 exact ⟨b, o, fa, fc, rfl, hb, hc _ _ (hx 0 _ rfl), hc _ _ (hx 1 _ rfl), hs⟩
theorem sga_at {w : World} {n c : Nat} {a : Option Addr} {L : List Sga} {xr : List Value} (h : Slc w 3 (.slice a n c) L.length xr) (hr : Rows sgaR w L xr) {k : Nat} (hk : k < L.length) :
  ∃ b o fa fc, a = some ⟨b, o, none⟩ ∧ b < w.heap.size ∧ w.cell? ⟨b, o + k * 3, none⟩ = some (sT L[k].name) ∧ w.cell? ⟨b, o + k * 3 + 1, none⟩ = some (sT L[k].arg) ∧ w.cell? ⟨b, o + k * 3 + 2, none⟩ = some (.slice fa L[k].steps.length fc) ∧ Slc w 3 (.slice fa L[k].steps.length fc) L[k].steps.length (pcells L[k].steps) := by
 obtain ⟨_, _, e⟩ := h.shape
 injection e with _ e2
 subst e2
 obtain ⟨b, o, rfl, hb, hc⟩ := slc_cells h (by omega)
 obtain ⟨cs, ⟨u, rfl, hs⟩, hx⟩ := hr.at sgaR_len k hk
 obtain ⟨fa, fc, rfl⟩ := hs.shape
 exact ⟨b, o, fa, fc, rfl, hb, hc _ _ (hx 0 _ rfl), hc _ _ (hx 1 _ rfl), hc _ _ (hx 2 _ rfl), hs⟩
theorem mcells_at : ∀ (L : List Mth) (k : Nat) (h : k < L.length), (mcells L)[k * 5]? = some (sT L[k].name) ∧ (mcells L)[k * 5 + 1]? = some (sT L[k].arg) ∧ (mcells L)[k * 5 + 2]? = some (.int .u8 (L[k].result : Nat)) ∧ (mcells L)[k * 5 + 3]? = some (sT L[k].effect) ∧ (mcells L)[k * 5 + 4]? = some (sT L[k].undo)
 | t :: L, 0, _ => ⟨rfl, rfl, rfl, rfl, rfl⟩
 | t :: L, k + 1, h => by
  obtain ⟨a, b, c, d, e⟩ := mcells_at L k (by simpa using h)
  have q : ∀ j, (mcells (t :: L))[(k + 1) * 5 + j]? = (mcells L)[k * 5 + j]? := fun j => by
   rw [show (k + 1) * 5 + j = k * 5 + j + 5 by omega]; rfl
  exact ⟨(q 0).trans a, (q 1).trans b, (q 2).trans c, (q 3).trans d, (q 4).trans e⟩
theorem pcells_at : ∀ (L : List Stp) (k : Nat) (h : k < L.length), (pcells L)[k * 3]? = some (sT L[k].service) ∧ (pcells L)[k * 3 + 1]? = some (sT L[k].method) ∧ (pcells L)[k * 3 + 2]? = some (iV L[k].node)
 | t :: L, 0, _ => ⟨rfl, rfl, rfl⟩
 | t :: L, k + 1, h => by
  obtain ⟨a, b, c⟩ := pcells_at L k (by simpa using h)
  have q : ∀ j, (pcells (t :: L))[(k + 1) * 3 + j]? = (pcells L)[k * 3 + j]? := fun j => by
   rw [show (k + 1) * 3 + j = k * 3 + j + 3 by omega]; rfl
  exact ⟨(q 0).trans a, (q 1).trans b, (q 2).trans c⟩
theorem scells_at : ∀ (L : List Srt) (k : Nat) (h : k < L.length), (scells L)[k * 2]? = some (.int .u8 (L[k].kind : Nat)) ∧ (scells L)[k * 2 + 1]? = some (sT L[k].name)
 | t :: L, 0, _ => ⟨rfl, rfl⟩
 | t :: L, k + 1, h => by
  obtain ⟨a, b⟩ := scells_at L k (by simpa using h)
  have q : ∀ j, (scells (t :: L))[(k + 1) * 2 + j]? = (scells L)[k * 2 + j]? := fun j => by
   rw [show (k + 1) * 2 + j = k * 2 + j + 2 by omega]; rfl
  exact ⟨(q 0).trans a, (q 1).trans b⟩
theorem mth_at {w : World} {n c : Nat} {a : Option Addr} {L : List Mth} (h : Slc w 5 (.slice a n c) L.length (mcells L)) {k : Nat} (hk : k < L.length) :
  ∃ b o, a = some ⟨b, o, none⟩ ∧ b < w.heap.size ∧ w.cell? ⟨b, o + k * 5, none⟩ = some (sT L[k].name) ∧ w.cell? ⟨b, o + k * 5 + 1, none⟩ = some (sT L[k].arg) ∧ w.cell? ⟨b, o + k * 5 + 2, none⟩ = some (.int .u8 (L[k].result : Nat)) ∧ w.cell? ⟨b, o + k * 5 + 3, none⟩ = some (sT L[k].effect) ∧ w.cell? ⟨b, o + k * 5 + 4, none⟩ = some (sT L[k].undo) := by
 obtain ⟨_, _, e⟩ := h.shape
 injection e with _ e2
 subst e2
 obtain ⟨b, o, rfl, hb, hc⟩ := slc_cells h (by omega)
 obtain ⟨h0, h1, h2, h3, h4⟩ := mcells_at L k hk
 exact ⟨b, o, rfl, hb, hc _ _ h0, hc _ _ h1, hc _ _ h2, hc _ _ h3, hc _ _ h4⟩
theorem stp_at {w : World} {n c : Nat} {a : Option Addr} {L : List Stp} (h : Slc w 3 (.slice a n c) L.length (pcells L)) {k : Nat} (hk : k < L.length) :
  ∃ b o, a = some ⟨b, o, none⟩ ∧ b < w.heap.size ∧ w.cell? ⟨b, o + k * 3, none⟩ = some (sT L[k].service) ∧ w.cell? ⟨b, o + k * 3 + 1, none⟩ = some (sT L[k].method) ∧ w.cell? ⟨b, o + k * 3 + 2, none⟩ = some (iV L[k].node) := by
 obtain ⟨_, _, e⟩ := h.shape
 injection e with _ e2
 subst e2
 obtain ⟨b, o, rfl, hb, hc⟩ := slc_cells h (by omega)
 obtain ⟨h0, h1, h2⟩ := pcells_at L k hk
 exact ⟨b, o, rfl, hb, hc _ _ h0, hc _ _ h1, hc _ _ h2⟩
theorem srt_at {w : World} {n c : Nat} {a : Option Addr} {L : List Srt} (h : Slc w 2 (.slice a n c) L.length (scells L)) {k : Nat} (hk : k < L.length) :
  ∃ b o, a = some ⟨b, o, none⟩ ∧ b < w.heap.size ∧ w.cell? ⟨b, o + k * 2, none⟩ = some (.int .u8 (L[k].kind : Nat)) ∧ w.cell? ⟨b, o + k * 2 + 1, none⟩ = some (sT L[k].name) := by
 obtain ⟨_, _, e⟩ := h.shape
 injection e with _ e2
 subst e2
 obtain ⟨b, o, rfl, hb, hc⟩ := slc_cells h (by omega)
 obtain ⟨h0, h1⟩ := scells_at L k hk
 exact ⟨b, o, rfl, hb, hc _ _ h0, hc _ _ h1⟩
section
variable {w0 w : World} (hB : Below w0.heap.size w0 w) {n c : Nat} {a : Option Addr}
include hB
theorem rec_in {L : List Rec} {xr : List Value} (h : Slc w0 3 (.slice a n c) L.length xr) (hr : Rows recR w0 L xr) {k : Nat} (hk : k < L.length) :
  ∃ b o fa fc ys, a = some ⟨b, o, none⟩ ∧ b < w.heap.size ∧ w.cell? ⟨b, o + k * 3, none⟩ = some (sT L[k].name) ∧ w.cell? ⟨b, o + k * 3 + 1, none⟩ = some (.bool L[k].choice) ∧ w.cell? ⟨b, o + k * 3 + 2, none⟩ = some (.slice fa L[k].fields.length fc) ∧ Slc w0 2 (.slice fa L[k].fields.length fc) L[k].fields.length ys ∧ Rows fldR w0 L[k].fields ys := by
 obtain ⟨b, o, fa, fc, ys, e, hb, q0, q1, q2, q3, q4⟩ := rec_at h hr hk
 exact ⟨b, o, fa, fc, ys, e, Nat.lt_of_lt_of_le hb hB.size, (hB.cell (p := ⟨b, o + k * 3, none⟩) hb).trans q0, (hB.cell (p := ⟨b, o + k * 3 + 1, none⟩) hb).trans q1, (hB.cell (p := ⟨b, o + k * 3 + 2, none⟩) hb).trans q2, q3, q4⟩
theorem fld_in {L : List Fld} {xr : List Value} (h : Slc w0 2 (.slice a n c) L.length xr) (hr : Rows fldR w0 L xr) {k : Nat} (hk : k < L.length) :
  ∃ b o fa fc, a = some ⟨b, o, none⟩ ∧ b < w.heap.size ∧ w.cell? ⟨b, o + k * 2, none⟩ = some (sT L[k].name) ∧ w.cell? ⟨b, o + k * 2 + 1, none⟩ = some (.slice fa L[k].type.length fc) ∧ Slc w0 2 (.slice fa L[k].type.length fc) L[k].type.length (scells L[k].type) := by
 obtain ⟨b, o, fa, fc, e, hb, q0, q1, q3⟩ := fld_at h hr hk
 exact ⟨b, o, fa, fc, e, Nat.lt_of_lt_of_le hb hB.size, (hB.cell (p := ⟨b, o + k * 2, none⟩) hb).trans q0, (hB.cell (p := ⟨b, o + k * 2 + 1, none⟩) hb).trans q1, q3⟩
theorem svc_in {L : List Svc} {xr : List Value} (h : Slc w0 2 (.slice a n c) L.length xr) (hr : Rows svcR w0 L xr) {k : Nat} (hk : k < L.length) :
  ∃ b o fa fc, a = some ⟨b, o, none⟩ ∧ b < w.heap.size ∧ w.cell? ⟨b, o + k * 2, none⟩ = some (sT L[k].name) ∧ w.cell? ⟨b, o + k * 2 + 1, none⟩ = some (.slice fa L[k].methods.length fc) ∧ Slc w0 5 (.slice fa L[k].methods.length fc) L[k].methods.length (mcells L[k].methods) := by
 obtain ⟨b, o, fa, fc, e, hb, q0, q1, q3⟩ := svc_at h hr hk
 exact ⟨b, o, fa, fc, e, Nat.lt_of_lt_of_le hb hB.size, (hB.cell (p := ⟨b, o + k * 2, none⟩) hb).trans q0, (hB.cell (p := ⟨b, o + k * 2 + 1, none⟩) hb).trans q1, q3⟩
theorem sga_in {L : List Sga} {xr : List Value} (h : Slc w0 3 (.slice a n c) L.length xr) (hr : Rows sgaR w0 L xr) {k : Nat} (hk : k < L.length) :
  ∃ b o fa fc, a = some ⟨b, o, none⟩ ∧ b < w.heap.size ∧ w.cell? ⟨b, o + k * 3, none⟩ = some (sT L[k].name) ∧ w.cell? ⟨b, o + k * 3 + 1, none⟩ = some (sT L[k].arg) ∧ w.cell? ⟨b, o + k * 3 + 2, none⟩ = some (.slice fa L[k].steps.length fc) ∧ Slc w0 3 (.slice fa L[k].steps.length fc) L[k].steps.length (pcells L[k].steps) := by
 obtain ⟨b, o, fa, fc, e, hb, q0, q1, q2, q3⟩ := sga_at h hr hk
 exact ⟨b, o, fa, fc, e, Nat.lt_of_lt_of_le hb hB.size, (hB.cell (p := ⟨b, o + k * 3, none⟩) hb).trans q0, (hB.cell (p := ⟨b, o + k * 3 + 1, none⟩) hb).trans q1, (hB.cell (p := ⟨b, o + k * 3 + 2, none⟩) hb).trans q2, q3⟩
theorem mth_in {L : List Mth} (h : Slc w0 5 (.slice a n c) L.length (mcells L)) {k : Nat} (hk : k < L.length) :
  ∃ b o, a = some ⟨b, o, none⟩ ∧ b < w.heap.size ∧ w.cell? ⟨b, o + k * 5, none⟩ = some (sT L[k].name) ∧ w.cell? ⟨b, o + k * 5 + 1, none⟩ = some (sT L[k].arg) ∧ w.cell? ⟨b, o + k * 5 + 2, none⟩ = some (.int .u8 (L[k].result : Nat)) ∧ w.cell? ⟨b, o + k * 5 + 3, none⟩ = some (sT L[k].effect) ∧ w.cell? ⟨b, o + k * 5 + 4, none⟩ = some (sT L[k].undo) := by
 obtain ⟨b, o, e, hb, q0, q1, q2, q3, q4⟩ := mth_at h hk
 exact ⟨b, o, e, Nat.lt_of_lt_of_le hb hB.size, (hB.cell (p := ⟨b, o + k * 5, none⟩) hb).trans q0, (hB.cell (p := ⟨b, o + k * 5 + 1, none⟩) hb).trans q1, (hB.cell (p := ⟨b, o + k * 5 + 2, none⟩) hb).trans q2, (hB.cell (p := ⟨b, o + k * 5 + 3, none⟩) hb).trans q3, (hB.cell (p := ⟨b, o + k * 5 + 4, none⟩) hb).trans q4⟩
theorem stp_in {L : List Stp} (h : Slc w0 3 (.slice a n c) L.length (pcells L)) {k : Nat} (hk : k < L.length) :
  ∃ b o, a = some ⟨b, o, none⟩ ∧ b < w.heap.size ∧ w.cell? ⟨b, o + k * 3, none⟩ = some (sT L[k].service) ∧ w.cell? ⟨b, o + k * 3 + 1, none⟩ = some (sT L[k].method) ∧ w.cell? ⟨b, o + k * 3 + 2, none⟩ = some (iV L[k].node) := by
 obtain ⟨b, o, e, hb, q0, q1, q2⟩ := stp_at h hk
 exact ⟨b, o, e, Nat.lt_of_lt_of_le hb hB.size, (hB.cell (p := ⟨b, o + k * 3, none⟩) hb).trans q0, (hB.cell (p := ⟨b, o + k * 3 + 1, none⟩) hb).trans q1, (hB.cell (p := ⟨b, o + k * 3 + 2, none⟩) hb).trans q2⟩
end
end
structure Small (s : Sch) : Prop where
 nm : s.name.length ≤ 200
 nr : s.records.length ≤ 100
 ns : s.services.length ≤ 100
 ng : s.sagas.length ≤ 100
 rc : ∀ r ∈ s.records, r.name.length ≤ 200 ∧ r.fields.length ≤ 40 ∧ ∀ f ∈ r.fields, f.name.length ≤ 200 ∧ f.type.length ≤ 40 ∧ ∀ t ∈ f.type, t.name.length ≤ 200
 sv : ∀ v ∈ s.services, v.name.length ≤ 200 ∧ v.methods.length ≤ 40 ∧ ∀ m ∈ v.methods, m.name.length ≤ 200 ∧ m.arg.length ≤ 200 ∧ m.effect.length ≤ 200 ∧ m.undo.length ≤ 200
 sg : ∀ g ∈ s.sagas, g.name.length ≤ 200 ∧ g.arg.length ≤ 200 ∧ g.steps.length ≤ 40 ∧ ∀ x ∈ g.steps, x.service.length ≤ 200 ∧ x.method.length ≤ 200
def cntR (f : Flt) (r : Rec) : Flt := atF f (decide (r.fields.length ≤ 16)) r.name 135
def cntV (f : Flt) (r : Svc) : Flt := atF f (decide (r.methods.length ≤ 16)) r.name 135
def cntG (f : Flt) (r : Sga) : Flt := atF f (decide (1 ≤ r.steps.length) && decide (r.steps.length ≤ 8)) r.name 135
def countsA (s : Sch) (f : Flt) : Flt := s.sagas.foldl cntG (s.services.foldl cntV (s.records.foldl cntR (atF f (decide (s.records.length + s.services.length + s.sagas.length ≤ 64)) [] 135)))
theorem counts_any (w0 w : World) (s : Sch) (ur us ug : Value) (hS : SchR w0 s ur us ug) (hM : Small s) (f : Flt) (hF : NewB w0 w 99 (fcells f)) :
  Calls Tryz.prog 27 #[.agg #[sT s.name, ur, us, ug], .pointer (some ⟨w0.heap.size, 0, none⟩)] w fun x w' => x = .returned (.tuple #[]) ∧ FQ w0 w w' (countsA s f) := by
 have HM := zD hM
 obtain ⟨⟨ra, rv, rfl⟩, ⟨sa, sv, rfl⟩, ⟨ga, gv, rfl⟩⟩ := hS.shape
 have HS := zD (fun (wr : World) (h : Below w0.heap.size w0 wr) => hS.below h)
 have hn1 := hM.nr
 have hn2 := hM.ns
 have hn3 := hM.ng
 have HF0 := zD (FQ.start (hF.after ((Below.refl _ w).alloc zn (.cells (sV s ra sa ga rv sv gv) 26))))
 have hwf := hF.lt
 have HX := zD (fun (wr : World) (h : Aw w0.heap.size (w.alloc (.cells (sV s ra sa ga rv sv gv) 26)) wr) => show wr.heap[w.heap.size]? = some (.cells (sV s ra sa ga rv sv gv) 26 (0, 0)) from (h.block _ (by simp) (by omega)).trans (zw _ _))
 have HE := zD (fun (wr : World) (f' : Flt) (h : FQ w0 (w.alloc (.cells (sV s ra sa ga rv sv gv) 26)) wr f') => show FQ w0 w wr f' from ⟨h.nb, (Aw.below ((Below.refl _ w).alloc zn _)).trans h.aw⟩)
 have HA := zD (fun w1 w2 f h r wh e => at_any w0 w1 w2 f h r wh e)
 clear hS hM hF
 unfold countsA
 have h64 : decide (((s.records.length : Int) + s.services.length + s.sagas.length) ≤ 64) = decide (s.records.length + s.services.length + s.sagas.length ≤ 64) := by rw [decide_eq_decide]; omega
 generalize hf1 : atF f (decide (s.records.length + s.services.length + s.sagas.length ≤ 64)) [] 135 = f1
 generalize hf2 : s.records.foldl cntR f1 = f2
 generalize hf3 : s.services.foldl cntV f2 = f3
 generalize hf4 : s.sagas.foldl cntG f3 = f4
 have HF1 := zD hf1
 have HF2 := zD hf2
 have HF3 := zD hf3
 have HF4 := zD hf4
 clear hf1 hf2 hf3 hf4
 go_enter Tryz.func27, Tryz.ntmps27
 go_wp2_with fail
 refine (HA.out _ _ _ HF0.out (decide (s.records.length + s.services.length + s.sagas.length ≤ 64)) [] 135).mono ?_
 rintro e wa ⟨rfl, hfa⟩
 rw [HF1.out] at hfa
 have HFa := zD hfa
 clear hfa h64
 have hbx := HX.out wa HFa.out.aw
 have cbx : wa.cell? ⟨w.heap.size, 1, none⟩ = some (.slice ra s.records.length rv) := by simp [World.cell?, hbx]
 clear hbx
 go_wp2_with fail
 go_loopw [27] (fun vi wr => ∃ k : Nat, k ≤ s.records.length ∧ vi = iV (k : Nat) ∧ Hid (FQ w0 (w.alloc (.cells (sV s ra sa ga rv sv gv) 26)) wr ((s.records.take k).foldl cntR f1))) (fun vi _ => s.records.length - (intOf vi).toNat)
 case atStart => exact ⟨0, by omega, rfl, zD HFa.out⟩
 case round =>
  clear HFa cbx; obtain ⟨k, hk, rfl, HFr⟩ := hrel; by_cases hlt : k < s.records.length
  ·obtain ⟨xr, hx1, hx2⟩ := (HS.out _ HFr.out.nb.bel).rc
   obtain ⟨b, o, fa, fc, ys, rfl, hb, q0, q1, q2, hs, hr⟩ := rec_at hx1 hx2 hlt; have HT := zD (take_fold cntR f1 s.records k hlt); have hbd := HM.out.rc _ (List.getElem_mem hlt); have hsz := HFr.out.size; generalize s.records[k] = r at *; clear hx1 hx2 hs hr; have hn := hbd.2.1; have h16 : decide ((r.fields.length : Int) ≤ 16) = decide (r.fields.length ≤ 16) := by rw [decide_eq_decide]; omega
   go_wp2_with fail; refine (HA.out _ _ _ (HFr.out.alloc _) (decide (r.fields.length ≤ 16)) r.name 135).mono ?_; rintro e wb ⟨rfl, hfb⟩; go_wp2_with fail; exact ⟨⟨k + 1, by omega, by go_num, zD (by rw [HT.out]; exact hfb)⟩, by simp [intOf]; omega⟩
  have HFz := zD (show FQ w0 (w.alloc (.cells (sV s ra sa ga rv sv gv) 26)) wr f2 from by have h := HFr.out; rw [take_all _ _ _ _ hlt, HF2.out] at h; exact h); clear HFr; have hbx := HX.out wr HFz.out.aw; have cbx : wr.cell? ⟨w.heap.size, 2, none⟩ = some (.slice sa s.services.length sv) := by simp [World.cell?, hbx]
  clear hbx; go_wp2_with fail; go_loopw [43] (fun vi wr => ∃ k : Nat, k ≤ s.services.length ∧ vi = iV (k : Nat) ∧ Hid (FQ w0 (w.alloc (.cells (sV s ra sa ga rv sv gv) 26)) wr ((s.services.take k).foldl cntV f2))) (fun vi _ => s.services.length - (intOf vi).toNat)
  case atStart => exact ⟨0, by omega, rfl, zD HFz.out⟩
  case round =>
   clear HFz cbx; obtain ⟨k, hk, rfl, HFr⟩ := hrel; by_cases hlt : k < s.services.length
   ·obtain ⟨xr, hx1, hx2⟩ := (HS.out _ HFr.out.nb.bel).sv
    obtain ⟨b, o, fa, fc, rfl, hb, q0, q1, hs⟩ := svc_at hx1 hx2 hlt; have HT := zD (take_fold cntV f2 s.services k hlt); have hbd := HM.out.sv _ (List.getElem_mem hlt); have hsz := HFr.out.size; generalize s.services[k] = r at *; clear hx1 hx2 hs; have hn := hbd.2.1; have h16 : decide ((r.methods.length : Int) ≤ 16) = decide (r.methods.length ≤ 16) := by rw [decide_eq_decide]; omega
    go_wp2_with fail; refine (HA.out _ _ _ (HFr.out.alloc _) (decide (r.methods.length ≤ 16)) r.name 135).mono ?_; rintro e wb ⟨rfl, hfb⟩; go_wp2_with fail; exact ⟨⟨k + 1, by omega, by go_num, zD (by rw [HT.out]; exact hfb)⟩, by simp [intOf]; omega⟩
   have HFz := zD (show FQ w0 (w.alloc (.cells (sV s ra sa ga rv sv gv) 26)) wr f3 from by have h := HFr.out; rw [take_all _ _ _ _ hlt, HF3.out] at h; exact h); clear HFr; have hbx := HX.out wr HFz.out.aw; have cbx : wr.cell? ⟨w.heap.size, 3, none⟩ = some (.slice ga s.sagas.length gv) := by simp [World.cell?, hbx]
   clear hbx; go_wp2_with fail; go_loopw [59] (fun vi wr => ∃ k : Nat, k ≤ s.sagas.length ∧ vi = iV (k : Nat) ∧ Hid (FQ w0 (w.alloc (.cells (sV s ra sa ga rv sv gv) 26)) wr ((s.sagas.take k).foldl cntG f3))) (fun vi _ => s.sagas.length - (intOf vi).toNat)
   case atStart => exact ⟨0, by omega, rfl, zD HFz.out⟩
   case round =>
    clear HFz cbx; obtain ⟨k, hk, rfl, HFr⟩ := hrel; by_cases hlt : k < s.sagas.length
    ·obtain ⟨xr, hx1, hx2⟩ := (HS.out _ HFr.out.nb.bel).sg
     obtain ⟨b, o, fa, fc, rfl, hb, q0, q1, q2, hs⟩ := sga_at hx1 hx2 hlt; have HT := zD (take_fold cntG f3 s.sagas k hlt); have hbd := HM.out.sg _ (List.getElem_mem hlt); have hsz := HFr.out.size; generalize s.sagas[k] = r at *; clear hx1 hx2 hs; have hn := hbd.2.2.1; have h16 : decide ((r.steps.length : Int) ≤ 8) = decide (r.steps.length ≤ 8) := by rw [decide_eq_decide]; omega
     by_cases h1 : 1 ≤ r.steps.length
     ·have hq : (decide (1 ≤ r.steps.length) && decide (r.steps.length ≤ 8)) = decide (r.steps.length ≤ 8) := by rw [zt h1]; rfl
      have HQ := zD hq; clear hq; go_wp2_with fail; refine (HA.out _ _ _ (HFr.out.alloc _) (decide (r.steps.length ≤ 8)) r.name 135).mono ?_; rintro e wb ⟨rfl, hfb⟩; go_wp2_with fail; exact ⟨⟨k + 1, by omega, by go_num, zD (by rw [HT.out]; unfold cntG; rw [HQ.out]; exact hfb)⟩, by simp [intOf]; omega⟩
     ·have hq : (decide (1 ≤ r.steps.length) && decide (r.steps.length ≤ 8)) = false := by rw [zf h1]; rfl
      have HQ := zD hq; clear hq; go_wp2_with fail; refine (HA.out _ _ _ (HFr.out.alloc _) false r.name 135).mono ?_; rintro e wb ⟨rfl, hfb⟩; go_wp2_with fail; exact ⟨⟨k + 1, by omega, by go_num, zD (by rw [HT.out]; unfold cntG; rw [HQ.out]; exact hfb)⟩, by simp [intOf]; omega⟩
    have HFz := zD (show FQ w0 (w.alloc (.cells (sV s ra sa ga rv sv gv) 26)) wr f4 from by have h := HFr.out; rw [take_all _ _ _ _ hlt, HF4.out] at h; exact h); clear HFr; go_wp2_with fail; go_end0; exact ⟨rfl, HE.out _ _ HFz.out⟩
theorem nm1_any (w0 w1 w : World) (f : Flt) (hF : FQ w0 w1 w f) (hK : KwIn w) (bb : Nat) (hbl : bb < w.heap.size) (hne : bb ≠ w0.heap.size) (hc : w.cell? ⟨bb, 0, none⟩ = some (.pointer (some ⟨w0.heap.size, 0, none⟩))) (a : Tx) (ha : a.length ≤ 200) :
  Calls Tryz.prog 53 #[sT a, .pointer (some ⟨bb, 0, none⟩)] w fun x w' => x = .returned (.tuple #[]) ∧ FQ w0 w1 w' (atF f (nameT a) a 120) := by
 have HF := zD (fun W (X : Below w.heap.size w W) => hF.after X)
 have HN := zD (fun W (X : Below w.heap.size w W) => tname_any W (hK.below X) (bT a) (by rw [bT_size]; omega))
 have HS := zD (fun W (X : Below w.heap.size w W) => (X.cell (p := ⟨bb, 0, none⟩) hbl).trans hc)
 have HB := zD (Below.refl w.heap.size w).drew
 have HA := zD (fun W h => at_z w0 W f h (nameT a) a 120 120 rfl _ rfl)
 have hc0 := hc
 have HQ := zD (show nameT (bT a).data.toList = nameT a from rfl)
 clear hF hK hc
 generalize nameT a = R at *
 go_enter Tryz.func53, Tryz.ntmps53
 go_wp2_with fail
 go_region_held3 (fun w' => w'.cell? ⟨bb, 0, none⟩ = some (.pointer (some ⟨w0.heap.size, 0, none⟩)))
  (first | exact HS.out _ HB.out | exact HS.out _ hb1 | assumption | exact hs3)
  (first
   | (go_at_call 52; ((with_reducible refine (HN.out _ HB.out).mono ?_); rintro e w2 ⟨rfl, hb⟩; have hb1 := HB.out.trans (hb.mono HB.out.size); rw [HQ.out]))
   | (go_at_call 51; ((with_reducible refine (HA.out _ (HF.out _ hb1).nb).mono ?_); rintro e w3 ⟨rfl, hf3⟩; have hs3 : w3.cell? ⟨bb, 0, none⟩ = some (.pointer (some ⟨w0.heap.size, 0, none⟩)) := (hf3.aw.cell (Nat.lt_of_lt_of_le hbl hb1.size) hne 0).trans (HS.out _ hb1))))
 all_goals
  go_end0; exact ⟨rfl, (HF.out _ hb1).step hf3⟩
end Go.Proofs.YtgoejmheihgpfaaGreatDoor
