/- Lemmas for ModelStays' proof. -/
import Derived.Test.YtgoejmheihgpfaaGreatDoorRf
namespace Go.Proofs.YtgoejmheihgpfaaGreatDoor
set_option maxRecDepth 100000
set_option maxHeartbeats 16000000
open Go.RowKit
def fndG (G : Option Sga) : Sga × Nat := match G with | some g => (g, 0) | none => (⟨[], [], []⟩, 240)
def foundA (s : Sch) (a : Tx) : Sga × Nat := if (textA' s).2 = 0 then fndG (sagOf s.sagas a) else (⟨[], [], []⟩, (textA' s).2)
theorem found_any (w : World) (hK : KwIn w) (s : Sch) (ur us ug : Value) (hS : SchR w s ur us ug) (hM : Small s) (a : Tx) :
  Calls Tryz.prog 104 #[.agg #[sT s.name, ur, us, ug], sT a] w fun x w' => ∃ (u : Value) (n : Int), x = .returned (.tuple #[.agg #[sT (foundA s a).1.name, sT (foundA s a).1.arg, u], .int .u64 n, iV ((foundA s a).2 : Nat)]) ∧ w'.ownsRow w.heap.size 108 3 u (foundA s a).1.steps.length (pcells (foundA s a).1.steps) ∧ Below w.heap.size w w' := by
 obtain ⟨⟨ra, rv, rfl⟩, ⟨sa, sv, rfl⟩, ⟨ga, gv, rfl⟩⟩ := hS.shape
 have HB0 := zD (show Below w.heap.size w ((w.alloc (.cells (sV s ra sa ga rv sv gv) 26)).alloc (.cells #[eS, eS, .slice none 0 0] 67)) from ((Below.refl _ w).alloc zn _).alloc (by simp) _)
 have HPR := zD (print_any ((w.alloc (.cells (sV s ra sa ga rv sv gv) 26)).alloc (.cells #[eS, eS, .slice none 0 0] 67)) (hK.below HB0.out) s _ _ _ (hS.below HB0.out) hM)
 have HSA := zD (fun W (X : Below w.heap.size w W) => saga_any W s _ _ _ (hS.below X) hM a)
 have hX0 : ((w.alloc (.cells (sV s ra sa ga rv sv gv) 26)).alloc (.cells #[eS, eS, .slice none 0 0] 67)).heap[w.heap.size]? = some (.cells (sV s ra sa ga rv sv gv) 26 (0, 0)) := (Below.heap_alloc _ _ _ (by simp)).trans (zw _ _)
 have hY0 : ((w.alloc (.cells (sV s ra sa ga rv sv gv) 26)).alloc (.cells #[eS, eS, .slice none 0 0] 67)).heap[w.heap.size + 1]? = some (.cells #[eS, eS, .slice none 0 0] 67 (0, 0)) := heap_alloc_new2 _ _ _
 have hZ0 : ((w.alloc (.cells (sV s ra sa ga rv sv gv) 26)).alloc (.cells #[eS, eS, .slice none 0 0] 67)).heap.size = w.heap.size + 2 := by simp
 have HQ := zD (show foundA s a = if (textA' s).2 = 0 then fndG (sagOf s.sagas a) else (⟨[], [], []⟩, (textA' s).2) from rfl)
 generalize foundA s a = F at *
 generalize textA' s = TA at *
 generalize sagOf s.sagas a = G at *
 obtain ⟨tw, tn⟩ := TA
 clear hK hS hM
 go_enter Tryz.func104, Tryz.ntmps104
 go_wp2_with fail
 refine HPR.out.mono ?_
 rintro e w2 ⟨n, rfl, hb2⟩
 have HX2 := zD (show w2.heap[w.heap.size]? = some (.cells (sV s ra sa ga rv sv gv) 26 (0, 0)) from (hb2.block _ (by omega)).trans hX0)
 have HY2 := zD (show w2.heap[w.heap.size + 1]? = some (.cells #[eS, eS, .slice none 0 0] 67 (0, 0)) from (hb2.block _ (by omega)).trans hY0)
 have HB2 := zD (HB0.out.trans (hb2.mono (by omega)))
 have hsz2 := hb2.size
 rw [hZ0] at hsz2
 generalize ((w.alloc (.cells (sV s ra sa ga rv sv gv) 26)).alloc (.cells #[eS, eS, .slice none 0 0] 67)) = wS at *
 clear hb2 HPR hX0 hY0 HB0
 have y0 : w2.cell? ⟨w.heap.size, 0, none⟩ = some (sT s.name) := by simp [World.cell?, HX2.out]
 have y1 : w2.cell? ⟨w.heap.size, 1, none⟩ = some (.slice ra s.records.length rv) := by simp [World.cell?, HX2.out]
 have y2 : w2.cell? ⟨w.heap.size, 2, none⟩ = some (.slice sa s.services.length sv) := by simp [World.cell?, HX2.out]
 have y3 : w2.cell? ⟨w.heap.size, 3, none⟩ = some (.slice ga s.sagas.length gv) := by simp [World.cell?, HX2.out]
 by_cases hc : tn = 0
 case neg =>
  have d0 : ((tn : Int) != 0) = true := by simp; omega
  have HF := zD (show F = (⟨[], [], []⟩, tn) from by rw [HQ.out, if_neg hc]); clear HQ hc; obtain rfl := HF.out; obtain ⟨l0, l1, l2, g0, g1, g2⟩ := laid3_cells HY2.out; obtain ⟨m0, m1, m2⟩ := laid3_read HY2.out (eS) (eS) (.slice none 0 0); go_wp2_with fail; exact bodyPost_ret (v := .tuple #[.agg #[eS, eS, .slice none 0 0], .int .u64 0, iV (tn : Nat)]) (by simp [results, Tryz.results104, go_sem, m0, m1, m2]) rfl ⟨_, ⟨_, rfl⟩, World.ownsRow_nil _ _ _ _, laid3_below HB2.out (by omega) _ _ _⟩
 subst hc
 have d0 : (((0 : Nat) : Int) != 0) = false := by decide
 have HQ1 := zD (show F = fndG G from by rw [HQ.out, if_pos rfl])
 have HSg := zD (HSA.out w2 HB2.out)
 clear HQ HSA
 cases G with
 | none =>
  obtain rfl := (show F = (⟨[], [], []⟩, 240) from HQ1.out); have HSz := zD (show Calls Tryz.prog 17 #[.agg (sV s ra sa ga rv sv gv), sT a] w2 (fun x w' => ∃ u, x = .returned (.tuple #[.agg #[eS, eS, u], .bool false]) ∧ w'.ownsRow w2.heap.size 108 3 u 0 [] ∧ Below w2.heap.size w2 w') from HSg.out); clear HSg; go_wp2_with fail; refine HSz.out.mono ?_; rintro e w3 ⟨u, rfl, hu, hb3⟩; have HY3 := zD (show w3.heap[w.heap.size + 1]? = some (.cells #[eS, eS, .slice none 0 0] 67 (0, 0)) from (hb3.block _ (by omega)).trans HY2.out); have HB3 := zD (HB2.out.trans (hb3.mono (by omega))); obtain ⟨uA, uc, rfl⟩ := own_slice hu; clear hb3 hu y0 y1 y2 y3 HSz; obtain ⟨l0, l1, l2, g0, g1, g2⟩ := laid3_cells HY3.out; have HG4 := zD (show (((w3.setCell ⟨w.heap.size + 1, 0, none⟩ (eS)).setCell ⟨w.heap.size + 1, 1, none⟩ (eS)).setCell ⟨w.heap.size + 1, 2, none⟩ (.slice uA 0 uc)).heap[w.heap.size + 1]? = some (.cells #[eS, eS, .slice uA 0 uc] 67 (0, 0)) from by simp [World.setCell, Array.getElem?_modify, HY3.out]); have HB4 := zD (laid3_below HB3.out (show w.heap.size ≤ w.heap.size + 1 by omega) (eS) (eS) (.slice uA 0 uc)); obtain ⟨k0, k1, k2, f0, f1, f2⟩ := laid3_cells HG4.out; obtain ⟨m0, m1, m2⟩ := laid3_read HG4.out (eS) (eS) (.slice none 0 0); generalize hw4 : ((w3.setCell ⟨w.heap.size + 1, 0, none⟩ (eS)).setCell ⟨w.heap.size + 1, 1, none⟩ (eS)).setCell ⟨w.heap.size + 1, 2, none⟩ (.slice uA 0 uc) = w4 at *; go_wp2_with fail; try rw [hw4]
  go_wp2_with fail; exact bodyPost_ret (v := .tuple #[.agg #[eS, eS, .slice none 0 0], .int .u64 0, iV 240]) (by simp [results, Tryz.results104, go_sem, m0, m1, m2]) rfl ⟨_, ⟨_, rfl⟩, World.ownsRow_nil _ _ _ _, laid3_below HB4.out (by omega) _ _ _⟩
 | some g =>
  obtain rfl := (show F = (g, 0) from HQ1.out); have HSz := zD (show Calls Tryz.prog 17 #[.agg (sV s ra sa ga rv sv gv), sT a] w2 (fun x w' => ∃ u, x = .returned (.tuple #[.agg #[sT g.name, sT g.arg, u], .bool true]) ∧ w'.ownsRow w2.heap.size 108 3 u g.steps.length (pcells g.steps) ∧ Below w2.heap.size w2 w') from HSg.out); clear HSg; go_wp2_with fail; refine HSz.out.mono ?_; rintro e w3 ⟨u, rfl, hu, hb3⟩; have HY3 := zD (show w3.heap[w.heap.size + 1]? = some (.cells #[eS, eS, .slice none 0 0] 67 (0, 0)) from (hb3.block _ (by omega)).trans HY2.out); have HB3 := zD (HB2.out.trans (hb3.mono (by omega))); have HU3 := zD hu; obtain ⟨uA, uc, rfl⟩ := own_slice hu; clear hb3 hu y0 y1 y2 y3 HSz; obtain ⟨l0, l1, l2, g0, g1, g2⟩ := laid3_cells HY3.out; have HG4 := zD (show (((w3.setCell ⟨w.heap.size + 1, 0, none⟩ (sT g.name)).setCell ⟨w.heap.size + 1, 1, none⟩ (sT g.arg)).setCell ⟨w.heap.size + 1, 2, none⟩ (.slice uA g.steps.length uc)).heap[w.heap.size + 1]? = some (.cells #[sT g.name, sT g.arg, .slice uA g.steps.length uc] 67 (0, 0)) from by simp [World.setCell, Array.getElem?_modify, HY3.out]); have HB4 := zD (laid3_below HB3.out (show w.heap.size ≤ w.heap.size + 1 by omega) (sT g.name) (sT g.arg) (.slice uA g.steps.length uc)); have HK4 := zD (laid3_keep w3 (show w.heap.size + 1 < w2.heap.size by omega) (sT g.name) (sT g.arg) (.slice uA g.steps.length uc)); have HK5 := zD (fun (W : World) => laid3_keep W (show w.heap.size + 1 < w2.heap.size by omega) (sT g.name) (sT g.arg) (.slice uA g.steps.length uc)); obtain ⟨k0, k1, k2, f0, f1, f2⟩ := laid3_cells HG4.out; obtain ⟨m0, m1, m2⟩ := laid3_read HG4.out (sT g.name) (sT g.arg) (.slice uA g.steps.length uc); generalize hw4 : ((w3.setCell ⟨w.heap.size + 1, 0, none⟩ (sT g.name)).setCell ⟨w.heap.size + 1, 1, none⟩ (sT g.arg)).setCell ⟨w.heap.size + 1, 2, none⟩ (.slice uA g.steps.length uc) = w4 at *; have z0 : w4.cell? ⟨w.heap.size + 1, 0, none⟩ = some (sT g.name) := k0; have z1 : w4.cell? ⟨w.heap.size + 1, 1, none⟩ = some (sT g.arg) := by simp [World.cell?, HG4.out]
  have z2 : w4.cell? ⟨w.heap.size + 1, 2, none⟩ = some (.slice uA g.steps.length uc) := by simp [World.cell?, HG4.out]
  go_upto_region 7 with (fail); try rw [hw4]
  go_wp2_with fail; exact bodyPost_ret (v := .tuple #[.agg #[sT g.name, sT g.arg, .slice uA g.steps.length uc], .int .u64 n, iV 0]) (by simp [results, Tryz.results104, go_sem, m0, m1, m2]) rfl ⟨_, ⟨_, rfl⟩, own_base ((HK4.out.trans (HK5.out w4)) _ _ _ _ _ HU3.out) (by omega), laid3_below HB4.out (by omega) _ _ _⟩
structure PtN (rb : Nat) (w w' : World) : Prop where
 os : w'.os = w.os
 tape : w'.tape = w.tape
 output : w'.output = w.output
 size : w.heap.size ≤ w'.heap.size
 keep : ∀ k, k < w.heap.size → k ≠ rb → (k < rb ∨ ∀ cs fz, w.heap[k]? ≠ some (.cells cs 262 fz)) → w'.heap[k]? = w.heap[k]?
theorem PtN.refl (rb : Nat) (w : World) : PtN rb w w := ⟨rfl, rfl, rfl, zn, fun _ _ _ _ => rfl⟩
theorem PtN.trans {rb : Nat} {a b c : World} (h : PtN rb a b) (k : PtN rb b c) : PtN rb a c :=
 ⟨k.os.trans h.os, k.tape.trans h.tape, k.output.trans h.output, Nat.le_trans h.size k.size, fun i hi hn hs => by
  have e := h.keep i hi hn hs
  exact (k.keep i (Nat.lt_of_lt_of_le hi h.size) hn (hs.imp id fun g cs fz => by rw [e]; exact g cs fz)).trans e⟩
theorem PtN.of_below {rb : Nat} {w w' : World} (h : Below w.heap.size w w') : PtN rb w w' := ⟨h.os, h.tape, h.output, h.size, fun k hk _ _ => h.block k hk⟩
theorem PtN.drew {rb : Nat} {w w' : World} (h : PtN rb w w') : PtN rb w w'.drew := ⟨h.os, h.tape, h.output, h.size, h.keep⟩
theorem PtN.set {rb : Nat} {w w' : World} (h : PtN rb w w') (o : Nat) (u : Value) : PtN rb w (w'.setCell ⟨rb, o, none⟩ u) :=
 ⟨h.os, h.tape, h.output, by simpa [World.setCell] using h.size, fun k hk hn hs => (Below.heap_setCell w' _ _ k (fun e => hn e)).trans (h.keep k hk hn hs)⟩
theorem PtN.below {rb B : Nat} {w0 w w' : World} (h : PtN rb w w') (hb : Below B w0 w) (hB : B ≤ rb) (hw : B ≤ w.heap.size) : Below B w0 w' :=
 ⟨h.os.trans hb.os, h.tape.trans hb.tape, h.output.trans hb.output, Nat.le_trans hb.size h.size, fun k hk => (h.keep k (by omega) (by omega) (.inl (by omega))).trans (hb.block k hk)⟩
theorem PtN.box {rb b : Nat} {w w' : World} {cs : Array Value} {T : TypeId} {fz : Nat × Nat} (h : PtN rb w w') (hg : w.heap[b]? = some (.cells cs T fz)) (hT : T ≠ 262) (hn : b ≠ rb) : w'.heap[b]? = some (.cells cs T fz) :=
 (h.keep b (zq hg).1 hn (.inr fun cs' fz' e => by rw [hg] at e; injection e with e; injection e with _ e _; exact hT e)).trans hg
structure Rs where
 at_ : Nat
 size : Nat
 n : Nat
structure Hd where
 nm : Value
 rc : Value
 sv : Value
 sg : Value
 b : Tx
def rdCells (h : Hd) (r : Rs) (v : Value) : Array Value := #[h.nm, h.rc, h.sv, h.sg, sT h.b, iV (r.at_ : Nat), v, iV (r.size : Nat)]
structure RdR (rb : Nat) (w : World) (h : Hd) (r : Rs) : Prop where
 row : ∃ v xs, w.heap[rb]? = some (.cells (rdCells h r v) 243 (0, 0)) ∧ w.ownsRow (rb + 1) 262 4 v r.n xs
theorem RdR.lt {rb : Nat} {w : World} {h : Hd} {r : Rs} (H : RdR rb w h r) : rb < w.heap.size := by
 obtain ⟨v, xs, hg, _⟩ := H.row
 exact (zq hg).1
theorem RdR.after {rb : Nat} {w w' : World} {h : Hd} {r : Rs} (H : RdR rb w h r) (hb : Below w.heap.size w w') : RdR rb w' h r := by
 obtain ⟨v, xs, hg, ho⟩ := H.row
 exact ⟨v, xs, (hb.block rb H.lt).trans hg, own_below ho hb⟩
theorem RdR.cells {rb : Nat} {w : World} {h : Hd} {r : Rs} (H : RdR rb w h r) : ∃ a c, (w.cell? ⟨rb, 0, none⟩ = some h.nm ∧ w.cell? ⟨rb, 1, none⟩ = some h.rc ∧ w.cell? ⟨rb, 2, none⟩ = some h.sv ∧ w.cell? ⟨rb, 3, none⟩ = some h.sg) ∧ w.cell? ⟨rb, 4, none⟩ = some (sT h.b) ∧ w.cell? ⟨rb, 5, none⟩ = some (iV (r.at_ : Nat)) ∧ w.cell? ⟨rb, 6, none⟩ = some (.slice a r.n c) ∧ w.cell? ⟨rb, 7, none⟩ = some (iV (r.size : Nat)) := by
 obtain ⟨v, xs, hg, ho⟩ := H.row
 obtain ⟨a, c, rfl⟩ := own_slice ho
 exact ⟨a, c, by simp [World.cell?, hg, rdCells]⟩
theorem RdR.froz {rb : Nat} {w : World} {h : Hd} {r : Rs} (H : RdR rb w h r) (o : Nat) : w.frozen? ⟨rb, o, none⟩ = false := by
 obtain ⟨v, xs, hg, _⟩ := H.row
 simp [World.frozen?, hg]
theorem RdR.setAt {rb : Nat} {w : World} {h : Hd} {r : Rs} (H : RdR rb w h r) (k : Nat) (z : Int) (hz : (k : Int) = z) : RdR rb (w.setCell ⟨rb, 5, none⟩ (iV z)) h { r with at_ := k } := by
 subst hz
 obtain ⟨v, xs, hg, ho⟩ := H.row
 exact ⟨v, xs, by simp [World.setCell, Array.getElem?_modify, hg, rdCells], KeepsB.set w (Nat.lt_succ_self rb) 5 _ _ _ _ _ _ ho⟩
theorem RdR.setSize {rb : Nat} {w : World} {h : Hd} {r : Rs} (H : RdR rb w h r) (k : Nat) (z : Int) (hz : (k : Int) = z) : RdR rb (w.setCell ⟨rb, 7, none⟩ (iV z)) h { r with size := k } := by
 subst hz
 obtain ⟨v, xs, hg, ho⟩ := H.row
 exact ⟨v, xs, by simp [World.setCell, Array.getElem?_modify, hg, rdCells], KeepsB.set w (Nat.lt_succ_self rb) 7 _ _ _ _ _ _ ho⟩
def faultV (at_ e : Nat) : Value := .iface 239 (.agg #[iV (at_ : Nat), iV (e : Nat)])
def pan (f : Nat × Nat) : Ending := .panicked [{ v := faultV f.1 f.2, recovered := false }]
theorem fail_any (w : World) (a e : Nat) (z : Int) (hz : (e : Int) = z) : Calls Tryz.prog 162 #[iV (a : Nat), iV z] w fun x w' => x = pan (a, e) ∧ w = w' := by
 subst hz
 go_enter Tryz.func162, Tryz.ntmps162
 go_wp2_with fail
 exact ⟨rfl, rfl, rfl⟩
def oneA (b : Tx) (r : Rs) : Option (UInt8 × Rs) := if h : r.at_ < b.length then some (b[r.at_], { r with at_ := r.at_ + 1 }) else none
theorem one_ok (w : World) (rb : Nat) (h : Hd) (r : Rs) (H : RdR rb w h r) (hl : h.b.length ≤ 1000000) (hk : r.at_ < h.b.length) :
  Calls Tryz.prog 180 #[.pointer (some ⟨rb, 0, none⟩)] w fun x w' => x = .returned (.int .u8 (h.b[r.at_].toNat : Nat)) ∧ RdR rb w' h { r with at_ := r.at_ + 1 } ∧ PtN rb w w' := by
 obtain ⟨a, c, _, d4, d5, d6, d7⟩ := H.cells
 have df := H.froz
 have hsz := bT_size h.b
 have hw1 : IntKind.i64.wrap ((r.at_ : Int) + 1) = (r.at_ : Int) + 1 := IntWalk.i64_in _ (by omega)
 have hw2 : IntKind.i64.wrap ((r.at_ : Int) + 1 - 1) = (r.at_ : Int) := by rw [show (r.at_ : Int) + 1 - 1 = r.at_ by omega]; exact IntWalk.i64_in _ (by omega)
 have hge : decide ((h.b.length : Int) ≤ (r.at_ : Int)) = false := by rw [decide_eq_false_iff_not]; omega
 have h1 : (0 : Int) ≤ (r.at_ : Int) := by omega
 have h2 : (r.at_ : Int) < (h.b.length : Int) := by omega
 have HN := zD (fun n => show RdR rb (w.drewN n) h r ∧ PtN rb w (w.drewN n) from ⟨H.after ⟨rfl, rfl, rfl, zn, fun _ _ => rfl⟩, PtN.of_below ⟨rfl, rfl, rfl, zn, fun _ _ => rfl⟩⟩)
 have hbg : (bT h.b).data[r.at_]? = some h.b[r.at_] := by simp [bT, hk]
 clear H
 go_enter Tryz.func180, Tryz.ntmps180
 go_wp2_with fail
 go_quiet (fail)
 have hh := HN.out nq
 generalize w.drewN nq = w1 at *
 clear d4 d5 d6 d7 df
 obtain ⟨a1, c1, _, d4, d5, d6, d7⟩ := hh.1.cells
 have df := hh.1.froz
 have HA := zD (hh.1.setAt (r.at_ + 1) ((r.at_ : Int) + 1) rfl)
 have HP := zD (hh.2.set 5 (iV ((r.at_ : Int) + 1)))
 clear hh HN
 go_wp2_with fail
 obtain ⟨a2, c2, _, e4, e5, e6, e7⟩ := HA.out.cells
 have e5' : (w1.setCell ⟨rb, 5, none⟩ (iV ((r.at_ : Int) + 1))).cell? ⟨rb, 5, none⟩ = some (iV ((r.at_ : Int) + 1)) := e5
 generalize w1.setCell ⟨rb, 5, none⟩ (iV ((r.at_ : Int) + 1)) = w2 at *
 clear d4 d5 d6 d7 df e5
 have HN2 := zD (fun n => show RdR rb (w2.drewN n) h { r with at_ := r.at_ + 1 } ∧ PtN rb w (w2.drewN n) from ⟨HA.out.after ⟨rfl, rfl, rfl, zn, fun _ _ => rfl⟩, HP.out.trans (PtN.of_below ⟨rfl, rfl, rfl, zn, fun _ _ => rfl⟩)⟩)
 go_quiet (fail)
 have hh := HN2.out nq
 go_wp2_with fail
 exact zR (v := .int .u8 ((bT h.b)[r.at_]'(by rw [hsz]; exact hk)).toNat) ⟨rfl, hh⟩
theorem one_fail (w : World) (rb : Nat) (h : Hd) (r : Rs) (H : RdR rb w h r) (_hl : h.b.length ≤ 1000000) (hk : ¬ r.at_ < h.b.length) :
  Calls Tryz.prog 180 #[.pointer (some ⟨rb, 0, none⟩)] w fun x w' => x = pan (h.b.length, 160) ∧ PtN rb w w' := by
 obtain ⟨a, c, _, d4, d5, d6, d7⟩ := H.cells
 have hsz := bT_size h.b
 have hge : decide ((h.b.length : Int) ≤ (r.at_ : Int)) = true := by rw [decide_eq_true_eq]; omega
 have HN := zD (fun n => show RdR rb (w.drewN n) h r ∧ PtN rb w (w.drewN n) from ⟨H.after ⟨rfl, rfl, rfl, zn, fun _ _ => rfl⟩, PtN.of_below ⟨rfl, rfl, rfl, zn, fun _ _ => rfl⟩⟩)
 have HF := zD (fun w => fail_any w h.b.length 160 160 rfl)
 clear H
 go_enter Tryz.func180, Tryz.ntmps180
 go_wp2_with fail
 go_quiet (fail)
 have hh := HN.out nq
 generalize w.drewN nq = w1 at *
 clear d4 d5 d6 d7
 obtain ⟨a1, c1, _, d4, d5, d6, d7⟩ := hh.1.cells
 have HP := zD hh.2
 clear hh HN
 go_wp2_with fail
 refine (HF.out _).mono ?_
 rintro e w2 ⟨rfl, rfl⟩
 exact ⟨rfl, rfl, HP.out⟩
theorem rone_any (w : World) (rb : Nat) (h : Hd) (r : Rs) (H : RdR rb w h r) (hl : h.b.length ≤ 1000000) :
  Calls Tryz.prog 180 #[.pointer (some ⟨rb, 0, none⟩)] w fun x w' => PtN rb w w' ∧ ((oneA h.b r = none ∧ x = pan (h.b.length, 160)) ∨ ∃ c r', oneA h.b r = some (c, r') ∧ x = .returned (.int .u8 (c.toNat : Nat)) ∧ RdR rb w' h r') := by
 by_cases hk : r.at_ < h.b.length
 ·refine (one_ok w rb h r H hl hk).mono ?_
  rintro e w' ⟨rfl, h1, h2⟩; exact ⟨h2, .inr ⟨_, _, by unfold oneA; rw [dif_pos hk], rfl, h1⟩⟩
 ·refine (one_fail w rb h r H hl hk).mono ?_
  rintro e w' ⟨rfl, h2⟩; exact ⟨h2, .inl ⟨by unfold oneA; rw [dif_neg hk], rfl⟩⟩
def bitA (b : Tx) (r : Rs) : (Nat × Nat) ⊕ (Nat × Rs) := match oneA b r with
 | none => .inl (b.length, 160)
 | some (c, r') => if 1 < c.toNat then .inl (r.at_, 162) else .inr (c.toNat, r')
theorem bit_any (w : World) (rb : Nat) (h : Hd) (r : Rs) (H : RdR rb w h r) (hl : h.b.length ≤ 1000000) :
  Calls Tryz.prog 164 #[.pointer (some ⟨rb, 0, none⟩)] w fun x w' => PtN rb w w' ∧ ((∃ f, bitA h.b r = .inl f ∧ x = pan f) ∨ ∃ c r', bitA h.b r = .inr (c, r') ∧ x = .returned (iV (c : Nat)) ∧ RdR rb w' h r') := by
 obtain ⟨a, c, _, d4, d5, d6, d7⟩ := H.cells
 have HO := zD (rone_any w rb h r H hl)
 have HF := zD (fun w => fail_any w r.at_ 162 162 rfl)
 have HBd := zD (show bitA h.b r = match oneA h.b r with
  | none => .inl (h.b.length, 160)
  | some (c, r') => if 1 < c.toNat then .inl (r.at_, 162) else .inr (c.toNat, r') from rfl)
 generalize bitA h.b r = B at *
 clear H
 go_enter Tryz.func164, Tryz.ntmps164
 go_wp2_with fail
 refine HO.out.mono ?_
 rintro e w1 ⟨hp, ⟨hn, rfl⟩ | ⟨c, r', hs, rfl, hr⟩⟩
 ·exact ⟨rfl, hp, .inl ⟨_, by rw [HBd.out, hn], rfl⟩⟩
 ·have HP := zD hp
  have HR := zD hr; have HB2 := zD (show B = if 1 < c.toNat then .inl (r.at_, 162) else .inr (c.toNat, r') from by rw [HBd.out, hs]); clear hp hr hs HBd d4 d5 d6 d7; generalize c.toNat = n at *; by_cases hc : 1 < n
  ·have dc : decide ((1 : Int) < (n : Int)) = true := by rw [decide_eq_true_eq]; omega
   go_wp2_with fail; refine (HF.out _).mono ?_; rintro e w2 ⟨rfl, rfl⟩; exact ⟨rfl, HP.out, .inl ⟨_, by rw [HB2.out, if_pos hc], rfl⟩⟩
  ·have dc : decide ((1 : Int) < (n : Int)) = false := by rw [decide_eq_false_iff_not]; omega
   have hw : IntKind.i64.wrap (n : Int) = (n : Int) := IntWalk.i64_in _ (by omega); go_wp2_with fail; exact zR (v := iV (n : Nat)) ⟨HP.out, .inr ⟨n, r', by rw [HB2.out, if_neg hc], rfl, HR.out⟩⟩
theorem back_any (w : World) (n : Int) : Calls Tryz.prog 165 #[.int .u64 n] w fun x w' => ∃ z : Int, x = .returned (iV z) ∧ w = w' := by
 go_enter Tryz.func165, Tryz.ntmps165
 go_wp2_with fail
 refine bodyPost_ret (v := iV _) (by simp [results, Tryz.results165, go_sem]; rfl) rfl ⟨_, rfl, rfl⟩
def orF (k n : Nat) (u : Int) : Int := bits BinOp.or IntKind.u64 u (IntKind.u64.wrap (IntKind.u64.wrap (bits BinOp.and IntKind.u8 (n : Int) 127) * 2 ^ (7 * k)))
theorem orF_ge (k n : Nat) (u : Int) : 0 ≤ orF k n u := (wrap_within IntKind.u64 _).1
def numA (b : Tx) (fr : Nat) : Nat → Nat → Int → Rs → (Nat × Nat) ⊕ (Int × Rs)
 | 0, _, _, _ => .inl (0, 0)
 | f + 1, k, u, r => match oneA b r with
  | none => .inl (b.length, 160)
  | some (c, r') => if k = 9 ∧ 1 < c.toNat then .inl (fr, 162) else if c.toNat < 128 then (if c.toNat = 0 ∧ 0 < k then .inl (fr, 162) else .inr (orF k c.toNat u, r')) else numA b fr f (k + 1) (orF k c.toNat u) r'
def numberA (b : Tx) (r : Rs) : (Nat × Nat) ⊕ (Int × Rs) := numA b r.at_ 10 0 0 r
theorem numA_next {b : Tx} {fr k : Nat} {u : Int} {r : Rs} (h : k ≤ 9) : numA b fr (10 - k) k u r = match oneA b r with
  | none => .inl (b.length, 160)
  | some (c, r') => if k = 9 ∧ 1 < c.toNat then .inl (fr, 162) else if c.toNat < 128 then (if c.toNat = 0 ∧ 0 < k then .inl (fr, 162) else .inr (orF k c.toNat u, r')) else numA b fr (10 - (k + 1)) (k + 1) (orF k c.toNat u) r' := by
 rw [show 10 - k = (10 - (k + 1)) + 1 by omega]
 rfl
theorem numA_ge {b : Tx} {fr : Nat} : ∀ {f k : Nat} {u : Int} {r : Rs} {z : Int} {r' : Rs}, numA b fr f k u r = .inr (z, r') → 0 ≤ z
 | 0, _, _, _, _, _, h => by cases h
 | f + 1, k, u, r, z, r', h => by
  unfold numA at h
  cases ho : oneA b r with
  | none => rw [ho] at h; cases h
  | some p =>
   obtain ⟨c, r2⟩ := p
   rw [ho] at h
   dsimp only at h
   split at h
   ·cases h
   ·split at h
    ·split at h
     ·cases h
     ·injection h with h
      injection h with h1 h2
      rw [← h1]
      exact orF_ge _ _ _
    ·exact numA_ge h
theorem number_any (w : World) (rb : Nat) (h : Hd) (r : Rs) (H : RdR rb w h r) (hl : h.b.length ≤ 1000000) :
  Calls Tryz.prog 166 #[.pointer (some ⟨rb, 0, none⟩)] w fun x w' => PtN rb w w' ∧ ((∃ f, numberA h.b r = .inl f ∧ x = pan f) ∨ ∃ u r', numberA h.b r = .inr (u, r') ∧ x = .returned (.int .u64 u) ∧ RdR rb w' h r') := by
 obtain ⟨a, c, _, d4, d5, d6, d7⟩ := H.cells
 have HF := zD (fun w => fail_any w r.at_ 162 162 rfl)
 have HO := zD (fun W r' (H : RdR rb W h r') => rone_any W rb h r' H hl)
 have HR0 := zD H
 have HN0 := zD (show numA h.b r.at_ (10 - 0) 0 0 r = numberA h.b r from rfl)
 generalize numberA h.b r = N at *
 clear H
 go_enter Tryz.func166, Tryz.ntmps166
 go_wp2_with fail
 clear d4 d5 d6 d7
 go_loopw [4, 5] (fun vu vk wr => ∃ (k : Nat) (u : Int) (r' : Rs), k ≤ 9 ∧ vk = iV (k : Nat) ∧ vu = .int .u64 u ∧ Hid (RdR rb wr h r') ∧ Hid (PtN rb w wr) ∧ Hid (numA h.b r.at_ (10 - k) k u r' = N)) (fun _ vk _ => 10 - (intOf vk).toNat)
 case atStart => exact ⟨0, 0, r, by omega, rfl, rfl, HR0, zD (PtN.refl _ _), HN0⟩
 case round =>
  clear HR0 HN0; rename World => wo
  obtain ⟨k, u, r', hk, rfl, rfl, HR, HP, HN⟩ := hrel; have HOk := zD (HO.out wo r' HR.out); have HN1 := zD (HN.out.symm.trans (numA_next hk)); clear HN; go_wp2_with fail; refine HOk.out.mono ?_; rintro e w1 ⟨hp, ⟨hn, rfl⟩ | ⟨c, r2, hs, rfl, hr⟩⟩
  ·exact ⟨rfl, HP.out.trans hp, .inl ⟨_, by rw [HN1.out, hn], rfl⟩⟩
  have HP1 := zD (HP.out.trans hp); have HR1 := zD hr; have HN2 := zD (show N = if k = 9 ∧ 1 < c.toNat then .inl (r.at_, 162) else if c.toNat < 128 then (if c.toNat = 0 ∧ 0 < k then .inl (r.at_, 162) else .inr (orF k c.toNat u, r2)) else numA h.b r.at_ (10 - (k + 1)) (k + 1) (orF k c.toNat u) r2 from by rw [HN1.out, hs]); clear hp hr hs HN1 HOk HR HP; have hcl : c.toNat < 256 := UInt8.toNat_lt c; generalize c.toNat = n at *; have hwk : IntKind.i64.wrap (7 * (k : Int)) = 7 * (k : Int) := IntWalk.i64_in _ (by omega); have hwk1 : IntKind.i64.wrap ((k : Int) + 1) = (k : Int) + 1 := IntWalk.i64_in _ (by omega); by_cases k9 : k = 9
  ·have d9 : ((k : Int) == 9) = true := by rw [beq_iff_eq]; omega
   have dk : decide ((0 : Int) < (k : Int)) = true := by rw [decide_eq_true_eq]; omega
   by_cases c1 : 1 < n
   ·have d1 : decide ((1 : Int) < (n : Int)) = true := by rw [decide_eq_true_eq]; omega
    have HE := zD (show N = .inl (r.at_, 162) from by rw [HN2.out, if_pos ⟨k9, c1⟩]); go_wp2_with fail; refine (HF.out _).mono ?_; rintro e w2 ⟨rfl, rfl⟩; exact ⟨rfl, HP1.out, .inl ⟨_, HE.out, rfl⟩⟩
   ·have d1 : decide ((1 : Int) < (n : Int)) = false := by rw [decide_eq_false_iff_not]; omega
    have d2 : decide ((n : Int) < 128) = true := by rw [decide_eq_true_eq]; omega
    by_cases c0 : n = 0
    ·have d0 : ((n : Int) == 0) = true := by rw [beq_iff_eq]; omega
     have HE := zD (show N = .inl (r.at_, 162) from by rw [HN2.out, if_neg (fun h => c1 h.2), if_pos (by omega), if_pos ⟨c0, by omega⟩]); go_wp2_with fail; refine (HF.out _).mono ?_; rintro e w2 ⟨rfl, rfl⟩; exact ⟨rfl, HP1.out, .inl ⟨_, HE.out, rfl⟩⟩
    ·have d0 : ((n : Int) == 0) = false := by rw [zb]; omega
     have HE := zD (show N = .inr (orF k n u, r2) from by rw [HN2.out, if_neg (fun h => c1 h.2), if_pos (by omega), if_neg (fun h => c0 h.1)]); go_wp2_with fail; exact bodyPost_ret (v := .int .u64 (orF k n u)) (by simp [results, Tryz.results166, go_sem]; first | rfl | (subst k9; rfl) | (subst c0; rfl)) rfl ⟨HP1.out, .inr ⟨_, r2, HE.out, rfl, HR1.out⟩⟩
  ·have d9 : ((k : Int) == 9) = false := by rw [zb]; omega
   by_cases c2 : n < 128
   ·have d2 : decide ((n : Int) < 128) = true := by rw [decide_eq_true_eq]; omega
    by_cases c0 : n = 0
    ·have d0 : ((n : Int) == 0) = true := by rw [beq_iff_eq]; omega
     by_cases ck : 0 < k
     ·have dk : decide ((0 : Int) < (k : Int)) = true := by rw [decide_eq_true_eq]; omega
      have hi0 : (0 : Int) < (k : Int) := by omega
      have HE := zD (show N = .inl (r.at_, 162) from by rw [HN2.out, if_neg (fun h => k9 h.1), if_pos c2, if_pos ⟨c0, ck⟩]); go_wp2_with fail; refine (HF.out _).mono ?_; rintro e w2 ⟨rfl, rfl⟩; exact ⟨rfl, HP1.out, .inl ⟨_, HE.out, rfl⟩⟩
     ·have dk : decide ((0 : Int) < (k : Int)) = false := by rw [decide_eq_false_iff_not]; omega
      have hi0 : ¬ (0 : Int) < (k : Int) := by omega
      have HE := zD (show N = .inr (orF k n u, r2) from by rw [HN2.out, if_neg (fun h => k9 h.1), if_pos c2, if_neg (fun h => ck h.2)]); go_wp2_with fail; exact bodyPost_ret (v := .int .u64 (orF k n u)) (by simp [results, Tryz.results166, go_sem]; first | rfl | (subst k9; rfl) | (subst c0; rfl)) rfl ⟨HP1.out, .inr ⟨_, r2, HE.out, rfl, HR1.out⟩⟩
    ·have d0 : ((n : Int) == 0) = false := by rw [zb]; omega
     have HE := zD (show N = .inr (orF k n u, r2) from by rw [HN2.out, if_neg (fun h => k9 h.1), if_pos c2, if_neg (fun h => c0 h.1)]); go_wp2_with fail; exact bodyPost_ret (v := .int .u64 (orF k n u)) (by simp [results, Tryz.results166, go_sem]; first | rfl | (subst k9; rfl) | (subst c0; rfl)) rfl ⟨HP1.out, .inr ⟨_, r2, HE.out, rfl, HR1.out⟩⟩
   ·have d2 : decide ((n : Int) < 128) = false := by rw [decide_eq_false_iff_not]; omega
    have HE := zD (show N = numA h.b r.at_ (10 - (k + 1)) (k + 1) (orF k n u) r2 from by rw [HN2.out, if_neg (fun h => k9 h.1), if_neg c2]); go_wp2_with fail; exact ⟨⟨k + 1, orF k n u, r2, by omega, by go_num, rfl, HR1, HP1, zD HE.out.symm⟩, by simp [intOf]; omega⟩
end Go.Proofs.YtgoejmheihgpfaaGreatDoor
