/- Lemmas for ModelStays' proof. -/
import Derived.Test.YtgoejmheihgpfaaGreatDoorRu
import Derived.Test.YtgoejmheihgpfaaGreatDoorS
namespace Go.Proofs.YtgoejmheihgpfaaGreatDoor
set_option maxRecDepth 100000
set_option maxHeartbeats 16000000
open Go.RowKit
structure Ent where
 stamp : Int
 key : Tx
 sv : Tx
 mt : Tx
 acc : Tx
 am : Int
def entC (e : Ent) : Array Value := #[.int .u64 e.stamp, sT e.key, sT e.sv, sT e.mt, sT e.acc, iV e.am]
def okE (s : Sch) (e : Ent) : Bool := (mthOf s e.sv e.mt).isSome && decide (1 ≤ e.acc.length) && decide (e.acc.length ≤ 64) && decide (0 ≤ e.am) && decide (e.am ≤ 1099511627776)
def effA (y : Tx) (n a : Int) : Int := if y = wGive then n + a else if y = wTake then n - a else n
def newN (s : Sch) (F : Mp) (e : Ent) : Int := effA (mOr (mthOf s e.sv e.mt)).effect (mget F e.acc) e.am
def inA (n : Int) : Bool := decide (0 ≤ n) && decide (n ≤ 1099511627776)
theorem MapT.away {m : Nat} {w w' : World} (h : MapT m w w') : Aw m w w' := ⟨h.os, h.tape, h.output, Nat.le_of_eq h.size.symm, fun j _ hn => h.block j hn⟩
theorem add_any (w : World) (s : Sch) (ur us ug : Value) (hS : SchR w s ur us ug) (hM : Small s) (m : Nat) (F : Mp) (hF : HasMap w m F) (hl : F.length ≤ 1000000) (e : Ent) (hacc : e.acc.length ≤ 1000000) (hn : inA (mget F e.acc) = true) :
  Calls Tryz.prog 22 #[.agg #[sT s.name, ur, us, ug, .map (some m)], .agg (entC e)] w fun x w' => ((x = .returned (.bool false) ∧ okE s e = false) ∨ (x = .returned (.bool (inA (newN s F e))) ∧ okE s e = true ∧ HasMap w' m (mput F e.acc (newN s F e)))) ∧ Aw m w w' := by
 obtain ⟨⟨ra, rv, rfl⟩, ⟨sa, sv, rfl⟩, ⟨ga, gv, rfl⟩⟩ := hS.shape
 have HME := zD (fun W (h : Below w.heap.size w W) => method_any W s _ _ _ (hS.below h) hM e.sv e.mt)
 have HOK := zD (show okE s e = ((mthOf s e.sv e.mt).isSome && decide (1 ≤ e.acc.length) && decide (e.acc.length ≤ 64) && decide (0 ≤ e.am) && decide (e.am ≤ 1099511627776)) from rfl)
 have HNN := zD (show newN s F e = effA (mOr (mthOf s e.sv e.mt)).effect (mget F e.acc) e.am from rfl)
 unfold entC
 generalize okE s e = OK at *
 generalize newN s F e = NN at *
 generalize mthOf s e.sv e.mt = M at *
 generalize mOr M = mm at *
 obtain ⟨mn, ma, mr, me, mu⟩ := mm
 have HMF := zD hF
 clear hS hM hF
 go_enter Tryz.func22, Tryz.ntmps22
 go_upto_region 1 with (fail)
 generalize hwa : ((w.alloc (.cells #[sT s.name, .slice ra s.records.length rv, .slice sa s.services.length sv, .slice ga s.sagas.length gv, .map (some m)] 84)).alloc (.cells #[.int .u64 e.stamp, sT e.key, sT e.sv, sT e.mt, sT e.acc, iV e.am] 71)) = wa
 have HBa := zD (show Below w.heap.size w wa from hwa ▸ ((Below.refl _ w).alloc zn _).alloc (by simp) _)
 have HXa := zD (show wa.heap[w.heap.size]? = some (.cells #[sT s.name, .slice ra s.records.length rv, .slice sa s.services.length sv, .slice ga s.sagas.length gv, .map (some m)] 84 (0, 0)) from hwa ▸ (Below.heap_alloc _ _ _ (by simp)).trans (zw _ _))
 have HYa := zD (show wa.heap[w.heap.size + 1]? = some (.cells #[.int .u64 e.stamp, sT e.key, sT e.sv, sT e.mt, sT e.acc, iV e.am] 71 (0, 0)) from hwa ▸ heap_alloc_new2 _ _ _)
 have hza : wa.heap.size = w.heap.size + 2 := by rw [← hwa]; simp
 clear hwa
 have hlm := HMF.out.lt
 have HXX := zD (fun W (h : Below wa.heap.size wa W) => show W.cell? ⟨w.heap.size, 0, none⟩ = some (sT s.name) ∧ W.cell? ⟨w.heap.size, 1, none⟩ = some (.slice ra s.records.length rv) ∧ W.cell? ⟨w.heap.size, 2, none⟩ = some (.slice sa s.services.length sv) ∧ W.cell? ⟨w.heap.size, 3, none⟩ = some (.slice ga s.sagas.length gv) ∧ W.cell? ⟨w.heap.size, 4, none⟩ = some (.map (some m)) from by
  have := (h.block w.heap.size (by omega)).trans HXa.out; simp [World.cell?, this])
 have HXE := zD (fun W (h : Below wa.heap.size wa W) => show W.cell? ⟨w.heap.size + 1, 0, none⟩ = some (.int .u64 e.stamp) ∧ W.cell? ⟨w.heap.size + 1, 1, none⟩ = some (sT e.key) ∧ W.cell? ⟨w.heap.size + 1, 2, none⟩ = some (sT e.sv) ∧ W.cell? ⟨w.heap.size + 1, 3, none⟩ = some (sT e.mt) ∧ W.cell? ⟨w.heap.size + 1, 4, none⟩ = some (sT e.acc) ∧ W.cell? ⟨w.heap.size + 1, 5, none⟩ = some (iV e.am) from by
  have := (h.block (w.heap.size + 1) (by omega)).trans HYa.out; simp [World.cell?, this])
 have HDa := zD (Below.refl wa.heap.size wa)
 clear hza
 obtain ⟨x0, x1, x2, x3, x4⟩ := HXX.out wa HDa.out
 obtain ⟨r0, r1, r2, r3, r4, r5⟩ := HXE.out wa HDa.out
 have HMc := zD (HME.out wa HBa.out)
 unfold mV at HMc
 go_wp2_with fail
 refine HMc.out.mono ?_
 rintro e' w2 ⟨rfl, hb⟩
 have HB2 := zT HBa hb
 have HD2 := zD hb
 clear hb HMc HME x0 x1 x2 x3 x4 r0 r1 r2 r3 r4 r5
 go_upto_region 2 with (fail)
 have HMM := zD (zw w2 (.cells #[sT mn, sT ma, .int .u8 (mr : Nat), sT me, sT mu] 92))
 have HB3 := zD (HB2.out.alloc HB2.out.size (.cells #[sT mn, sT ma, .int .u8 (mr : Nat), sT me, sT mu] 92))
 have HD3 := zD (HD2.out.alloc HD2.out.size (.cells #[sT mn, sT ma, .int .u8 (mr : Nat), sT me, sT mu] 92))
 generalize w2.alloc (.cells #[sT mn, sT ma, .int .u8 (mr : Nat), sT me, sT mu] 92) = w3 at *
 obtain ⟨x0, x1, x2, x3, x4⟩ := HXX.out w3 HD3.out
 obtain ⟨r0, r1, r2, r3, r4, r5⟩ := HXE.out w3 HD3.out
 have me3 := zF HMM 3 rfl
 have hsz := bT_size e.acc
 have hn2 : 0 ≤ mget F e.acc ∧ mget F e.acc ≤ 1099511627776 := by unfold inA at hn; simpa using hn
 clear hn
 cases hM : M.isSome with
 | false =>
  have HE := zD (show OK = false from by rw [HOK.out, hM]; rfl); go_wp2_with fail; exact zR (v := .bool false) ⟨.inl ⟨rfl, HE.out⟩, Aw.below HB3.out⟩
 | true =>
  by_cases t0 : (e.acc.length : Int) < 1
  ·have e0 : decide ((e.acc.length : Int) < 1) = true := zt t0
   have HNu := zD (show OK = false from by rw [HOK.out, hM]; simp only [Bool.true_and, Bool.and_eq_false_iff, decide_eq_false_iff_not]; omega); have HE := zD (show OK = false from by exact HNu.out); go_wp2_with fail; exact zR (v := .bool false) ⟨.inl ⟨rfl, HE.out⟩, Aw.below HB3.out⟩
  have e0 : decide ((e.acc.length : Int) < 1) = false := zf t0; by_cases t1 : 64 < (e.acc.length : Int)
  ·have e1 : decide (64 < (e.acc.length : Int)) = true := zt t1
   have HNu := zD (show OK = false from by rw [HOK.out, hM]; simp only [Bool.true_and, Bool.and_eq_false_iff, decide_eq_false_iff_not]; omega); have HE := zD (show OK = false from by exact HNu.out); go_wp2_with fail; exact zR (v := .bool false) ⟨.inl ⟨rfl, HE.out⟩, Aw.below HB3.out⟩
  have e1 : decide (64 < (e.acc.length : Int)) = false := zf t1; by_cases t2 : e.am < 0
  ·have e2 : decide (e.am < 0) = true := zt t2
   have HNu := zD (show OK = false from by rw [HOK.out, hM]; simp only [Bool.true_and, Bool.and_eq_false_iff, decide_eq_false_iff_not]; omega); have HE := zD (show OK = false from by exact HNu.out); go_wp2_with fail; exact zR (v := .bool false) ⟨.inl ⟨rfl, HE.out⟩, Aw.below HB3.out⟩
  have e2 : decide (e.am < 0) = false := zf t2; by_cases t3 : 1099511627776 < e.am
  ·have e3 : decide (1099511627776 < e.am) = true := zt t3
   have HNu := zD (show OK = false from by rw [HOK.out, hM]; simp only [Bool.true_and, Bool.and_eq_false_iff, decide_eq_false_iff_not]; omega); have HE := zD (show OK = false from by exact HNu.out); go_wp2_with fail; exact zR (v := .bool false) ⟨.inl ⟨rfl, HE.out⟩, Aw.below HB3.out⟩
  have e3 : decide (1099511627776 < e.am) = false := zf t3; have HOk := zD (show OK = true from by rw [HOK.out, hM]; simp only [Bool.true_and, Bool.and_eq_true, decide_eq_true_eq]; omega); have HM3 := zD (HMF.out.below HB3.out); have hlk := HM3.out.look Tryz.underlying82 (zero_int64 w3) hacc; generalize mget F e.acc = n0 at *; have hwp : IntKind.i64.wrap (n0 + e.am) = n0 + e.am := IntWalk.i64_in _ (by omega); have hwm : IntKind.i64.wrap (n0 - e.am) = n0 - e.am := IntWalk.i64_in _ (by omega); try dsimp only at HNN
  have e_g : ((bT me).toList == [103, 105, 118, 101]) = decide (me = wGive) := bT_is _ wGive; have e_t : ((bT me).toList == [116, 97, 107, 101]) = decide (me = wTake) := bT_is _ wTake; by_cases g1 : me = wGive
  ·rw [zt g1] at e_g
   have HNe := zD (show NN = n0 + e.am from by rw [HNN.out]; unfold effA; rw [if_pos g1]); clear HNN g1; obtain ⟨w4, hrun, hm4, htu⟩ := HM3.out.put Tryz.underlying82 hacc (by unfold maxLen; omega) (n0 + e.am); have HM4 := zD hm4; have HT4 := zD (MapT.of htu); clear hm4 htu; by_cases z1 : n0 + e.am < 0
   ·omega
   have z2 : decide (0 ≤ n0 + e.am) = true := by rw [decide_eq_true_eq]; omega
   by_cases z3 : 1099511627776 < n0 + e.am
   ·have z4 : decide (n0 + e.am ≤ 1099511627776) = false := by rw [decide_eq_false_iff_not]; omega
    have HI := zD (show inA (n0 + e.am) = false from by unfold inA; rw [z2, z4]; rfl); go_wp2_with fail; exact zR (v := .bool false) ⟨.inr ⟨by rw [HNe.out, HI.out], HOk.out, by rw [HNe.out]; exact HM4.out⟩, (Aw.below HB3.out).trans HT4.out.away⟩
   have z4 : decide (n0 + e.am ≤ 1099511627776) = true := by rw [decide_eq_true_eq]; omega
   have HI := zD (show inA (n0 + e.am) = true from by unfold inA; rw [z2, z4]; rfl); go_wp2_with fail; exact zR (v := .bool true) ⟨.inr ⟨by rw [HNe.out, HI.out], HOk.out, by rw [HNe.out]; exact HM4.out⟩, (Aw.below HB3.out).trans HT4.out.away⟩
  rw [zf g1] at e_g; by_cases g2 : me = wTake
  ·rw [zt g2] at e_t
   have HNe := zD (show NN = n0 - e.am from by rw [HNN.out]; unfold effA; rw [if_neg g1, if_pos g2]); clear HNN g1 g2; obtain ⟨w4, hrun, hm4, htu⟩ := HM3.out.put Tryz.underlying82 hacc (by unfold maxLen; omega) (n0 - e.am); have HM4 := zD hm4; have HT4 := zD (MapT.of htu); clear hm4 htu; by_cases z1 : n0 - e.am < 0
   ·have z2 : decide (0 ≤ n0 - e.am) = false := by rw [decide_eq_false_iff_not]; omega
    have HI := zD (show inA (n0 - e.am) = false from by unfold inA; rw [z2]; rfl); go_wp2_with fail; exact zR (v := .bool false) ⟨.inr ⟨by rw [HNe.out, HI.out], HOk.out, by rw [HNe.out]; exact HM4.out⟩, (Aw.below HB3.out).trans HT4.out.away⟩
   have z2 : decide (0 ≤ n0 - e.am) = true := by rw [decide_eq_true_eq]; omega
   by_cases z3 : 1099511627776 < n0 - e.am
   ·omega
   have z4 : decide (n0 - e.am ≤ 1099511627776) = true := by rw [decide_eq_true_eq]; omega
   have HI := zD (show inA (n0 - e.am) = true from by unfold inA; rw [z2, z4]; rfl); go_wp2_with fail; exact zR (v := .bool true) ⟨.inr ⟨by rw [HNe.out, HI.out], HOk.out, by rw [HNe.out]; exact HM4.out⟩, (Aw.below HB3.out).trans HT4.out.away⟩
  rw [zf g2] at e_t; have HNe := zD (show NN = n0 from by rw [HNN.out]; unfold effA; rw [if_neg g1, if_neg g2]); clear HNN g1 g2; obtain ⟨w4, hrun, hm4, htu⟩ := HM3.out.put Tryz.underlying82 hacc (by unfold maxLen; omega) (n0); have HM4 := zD hm4; have HT4 := zD (MapT.of htu); clear hm4 htu; by_cases z1 : n0 < 0
  ·omega
  have z2 : decide (0 ≤ n0) = true := by rw [decide_eq_true_eq]; omega
  by_cases z3 : 1099511627776 < n0
  ·omega
  have z4 : decide (n0 ≤ 1099511627776) = true := by rw [decide_eq_true_eq]; omega
  have HI := zD (show inA (n0) = true from by unfold inA; rw [z2, z4]; rfl); go_wp2_with fail; exact zR (v := .bool true) ⟨.inr ⟨by rw [HNe.out, HI.out], HOk.out, by rw [HNe.out]; exact HM4.out⟩, (Aw.below HB3.out).trans HT4.out.away⟩
section
open Go.RowKit Go.Maps
theorem before_lt : ∀ a b : Tx, bytesBefore a b = true ↔ a < b
 | [], [] => by simp [bytesBefore]
 | [], _ :: _ => by simp [bytesBefore]
 | _ :: _, [] => by simp [bytesBefore]
 | a :: r, b :: s => by
  rw [List.cons_lt_cons_iff]
  simp only [bytesBefore, Bool.or_eq_true, decide_eq_true_eq, Bool.and_eq_true, beq_iff_eq, before_lt r s]
def Up (F : Mp) : Prop := F.Pairwise (fun x y => x.1 < y.1)
theorem Up.mdel {F : Mp} (h : Up F) (k : Tx) : Up (mdel F k) := List.Pairwise.filter _ h
theorem tx_lt_of_not {a b : Tx} (h : ¬ a < b) (hn : a ≠ b) : b < a :=
 Classical.byContradiction fun hb => hn (List.le_antisymm (List.not_lt.1 hb) (List.not_lt.1 h))
theorem Up.mins {x : Tx × Int} : ∀ {F : Mp}, Up F → (∀ y ∈ F, y.1 ≠ x.1) → Up (mins x F)
 | [], _, _ => List.pairwise_singleton _ _
 | y :: r, h, hn => by
  have hc := List.pairwise_cons.1 h
  simp only [Go.Proofs.YtgoejmheihgpfaaGreatDoor.mins]
  by_cases hb : bytesBefore x.1 y.1 = true
  ·rw [if_pos hb]
   have hlt := (before_lt _ _).1 hb
   refine List.pairwise_cons.2 ⟨fun z hz => ?_, h⟩
   rcases List.mem_cons.1 hz with rfl | hz
   ·exact hlt
   ·exact List.lt_trans hlt (hc.1 z hz)
  ·rw [if_neg hb]
   have hlt : y.1 < x.1 := tx_lt_of_not (fun e => hb ((before_lt _ _).2 e)) (fun e => hn y List.mem_cons_self e.symm)
   refine List.pairwise_cons.2 ⟨fun z hz => ?_, Up.mins hc.2 (fun z hz => hn z (List.mem_cons_of_mem _ hz))⟩
   rcases mem_mins.1 hz with rfl | hz
   ·exact hlt
   ·exact hc.1 z hz
theorem Up.mput {F : Mp} (h : Up F) (k : Tx) (n : Int) : Up (mput F k n) := (h.mdel k).mins (fun _ hy => (mem_mdel.1 hy).2)
theorem Up.keys {F : Mp} (h : Up F) : (F.map (·.1)).mergeSort (fun x y => decide (x ≤ y)) = F.map (·.1) := by
 refine List.mergeSort_of_pairwise ?_
 rw [List.pairwise_map]
 refine h.imp (fun hxy => ?_)
 simp only [decide_eq_true_eq]
 exact List.le_of_lt hxy
theorem Up.get : ∀ {F : Mp}, Up F → ∀ {x : Tx × Int}, x ∈ F → mget F x.1 = x.2
 | y :: r, h, x, hx => by
  have hc := List.pairwise_cons.1 h
  unfold mget
  rcases List.mem_cons.1 hx with rfl | hx
  ·rw [List.find?_cons_of_pos (by simp)]; rfl
  ·have hne : y.1 ≠ x.1 := fun e => List.lt_irrefl _ (e ▸ hc.1 x hx)
   rw [List.find?_cons_of_neg (by simpa using hne)]
   exact Up.get hc.2 hx
def InF (F : Mp) : Prop := ∀ x ∈ F, inA x.2 = true
theorem InF.get {F : Mp} (h : InF F) (k : Tx) : inA (mget F k) = true := by
 unfold mget
 cases hf : F.find? (fun x => x.1 == k) with
 | none => rfl
 | some x => exact h x (List.mem_of_find?_eq_some hf)
theorem InF.mput {F : Mp} (h : InF F) (k : Tx) {n : Int} (hn : inA n = true) : InF (mput F k n) := fun x hx => by
 unfold Go.Proofs.YtgoejmheihgpfaaGreatDoor.mput at hx
 rcases mem_mins.1 hx with rfl | hx
 ·exact hn
 ·exact h x (mem_mdel.1 hx).1
def balA (s : Sch) : List Ent → Mp → Option Mp
 | [], F => some F
 | e :: l, F => if okE s e = true ∧ inA (newN s F e) = true then balA s l (mput F e.acc (newN s F e)) else none
theorem strKeys_mdat (F : Mp) : strKeys (mdat F) = F.map (·.1) := by
 simp only [strKeys, mdat, List.map_map]
 rfl
def accells (F : Mp) : List Value := F.flatMap (fun x => [sT x.1, iV x.2])
def ecells (L : List Ent) : List Value := L.flatMap (fun e => (entC e).toList)
end
section
open Go.RowKit Go.Maps
theorem ecells_at : ∀ (L : List Ent) (k : Nat) (h : k < L.length), (ecells L)[k * 6]? = some (.int .u64 L[k].stamp) ∧ (ecells L)[k * 6 + 1]? = some (sT L[k].key) ∧ (ecells L)[k * 6 + 2]? = some (sT L[k].sv) ∧ (ecells L)[k * 6 + 3]? = some (sT L[k].mt) ∧ (ecells L)[k * 6 + 4]? = some (sT L[k].acc) ∧ (ecells L)[k * 6 + 5]? = some (iV L[k].am)
 | t :: L, 0, _ => ⟨rfl, rfl, rfl, rfl, rfl, rfl⟩
 | t :: L, k + 1, h => by
  obtain ⟨a, b, c, d, e, f⟩ := ecells_at L k (by simpa using h)
  have q : ∀ j, (ecells (t :: L))[(k + 1) * 6 + j]? = (ecells L)[k * 6 + j]? := fun j => by
   rw [show (k + 1) * 6 + j = k * 6 + j + 6 by omega]; rfl
  exact ⟨(q 0).trans a, (q 1).trans b, (q 2).trans c, (q 3).trans d, (q 4).trans e, (q 5).trans f⟩
theorem ent_at {w : World} {n c : Nat} {a : Option Addr} {L : List Ent} (h : Slc w 6 (.slice a n c) L.length (ecells L)) {k : Nat} (hk : k < L.length) :
  ∃ b o, a = some ⟨b, o, none⟩ ∧ b < w.heap.size ∧ w.cell? ⟨b, o + k * 6, none⟩ = some (.int .u64 L[k].stamp) ∧ w.cell? ⟨b, o + k * 6 + 1, none⟩ = some (sT L[k].key) ∧ w.cell? ⟨b, o + k * 6 + 2, none⟩ = some (sT L[k].sv) ∧ w.cell? ⟨b, o + k * 6 + 3, none⟩ = some (sT L[k].mt) ∧ w.cell? ⟨b, o + k * 6 + 4, none⟩ = some (sT L[k].acc) ∧ w.cell? ⟨b, o + k * 6 + 5, none⟩ = some (iV L[k].am) := by
 obtain ⟨_, _, e⟩ := h.shape
 injection e with _ e2
 subst e2
 obtain ⟨b, o, rfl, hb, hc⟩ := slc_cells h (by omega)
 obtain ⟨h0, h1, h2, h3, h4, h5⟩ := ecells_at L k hk
 exact ⟨b, o, rfl, hb, hc _ _ h0, hc _ _ h1, hc _ _ h2, hc _ _ h3, hc _ _ h4, hc _ _ h5⟩
theorem keys_call (m : Nat) (W : World) : Calls Tryz.prog 24 #[.map (some m)] W fun e w' => e = .returned (.func (.func 50) #[] #[.pointer (some ⟨W.heap.size, 0, none⟩)]) ∧ w' = W.alloc (.cells #[.map (some m)] 82) :=
 callsIn_wide.1 (Tryz.maps_Keys_24 (some m) W)
theorem sorted_call (w : World) (m : Nat) (F : Mp) (h : HasMap w m F) (hn : F.length ≤ 1000) (hup : Up F) :
  Calls Tryz.prog 23 #[.func (.func 50) #[] #[.pointer (some ⟨w.heap.size, 0, none⟩)]] (w.alloc (.cells #[.map (some m)] 82)) fun e w' =>
   (∃ v, e = .returned v ∧ w'.ownsRow (w.heap.size + 1) 9 1 v F.length (strs (F.map (·.1)))) ∧ Below w.heap.size w w' := by
 have hsz : Maps.size (mdat F) ≤ 1000 := by rw [mdat_size]; exact hn
 refine (callsIn_wide.1 (Tryz.slices_Sorted_keys_23_24 m F.length (mdat F) numElem w h (by unfold maxLen; omega) (by omega))).mono ?_
 rintro e w' ⟨v, ss, rfl, hp, hrow, hnil, hb⟩
 rw [strKeys_mdat] at hp
 have e1 : ss.mergeSort (fun x y => decide (x ≤ y)) = F.map (·.1) := (mergeSort_of_perm hp).trans hup.keys
 have e2 : ss.length = F.length := by rw [hp.length_eq, List.length_map]
 rw [e1, e2] at hrow
 refine ⟨⟨v, rfl, ?_⟩, (zl.alloc zn _).trans (hb.mono (by simp))⟩
 rw [show (w.alloc (.cells #[.map (some m)] 82)).heap.size = w.heap.size + 1 by simp] at hrow
 exact hrow
def LenF (F : Mp) : Prop := ∀ x ∈ F, x.1.length ≤ 1000000
theorem LenF.mput {F : Mp} (h : LenF F) {k : Tx} (hk : k.length ≤ 1000000) (n : Int) : LenF (mput F k n) := fun x hx => by
 unfold Go.Proofs.YtgoejmheihgpfaaGreatDoor.mput at hx
 rcases mem_mins.1 hx with rfl | hx
 ·exact hk
 ·exact h x (mem_mdel.1 hx).1
theorem accells_next {F : Mp} {k : Nat} (hk : k < F.length) : accells (F.take (k + 1)) = accells (F.take k) ++ [sT F[k].1, iV F[k].2] := by
 unfold accells
 rw [List.take_succ_eq_append_getElem hk, List.flatMap_append]
 rfl
theorem info_ac : (Tryz.prog.info? 38).map (fun i => (i.zero, i.size, i.bytes)) = some (some (.agg #[eS, iV 0]), 2, 24) := by kernel_rfl
theorem balances_any (w : World) (s : Sch) (ur us ug : Value) (hS : SchR w s ur us ug) (hM : Small s) (v : Value) (l : List Ent) (hl : Slc w 6 v l.length (ecells l)) (hn : l.length ≤ 1000) (hacc : ∀ e ∈ l, e.acc.length ≤ 1000000) :
  Calls Tryz.prog 9 #[.agg #[sT s.name, ur, us, ug], v] w fun x w' => ((balA s l [] = none ∧ x = .returned (.tuple #[.slice none 0 0, .bool false])) ∨ ∃ F u, balA s l [] = some F ∧ x = .returned (.tuple #[u, .bool true]) ∧ w'.ownsRow w.heap.size 38 2 u F.length (accells F) ∧ Up F) ∧ Below w.heap.size w w' := by
 obtain ⟨⟨ra, rv, rfl⟩, ⟨sa, sv, rfl⟩, ⟨ga, gv, rfl⟩⟩ := hS.shape
 obtain ⟨la, lc, rfl⟩ := hl.shape
 have HAD := zD (fun W (h : Below w.heap.size w W) => add_any W s _ _ _ (hS.below h) hM)
 have HSL := zD hl
 have HAC := zD hacc
 generalize hR0 : balA s l [] = R at *
 have HB0 := zD hR0
 clear hR0
 clear hS hM hl hacc
 go_enter Tryz.func9, Tryz.ntmps9
 have hmm := @run_makeMap Tryz.prog
 go_upto_region 2 with (fail)
 generalize hwb : (((w.alloc (.cells (sV s ra sa ga rv sv gv) 26)).alloc (.map #[] 0)).alloc (.cells #[sT s.name, .slice ra s.records.length rv, .slice sa s.services.length sv, .slice ga s.sagas.length gv, .map (some (w.heap.size + 1))] 84)) = wb
 have HBb := zD (show Below w.heap.size w wb from hwb ▸ (((Below.refl _ w).alloc zn _).alloc (by simp) _).alloc (by simp; omega) _)
 have HMb := zD (show HasMap wb (w.heap.size + 1) [] from hwb ▸ HasMap.below (by
  have h := HasMap.of (F := []) (World.ownsMap_made (w.alloc (.cells (sV s ra sa ga rv sv gv) 26)) Tryz.prog 9 numElem); rwa [show (w.alloc (.cells (sV s ra sa ga rv sv gv) 26)).heap.size = w.heap.size + 1 by simp] at h) (bl1 _ _))
 have HXb := zD (show wb.heap[w.heap.size + 1 + 1]? = some (.cells #[sT s.name, .slice ra s.records.length rv, .slice sa s.services.length sv, .slice ga s.sagas.length gv, .map (some (w.heap.size + 1))] 84 (0, 0)) from by
  have h := heap_alloc_new2 (w.alloc (.cells (sV s ra sa ga rv sv gv) 26)) (.map #[] 0) (.cells #[sT s.name, .slice ra s.records.length rv, .slice sa s.services.length sv, .slice ga s.sagas.length gv, .map (some (w.heap.size + 1))] 84); rw [show (w.alloc (.cells (sV s ra sa ga rv sv gv) 26)).heap.size = w.heap.size + 1 by simp] at h; exact hwb ▸ h)
 clear hwb
 have HXX := zD (fun W (h : Aw (w.heap.size + 1) wb W) => show W.heap[w.heap.size + 1 + 1]? = some (.cells #[sT s.name, .slice ra s.records.length rv, .slice sa s.services.length sv, .slice ga s.sagas.length gv, .map (some (w.heap.size + 1))] 84 (0, 0)) from (h.block _ (zq HXb.out).1 (by omega)).trans HXb.out)
 have HAB := zD (fun W (h : Aw (w.heap.size + 1) wb W) => show Below w.heap.size w W from ⟨h.os.trans HBb.out.os, h.tape.trans HBb.out.tape, h.output.trans HBb.out.output, Nat.le_trans HBb.out.size h.size, fun j hj => (h.block j (Nat.lt_of_lt_of_le hj HBb.out.size) (by omega)).trans (HBb.out.block j hj)⟩)
 have HBL := zD (show balA s (l.drop 0) [] = R from HB0.out)
 clear HB0
 go_wp2_with fail
 go_loopw [17] (fun vi wr => ∃ (k : Nat) (F : Mp), k ≤ l.length ∧ F.length ≤ k ∧ vi = iV (k : Nat) ∧ Hid (Aw (w.heap.size + 1) wb wr) ∧ Hid (HasMap wr (w.heap.size + 1) F) ∧ Hid (Up F ∧ InF F ∧ LenF F) ∧ Hid (balA s (l.drop k) F = R)) (fun vi _ => l.length - (intOf vi).toNat)
 case atStart => exact ⟨0, [], by omega, zn, rfl, zD (Aw.refl _ _), HMb, zD ⟨List.Pairwise.nil, (fun _ h => by cases h), fun _ h => by cases h⟩, HBL⟩
 case round =>
  clear HMb HBL; rename World => wo
  obtain ⟨k, F, hk, hFk, rfl, HA, HM, HU, HR⟩ := hrel; by_cases hlt : k < l.length
  ·obtain ⟨b9, o9, rfl, hb9, p0, p1, p2, p3, p4, p5⟩ := ent_at (HSL.out.below (HAB.out wo HA.out)) hlt
   have HRk := zD (show R = if okE s l[k] = true ∧ inA (newN s F l[k]) = true then balA s (l.drop (k + 1)) (mput F l[k].acc (newN s F l[k])) else none from by rw [← HR.out, List.drop_eq_getElem_cons hlt]; rfl); have hac := HAC.out _ (List.getElem_mem hlt); generalize l[k] = e at *; have hx := HXX.out wo HA.out; have HXo := zD hx; have hl1 := HM.out.lt; have hlo : w.heap.size + 1 + 1 < wo.heap.size := (zq hx).1; clear hx HR; have HW1 := zD (fun o => show Aw (w.heap.size + 1) wb (wo.alloc o) from HA.out.trans (Aw.below (bl1 wo o))); have HX1 := zD (fun o => HXX.out _ (HW1.out o)); have HAc := zD (fun o => HAD.out (wo.alloc o) (HAB.out _ (HW1.out o)) (w.heap.size + 1) F (HM.out.below (bl1 wo o)) (by omega) e hac (HU.out.2.1.get _)); unfold entC at HAc; have hx := HX1.out (.cells #[.int .u64 e.stamp, sT e.key, sT e.sv, sT e.mt, sT e.acc, iV e.am] 71); have y0 : (wo.alloc (.cells #[.int .u64 e.stamp, sT e.key, sT e.sv, sT e.mt, sT e.acc, iV e.am] 71)).cell? ⟨w.heap.size + 1 + 1, 0, none⟩ = some (sT s.name) := by simp only [World.cell?, hx]; rfl
   have y1 : (wo.alloc (.cells #[.int .u64 e.stamp, sT e.key, sT e.sv, sT e.mt, sT e.acc, iV e.am] 71)).cell? ⟨w.heap.size + 1 + 1, 1, none⟩ = some (.slice ra s.records.length rv) := by simp only [World.cell?, hx]; rfl
   have y2 : (wo.alloc (.cells #[.int .u64 e.stamp, sT e.key, sT e.sv, sT e.mt, sT e.acc, iV e.am] 71)).cell? ⟨w.heap.size + 1 + 1, 2, none⟩ = some (.slice sa s.services.length sv) := by simp only [World.cell?, hx]; rfl
   have y3 : (wo.alloc (.cells #[.int .u64 e.stamp, sT e.key, sT e.sv, sT e.mt, sT e.acc, iV e.am] 71)).cell? ⟨w.heap.size + 1 + 1, 3, none⟩ = some (.slice ga s.sagas.length gv) := by simp only [World.cell?, hx]; rfl
   have y4 : (wo.alloc (.cells #[.int .u64 e.stamp, sT e.key, sT e.sv, sT e.mt, sT e.acc, iV e.am] 71)).cell? ⟨w.heap.size + 1 + 1, 4, none⟩ = some (.map (some (w.heap.size + 1))) := by simp only [World.cell?, hx]; rfl
   clear hx; go_wp2_with fail; refine (HAc.out _).mono ?_; rintro e' w2 ⟨⟨rfl, hok⟩ | ⟨rfl, hok, hm⟩, haw⟩
   ·have HE := zD (show R = none from HRk.out.trans (if_neg (by rw [hok]; simp)))
    have HW2 := zD ((HW1.out _).trans haw); clear haw hok y0 y1 y2 y3 y4; go_wp2_with fail; exact zR (v := .tuple #[.slice none 0 0, .bool false]) ⟨.inl ⟨HE.out, rfl⟩, HAB.out _ HW2.out⟩
   have HW2 := zD ((HW1.out _).trans haw); have HM2 := zD hm; generalize hnn : newN s F e = N at *; cases hi : inA N with
   | false =>
    have HE := zD (show R = none from HRk.out.trans (if_neg (by rw [hi]; simp))); clear haw hok hm hi y0 y1 y2 y3 y4 hnn; go_wp2_with fail; exact zR (v := .tuple #[.slice none 0 0, .bool false]) ⟨.inl ⟨HE.out, rfl⟩, HAB.out _ HW2.out⟩
   | true =>
    have HE := zD (show balA s (l.drop (k + 1)) (mput F e.acc N) = R from (HRk.out.trans (if_pos ⟨hok, hi⟩)).symm); have HU2 := zD (show Up (mput F e.acc N) ∧ InF (mput F e.acc N) ∧ LenF (mput F e.acc N) from ⟨HU.out.1.mput _ _, HU.out.2.1.mput _ hi, HU.out.2.2.mput hac _⟩); have hln := mput_length F e.acc N; clear haw hok hm hi y0 y1 y2 y3 y4 hnn HRk HAc; go_wp2_with fail; exact ⟨⟨k + 1, mput F e.acc N, by omega, by omega, by go_num, HW2, HM2, HU2, HE⟩, by simp [intOf]; omega⟩
  have hkl : k = l.length := by omega
  have HRe := zD (show R = some F from by rw [← HR.out, List.drop_eq_nil_of_le (by omega)]; rfl); have hx := HXX.out wo HA.out; have hm1 := zG hx 4 rfl; have hlo : w.heap.size + 1 + 1 < wo.heap.size := (zq hx).1; have HXo := zD hx; have HKc := zD (keys_call (w.heap.size + 1) wo); have HSc := zD (sorted_call wo (w.heap.size + 1) F HM.out (by omega) HU.out.1); clear hx HR; go_wp2_with fail; refine HKc.out.mono ?_; rintro e' w4 ⟨rfl, rfl⟩; go_wp2_with fail; refine HSc.out.mono ?_; rintro e' w5 ⟨⟨vs, rfl, hvs⟩, hb⟩; obtain ⟨va, vc, rfl⟩ := own_slice hvs; have HV := zD hvs; have HB5 := zD hb; have HM5 := zD (HM.out.below hb); have hX5 := (hb.block _ hlo).trans HXo.out; have HX5 := zD hX5; have HA5 := zD (show Below w.heap.size w w5 from (HAB.out wo HA.out).trans (hb.mono (by omega))); have hl5 := hb.size; clear hvs hb HKc HSc hm1 hX5 HM HA; obtain ⟨i0, hi0, hz0, hz1, hz2⟩ := info_parts info_ac; generalize hFn : F.length = Fn at *; have HFn := zD hFn; have hFb : Fn ≤ 1000 := by omega
  clear hFn; go_wp2_with fail; go_loopw [9, 31] (fun v9 vi wr => ∃ j : Nat, j ≤ Fn ∧ vi = iV (j : Nat) ∧ Hid (wr.ownsRow w5.heap.size 38 2 v9 j (accells (F.take j))) ∧ Hid (Below w5.heap.size w5 wr)) (fun _ vi _ => Fn - (intOf vi).toNat)
  case atStart => exact ⟨0, by omega, rfl, zD (World.ownsRow_nil _ _ _ _), zD zl⟩
  case round =>
   rename World => wr
   obtain ⟨j, hj, rfl, HO, HBr⟩ := hrel; by_cases hlj : j < Fn
   ·have hjl : j < F.length := by have := HFn.out; omega
    obtain ⟨oa, oc, rfl⟩ := own_slice HO.out; obtain ⟨b9, o9, rfl, hb9, hcs⟩ := slc_cells ((Slc.own HV.out).below HBr.out) (by omega); have q0 : wr.cell? ⟨b9, o9 + j, none⟩ = some (sT F[j].1) := hcs j _ (by simp [strs, List.getElem?_map, List.getElem?_eq_getElem hjl]); have hx := (HBr.out.block (w.heap.size + 1 + 1) (by omega)).trans HX5.out; have y4 := zG hx 4 rfl; have hgt := HU.out.1.get (List.getElem_mem hjl); have hlk := (HM5.out.below HBr.out).look Tryz.underlying82 (zero_int64 wr) (HU.out.2.2 _ (List.getElem_mem hjl)); rw [hgt] at hlk; have HNX := zD (accells_next hjl); generalize F[j] = f at *; obtain ⟨nm, am⟩ := f; dsimp only at q0 hlk HNX; have HB9 := zD HBr.out; have hwr := HBr.out.size; have HOG := zD (own_ge HO.out); clear hx hcs hgt
    go_wp2_with (first
     | (at_builtin; refine wpList_append_own _ rfl _ _ 31 rfl w5.heap.size 38 i0 (.agg #[eS, iV 0]) 2 24 Tryz.underlying31 hi0 hz0 hz1 hz2 rfl (by decide) _ _ _ rfl (HO.out.alloc _) ⟨wr.heap.size, 0, none⟩ 1 1 [sT nm, iV am] rfl rfl (World.news_of_block (cs := #[sT nm, iV am]) (t := 38) (fr := (0, 0)) (zw wr _)) (by simp [Value.oneCell']) (by unfold maxLen; omega) (by omega) (by simp; omega) ?_; intro v' w6 hown6 hgrow _; obtain ⟨xa, xc, rfl⟩ := own_slice hown6; have HW6 := zD (srt_round HOG.out HB9.out hgrow); have HO6 := zD hown6; clear hown6 hgrow))
    exact ⟨⟨j + 1, by omega, by go_num, zD (by rw [HNX.out]; exact HO6.out), HW6⟩, by simp [intOf]; omega⟩
   ·have hjn : j = Fn := by omega
    obtain rfl := hjn; obtain ⟨oa, oc, rfl⟩ := own_slice HO.out
    have HOe := zD (show wr.ownsRow w5.heap.size 38 2 (.slice oa j oc) F.length (accells F) from by
     have h := HO.out; rw [List.take_of_length_le (by have := HFn.out; omega)] at h; rw [HFn.out]; exact h)
    have HBe := zD (show Below w.heap.size w wr from HA5.out.trans (HBr.out.mono (by omega))); go_wp2_with fail; exact zR (v := .tuple #[.slice oa j oc, .bool true]) ⟨.inr ⟨F, _, HRe.out, rfl, own_base HOe.out (by omega), HU.out.1⟩, HBe.out⟩
end
end Go.Proofs.YtgoejmheihgpfaaGreatDoor
