/- Lemmas for ModelStays' proof. -/
import Derived.Test.YtgoejmheihgpfaaGreatDoorSo
import Derived.Test.YtgoejmheihgpfaaGreatDoorRu
namespace Go.Proofs.YtgoejmheihgpfaaGreatDoor
set_option maxRecDepth 100000
set_option maxHeartbeats 16000000
open Go.RowKit
theorem great25_any (w : World) (s : Sch) (ra sa ga : Option Addr) (rv sv gv : Nat) (hS : SchR w s (.slice ra s.records.length rv) (.slice sa s.services.length sv) (.slice ga s.sagas.length gv)) (r : Run) :
  Calls Tryz.prog 15 #[.agg (sV s ra sa ga rv sv gv), .agg #[sT r.id, sT r.sg, sT r.arg, iV r.at_, .int .u8 (r.ph : Nat), iV r.tr, .bool r.st, iV r.wh, sT r.vl], .agg #[.int .u8 0, iV 0, iV 0, .int .u64 0, eS, .int .u64 0, eS, eS, iV 0, eS]] w fun x w' => GrB (Small s ∧ RunSmall r) x ∧ Below w.heap.size w w' := by
 have HGR := zD (fun W (X : Below w.heap.size w W) => great13_any W s _ _ _ (hS.below X))
 clear hS
 go_enter Tryz.func15, Tryz.ntmps15
 go_upto_region 1 with (fail)
 generalize hw3 : (((w.alloc (.cells (sV s ra sa ga rv sv gv) 26)).alloc (.cells #[sT r.id, sT r.sg, sT r.arg, iV r.at_, .int .u8 (r.ph : Nat), iV r.tr, .bool r.st, iV r.wh, sT r.vl] 53)).alloc (.cells #[.int .u8 0, iV 0, iV 0, .int .u64 0, eS, .int .u64 0, eS, eS, iV 0, eS] 63)) = w3 at *
 have HB3 := zD (show Below w.heap.size w w3 from hw3 ▸ ((bl1 w _).alloc (by simp) _).alloc (by simp; omega) _)
 have HX0 := zD (show w3.heap[w.heap.size]? = some (.cells (sV s ra sa ga rv sv gv) 26 (0, 0)) from hw3 ▸ (heap3 w _ _ _).1)
 have HX1 := zD (show w3.heap[w.heap.size + 1]? = some (.cells #[sT r.id, sT r.sg, sT r.arg, iV r.at_, .int .u8 (r.ph : Nat), iV r.tr, .bool r.st, iV r.wh, sT r.vl] 53 (0, 0)) from hw3 ▸ (heap3 w _ _ _).2.1)
 have HX2 := zD (show w3.heap[w.heap.size + 1 + 1]? = some (.cells #[.int .u8 0, iV 0, iV 0, .int .u64 0, eS, .int .u64 0, eS, eS, iV 0, eS] 63 (0, 0)) from hw3 ▸ (heap3 w _ _ _).2.2)
 clear hw3
 have hx0 := HX0.out
 have a00 := zG hx0 0 rfl
 have a01 := zG hx0 1 rfl
 have a02 := zG hx0 2 rfl
 have a03 := zG hx0 3 rfl
 have hla : w.heap.size < w3.heap.size := (zq hx0).1
 have HC := zD (HGR.out w3 HB3.out)
 clear hx0
 go_wp2_with fail
 refine HC.out.mono ?_
 rintro y w4 ⟨⟨b, rfl, hb⟩, hbl⟩
 have HB4 := zT HB3 hbl
 have hx1 := (hbl.block _ (zq HX1.out).1).trans HX1.out
 have hx2 := (hbl.block _ (zq HX2.out).1).trans HX2.out
 have hlx : w.heap.size + 1 + 1 < w4.heap.size := (zq hx2).1
 clear hbl HC a00 a01 a02 a03 hla
 have b10 := zG hx1 0 rfl
 have b11 := zG hx1 1 rfl
 have b12 := zG hx1 2 rfl
 have b18 := zG hx1 8 rfl
 have b24 := zG hx2 4 rfl
 have b29 := zG hx2 9 rfl
 clear hx1 hx2
 cases b with
 | true =>
  clear hb; go_wp2_with fail; exact zR (v := .bool true) ⟨⟨true, rfl, fun h => by cases h⟩, HB4.out⟩
 | false =>
  have HSM := zD (hb rfl); clear hb; have z0 := bT_size r.id; by_cases t0 : 5000 < (r.id.length : Int)
  ·have e0 : decide (5000 < (r.id.length : Int)) = true := zt t0
   go_wp2_with fail; exact zR (v := .bool true) ⟨⟨true, rfl, fun h => by cases h⟩, HB4.out⟩
  have e0 : decide (5000 < (r.id.length : Int)) = false := zf t0; have y0 : r.id.length ≤ 5000 := by omega
  have z1 := bT_size r.sg; by_cases t1 : 5000 < (r.sg.length : Int)
  ·have e1 : decide (5000 < (r.sg.length : Int)) = true := zt t1
   go_wp2_with fail; exact zR (v := .bool true) ⟨⟨true, rfl, fun h => by cases h⟩, HB4.out⟩
  have e1 : decide (5000 < (r.sg.length : Int)) = false := zf t1; have y1 : r.sg.length ≤ 5000 := by omega
  have z2 := bT_size r.arg; by_cases t2 : 5000 < (r.arg.length : Int)
  ·have e2 : decide (5000 < (r.arg.length : Int)) = true := zt t2
   go_wp2_with fail; exact zR (v := .bool true) ⟨⟨true, rfl, fun h => by cases h⟩, HB4.out⟩
  have e2 : decide (5000 < (r.arg.length : Int)) = false := zf t2; have y2 : r.arg.length ≤ 5000 := by omega
  have z3 := bT_size r.vl; by_cases t3 : 5000 < (r.vl.length : Int)
  ·have e3 : decide (5000 < (r.vl.length : Int)) = true := zt t3
   go_wp2_with fail; exact zR (v := .bool true) ⟨⟨true, rfl, fun h => by cases h⟩, HB4.out⟩
  have e3 : decide (5000 < (r.vl.length : Int)) = false := zf t3; have y3 : r.vl.length ≤ 5000 := by omega
  have HRS := zD (show Small s ∧ RunSmall r from ⟨HSM.out, y0, y2, y3⟩); go_wp2_with fail; exact zR (v := .bool false) ⟨⟨false, rfl, fun _ => HRS.out⟩, HB4.out⟩
def OneP (M N : List Mrk) (i : Nat) : Prop := M.length = N.length ∧ ∃ (h1 : i < M.length) (h2 : i < N.length), runEq M[i].run N[i].run = false ∧ ∀ j (g1 : j < M.length) (g2 : j < N.length), j ≠ i → runEq M[j].run N[j].run = true
def ChR (M N : List Mrk) (x : Ending) : Prop := ∃ n : Int, x = .returned (iV n) ∧ (n = -1 ∨ ∃ i : Nat, n = (i : Int) ∧ OneP M N i)
def ChS (M N : List Mrk) (k : Nat) (n : Int) : Prop := (n = -1 ∧ ∀ j (g1 : j < M.length) (g2 : j < N.length), j < k → runEq M[j].run N[j].run = true) ∨ ∃ i : Nat, n = (i : Int) ∧ i < k ∧ ∃ (h1 : i < M.length) (h2 : i < N.length), runEq M[i].run N[i].run = false ∧ ∀ j (g1 : j < M.length) (g2 : j < N.length), j < k → j ≠ i → runEq M[j].run N[j].run = true
theorem ChS.same {M N : List Mrk} {k : Nat} {n : Int} (h : ChS M N k n) (g1 : k < M.length) (g2 : k < N.length) (he : runEq M[k].run N[k].run = true) : ChS M N (k + 1) n := by
 rcases h with ⟨h0, h1⟩ | ⟨i, h0, hi, h1, h2, h3, h4⟩
 ·exact .inl ⟨h0, fun j a b hj => by
   by_cases e : j = k
   ·subst e; exact he
   ·exact h1 j a b (by omega)⟩
 ·exact .inr ⟨i, h0, by omega, h1, h2, h3, fun j a b hj hji => by
   by_cases e : j = k
   ·subst e; exact he
   ·exact h4 j a b (by omega) hji⟩
theorem ChS.other {M N : List Mrk} {k : Nat} {n : Int} (h : ChS M N k n) (hn : n < 0) (g1 : k < M.length) (g2 : k < N.length) (he : runEq M[k].run N[k].run = false) : ChS M N (k + 1) (k : Nat) := by
 rcases h with ⟨h0, h1⟩ | ⟨i, h0, hi, h1, h2, h3, h4⟩
 ·exact .inr ⟨k, rfl, by omega, g1, g2, he, fun j a b hj hjk => h1 j a b (by omega)⟩
 ·omega
theorem ChS.end {M N : List Mrk} {k : Nat} {n : Int} (h : ChS M N k n) (hk : ¬ k < M.length) (hl : M.length = N.length) : n = -1 ∨ ∃ i : Nat, n = (i : Int) ∧ OneP M N i := by
 rcases h with ⟨h0, h1⟩ | ⟨i, h0, hi, h1, h2, h3, h4⟩
 ·exact .inl h0
 ·exact .inr ⟨i, h0, hl, h1, h2, h3, fun j a b hji => h4 j a b (by omega) hji⟩
theorem changed_any (w : World) (s : Sch) (ra sa ga la ma lb mb : Option Addr) (rv sv gv lc mc le me : Nat) (pf pc pn pd ps pm kp nn th nw da db : Int) (L R : List Ent) (M N : List Mrk) (hA : Slc w 14 (.slice ma M.length mc) M.length (mkcells M)) (hB : Slc w 14 (.slice mb N.length me) N.length (mkcells N)) (hn : M.length ≤ 1000) :
  Calls Tryz.prog 72 #[.agg #[sT s.name, .slice ra s.records.length rv, .slice sa s.services.length sv, .slice ga s.sagas.length gv, iV pf, iV pc, iV pn, iV pd, iV ps, iV pm, iV kp, iV nn, iV th, iV nw, .slice la L.length lc, .slice ma M.length mc, iV da, .slice lb R.length le, .slice mb N.length me, iV db]] w fun x w' => ChR M N x ∧ Below w.heap.size w w' := by
 have HA := zD hA
 have HB := zD hB
 clear hA hB
 have HMIN := zD (show ChR M N (.returned (iV (-1))) from ⟨-1, rfl, .inl rfl⟩)
 go_enter Tryz.func72, Tryz.ntmps72
 go_upto_region 1 with (fail)
 generalize hwa : w.alloc (.cells #[sT s.name, .slice ra s.records.length rv, .slice sa s.services.length sv, .slice ga s.sagas.length gv, iV pf, iV pc, iV pn, iV pd, iV ps, iV pm, iV kp, iV nn, iV th, iV nw, .slice la L.length lc, .slice ma M.length mc, iV da, .slice lb R.length le, .slice mb N.length me, iV db] 102) = wa at *
 have HXa := zD (show wa.heap[w.heap.size]? = some (.cells #[sT s.name, .slice ra s.records.length rv, .slice sa s.services.length sv, .slice ga s.sagas.length gv, iV pf, iV pc, iV pn, iV pd, iV ps, iV pm, iV kp, iV nn, iV th, iV nw, .slice la L.length lc, .slice ma M.length mc, iV da, .slice lb R.length le, .slice mb N.length me, iV db] 102 (0, 0)) from hwa ▸ zw _ _)
 have HBa := zD (show Below w.heap.size w wa from hwa ▸ bl1 _ _)
 clear hwa
 have HX := zD (fun W (X : Below wa.heap.size wa W) => show W.heap[w.heap.size]? = some (.cells #[sT s.name, .slice ra s.records.length rv, .slice sa s.services.length sv, .slice ga s.sagas.length gv, iV pf, iV pc, iV pn, iV pd, iV ps, iV pm, iV kp, iV nn, iV th, iV nw, .slice la L.length lc, .slice ma M.length mc, iV da, .slice lb R.length le, .slice mb N.length me, iV db] 102 (0, 0)) from (X.block _ (zq HXa.out).1).trans HXa.out)
 have hxa := HXa.out
 have x15 := zG hxa 15 rfl
 have x18 := zG hxa 18 rfl
 have hla : w.heap.size < wa.heap.size := (zq hxa).1
 clear hxa
 by_cases hl : M.length = N.length
 case neg =>
  have d1 : ((M.length : Int) == (N.length : Int)) = false := by rw [zb]; omega
  have d2 : ((M.length : Int) != (N.length : Int)) = true := by rw [bne_iff_ne]; omega
  go_wp2_with fail; exact zR (v := iV (-1)) ⟨HMIN.out, HBa.out⟩
 have d1 : ((M.length : Int) == (N.length : Int)) = true := by rw [beq_iff_eq]; omega
 have d2 : ((M.length : Int) != (N.length : Int)) = false := by rw [bne_eq_false_iff_eq]; omega
 have HL := zD hl
 clear hl
 go_wp2_with fail
 go_loopw [3, 18] (fun vo vi wr => ∃ (k : Nat) (n : Int), k ≤ M.length ∧ -1 ≤ n ∧ n ≤ k ∧ vo = iV n ∧ vi = iV (k : Nat) ∧ Hid (Below wa.heap.size wa wr) ∧ Hid (ChS M N k n)) (fun _ vi _ => M.length - (intOf vi).toNat)
 case atStart => exact ⟨0, -1, by omega, by omega, by omega, rfl, rfl, zD zl, zD (.inl ⟨rfl, fun j _ _ h => by omega⟩)⟩
 case round =>
  clear x15 x18; rename World => wr
  obtain ⟨k, n, hk, hn1, hn2, rfl, rfl, HBr, HS⟩ := hrel; have HBw := zD (HBa.out.trans (HBr.out.mono HBa.out.size)); by_cases hlt : k < M.length
  case neg =>
   have HE := zD (show ChR M N (.returned (iV n)) from ⟨n, rfl, HS.out.end hlt HL.out⟩); go_wp2_with fail; exact zR (v := iV n) ⟨HE.out, HBw.out⟩
  have hlt2 : k < N.length := by rw [← HL.out]; exact hlt
  obtain ⟨b1, o1, rfl, hb1, hp⟩ := mrk_at (HA.out.below HBw.out) hlt; obtain ⟨b2, o2, rfl, hb2, hq⟩ := mrk_at (HB.out.below HBw.out) hlt2; have hxr := HX.out wr HBr.out; have HSS := zD (fun h => HS.out.same hlt hlt2 h); have HSO := zD (fun h0 h => HS.out.other h0 hlt hlt2 h); generalize M[k] = x at *; generalize N[k] = y at *; unfold mrkC at hp hq; have c15 := zG hxr 15 rfl; have c18 := zG hxr 18 rfl; have hlw : w.heap.size < wr.heap.size := (zq hxr).1; have p0 : wr.cell? ⟨b1, o1 + k * 14, none⟩ = some (sT x.run.id) := hp 0 _ rfl; have q0 : wr.cell? ⟨b2, o2 + k * 14, none⟩ = some (sT y.run.id) := hq 0 _ rfl; have p1 : wr.cell? ⟨b1, o1 + k * 14 + 1, none⟩ = some (sT x.run.sg) := hp 1 _ rfl; have q1 : wr.cell? ⟨b2, o2 + k * 14 + 1, none⟩ = some (sT y.run.sg) := hq 1 _ rfl; have p2 : wr.cell? ⟨b1, o1 + k * 14 + 2, none⟩ = some (sT x.run.arg) := hp 2 _ rfl; have q2 : wr.cell? ⟨b2, o2 + k * 14 + 2, none⟩ = some (sT y.run.arg) := hq 2 _ rfl; have p3 : wr.cell? ⟨b1, o1 + k * 14 + 3, none⟩ = some (iV x.run.at_) := hp 3 _ rfl; have q3 : wr.cell? ⟨b2, o2 + k * 14 + 3, none⟩ = some (iV y.run.at_) := hq 3 _ rfl; have p4 : wr.cell? ⟨b1, o1 + k * 14 + 4, none⟩ = some (.int .u8 (x.run.ph : Nat)) := hp 4 _ rfl; have q4 : wr.cell? ⟨b2, o2 + k * 14 + 4, none⟩ = some (.int .u8 (y.run.ph : Nat)) := hq 4 _ rfl; have p5 : wr.cell? ⟨b1, o1 + k * 14 + 5, none⟩ = some (iV x.run.tr) := hp 5 _ rfl; have q5 : wr.cell? ⟨b2, o2 + k * 14 + 5, none⟩ = some (iV y.run.tr) := hq 5 _ rfl; have p6 : wr.cell? ⟨b1, o1 + k * 14 + 6, none⟩ = some (.bool x.run.st) := hp 6 _ rfl; have q6 : wr.cell? ⟨b2, o2 + k * 14 + 6, none⟩ = some (.bool y.run.st) := hq 6 _ rfl; have p7 : wr.cell? ⟨b1, o1 + k * 14 + 7, none⟩ = some (iV x.run.wh) := hp 7 _ rfl; have q7 : wr.cell? ⟨b2, o2 + k * 14 + 7, none⟩ = some (iV y.run.wh) := hq 7 _ rfl; have p8 : wr.cell? ⟨b1, o1 + k * 14 + 8, none⟩ = some (sT x.run.vl) := hp 8 _ rfl; have q8 : wr.cell? ⟨b2, o2 + k * 14 + 8, none⟩ = some (sT y.run.vl) := hq 8 _ rfl; have hne := fun W => run_neq x.run y.run W
  have hgd := fun X Y W => run_neqg x.run y.run X Y W
  unfold runC at hne hgd; generalize runEq x.run y.run = eq at *; have hi1 : (0 : Int) ≤ (k : Int) := by omega
  have hi2 : (k : Int) < (M.length : Int) := by omega
  have hi3 : (k : Int) < (N.length : Int) := by omega
  have HBn := zD (fun n => show Below wa.heap.size wa (wr.drewN n) from ⟨HBr.out.os, HBr.out.tape, HBr.out.output, HBr.out.size, HBr.out.block⟩); clear hp hq hxr; cases eq with
  | true =>
   have HS2 := zD (HSS.out rfl); clear HSS HSO; go_wp2_with fail; go_quiet (fail); have HB4 := zD (HBn.out nq); clear p0 q0 p1 q1 p2 q2 p3 q3 p4 q4 p5 q5 p6 q6 p7 q7 p8 q8 hne hgd; go_wp2_with fail; exact ⟨⟨k + 1, n, by omega, by omega, by omega, rfl, by go_num, HB4, HS2⟩, by simp [intOf]; omega⟩
  | false =>
   by_cases h0 : n < 0
   ·have HS2 := zD (HSO.out h0 rfl)
    have d3 : decide (0 ≤ n) = false := zf (by omega); clear HSS HSO h0; go_wp2_with fail; go_quiet (fail); have HB4 := zD (HBn.out nq); clear p0 q0 p1 q1 p2 q2 p3 q3 p4 q4 p5 q5 p6 q6 p7 q7 p8 q8 hne hgd; go_wp2_with fail; exact ⟨⟨k + 1, (k : Nat), by omega, by omega, by omega, rfl, by go_num, HB4, HS2⟩, by simp [intOf]; omega⟩
   ·have d3 : decide (0 ≤ n) = true := zt (by omega)
    clear HSS HSO h0; go_wp2_with fail; go_quiet (fail); have HB4 := zD (HBa.out.trans ((HBn.out nq).mono HBa.out.size)); clear p0 q0 p1 q1 p2 q2 p3 q3 p4 q4 p5 q5 p6 q6 p7 q7 p8 q8 hne hgd; go_wp2_with fail; exact zR (v := iV (-1)) ⟨HMIN.out, HB4.out⟩
theorem cancel_any (w : World) (hK : KwIn w) (s : Sch) (ur us ug : Value) (hS : SchR w s ur us ug) (hM : Small s) (a id : Tx) (hx : id.length ≤ 1000000) (i : Int) (fr : Int) :
  Calls Tryz.prog 100 #[.agg #[sT s.name, ur, us, ug], sT a, sT id, iV i, iV fr] w fun x w' => (∃ (kd f t p c : Int) (k sv mt b : ByteArray), x = .returned (.tuple #[.agg #[.int .u8 kd, iV f, iV t, .int .u64 0, .string k, .int .u64 p, .string sv, .string mt, iV c, .string b], iV (letE s a id i fr : Nat)])) ∧ Below w.heap.size w w' := by
 have HL := zD (fun W (h : Below w.heap.size w W) => letter_any' W (hK.below h) s ur us ug (hS.below h) hM a id hx i fr)
 generalize stpOf s a i = ST at *
 generalize letE s a id i fr = LE at *
 clear hK hM
 go_enter Tryz.func100, Tryz.ntmps100
 go_upto_region 1 with (fail)
 generalize hwa : ((w.alloc (.cells #[sT s.name, ur, us, ug] 26)).alloc (.cells #[.int .u8 0, iV 0, iV 0, .int .u64 0, eS, .int .u64 0, eS, eS, iV 0, eS] 63)) = wa
 have HBa := zD (show Below w.heap.size w wa from hwa ▸ ((Below.refl _ w).alloc zn _).alloc (by simp) _)
 have HXa := zD (show wa.heap[w.heap.size]? = some (.cells #[sT s.name, ur, us, ug] 26 (0, 0)) from hwa ▸ (Below.heap_alloc _ _ _ (by simp)).trans (zw _ _))
 have HYa := zD (show wa.heap[w.heap.size + 1]? = some (.cells #[.int .u8 0, iV 0, iV 0, .int .u64 0, eS, .int .u64 0, eS, eS, iV 0, eS] 63 (0, 0)) from hwa ▸ heap_alloc_new2 _ _ _)
 have hza : wa.heap.size = w.heap.size + 2 := by rw [← hwa]; simp
 have HZA := zD hza
 clear hwa hza
 have HS := zD hS
 clear hS
 have x0 := zF HXa 0 rfl
 have x1 : wa.cell? ⟨w.heap.size, 1, none⟩ = some ur := by simp only [World.cell?, HXa.out]; rfl
 have x2 : wa.cell? ⟨w.heap.size, 2, none⟩ = some us := by simp only [World.cell?, HXa.out]; rfl
 have x3 : wa.cell? ⟨w.heap.size, 3, none⟩ = some ug := by simp only [World.cell?, HXa.out]; rfl
 go_wp2_with fail
 refine (HL.out wa HBa.out).mono ?_
 rintro e w2 ⟨⟨f, tt, p, k, sv, mt, rfl, heq⟩, hb⟩
 unfold ltr
 have HEQ := zD heq
 have HB2 := zT HBa hb
 have HX2 := zD ((hb.block _ (by have := HZA.out; omega)).trans HXa.out)
 have HY2 := zD ((hb.block _ (by have := HZA.out; omega)).trans HYa.out)
 have hl2 : w.heap.size + 1 < w2.heap.size := (zq HY2.out).1
 clear hb heq HL x0 x1 x2 x3
 go_upto_region 2 with (fail)
 generalize hw3 : w2.alloc (.cells #[.int .u8 0, iV f, iV tt, .int .u64 0, sT k, .int .u64 p, sT sv, sT mt, iV 0, eS] 63) = w3 at *
 have HB3 := zD (show Below w.heap.size w w3 from hw3 ▸ HB2.out.alloc HB2.out.size _)
 have HY3 := zD (show w3.heap[w.heap.size + 1]? = some (.cells #[.int .u8 0, iV 0, iV 0, .int .u64 0, eS, .int .u64 0, eS, eS, iV 0, eS] 63 (0, 0)) from hw3 ▸ (Below.heap_alloc w2 (.cells #[.int .u8 0, iV f, iV tt, .int .u64 0, sT k, .int .u64 p, sT sv, sT mt, iV 0, eS] 63) _ hl2).trans HY2.out)
 have HX3 := zD (show w3.heap[w.heap.size]? = some (.cells #[sT s.name, ur, us, ug] 26 (0, 0)) from hw3 ▸ (Below.heap_alloc w2 (.cells #[.int .u8 0, iV f, iV tt, .int .u64 0, sT k, .int .u64 p, sT sv, sT mt, iV 0, eS] 63) _ (by omega)).trans HX2.out)
 have HL3 := zD (show w3.heap[w2.heap.size]? = some (.cells #[.int .u8 0, iV f, iV tt, .int .u64 0, sT k, .int .u64 p, sT sv, sT mt, iV 0, eS] 63 (0, 0)) from hw3 ▸ zw w2 _)
 have hl3 : w2.heap.size < w3.heap.size := (zq HL3.out).1
 clear hw3
 clear HEQ
 by_cases hfe : LE = 0
 case neg =>
  have d0 : ((LE : Int) == 0) = false := by simp; omega
  have y0 := zF HL3 0 rfl; have y1 := zF HL3 1 rfl; have y2 := zF HL3 2 rfl; have y3 := zF HL3 3 rfl; have y4 := zF HL3 4 rfl; have y5 := zF HL3 5 rfl; have y6 := zF HL3 6 rfl; have y7 := zF HL3 7 rfl; have y8 := zF HL3 8 rfl; have y9 := zF HL3 9 rfl; obtain ⟨l0, l1, l2, l3, l4, l5, l6, l7, l8, l9, g0, g1, g2, g3, g4, g5, g6, g7, g8, g9⟩ := laid10_cells HY3.out; obtain ⟨m0, m1, m2, m3, m4, m5, m6, m7, m8, m9⟩ := laid10_read HY3.out (.int .u8 0) (iV f) (iV tt) (.int .u64 0) (sT k) (.int .u64 p) (sT sv) (sT mt) (iV 0) (eS); have HWf := zD (laid10_below HB3.out (show w.heap.size ≤ w.heap.size + 1 by omega) (.int .u8 0) (iV f) (iV tt) (.int .u64 0) (sT k) (.int .u64 p) (sT sv) (sT mt) (iV 0) (eS)); go_wp2_with fail; exact bodyPost_ret (v := .tuple #[.agg #[.int .u8 0, iV f, iV tt, .int .u64 0, sT k, .int .u64 p, sT sv, sT mt, iV 0, eS], iV (LE : Nat)]) (by simp [results, Tryz.results100, go_sem, m0, m1, m2, m3, m4, m5, m6, m7, m8, m9]) rfl ⟨⟨0, f, tt, p, 0, bT k, bT sv, bT mt, ⟨#[]⟩, rfl⟩, HWf.out⟩
 subst hfe
 have d0 : (((0 : Nat) : Int) == 0) = true := by decide
 obtain ⟨y0, y1, y2, y3, y4, y5, y6, y7, y8, y9, -⟩ := laid10_blk HL3.out
 have pf : ∀ o, w3.frozen? ⟨w2.heap.size, o, none⟩ = false := fun o => by simp [World.frozen?, y0]
 have p0 := zG y0 0 rfl
 clear y0 y1 y2 y3 y4 y5 y6 y7 y8 y9
 go_upto_region 4 with (fail)
 have HB5 := zD (HB3.out.setCell (p := ⟨w2.heap.size, 0, none⟩) HB2.out.size (.int .u8 3))
 have HL5 := zD (show (w3.setCell ⟨w2.heap.size, 0, none⟩ (.int .u8 3)).heap[w2.heap.size]? = some (.cells #[.int .u8 3, iV f, iV tt, .int .u64 0, sT k, .int .u64 p, sT sv, sT mt, iV 0, eS] 63 (0, 0)) from (set_blk HL3.out 0 (.int .u8 3)).trans rfl)
 have HY5 := zD (show (w3.setCell ⟨w2.heap.size, 0, none⟩ (.int .u8 3)).heap[w.heap.size + 1]? = some (.cells #[.int .u8 0, iV 0, iV 0, .int .u64 0, eS, .int .u64 0, eS, eS, iV 0, eS] 63 (0, 0)) from (Below.heap_setCell _ _ _ _ (by show w.heap.size + 1 ≠ w2.heap.size; omega)).trans HY3.out)
 clear pf p0 HL3 HX3 HY3 HB3
 generalize w3.setCell ⟨w2.heap.size, 0, none⟩ (.int .u8 3) = w5 at *
 have y0 := zF HL5 0 rfl
 have y1 := zF HL5 1 rfl
 have y2 := zF HL5 2 rfl
 have y3 := zF HL5 3 rfl
 have y4 := zF HL5 4 rfl
 have y5 := zF HL5 5 rfl
 have y6 := zF HL5 6 rfl
 have y7 := zF HL5 7 rfl
 have y8 := zF HL5 8 rfl
 have y9 := zF HL5 9 rfl
 obtain ⟨l0, l1, l2, l3, l4, l5, l6, l7, l8, l9, g0, g1, g2, g3, g4, g5, g6, g7, g8, g9⟩ := laid10_cells HY5.out
 obtain ⟨m0, m1, m2, m3, m4, m5, m6, m7, m8, m9⟩ := laid10_read HY5.out (.int .u8 3) (iV f) (iV tt) (.int .u64 0) (sT k) (.int .u64 p) (sT sv) (sT mt) (iV 0) (eS)
 have HWf := zD (laid10_below HB5.out (show w.heap.size ≤ w.heap.size + 1 by omega) (.int .u8 3) (iV f) (iV tt) (.int .u64 0) (sT k) (.int .u64 p) (sT sv) (sT mt) (iV 0) (eS))
 go_wp2_with fail
 exact bodyPost_ret (v := .tuple #[.agg #[.int .u8 3, iV f, iV tt, .int .u64 0, sT k, .int .u64 p, sT sv, sT mt, iV 0, eS], iV 0]) (by simp [results, Tryz.results100, go_sem, m0, m1, m2, m3, m4, m5, m6, m7, m8, m9]) rfl ⟨⟨3, f, tt, p, 0, bT k, bT sv, bT mt, ⟨#[]⟩, rfl⟩, HWf.out⟩
end Go.Proofs.YtgoejmheihgpfaaGreatDoor
