/- Lemmas for ModelStays' proof. -/
import Derived.Test.YtgoejmheihgpfaaGreatDoorSk
import Derived.Deep.WholeRow
import Derived.Laws.Tables
namespace Go.Proofs.YtgoejmheihgpfaaGreatDoor
set_option maxRecDepth 100000
set_option maxHeartbeats 16000000
open Go.RowKit
theorem wpList_buildS {P : Program} {ops : Array Oper} {w : World} {Q : Exit → Act → World → Prop} {a : Act} {o : Oper} {rest : List Oper} (t : TypeId) (parts : Array (Nat × Operand)) (ho : o.op = .build t parts) (hg : o.guard = none) (ps : Array (Nat × Value)) (hp : (parts.map fun (i, x) => (i, a.eval x)) = ps) (cells : Array Value) (hb : P.built t ps.toList = some cells)
  (h : wpList P ops Q rest (a.put o.dst (.agg cells)) w) : wpList P ops Q (o :: rest) a w :=
 wpList_build hg t parts ho (by rw [hp, hb]; rfl) (by rw [hp, hb]; exact h)
theorem wpList_storeNew {P : Program} {ops : Array Oper} {w : World} {Q : Exit → Act → World → Prop} {a : Act} {o : Oper} {rest : List Oper} {c : Array Value} {ty : TypeId} (x y : Operand) (ho : o.op = .store ty x y) (hg : o.guard = none) (c' : Array Value) (hx : a.eval x = .pointer (some ⟨w.heap.size, 0, none⟩)) (hy : a.eval y = .agg c')
  (hi : (P.info? ty).map (·.size) = some c'.size) (hs : c.size = c'.size) (h1 : c'.all (·.oneCell') = true) (h : wpList P ops Q rest (a.put o.dst undef) (w.alloc (.cells c' ty))) : wpList P ops Q (o :: rest) a (w.alloc (.cells c ty)) :=
 wpList_store_row hg ty x y ho w.heap.size c' hx hy ty c (heap_alloc_last w _) hi hs h1 (by rw [World.setRow_alloc_new]; exact h)
theorem built_step (s : Sch) (ra sa ga la ma lb mb : Option Addr) (rv sv gv lc mc le me : Nat) (pf pc pn pd ps pm kp nn th nw da db : Int) (L R : List Ent) (M N : List Mrk) : Tryz.prog.built 102 [(0, .agg (sV s ra sa ga rv sv gv)), (1, .agg #[iV pf, iV pc, iV pn, iV pd, iV ps, iV pm]), (2, iV kp), (3, iV nn), (4, iV th), (5, iV nw), (6, .agg #[.slice la L.length lc, .slice ma M.length mc, iV da]), (7, .agg #[.slice lb R.length le, .slice mb N.length me, iV db])] = some #[sT s.name, .slice ra s.records.length rv, .slice sa s.services.length sv, .slice ga s.sagas.length gv, iV pf, iV pc, iV pn, iV pd, iV ps, iV pm, iV kp, iV nn, iV th, iV nw, .slice la L.length lc, .slice ma M.length mc, iV da, .slice lb R.length le, .slice mb N.length me, iV db] := by kernel_rfl
theorem begin_no (w : World) (s : Sch) (ra sa ga la ma lb mb : Option Addr) (rv sv gv lc mc le me : Nat) (pf pc pn pd ps pm kp nn th nw da db : Int) (L R : List Ent) (M N : List Mrk) (hA : Slc w 6 (.slice la L.length lc) L.length (ecells L)) (hB : Slc w 6 (.slice lb R.length le) R.length (ecells R)) (hE : entsEq L R = false) :
  Calls Tryz.prog 39 #[.agg #[sT s.name, .slice ra s.records.length rv, .slice sa s.services.length sv, .slice ga s.sagas.length gv, iV pf, iV pc, iV pn, iV pd, iV ps, iV pm, iV kp, iV nn, iV th, iV nw, .slice la L.length lc, .slice ma M.length mc, iV da, .slice lb R.length le, .slice mb N.length me, iV db]] w fun x w' => x = .returned (.bool false) ∧ Below w.heap.size w w' := by
 have HBw := zD (bl1 w (.cells #[sT s.name, .slice ra s.records.length rv, .slice sa s.services.length sv, .slice ga s.sagas.length gv, iV pf, iV pc, iV pn, iV pd, iV ps, iV pm, iV kp, iV nn, iV th, iV nw, .slice la L.length lc, .slice ma M.length mc, iV da, .slice lb R.length le, .slice mb N.length me, iV db] 102))
 have HST := zD (still_any (w.alloc (.cells #[sT s.name, .slice ra s.records.length rv, .slice sa s.services.length sv, .slice ga s.sagas.length gv, iV pf, iV pc, iV pn, iV pd, iV ps, iV pm, iV kp, iV nn, iV th, iV nw, .slice la L.length lc, .slice ma M.length mc, iV da, .slice lb R.length le, .slice mb N.length me, iV db] 102)) s ra sa ga la ma lb mb rv sv gv lc mc le me pf pc pn pd ps pm kp nn th nw da db L R M N (hA.below HBw.out) (hB.below HBw.out))
 rw [hE] at HST
 have HL := zD (load_step (W := w.alloc (.cells #[sT s.name, .slice ra s.records.length rv, .slice sa s.services.length sv, .slice ga s.sagas.length gv, iV pf, iV pc, iV pn, iV pd, iV ps, iV pm, iV kp, iV nn, iV th, iV nw, .slice la L.length lc, .slice ma M.length mc, iV da, .slice lb R.length le, .slice mb N.length me, iV db] 102)) (g := w.heap.size) (cs := #[sT s.name, .slice ra s.records.length rv, .slice sa s.services.length sv, .slice ga s.sagas.length gv, iV pf, iV pc, iV pn, iV pd, iV ps, iV pm, iV kp, iV nn, iV th, iV nw, .slice la L.length lc, .slice ma M.length mc, iV da, .slice lb R.length le, .slice mb N.length me, iV db]) (zw _ _) rfl)
 clear hA hB hE
 go_enter Tryz.func39, Tryz.ntmps39
 go_wp2_with (first | (refine wpList_loadS _ _ (by rfl) (by rfl) _ _ (by rfl) _ HL.out ?_))
 refine HST.out.mono ?_
 rintro e w2 ⟨rfl, hb⟩
 have HB2 := zT HBw hb
 clear hb HST HL
 go_wp2_with fail
 exact zR (v := .bool false) ⟨rfl, HB2.out⟩
theorem stepServe_any (w : World) (hK : KwIn w) (s : Sch) (ra sa ga la ma lb mb : Option Addr) (rv sv gv lc mc le me : Nat) (pf pc pn pd ps pm kp nn th nw da db : Int) (L R : List Ent) (M N : List Mrk) (hS : SchR w s (.slice ra s.records.length rv) (.slice sa s.services.length sv) (.slice ga s.sagas.length gv)) (hM : Small s) (hA : Slc w 6 (.slice la L.length lc) L.length (ecells L)) (hB : Slc w 6 (.slice lb R.length le) R.length (ecells R)) (hC : Slc w 14 (.slice ma M.length mc) M.length (mkcells M)) (hD : Slc w 14 (.slice mb N.length me) N.length (mkcells N)) (hn1 : L.length ≤ 1000) (hn2 : R.length ≤ 1000) (hn3 : M.length ≤ 1000) (hacc : ∀ e ∈ R, e.acc.length ≤ 1000000)
  (ht : (textA' s).2 = 0) (hnn : 0 ≤ nn) (hnm : nn < 4) (hE : entsEq L R = false) (hV : serveA s nw L R M N da db = true) :
  Calls Tryz.prog 13 #[.agg (sV s ra sa ga rv sv gv), .agg #[iV pf, iV pc, iV pn, iV pd, iV ps, iV pm], iV kp, iV nn, iV th, iV nw, .agg #[.slice la L.length lc, .slice ma M.length mc, iV da], .agg #[.slice lb R.length le, .slice mb N.length me, iV db]] w fun x w' => x = .returned (.tuple #[iV 2, .bool true]) ∧ Below w.heap.size w w' := by
 have HTX := zD (fun W (X : Below w.heap.size w W) => ptextS_any W (hK.below X) s _ _ _ (hS.below X) hM)
 have HST := zD (fun W (X : Below w.heap.size w W) => still_any W s ra sa ga la ma lb mb rv sv gv lc mc le me pf pc pn pd ps pm kp nn th nw da db L R M N (hA.below X) (hB.below X))
 rw [hE] at HST
 have HBG := zD (fun W (X : Below w.heap.size w W) => begin_no W s ra sa ga la ma lb mb rv sv gv lc mc le me pf pc pn pd ps pm kp nn th nw da db L R M N (hA.below X) (hB.below X) hE)
 have HSV := zD (fun W (X : Below w.heap.size w W) => serve_any W s ra sa ga la ma lb mb rv sv gv lc mc le me pf pc pn pd ps pm kp nn th nw da db L R M N (hS.below X) hM (hA.below X) (hB.below X) (hC.below X) (hD.below X) hn1 hn2 hn3 hacc)
 rw [hV] at HSV
 rw [ht] at HTX
 clear hK hS hM hA hB hC hD hacc ht hE hV
 go_enter Tryz.func13, Tryz.ntmps13
 go_upto_region 1 with (fail)
 generalize hwa : (((w.alloc (.cells (sV s ra sa ga rv sv gv) 26)).alloc (.cells #[iV pf, iV pc, iV pn, iV pd, iV ps, iV pm] 42)).alloc (.cells #[.slice la L.length lc, .slice ma M.length mc, iV da] 45)).alloc (.cells #[.slice lb R.length le, .slice mb N.length me, iV db] 45) = wa at *
 have HBa := zD (show Below w.heap.size w wa from hwa ▸ (((bl1 w _).alloc (by simp) _).alloc (by simp; omega) _).alloc (by simp; omega) _)
 have HX0 := zD (show wa.heap[w.heap.size]? = some (.cells (sV s ra sa ga rv sv gv) 26 (0, 0)) from hwa ▸ (Below.heap_alloc _ _ _ (by simp; omega)).trans (heap3 w _ _ _).1)
 have HX1 := zD (show wa.heap[w.heap.size + 1]? = some (.cells #[iV pf, iV pc, iV pn, iV pd, iV ps, iV pm] 42 (0, 0)) from hwa ▸ (Below.heap_alloc _ _ _ (by simp)).trans (heap3 w _ _ _).2.1)
 have HX2 := zD (show wa.heap[w.heap.size + 1 + 1]? = some (.cells #[.slice la L.length lc, .slice ma M.length mc, iV da] 45 (0, 0)) from hwa ▸ (Below.heap_alloc _ _ _ (by simp)).trans (heap3 w _ _ _).2.2)
 have HX3 := zD (show wa.heap[w.heap.size + 1 + 1 + 1]? = some (.cells #[.slice lb R.length le, .slice mb N.length me, iV db] 45 (0, 0)) from by
  subst hwa; have h := zw ((((w.alloc (.cells (sV s ra sa ga rv sv gv) 26)).alloc (.cells #[iV pf, iV pc, iV pn, iV pd, iV ps, iV pm] 42)).alloc (.cells #[.slice la L.length lc, .slice ma M.length mc, iV da] 45))) (.cells #[.slice lb R.length le, .slice mb N.length me, iV db] 45); rwa [show ((((w.alloc (.cells (sV s ra sa ga rv sv gv) 26)).alloc (.cells #[iV pf, iV pc, iV pn, iV pd, iV ps, iV pm] 42)).alloc (.cells #[.slice la L.length lc, .slice ma M.length mc, iV da] 45))).heap.size = w.heap.size + 1 + 1 + 1 by simp] at h)
 clear hwa
 have HXX := zD (fun W (X : Below wa.heap.size wa W) => show W.heap[w.heap.size]? = some (.cells (sV s ra sa ga rv sv gv) 26 (0, 0)) ∧ W.heap[w.heap.size + 1]? = some (.cells #[iV pf, iV pc, iV pn, iV pd, iV ps, iV pm] 42 (0, 0)) ∧ W.heap[w.heap.size + 1 + 1]? = some (.cells #[.slice la L.length lc, .slice ma M.length mc, iV da] 45 (0, 0)) ∧ W.heap[w.heap.size + 1 + 1 + 1]? = some (.cells #[.slice lb R.length le, .slice mb N.length me, iV db] 45 (0, 0)) from ⟨(X.block _ (zq HX0.out).1).trans HX0.out, (X.block _ (zq HX1.out).1).trans HX1.out, (X.block _ (zq HX2.out).1).trans HX2.out, (X.block _ (zq HX3.out).1).trans HX3.out⟩)
 have hx0 := HX0.out
 have a0 := zG hx0 0 rfl
 have a1 := zG hx0 1 rfl
 have a2 := zG hx0 2 rfl
 have a3 := zG hx0 3 rfl
 have hla : w.heap.size < wa.heap.size := (zq hx0).1
 have HTC := zD (HTX.out wa HBa.out)
 have d1 : decide (nn < 0) = false := zf (by omega)
 have d2 : decide (4 ≤ nn) = false := zf (by omega)
 clear hx0 HX0 HX1 HX2 HX3
 go_wp2_with fail
 refine HTC.out.mono ?_
 rintro e w2 ⟨rfl, hb⟩
 have HB2 := zT HBa hb
 obtain ⟨hx0, hx1, hx2, hx3⟩ := HXX.out w2 hb
 have hl2 := hb.size
 clear hb HTC a0 a1 a2 a3
 have b00 := zG hx0 0 rfl
 have b01 := zG hx0 1 rfl
 have b02 := zG hx0 2 rfl
 have b03 := zG hx0 3 rfl
 have b10 := zG hx1 0 rfl
 have b11 := zG hx1 1 rfl
 have b12 := zG hx1 2 rfl
 have b13 := zG hx1 3 rfl
 have b14 := zG hx1 4 rfl
 have b15 := zG hx1 5 rfl
 have b20 := zG hx2 0 rfl
 have b21 := zG hx2 1 rfl
 have b22 := zG hx2 2 rfl
 have b30 := zG hx3 0 rfl
 have b31 := zG hx3 1 rfl
 have b32 := zG hx3 2 rfl
 have hl3 : w.heap.size + 1 + 1 + 1 < w2.heap.size := (zq hx3).1
 clear hx0 hx1 hx2 hx3
 have HBU := zD (built_step s ra sa ga la ma lb mb rv sv gv lc mc le me pf pc pn pd ps pm kp nn th nw da db L R M N)
 go_upto_region 5 with (first | (refine wpList_buildS 102 _ (by rfl) (by rfl) #[(0, .agg (sV s ra sa ga rv sv gv)), (1, .agg #[iV pf, iV pc, iV pn, iV pd, iV ps, iV pm]), (2, iV kp), (3, iV nn), (4, iV th), (5, iV nw), (6, .agg #[.slice la L.length lc, .slice ma M.length mc, iV da]), (7, .agg #[.slice lb R.length le, .slice mb N.length me, iV db])] (by kernel_rfl) #[sT s.name, .slice ra s.records.length rv, .slice sa s.services.length sv, .slice ga s.sagas.length gv, iV pf, iV pc, iV pn, iV pd, iV ps, iV pm, iV kp, iV nn, iV th, iV nw, .slice la L.length lc, .slice ma M.length mc, iV da, .slice lb R.length le, .slice mb N.length me, iV db] HBU.out ?_) | (refine wpList_storeNew (ty := 102) _ _ (by rfl) (by rfl) #[sT s.name, .slice ra s.records.length rv, .slice sa s.services.length sv, .slice ga s.sagas.length gv, iV pf, iV pc, iV pn, iV pd, iV ps, iV pm, iV kp, iV nn, iV th, iV nw, .slice la L.length lc, .slice ma M.length mc, iV da, .slice lb R.length le, .slice mb N.length me, iV db] (by rfl) (by rfl) info_step (by kernel_rfl) (by kernel_rfl) ?_))
 have HX5 := zD (zw w2 (.cells #[sT s.name, .slice ra s.records.length rv, .slice sa s.services.length sv, .slice ga s.sagas.length gv, iV pf, iV pc, iV pn, iV pd, iV ps, iV pm, iV kp, iV nn, iV th, iV nw, .slice la L.length lc, .slice ma M.length mc, iV da, .slice lb R.length le, .slice mb N.length me, iV db] 102))
 have HB5 := zD (HB2.out.alloc HB2.out.size (.cells #[sT s.name, .slice ra s.records.length rv, .slice sa s.services.length sv, .slice ga s.sagas.length gv, iV pf, iV pc, iV pn, iV pd, iV ps, iV pm, iV kp, iV nn, iV th, iV nw, .slice la L.length lc, .slice ma M.length mc, iV da, .slice lb R.length le, .slice mb N.length me, iV db] 102))
 have HD5 := zD (bl1 w2 (.cells #[sT s.name, .slice ra s.records.length rv, .slice sa s.services.length sv, .slice ga s.sagas.length gv, iV pf, iV pc, iV pn, iV pd, iV ps, iV pm, iV kp, iV nn, iV th, iV nw, .slice la L.length lc, .slice ma M.length mc, iV da, .slice lb R.length le, .slice mb N.length me, iV db] 102))
 generalize w2.alloc (.cells #[sT s.name, .slice ra s.records.length rv, .slice sa s.services.length sv, .slice ga s.sagas.length gv, iV pf, iV pc, iV pn, iV pd, iV ps, iV pm, iV kp, iV nn, iV th, iV nw, .slice la L.length lc, .slice ma M.length mc, iV da, .slice lb R.length le, .slice mb N.length me, iV db] 102) = w5 at *
 clear b00 b01 b02 b03 b10 b11 b12 b13 b14 b15 b20 b21 b22 b30 b31 b32
 have HL := zD (load_step HX5.out rfl)
 have hl5 : w2.heap.size < w5.heap.size := (zq HX5.out).1
 have HSC := zD (HST.out w5 HB5.out)
 go_wp2_with (first | (refine wpList_loadS _ _ (by rfl) (by rfl) _ _ (by rfl) _ HL.out ?_))
 refine HSC.out.mono ?_
 rintro e w6 ⟨rfl, hb⟩
 have HB6 := zT HB5 hb
 have HX6 := zD ((hb.block _ hl5).trans HX5.out)
 have hl6 : w2.heap.size < w6.heap.size := (zq HX6.out).1
 clear hb HSC HL
 have HL := zD (load_step HX6.out rfl)
 have HBC := zD (HBG.out w6 HB6.out)
 go_wp2_with (first | (refine wpList_loadS _ _ (by rfl) (by rfl) _ _ (by rfl) _ HL.out ?_))
 refine HBC.out.mono ?_
 rintro e w7 ⟨rfl, hb⟩
 have HB7 := zT HB6 hb
 have HX7 := zD ((hb.block _ hl6).trans HX6.out)
 have hl7 : w2.heap.size < w7.heap.size := (zq HX7.out).1
 clear hb HBC HL
 have HL := zD (load_step HX7.out rfl)
 have HVC := zD (HSV.out w7 HB7.out)
 go_wp2_with (first | (refine wpList_loadS _ _ (by rfl) (by rfl) _ _ (by rfl) _ HL.out ?_))
 refine HVC.out.mono ?_
 rintro e w8 ⟨rfl, hb⟩
 have HB8 := zT HB7 hb
 clear hb HVC HL
 go_wp2_with fail
 exact zR (v := .tuple #[iV 2, .bool true]) ⟨rfl, HB8.out⟩
theorem shape0_any (w : World) (hK : KwIn w) (s : Sch) (ra sa ga : Option Addr) (rv sv gv : Nat) (hS : SchR w s (.slice ra s.records.length rv) (.slice sa s.services.length sv) (.slice ga s.sagas.length gv)) (hM : Small s) (r : Run) (hR : RunSmall r) (hr : rightR s r = true) (h1 : r.ph = 1) (h0 : r.at_ = 0) :
  Calls Tryz.prog 16 #[.agg (sV s ra sa ga rv sv gv), .agg #[sT r.id, sT r.sg, sT r.arg, iV r.at_, .int .u8 (r.ph : Nat), iV r.tr, .bool r.st, iV r.wh, sT r.vl], .slice none 0 0] w fun x w' => x = .returned (.bool true) ∧ Below w.heap.size w w' := by
 have HRI := zD (fun W (X : Below w.heap.size w W) => sright_any W (hK.below X) s _ _ _ (hS.below X) hM r hR)
 have HSG := zD (fun W (X : Below w.heap.size w W) => saga_any W s _ _ _ (hS.below X) hM r.sg)
 rw [hr] at HRI
 unfold runC at HRI
 have H0 := zD h0
 have H1 := zD h1
 clear hK hS hM hR hr h0 h1
 go_enter Tryz.func16, Tryz.ntmps16
 go_upto_region 1 with (fail)
 generalize hwa : (w.alloc (.cells (sV s ra sa ga rv sv gv) 26)).alloc (.cells #[sT r.id, sT r.sg, sT r.arg, iV r.at_, .int .u8 (r.ph : Nat), iV r.tr, .bool r.st, iV r.wh, sT r.vl] 53) = wa at *
 have HBa := zD (show Below w.heap.size w wa from hwa ▸ (bl1 w _).alloc (by simp) _)
 have HX0 := zD (show wa.heap[w.heap.size]? = some (.cells (sV s ra sa ga rv sv gv) 26 (0, 0)) from hwa ▸ (Below.heap_alloc _ _ _ (by simp)).trans (zw _ _))
 have HX1 := zD (show wa.heap[w.heap.size + 1]? = some (.cells #[sT r.id, sT r.sg, sT r.arg, iV r.at_, .int .u8 (r.ph : Nat), iV r.tr, .bool r.st, iV r.wh, sT r.vl] 53 (0, 0)) from hwa ▸ heap_alloc_new2 _ _ _)
 clear hwa
 have HXX := zD (fun W (X : Below wa.heap.size wa W) => show W.heap[w.heap.size]? = some (.cells (sV s ra sa ga rv sv gv) 26 (0, 0)) ∧ W.heap[w.heap.size + 1]? = some (.cells #[sT r.id, sT r.sg, sT r.arg, iV r.at_, .int .u8 (r.ph : Nat), iV r.tr, .bool r.st, iV r.wh, sT r.vl] 53 (0, 0)) from ⟨(X.block _ (zq HX0.out).1).trans HX0.out, (X.block _ (zq HX1.out).1).trans HX1.out⟩)
 obtain ⟨hx0, hx1⟩ := HXX.out wa zl
 have a00 := zG hx0 0 rfl
 have a01 := zG hx0 1 rfl
 have a02 := zG hx0 2 rfl
 have a03 := zG hx0 3 rfl
 have a10 := zG hx1 0 rfl
 have a11 := zG hx1 1 rfl
 have a12 := zG hx1 2 rfl
 have a13 := zG hx1 3 rfl
 have a14 := zG hx1 4 rfl
 have a15 := zG hx1 5 rfl
 have a16 := zG hx1 6 rfl
 have a17 := zG hx1 7 rfl
 have a18 := zG hx1 8 rfl
 have hla : w.heap.size + 1 < wa.heap.size := (zq hx1).1
 clear hx0 hx1
 have HRC := zD (HRI.out wa HBa.out)
 go_wp2_with fail
 refine HRC.out.mono ?_
 rintro e w2 ⟨rfl, hb⟩
 have HB2 := zT HBa hb
 have HD2 := zD hb
 clear hb HRC a00 a01 a02 a03 a10 a11 a12 a13 a14 a15 a16 a17 a18
 obtain ⟨hx0, hx1⟩ := HXX.out w2 HD2.out
 have b00 := zG hx0 0 rfl
 have b01 := zG hx0 1 rfl
 have b02 := zG hx0 2 rfl
 have b03 := zG hx0 3 rfl
 have b10 := zG hx1 0 rfl
 have b11 := zG hx1 1 rfl
 have b12 := zG hx1 2 rfl
 have b13 := zG hx1 3 rfl
 have b14 := zG hx1 4 rfl
 have b15 := zG hx1 5 rfl
 have b16 := zG hx1 6 rfl
 have b17 := zG hx1 7 rfl
 have b18 := zG hx1 8 rfl
 have hlb : w.heap.size + 1 < w2.heap.size := (zq hx1).1
 clear hx0 hx1
 have HSC := zD (HSG.out w2 HB2.out)
 go_wp2_with fail
 refine HSC.out.mono ?_
 rintro e w3 ⟨u, rfl, hu, hb⟩
 obtain ⟨ua, uc, rfl⟩ := own_slice hu
 have HB3 := zT HB2 hb
 have HD3 := zT HD2 hb
 clear hb hu HSC b00 b01 b02 b03 b10 b11 b12 b13 b14 b15 b16 b17 b18
 go_upto_region 4 with (fail)
 have HB4 := zD (HB3.out.alloc HB3.out.size (.cells #[sT (sOr (sagOf s.sagas r.sg)).name, sT (sOr (sagOf s.sagas r.sg)).arg, .slice ua (sOr (sagOf s.sagas r.sg)).steps.length uc] 67))
 have HD4 := zD (HD3.out.alloc HD3.out.size (.cells #[sT (sOr (sagOf s.sagas r.sg)).name, sT (sOr (sagOf s.sagas r.sg)).arg, .slice ua (sOr (sagOf s.sagas r.sg)).steps.length uc] 67))
 generalize w3.alloc (.cells #[sT (sOr (sagOf s.sagas r.sg)).name, sT (sOr (sagOf s.sagas r.sg)).arg, .slice ua (sOr (sagOf s.sagas r.sg)).steps.length uc] 67) = w4 at *
 obtain ⟨-, hx1⟩ := HXX.out w4 HD4.out
 have c3 : w4.cell? ⟨w.heap.size + 1, 3, none⟩ = some (iV 0) := by simp only [World.cell?, hx1]; rw [H0.out]; rfl
 have c4 : w4.cell? ⟨w.heap.size + 1, 4, none⟩ = some (.int .u8 1) := by simp only [World.cell?, hx1]; rw [H1.out]; rfl
 have hl4 : w.heap.size + 1 < w4.heap.size := (zq hx1).1
 clear hx1
 go_wp2_with fail
 go_loopw [9, 10, 35] (fun vk vl vi wr => vk = iV 0 ∧ vl = iV (-1) ∧ vi = iV 0 ∧ wr = w4) (fun _ _ _ _ => 0)
 case atStart => exact ⟨rfl, rfl, rfl, rfl⟩
 case round =>
  obtain ⟨rfl, rfl, rfl, rfl⟩ := hrel; go_wp2_with fail; exact zR (v := .bool true) ⟨rfl, HB4.out⟩
def e0 : Ent := ⟨1, [97, 46, 48, 99], [83], [117], [120], 5⟩
def run0 : Run := ⟨[97], [103], [1, 120, 10, 0], 0, 1, 0, false, 0, []⟩
theorem entry_any (w : World) : Calls Tryz.prog 21 #[] w fun x w' => x = .returned (.agg #[.int .u64 1, .string ⟨#[97, 46, 48, 99]⟩, .string ⟨#[83]⟩, .string ⟨#[117]⟩, .string ⟨#[120]⟩, iV 5]) ∧ Below w.heap.size w w' := by
 have HBw := zD (bl1 w (.cells #[.int .u64 1, .string ⟨#[97, 46, 48, 99]⟩, .string ⟨#[83]⟩, .string ⟨#[117]⟩, .string ⟨#[120]⟩, iV 5] 71))
 have hx : (w.alloc (.cells #[.int .u64 1, .string ⟨#[97, 46, 48, 99]⟩, .string ⟨#[83]⟩, .string ⟨#[117]⟩, .string ⟨#[120]⟩, iV 5] 71)).heap[w.heap.size]? = some (.cells #[.int .u64 1, .string ⟨#[97, 46, 48, 99]⟩, .string ⟨#[83]⟩, .string ⟨#[117]⟩, .string ⟨#[120]⟩, iV 5] 71 (0, 0)) := zw _ _
 have HX := zD hx
 clear hx
 go_enter Tryz.func21, Tryz.ntmps21
 go_wp2_with fail
 have m : ∀ i u, (#[.int .u64 1, .string ⟨#[97, 46, 48, 99]⟩, .string ⟨#[83]⟩, .string ⟨#[117]⟩, .string ⟨#[120]⟩, iV 5] : Array Value)[i]? = some u → (w.alloc (.cells #[.int .u64 1, .string ⟨#[97, 46, 48, 99]⟩, .string ⟨#[83]⟩, .string ⟨#[117]⟩, .string ⟨#[120]⟩, iV 5] 71)).cell? ⟨w.heap.size, i, none⟩ = some u := fun i u h => by simp only [World.cell?, HX.out]; exact h
 exact bodyPost_ret (v := .agg #[.int .u64 1, .string ⟨#[97, 46, 48, 99]⟩, .string ⟨#[83]⟩, .string ⟨#[117]⟩, .string ⟨#[120]⟩, iV 5]) (by simp [results, Tryz.results21, go_sem, m 0 _ rfl, m 1 _ rfl, m 2 _ rfl, m 3 _ rfl, m 4 _ rfl, m 5 _ rfl]) rfl ⟨rfl, HBw.out⟩
theorem guard_acc : Tryz.prog.eqGuardType Tryz.prog.depth 38 = false := by kernel_rfl
theorem held_acc : Tryz.prog.stoodInHeld 38 = false := by kernel_rfl
theorem und_acc : Tryz.prog.underlying 38 = some (.struct (Tryz.prog.fieldsOf 38)) := by kernel_rfl
def accEq (x y : Tx × Int) : Bool := decide (x.1 = y.1) && decide (x.2 = y.2)
theorem accEq_self (x : Tx × Int) : accEq x x = true := by simp [accEq]
theorem acc_eql (x y : Tx × Int) (W : World) : (binOp .eql 38 (.agg #[sT x.1, iV x.2]) (.agg #[sT y.1, iV y.2])).run Tryz.prog W = .ok (.bool (accEq x y)) W := by
 rw [run_eql_struct, run_equalIn_agg W 9999 _ _ _ und_acc held_acc]
 simp [go_sem]
 unfold accEq
 simp only [bT_list]
 by_cases h1 : x.1 = y.1
 case neg => simp [h1]
 by_cases h2 : x.2 = y.2
 case neg => simp [h1, h2]
 simp [h1, h2]
theorem acc_eqlg (x y : Tx × Int) (X Y : Operand) (W : World) : (eqGuard .eql 38 X Y (.agg #[sT x.1, iV x.2]) (.agg #[sT y.1, iV y.2])).run Tryz.prog W = .ok () W := run_eqGuard_agg W _ _ _ _ _ _ guard_acc
theorem slc_new (W : World) : Slc (W.alloc (.cells #[.int .u64 1, .string ⟨#[97, 46, 48, 99]⟩, .string ⟨#[83]⟩, .string ⟨#[117]⟩, .string ⟨#[120]⟩, iV 5] 71)) 6 (.slice (some ⟨W.heap.size, 0, none⟩) [e0].length 1) [e0].length (ecells [e0]) := by
 refine ⟨⟨_, 1, rfl, zn, by omega, (fun h => by cases h), fun _ => ⟨W.heap.size, 0, rfl, by simp, fun j u hu => ?_⟩⟩, rfl⟩
 rw [Nat.zero_add]
 have hx : (W.alloc (.cells #[.int .u64 1, .string ⟨#[97, 46, 48, 99]⟩, .string ⟨#[83]⟩, .string ⟨#[117]⟩, .string ⟨#[120]⟩, iV 5] 71)).heap[W.heap.size]? = some (.cells #[.int .u64 1, .string ⟨#[97, 46, 48, 99]⟩, .string ⟨#[83]⟩, .string ⟨#[117]⟩, .string ⟨#[120]⟩, iV 5] 71 (0, 0)) := zw _ _
 rw [cell_of_row _ _ j _ _ _ hx, ← Array.getElem?_toList]
 exact hu
theorem wakes_gen (w : World) (hK : KwIn w) (s : Sch) (hsh : ∀ W, Calls Tryz.prog 20 #[] W fun e w' => ∃ ur us ug, e = .returned (.agg #[sT s.name, ur, us, ug]) ∧ SchO W.heap.size w' s ur us ug ∧ Below W.heap.size W w') (hM : Small s) (ht : (textA' s).2 = 0) (hV : serveA s 0 [] [e0] [] [] 0 0 = true) (hBal : balA s [e0] [] = some [([120], 5)]) (hr : rightR s run0 = true) :
  Calls Tryz.prog 8 #[] w fun x w' => x = .returned (.bool true) ∧ Below w.heap.size w w' := by
 have HSH := zD (hsh w)
 clear hsh
 have HSTP := zD (fun W (X : Below w.heap.size w W) ra sa ga rv sv gv (hS : SchR W s (.slice ra s.records.length rv) (.slice sa s.services.length sv) (.slice ga s.sagas.length gv)) => show Calls Tryz.prog 13 #[.agg (sV s ra sa ga rv sv gv), .agg #[iV 0, iV 0, iV 0, iV 0, iV 0, iV 0], iV 5, iV 0, iV 0, iV 0, .agg #[.slice none 0 0, .slice none 0 0, iV 0], .agg #[.slice (some ⟨W.heap.size, 0, none⟩) 1 1, .slice none 0 0, iV 0]] (W.alloc (.cells #[.int .u64 1, .string ⟨#[97, 46, 48, 99]⟩, .string ⟨#[83]⟩, .string ⟨#[117]⟩, .string ⟨#[120]⟩, iV 5] 71)) fun x w' => x = .returned (.tuple #[iV 2, .bool true]) ∧ Below (W.alloc (.cells #[.int .u64 1, .string ⟨#[97, 46, 48, 99]⟩, .string ⟨#[83]⟩, .string ⟨#[117]⟩, .string ⟨#[120]⟩, iV 5] 71)).heap.size (W.alloc (.cells #[.int .u64 1, .string ⟨#[97, 46, 48, 99]⟩, .string ⟨#[83]⟩, .string ⟨#[117]⟩, .string ⟨#[120]⟩, iV 5] 71)) w' from
  stepServe_any (W.alloc (.cells #[.int .u64 1, .string ⟨#[97, 46, 48, 99]⟩, .string ⟨#[83]⟩, .string ⟨#[117]⟩, .string ⟨#[120]⟩, iV 5] 71)) (hK.below (X.trans ((bl1 W _).mono X.size))) s ra sa ga none none (some ⟨W.heap.size, 0, none⟩) none rv sv gv 0 0 1 0 0 0 0 0 0 0 5 0 0 0 0 0 [] [e0] [] [] (hS.below (bl1 W _)) hM (Slc.nil _ _) (slc_new W) (Slc.nil _ _) (Slc.nil _ _) (by decide) (by decide) (by decide) (fun e he => by rw [List.mem_singleton.1 he]; decide) ht (by decide) (by decide) (by decide) hV)
 have HBAL := zD (fun W (X : Below w.heap.size w W) ra sa ga rv sv gv (hS : SchR W s (.slice ra s.records.length rv) (.slice sa s.services.length sv) (.slice ga s.sagas.length gv)) => show Calls Tryz.prog 9 #[.agg (sV s ra sa ga rv sv gv), .slice (some ⟨W.heap.size, 0, none⟩) 1 1] (W.alloc (.cells #[.int .u64 1, .string ⟨#[97, 46, 48, 99]⟩, .string ⟨#[83]⟩, .string ⟨#[117]⟩, .string ⟨#[120]⟩, iV 5] 71)) fun x w' => (∃ u, x = .returned (.tuple #[u, .bool true]) ∧ w'.ownsRow (W.alloc (.cells #[.int .u64 1, .string ⟨#[97, 46, 48, 99]⟩, .string ⟨#[83]⟩, .string ⟨#[117]⟩, .string ⟨#[120]⟩, iV 5] 71)).heap.size 38 2 u 1 [sT [120], iV 5]) ∧ Below (W.alloc (.cells #[.int .u64 1, .string ⟨#[97, 46, 48, 99]⟩, .string ⟨#[83]⟩, .string ⟨#[117]⟩, .string ⟨#[120]⟩, iV 5] 71)).heap.size (W.alloc (.cells #[.int .u64 1, .string ⟨#[97, 46, 48, 99]⟩, .string ⟨#[83]⟩, .string ⟨#[117]⟩, .string ⟨#[120]⟩, iV 5] 71)) w' from
  (balances_any (W.alloc (.cells #[.int .u64 1, .string ⟨#[97, 46, 48, 99]⟩, .string ⟨#[83]⟩, .string ⟨#[117]⟩, .string ⟨#[120]⟩, iV 5] 71)) s _ _ _ (hS.below (bl1 W _)) hM _ [e0] (slc_new W) (by decide) (fun e he => by rw [List.mem_singleton.1 he]; decide)).mono (by
   rintro x w' ⟨⟨hn, -⟩ | ⟨F, u, hf, rfl, hu, -⟩, hb⟩
   ·rw [hBal] at hn; cases hn
   ·rw [hBal] at hf
    injection hf with hf; subst hf; exact ⟨⟨u, rfl, hu⟩, hb⟩))
 have HSHP := zD (fun W (X : Below w.heap.size w W) ra sa ga rv sv gv (hS : SchR W s (.slice ra s.records.length rv) (.slice sa s.services.length sv) (.slice ga s.sagas.length gv)) => show Calls Tryz.prog 16 #[.agg (sV s ra sa ga rv sv gv), .agg #[.string ⟨#[97]⟩, .string ⟨#[103]⟩, .string ⟨#[1, 120, 10, 0]⟩, iV 0, .int .u8 1, iV 0, .bool false, iV 0, eS], .slice none 0 0] W fun x w' => x = .returned (.bool true) ∧ Below W.heap.size W w' from
  shape0_any W (hK.below X) s ra sa ga rv sv gv hS hM run0 ⟨by decide, by decide, by decide⟩ hr rfl rfl)
 clear hK hM ht hV hBal hr
 go_enter Tryz.func8, Tryz.ntmps8
 go_wp2_with fail
 refine HSH.out.mono ?_
 rintro e w2 ⟨ur, us, ug, rfl, hso, hb2⟩
 obtain ⟨⟨ra, rv, rfl⟩, ⟨sa, sv, rfl⟩, ⟨ga, gv, rfl⟩⟩ := hso.read.shape
 have HS2 := zD hso.read
 have HB2 := zD hb2
 clear hso hb2 HSH
 go_upto_region 2 with (fail)
 have HX3 := zD (zw w2 (.cells (sV s ra sa ga rv sv gv) 26))
 have HB3 := zD (HB2.out.alloc HB2.out.size (.cells (sV s ra sa ga rv sv gv) 26))
 have HS3 := zD (HS2.out.below (bl1 w2 (.cells (sV s ra sa ga rv sv gv) 26)))
 generalize w2.alloc (.cells (sV s ra sa ga rv sv gv) 26) = w3 at *
 have HLX := zD (fun (W : World) (h : W.heap[w2.heap.size]? = some (.cells (sV s ra sa ga rv sv gv) 26 (0, 0))) => show W.cell? ⟨w2.heap.size, 0, none⟩ = some (sT s.name) ∧ W.cell? ⟨w2.heap.size, 1, none⟩ = some (.slice ra s.records.length rv) ∧ W.cell? ⟨w2.heap.size, 2, none⟩ = some (.slice sa s.services.length sv) ∧ W.cell? ⟨w2.heap.size, 3, none⟩ = some (.slice ga s.sagas.length gv) from by simp only [World.cell?, h]; exact ⟨rfl, rfl, rfl, rfl⟩)
 have hl3 : w2.heap.size < w3.heap.size := (zq HX3.out).1
 have HK3 := zD (fun W (X : Below w3.heap.size w3 W) => HLX.out W ((X.block _ hl3).trans HX3.out))
 have HLK := zD (fun W (X : Below w3.heap.size w3 W) => show w2.heap.size < W.heap.size from Nat.lt_of_lt_of_le hl3 X.size)
 clear HS2 HX3 hl3
 go_wp2_with fail
 refine wp_region_noPanic ?_
 refine wp_region_held_drew (S := (fun w' : World => w'.cell? ⟨w2.heap.size, 0, none⟩ = some (sT s.name) ∧ w'.cell? ⟨w2.heap.size, 1, none⟩ = some (.slice ra s.records.length rv) ∧ w'.cell? ⟨w2.heap.size, 2, none⟩ = some (.slice sa s.services.length sv) ∧ w'.cell? ⟨w2.heap.size, 3, none⟩ = some (.slice ga s.sagas.length gv))) (by kernel_rfl) (by (first | with_reducible exact HK3.out _ X2e | with_reducible exact HK3.out _ X2s | with_reducible exact HK3.out _ X2a | with_reducible exact HK3.out _ (show Below w3.heap.size w3 w3.drew from ⟨rfl, rfl, rfl, zn, fun _ _ => rfl⟩) | exact HK3.out _ (show Below w3.heap.size w3 w3.drew from ⟨rfl, rfl, rfl, zn, fun _ _ => rfl⟩))) (fun hH20 => ?_)
 refine zJ 0 9 rfl ?_
 refine zJ 1 10 rfl ?_
 refine zJ 2 11 rfl ?_
 refine zy [3] ?_
 refine zg (some 12) rfl (fun K hK => ?_) ?_
 ·go_simp
  (first | (go_at_call 21; (refine (entry_any _).mono ?_; rintro e w2a ⟨rfl, hb2a⟩; have X2a := (show Below w3.heap.size w3 w2a from (show Below w3.heap.size w3 w3.drew from ⟨rfl, rfl, rfl, zn, fun _ _ => rfl⟩).trans hb2a); have X2s := X2a.alloc X2a.size (.cells #[.int .u64 1, .string ⟨#[97, 46, 48, 99]⟩, .string ⟨#[83]⟩, .string ⟨#[117]⟩, .string ⟨#[120]⟩, iV 5] 71))) | (go_at_call 13; (refine (HSTP.out w2a (HB3.out.trans (X2a.mono HB3.out.size)) _ _ _ _ _ _ (HS3.out.below X2a)).mono ?_; rintro e w2e ⟨rfl, hb2e⟩; have X2e := X2s.trans (hb2e.mono X2s.size))))
  refine hK.out _ _ (by (first | with_reducible exact HK3.out _ X2e | with_reducible exact HK3.out _ X2s | with_reducible exact HK3.out _ X2a | with_reducible exact HK3.out _ (show Below w3.heap.size w3 w3.drew from ⟨rfl, rfl, rfl, zn, fun _ _ => rfl⟩) | exact HK3.out _ (show Below w3.heap.size w3 w3.drew from ⟨rfl, rfl, rfl, zn, fun _ _ => rfl⟩))) (fun hH21 => ?_); clear hK K; try simp only [Act.put, zX, zY, zZ]
  refine zy [4] ?_; refine zg (some 13) rfl (fun K hK => ?_) ?_
  ·go_simp
   refine hK.out _ _ (by (first | with_reducible exact HK3.out _ X2e | with_reducible exact HK3.out _ X2s | with_reducible exact HK3.out _ X2a | with_reducible exact HK3.out _ (show Below w3.heap.size w3 w3.drew from ⟨rfl, rfl, rfl, zn, fun _ _ => rfl⟩) | exact HK3.out _ (show Below w3.heap.size w3 w3.drew from ⟨rfl, rfl, rfl, zn, fun _ _ => rfl⟩))) (fun hH22 => ?_); clear hK K; try simp only [Act.put, zX, zY, zZ]
   refine zJ 5 14 rfl ?_; refine zy [6] ?_; refine zg (some 15) rfl (fun K hK => ?_) ?_
   ·go_simp
    (first | (go_at_call 21; (refine (entry_any _).mono ?_; rintro e w2a ⟨rfl, hb2a⟩; have X2a := (show Below w3.heap.size w3 w2a from (show Below w3.heap.size w3 w3.drew from ⟨rfl, rfl, rfl, zn, fun _ _ => rfl⟩).trans hb2a); have X2s := X2a.alloc X2a.size (.cells #[.int .u64 1, .string ⟨#[97, 46, 48, 99]⟩, .string ⟨#[83]⟩, .string ⟨#[117]⟩, .string ⟨#[120]⟩, iV 5] 71))) | (go_at_call 13; (refine (HSTP.out w2a (HB3.out.trans (X2a.mono HB3.out.size)) _ _ _ _ _ _ (HS3.out.below X2a)).mono ?_; rintro e w2e ⟨rfl, hb2e⟩; have X2e := X2s.trans (hb2e.mono X2s.size))))
    refine hK.out _ _ (by (first | with_reducible exact HK3.out _ X2e | with_reducible exact HK3.out _ X2s | with_reducible exact HK3.out _ X2a | with_reducible exact HK3.out _ (show Below w3.heap.size w3 w3.drew from ⟨rfl, rfl, rfl, zn, fun _ _ => rfl⟩) | exact HK3.out _ (show Below w3.heap.size w3 w3.drew from ⟨rfl, rfl, rfl, zn, fun _ _ => rfl⟩))) (fun hH23 => ?_); clear hK K; try simp only [Act.put, zX, zY, zZ]
    refine zJ 7 8 rfl ?_; refine zJ 8 16 rfl ?_; refine zJ 9 17 rfl ?_; refine zJ 10 2 rfl ?_; refine zJ 11 3 rfl ?_; refine wpAnyH_done (by kernel_rfl) ?_ _; refine NoPanic.normal ?_; clear hH20 hH21 hH22 hH23 hb2a hb2e; have HB7 := zT HB3 X2e; have HS7 := zD (HS3.out.below X2e); have HK7 := zD (fun W (X : Below w2e.heap.size w2e W) => HK3.out W (X2e.trans (X.mono X2e.size))); have HLK7 := zD (fun W (X : Below w2e.heap.size w2e W) => HLK.out W (X2e.trans (X.mono X2e.size))); clear X2e X2a X2s; rename World => w7
    go_wp2_with fail; refine wp_region_noPanic ?_; refine wp_region_held_drew (S := (fun w' : World => w'.cell? ⟨w2.heap.size, 0, none⟩ = some (sT s.name) ∧ w'.cell? ⟨w2.heap.size, 1, none⟩ = some (.slice ra s.records.length rv) ∧ w'.cell? ⟨w2.heap.size, 2, none⟩ = some (.slice sa s.services.length sv) ∧ w'.cell? ⟨w2.heap.size, 3, none⟩ = some (.slice ga s.sagas.length gv))) (by kernel_rfl) (by (first | with_reducible exact HK7.out _ X3e | with_reducible exact HK7.out _ X3s | with_reducible exact HK7.out _ X3a | with_reducible exact HK7.out _ (show Below w7.heap.size w7 w7.drew from ⟨rfl, rfl, rfl, zn, fun _ _ => rfl⟩) | exact HK7.out _ (show Below w7.heap.size w7 w7.drew from ⟨rfl, rfl, rfl, zn, fun _ _ => rfl⟩))) (fun hH30 => ?_); refine zJ 0 19 rfl ?_; refine zy [1] ?_; refine zg (some 20) rfl (fun K hK => ?_) ?_
    ·go_simp
     (first | (go_at_call 21; (refine (entry_any _).mono ?_; rintro e w3a ⟨rfl, hb3a⟩; have X3a := (show Below w7.heap.size w7 w3a from (show Below w7.heap.size w7 w7.drew from ⟨rfl, rfl, rfl, zn, fun _ _ => rfl⟩).trans hb3a); have X3s := X3a.alloc X3a.size (.cells #[.int .u64 1, .string ⟨#[97, 46, 48, 99]⟩, .string ⟨#[83]⟩, .string ⟨#[117]⟩, .string ⟨#[120]⟩, iV 5] 71))) | (go_at_call 9; (refine (HBAL.out w3a (HB7.out.trans (X3a.mono HB7.out.size)) _ _ _ _ _ _ (HS7.out.below X3a)).mono ?_; rintro e w3e ⟨⟨u, rfl, hu⟩, hb3e⟩; obtain ⟨ua, uc, rfl⟩ := own_slice hu; have X3e := X3s.trans (hb3e.mono X3s.size))))
     refine hK.out _ _ (by (first | with_reducible exact HK7.out _ X3e | with_reducible exact HK7.out _ X3s | with_reducible exact HK7.out _ X3a | with_reducible exact HK7.out _ (show Below w7.heap.size w7 w7.drew from ⟨rfl, rfl, rfl, zn, fun _ _ => rfl⟩) | exact HK7.out _ (show Below w7.heap.size w7 w7.drew from ⟨rfl, rfl, rfl, zn, fun _ _ => rfl⟩))) (fun hH31 => ?_); clear hK K; try simp only [Act.put, zX, zY, zZ]
     refine zy [2] ?_; refine zg (some 21) rfl (fun K hK => ?_) ?_
     ·go_simp
      refine hK.out _ _ (by (first | with_reducible exact HK7.out _ X3e | with_reducible exact HK7.out _ X3s | with_reducible exact HK7.out _ X3a | with_reducible exact HK7.out _ (show Below w7.heap.size w7 w7.drew from ⟨rfl, rfl, rfl, zn, fun _ _ => rfl⟩) | exact HK7.out _ (show Below w7.heap.size w7 w7.drew from ⟨rfl, rfl, rfl, zn, fun _ _ => rfl⟩))) (fun hH32 => ?_); clear hK K; try simp only [Act.put, zX, zY, zZ]
      refine zy [3] ?_; refine zg (some 22) rfl (fun K hK => ?_) ?_
      ·go_simp
       (first | (go_at_call 21; (refine (entry_any _).mono ?_; rintro e w3a ⟨rfl, hb3a⟩; have X3a := (show Below w7.heap.size w7 w3a from (show Below w7.heap.size w7 w7.drew from ⟨rfl, rfl, rfl, zn, fun _ _ => rfl⟩).trans hb3a); have X3s := X3a.alloc X3a.size (.cells #[.int .u64 1, .string ⟨#[97, 46, 48, 99]⟩, .string ⟨#[83]⟩, .string ⟨#[117]⟩, .string ⟨#[120]⟩, iV 5] 71))) | (go_at_call 9; (refine (HBAL.out w3a (HB7.out.trans (X3a.mono HB7.out.size)) _ _ _ _ _ _ (HS7.out.below X3a)).mono ?_; rintro e w3e ⟨⟨u, rfl, hu⟩, hb3e⟩; obtain ⟨ua, uc, rfl⟩ := own_slice hu; have X3e := X3s.trans (hb3e.mono X3s.size))))
       refine hK.out _ _ (by (first | with_reducible exact HK7.out _ X3e | with_reducible exact HK7.out _ X3s | with_reducible exact HK7.out _ X3a | with_reducible exact HK7.out _ (show Below w7.heap.size w7 w7.drew from ⟨rfl, rfl, rfl, zn, fun _ _ => rfl⟩) | exact HK7.out _ (show Below w7.heap.size w7 w7.drew from ⟨rfl, rfl, rfl, zn, fun _ _ => rfl⟩))) (fun hH33 => ?_); clear hK K; try simp only [Act.put, zX, zY, zZ]
       refine zJ 4 18 rfl ?_; refine zJ 5 23 rfl ?_; refine zJ 6 24 rfl ?_; refine zJ 7 4 rfl ?_; refine zJ 8 5 rfl ?_; refine wpAnyH_done (by kernel_rfl) ?_ _; refine NoPanic.normal ?_; clear hH30 hH31 hH32 hH33 hb3a hb3e; have HB9 := zT HB7 X3e; have HU9 := zD (show Slc w3e 2 (.slice ua 1 uc) 1 [sT [120], iV 5] from Slc.own hu); have HS9 := zD (HS7.out.below X3e); have HK9 := zD (fun W (X : Below w3e.heap.size w3e W) => HK7.out W (X3e.trans (X.mono X3e.size))); have HLK9 := zD (fun W (X : Below w3e.heap.size w3e W) => HLK7.out W (X3e.trans (X.mono X3e.size))); clear X3e X3a X3s hu; rename World => w9
       go_upto_region 5 with (fail); have HX10 := zD (zw w9 (.cells #[.string ⟨#[97]⟩, .string ⟨#[103]⟩, .string ⟨#[1, 120, 10, 0]⟩, iV 0, .int .u8 1, iV 0, .bool false, iV 0, eS] 53)); have HB10 := zD (HB9.out.alloc HB9.out.size (.cells #[.string ⟨#[97]⟩, .string ⟨#[103]⟩, .string ⟨#[1, 120, 10, 0]⟩, iV 0, .int .u8 1, iV 0, .bool false, iV 0, eS] 53)); have HS10 := zD (HS9.out.below (bl1 w9 (.cells #[.string ⟨#[97]⟩, .string ⟨#[103]⟩, .string ⟨#[1, 120, 10, 0]⟩, iV 0, .int .u8 1, iV 0, .bool false, iV 0, eS] 53))); have HU10 := zD (HU9.out.below (bl1 w9 (.cells #[.string ⟨#[97]⟩, .string ⟨#[103]⟩, .string ⟨#[1, 120, 10, 0]⟩, iV 0, .int .u8 1, iV 0, .bool false, iV 0, eS] 53))); obtain ⟨k0, k1, k2, k3⟩ := HK9.out _ (bl1 w9 (.cells #[.string ⟨#[97]⟩, .string ⟨#[103]⟩, .string ⟨#[1, 120, 10, 0]⟩, iV 0, .int .u8 1, iV 0, .bool false, iV 0, eS] 53)); have hlk := HLK9.out _ (bl1 w9 (.cells #[.string ⟨#[97]⟩, .string ⟨#[103]⟩, .string ⟨#[1, 120, 10, 0]⟩, iV 0, .int .u8 1, iV 0, .bool false, iV 0, eS] 53)); generalize w9.alloc (.cells #[.string ⟨#[97]⟩, .string ⟨#[103]⟩, .string ⟨#[1, 120, 10, 0]⟩, iV 0, .int .u8 1, iV 0, .bool false, iV 0, eS] 53) = w10 at *; have hx := HX10.out; have hl10 : w9.heap.size < w10.heap.size := (zq hx).1; have r0 := zG hx 0 rfl; have r1 := zG hx 1 rfl; have r2 := zG hx 2 rfl; have r3 := zG hx 3 rfl; have r4 := zG hx 4 rfl; have r5 := zG hx 5 rfl; have r6 := zG hx 6 rfl; have r7 := zG hx 7 rfl; have r8 := zG hx 8 rfl; clear hx; obtain ⟨bu, ou, rfl, hbu, hcu⟩ := slc_cells HU10.out (by omega); have u0 : w10.cell? ⟨bu, ou, none⟩ = some (.string ⟨#[120]⟩) := hcu 0 _ rfl; have u1 : w10.cell? ⟨bu, ou + 1, none⟩ = some (iV 5) := hcu 1 _ rfl; have hqe := fun W => acc_eql ([120], 5) ([120], 5) W
       have hqg := fun X Y W => acc_eqlg ([120], 5) ([120], 5) X Y W
       have hqe2 : ∀ W, (binOp .eql 38 (.agg #[.string ⟨#[120]⟩, iV 5]) (.agg #[.string ⟨#[120]⟩, iV 5])).run Tryz.prog W = .ok (.bool true) W := fun W => by have h := hqe W; rw [accEq_self] at h; exact h
       have hqg2 : ∀ X Y W, (eqGuard .eql 38 X Y (.agg #[.string ⟨#[120]⟩, iV 5]) (.agg #[.string ⟨#[120]⟩, iV 5])).run Tryz.prog W = .ok () W := fun X Y W => hqg X Y W
       clear hqe hqg; have HSC := zD (HSHP.out w10 HB10.out _ _ _ _ _ _ HS10.out); clear hcu; go_wp2_with fail; refine HSC.out.mono ?_; rintro e w11 ⟨rfl, hb⟩; have HB11 := zT HB10 hb; clear hb HSC; go_wp2_with fail; exact zR (v := .bool true) ⟨rfl, HB11.out⟩
      exact zh
     exact zh
    exact zh
   exact zh
  exact zh
 exact zh
end Go.Proofs.YtgoejmheihgpfaaGreatDoor
