/-
  model.Step, where there is one more entry.
-/
import Derived.Test.YtgoejmheihgpfaaGreatDoorSk
import Derived.Deep.WholeRow
import Derived.Laws.Tables
namespace Go.Proofs.YtgoejmheihgpfaaGreatDoor
section
open Go.RowKit

theorem wpList_buildS {P : Program} {ops : Array Oper} {w : World} {Q : Exit → Act → World → Prop} {a : Act} {o : Oper} {rest : List Oper} (t : TypeId) (parts : Array (Nat × Operand)) (ho : o.op = .build t parts) (hg : o.guard = none) (ps : Array (Nat × Value)) (hp : (parts.map fun (i, x) => (i, a.eval x)) = ps) (cells : Array Value) (hb : P.built t ps.toList = some cells)
    (h : wpList P ops Q rest (a.put o.dst (.agg cells)) w) : wpList P ops Q (o :: rest) a w :=
  wpList_build hg t parts ho (by rw [hp, hb]; rfl) (by rw [hp, hb]; exact h)
theorem wpList_storeNew {P : Program} {ops : Array Oper} {w : World} {Q : Exit → Act → World → Prop} {a : Act} {o : Oper} {rest : List Oper} {c : Array Value} {ty : TypeId} (x y : Operand) (ho : o.op = .store ty x y) (hg : o.guard = none) (c' : Array Value) (hx : a.eval x = .pointer (some ⟨w.heap.size, 0, none⟩)) (hy : a.eval y = .agg c')
    (hi : (P.info? ty).map (·.size) = some c'.size) (hs : c.size = c'.size) (h1 : c'.all (·.oneCell') = true) (h : wpList P ops Q rest (a.put o.dst undef) (w.alloc (.cells c' ty))) : wpList P ops Q (o :: rest) a (w.alloc (.cells c ty)) :=
  wpList_store_row hg ty x y ho w.heap.size c' hx hy ty c (heap_alloc_last w _) hi hs h1 (by rw [World.setRow_alloc_new]; exact h)

set_option maxRecDepth 100000 in
theorem built_step (s : Sch) (ra sa ga la ma lb mb : Option Addr) (rv sv gv lc mc le me : Nat) (pf pc pn pd ps pm kp nn th nw da db : Int) (L R : List Ent) (M N : List Mrk) : Tryz.prog.built 102 [(0, .agg #[.string (bT s.name), .slice ra s.records.length rv, .slice sa s.services.length sv, .slice ga s.sagas.length gv]), (1, .agg #[.int .i64 pf, .int .i64 pc, .int .i64 pn, .int .i64 pd, .int .i64 ps, .int .i64 pm]), (2, .int .i64 kp), (3, .int .i64 nn), (4, .int .i64 th), (5, .int .i64 nw), (6, .agg #[.slice la L.length lc, .slice ma M.length mc, .int .i64 da]), (7, .agg #[.slice lb R.length le, .slice mb N.length me, .int .i64 db])] = some #[.string (bT s.name), .slice ra s.records.length rv, .slice sa s.services.length sv, .slice ga s.sagas.length gv, .int .i64 pf, .int .i64 pc, .int .i64 pn, .int .i64 pd, .int .i64 ps, .int .i64 pm, .int .i64 kp, .int .i64 nn, .int .i64 th, .int .i64 nw, .slice la L.length lc, .slice ma M.length mc, .int .i64 da, .slice lb R.length le, .slice mb N.length me, .int .i64 db] := by kernel_rfl
set_option maxRecDepth 100000 in
set_option maxHeartbeats 4000000 in
theorem begin_no (w : World) (s : Sch) (ra sa ga la ma lb mb : Option Addr) (rv sv gv lc mc le me : Nat) (pf pc pn pd ps pm kp nn th nw da db : Int) (L R : List Ent) (M N : List Mrk) (hA : Slc w 6 (.slice la L.length lc) L.length (ecells L)) (hB : Slc w 6 (.slice lb R.length le) R.length (ecells R)) (hE : entsEq L R = false) :
    Calls Tryz.prog 39 #[.agg #[.string (bT s.name), .slice ra s.records.length rv, .slice sa s.services.length sv, .slice ga s.sagas.length gv, .int .i64 pf, .int .i64 pc, .int .i64 pn, .int .i64 pd, .int .i64 ps, .int .i64 pm, .int .i64 kp, .int .i64 nn, .int .i64 th, .int .i64 nw, .slice la L.length lc, .slice ma M.length mc, .int .i64 da, .slice lb R.length le, .slice mb N.length me, .int .i64 db]] w fun x w' => x = .returned (.bool false) ∧ Below w.heap.size w w' := by
  have HBw := Lib.hid (bl1 w (.cells #[.string (bT s.name), .slice ra s.records.length rv, .slice sa s.services.length sv, .slice ga s.sagas.length gv, .int .i64 pf, .int .i64 pc, .int .i64 pn, .int .i64 pd, .int .i64 ps, .int .i64 pm, .int .i64 kp, .int .i64 nn, .int .i64 th, .int .i64 nw, .slice la L.length lc, .slice ma M.length mc, .int .i64 da, .slice lb R.length le, .slice mb N.length me, .int .i64 db] 102))
  have HST := Lib.hid (still_any (w.alloc (.cells #[.string (bT s.name), .slice ra s.records.length rv, .slice sa s.services.length sv, .slice ga s.sagas.length gv, .int .i64 pf, .int .i64 pc, .int .i64 pn, .int .i64 pd, .int .i64 ps, .int .i64 pm, .int .i64 kp, .int .i64 nn, .int .i64 th, .int .i64 nw, .slice la L.length lc, .slice ma M.length mc, .int .i64 da, .slice lb R.length le, .slice mb N.length me, .int .i64 db] 102)) s ra sa ga la ma lb mb rv sv gv lc mc le me pf pc pn pd ps pm kp nn th nw da db L R M N (hA.below HBw.out) (hB.below HBw.out))
  rw [hE] at HST
  have HL := Lib.hid (load_step (W := w.alloc (.cells #[.string (bT s.name), .slice ra s.records.length rv, .slice sa s.services.length sv, .slice ga s.sagas.length gv, .int .i64 pf, .int .i64 pc, .int .i64 pn, .int .i64 pd, .int .i64 ps, .int .i64 pm, .int .i64 kp, .int .i64 nn, .int .i64 th, .int .i64 nw, .slice la L.length lc, .slice ma M.length mc, .int .i64 da, .slice lb R.length le, .slice mb N.length me, .int .i64 db] 102)) (g := w.heap.size) (cs := #[.string (bT s.name), .slice ra s.records.length rv, .slice sa s.services.length sv, .slice ga s.sagas.length gv, .int .i64 pf, .int .i64 pc, .int .i64 pn, .int .i64 pd, .int .i64 ps, .int .i64 pm, .int .i64 kp, .int .i64 nn, .int .i64 th, .int .i64 nw, .slice la L.length lc, .slice ma M.length mc, .int .i64 da, .slice lb R.length le, .slice mb N.length me, .int .i64 db]) (heap_alloc_new _ _) rfl)
  clear hA hB hE
  go_enter Tryz.func39, Tryz.ntmps39
  go_wp2_with (first | (refine wpList_loadS _ _ (by rfl) (by rfl) _ _ (by rfl) _ HL.out ?_))
  refine HST.out.mono ?_
  rintro e w2 ⟨rfl, hb⟩
  have HB2 := Lib.hid (HBw.out.trans (hb.mono HBw.out.size))
  clear hb HST HL
  go_wp2_with fail
  exact bodyPost_ret (v := .bool false) (by simp [results, Tryz.results39, go_sem]) rfl ⟨rfl, HB2.out⟩
set_option maxRecDepth 100000 in
set_option maxHeartbeats 8000000 in
theorem stepServe_any (w : World) (hK : KwIn w) (s : Sch) (ra sa ga la ma lb mb : Option Addr) (rv sv gv lc mc le me : Nat) (pf pc pn pd ps pm kp nn th nw da db : Int) (L R : List Ent) (M N : List Mrk) (hS : SchR w s (.slice ra s.records.length rv) (.slice sa s.services.length sv) (.slice ga s.sagas.length gv)) (hM : Small s) (hA : Slc w 6 (.slice la L.length lc) L.length (ecells L)) (hB : Slc w 6 (.slice lb R.length le) R.length (ecells R)) (hC : Slc w 14 (.slice ma M.length mc) M.length (mkcells M)) (hD : Slc w 14 (.slice mb N.length me) N.length (mkcells N)) (hn1 : L.length ≤ 1000) (hn2 : R.length ≤ 1000) (hn3 : M.length ≤ 1000) (hacc : ∀ e ∈ R, e.acc.length ≤ 1000000)
    (ht : (textA' s).2 = 0) (hnn : 0 ≤ nn) (hnm : nn < 4) (hE : entsEq L R = false) (hV : serveA s nw L R M N da db = true) :
    Calls Tryz.prog 13 #[.agg #[.string (bT s.name), .slice ra s.records.length rv, .slice sa s.services.length sv, .slice ga s.sagas.length gv], .agg #[.int .i64 pf, .int .i64 pc, .int .i64 pn, .int .i64 pd, .int .i64 ps, .int .i64 pm], .int .i64 kp, .int .i64 nn, .int .i64 th, .int .i64 nw, .agg #[.slice la L.length lc, .slice ma M.length mc, .int .i64 da], .agg #[.slice lb R.length le, .slice mb N.length me, .int .i64 db]] w fun x w' => x = .returned (.tuple #[.int .i64 2, .bool true]) ∧ Below w.heap.size w w' := by
  have HTX := Lib.hid (fun W (X : Below w.heap.size w W) => ptextS_any W (hK.below X) s _ _ _ (hS.below X) hM)
  have HST := Lib.hid (fun W (X : Below w.heap.size w W) => still_any W s ra sa ga la ma lb mb rv sv gv lc mc le me pf pc pn pd ps pm kp nn th nw da db L R M N (hA.below X) (hB.below X))
  rw [hE] at HST
  have HBG := Lib.hid (fun W (X : Below w.heap.size w W) => begin_no W s ra sa ga la ma lb mb rv sv gv lc mc le me pf pc pn pd ps pm kp nn th nw da db L R M N (hA.below X) (hB.below X) hE)
  have HSV := Lib.hid (fun W (X : Below w.heap.size w W) => serve_any W s ra sa ga la ma lb mb rv sv gv lc mc le me pf pc pn pd ps pm kp nn th nw da db L R M N (hS.below X) hM (hA.below X) (hB.below X) (hC.below X) (hD.below X) hn1 hn2 hn3 hacc)
  rw [hV] at HSV
  rw [ht] at HTX
  clear hK hS hM hA hB hC hD hacc ht hE hV
  go_enter Tryz.func13, Tryz.ntmps13
  go_upto_region 1 with (fail)
  generalize hwa : (((w.alloc (.cells #[.string (bT s.name), .slice ra s.records.length rv, .slice sa s.services.length sv, .slice ga s.sagas.length gv] 26)).alloc (.cells #[.int .i64 pf, .int .i64 pc, .int .i64 pn, .int .i64 pd, .int .i64 ps, .int .i64 pm] 42)).alloc (.cells #[.slice la L.length lc, .slice ma M.length mc, .int .i64 da] 45)).alloc (.cells #[.slice lb R.length le, .slice mb N.length me, .int .i64 db] 45) = wa at *
  have HBa := Lib.hid (show Below w.heap.size w wa from hwa ▸ (((bl1 w _).alloc (by simp) _).alloc (by simp; omega) _).alloc (by simp; omega) _)
  have HX0 := Lib.hid (show wa.heap[w.heap.size]? = some (.cells #[.string (bT s.name), .slice ra s.records.length rv, .slice sa s.services.length sv, .slice ga s.sagas.length gv] 26 (0, 0)) from hwa ▸ (Below.heap_alloc _ _ _ (by simp; omega)).trans (heap3 w _ _ _).1)
  have HX1 := Lib.hid (show wa.heap[w.heap.size + 1]? = some (.cells #[.int .i64 pf, .int .i64 pc, .int .i64 pn, .int .i64 pd, .int .i64 ps, .int .i64 pm] 42 (0, 0)) from hwa ▸ (Below.heap_alloc _ _ _ (by simp)).trans (heap3 w _ _ _).2.1)
  have HX2 := Lib.hid (show wa.heap[w.heap.size + 1 + 1]? = some (.cells #[.slice la L.length lc, .slice ma M.length mc, .int .i64 da] 45 (0, 0)) from hwa ▸ (Below.heap_alloc _ _ _ (by simp)).trans (heap3 w _ _ _).2.2)
  have HX3 := Lib.hid (show wa.heap[w.heap.size + 1 + 1 + 1]? = some (.cells #[.slice lb R.length le, .slice mb N.length me, .int .i64 db] 45 (0, 0)) from by
    subst hwa
    have h := heap_alloc_new ((((w.alloc (.cells #[.string (bT s.name), .slice ra s.records.length rv, .slice sa s.services.length sv, .slice ga s.sagas.length gv] 26)).alloc (.cells #[.int .i64 pf, .int .i64 pc, .int .i64 pn, .int .i64 pd, .int .i64 ps, .int .i64 pm] 42)).alloc (.cells #[.slice la L.length lc, .slice ma M.length mc, .int .i64 da] 45))) (.cells #[.slice lb R.length le, .slice mb N.length me, .int .i64 db] 45)
    rwa [show ((((w.alloc (.cells #[.string (bT s.name), .slice ra s.records.length rv, .slice sa s.services.length sv, .slice ga s.sagas.length gv] 26)).alloc (.cells #[.int .i64 pf, .int .i64 pc, .int .i64 pn, .int .i64 pd, .int .i64 ps, .int .i64 pm] 42)).alloc (.cells #[.slice la L.length lc, .slice ma M.length mc, .int .i64 da] 45))).heap.size = w.heap.size + 1 + 1 + 1 by simp] at h)
  clear hwa
  have HXX := Lib.hid (fun W (X : Below wa.heap.size wa W) => show W.heap[w.heap.size]? = some (.cells #[.string (bT s.name), .slice ra s.records.length rv, .slice sa s.services.length sv, .slice ga s.sagas.length gv] 26 (0, 0)) ∧ W.heap[w.heap.size + 1]? = some (.cells #[.int .i64 pf, .int .i64 pc, .int .i64 pn, .int .i64 pd, .int .i64 ps, .int .i64 pm] 42 (0, 0)) ∧ W.heap[w.heap.size + 1 + 1]? = some (.cells #[.slice la L.length lc, .slice ma M.length mc, .int .i64 da] 45 (0, 0)) ∧ W.heap[w.heap.size + 1 + 1 + 1]? = some (.cells #[.slice lb R.length le, .slice mb N.length me, .int .i64 db] 45 (0, 0)) from ⟨(X.block _ (Array.getElem?_eq_some_iff.1 HX0.out).1).trans HX0.out, (X.block _ (Array.getElem?_eq_some_iff.1 HX1.out).1).trans HX1.out, (X.block _ (Array.getElem?_eq_some_iff.1 HX2.out).1).trans HX2.out, (X.block _ (Array.getElem?_eq_some_iff.1 HX3.out).1).trans HX3.out⟩)
  have hx0 := HX0.out
  have a0 : wa.cell? ⟨w.heap.size, 0, none⟩ = some (.string (bT s.name)) := by simp only [World.cell?, hx0]; rfl
  have a1 : wa.cell? ⟨w.heap.size, 1, none⟩ = some (.slice ra s.records.length rv) := by simp only [World.cell?, hx0]; rfl
  have a2 : wa.cell? ⟨w.heap.size, 2, none⟩ = some (.slice sa s.services.length sv) := by simp only [World.cell?, hx0]; rfl
  have a3 : wa.cell? ⟨w.heap.size, 3, none⟩ = some (.slice ga s.sagas.length gv) := by simp only [World.cell?, hx0]; rfl
  have hla : w.heap.size < wa.heap.size := (Array.getElem?_eq_some_iff.1 hx0).1
  have HTC := Lib.hid (HTX.out wa HBa.out)
  have d1 : decide (nn < 0) = false := decide_eq_false (by omega)
  have d2 : decide (4 ≤ nn) = false := decide_eq_false (by omega)
  clear hx0 HX0 HX1 HX2 HX3
  go_wp2_with fail
  refine HTC.out.mono ?_
  rintro e w2 ⟨rfl, hb⟩
  have HB2 := Lib.hid (HBa.out.trans (hb.mono HBa.out.size))
  obtain ⟨hx0, hx1, hx2, hx3⟩ := HXX.out w2 hb
  have hl2 := hb.size
  clear hb HTC a0 a1 a2 a3
  have b00 : w2.cell? ⟨w.heap.size, 0, none⟩ = some (.string (bT s.name)) := by simp only [World.cell?, hx0]; rfl
  have b01 : w2.cell? ⟨w.heap.size, 1, none⟩ = some (.slice ra s.records.length rv) := by simp only [World.cell?, hx0]; rfl
  have b02 : w2.cell? ⟨w.heap.size, 2, none⟩ = some (.slice sa s.services.length sv) := by simp only [World.cell?, hx0]; rfl
  have b03 : w2.cell? ⟨w.heap.size, 3, none⟩ = some (.slice ga s.sagas.length gv) := by simp only [World.cell?, hx0]; rfl
  have b10 : w2.cell? ⟨w.heap.size + 1, 0, none⟩ = some (.int .i64 pf) := by simp only [World.cell?, hx1]; rfl
  have b11 : w2.cell? ⟨w.heap.size + 1, 1, none⟩ = some (.int .i64 pc) := by simp only [World.cell?, hx1]; rfl
  have b12 : w2.cell? ⟨w.heap.size + 1, 2, none⟩ = some (.int .i64 pn) := by simp only [World.cell?, hx1]; rfl
  have b13 : w2.cell? ⟨w.heap.size + 1, 3, none⟩ = some (.int .i64 pd) := by simp only [World.cell?, hx1]; rfl
  have b14 : w2.cell? ⟨w.heap.size + 1, 4, none⟩ = some (.int .i64 ps) := by simp only [World.cell?, hx1]; rfl
  have b15 : w2.cell? ⟨w.heap.size + 1, 5, none⟩ = some (.int .i64 pm) := by simp only [World.cell?, hx1]; rfl
  have b20 : w2.cell? ⟨w.heap.size + 1 + 1, 0, none⟩ = some (.slice la L.length lc) := by simp only [World.cell?, hx2]; rfl
  have b21 : w2.cell? ⟨w.heap.size + 1 + 1, 1, none⟩ = some (.slice ma M.length mc) := by simp only [World.cell?, hx2]; rfl
  have b22 : w2.cell? ⟨w.heap.size + 1 + 1, 2, none⟩ = some (.int .i64 da) := by simp only [World.cell?, hx2]; rfl
  have b30 : w2.cell? ⟨w.heap.size + 1 + 1 + 1, 0, none⟩ = some (.slice lb R.length le) := by simp only [World.cell?, hx3]; rfl
  have b31 : w2.cell? ⟨w.heap.size + 1 + 1 + 1, 1, none⟩ = some (.slice mb N.length me) := by simp only [World.cell?, hx3]; rfl
  have b32 : w2.cell? ⟨w.heap.size + 1 + 1 + 1, 2, none⟩ = some (.int .i64 db) := by simp only [World.cell?, hx3]; rfl
  have hl3 : w.heap.size + 1 + 1 + 1 < w2.heap.size := (Array.getElem?_eq_some_iff.1 hx3).1
  clear hx0 hx1 hx2 hx3
  have HBU := Lib.hid (built_step s ra sa ga la ma lb mb rv sv gv lc mc le me pf pc pn pd ps pm kp nn th nw da db L R M N)
  go_upto_region 5 with (first | (refine wpList_buildS 102 _ (by rfl) (by rfl) #[(0, .agg #[.string (bT s.name), .slice ra s.records.length rv, .slice sa s.services.length sv, .slice ga s.sagas.length gv]), (1, .agg #[.int .i64 pf, .int .i64 pc, .int .i64 pn, .int .i64 pd, .int .i64 ps, .int .i64 pm]), (2, .int .i64 kp), (3, .int .i64 nn), (4, .int .i64 th), (5, .int .i64 nw), (6, .agg #[.slice la L.length lc, .slice ma M.length mc, .int .i64 da]), (7, .agg #[.slice lb R.length le, .slice mb N.length me, .int .i64 db])] (by kernel_rfl) #[.string (bT s.name), .slice ra s.records.length rv, .slice sa s.services.length sv, .slice ga s.sagas.length gv, .int .i64 pf, .int .i64 pc, .int .i64 pn, .int .i64 pd, .int .i64 ps, .int .i64 pm, .int .i64 kp, .int .i64 nn, .int .i64 th, .int .i64 nw, .slice la L.length lc, .slice ma M.length mc, .int .i64 da, .slice lb R.length le, .slice mb N.length me, .int .i64 db] HBU.out ?_) | (refine wpList_storeNew (ty := 102) _ _ (by rfl) (by rfl) #[.string (bT s.name), .slice ra s.records.length rv, .slice sa s.services.length sv, .slice ga s.sagas.length gv, .int .i64 pf, .int .i64 pc, .int .i64 pn, .int .i64 pd, .int .i64 ps, .int .i64 pm, .int .i64 kp, .int .i64 nn, .int .i64 th, .int .i64 nw, .slice la L.length lc, .slice ma M.length mc, .int .i64 da, .slice lb R.length le, .slice mb N.length me, .int .i64 db] (by rfl) (by rfl) info_step (by kernel_rfl) (by kernel_rfl) ?_))
  have HX5 := Lib.hid (heap_alloc_new w2 (.cells #[.string (bT s.name), .slice ra s.records.length rv, .slice sa s.services.length sv, .slice ga s.sagas.length gv, .int .i64 pf, .int .i64 pc, .int .i64 pn, .int .i64 pd, .int .i64 ps, .int .i64 pm, .int .i64 kp, .int .i64 nn, .int .i64 th, .int .i64 nw, .slice la L.length lc, .slice ma M.length mc, .int .i64 da, .slice lb R.length le, .slice mb N.length me, .int .i64 db] 102))
  have HB5 := Lib.hid (HB2.out.alloc HB2.out.size (.cells #[.string (bT s.name), .slice ra s.records.length rv, .slice sa s.services.length sv, .slice ga s.sagas.length gv, .int .i64 pf, .int .i64 pc, .int .i64 pn, .int .i64 pd, .int .i64 ps, .int .i64 pm, .int .i64 kp, .int .i64 nn, .int .i64 th, .int .i64 nw, .slice la L.length lc, .slice ma M.length mc, .int .i64 da, .slice lb R.length le, .slice mb N.length me, .int .i64 db] 102))
  have HD5 := Lib.hid (bl1 w2 (.cells #[.string (bT s.name), .slice ra s.records.length rv, .slice sa s.services.length sv, .slice ga s.sagas.length gv, .int .i64 pf, .int .i64 pc, .int .i64 pn, .int .i64 pd, .int .i64 ps, .int .i64 pm, .int .i64 kp, .int .i64 nn, .int .i64 th, .int .i64 nw, .slice la L.length lc, .slice ma M.length mc, .int .i64 da, .slice lb R.length le, .slice mb N.length me, .int .i64 db] 102))
  generalize w2.alloc (.cells #[.string (bT s.name), .slice ra s.records.length rv, .slice sa s.services.length sv, .slice ga s.sagas.length gv, .int .i64 pf, .int .i64 pc, .int .i64 pn, .int .i64 pd, .int .i64 ps, .int .i64 pm, .int .i64 kp, .int .i64 nn, .int .i64 th, .int .i64 nw, .slice la L.length lc, .slice ma M.length mc, .int .i64 da, .slice lb R.length le, .slice mb N.length me, .int .i64 db] 102) = w5 at *
  clear b00 b01 b02 b03 b10 b11 b12 b13 b14 b15 b20 b21 b22 b30 b31 b32
  have HL := Lib.hid (load_step HX5.out rfl)
  have hl5 : w2.heap.size < w5.heap.size := (Array.getElem?_eq_some_iff.1 HX5.out).1
  have HSC := Lib.hid (HST.out w5 HB5.out)
  go_wp2_with (first | (refine wpList_loadS _ _ (by rfl) (by rfl) _ _ (by rfl) _ HL.out ?_))
  refine HSC.out.mono ?_
  rintro e w6 ⟨rfl, hb⟩
  have HB6 := Lib.hid (HB5.out.trans (hb.mono HB5.out.size))
  have HX6 := Lib.hid ((hb.block _ hl5).trans HX5.out)
  have hl6 : w2.heap.size < w6.heap.size := (Array.getElem?_eq_some_iff.1 HX6.out).1
  clear hb HSC HL
  have HL := Lib.hid (load_step HX6.out rfl)
  have HBC := Lib.hid (HBG.out w6 HB6.out)
  go_wp2_with (first | (refine wpList_loadS _ _ (by rfl) (by rfl) _ _ (by rfl) _ HL.out ?_))
  refine HBC.out.mono ?_
  rintro e w7 ⟨rfl, hb⟩
  have HB7 := Lib.hid (HB6.out.trans (hb.mono HB6.out.size))
  have HX7 := Lib.hid ((hb.block _ hl6).trans HX6.out)
  have hl7 : w2.heap.size < w7.heap.size := (Array.getElem?_eq_some_iff.1 HX7.out).1
  clear hb HBC HL
  have HL := Lib.hid (load_step HX7.out rfl)
  have HVC := Lib.hid (HSV.out w7 HB7.out)
  go_wp2_with (first | (refine wpList_loadS _ _ (by rfl) (by rfl) _ _ (by rfl) _ HL.out ?_))
  refine HVC.out.mono ?_
  rintro e w8 ⟨rfl, hb⟩
  have HB8 := Lib.hid (HB7.out.trans (hb.mono HB7.out.size))
  clear hb HVC HL
  go_wp2_with fail
  exact bodyPost_ret (v := .tuple #[.int .i64 2, .bool true]) (by simp [results, Tryz.results13, go_sem]) rfl ⟨rfl, HB8.out⟩
end

section
open Go.RowKit

set_option maxRecDepth 100000 in
set_option maxHeartbeats 4000000 in
theorem shape0_any (w : World) (hK : KwIn w) (s : Sch) (ra sa ga : Option Addr) (rv sv gv : Nat) (hS : SchR w s (.slice ra s.records.length rv) (.slice sa s.services.length sv) (.slice ga s.sagas.length gv)) (hM : Small s) (r : Run) (hR : RunSmall r) (hr : rightR s r = true) (h1 : r.ph = 1) (h0 : r.at_ = 0) :
    Calls Tryz.prog 16 #[.agg #[.string (bT s.name), .slice ra s.records.length rv, .slice sa s.services.length sv, .slice ga s.sagas.length gv], .agg #[.string (bT r.id), .string (bT r.sg), .string (bT r.arg), .int .i64 r.at_, .int .u8 (r.ph : Nat), .int .i64 r.tr, .bool r.st, .int .i64 r.wh, .string (bT r.vl)], .slice none 0 0] w fun x w' => x = .returned (.bool true) ∧ Below w.heap.size w w' := by
  have HRI := Lib.hid (fun W (X : Below w.heap.size w W) => sright_any W (hK.below X) s _ _ _ (hS.below X) hM r hR)
  have HSG := Lib.hid (fun W (X : Below w.heap.size w W) => saga_any W s _ _ _ (hS.below X) hM r.sg)
  rw [hr] at HRI
  unfold runC at HRI
  have H0 := Lib.hid h0
  have H1 := Lib.hid h1
  clear hK hS hM hR hr h0 h1
  go_enter Tryz.func16, Tryz.ntmps16
  go_upto_region 1 with (fail)
  generalize hwa : (w.alloc (.cells #[.string (bT s.name), .slice ra s.records.length rv, .slice sa s.services.length sv, .slice ga s.sagas.length gv] 26)).alloc (.cells #[.string (bT r.id), .string (bT r.sg), .string (bT r.arg), .int .i64 r.at_, .int .u8 (r.ph : Nat), .int .i64 r.tr, .bool r.st, .int .i64 r.wh, .string (bT r.vl)] 53) = wa at *
  have HBa := Lib.hid (show Below w.heap.size w wa from hwa ▸ (bl1 w _).alloc (by simp) _)
  have HX0 := Lib.hid (show wa.heap[w.heap.size]? = some (.cells #[.string (bT s.name), .slice ra s.records.length rv, .slice sa s.services.length sv, .slice ga s.sagas.length gv] 26 (0, 0)) from hwa ▸ (Below.heap_alloc _ _ _ (by simp)).trans (heap_alloc_new _ _))
  have HX1 := Lib.hid (show wa.heap[w.heap.size + 1]? = some (.cells #[.string (bT r.id), .string (bT r.sg), .string (bT r.arg), .int .i64 r.at_, .int .u8 (r.ph : Nat), .int .i64 r.tr, .bool r.st, .int .i64 r.wh, .string (bT r.vl)] 53 (0, 0)) from hwa ▸ heap_alloc_new2 _ _ _)
  clear hwa
  have HXX := Lib.hid (fun W (X : Below wa.heap.size wa W) => show W.heap[w.heap.size]? = some (.cells #[.string (bT s.name), .slice ra s.records.length rv, .slice sa s.services.length sv, .slice ga s.sagas.length gv] 26 (0, 0)) ∧ W.heap[w.heap.size + 1]? = some (.cells #[.string (bT r.id), .string (bT r.sg), .string (bT r.arg), .int .i64 r.at_, .int .u8 (r.ph : Nat), .int .i64 r.tr, .bool r.st, .int .i64 r.wh, .string (bT r.vl)] 53 (0, 0)) from ⟨(X.block _ (Array.getElem?_eq_some_iff.1 HX0.out).1).trans HX0.out, (X.block _ (Array.getElem?_eq_some_iff.1 HX1.out).1).trans HX1.out⟩)
  obtain ⟨hx0, hx1⟩ := HXX.out wa (Below.refl _ _)
  have a00 : wa.cell? ⟨w.heap.size, 0, none⟩ = some (.string (bT s.name)) := by simp only [World.cell?, hx0]; rfl
  have a01 : wa.cell? ⟨w.heap.size, 1, none⟩ = some (.slice ra s.records.length rv) := by simp only [World.cell?, hx0]; rfl
  have a02 : wa.cell? ⟨w.heap.size, 2, none⟩ = some (.slice sa s.services.length sv) := by simp only [World.cell?, hx0]; rfl
  have a03 : wa.cell? ⟨w.heap.size, 3, none⟩ = some (.slice ga s.sagas.length gv) := by simp only [World.cell?, hx0]; rfl
  have a10 : wa.cell? ⟨w.heap.size + 1, 0, none⟩ = some (.string (bT r.id)) := by simp only [World.cell?, hx1]; rfl
  have a11 : wa.cell? ⟨w.heap.size + 1, 1, none⟩ = some (.string (bT r.sg)) := by simp only [World.cell?, hx1]; rfl
  have a12 : wa.cell? ⟨w.heap.size + 1, 2, none⟩ = some (.string (bT r.arg)) := by simp only [World.cell?, hx1]; rfl
  have a13 : wa.cell? ⟨w.heap.size + 1, 3, none⟩ = some (.int .i64 r.at_) := by simp only [World.cell?, hx1]; rfl
  have a14 : wa.cell? ⟨w.heap.size + 1, 4, none⟩ = some (.int .u8 (r.ph : Nat)) := by simp only [World.cell?, hx1]; rfl
  have a15 : wa.cell? ⟨w.heap.size + 1, 5, none⟩ = some (.int .i64 r.tr) := by simp only [World.cell?, hx1]; rfl
  have a16 : wa.cell? ⟨w.heap.size + 1, 6, none⟩ = some (.bool r.st) := by simp only [World.cell?, hx1]; rfl
  have a17 : wa.cell? ⟨w.heap.size + 1, 7, none⟩ = some (.int .i64 r.wh) := by simp only [World.cell?, hx1]; rfl
  have a18 : wa.cell? ⟨w.heap.size + 1, 8, none⟩ = some (.string (bT r.vl)) := by simp only [World.cell?, hx1]; rfl
  have hla : w.heap.size + 1 < wa.heap.size := (Array.getElem?_eq_some_iff.1 hx1).1
  clear hx0 hx1
  have HRC := Lib.hid (HRI.out wa HBa.out)
  go_wp2_with fail
  refine HRC.out.mono ?_
  rintro e w2 ⟨rfl, hb⟩
  have HB2 := Lib.hid (HBa.out.trans (hb.mono HBa.out.size))
  have HD2 := Lib.hid hb
  clear hb HRC a00 a01 a02 a03 a10 a11 a12 a13 a14 a15 a16 a17 a18
  obtain ⟨hx0, hx1⟩ := HXX.out w2 HD2.out
  have b00 : w2.cell? ⟨w.heap.size, 0, none⟩ = some (.string (bT s.name)) := by simp only [World.cell?, hx0]; rfl
  have b01 : w2.cell? ⟨w.heap.size, 1, none⟩ = some (.slice ra s.records.length rv) := by simp only [World.cell?, hx0]; rfl
  have b02 : w2.cell? ⟨w.heap.size, 2, none⟩ = some (.slice sa s.services.length sv) := by simp only [World.cell?, hx0]; rfl
  have b03 : w2.cell? ⟨w.heap.size, 3, none⟩ = some (.slice ga s.sagas.length gv) := by simp only [World.cell?, hx0]; rfl
  have b10 : w2.cell? ⟨w.heap.size + 1, 0, none⟩ = some (.string (bT r.id)) := by simp only [World.cell?, hx1]; rfl
  have b11 : w2.cell? ⟨w.heap.size + 1, 1, none⟩ = some (.string (bT r.sg)) := by simp only [World.cell?, hx1]; rfl
  have b12 : w2.cell? ⟨w.heap.size + 1, 2, none⟩ = some (.string (bT r.arg)) := by simp only [World.cell?, hx1]; rfl
  have b13 : w2.cell? ⟨w.heap.size + 1, 3, none⟩ = some (.int .i64 r.at_) := by simp only [World.cell?, hx1]; rfl
  have b14 : w2.cell? ⟨w.heap.size + 1, 4, none⟩ = some (.int .u8 (r.ph : Nat)) := by simp only [World.cell?, hx1]; rfl
  have b15 : w2.cell? ⟨w.heap.size + 1, 5, none⟩ = some (.int .i64 r.tr) := by simp only [World.cell?, hx1]; rfl
  have b16 : w2.cell? ⟨w.heap.size + 1, 6, none⟩ = some (.bool r.st) := by simp only [World.cell?, hx1]; rfl
  have b17 : w2.cell? ⟨w.heap.size + 1, 7, none⟩ = some (.int .i64 r.wh) := by simp only [World.cell?, hx1]; rfl
  have b18 : w2.cell? ⟨w.heap.size + 1, 8, none⟩ = some (.string (bT r.vl)) := by simp only [World.cell?, hx1]; rfl
  have hlb : w.heap.size + 1 < w2.heap.size := (Array.getElem?_eq_some_iff.1 hx1).1
  clear hx0 hx1
  have HSC := Lib.hid (HSG.out w2 HB2.out)
  go_wp2_with fail
  refine HSC.out.mono ?_
  rintro e w3 ⟨u, rfl, hu, hb⟩
  obtain ⟨ua, uc, rfl⟩ := own_slice hu
  have HB3 := Lib.hid (HB2.out.trans (hb.mono HB2.out.size))
  have HD3 := Lib.hid (HD2.out.trans (hb.mono HD2.out.size))
  clear hb hu HSC b00 b01 b02 b03 b10 b11 b12 b13 b14 b15 b16 b17 b18
  go_upto_region 4 with (fail)
  have HB4 := Lib.hid (HB3.out.alloc HB3.out.size (.cells #[.string (bT (sOr (sagOf s.sagas r.sg)).name), .string (bT (sOr (sagOf s.sagas r.sg)).arg), .slice ua (sOr (sagOf s.sagas r.sg)).steps.length uc] 67))
  have HD4 := Lib.hid (HD3.out.alloc HD3.out.size (.cells #[.string (bT (sOr (sagOf s.sagas r.sg)).name), .string (bT (sOr (sagOf s.sagas r.sg)).arg), .slice ua (sOr (sagOf s.sagas r.sg)).steps.length uc] 67))
  generalize w3.alloc (.cells #[.string (bT (sOr (sagOf s.sagas r.sg)).name), .string (bT (sOr (sagOf s.sagas r.sg)).arg), .slice ua (sOr (sagOf s.sagas r.sg)).steps.length uc] 67) = w4 at *
  obtain ⟨-, hx1⟩ := HXX.out w4 HD4.out
  have c3 : w4.cell? ⟨w.heap.size + 1, 3, none⟩ = some (.int .i64 0) := by simp only [World.cell?, hx1]; rw [H0.out]; rfl
  have c4 : w4.cell? ⟨w.heap.size + 1, 4, none⟩ = some (.int .u8 1) := by simp only [World.cell?, hx1]; rw [H1.out]; rfl
  have hl4 : w.heap.size + 1 < w4.heap.size := (Array.getElem?_eq_some_iff.1 hx1).1
  clear hx1
  go_wp2_with fail
  go_loopw [9, 10, 35] (fun vk vl vi wr => vk = .int .i64 0 ∧ vl = .int .i64 (-1) ∧ vi = .int .i64 0 ∧ wr = w4) (fun _ _ _ _ => 0)
  case atStart => exact ⟨rfl, rfl, rfl, rfl⟩
  case round =>
    obtain ⟨rfl, rfl, rfl, rfl⟩ := hrel
    go_wp2_with fail
    exact bodyPost_ret (v := .bool true) (by simp [results, Tryz.results16, go_sem]) rfl ⟨rfl, HB4.out⟩
end
end Go.Proofs.YtgoejmheihgpfaaGreatDoor
