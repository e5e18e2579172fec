/- Lemmas for ModelStays' proof. -/
import Derived.Test.YtgoejmheihgpfaaGreatDoorSe
import Derived.Test.YtgoejmheihgpfaaGreatDoorRu
import Derived.Deep.MidRow
namespace Go.Proofs.YtgoejmheihgpfaaGreatDoor
set_option maxRecDepth 100000
set_option maxHeartbeats 16000000
open Go.RowKit
def entEq (x y : Ent) : Bool := decide (x.stamp = y.stamp) && decide (x.key = y.key) && decide (x.sv = y.sv) && decide (x.mt = y.mt) && decide (x.acc = y.acc) && decide (x.am = y.am)
theorem entEq_iff (x y : Ent) : entEq x y = true ↔ x = y := by
 unfold entEq
 simp only [Bool.and_eq_true, decide_eq_true_eq]
 refine ⟨fun ⟨⟨⟨⟨⟨h1, h2⟩, h3⟩, h4⟩, h5⟩, h6⟩ => ?_, fun h => by subst h; simp⟩
 cases x; cases y
 simp_all
def entsEq : List Ent → List Ent → Bool
 | [], [] => true
 | x :: a, y :: b => entEq x y && entsEq a b
 | _, _ => false
theorem entsEq_iff : ∀ (a b : List Ent), entsEq a b = true ↔ a = b
 | [], [] => by simp [entsEq]
 | [], _ :: _ => by simp [entsEq]
 | _ :: _, [] => by simp [entsEq]
 | x :: a, y :: b => by simp only [entsEq, Bool.and_eq_true, entEq_iff, entsEq_iff a b, List.cons.injEq]
theorem entsEq_len {a b : List Ent} (h : a.length ≠ b.length) : entsEq a b = false := by
 cases hc : entsEq a b with
 | false => rfl
 | true => exact absurd (by rw [(entsEq_iff a b).1 hc]) h
theorem entsEq_next {a b : List Ent} {k : Nat} (h1 : k < a.length) (h2 : k < b.length) : entsEq (a.drop k) (b.drop k) = (entEq a[k] b[k] && entsEq (a.drop (k + 1)) (b.drop (k + 1))) := by
 rw [List.drop_eq_getElem_cons h1, List.drop_eq_getElem_cons h2]
 rfl
theorem entsEq_end {a b : List Ent} {k : Nat} (h1 : ¬ k < a.length) (h2 : a.length = b.length) : entsEq (a.drop k) (b.drop k) = true := by
 rw [List.drop_of_length_le (by omega), List.drop_of_length_le (by omega)]
 rfl
theorem guard_ent : Tryz.prog.eqGuardType Tryz.prog.depth 71 = false := by kernel_rfl
theorem held_ent : Tryz.prog.stoodInHeld 71 = false := by kernel_rfl
theorem und_ent : Tryz.prog.underlying 71 = some (.struct (Tryz.prog.fieldsOf 71)) := by kernel_rfl
theorem ent_neq (x y : Ent) (W : World) : (binOp .neq 71 (.agg (entC x)) (.agg (entC y))).run Tryz.prog W = .ok (.bool (!(entEq x y))) W := by
 unfold entC
 rw [run_neq_struct, run_equalIn_agg W 9999 _ _ _ und_ent held_ent]
 simp [go_sem]
 unfold entEq
 simp only [bT_list]
 by_cases h1 : x.stamp = y.stamp
 case neg => simp [h1]
 by_cases h2 : x.key = y.key
 case neg => simp [h2]
 by_cases h3 : x.sv = y.sv
 case neg => simp [h3]
 by_cases h4 : x.mt = y.mt
 case neg => simp [h4]
 by_cases h5 : x.acc = y.acc
 case neg => simp [h5]
 by_cases h6 : x.am = y.am
 case neg => simp [h6]
 simp [h1, h2, h3, h4, h5, h6]
theorem ent_guard (x y : Ent) (X Y : Operand) (W : World) : (eqGuard .neq 71 X Y (.agg (entC x)) (.agg (entC y))).run Tryz.prog W = .ok () W := run_eqGuard_agg W _ _ _ _ _ _ guard_ent
theorem equalE_any (w : World) (va vb : Value) (L R : List Ent) (hA : Slc w 6 va L.length (ecells L)) (hB : Slc w 6 vb R.length (ecells R)) :
  Calls Tryz.prog 66 #[va, vb] w fun x w' => x = .returned (.bool (entsEq L R)) ∧ Below w.heap.size w w' := by
 obtain ⟨la, lc, rfl⟩ := hA.shape
 obtain ⟨ra, rc, rfl⟩ := hB.shape
 have HA := zD hA
 have HB := zD hB
 have hn1 := hA.bd
 have hn2 := hB.bd
 clear hA hB
 go_enter Tryz.func66, Tryz.ntmps66
 by_cases hl : L.length = R.length
 ·have d1 : ((L.length : Int) == (R.length : Int)) = true := by rw [beq_iff_eq]; omega
  have d2 : ((L.length : Int) != (R.length : Int)) = false := by rw [bne_eq_false_iff_eq]; omega
  have HL := zD hl; have HE := zD (show entsEq L R = entsEq (L.drop 0) (R.drop 0) from rfl); generalize entsEq L R = E at *; clear hl; go_wp2_with fail; go_loopw [13] (fun vi wr => ∃ k : Nat, k ≤ L.length ∧ vi = .int .i64 (k : Nat) ∧ Hid (Below w.heap.size w wr) ∧ Hid (E = entsEq (L.drop k) (R.drop k))) (fun vi _ => L.length - (intOf vi).toNat)
  case atStart => exact ⟨0, by omega, rfl, zD zl, HE⟩
  case round =>
   clear HE; rename World => wr
   obtain ⟨k, hk, rfl, HBr, HE⟩ := hrel; by_cases hlt : k < L.length
   ·have hlt2 : k < R.length := by rw [← HL.out]; exact hlt
    obtain ⟨b1, o1, rfl, hb1, p0, p1, p2, p3, p4, p5⟩ := ent_at (HA.out.below HBr.out) hlt; obtain ⟨b2, o2, rfl, hb2, q0, q1, q2, q3, q4, q5⟩ := ent_at (HB.out.below HBr.out) hlt2; have HN := zD (HE.out.trans (entsEq_next hlt hlt2)); generalize L[k] = x at *; generalize R[k] = y at *; have hne := fun W => ent_neq x y W
    have hgd := fun X Y W => ent_guard x y X Y W
    unfold entC at hne hgd; generalize entEq x y = q at *; have HBn := zD (fun n => show Below w.heap.size w (wr.drewN n) from ⟨HBr.out.os, HBr.out.tape, HBr.out.output, HBr.out.size, HBr.out.block⟩); cases q with
    | true =>
     have HN2 := zD (HN.out.trans (Bool.true_and _)); clear HN HE; go_wp2_with fail; go_quiet (fail); have HB4 := zD (HBn.out nq); go_wp2_with fail; exact ⟨⟨k + 1, by omega, by go_num, HB4, HN2⟩, by simp [intOf]; omega⟩
    | false =>
     have HN2 := zD (HN.out.trans (Bool.false_and _)); clear HN HE; go_wp2_with fail; go_quiet (fail); have HB4 := zD (HBn.out nq); go_wp2_with fail; exact zR (v := .bool false) ⟨by rw [HN2.out], HB4.out⟩
   ·have HN := zD (HE.out.trans (entsEq_end hlt HL.out))
    go_wp2_with fail; exact zR (v := .bool true) ⟨by rw [HN.out], HBr.out⟩
 ·have d1 : ((L.length : Int) == (R.length : Int)) = false := by rw [zb]; omega
  have d2 : ((L.length : Int) != (R.length : Int)) = true := by rw [bne_iff_ne]; omega
  have HE := zD (entsEq_len hl); go_wp2_with fail; exact zR (v := .bool false) ⟨by rw [HE.out], zl⟩
structure Opr where
 st : Int
 code : Int
 vl : Tx
 due : Int
structure Mrk where
 run : Run
 op : Opr
 gone : Bool
def oprC (x : Opr) : Array Value := #[.int .i64 x.st, .int .i64 x.code, .string (bT x.vl), .int .i64 x.due]
def mrkC (x : Mrk) : Array Value := #[.string (bT x.run.id), .string (bT x.run.sg), .string (bT x.run.arg), .int .i64 x.run.at_, .int .u8 (x.run.ph : Nat), .int .i64 x.run.tr, .bool x.run.st, .int .i64 x.run.wh, .string (bT x.run.vl), .int .i64 x.op.st, .int .i64 x.op.code, .string (bT x.op.vl), .int .i64 x.op.due, .bool x.gone]
def runEq (x y : Run) : Bool := decide (x.id = y.id) && decide (x.sg = y.sg) && decide (x.arg = y.arg) && decide (x.at_ = y.at_) && decide (x.ph = y.ph) && decide (x.tr = y.tr) && (x.st == y.st) && decide (x.wh = y.wh) && decide (x.vl = y.vl)
def oprEq (x y : Opr) : Bool := decide (x.st = y.st) && decide (x.code = y.code) && decide (x.vl = y.vl) && decide (x.due = y.due)
def mrkEq (x y : Mrk) : Bool := runEq x.run y.run && oprEq x.op y.op && (x.gone == y.gone)
theorem runEq_iff (x y : Run) : runEq x y = true ↔ x = y := by
 unfold runEq
 simp only [Bool.and_eq_true, decide_eq_true_eq, beq_iff_eq]
 refine ⟨fun h => ?_, fun h => by subst h; simp⟩
 cases x; cases y
 simp_all
theorem oprEq_iff (x y : Opr) : oprEq x y = true ↔ x = y := by
 unfold oprEq
 simp only [Bool.and_eq_true, decide_eq_true_eq]
 refine ⟨fun h => ?_, fun h => by subst h; simp⟩
 cases x; cases y
 simp_all
theorem mrkEq_iff (x y : Mrk) : mrkEq x y = true ↔ x = y := by
 unfold mrkEq
 simp only [Bool.and_eq_true, beq_iff_eq, runEq_iff, oprEq_iff]
 refine ⟨fun h => ?_, fun h => by subst h; simp⟩
 cases x; cases y
 simp_all
def opr0 : Opr := ⟨0, 0, [], 0⟩
theorem guard_run : Tryz.prog.eqGuardType Tryz.prog.depth 53 = false := by kernel_rfl
theorem held_run : Tryz.prog.stoodInHeld 53 = false := by kernel_rfl
theorem und_run : Tryz.prog.underlying 53 = some (.struct (Tryz.prog.fieldsOf 53)) := by kernel_rfl
theorem guard_opr : Tryz.prog.eqGuardType Tryz.prog.depth 55 = false := by kernel_rfl
theorem held_opr : Tryz.prog.stoodInHeld 55 = false := by kernel_rfl
theorem und_opr : Tryz.prog.underlying 55 = some (.struct (Tryz.prog.fieldsOf 55)) := by kernel_rfl
theorem guard_mrk : Tryz.prog.eqGuardType Tryz.prog.depth 57 = false := by kernel_rfl
theorem held_mrk : Tryz.prog.stoodInHeld 57 = false := by kernel_rfl
theorem und_mrk : Tryz.prog.underlying 57 = some (.struct (Tryz.prog.fieldsOf 57)) := by kernel_rfl
theorem run_eqIn (d : Nat) (x y : Run) (W : World) : (Op.equalIn (d + 3) 53 (.agg (runC x)) (.agg (runC y))).run Tryz.prog W = .ok (runEq x y) W := by
 unfold runC
 rw [run_equalIn_agg W (d + 2) _ _ _ und_run held_run]
 simp [go_sem]
 unfold runEq
 simp only [bT_list]
 by_cases h1 : x.id = y.id
 case neg => simp [h1]
 by_cases h2 : x.sg = y.sg
 case neg => simp [h2]
 by_cases h3 : x.arg = y.arg
 case neg => simp [h3]
 by_cases h4 : x.at_ = y.at_
 case neg => simp [h4]
 by_cases h5 : x.ph = y.ph
 case neg =>
    have h5' : ¬ (x.ph : Int) = (y.ph : Int) := by omega
    simp [h5, h5']
 by_cases h6 : x.tr = y.tr
 case neg => simp [h6]
 by_cases h7 : x.st = y.st
 case neg => simp [h7]
 by_cases h8 : x.wh = y.wh
 case neg => simp [h8]
 by_cases h9 : x.vl = y.vl
 case neg => simp [h9]
 simp [h1, h2, h3, h4, h5, h6, h7, h8, h9]
theorem opr_eqIn (d : Nat) (x y : Opr) (W : World) : (Op.equalIn (d + 3) 55 (.agg (oprC x)) (.agg (oprC y))).run Tryz.prog W = .ok (oprEq x y) W := by
 unfold oprC
 rw [run_equalIn_agg W (d + 2) _ _ _ und_opr held_opr]
 simp [go_sem]
 unfold oprEq
 simp only [bT_list]
 by_cases h1 : x.st = y.st
 case neg => simp [h1]
 by_cases h2 : x.code = y.code
 case neg => simp [h2]
 by_cases h3 : x.vl = y.vl
 case neg => simp [h3]
 by_cases h4 : x.due = y.due
 case neg => simp [h4]
 simp [h1, h2, h3, h4]
theorem mrk_eqIn (x y : Mrk) (W : World) : (Op.equalIn 10000 57 (.agg (mrkC x)) (.agg (mrkC y))).run Tryz.prog W = .ok (mrkEq x y) W := by
 have hr := fun W => run_eqIn 9996 x.run y.run W
 have ho := fun W => opr_eqIn 9996 x.op y.op W
 unfold runC at hr
 unfold oprC at ho
 unfold mrkC
 rw [run_equalIn_agg W 9999 _ _ _ und_mrk held_mrk]
 simp [go_sem, hr, ho]
 unfold mrkEq
 cases runEq x.run y.run <;> cases oprEq x.op y.op <;> cases x.gone <;> cases y.gone <;> simp
theorem mrk_eql (x y : Mrk) (W : World) : (binOp .eql 57 (.agg (mrkC x)) (.agg (mrkC y))).run Tryz.prog W = .ok (.bool ((mrkEq x y))) W := by
 rw [run_eql_struct, mrk_eqIn]
 rfl
theorem mrk_eqlg (x y : Mrk) (X Y : Operand) (W : World) : (eqGuard .eql 57 X Y (.agg (mrkC x)) (.agg (mrkC y))).run Tryz.prog W = .ok () W := run_eqGuard_agg W _ _ _ _ _ _ guard_mrk
theorem run_eql (x y : Run) (W : World) : (binOp .eql 53 (.agg (runC x)) (.agg (runC y))).run Tryz.prog W = .ok (.bool ((runEq x y))) W := by
 rw [run_eql_struct, run_eqIn 9997]
 rfl
theorem run_eqlg (x y : Run) (X Y : Operand) (W : World) : (eqGuard .eql 53 X Y (.agg (runC x)) (.agg (runC y))).run Tryz.prog W = .ok () W := run_eqGuard_agg W _ _ _ _ _ _ guard_run
theorem run_neq (x y : Run) (W : World) : (binOp .neq 53 (.agg (runC x)) (.agg (runC y))).run Tryz.prog W = .ok (.bool (!(runEq x y))) W := by
 rw [run_neq_struct, run_eqIn 9997]
 rfl
theorem run_neqg (x y : Run) (X Y : Operand) (W : World) : (eqGuard .neq 53 X Y (.agg (runC x)) (.agg (runC y))).run Tryz.prog W = .ok () W := run_eqGuard_agg W _ _ _ _ _ _ guard_run
theorem opr_eql (x y : Opr) (W : World) : (binOp .eql 55 (.agg (oprC x)) (.agg (oprC y))).run Tryz.prog W = .ok (.bool ((oprEq x y))) W := by
 rw [run_eql_struct, opr_eqIn 9997]
 rfl
theorem opr_eqlg (x y : Opr) (X Y : Operand) (W : World) : (eqGuard .eql 55 X Y (.agg (oprC x)) (.agg (oprC y))).run Tryz.prog W = .ok () W := run_eqGuard_agg W _ _ _ _ _ _ guard_opr
theorem opr_neq (x y : Opr) (W : World) : (binOp .neq 55 (.agg (oprC x)) (.agg (oprC y))).run Tryz.prog W = .ok (.bool (!(oprEq x y))) W := by
 rw [run_neq_struct, opr_eqIn 9997]
 rfl
theorem opr_neqg (x y : Opr) (X Y : Operand) (W : World) : (eqGuard .neq 55 X Y (.agg (oprC x)) (.agg (oprC y))).run Tryz.prog W = .ok () W := run_eqGuard_agg W _ _ _ _ _ _ guard_opr
theorem heap3 (w : World) (x y z : Array Value) {a b c : TypeId} : (((w.alloc (.cells x a)).alloc (.cells y b)).alloc (.cells z c)).heap[w.heap.size]? = some (.cells x a (0, 0)) ∧ (((w.alloc (.cells x a)).alloc (.cells y b)).alloc (.cells z c)).heap[w.heap.size + 1]? = some (.cells y b (0, 0)) ∧ (((w.alloc (.cells x a)).alloc (.cells y b)).alloc (.cells z c)).heap[w.heap.size + 1 + 1]? = some (.cells z c (0, 0)) := by
 refine ⟨(Below.heap_alloc _ _ _ (by simp; omega)).trans ((Below.heap_alloc _ _ _ (by simp)).trans (zw _ _)), (Below.heap_alloc _ _ _ (by simp)).trans (heap_alloc_new2 _ _ _), ?_⟩
 have h := zw ((w.alloc (.cells x a)).alloc (.cells y b)) (.cells z c)
 rwa [show ((w.alloc (.cells x a)).alloc (.cells y b)).heap.size = w.heap.size + 1 + 1 by simp] at h
def passedA (nw : Int) (a b : Mrk) : Bool := mrkEq a b || (runEq a.run b.run && !a.gone && (decide (3 ≤ a.op.st) && decide (a.op.st ≤ 5)) && decide (a.op.due ≤ nw) && b.gone && oprEq b.op opr0)
theorem still_any (w : World) (s : Sch) (ra sa ga la ma lb mb : Option Addr) (rv sv gv lc mc le me : Nat) (pf pc pn pd ps pm kp nn th nw da db : Int) (L R : List Ent) (M N : List Mrk) (hA : Slc w 6 (.slice la L.length lc) L.length (ecells L)) (hB : Slc w 6 (.slice lb R.length le) R.length (ecells R)) :
  Calls Tryz.prog 37 #[.agg #[.string (bT s.name), .slice ra s.records.length rv, .slice sa s.services.length sv, .slice ga s.sagas.length gv, .int .i64 pf, .int .i64 pc, .int .i64 pn, .int .i64 pd, .int .i64 ps, .int .i64 pm, .int .i64 kp, .int .i64 nn, .int .i64 th, .int .i64 nw, .slice la L.length lc, .slice ma M.length mc, .int .i64 da, .slice lb R.length le, .slice mb N.length me, .int .i64 db]] w fun x w' => x = .returned (.bool (entsEq L R)) ∧ Below w.heap.size w w' := by
 have HBw := zD (bl1 w (.cells #[.string (bT s.name), .slice ra s.records.length rv, .slice sa s.services.length sv, .slice ga s.sagas.length gv, .int .i64 pf, .int .i64 pc, .int .i64 pn, .int .i64 pd, .int .i64 ps, .int .i64 pm, .int .i64 kp, .int .i64 nn, .int .i64 th, .int .i64 nw, .slice la L.length lc, .slice ma M.length mc, .int .i64 da, .slice lb R.length le, .slice mb N.length me, .int .i64 db] 102))
 have HEQ := zD (equalE_any _ _ _ L R (hA.below HBw.out) (hB.below HBw.out))
 clear hA hB
 go_enter Tryz.func37, Tryz.ntmps37
 go_wp2_with fail
 refine HEQ.out.mono ?_
 rintro e w2 ⟨rfl, hb⟩
 have HB2 := zT HBw hb
 clear hb HEQ
 go_wp2_with fail
 exact zR (v := .bool (entsEq L R)) ⟨rfl, HB2.out⟩
theorem passed_any (w : World) (s : Sch) (ra sa ga la ma lb mb : Option Addr) (rv sv gv lc mc le me : Nat) (pf pc pn pd ps pm kp nn th nw da db : Int) (L R : List Ent) (M N : List Mrk) (a b : Mrk) :
  Calls Tryz.prog 67 #[.agg #[.string (bT s.name), .slice ra s.records.length rv, .slice sa s.services.length sv, .slice ga s.sagas.length gv, .int .i64 pf, .int .i64 pc, .int .i64 pn, .int .i64 pd, .int .i64 ps, .int .i64 pm, .int .i64 kp, .int .i64 nn, .int .i64 th, .int .i64 nw, .slice la L.length lc, .slice ma M.length mc, .int .i64 da, .slice lb R.length le, .slice mb N.length me, .int .i64 db], .agg #[.string (bT a.run.id), .string (bT a.run.sg), .string (bT a.run.arg), .int .i64 a.run.at_, .int .u8 (a.run.ph : Nat), .int .i64 a.run.tr, .bool a.run.st, .int .i64 a.run.wh, .string (bT a.run.vl), .int .i64 a.op.st, .int .i64 a.op.code, .string (bT a.op.vl), .int .i64 a.op.due, .bool a.gone], .agg #[.string (bT b.run.id), .string (bT b.run.sg), .string (bT b.run.arg), .int .i64 b.run.at_, .int .u8 (b.run.ph : Nat), .int .i64 b.run.tr, .bool b.run.st, .int .i64 b.run.wh, .string (bT b.run.vl), .int .i64 b.op.st, .int .i64 b.op.code, .string (bT b.op.vl), .int .i64 b.op.due, .bool b.gone]] w fun x w' => x = .returned (.bool (passedA nw a b)) ∧ Below w.heap.size w w' := by
 have HP := zD (show passedA nw a b = (mrkEq a b || (runEq a.run b.run && !a.gone && (decide (3 ≤ a.op.st) && decide (a.op.st ≤ 5)) && decide (a.op.due ≤ nw) && b.gone && oprEq b.op opr0)) from rfl)
 generalize passedA nw a b = PA at *
 have hne := fun W => mrk_eql a b W
 have hgd := fun X Y W => mrk_eqlg a b X Y W
 unfold mrkC at hne hgd
 have hnr := fun W => run_eql a.run b.run W
 have hgr := fun X Y W => run_eqlg a.run b.run X Y W
 unfold runC at hnr hgr
 have hno := fun W => opr_eql b.op opr0 W
 have hgo := fun X Y W => opr_eqlg b.op opr0 X Y W
 unfold oprC at hno hgo
 simp only [show (bT opr0.vl) = ⟨#[]⟩ from rfl, show opr0.st = 0 from rfl, show opr0.code = 0 from rfl, show opr0.due = 0 from rfl] at hno hgo
 generalize mrkEq a b = q0 at *
 generalize runEq a.run b.run = q1 at *
 generalize oprEq b.op opr0 = q2 at *
 have HBw := zD (show Below w.heap.size w (((w.alloc (.cells #[.string (bT s.name), .slice ra s.records.length rv, .slice sa s.services.length sv, .slice ga s.sagas.length gv, .int .i64 pf, .int .i64 pc, .int .i64 pn, .int .i64 pd, .int .i64 ps, .int .i64 pm, .int .i64 kp, .int .i64 nn, .int .i64 th, .int .i64 nw, .slice la L.length lc, .slice ma M.length mc, .int .i64 da, .slice lb R.length le, .slice mb N.length me, .int .i64 db] 102)).alloc (.cells #[.string (bT a.run.id), .string (bT a.run.sg), .string (bT a.run.arg), .int .i64 a.run.at_, .int .u8 (a.run.ph : Nat), .int .i64 a.run.tr, .bool a.run.st, .int .i64 a.run.wh, .string (bT a.run.vl), .int .i64 a.op.st, .int .i64 a.op.code, .string (bT a.op.vl), .int .i64 a.op.due, .bool a.gone] 57)).alloc (.cells #[.string (bT b.run.id), .string (bT b.run.sg), .string (bT b.run.arg), .int .i64 b.run.at_, .int .u8 (b.run.ph : Nat), .int .i64 b.run.tr, .bool b.run.st, .int .i64 b.run.wh, .string (bT b.run.vl), .int .i64 b.op.st, .int .i64 b.op.code, .string (bT b.op.vl), .int .i64 b.op.due, .bool b.gone] 57)) from ((bl1 w _).alloc (by simp) _).alloc (by simp; omega) _)
 obtain ⟨ar, ao, ag⟩ := a
 obtain ⟨br, bo, bg⟩ := b
 dsimp only at *
 go_enter Tryz.func67, Tryz.ntmps67
 go_upto_region 1 with (fail)
 generalize hw3 : (((w.alloc (.cells #[.string (bT s.name), .slice ra s.records.length rv, .slice sa s.services.length sv, .slice ga s.sagas.length gv, .int .i64 pf, .int .i64 pc, .int .i64 pn, .int .i64 pd, .int .i64 ps, .int .i64 pm, .int .i64 kp, .int .i64 nn, .int .i64 th, .int .i64 nw, .slice la L.length lc, .slice ma M.length mc, .int .i64 da, .slice lb R.length le, .slice mb N.length me, .int .i64 db] 102)).alloc (.cells #[.string (bT ar.id), .string (bT ar.sg), .string (bT ar.arg), .int .i64 ar.at_, .int .u8 (ar.ph : Nat), .int .i64 ar.tr, .bool ar.st, .int .i64 ar.wh, .string (bT ar.vl), .int .i64 ao.st, .int .i64 ao.code, .string (bT ao.vl), .int .i64 ao.due, .bool ag] 57)).alloc (.cells #[.string (bT br.id), .string (bT br.sg), .string (bT br.arg), .int .i64 br.at_, .int .u8 (br.ph : Nat), .int .i64 br.tr, .bool br.st, .int .i64 br.wh, .string (bT br.vl), .int .i64 bo.st, .int .i64 bo.code, .string (bT bo.vl), .int .i64 bo.due, .bool bg] 57)) = w3 at *
 have hA3 : w3.heap[w.heap.size + 1]? = some (.cells #[.string (bT ar.id), .string (bT ar.sg), .string (bT ar.arg), .int .i64 ar.at_, .int .u8 (ar.ph : Nat), .int .i64 ar.tr, .bool ar.st, .int .i64 ar.wh, .string (bT ar.vl), .int .i64 ao.st, .int .i64 ao.code, .string (bT ao.vl), .int .i64 ao.due, .bool ag] 57 (0, 0)) := hw3 ▸ (heap3 w _ _ _).2.1
 have hB3 : w3.heap[w.heap.size + 1 + 1]? = some (.cells #[.string (bT br.id), .string (bT br.sg), .string (bT br.arg), .int .i64 br.at_, .int .u8 (br.ph : Nat), .int .i64 br.tr, .bool br.st, .int .i64 br.wh, .string (bT br.vl), .int .i64 bo.st, .int .i64 bo.code, .string (bT bo.vl), .int .i64 bo.due, .bool bg] 57 (0, 0)) := hw3 ▸ (heap3 w _ _ _).2.2
 have hS3 : w3.heap[w.heap.size]? = some (.cells #[.string (bT s.name), .slice ra s.records.length rv, .slice sa s.services.length sv, .slice ga s.sagas.length gv, .int .i64 pf, .int .i64 pc, .int .i64 pn, .int .i64 pd, .int .i64 ps, .int .i64 pm, .int .i64 kp, .int .i64 nn, .int .i64 th, .int .i64 nw, .slice la L.length lc, .slice ma M.length mc, .int .i64 da, .slice lb R.length le, .slice mb N.length me, .int .i64 db] 102 (0, 0)) := hw3 ▸ (heap3 w _ _ _).1
 have n5 := zG hS3 13 rfl
 have a0 := zG hA3 0 rfl
 have a1 := zG hA3 1 rfl
 have a2 := zG hA3 2 rfl
 have a3 := zG hA3 3 rfl
 have a4 := zG hA3 4 rfl
 have a5 := zG hA3 5 rfl
 have a6 := zG hA3 6 rfl
 have a7 := zG hA3 7 rfl
 have a8 := zG hA3 8 rfl
 have a9 := zG hA3 9 rfl
 have a10 := zG hA3 10 rfl
 have a11 := zG hA3 11 rfl
 have a12 := zG hA3 12 rfl
 have a13 := zG hA3 13 rfl
 have b0 := zG hB3 0 rfl
 have b1 := zG hB3 1 rfl
 have b2 := zG hB3 2 rfl
 have b3 := zG hB3 3 rfl
 have b4 := zG hB3 4 rfl
 have b5 := zG hB3 5 rfl
 have b6 := zG hB3 6 rfl
 have b7 := zG hB3 7 rfl
 have b8 := zG hB3 8 rfl
 have b9 := zG hB3 9 rfl
 have b10 := zG hB3 10 rfl
 have b11 := zG hB3 11 rfl
 have b12 := zG hB3 12 rfl
 have b13 := zG hB3 13 rfl
 clear hA3 hB3 hS3 hw3
 cases q0 with
 | true =>
  have HV := zD (show PA = true from by rw [HP.out]; simp []); go_wp2_with fail; exact zR (v := .bool true) ⟨by rw [HV.out], HBw.out⟩
 | false =>
  by_cases o1 : 3 ≤ ao.st
  case neg =>
   have f1 : decide (3 ≤ ao.st) = false := zf o1; cases q1 with
   | false =>
    have HV := zD (show PA = false from by rw [HP.out]; simp [o1]); go_wp2_with fail; exact zR (v := .bool false) ⟨by rw [HV.out], HBw.out⟩
   | true =>
    cases ag with
    | true =>
     have HV := zD (show PA = false from by rw [HP.out]; simp [o1]); go_wp2_with fail; exact zR (v := .bool false) ⟨by rw [HV.out], HBw.out⟩
    | false =>
     have HV := zD (show PA = false from by rw [HP.out]; simp [o1]); go_wp2_with fail; exact zR (v := .bool false) ⟨by rw [HV.out], HBw.out⟩
  have f1 : decide (3 ≤ ao.st) = true := zt o1; by_cases o2 : ao.st ≤ 5
  case neg =>
   have f2 : decide (ao.st ≤ 5) = false := zf o2; cases q1 with
   | false =>
    have HV := zD (show PA = false from by rw [HP.out]; simp [o1, o2]); go_wp2_with fail; exact zR (v := .bool false) ⟨by rw [HV.out], HBw.out⟩
   | true =>
    cases ag with
    | true =>
     have HV := zD (show PA = false from by rw [HP.out]; simp [o1, o2]); go_wp2_with fail; exact zR (v := .bool false) ⟨by rw [HV.out], HBw.out⟩
    | false =>
     have HV := zD (show PA = false from by rw [HP.out]; simp [o1, o2]); go_wp2_with fail; exact zR (v := .bool false) ⟨by rw [HV.out], HBw.out⟩
  have f2 : decide (ao.st ≤ 5) = true := zt o2; cases q1 with
  | false =>
   have HV := zD (show PA = false from by rw [HP.out]; simp [o1, o2]); go_wp2_with fail; exact zR (v := .bool false) ⟨by rw [HV.out], HBw.out⟩
  | true =>
   cases ag with
   | true =>
    have HV := zD (show PA = false from by rw [HP.out]; simp [o1, o2]); go_wp2_with fail; exact zR (v := .bool false) ⟨by rw [HV.out], HBw.out⟩
   | false =>
    by_cases o3 : ao.due ≤ nw
    case neg =>
     have f3 : decide (ao.due ≤ nw) = false := zf o3; have HV := zD (show PA = false from by rw [HP.out]; simp [o1, o2, o3]); go_wp2_with fail; exact zR (v := .bool false) ⟨by rw [HV.out], HBw.out⟩
    have f3 : decide (ao.due ≤ nw) = true := zt o3; cases bg with
    | false =>
     have HV := zD (show PA = false from by rw [HP.out]; simp [o1, o2, o3]); go_wp2_with fail; exact zR (v := .bool false) ⟨by rw [HV.out], HBw.out⟩
    | true =>
     cases q2 with
     | false =>
      have HV := zD (show PA = false from by rw [HP.out]; simp [o1, o2, o3]); go_wp2_with fail; exact zR (v := .bool false) ⟨by rw [HV.out], HBw.out⟩
     | true =>
      have HV := zD (show PA = true from by rw [HP.out]; simp [o1, o2, o3]); go_wp2_with fail; exact zR (v := .bool true) ⟨by rw [HV.out], HBw.out⟩
theorem still_load {P : Program} {ops : Array Oper} {w : World} {Q : Act → Prop} {a : Act} {o : Oper} {rest : List Oper} (ty : TypeId) (x : Operand) (ho : o.op = .load ty x) (hw : Region.wanted o (yielded ops a.tmps) = true) (b f : Nat) (hx : a.eval x = .pointer (some ⟨b, f, none⟩)) (v : Value)
  (hrun : (loadVar ty ⟨b, f, none⟩).run P w = .ok v w) (h : wpStill P ops w Q rest (a.put o.dst v)) : wpStill P ops w Q (o :: rest) a := by
 refine wpStill_step (fun K hK => ?_)
 rw [if_pos hw]
 unfold Oper.still execOp
 simp only [ho, hx, Instr.loadAt, Instr.sureAddr, Sem.run_bind, Sem.run_pure, Result.andThen_ok, hrun]
 exact ⟨rfl, hK _ h⟩
theorem info_step : (Tryz.prog.info? 102).map (·.size) = some 20 := by kernel_rfl
theorem info_mrk : (Tryz.prog.info? 57).map (·.size) = some 14 := by kernel_rfl
theorem load_step {W : World} {g : Nat} {cs : Array Value} (h : W.heap[g]? = some (.cells cs 102 (0, 0))) (hs : cs.size = 20) : (loadVar 102 ⟨g, 0, none⟩).run Tryz.prog W = .ok (.agg cs) W :=
 run_loadVar_row W g _ _ cs (0, 0) _ h Tryz.underlying102 rfl (by rw [info_step, hs])
theorem load_mrk {W : World} {b o : Nat} {x : Mrk} (h : ∀ j u, (mrkC x)[j]? = some u → W.cell? ⟨b, o + j, none⟩ = some u) : (loadVar 57 ⟨b, o, none⟩).run Tryz.prog W = .ok (.agg (mrkC x)) W :=
 run_loadVar_mid W b o _ (mrkC x).toList _ (fun j v hv => h j v (by simpa using hv)) Tryz.underlying57 rfl (by rw [info_mrk]; rfl)
def mkcells (M : List Mrk) : List Value := M.flatMap (fun x => (mrkC x).toList)
theorem mkcells_at : ∀ (L : List Mrk) (k : Nat) (h : k < L.length) (j : Nat) (u : Value), (mrkC L[k])[j]? = some u → (mkcells L)[k * 14 + j]? = some u
 | t :: L, 0, _, j, u, hu => by
  have hj : j < (mrkC t).toList.length := by have := (zq hu).1; simpa using this
  have hu' : (mrkC t)[j]? = some u := hu
  unfold mkcells
  rw [List.flatMap_cons, Nat.zero_mul, Nat.zero_add, List.getElem?_append_left hj]
  simpa using hu'
 | t :: L, k + 1, h, j, u, hu => by
  have hl : (mrkC t).toList.length = 14 := rfl
  have := mkcells_at L k (by simpa using h) j u hu
  unfold mkcells at this ⊢
  rw [List.flatMap_cons, List.getElem?_append_right (by omega), hl, show (k + 1) * 14 + j - 14 = k * 14 + j by omega]
  exact this
theorem mrk_at {w : World} {n c : Nat} {a : Option Addr} {L : List Mrk} (h : Slc w 14 (.slice a n c) L.length (mkcells L)) {k : Nat} (hk : k < L.length) :
  ∃ b o, a = some ⟨b, o, none⟩ ∧ b < w.heap.size ∧ ∀ j u, (mrkC L[k])[j]? = some u → w.cell? ⟨b, o + k * 14 + j, none⟩ = some u := by
 obtain ⟨_, _, e⟩ := h.shape
 injection e with _ e2
 subst e2
 obtain ⟨b, o, rfl, hb, hc⟩ := slc_cells h (by omega)
 exact ⟨b, o, rfl, hb, fun j u hu => by rw [Nat.add_assoc]; exact hc _ _ (mkcells_at L k hk j u hu)⟩
def othersF (nw one : Int) : Nat → List Mrk → List Mrk → Bool
 | i, a :: M, b :: N => (decide ((i : Int) = one) || passedA nw a b) && othersF nw one (i + 1) M N
 | _, _, _ => true
def othersA (nw one : Int) (M N : List Mrk) : Bool := decide (M.length = N.length) && othersF nw one 0 M N
theorem othersF_next {nw one : Int} {i : Nat} {a b : List Mrk} {k : Nat} (h1 : k < a.length) (h2 : k < b.length) : othersF nw one i (a.drop k) (b.drop k) = ((decide ((i : Int) = one) || passedA nw a[k] b[k]) && othersF nw one (i + 1) (a.drop (k + 1)) (b.drop (k + 1))) := by
 rw [List.drop_eq_getElem_cons h1, List.drop_eq_getElem_cons h2]
 rfl
theorem othersF_end {nw one : Int} {i : Nat} {a b : List Mrk} {k : Nat} (h1 : ¬ k < a.length) : othersF nw one i (a.drop k) (b.drop k) = true := by
 rw [List.drop_of_length_le (by omega)]
 rfl
theorem others_any (w : World) (s : Sch) (ra sa ga la ma lb mb : Option Addr) (rv sv gv lc mc le me : Nat) (pf pc pn pd ps pm kp nn th nw da db : Int) (L R : List Ent) (M N : List Mrk) (one : Int) (hA : Slc w 14 (.slice ma M.length mc) M.length (mkcells M)) (hB : Slc w 14 (.slice mb N.length me) N.length (mkcells N)) (hn : M.length ≤ 1000) :
  Calls Tryz.prog 38 #[.agg #[.string (bT s.name), .slice ra s.records.length rv, .slice sa s.services.length sv, .slice ga s.sagas.length gv, .int .i64 pf, .int .i64 pc, .int .i64 pn, .int .i64 pd, .int .i64 ps, .int .i64 pm, .int .i64 kp, .int .i64 nn, .int .i64 th, .int .i64 nw, .slice la L.length lc, .slice ma M.length mc, .int .i64 da, .slice lb R.length le, .slice mb N.length me, .int .i64 db], .int .i64 one] w fun x w' => x = .returned (.bool (othersA nw one M N)) ∧ Below w.heap.size w w' := by
 have HA := zD hA
 have HB := zD hB
 have HPS := zD (fun W a b => passed_any W s ra sa ga la ma lb mb rv sv gv lc mc le me pf pc pn pd ps pm kp nn th nw da db L R M N a b)
 clear hA hB
 generalize hE : othersA nw one M N = E
 have HE0 := zD hE
 clear hE
 go_enter Tryz.func38, Tryz.ntmps38
 go_upto_region 1 with (fail)
 generalize hwa : w.alloc (.cells #[.string (bT s.name), .slice ra s.records.length rv, .slice sa s.services.length sv, .slice ga s.sagas.length gv, .int .i64 pf, .int .i64 pc, .int .i64 pn, .int .i64 pd, .int .i64 ps, .int .i64 pm, .int .i64 kp, .int .i64 nn, .int .i64 th, .int .i64 nw, .slice la L.length lc, .slice ma M.length mc, .int .i64 da, .slice lb R.length le, .slice mb N.length me, .int .i64 db] 102) = wa at *
 have HXa := zD (show wa.heap[w.heap.size]? = some (.cells #[.string (bT s.name), .slice ra s.records.length rv, .slice sa s.services.length sv, .slice ga s.sagas.length gv, .int .i64 pf, .int .i64 pc, .int .i64 pn, .int .i64 pd, .int .i64 ps, .int .i64 pm, .int .i64 kp, .int .i64 nn, .int .i64 th, .int .i64 nw, .slice la L.length lc, .slice ma M.length mc, .int .i64 da, .slice lb R.length le, .slice mb N.length me, .int .i64 db] 102 (0, 0)) from hwa ▸ zw _ _)
 have HBa := zD (show Below w.heap.size w wa from hwa ▸ bl1 _ _)
 clear hwa
 have HX := zD (fun W (X : Below wa.heap.size wa W) => show W.heap[w.heap.size]? = some (.cells #[.string (bT s.name), .slice ra s.records.length rv, .slice sa s.services.length sv, .slice ga s.sagas.length gv, .int .i64 pf, .int .i64 pc, .int .i64 pn, .int .i64 pd, .int .i64 ps, .int .i64 pm, .int .i64 kp, .int .i64 nn, .int .i64 th, .int .i64 nw, .slice la L.length lc, .slice ma M.length mc, .int .i64 da, .slice lb R.length le, .slice mb N.length me, .int .i64 db] 102 (0, 0)) from (X.block _ (zq HXa.out).1).trans HXa.out)
 have hxa := HXa.out
 have x15 := zG hxa 15 rfl
 have x18 := zG hxa 18 rfl
 clear hxa
 by_cases hl : M.length = N.length
 case neg =>
  have d1 : ((M.length : Int) == (N.length : Int)) = false := by rw [zb]; omega
  have d2 : ((M.length : Int) != (N.length : Int)) = true := by rw [bne_iff_ne]; omega
  have HE := zD (show E = false from by rw [← HE0.out]; unfold othersA; rw [zf hl]; rfl); go_wp2_with fail; exact zR (v := .bool false) ⟨by rw [HE.out], HBa.out⟩
 have d1 : ((M.length : Int) == (N.length : Int)) = true := by rw [beq_iff_eq]; omega
 have d2 : ((M.length : Int) != (N.length : Int)) = false := by rw [bne_eq_false_iff_eq]; omega
 have HL := zD hl
 have HE := zD (show E = othersF nw one 0 (M.drop 0) (N.drop 0) from by rw [← HE0.out]; unfold othersA; rw [zt hl]; rfl)
 clear hl
 go_wp2_with fail
 go_loopw [19] (fun vi wr => ∃ k : Nat, k ≤ M.length ∧ vi = .int .i64 (k : Nat) ∧ Hid (Below wa.heap.size wa wr) ∧ Hid (E = othersF nw one k (M.drop k) (N.drop k))) (fun vi _ => M.length - (intOf vi).toNat)
 case atStart => exact ⟨0, by omega, rfl, zD zl, HE⟩
 case round =>
  clear HE HE0 x15 x18; rename World => wr
  obtain ⟨k, hk, rfl, HBr, HE⟩ := hrel; have HBw := zD (HBa.out.trans (HBr.out.mono HBa.out.size)); by_cases hlt : k < M.length
  case neg =>
   have HN := zD (HE.out.trans (othersF_end hlt)); go_wp2_with fail; exact zR (v := .bool true) ⟨by rw [HN.out], HBw.out⟩
  have hlt2 : k < N.length := by rw [← HL.out]; exact hlt
  have HN := zD (HE.out.trans (othersF_next hlt hlt2)); have HBn := zD (fun n => show Below wa.heap.size wa (wr.drewN n) from ⟨HBr.out.os, HBr.out.tape, HBr.out.output, HBr.out.size, HBr.out.block⟩); by_cases ho : (k : Int) = one
  ·have o1 : ((k : Int) == one) = true := by rw [beq_iff_eq]; exact ho
   have o2 : ((k : Int) != one) = false := by rw [bne_eq_false_iff_eq]; exact ho
   have HN2 := zD (show E = othersF nw one (k + 1) (M.drop (k + 1)) (N.drop (k + 1)) from by rw [HN.out, zt ho]; rfl); clear ho HN HE; go_wp2_with fail; go_quiet (fail); have HB4 := zD (HBn.out nq); go_wp2_with fail; exact ⟨⟨k + 1, by omega, by go_num, HB4, HN2⟩, by simp [intOf]; omega⟩
  as_aux_lemma =>
   have o1 : ((k : Int) == one) = false := by rw [zb]; exact ho
   have o2 : ((k : Int) != one) = true := by rw [bne_iff_ne]; exact ho
   rw [zf ho, Bool.false_or] at HN; obtain ⟨b1, o1', rfl, hb1, hp⟩ := mrk_at (HA.out.below HBw.out) hlt; obtain ⟨b2, o2', rfl, hb2, hq⟩ := mrk_at (HB.out.below HBw.out) hlt2; have hxr := HX.out wr HBr.out; have HDR := zD (show Below wr.heap.size wr wr.drew from ⟨rfl, rfl, rfl, zn, fun _ _ => rfl⟩); have HBd := zD (show Below wa.heap.size wa wr.drew from HBr.out.trans (HDR.out.mono HBr.out.size)); generalize M[k] = x at *; generalize N[k] = y at *

   have HL1 := zD (load_mrk (W := wr.drew) hp); have HL2 := zD (load_mrk (W := wr.drew) hq); unfold mrkC at HL1 HL2; have HL0 := zD (load_step (W := wr.drew) hxr rfl); have x15 : wr.drew.cell? ⟨w.heap.size, 15, none⟩ = some (.slice (some ⟨b1, o1', none⟩) M.length mc) := by show wr.cell? _ = _; simp only [World.cell?, hxr]; rfl
   have x18 : wr.drew.cell? ⟨w.heap.size, 18, none⟩ = some (.slice (some ⟨b2, o2', none⟩) N.length me) := by show wr.cell? _ = _; simp only [World.cell?, hxr]; rfl
   have hlw : w.heap.size < wr.drew.heap.size := (zq hxr).1; have hbd1 : b1 < wr.drew.heap.size := hb1; have hbd2 : b2 < wr.drew.heap.size := hb2; have HPC := zD (HPS.out wr.drew x y); generalize passedA nw x y = q at *; have hi1 : (0 : Int) ≤ (k : Int) := by omega
   have hi2 : (k : Int) < (M.length : Int) := by omega
   have hi3 : (k : Int) < (N.length : Int) := by omega
   clear hp hq hxr HE ho; go_wp2_with fail; refine wp_region_still_tail 17 (by kernel_rfl) (by kernel_rfl) ?_; simp only [List.take_succ_cons, List.take_zero, List.drop_succ_cons, List.drop_zero]; iterate 4 still_step
   refine still_load _ _ rfl rfl _ _ rfl _ HL0.out ?_; try simp only [Act.put, zX, zY, zZ]
   iterate 5 still_step
   refine still_load _ _ rfl rfl _ _ rfl _ HL1.out ?_; try simp only [Act.put, zX, zY, zZ]
   iterate 5 still_step
   refine still_load _ _ rfl rfl _ _ rfl _ HL2.out ?_; try simp only [Act.put, zX, zY, zZ]
   refine wpStill_nil ?_; change wpList _ _ _ _ _ wr.drew; clear HL0 HL1 HL2
   as_aux_lemma =>
    go_wp2_with fail; refine HPC.out.mono ?_; rintro e w2 ⟨rfl, hb⟩; have HB2 := zT HBd hb; have HBW2 := zD (HBa.out.trans (HB2.out.mono HBa.out.size)); clear hb HPC; clear x15 x18; cases q with
    | true =>
     rw [Bool.true_and] at HN; go_wp2_with fail; exact ⟨⟨k + 1, by omega, by go_num, HB2, HN⟩, by simp [intOf]; omega⟩
    | false =>
     rw [Bool.false_and] at HN; go_wp2_with fail; exact zR (v := .bool false) ⟨by rw [HN.out], HBW2.out⟩
end Go.Proofs.YtgoejmheihgpfaaGreatDoor
