/-
  saga.Right.
-/
import Derived.Test.YtgoejmheihgpfaaGreatDoorRv
namespace Go.Proofs.YtgoejmheihgpfaaGreatDoor
open Go.RowKit

/-- a run -/
structure Run where
  id : Tx
  sg : Tx
  arg : Tx
  at_ : Int
  ph : Nat
  tr : Int
  st : Bool
  wh : Int
  vl : Tx
def runC (r : Run) : Array Value := #[.string (bT r.id), .string (bT r.sg), .string (bT r.arg), .int .i64 r.at_, .int .u8 (r.ph : Nat), .int .i64 r.tr, .bool r.st, .int .i64 r.wh, .string (bT r.vl)]
structure RunSmall (r : Run) : Prop where
  id : r.id.length ≤ 5000
  arg : r.arg.length ≤ 5000
  vl : r.vl.length ≤ 5000
/-- the numbers of a run are within bounds; n: how many steps -/
def numsA (n : Nat) (r : Run) : Bool := decide (0 ≤ r.at_) && decide (r.at_ < (n : Int)) && decide (0 ≤ r.tr) && decide (r.tr ≤ 29) && decide (0 ≤ r.wh) && decide (r.wh ≤ 999) && decide (r.vl.length ≤ 4096)
def phaseA (s : Sch) (n : Nat) (r : Run) : Bool :=
  if r.ph = 1 then decide (r.wh = 0)
  else if r.ph = 3 then decide (r.wh = 0) && decide (r.at_ = (n : Int) - 1)
  else if r.ph = 4 then !decide (r.wh = 0) && decide (r.at_ = 0)
  else if r.ph = 2 ∨ r.ph = 5 then decide (callE s r.sg r.id r.at_ true 0 = 0) && !decide (r.wh = 0)
  else false
def endsA (r : Run) : Bool := (decide (r.ph = 2) || decide (r.ph = 5) || decide (r.tr = 0)) && (decide (r.ph = 1) || !r.st) && (decide (r.ph = 3) || decide (r.vl = []))
def rightR (s : Sch) (r : Run) : Bool := decide ((foundA s r.sg).2 = 0) && idA r.id && decide (argA s r.sg r.arg = 0) && numsA (foundA s r.sg).1.steps.length r && phaseA s (foundA s r.sg).1.steps.length r && endsA r
theorem found_small {s : Sch} (h : Small s) (a : Tx) : (foundA s a).1.steps.length ≤ 40 := by
  unfold foundA sagOf
  split
  · cases hf : s.sagas.find? (fun v => decide (v.name = a)) with
    | none => exact Nat.zero_le _
    | some g => exact (h.sg g (List.mem_of_find?_eq_some hf)).2.2.1
  · exact Nat.zero_le _
set_option maxRecDepth 100000 in
set_option maxHeartbeats 8000000 in
theorem sright_any (w : World) (hK : KwIn w) (s : Sch) (ur us ug : Value) (hS : SchR w s ur us ug) (hM : Small s) (r : Run) (hR : RunSmall r) :
    Calls Tryz.prog 43 #[.agg #[.string (bT s.name), ur, us, ug], .agg (runC r)] w fun x w' => x = .returned (.bool (rightR s r)) ∧ Below w.heap.size w w' := by
  have HST := Lib.hid (fun W (h : Below w.heap.size w W) => sdsteps_any W (hK.below h) s ur us ug (hS.below h) hM r.sg)
  have HID := Lib.hid (fun W => id_any W r.id (by have := hR.id; omega))
  have HAR := Lib.hid (fun W (h : Below w.heap.size w W) => sarg_any W (hK.below h) s ur us ug (hS.below h) hM r.sg r.arg (by have := hR.arg; omega))
  have HCA := Lib.hid (fun W (h : Below w.heap.size w W) => call_any W (hK.below h) s ur us ug (hS.below h) hM r.sg r.id (by have := hR.id; omega) r.at_ true 0 ⟨#[]⟩)
  have HRR := Lib.hid (show rightR s r = (decide ((foundA s r.sg).2 = 0) && idA r.id && decide (argA s r.sg r.arg = 0) && numsA (foundA s r.sg).1.steps.length r && phaseA s (foundA s r.sg).1.steps.length r && endsA r) from rfl)
  have hn40 := found_small hM r.sg
  unfold runC
  generalize rightR s r = RR at *
  generalize foundA s r.sg = F at *
  obtain ⟨G, fe⟩ := F
  dsimp only at HST HRR hn40
  generalize G.steps.length = n at *
  generalize argA s r.sg r.arg = AE at *
  clear hK hM
  have HS := Lib.hid hS
  clear hS
  go_enter Tryz.func43, Tryz.ntmps43
  go_upto_region 1 with (fail)
  generalize hwa : ((w.alloc (.cells #[.string (bT s.name), ur, us, ug] 26)).alloc (.cells #[.string (bT r.id), .string (bT r.sg), .string (bT r.arg), .int .i64 r.at_, .int .u8 (r.ph : Nat), .int .i64 r.tr, .bool r.st, .int .i64 r.wh, .string (bT r.vl)] 53)) = wa
  have HBa := Lib.hid (show Below w.heap.size w wa from hwa ▸ ((Below.refl _ w).alloc (Nat.le_refl _) _).alloc (by simp) _)
  have HXa := Lib.hid (show wa.heap[w.heap.size]? = some (.cells #[.string (bT s.name), ur, us, ug] 26 (0, 0)) from hwa ▸ (Below.heap_alloc _ _ _ (by simp)).trans (heap_alloc_new _ _))
  have HYa := Lib.hid (show wa.heap[w.heap.size + 1]? = some (.cells #[.string (bT r.id), .string (bT r.sg), .string (bT r.arg), .int .i64 r.at_, .int .u8 (r.ph : Nat), .int .i64 r.tr, .bool r.st, .int .i64 r.wh, .string (bT r.vl)] 53 (0, 0)) from hwa ▸ heap_alloc_new2 _ _ _)
  have hza : wa.heap.size = w.heap.size + 2 := by rw [← hwa]; simp
  clear hwa
  have HXS := Lib.hid (fun W (h : Below wa.heap.size wa W) => show W.cell? ⟨w.heap.size, 0, none⟩ = some (.string (bT s.name)) ∧ W.cell? ⟨w.heap.size, 1, none⟩ = some ur ∧ W.cell? ⟨w.heap.size, 2, none⟩ = some us ∧ W.cell? ⟨w.heap.size, 3, none⟩ = some ug from by
    have := (h.block w.heap.size (by omega)).trans HXa.out
    simp [World.cell?, this])
  have HXR := Lib.hid (fun W (h : Below wa.heap.size wa W) => show W.cell? ⟨w.heap.size + 1, 0, none⟩ = some (.string (bT r.id)) ∧ W.cell? ⟨w.heap.size + 1, 1, none⟩ = some (.string (bT r.sg)) ∧ W.cell? ⟨w.heap.size + 1, 2, none⟩ = some (.string (bT r.arg)) ∧ W.cell? ⟨w.heap.size + 1, 3, none⟩ = some (.int .i64 r.at_) ∧ W.cell? ⟨w.heap.size + 1, 4, none⟩ = some (.int .u8 (r.ph : Nat)) ∧ W.cell? ⟨w.heap.size + 1, 5, none⟩ = some (.int .i64 r.tr) ∧ W.cell? ⟨w.heap.size + 1, 6, none⟩ = some (.bool r.st) ∧ W.cell? ⟨w.heap.size + 1, 7, none⟩ = some (.int .i64 r.wh) ∧ W.cell? ⟨w.heap.size + 1, 8, none⟩ = some (.string (bT r.vl)) from by
    have := (h.block (w.heap.size + 1) (by omega)).trans HYa.out
    simp [World.cell?, this])
  have HDa := Lib.hid (Below.refl wa.heap.size wa)
  clear hza
  obtain ⟨r0, r1, r2, r3, r4, r5, r6, r7, r8⟩ := HXR.out wa HDa.out
  obtain ⟨x0, x1, x2, x3⟩ := HXS.out wa HDa.out
  go_wp2_with fail
  refine (HST.out wa HBa.out).mono ?_
  rintro e w2 ⟨rfl, hb⟩
  have HB2 := Lib.hid (HBa.out.trans (hb.mono HBa.out.size))
  have HD2 := Lib.hid hb
  clear hb HST
  clear r0 r1 r2 r3 r4 r5 r6 r7 r8 x0 x1 x2 x3
  obtain ⟨r0, r1, r2, r3, r4, r5, r6, r7, r8⟩ := HXR.out w2 HD2.out
  obtain ⟨x0, x1, x2, x3⟩ := HXS.out w2 HD2.out
  by_cases hfe : fe = 0
  case neg =>
    have d0 : ((fe : Int) != 0) = true := by simp; omega
    have HE := Lib.hid (show RR = false from by rw [HRR.out]; simp [hfe])
    go_wp2_with fail
    exact bodyPost_ret (v := .bool false) (by simp [results, Tryz.results43, go_sem]) rfl ⟨by rw [HE.out], HB2.out⟩
  subst hfe
  have d0 : (((0 : Nat) : Int) != 0) = false := by decide
  have HIc := Lib.hid (HID.out w2)
  go_wp2_with fail
  refine HIc.out.mono ?_
  rintro e w3 ⟨rfl, hb⟩
  have HB3 := Lib.hid (HB2.out.trans (hb.mono HB2.out.size))
  have HD3 := Lib.hid (HD2.out.trans (hb.mono HD2.out.size))
  clear hb HIc
  clear r0 r1 r2 r3 r4 r5 r6 r7 r8 x0 x1 x2 x3
  obtain ⟨r0, r1, r2, r3, r4, r5, r6, r7, r8⟩ := HXR.out w3 HD3.out
  obtain ⟨x0, x1, x2, x3⟩ := HXS.out w3 HD3.out
  generalize idA r.id = ok at *
  cases ok
  · have HE := Lib.hid (show RR = false from by rw [HRR.out]; simp)
    go_wp2_with fail
    exact bodyPost_ret (v := .bool false) (by simp [results, Tryz.results43, go_sem]) rfl ⟨by rw [HE.out], HB3.out⟩
  have HAc := Lib.hid (HAR.out w3 HB3.out)
  go_wp2_with fail
  refine HAc.out.mono ?_
  rintro e w4 ⟨rfl, hb⟩
  have HB4 := Lib.hid (HB3.out.trans (hb.mono HB3.out.size))
  have HD4 := Lib.hid (HD3.out.trans (hb.mono HD3.out.size))
  clear hb HAc
  clear r0 r1 r2 r3 r4 r5 r6 r7 r8 x0 x1 x2 x3
  obtain ⟨r0, r1, r2, r3, r4, r5, r6, r7, r8⟩ := HXR.out w4 HD4.out
  obtain ⟨x0, x1, x2, x3⟩ := HXS.out w4 HD4.out
  by_cases hae : AE = 0
  case neg =>
    have d1 : ((AE : Int) != 0) = true := by simp; omega
    have HE := Lib.hid (show RR = false from by rw [HRR.out]; simp [hae])
    go_wp2_with fail
    exact bodyPost_ret (v := .bool false) (by simp [results, Tryz.results43, go_sem]) rfl ⟨by rw [HE.out], HB4.out⟩
  subst hae
  have d1 : (((0 : Nat) : Int) != 0) = false := by decide
  have HR2 := Lib.hid (show RR = (numsA n r && phaseA s n r && endsA r) from by rw [HRR.out]; simp)
  clear HRR
  have hsz := bT_size r.vl
  by_cases t0 : r.at_ < 0
  · have e0 : decide (r.at_ < 0) = true := decide_eq_true t0
    have HNu : numsA n r = false := by unfold numsA; simp only [Bool.and_eq_false_iff, decide_eq_false_iff_not]; omega
    have HE := Lib.hid (show RR = false from by rw [HR2.out, HNu]; rfl)
    go_wp2_with fail
    exact bodyPost_ret (v := .bool false) (by simp [results, Tryz.results43, go_sem]) rfl ⟨by rw [HE.out], HB4.out⟩
  have e0 : decide (r.at_ < 0) = false := decide_eq_false t0
  by_cases t1 : (n : Int) ≤ r.at_
  · have e1 : decide ((n : Int) ≤ r.at_) = true := decide_eq_true t1
    have HNu : numsA n r = false := by unfold numsA; simp only [Bool.and_eq_false_iff, decide_eq_false_iff_not]; omega
    have HE := Lib.hid (show RR = false from by rw [HR2.out, HNu]; rfl)
    go_wp2_with fail
    exact bodyPost_ret (v := .bool false) (by simp [results, Tryz.results43, go_sem]) rfl ⟨by rw [HE.out], HB4.out⟩
  have e1 : decide ((n : Int) ≤ r.at_) = false := decide_eq_false t1
  by_cases t2 : r.tr < 0
  · have e2 : decide (r.tr < 0) = true := decide_eq_true t2
    have HNu : numsA n r = false := by unfold numsA; simp only [Bool.and_eq_false_iff, decide_eq_false_iff_not]; omega
    have HE := Lib.hid (show RR = false from by rw [HR2.out, HNu]; rfl)
    go_wp2_with fail
    exact bodyPost_ret (v := .bool false) (by simp [results, Tryz.results43, go_sem]) rfl ⟨by rw [HE.out], HB4.out⟩
  have e2 : decide (r.tr < 0) = false := decide_eq_false t2
  by_cases t3 : 29 < r.tr
  · have e3 : decide (29 < r.tr) = true := decide_eq_true t3
    have HNu : numsA n r = false := by unfold numsA; simp only [Bool.and_eq_false_iff, decide_eq_false_iff_not]; omega
    have HE := Lib.hid (show RR = false from by rw [HR2.out, HNu]; rfl)
    go_wp2_with fail
    exact bodyPost_ret (v := .bool false) (by simp [results, Tryz.results43, go_sem]) rfl ⟨by rw [HE.out], HB4.out⟩
  have e3 : decide (29 < r.tr) = false := decide_eq_false t3
  by_cases t4 : r.wh < 0
  · have e4 : decide (r.wh < 0) = true := decide_eq_true t4
    have HNu : numsA n r = false := by unfold numsA; simp only [Bool.and_eq_false_iff, decide_eq_false_iff_not]; omega
    have HE := Lib.hid (show RR = false from by rw [HR2.out, HNu]; rfl)
    go_wp2_with fail
    exact bodyPost_ret (v := .bool false) (by simp [results, Tryz.results43, go_sem]) rfl ⟨by rw [HE.out], HB4.out⟩
  have e4 : decide (r.wh < 0) = false := decide_eq_false t4
  by_cases t5 : 999 < r.wh
  · have e5 : decide (999 < r.wh) = true := decide_eq_true t5
    have HNu : numsA n r = false := by unfold numsA; simp only [Bool.and_eq_false_iff, decide_eq_false_iff_not]; omega
    have HE := Lib.hid (show RR = false from by rw [HR2.out, HNu]; rfl)
    go_wp2_with fail
    exact bodyPost_ret (v := .bool false) (by simp [results, Tryz.results43, go_sem]) rfl ⟨by rw [HE.out], HB4.out⟩
  have e5 : decide (999 < r.wh) = false := decide_eq_false t5
  by_cases t6 : 4096 < (r.vl.length : Int)
  · have e6 : decide (4096 < (r.vl.length : Int)) = true := decide_eq_true t6
    have HNu : numsA n r = false := by unfold numsA; simp only [Bool.and_eq_false_iff, decide_eq_false_iff_not]; omega
    have HE := Lib.hid (show RR = false from by rw [HR2.out, HNu]; rfl)
    go_wp2_with fail
    exact bodyPost_ret (v := .bool false) (by simp [results, Tryz.results43, go_sem]) rfl ⟨by rw [HE.out], HB4.out⟩
  have e6 : decide (4096 < (r.vl.length : Int)) = false := decide_eq_false t6
  have HR3 := Lib.hid (show RR = (phaseA s n r && endsA r) from by
    rw [HR2.out, show numsA n r = true from by unfold numsA; simp only [Bool.and_eq_true, decide_eq_true_eq]; omega]; rfl)
  have hwn : IntKind.i64.wrap ((n : Int) - 1) = (n : Int) - 1 := IntWalk.i64_in _ (by omega)
  clear HR2
  by_cases p1 : r.ph = 1
  · have k1 : ((r.ph : Int) == 1) = true := by rw [beq_iff_eq]; omega
    have k2 : ((r.ph : Int) == 2) = false := by rw [beq_eq_false_iff_ne]; omega
    have k3 : ((r.ph : Int) == 3) = false := by rw [beq_eq_false_iff_ne]; omega
    have k4 : ((r.ph : Int) == 4) = false := by rw [beq_eq_false_iff_ne]; omega
    have k5 : ((r.ph : Int) == 5) = false := by rw [beq_eq_false_iff_ne]; omega
    by_cases z1 : r.wh = 0
    · have wz : (r.wh != 0) = false := by simp [z1]
      have wy : (r.wh == 0) = true := by simp [z1]
      have HRZ := Lib.hid (show RR = endsA r from by rw [HR3.out]; unfold phaseA; simp [p1, z1])
      clear z1
      generalize hst : r.st = st at *
      by_cases v1 : r.tr = 0 <;> by_cases v2 : r.vl = [] <;> cases st
      all_goals
        first | (have b1 : (r.tr == 0) = true := by rw [beq_iff_eq]; exact v1) | (have b1 : (r.tr == 0) = false := by rw [beq_eq_false_iff_ne]; exact v1)
        first | (have b2 : (bT r.vl).toList.isEmpty = true := by rw [bT_list, v2]; rfl) | (have b2 : (bT r.vl).toList.isEmpty = false := by rw [bT_list, List.isEmpty_eq_false_iff]; exact v2)
        have V1 := Lib.hid v1
        have V2 := Lib.hid v2
        have V3 := Lib.hid hst
        clear v1 v2 hst
        go_wp2_with fail
        refine bodyPost_ret (v := .bool _) (by simp [results, Tryz.results43, go_sem]; rfl) rfl ⟨?_, HB4.out⟩
        rw [HRZ.out]
        unfold endsA
        have h1 := V1.out
        have h2 := V2.out
        have h3 := V3.out
        simp [h1, h2, h3, p1]
    · have wz : (r.wh != 0) = true := by simp [z1]
      have wy : (r.wh == 0) = false := by simp [z1]
      have HE := Lib.hid (show RR = false from by rw [HR3.out]; unfold phaseA; simp [p1, z1])
      go_wp2_with fail
      exact bodyPost_ret (v := .bool false) (by simp [results, Tryz.results43, go_sem]) rfl ⟨by rw [HE.out], HB4.out⟩
  by_cases p3 : r.ph = 3
  · have k1 : ((r.ph : Int) == 1) = false := by rw [beq_eq_false_iff_ne]; omega
    have k2 : ((r.ph : Int) == 2) = false := by rw [beq_eq_false_iff_ne]; omega
    have k3 : ((r.ph : Int) == 3) = true := by rw [beq_iff_eq]; omega
    have k4 : ((r.ph : Int) == 4) = false := by rw [beq_eq_false_iff_ne]; omega
    have k5 : ((r.ph : Int) == 5) = false := by rw [beq_eq_false_iff_ne]; omega
    by_cases z1 : r.wh = 0
    · have wz : (r.wh != 0) = false := by simp [z1]
      have wy : (r.wh == 0) = true := by simp [z1]
      by_cases z2 : r.at_ = (n : Int) - 1
      · have az : (r.at_ != (n : Int) - 1) = false := by simp [z2]
        have HRZ := Lib.hid (show RR = endsA r from by rw [HR3.out]; unfold phaseA; simp [p3, z1, z2])
        clear z1 z2
        generalize hst : r.st = st at *
        by_cases v1 : r.tr = 0 <;> by_cases v2 : r.vl = [] <;> cases st
        all_goals
          first | (have b1 : (r.tr == 0) = true := by rw [beq_iff_eq]; exact v1) | (have b1 : (r.tr == 0) = false := by rw [beq_eq_false_iff_ne]; exact v1)
          first | (have b2 : (bT r.vl).toList.isEmpty = true := by rw [bT_list, v2]; rfl) | (have b2 : (bT r.vl).toList.isEmpty = false := by rw [bT_list, List.isEmpty_eq_false_iff]; exact v2)
          have V1 := Lib.hid v1
          have V2 := Lib.hid v2
          have V3 := Lib.hid hst
          clear v1 v2 hst
          go_wp2_with fail
          refine bodyPost_ret (v := .bool _) (by simp [results, Tryz.results43, go_sem]; rfl) rfl ⟨?_, HB4.out⟩
          rw [HRZ.out]
          unfold endsA
          have h1 := V1.out
          have h2 := V2.out
          have h3 := V3.out
          simp [h1, h2, h3, p3]
      · have az : (r.at_ != (n : Int) - 1) = true := by simp [z2]
        have HE := Lib.hid (show RR = false from by rw [HR3.out]; unfold phaseA; simp [p3, z1, z2])
        go_wp2_with fail
        exact bodyPost_ret (v := .bool false) (by simp [results, Tryz.results43, go_sem]) rfl ⟨by rw [HE.out], HB4.out⟩
    · have wz : (r.wh != 0) = true := by simp [z1]
      have wy : (r.wh == 0) = false := by simp [z1]
      have HE := Lib.hid (show RR = false from by rw [HR3.out]; unfold phaseA; simp [p3, z1])
      go_wp2_with fail
      exact bodyPost_ret (v := .bool false) (by simp [results, Tryz.results43, go_sem]) rfl ⟨by rw [HE.out], HB4.out⟩
  by_cases p4 : r.ph = 4
  · have k1 : ((r.ph : Int) == 1) = false := by rw [beq_eq_false_iff_ne]; omega
    have k2 : ((r.ph : Int) == 2) = false := by rw [beq_eq_false_iff_ne]; omega
    have k3 : ((r.ph : Int) == 3) = false := by rw [beq_eq_false_iff_ne]; omega
    have k4 : ((r.ph : Int) == 4) = true := by rw [beq_iff_eq]; omega
    have k5 : ((r.ph : Int) == 5) = false := by rw [beq_eq_false_iff_ne]; omega
    by_cases z1 : r.wh = 0
    · have wz : (r.wh != 0) = false := by simp [z1]
      have wy : (r.wh == 0) = true := by simp [z1]
      have HE := Lib.hid (show RR = false from by rw [HR3.out]; unfold phaseA; simp [p4, z1])
      go_wp2_with fail
      exact bodyPost_ret (v := .bool false) (by simp [results, Tryz.results43, go_sem]) rfl ⟨by rw [HE.out], HB4.out⟩
    · have wz : (r.wh != 0) = true := by simp [z1]
      have wy : (r.wh == 0) = false := by simp [z1]
      by_cases z2 : r.at_ = 0
      · have az : (r.at_ != 0) = false := by simp [z2]
        have HRZ := Lib.hid (show RR = endsA r from by rw [HR3.out]; unfold phaseA; simp [p4, z1, z2])
        clear z1 z2
        generalize hst : r.st = st at *
        by_cases v1 : r.tr = 0 <;> by_cases v2 : r.vl = [] <;> cases st
        all_goals
          first | (have b1 : (r.tr == 0) = true := by rw [beq_iff_eq]; exact v1) | (have b1 : (r.tr == 0) = false := by rw [beq_eq_false_iff_ne]; exact v1)
          first | (have b2 : (bT r.vl).toList.isEmpty = true := by rw [bT_list, v2]; rfl) | (have b2 : (bT r.vl).toList.isEmpty = false := by rw [bT_list, List.isEmpty_eq_false_iff]; exact v2)
          have V1 := Lib.hid v1
          have V2 := Lib.hid v2
          have V3 := Lib.hid hst
          clear v1 v2 hst
          go_wp2_with fail
          refine bodyPost_ret (v := .bool _) (by simp [results, Tryz.results43, go_sem]; rfl) rfl ⟨?_, HB4.out⟩
          rw [HRZ.out]
          unfold endsA
          have h1 := V1.out
          have h2 := V2.out
          have h3 := V3.out
          simp [h1, h2, h3, p4]
      · have az : (r.at_ != 0) = true := by simp [z2]
        have HE := Lib.hid (show RR = false from by rw [HR3.out]; unfold phaseA; simp [p4, z1, z2])
        go_wp2_with fail
        exact bodyPost_ret (v := .bool false) (by simp [results, Tryz.results43, go_sem]) rfl ⟨by rw [HE.out], HB4.out⟩
  have HCc := Lib.hid (HCA.out w4 HB4.out)
  generalize hce : callE s r.sg r.id r.at_ true 0 = CE at *
  have HCE := Lib.hid hce
  clear hce
  by_cases p2 : r.ph = 2
  · have k1 : ((r.ph : Int) == 1) = false := by rw [beq_eq_false_iff_ne]; omega
    have k2 : ((r.ph : Int) == 2) = true := by rw [beq_iff_eq]; omega
    have k3 : ((r.ph : Int) == 3) = false := by rw [beq_eq_false_iff_ne]; omega
    have k4 : ((r.ph : Int) == 4) = false := by rw [beq_eq_false_iff_ne]; omega
    have k5 : ((r.ph : Int) == 5) = false := by rw [beq_eq_false_iff_ne]; omega
    have HR4 := Lib.hid (show RR = (decide (CE = 0) && !decide (r.wh = 0) && endsA r) from by rw [HR3.out]; unfold phaseA; rw [HCE.out]; simp [p2])
    go_wp2_with fail
    refine HCc.out.mono ?_
    rintro e w5 ⟨⟨y0, y1, y2, y3, y4, y5, y6, y7, y8, rfl⟩, hb⟩
    have HB5 := Lib.hid (HB4.out.trans (hb.mono HB4.out.size))
    have HD5 := Lib.hid (HD4.out.trans (hb.mono HD4.out.size))
    clear hb HCc
    clear r0 r1 r2 r3 r4 r5 r6 r7 r8 x0 x1 x2 x3
    have HB6 := Lib.hid (HB5.out.alloc HB5.out.size (.cells #[.int .u8 y0, .int .i64 y1, .int .i64 y2, .int .u64 0, .string y5, .int .u64 y3, .string y6, .string y7, .int .i64 y4, .string y8] 63))
    have HD6 := Lib.hid (HD5.out.alloc HD5.out.size (.cells #[.int .u8 y0, .int .i64 y1, .int .i64 y2, .int .u64 0, .string y5, .int .u64 y3, .string y6, .string y7, .int .i64 y4, .string y8] 63))
    obtain ⟨r0, r1, r2, r3, r4, r5, r6, r7, r8⟩ := HXR.out _ HD6.out
    obtain ⟨x0, x1, x2, x3⟩ := HXS.out _ HD6.out
    by_cases c1 : CE = 0
    case neg =>
      have d2 : ((CE : Int) != 0) = true := by simp; omega
      have HE := Lib.hid (show RR = false from by rw [HR4.out]; simp [c1])
      go_wp2_with fail
      exact bodyPost_ret (v := .bool false) (by simp [results, Tryz.results43, go_sem]) rfl ⟨by rw [HE.out], HB6.out⟩
    subst c1
    have d2 : (((0 : Nat) : Int) != 0) = false := by decide
    by_cases z1 : r.wh = 0
    · have wz : (r.wh != 0) = false := by simp [z1]
      have wy : (r.wh == 0) = true := by simp [z1]
      have HE := Lib.hid (show RR = false from by rw [HR4.out]; simp [z1])
      go_wp2_with fail
      exact bodyPost_ret (v := .bool false) (by simp [results, Tryz.results43, go_sem]) rfl ⟨by rw [HE.out], HB6.out⟩
    · have wz : (r.wh != 0) = true := by simp [z1]
      have wy : (r.wh == 0) = false := by simp [z1]
      have HRZ := Lib.hid (show RR = endsA r from by rw [HR4.out]; simp [z1])
      clear z1
      generalize hst : r.st = st at *
      by_cases v1 : r.tr = 0 <;> by_cases v2 : r.vl = [] <;> cases st
      all_goals
        first | (have b1 : (r.tr == 0) = true := by rw [beq_iff_eq]; exact v1) | (have b1 : (r.tr == 0) = false := by rw [beq_eq_false_iff_ne]; exact v1)
        first | (have b2 : (bT r.vl).toList.isEmpty = true := by rw [bT_list, v2]; rfl) | (have b2 : (bT r.vl).toList.isEmpty = false := by rw [bT_list, List.isEmpty_eq_false_iff]; exact v2)
        have V1 := Lib.hid v1
        have V2 := Lib.hid v2
        have V3 := Lib.hid hst
        clear v1 v2 hst
        go_wp2_with fail
        refine bodyPost_ret (v := .bool _) (by simp [results, Tryz.results43, go_sem]; rfl) rfl ⟨?_, HB6.out⟩
        rw [HRZ.out]
        unfold endsA
        have h1 := V1.out
        have h2 := V2.out
        have h3 := V3.out
        simp [h1, h2, h3, p2]
  by_cases p5 : r.ph = 5
  · have k1 : ((r.ph : Int) == 1) = false := by rw [beq_eq_false_iff_ne]; omega
    have k2 : ((r.ph : Int) == 2) = false := by rw [beq_eq_false_iff_ne]; omega
    have k3 : ((r.ph : Int) == 3) = false := by rw [beq_eq_false_iff_ne]; omega
    have k4 : ((r.ph : Int) == 4) = false := by rw [beq_eq_false_iff_ne]; omega
    have k5 : ((r.ph : Int) == 5) = true := by rw [beq_iff_eq]; omega
    have HR4 := Lib.hid (show RR = (decide (CE = 0) && !decide (r.wh = 0) && endsA r) from by rw [HR3.out]; unfold phaseA; rw [HCE.out]; simp [p5])
    go_wp2_with fail
    refine HCc.out.mono ?_
    rintro e w5 ⟨⟨y0, y1, y2, y3, y4, y5, y6, y7, y8, rfl⟩, hb⟩
    have HB5 := Lib.hid (HB4.out.trans (hb.mono HB4.out.size))
    have HD5 := Lib.hid (HD4.out.trans (hb.mono HD4.out.size))
    clear hb HCc
    clear r0 r1 r2 r3 r4 r5 r6 r7 r8 x0 x1 x2 x3
    have HB6 := Lib.hid (HB5.out.alloc HB5.out.size (.cells #[.int .u8 y0, .int .i64 y1, .int .i64 y2, .int .u64 0, .string y5, .int .u64 y3, .string y6, .string y7, .int .i64 y4, .string y8] 63))
    have HD6 := Lib.hid (HD5.out.alloc HD5.out.size (.cells #[.int .u8 y0, .int .i64 y1, .int .i64 y2, .int .u64 0, .string y5, .int .u64 y3, .string y6, .string y7, .int .i64 y4, .string y8] 63))
    obtain ⟨r0, r1, r2, r3, r4, r5, r6, r7, r8⟩ := HXR.out _ HD6.out
    obtain ⟨x0, x1, x2, x3⟩ := HXS.out _ HD6.out
    by_cases c1 : CE = 0
    case neg =>
      have d2 : ((CE : Int) != 0) = true := by simp; omega
      have HE := Lib.hid (show RR = false from by rw [HR4.out]; simp [c1])
      go_wp2_with fail
      exact bodyPost_ret (v := .bool false) (by simp [results, Tryz.results43, go_sem]) rfl ⟨by rw [HE.out], HB6.out⟩
    subst c1
    have d2 : (((0 : Nat) : Int) != 0) = false := by decide
    by_cases z1 : r.wh = 0
    · have wz : (r.wh != 0) = false := by simp [z1]
      have wy : (r.wh == 0) = true := by simp [z1]
      have HE := Lib.hid (show RR = false from by rw [HR4.out]; simp [z1])
      go_wp2_with fail
      exact bodyPost_ret (v := .bool false) (by simp [results, Tryz.results43, go_sem]) rfl ⟨by rw [HE.out], HB6.out⟩
    · have wz : (r.wh != 0) = true := by simp [z1]
      have wy : (r.wh == 0) = false := by simp [z1]
      have HRZ := Lib.hid (show RR = endsA r from by rw [HR4.out]; simp [z1])
      clear z1
      generalize hst : r.st = st at *
      by_cases v1 : r.tr = 0 <;> by_cases v2 : r.vl = [] <;> cases st
      all_goals
        first | (have b1 : (r.tr == 0) = true := by rw [beq_iff_eq]; exact v1) | (have b1 : (r.tr == 0) = false := by rw [beq_eq_false_iff_ne]; exact v1)
        first | (have b2 : (bT r.vl).toList.isEmpty = true := by rw [bT_list, v2]; rfl) | (have b2 : (bT r.vl).toList.isEmpty = false := by rw [bT_list, List.isEmpty_eq_false_iff]; exact v2)
        have V1 := Lib.hid v1
        have V2 := Lib.hid v2
        have V3 := Lib.hid hst
        clear v1 v2 hst
        go_wp2_with fail
        refine bodyPost_ret (v := .bool _) (by simp [results, Tryz.results43, go_sem]; rfl) rfl ⟨?_, HB6.out⟩
        rw [HRZ.out]
        unfold endsA
        have h1 := V1.out
        have h2 := V2.out
        have h3 := V3.out
        simp [h1, h2, h3, p5]
  have k1 : ((r.ph : Int) == 1) = false := by rw [beq_eq_false_iff_ne]; omega
  have k2 : ((r.ph : Int) == 2) = false := by rw [beq_eq_false_iff_ne]; omega
  have k3 : ((r.ph : Int) == 3) = false := by rw [beq_eq_false_iff_ne]; omega
  have k4 : ((r.ph : Int) == 4) = false := by rw [beq_eq_false_iff_ne]; omega
  have k5 : ((r.ph : Int) == 5) = false := by rw [beq_eq_false_iff_ne]; omega
  have HE := Lib.hid (show RR = false from by rw [HR3.out]; unfold phaseA; simp [p1, p2, p3, p4, p5])
  go_wp2_with fail
  exact bodyPost_ret (v := .bool false) (by simp [results, Tryz.results43, go_sem]) rfl ⟨by rw [HE.out], HB4.out⟩
end Go.Proofs.YtgoejmheihgpfaaGreatDoor
