/-
  model's ledger.add.
-/
import Derived.Test.YtgoejmheihgpfaaGreatDoorRv
namespace Go.Proofs.YtgoejmheihgpfaaGreatDoor
open Go.RowKit

/-- an entry -/
structure Ent where
  stamp : Int
  key : Tx
  sv : Tx
  mt : Tx
  acc : Tx
  am : Int
def entC (e : Ent) : Array Value := #[.int .u64 e.stamp, .string (bT e.key), .string (bT e.sv), .string (bT e.mt), .string (bT e.acc), .int .i64 e.am]
def okE (s : Sch) (e : Ent) : Bool := (mthOf s e.sv e.mt).isSome && decide (1 ≤ e.acc.length) && decide (e.acc.length ≤ 64) && decide (0 ≤ e.am) && decide (e.am ≤ 1099511627776)
def effA (y : Tx) (n a : Int) : Int := if y = wGive then n + a else if y = wTake then n - a else n
def newN (s : Sch) (F : Mp) (e : Ent) : Int := effA (mOr (mthOf s e.sv e.mt)).effect (mget F e.acc) e.am
def inA (n : Int) : Bool := decide (0 ≤ n) && decide (n ≤ 1099511627776)
theorem MapT.away {m : Nat} {w w' : World} (h : MapT m w w') : Aw m w w' := ⟨h.os, h.tape, h.output, Nat.le_of_eq h.size.symm, fun j _ hn => h.block j hn⟩
set_option maxRecDepth 100000 in
set_option maxHeartbeats 8000000 in
theorem add_any (w : World) (s : Sch) (ur us ug : Value) (hS : SchR w s ur us ug) (hM : Small s) (m : Nat) (F : Mp) (hF : HasMap w m F) (hl : F.length ≤ 1000000) (e : Ent) (hacc : e.acc.length ≤ 1000000) (hn : inA (mget F e.acc) = true) :
    Calls Tryz.prog 22 #[.agg #[.string (bT s.name), ur, us, ug, .map (some m)], .agg (entC e)] w fun x w' => ((x = .returned (.bool false) ∧ okE s e = false) ∨ (x = .returned (.bool (inA (newN s F e))) ∧ okE s e = true ∧ HasMap w' m (mput F e.acc (newN s F e)))) ∧ Aw m w w' := by
  obtain ⟨⟨ra, rv, rfl⟩, ⟨sa, sv, rfl⟩, ⟨ga, gv, rfl⟩⟩ := hS.shape
  have HME := Lib.hid (fun W (h : Below w.heap.size w W) => method_any W s _ _ _ (hS.below h) hM e.sv e.mt)
  have HOK := Lib.hid (show okE s e = ((mthOf s e.sv e.mt).isSome && decide (1 ≤ e.acc.length) && decide (e.acc.length ≤ 64) && decide (0 ≤ e.am) && decide (e.am ≤ 1099511627776)) from rfl)
  have HNN := Lib.hid (show newN s F e = effA (mOr (mthOf s e.sv e.mt)).effect (mget F e.acc) e.am from rfl)
  unfold entC
  generalize okE s e = OK at *
  generalize newN s F e = NN at *
  generalize mthOf s e.sv e.mt = M at *
  generalize mOr M = mm at *
  obtain ⟨mn, ma, mr, me, mu⟩ := mm
  have HMF := Lib.hid hF
  clear hS hM hF
  go_enter Tryz.func22, Tryz.ntmps22
  go_upto_region 1 with (fail)
  generalize hwa : ((w.alloc (.cells #[.string (bT s.name), .slice ra s.records.length rv, .slice sa s.services.length sv, .slice ga s.sagas.length gv, .map (some m)] 84)).alloc (.cells #[.int .u64 e.stamp, .string (bT e.key), .string (bT e.sv), .string (bT e.mt), .string (bT e.acc), .int .i64 e.am] 71)) = wa
  have HBa := Lib.hid (show Below w.heap.size w wa from hwa ▸ ((Below.refl _ w).alloc (Nat.le_refl _) _).alloc (by simp) _)
  have HXa := Lib.hid (show wa.heap[w.heap.size]? = some (.cells #[.string (bT s.name), .slice ra s.records.length rv, .slice sa s.services.length sv, .slice ga s.sagas.length gv, .map (some m)] 84 (0, 0)) from hwa ▸ (Below.heap_alloc _ _ _ (by simp)).trans (heap_alloc_new _ _))
  have HYa := Lib.hid (show wa.heap[w.heap.size + 1]? = some (.cells #[.int .u64 e.stamp, .string (bT e.key), .string (bT e.sv), .string (bT e.mt), .string (bT e.acc), .int .i64 e.am] 71 (0, 0)) from hwa ▸ heap_alloc_new2 _ _ _)
  have hza : wa.heap.size = w.heap.size + 2 := by rw [← hwa]; simp
  clear hwa
  have hlm := HMF.out.lt
  have HXX := Lib.hid (fun W (h : Below wa.heap.size wa W) => show W.cell? ⟨w.heap.size, 0, none⟩ = some (.string (bT s.name)) ∧ W.cell? ⟨w.heap.size, 1, none⟩ = some (.slice ra s.records.length rv) ∧ W.cell? ⟨w.heap.size, 2, none⟩ = some (.slice sa s.services.length sv) ∧ W.cell? ⟨w.heap.size, 3, none⟩ = some (.slice ga s.sagas.length gv) ∧ W.cell? ⟨w.heap.size, 4, none⟩ = some (.map (some m)) from by
    have := (h.block w.heap.size (by omega)).trans HXa.out
    simp [World.cell?, this])
  have HXE := Lib.hid (fun W (h : Below wa.heap.size wa W) => show W.cell? ⟨w.heap.size + 1, 0, none⟩ = some (.int .u64 e.stamp) ∧ W.cell? ⟨w.heap.size + 1, 1, none⟩ = some (.string (bT e.key)) ∧ W.cell? ⟨w.heap.size + 1, 2, none⟩ = some (.string (bT e.sv)) ∧ W.cell? ⟨w.heap.size + 1, 3, none⟩ = some (.string (bT e.mt)) ∧ W.cell? ⟨w.heap.size + 1, 4, none⟩ = some (.string (bT e.acc)) ∧ W.cell? ⟨w.heap.size + 1, 5, none⟩ = some (.int .i64 e.am) from by
    have := (h.block (w.heap.size + 1) (by omega)).trans HYa.out
    simp [World.cell?, this])
  have HDa := Lib.hid (Below.refl wa.heap.size wa)
  clear hza
  obtain ⟨x0, x1, x2, x3, x4⟩ := HXX.out wa HDa.out
  obtain ⟨r0, r1, r2, r3, r4, r5⟩ := HXE.out wa HDa.out
  have HMc := Lib.hid (HME.out wa HBa.out)
  unfold mV at HMc
  go_wp2_with fail
  refine HMc.out.mono ?_
  rintro e' w2 ⟨rfl, hb⟩
  have HB2 := Lib.hid (HBa.out.trans (hb.mono HBa.out.size))
  have HD2 := Lib.hid hb
  clear hb HMc HME x0 x1 x2 x3 x4 r0 r1 r2 r3 r4 r5
  go_upto_region 2 with (fail)
  have HMM := Lib.hid (heap_alloc_new w2 (.cells #[.string (bT mn), .string (bT ma), .int .u8 (mr : Nat), .string (bT me), .string (bT mu)] 92))
  have HB3 := Lib.hid (HB2.out.alloc HB2.out.size (.cells #[.string (bT mn), .string (bT ma), .int .u8 (mr : Nat), .string (bT me), .string (bT mu)] 92))
  have HD3 := Lib.hid (HD2.out.alloc HD2.out.size (.cells #[.string (bT mn), .string (bT ma), .int .u8 (mr : Nat), .string (bT me), .string (bT mu)] 92))
  generalize w2.alloc (.cells #[.string (bT mn), .string (bT ma), .int .u8 (mr : Nat), .string (bT me), .string (bT mu)] 92) = w3 at *
  obtain ⟨x0, x1, x2, x3, x4⟩ := HXX.out w3 HD3.out
  obtain ⟨r0, r1, r2, r3, r4, r5⟩ := HXE.out w3 HD3.out
  have me3 : w3.cell? ⟨w2.heap.size, 3, none⟩ = some (.string (bT me)) := by simp only [World.cell?, HMM.out]; rfl
  have hsz := bT_size e.acc
  have hn2 : 0 ≤ mget F e.acc ∧ mget F e.acc ≤ 1099511627776 := by unfold inA at hn; simpa using hn
  clear hn
  cases hM : M.isSome with
  | false =>
    have HE := Lib.hid (show OK = false from by rw [HOK.out, hM]; rfl)
    go_wp2_with fail
    exact bodyPost_ret (v := .bool false) (by simp [results, Tryz.results22, go_sem]) rfl ⟨.inl ⟨rfl, HE.out⟩, Aw.below HB3.out⟩
  | true =>
    by_cases t0 : (e.acc.length : Int) < 1
    · have e0 : decide ((e.acc.length : Int) < 1) = true := decide_eq_true t0
      have HNu := Lib.hid (show OK = false from by rw [HOK.out, hM]; simp only [Bool.true_and, Bool.and_eq_false_iff, decide_eq_false_iff_not]; omega)
      have HE := Lib.hid (show OK = false from by exact HNu.out)
      go_wp2_with fail
      exact bodyPost_ret (v := .bool false) (by simp [results, Tryz.results22, go_sem]) rfl ⟨.inl ⟨rfl, HE.out⟩, Aw.below HB3.out⟩
    have e0 : decide ((e.acc.length : Int) < 1) = false := decide_eq_false t0
    by_cases t1 : 64 < (e.acc.length : Int)
    · have e1 : decide (64 < (e.acc.length : Int)) = true := decide_eq_true t1
      have HNu := Lib.hid (show OK = false from by rw [HOK.out, hM]; simp only [Bool.true_and, Bool.and_eq_false_iff, decide_eq_false_iff_not]; omega)
      have HE := Lib.hid (show OK = false from by exact HNu.out)
      go_wp2_with fail
      exact bodyPost_ret (v := .bool false) (by simp [results, Tryz.results22, go_sem]) rfl ⟨.inl ⟨rfl, HE.out⟩, Aw.below HB3.out⟩
    have e1 : decide (64 < (e.acc.length : Int)) = false := decide_eq_false t1
    by_cases t2 : e.am < 0
    · have e2 : decide (e.am < 0) = true := decide_eq_true t2
      have HNu := Lib.hid (show OK = false from by rw [HOK.out, hM]; simp only [Bool.true_and, Bool.and_eq_false_iff, decide_eq_false_iff_not]; omega)
      have HE := Lib.hid (show OK = false from by exact HNu.out)
      go_wp2_with fail
      exact bodyPost_ret (v := .bool false) (by simp [results, Tryz.results22, go_sem]) rfl ⟨.inl ⟨rfl, HE.out⟩, Aw.below HB3.out⟩
    have e2 : decide (e.am < 0) = false := decide_eq_false t2
    by_cases t3 : 1099511627776 < e.am
    · have e3 : decide (1099511627776 < e.am) = true := decide_eq_true t3
      have HNu := Lib.hid (show OK = false from by rw [HOK.out, hM]; simp only [Bool.true_and, Bool.and_eq_false_iff, decide_eq_false_iff_not]; omega)
      have HE := Lib.hid (show OK = false from by exact HNu.out)
      go_wp2_with fail
      exact bodyPost_ret (v := .bool false) (by simp [results, Tryz.results22, go_sem]) rfl ⟨.inl ⟨rfl, HE.out⟩, Aw.below HB3.out⟩
    have e3 : decide (1099511627776 < e.am) = false := decide_eq_false t3
    have HOk := Lib.hid (show OK = true from by rw [HOK.out, hM]; simp only [Bool.true_and, Bool.and_eq_true, decide_eq_true_eq]; omega)
    have HM3 := Lib.hid (HMF.out.below HB3.out)
    have hlk := HM3.out.look Tryz.underlying82 (zero_int64 w3) hacc
    generalize mget F e.acc = n0 at *
    have hwp : IntKind.i64.wrap (n0 + e.am) = n0 + e.am := IntWalk.i64_in _ (by omega)
    have hwm : IntKind.i64.wrap (n0 - e.am) = n0 - e.am := IntWalk.i64_in _ (by omega)
    try dsimp only at HNN
    have e_g : ((bT me).toList == [103, 105, 118, 101]) = decide (me = wGive) := bT_is _ wGive
    have e_t : ((bT me).toList == [116, 97, 107, 101]) = decide (me = wTake) := bT_is _ wTake
    by_cases g1 : me = wGive
    · rw [decide_eq_true g1] at e_g
      have HNe := Lib.hid (show NN = n0 + e.am from by rw [HNN.out]; unfold effA; rw [if_pos g1])
      clear HNN g1
      obtain ⟨w4, hrun, hm4, htu⟩ := HM3.out.put Tryz.underlying82 hacc (by unfold maxLen; omega) (n0 + e.am)
      have HM4 := Lib.hid hm4
      have HT4 := Lib.hid (MapT.of htu)
      clear hm4 htu
      by_cases z1 : n0 + e.am < 0
      · omega
      have z2 : decide (0 ≤ n0 + e.am) = true := by rw [decide_eq_true_eq]; omega
      by_cases z3 : 1099511627776 < n0 + e.am
      · have z4 : decide (n0 + e.am ≤ 1099511627776) = false := by rw [decide_eq_false_iff_not]; omega
        have HI := Lib.hid (show inA (n0 + e.am) = false from by unfold inA; rw [z2, z4]; rfl)
        go_wp2_with fail
        exact bodyPost_ret (v := .bool false) (by simp [results, Tryz.results22, go_sem]) rfl ⟨.inr ⟨by rw [HNe.out, HI.out], HOk.out, by rw [HNe.out]; exact HM4.out⟩, (Aw.below HB3.out).trans HT4.out.away⟩
      have z4 : decide (n0 + e.am ≤ 1099511627776) = true := by rw [decide_eq_true_eq]; omega
      have HI := Lib.hid (show inA (n0 + e.am) = true from by unfold inA; rw [z2, z4]; rfl)
      go_wp2_with fail
      exact bodyPost_ret (v := .bool true) (by simp [results, Tryz.results22, go_sem]) rfl ⟨.inr ⟨by rw [HNe.out, HI.out], HOk.out, by rw [HNe.out]; exact HM4.out⟩, (Aw.below HB3.out).trans HT4.out.away⟩
    rw [decide_eq_false g1] at e_g
    by_cases g2 : me = wTake
    · rw [decide_eq_true g2] at e_t
      have HNe := Lib.hid (show NN = n0 - e.am from by rw [HNN.out]; unfold effA; rw [if_neg g1, if_pos g2])
      clear HNN g1 g2
      obtain ⟨w4, hrun, hm4, htu⟩ := HM3.out.put Tryz.underlying82 hacc (by unfold maxLen; omega) (n0 - e.am)
      have HM4 := Lib.hid hm4
      have HT4 := Lib.hid (MapT.of htu)
      clear hm4 htu
      by_cases z1 : n0 - e.am < 0
      · have z2 : decide (0 ≤ n0 - e.am) = false := by rw [decide_eq_false_iff_not]; omega
        have HI := Lib.hid (show inA (n0 - e.am) = false from by unfold inA; rw [z2]; rfl)
        go_wp2_with fail
        exact bodyPost_ret (v := .bool false) (by simp [results, Tryz.results22, go_sem]) rfl ⟨.inr ⟨by rw [HNe.out, HI.out], HOk.out, by rw [HNe.out]; exact HM4.out⟩, (Aw.below HB3.out).trans HT4.out.away⟩
      have z2 : decide (0 ≤ n0 - e.am) = true := by rw [decide_eq_true_eq]; omega
      by_cases z3 : 1099511627776 < n0 - e.am
      · omega
      have z4 : decide (n0 - e.am ≤ 1099511627776) = true := by rw [decide_eq_true_eq]; omega
      have HI := Lib.hid (show inA (n0 - e.am) = true from by unfold inA; rw [z2, z4]; rfl)
      go_wp2_with fail
      exact bodyPost_ret (v := .bool true) (by simp [results, Tryz.results22, go_sem]) rfl ⟨.inr ⟨by rw [HNe.out, HI.out], HOk.out, by rw [HNe.out]; exact HM4.out⟩, (Aw.below HB3.out).trans HT4.out.away⟩
    rw [decide_eq_false g2] at e_t
    have HNe := Lib.hid (show NN = n0 from by rw [HNN.out]; unfold effA; rw [if_neg g1, if_neg g2])
    clear HNN g1 g2
    obtain ⟨w4, hrun, hm4, htu⟩ := HM3.out.put Tryz.underlying82 hacc (by unfold maxLen; omega) (n0)
    have HM4 := Lib.hid hm4
    have HT4 := Lib.hid (MapT.of htu)
    clear hm4 htu
    by_cases z1 : n0 < 0
    · omega
    have z2 : decide (0 ≤ n0) = true := by rw [decide_eq_true_eq]; omega
    by_cases z3 : 1099511627776 < n0
    · omega
    have z4 : decide (n0 ≤ 1099511627776) = true := by rw [decide_eq_true_eq]; omega
    have HI := Lib.hid (show inA (n0) = true from by unfold inA; rw [z2, z4]; rfl)
    go_wp2_with fail
    exact bodyPost_ret (v := .bool true) (by simp [results, Tryz.results22, go_sem]) rfl ⟨.inr ⟨by rw [HNe.out, HI.out], HOk.out, by rw [HNe.out]; exact HM4.out⟩, (Aw.below HB3.out).trans HT4.out.away⟩
end Go.Proofs.YtgoejmheihgpfaaGreatDoor
