/-
  slices.ContainsFunc at []api.Entry; model's step.serve.
-/
import Derived.Test.YtgoejmheihgpfaaGreatDoorSj
import Derived.BigFrame
namespace Go.Proofs.YtgoejmheihgpfaaGreatDoor
open Go.RowKit

/-- an operation that is not wanted, ahead of a drawn region's tail -/
theorem still_skip {P : Program} {ops : Array Oper} {w : World} {Q : Act → Prop} {a : Act} {o : Oper} {rest : List Oper} (hw : Region.wanted o (yielded ops a.tmps) = false) (h : wpStill P ops w Q rest (a.put o.dst undef)) : wpStill P ops w Q (o :: rest) a :=
  wpStill_step fun K hK => by rw [if_neg (by rw [hw]; decide)]; exact hK _ h
/-- a load of a struct as one step of a plain list -/
theorem wpList_loadS {P : Program} {ops : Array Oper} {w : World} {Q : Exit → Act → World → Prop} {a : Act} {o : Oper} {rest : List Oper} (ty : TypeId) (x : Operand) (ho : o.op = .load ty x) (hw : Region.wanted o (yielded ops a.tmps) = true) (b f : Nat) (hx : a.eval x = .pointer (some ⟨b, f, none⟩)) (v : Value)
    (hrun : (loadVar ty ⟨b, f, none⟩).run P w = .ok v w) (h : wpList P ops Q rest (a.put o.dst v) w) : wpList P ops Q (o :: rest) a w :=
  BigFrame.wpList_want hw fun K hK => by
    unfold Oper.wp execOp
    simp only [ho, hx, Instr.loadAt, Instr.sureAddr, Sem.run_bind, Sem.run_pure, Result.andThen_ok, hrun]
    exact hK _ _ h
set_option maxRecDepth 100000 in
set_option maxHeartbeats 4000000 in
theorem serve1_any (w : World) (x e : Ent) (eb : Nat) (he : w.heap[eb]? = some (.cells #[.int .u64 e.stamp, .string (bT e.key), .string (bT e.sv), .string (bT e.mt), .string (bT e.acc), .int .i64 e.am] 71 (0, 0))) :
    Calls Tryz.prog 71 #[.agg #[.int .u64 x.stamp, .string (bT x.key), .string (bT x.sv), .string (bT x.mt), .string (bT x.acc), .int .i64 x.am], .pointer (some ⟨eb, 0, none⟩)] w fun y w' => y = .returned (.bool (decide (x.key = e.key))) ∧ Below w.heap.size w w' := by
  have hel : eb < w.heap.size := (Array.getElem?_eq_some_iff.1 he).1
  have HBw := Lib.hid (bl1 w (.cells #[.int .u64 x.stamp, .string (bT x.key), .string (bT x.sv), .string (bT x.mt), .string (bT x.acc), .int .i64 x.am] 71))
  have he2 := (HBw.out.block _ hel).trans he
  have r1 : (w.alloc (.cells #[.int .u64 x.stamp, .string (bT x.key), .string (bT x.sv), .string (bT x.mt), .string (bT x.acc), .int .i64 x.am] 71)).cell? ⟨eb, 1, none⟩ = some (.string (bT e.key)) := by simp only [World.cell?, he2]; rfl
  have e_n := bT_same x.key e.key
  have HE := Lib.hid e_n
  clear he he2
  go_enter Tryz.func71, Tryz.ntmps71
  go_wp2_with fail
  exact bodyPost_ret (v := .bool (decide (x.key = e.key))) (by simp [results, Tryz.results71, go_sem]) rfl ⟨rfl, HBw.out⟩
/-- a place, or none -/
def IdxR (b : Bool) (x : Ending) : Prop := ∃ n : Int, x = .returned (.int .i64 n) ∧ decide (0 ≤ n) = b
theorem any_next {α : Type} {p : α → Bool} {L : List α} {k : Nat} (h : k < L.length) : (L.drop k).any p = (p L[k] || (L.drop (k + 1)).any p) := by
  rw [List.drop_eq_getElem_cons h]; rfl
theorem any_end {α : Type} {p : α → Bool} {L : List α} {k : Nat} (h : ¬ k < L.length) : (L.drop k).any p = false := by
  rw [List.drop_of_length_le (by omega)]; rfl
set_option maxRecDepth 100000 in
set_option maxHeartbeats 4000000 in
theorem indexE_any (w : World) (va : Value) (L : List Ent) (hA : Slc w 6 va L.length (ecells L)) (e : Ent) (eb : Nat) (he : w.heap[eb]? = some (.cells #[.int .u64 e.stamp, .string (bT e.key), .string (bT e.sv), .string (bT e.mt), .string (bT e.acc), .int .i64 e.am] 71 (0, 0))) :
    Calls Tryz.prog 99 #[va, .func (.func 71) #[] #[.pointer (some ⟨eb, 0, none⟩)]] w fun x w' => IdxR (L.any (fun x => decide (x.key = e.key))) x ∧ Below w.heap.size w w' := by
  obtain ⟨la, lc, rfl⟩ := hA.shape
  have hel : eb < w.heap.size := (Array.getElem?_eq_some_iff.1 he).1
  have HA := Lib.hid hA
  have hn := hA.bd
  have HF := Lib.hid (fun W (X : Below w.heap.size w W) x => serve1_any W x e eb ((X.block _ hel).trans he))
  have HE := Lib.hid (show L.any (fun x => decide (x.key = e.key)) = (L.drop 0).any (fun x => decide (x.key = e.key)) from rfl)
  generalize L.any (fun x => decide (x.key = e.key)) = E at *
  clear hA he
  go_enter Tryz.func99, Tryz.ntmps99
  go_wp2_with fail
  go_loopw [5, 8] (fun _ vi wr => ∃ k : Nat, k ≤ L.length ∧ vi = .int .i64 (k : Nat) ∧ Hid (Below w.heap.size w wr) ∧ Hid (E = (L.drop k).any (fun x => decide (x.key = e.key)))) (fun _ vi _ => L.length - (intOf vi).toNat)
  case atStart => exact ⟨0, by omega, rfl, Lib.hid (Below.refl _ _), HE⟩
  case round =>
    clear HE
    rename World => wr
    obtain ⟨k, hk, rfl, HBr, HE⟩ := hrel
    by_cases hlt : k < L.length
    case neg =>
      have HN := Lib.hid (HE.out.trans (any_end hlt))
      go_wp2_with fail
      exact bodyPost_ret (v := .int .i64 (-1)) (by simp [results, Tryz.results99, go_sem]) rfl ⟨⟨-1, rfl, by rw [HN.out]; rfl⟩, HBr.out⟩
    obtain ⟨b1, o1, rfl, hb1, p0, p1, p2, p3, p4, p5⟩ := ent_at (HA.out.below HBr.out) hlt
    have HN := Lib.hid (HE.out.trans (any_next hlt))
    generalize L[k] = x at *
    have HFc := Lib.hid (HF.out wr HBr.out x)
    generalize decide (x.key = e.key) = q at *
    go_wp2_with fail
    refine HFc.out.mono ?_
    rintro e' w2 ⟨rfl, hb⟩
    have HB2 := Lib.hid (HBr.out.trans (hb.mono HBr.out.size))
    clear hb HFc
    cases q with
    | true =>
      rw [Bool.true_or] at HN
      go_wp2_with fail
      exact bodyPost_ret (v := .int .i64 (k : Nat)) (by simp [results, Tryz.results99, go_sem]) rfl ⟨⟨(k : Nat), rfl, by rw [HN.out]; exact decide_eq_true (by omega)⟩, HB2.out⟩
    | false =>
      rw [Bool.false_or] at HN
      go_wp2_with fail
      exact ⟨⟨k + 1, by omega, by go_num, HB2, HN⟩, by simp [intOf]; omega⟩
set_option maxRecDepth 100000 in
set_option maxHeartbeats 4000000 in
theorem containsE_any (w : World) (va : Value) (L : List Ent) (hA : Slc w 6 va L.length (ecells L)) (e : Ent) (eb : Nat) (he : w.heap[eb]? = some (.cells #[.int .u64 e.stamp, .string (bT e.key), .string (bT e.sv), .string (bT e.mt), .string (bT e.acc), .int .i64 e.am] 71 (0, 0))) :
    Calls Tryz.prog 70 #[va, .func (.func 71) #[] #[.pointer (some ⟨eb, 0, none⟩)]] w fun x w' => x = .returned (.bool (L.any (fun x => decide (x.key = e.key)))) ∧ Below w.heap.size w w' := by
  obtain ⟨la, lc, rfl⟩ := hA.shape
  have HI := Lib.hid (indexE_any w _ L hA e eb he)
  generalize L.any (fun x => decide (x.key = e.key)) = E at *
  clear hA he
  go_enter Tryz.func70, Tryz.ntmps70
  go_wp2_with fail
  refine HI.out.mono ?_
  rintro e' w2 ⟨⟨n, rfl, hn⟩, hb⟩
  have HB2 := Lib.hid hb
  have HN := Lib.hid hn
  clear hb hn
  go_wp2_with fail
  exact bodyPost_ret (v := .bool (decide (0 ≤ n))) (by simp [results, Tryz.results70, go_sem]) rfl ⟨by rw [HN.out], HB2.out⟩
theorem slcE_front {w : World} {a : Option Addr} {c : Nat} {L : List Ent} (h : Slc w 6 (.slice a L.length c) L.length (ecells L)) (k : Nat) (hk : k ≤ L.length) : Slc w 6 (.slice a k c) (L.take k).length (ecells (L.take k)) := by
  obtain ⟨⟨a', c', e, q1, q2, q3, q4⟩, ql⟩ := h
  injection e with e1 _ e3
  subst e1 e3
  have hl : (L.take k).length = k := by rw [List.length_take]; omega
  have hel : ∀ T : List Ent, (ecells T).length = T.length * 6 := fun T => by
    unfold ecells
    induction T with
    | nil => rfl
    | cons x r ih => rw [List.flatMap_cons, List.length_append, ih, List.length_cons]; simp [entC]; omega
  have hpre : ecells L = ecells (L.take k) ++ ecells (L.drop k) := by unfold ecells; rw [← List.flatMap_append, List.take_append_drop]
  refine ⟨⟨a, c, by rw [hl], by omega, q2, q3, fun h0 => ?_⟩, hel _⟩
  obtain ⟨b, o, e, hb, hc⟩ := q4 (by omega)
  exact ⟨b, o, e, hb, fun j u hu => hc j u (by rw [hpre, List.getElem?_append_left (List.getElem?_eq_some_iff.1 hu).1]; exact hu)⟩
def ent0 : Ent := ⟨0, [], [], [], [], 0⟩
/-- is there one more entry? -/
def serveA (s : Sch) (nw : Int) (L R : List Ent) (M N : List Mrk) (da db : Int) : Bool :=
  decide (R.length = L.length + 1) && decide (da = db) && entsEq L (R.take L.length) && othersA nw (-1) M N && !(decide (0 < L.length) && decide ((R.getD L.length ent0).stamp ≤ (L.getD (L.length - 1) ent0).stamp)) && !(L.any (fun x => decide (x.key = (R.getD L.length ent0).key))) && (balA s R []).isSome
set_option maxRecDepth 100000 in
set_option maxHeartbeats 16000000 in
theorem serve_any (w : World) (s : Sch) (ra sa ga la ma lb mb : Option Addr) (rv sv gv lc mc le me : Nat) (pf pc pn pd ps pm kp nn th nw da db : Int) (L R : List Ent) (M N : List Mrk) (hS : SchR w s (.slice ra s.records.length rv) (.slice sa s.services.length sv) (.slice ga s.sagas.length gv)) (hM : Small s) (hA : Slc w 6 (.slice la L.length lc) L.length (ecells L)) (hB : Slc w 6 (.slice lb R.length le) R.length (ecells R)) (hC : Slc w 14 (.slice ma M.length mc) M.length (mkcells M)) (hD : Slc w 14 (.slice mb N.length me) N.length (mkcells N)) (hn1 : L.length ≤ 1000) (hn2 : R.length ≤ 1000) (hn3 : M.length ≤ 1000) (hacc : ∀ e ∈ R, e.acc.length ≤ 1000000) :
    Calls Tryz.prog 40 #[.agg #[.string (bT s.name), .slice ra s.records.length rv, .slice sa s.services.length sv, .slice ga s.sagas.length gv, .int .i64 pf, .int .i64 pc, .int .i64 pn, .int .i64 pd, .int .i64 ps, .int .i64 pm, .int .i64 kp, .int .i64 nn, .int .i64 th, .int .i64 nw, .slice la L.length lc, .slice ma M.length mc, .int .i64 da, .slice lb R.length le, .slice mb N.length me, .int .i64 db]] w fun x w' => x = .returned (.bool (serveA s nw L R M N da db)) ∧ Below w.heap.size w w' := by
  have HA := Lib.hid (fun W (X : Below w.heap.size w W) => hA.below X)
  have HB := Lib.hid (fun W (X : Below w.heap.size w W) => hB.below X)
  have hcap : R.length ≤ le := by obtain ⟨⟨_, _, e, h, _⟩, _⟩ := hB; cases e; exact h
  have HOT := Lib.hid (fun W (X : Below w.heap.size w W) => others_any W s ra sa ga la ma lb mb rv sv gv lc mc le me pf pc pn pd ps pm kp nn th nw da db L R M N (-1) (hC.below X) (hD.below X) hn3)
  have HBA := Lib.hid (fun W (X : Below w.heap.size w W) => balances_any W s _ _ _ (hS.below X) hM _ R (hB.below X) hn2 hacc)
  have HP := Lib.hid (show serveA s nw L R M N da db = (decide (R.length = L.length + 1) && decide (da = db) && entsEq L (R.take L.length) && othersA nw (-1) M N && !(decide (0 < L.length) && decide ((R.getD L.length ent0).stamp ≤ (L.getD (L.length - 1) ent0).stamp)) && !(L.any (fun x => decide (x.key = (R.getD L.length ent0).key))) && (balA s R []).isSome) from rfl)
  generalize serveA s nw L R M N da db = V at *
  clear hS hM hA hB hC hD hacc
  go_enter Tryz.func40, Tryz.ntmps40
  go_upto_region 1 with (fail)
  generalize hwa : w.alloc (.cells #[.string (bT s.name), .slice ra s.records.length rv, .slice sa s.services.length sv, .slice ga s.sagas.length gv, .int .i64 pf, .int .i64 pc, .int .i64 pn, .int .i64 pd, .int .i64 ps, .int .i64 pm, .int .i64 kp, .int .i64 nn, .int .i64 th, .int .i64 nw, .slice la L.length lc, .slice ma M.length mc, .int .i64 da, .slice lb R.length le, .slice mb N.length me, .int .i64 db] 102) = wa at *
  have HXa := Lib.hid (show wa.heap[w.heap.size]? = some (.cells #[.string (bT s.name), .slice ra s.records.length rv, .slice sa s.services.length sv, .slice ga s.sagas.length gv, .int .i64 pf, .int .i64 pc, .int .i64 pn, .int .i64 pd, .int .i64 ps, .int .i64 pm, .int .i64 kp, .int .i64 nn, .int .i64 th, .int .i64 nw, .slice la L.length lc, .slice ma M.length mc, .int .i64 da, .slice lb R.length le, .slice mb N.length me, .int .i64 db] 102 (0, 0)) from hwa ▸ heap_alloc_new _ _)
  have HBa := Lib.hid (show Below w.heap.size w wa from hwa ▸ bl1 _ _)
  clear hwa
  have HX := Lib.hid (fun W (X : Below wa.heap.size wa W) => show W.heap[w.heap.size]? = some (.cells #[.string (bT s.name), .slice ra s.records.length rv, .slice sa s.services.length sv, .slice ga s.sagas.length gv, .int .i64 pf, .int .i64 pc, .int .i64 pn, .int .i64 pd, .int .i64 ps, .int .i64 pm, .int .i64 kp, .int .i64 nn, .int .i64 th, .int .i64 nw, .slice la L.length lc, .slice ma M.length mc, .int .i64 da, .slice lb R.length le, .slice mb N.length me, .int .i64 db] 102 (0, 0)) from (X.block _ (Array.getElem?_eq_some_iff.1 HXa.out).1).trans HXa.out)
  have hxa := HXa.out
  have hla : w.heap.size < wa.heap.size := (Array.getElem?_eq_some_iff.1 hxa).1
  have hw1 : IntKind.i64.wrap ((L.length : Int) + 1) = (L.length : Int) + 1 := IntWalk.i64_in _ (by omega)
  have HDR := Lib.hid (show Below wa.heap.size wa wa.drew from ⟨rfl, rfl, rfl, Nat.le_refl _, fun _ _ => rfl⟩)
  have HDN := Lib.hid (fun n => show Below wa.heap.size wa (wa.drewN n) from ⟨rfl, rfl, rfl, Nat.le_refl _, fun _ _ => rfl⟩)
  have HBd := Lib.hid (show Below w.heap.size w wa.drew from HBa.out.trans (HDR.out.mono HBa.out.size))
  have HBn := Lib.hid (fun n => show Below w.heap.size w (wa.drewN n) from HBa.out.trans ((HDN.out n).mono HBa.out.size))
  have x14 : wa.cell? ⟨w.heap.size, 14, none⟩ = some (.slice la L.length lc) := by simp only [World.cell?, hxa]; rfl
  have x16 : wa.cell? ⟨w.heap.size, 16, none⟩ = some (.int .i64 da) := by simp only [World.cell?, hxa]; rfl
  have x17 : wa.cell? ⟨w.heap.size, 17, none⟩ = some (.slice lb R.length le) := by simp only [World.cell?, hxa]; rfl
  have x19 : wa.cell? ⟨w.heap.size, 19, none⟩ = some (.int .i64 db) := by simp only [World.cell?, hxa]; rfl
  have y14 : wa.drew.cell? ⟨w.heap.size, 14, none⟩ = some (.slice la L.length lc) := by show wa.cell? _ = _; simp only [World.cell?, hxa]; rfl
  have y16 : wa.drew.cell? ⟨w.heap.size, 16, none⟩ = some (.int .i64 da) := by show wa.cell? _ = _; simp only [World.cell?, hxa]; rfl
  have y17 : wa.drew.cell? ⟨w.heap.size, 17, none⟩ = some (.slice lb R.length le) := by show wa.cell? _ = _; simp only [World.cell?, hxa]; rfl
  have y19 : wa.drew.cell? ⟨w.heap.size, 19, none⟩ = some (.int .i64 db) := by show wa.cell? _ = _; simp only [World.cell?, hxa]; rfl
  clear hxa
  by_cases c1 : R.length = L.length + 1
  case neg =>
    have d1 : ((R.length : Int) == (L.length : Int) + 1) = false := by rw [beq_eq_false_iff_ne]; omega
    have d2 : ((R.length : Int) != (L.length : Int) + 1) = true := by rw [bne_iff_ne]; omega
    have HV := Lib.hid (show V = false from by rw [HP.out, decide_eq_false c1]; rfl)
    clear c1 y14 y16 y17 y19
    go_wp2_with fail
    go_quiet (fail)
    go_wp2_with fail
    exact bodyPost_ret (v := .bool false) (by simp [results, Tryz.results40, go_sem]) rfl ⟨by rw [HV.out], HBn.out _⟩
  have d1 : ((R.length : Int) == (L.length : Int) + 1) = true := by rw [beq_iff_eq]; omega
  have d2 : ((R.length : Int) != (L.length : Int) + 1) = false := by rw [bne_eq_false_iff_eq]; omega
  rw [decide_eq_true c1, Bool.true_and] at HP
  by_cases c2 : da = db
  case neg =>
    have d3 : (da == db) = false := by rw [beq_eq_false_iff_ne]; exact c2
    have d4 : (da != db) = true := by rw [bne_iff_ne]; exact c2
    have HV := Lib.hid (show V = false from by rw [HP.out, decide_eq_false c2]; rfl)
    clear c1 c2 y14 y16 y17 y19
    go_wp2_with fail
    go_quiet (fail)
    go_wp2_with fail
    exact bodyPost_ret (v := .bool false) (by simp [results, Tryz.results40, go_sem]) rfl ⟨by rw [HV.out], HBn.out _⟩
  have d3 : (da == db) = true := by rw [beq_iff_eq]; exact c2
  have d4 : (da != db) = false := by rw [bne_eq_false_iff_eq]; exact c2
  rw [decide_eq_true c2, Bool.true_and] at HP
  clear c2
  have hk : L.length < R.length := by omega
  have hk2 : L.length ≤ le := by omega
  have hi0 : (0 : Int) ≤ (L.length : Int) := by omega
  have hi1 : (L.length : Int) ≤ (le : Int) := by omega
  have hi2 : (L.length : Int) < (R.length : Int) := by omega
  have htl : (R.take L.length).length = L.length := by rw [List.length_take]; omega
  have HTL := Lib.hid htl
  have HEQ := Lib.hid (show Calls Tryz.prog 66 #[.slice la L.length lc, .slice lb L.length le] wa.drew _ from equalE_any wa.drew _ _ L (R.take L.length) (HA.out _ HBd.out) (slcE_front (HB.out _ HBd.out) L.length (Nat.le_of_lt hk)))
  have HKR := Lib.hid hk
  clear htl c1 hk
  have hcx : R.getD L.length ent0 = R[L.length]'HKR.out := by simp [List.getD_eq_getElem?_getD, List.getElem?_eq_getElem HKR.out]
  have HCX := Lib.hid hcx
  clear hcx
  generalize entsEq L (R.take L.length) = q at *
  clear x16 x17 x19
  go_wp2_with fail
  go_still_tail 25, (by kernel_rfl)
  change wpList _ _ _ _ _ wa.drew
  generalize wa.drew = wd at *
  as_aux_lemma =>
    go_wp2_with fail
    refine HEQ.out.mono ?_
    rintro e' w2 ⟨rfl, hb⟩
    have HB2 := Lib.hid (HBd.out.trans (hb.mono HBd.out.size))
    have HB2a := Lib.hid (HDR.out.trans (hb.mono HDR.out.size))
    clear hb HEQ y14 y16 y17 y19 d1 d2 d3 d4 hw1
    cases q with
    | false =>
      have HV := Lib.hid (show V = false from by rw [HP.out]; rfl)
      go_wp2_with fail
      exact bodyPost_ret (v := .bool false) (by simp [results, Tryz.results40, go_sem]) rfl ⟨by rw [HV.out], HB2.out⟩
    | true =>
      rw [Bool.true_and] at HP
      have hx2 := HX.out w2 HB2a.out
      have HL2 := Lib.hid (load_step hx2 rfl)
      have hl2 : w.heap.size < w2.heap.size := (Array.getElem?_eq_some_iff.1 hx2).1
      clear hx2
      have HOC := Lib.hid (HOT.out w2 HB2.out)
      generalize othersA nw (-1) M N = q at *
      go_wp2_with (first | (refine wpList_loadS _ _ rfl rfl _ _ rfl _ HL2.out ?_))
      refine HOC.out.mono ?_
      rintro e' w3 ⟨rfl, hb⟩
      have HB3 := Lib.hid (HB2.out.trans (hb.mono HB2.out.size))
      have HB3a := Lib.hid (HB2a.out.trans (hb.mono HB2a.out.size))
      clear hb HOC HL2
      cases q with
      | false =>
        have HV := Lib.hid (show V = false from by rw [HP.out]; rfl)
        go_wp2_with fail
        exact bodyPost_ret (v := .bool false) (by simp [results, Tryz.results40, go_sem]) rfl ⟨by rw [HV.out], HB3.out⟩
      | true =>
        rw [Bool.true_and, HCX.out] at HP
        have hx3 := HX.out w3 HB3a.out
        have z17 : w3.cell? ⟨w.heap.size, 17, none⟩ = some (.slice lb R.length le) := by simp only [World.cell?, hx3]; rfl
        have hl3 : w.heap.size < w3.heap.size := (Array.getElem?_eq_some_iff.1 hx3).1
        have HX3 := Lib.hid hx3
        clear hx3
        obtain ⟨b1, o1, rfl, hb1, p0, p1, p2, p3, p4, p5⟩ := ent_at (HB.out w3 HB3.out) HKR.out
        generalize R[L.length]'HKR.out = e at *
        go_upto_region 5 with (fail)
        have HE5 := Lib.hid (heap_alloc_new w3 (.cells #[.int .u64 e.stamp, .string (bT e.key), .string (bT e.sv), .string (bT e.mt), .string (bT e.acc), .int .i64 e.am] 71))
        have HB5 := Lib.hid (HB3.out.alloc HB3.out.size (.cells #[.int .u64 e.stamp, .string (bT e.key), .string (bT e.sv), .string (bT e.mt), .string (bT e.acc), .int .i64 e.am] 71))
        have HB5a := Lib.hid (HB3a.out.alloc HB3a.out.size (.cells #[.int .u64 e.stamp, .string (bT e.key), .string (bT e.sv), .string (bT e.mt), .string (bT e.acc), .int .i64 e.am] 71))
        generalize w3.alloc (.cells #[.int .u64 e.stamp, .string (bT e.key), .string (bT e.sv), .string (bT e.mt), .string (bT e.acc), .int .i64 e.am] 71) = w5 at *
        clear p0 p1 p2 p3 p4 p5 z17
        have HDR5 := Lib.hid (show Below w5.heap.size w5 w5.drew from ⟨rfl, rfl, rfl, Nat.le_refl _, fun _ _ => rfl⟩)
        have HDN5 := Lib.hid (fun n => show Below w5.heap.size w5 (w5.drewN n) from ⟨rfl, rfl, rfl, Nat.le_refl _, fun _ _ => rfl⟩)
        have HBd5 := Lib.hid (show Below w.heap.size w w5.drew from HB5.out.trans (HDR5.out.mono HB5.out.size))
        have HBd5a := Lib.hid (show Below wa.heap.size wa w5.drew from HB5a.out.trans (HDR5.out.mono HB5a.out.size))
        have HBn5 := Lib.hid (fun n => show Below w.heap.size w (w5.drewN n) from HB5.out.trans ((HDN5.out n).mono HB5.out.size))
        have hx5 := HX.out w5 HB5a.out
        have hl5 : w.heap.size < w5.drew.heap.size := (Array.getElem?_eq_some_iff.1 hx5).1
        have hle : w3.heap.size < w5.drew.heap.size := (Array.getElem?_eq_some_iff.1 HE5.out).1
        have x14 : w5.cell? ⟨w.heap.size, 14, none⟩ = some (.slice la L.length lc) := by simp only [World.cell?, hx5]; rfl
        have y14 : w5.drew.cell? ⟨w.heap.size, 14, none⟩ = some (.slice la L.length lc) := x14
        have he0 := HE5.out
        have xe0 : w5.cell? ⟨w3.heap.size, 0, none⟩ = some (.int .u64 e.stamp) := by simp only [World.cell?, he0]; rfl
        have ye0 : w5.drew.cell? ⟨w3.heap.size, 0, none⟩ = some (.int .u64 e.stamp) := xe0
        have HCC := Lib.hid (containsE_any w5.drew _ L (HA.out _ HBd5.out) e w3.heap.size HE5.out)
        generalize L.any (fun x => decide (x.key = e.key)) = q at *
        clear hx5 he0
        generalize hLn : L.length = n at *
        have HLN := Lib.hid hLn
        clear hLn
        by_cases c3 : 0 < n
        case neg =>
          obtain rfl : n = 0 := by omega
          have HP2 := Lib.hid (show V = (!q && (balA s R []).isSome) from by rw [HP.out, decide_eq_false c3]; rfl)
          clear HP
          have HP := HP2
          clear HP2 c3 x14 xe0 hi0 hi1 hi2 hk2 hn1 hn2 hn3
          have HSK := Lib.hid (fun W (X : Below w5.drew.heap.size w5.drew W) => show W.cell? ⟨w.heap.size, 14, none⟩ = some (.slice la 0 lc) from (X.cell (p := ⟨w.heap.size, 14, none⟩) hl5).trans y14)
          have hS5 := HSK.out w5.drew (Below.refl _ _)
          clear y14 ye0
          go_wp2_with fail
          refine wp_region_noPanic ?_
          refine wp_region_held_drew (S := (fun w' : World => w'.cell? ⟨w.heap.size, 14, none⟩ = some (.slice la 0 lc))) (by kernel_rfl) (by (first | exact hS5 | exact hS6)) (fun hHeld => ?_)
          refine wpAnyH_take (i := 0) (oi := { dst := Option.some 50, op := Op.move (Operand.tmp 3), type := 3, pos := _, after := #[], guard := Option.none }) (v := ?_) rfl (by kernel_rfl) (by kernel_rfl) (by kernel_rfl) (fun _ _ _ h => h) (Or.inl ⟨by rfl, ?_⟩) (by assumption) ?_
          rotate_left
          · (intro wS hSw; (try dsimp only at hSw); go_simp; try with_reducible rfl)
          try simp only [Act.put, List.setIfInBounds_toArray, List.set_cons_zero, List.set_cons_succ]
          refine wpAnyH_take (i := 1) (oi := { dst := Option.some 51, op := Op.binOp BinOp.gtr 3 (Operand.tmp 50) (Operand.const (Value.int IntKind.i64 0)) 3, type := 4, pos := _, after := #[{ on := 0, ground := Ground.data }], guard := Option.none }) (v := ?_) rfl (by kernel_rfl) (by kernel_rfl) (by kernel_rfl) (fun _ _ _ h => h) (Or.inl ⟨by rfl, ?_⟩) (by assumption) ?_
          rotate_left
          · (intro wS hSw; (try dsimp only at hSw); go_simp; try with_reducible rfl)
          try simp only [Act.put, List.setIfInBounds_toArray, List.set_cons_zero, List.set_cons_succ]
          refine wpAnyH_take (i := 2) (oi := { dst := Option.some 52, op := Op.move (Operand.tmp 51), type := 4, pos := _, after := #[{ on := 1, ground := Ground.data }], guard := Option.none }) (v := ?_) rfl (by kernel_rfl) (by kernel_rfl) (by kernel_rfl) (fun _ _ _ h => h) (Or.inl ⟨by rfl, ?_⟩) (by assumption) ?_
          rotate_left
          · (intro wS hSw; (try dsimp only at hSw); go_simp; try with_reducible rfl)
          try simp only [Act.put, List.setIfInBounds_toArray, List.set_cons_zero, List.set_cons_succ]
          refine wpAnyH_take (i := 3) (oi := { dst := Option.some 53, op := Op.fieldAddr 102 (Operand.tmp 1) 6, type := 0, pos := _, after := #[{ on := 2, ground := Ground.guard }], guard := Option.some (2, Bool.true) }) (v := undef) rfl (by kernel_rfl) (by kernel_rfl) (by kernel_rfl) (fun _ _ _ h => h) (Or.inr ⟨by rfl, rfl⟩) (by assumption) ?_
          try simp only [Act.put, List.setIfInBounds_toArray, List.set_cons_zero, List.set_cons_succ]
          refine wpAnyH_take (i := 4) (oi := { dst := Option.some 54, op := Op.fieldAddr 45 (Operand.tmp 53) 0, type := 0, pos := _, after := #[{ on := 3, ground := Ground.data }, { on := 2, ground := Ground.guard }], guard := Option.some (2, Bool.true) }) (v := undef) rfl (by kernel_rfl) (by kernel_rfl) (by kernel_rfl) (fun _ _ _ h => h) (Or.inr ⟨by rfl, rfl⟩) (by assumption) ?_
          try simp only [Act.put, List.setIfInBounds_toArray, List.set_cons_zero, List.set_cons_succ]
          refine wpAnyH_take (i := 5) (oi := { dst := Option.some 55, op := Op.load 27 (Operand.tmp 54), type := 27, pos := _, after := #[{ on := 4, ground := Ground.data }, { on := 2, ground := Ground.guard }], guard := Option.some (2, Bool.true) }) (v := undef) rfl (by kernel_rfl) (by kernel_rfl) (by kernel_rfl) (fun _ _ _ h => h) (Or.inr ⟨by rfl, rfl⟩) (by assumption) ?_
          try simp only [Act.put, List.setIfInBounds_toArray, List.set_cons_zero, List.set_cons_succ]
          refine wpAnyH_take (i := 6) (oi := { dst := Option.some 56, op := Op.move (Operand.tmp 3), type := 3, pos := _, after := #[{ on := 2, ground := Ground.guard }], guard := Option.some (2, Bool.true) }) (v := undef) rfl (by kernel_rfl) (by kernel_rfl) (by kernel_rfl) (fun _ _ _ h => h) (Or.inr ⟨by rfl, rfl⟩) (by assumption) ?_
          try simp only [Act.put, List.setIfInBounds_toArray, List.set_cons_zero, List.set_cons_succ]
          refine wpAnyH_take (i := 7) (oi := { dst := Option.some 57, op := Op.binOp BinOp.sub 3 (Operand.tmp 56) (Operand.const (Value.int IntKind.i64 1)) 3, type := 3, pos := _, after := #[{ on := 6, ground := Ground.data }, { on := 2, ground := Ground.guard }], guard := Option.some (2, Bool.true) }) (v := undef) rfl (by kernel_rfl) (by kernel_rfl) (by kernel_rfl) (fun _ _ _ h => h) (Or.inr ⟨by rfl, rfl⟩) (by assumption) ?_
          try simp only [Act.put, List.setIfInBounds_toArray, List.set_cons_zero, List.set_cons_succ]
          refine wpAnyH_take (i := 8) (oi := { dst := Option.some 58, op := Op.indexAddr 27 (Operand.tmp 55) (Operand.tmp 57), type := 0, pos := _, after := #[{ on := 5, ground := Ground.data }, { on := 7, ground := Ground.data }, { on := 2, ground := Ground.guard }], guard := Option.some (2, Bool.true) }) (v := undef) rfl (by kernel_rfl) (by kernel_rfl) (by kernel_rfl) (fun _ _ _ h => h) (Or.inr ⟨by rfl, rfl⟩) (by assumption) ?_
          try simp only [Act.put, List.setIfInBounds_toArray, List.set_cons_zero, List.set_cons_succ]
          refine wpAnyH_take (i := 9) (oi := { dst := Option.some 59, op := Op.fieldAddr 71 (Operand.tmp 58) 0, type := 0, pos := _, after := #[{ on := 8, ground := Ground.data }, { on := 2, ground := Ground.guard }], guard := Option.some (2, Bool.true) }) (v := undef) rfl (by kernel_rfl) (by kernel_rfl) (by kernel_rfl) (fun _ _ _ h => h) (Or.inr ⟨by rfl, rfl⟩) (by assumption) ?_
          try simp only [Act.put, List.setIfInBounds_toArray, List.set_cons_zero, List.set_cons_succ]
          refine wpAnyH_take (i := 10) (oi := { dst := Option.some 60, op := Op.load 61 (Operand.tmp 59), type := 61, pos := _, after := #[{ on := 9, ground := Ground.data }, { on := 2, ground := Ground.guard }], guard := Option.some (2, Bool.true) }) (v := undef) rfl (by kernel_rfl) (by kernel_rfl) (by kernel_rfl) (fun _ _ _ h => h) (Or.inr ⟨by rfl, rfl⟩) (by assumption) ?_
          try simp only [Act.put, List.setIfInBounds_toArray, List.set_cons_zero, List.set_cons_succ]
          refine wpAnyH_take (i := 11) (oi := { dst := Option.some 61, op := Op.fieldAddr 71 (Operand.tmp 4) 0, type := 0, pos := _, after := #[{ on := 2, ground := Ground.guard }], guard := Option.some (2, Bool.true) }) (v := undef) rfl (by kernel_rfl) (by kernel_rfl) (by kernel_rfl) (fun _ _ _ h => h) (Or.inr ⟨by rfl, rfl⟩) (by assumption) ?_
          try simp only [Act.put, List.setIfInBounds_toArray, List.set_cons_zero, List.set_cons_succ]
          refine wpAnyH_take (i := 12) (oi := { dst := Option.some 62, op := Op.load 61 (Operand.tmp 61), type := 61, pos := _, after := #[{ on := 11, ground := Ground.data }, { on := 2, ground := Ground.guard }], guard := Option.some (2, Bool.true) }) (v := undef) rfl (by kernel_rfl) (by kernel_rfl) (by kernel_rfl) (fun _ _ _ h => h) (Or.inr ⟨by rfl, rfl⟩) (by assumption) ?_
          try simp only [Act.put, List.setIfInBounds_toArray, List.set_cons_zero, List.set_cons_succ]
          refine wpAnyH_take (i := 13) (oi := { dst := Option.some 63, op := Op.binOp BinOp.geq 61 (Operand.tmp 60) (Operand.tmp 62) 61, type := 4, pos := _, after := #[{ on := 10, ground := Ground.data }, { on := 12, ground := Ground.data }, { on := 2, ground := Ground.guard }], guard := Option.some (2, Bool.true) }) (v := undef) rfl (by kernel_rfl) (by kernel_rfl) (by kernel_rfl) (fun _ _ _ h => h) (Or.inr ⟨by rfl, rfl⟩) (by assumption) ?_
          try simp only [Act.put, List.setIfInBounds_toArray, List.set_cons_zero, List.set_cons_succ]
          refine wpAnyH_take (i := 14) (oi := { dst := Option.some 64, op := Op.pick (Operand.tmp 52) (Operand.tmp 63) (Operand.const (Value.bool Bool.false)), type := 4, pos := _, after := #[{ on := 2, ground := Ground.data }, { on := 13, ground := Ground.data }], guard := Option.none }) (v := ?_) rfl (by kernel_rfl) (by kernel_rfl) (by kernel_rfl) (fun _ _ _ h => h) (Or.inl ⟨by rfl, ?_⟩) (by assumption) ?_
          rotate_left
          · (intro wS hSw; (try dsimp only at hSw); go_simp; try with_reducible rfl)
          try simp only [Act.put, List.setIfInBounds_toArray, List.set_cons_zero, List.set_cons_succ]
          refine wpAnyH_take (i := 15) (oi := { dst := Option.some 65, op := Op.move (Operand.tmp 64), type := 4, pos := _, after := #[{ on := 14, ground := Ground.data }, { on := 2, ground := Ground.chain }], guard := Option.none }) (v := ?_) rfl (by kernel_rfl) (by kernel_rfl) (by kernel_rfl) (fun _ _ _ h => h) (Or.inl ⟨by rfl, ?_⟩) (by assumption) ?_
          rotate_left
          · (intro wS hSw; (try dsimp only at hSw); go_simp; try with_reducible rfl)
          try simp only [Act.put, List.setIfInBounds_toArray, List.set_cons_zero, List.set_cons_succ]
          refine wpAnyH_take (i := 16) (oi := { dst := Option.some 66, op := Op.fieldAddr 102 (Operand.tmp 1) 6, type := 0, pos := _, after := #[{ on := 15, ground := Ground.guard }], guard := Option.some (15, Bool.false) }) (v := ?_) rfl (by kernel_rfl) (by kernel_rfl) (by kernel_rfl) (fun _ _ _ h => h) (Or.inl ⟨by rfl, ?_⟩) (by assumption) ?_
          rotate_left
          · (intro wS hSw; (try dsimp only at hSw); go_simp; try with_reducible rfl)
          try simp only [Act.put, List.setIfInBounds_toArray, List.set_cons_zero, List.set_cons_succ]
          refine wpAnyH_take (i := 17) (oi := { dst := Option.some 67, op := Op.fieldAddr 45 (Operand.tmp 66) 0, type := 0, pos := _, after := #[{ on := 16, ground := Ground.data }, { on := 15, ground := Ground.guard }], guard := Option.some (15, Bool.false) }) (v := ?_) rfl (by kernel_rfl) (by kernel_rfl) (by kernel_rfl) (fun _ _ _ h => h) (Or.inl ⟨by rfl, ?_⟩) (by assumption) ?_
          rotate_left
          · (intro wS hSw; (try dsimp only at hSw); go_simp; try with_reducible rfl)
          try simp only [Act.put, List.setIfInBounds_toArray, List.set_cons_zero, List.set_cons_succ]
          refine wpAnyH_take (i := 18) (oi := { dst := Option.some 68, op := Op.load 27 (Operand.tmp 67), type := 27, pos := _, after := #[{ on := 17, ground := Ground.data }, { on := 15, ground := Ground.guard }], guard := Option.some (15, Bool.false) }) (v := ?_) rfl (by kernel_rfl) (by kernel_rfl) (by kernel_rfl) (fun _ _ _ h => h) (Or.inl ⟨by rfl, ?_⟩) (by assumption) ?_
          rotate_left
          · (intro wS hSw; (try dsimp only at hSw); go_simp; try with_reducible rfl)
          try simp only [Act.put, List.setIfInBounds_toArray, List.set_cons_zero, List.set_cons_succ]
          refine wpAnyH_take (i := 19) (oi := { dst := Option.some 69, op := Op.makeFunc (Fn.func 71) #[] #[Operand.tmp 4], type := 85, pos := _, after := #[{ on := 15, ground := Ground.guard }], guard := Option.some (15, Bool.false) }) (v := ?_) rfl (by kernel_rfl) (by kernel_rfl) (by kernel_rfl) (fun _ _ _ h => h) (Or.inl ⟨by rfl, ?_⟩) (by assumption) ?_
          rotate_left
          · (intro wS hSw; (try dsimp only at hSw); go_simp; try with_reducible rfl)
          try simp only [Act.put, List.setIfInBounds_toArray, List.set_cons_zero, List.set_cons_succ]
          refine wpAnyH_ready (rs := [20]) (by kernel_rfl) (by simp) ?_
          refine AllReadyH.cons (o := { dst := Option.some 70, op := Op.call { callee := Callee.value (Operand.func 70), args := #[Operand.tmp 68, Operand.tmp 69], argTypes := #[27, 85] }, type := 4, pos := _, after := #[{ on := 18, ground := Ground.data }, { on := 19, ground := Ground.data }, { on := 15, ground := Ground.chain }, { on := 15, ground := Ground.guard }], guard := Option.some (15, Bool.false) }) rfl (fun K hK => ?_) ?_
          · go_simp
            (refine HCC.out.mono ?_; rintro e' w6 ⟨rfl, hb⟩; have hS6 := HSK.out w6 hb)
            refine hK.out _ _ (by (first | exact hS5 | exact hS6)) (fun hHeld => ?_)
            clear hK K
            try simp only [Act.put, List.setIfInBounds_toArray, List.set_cons_zero, List.set_cons_succ]
            refine wpAnyH_take (i := 21) (oi := { dst := Option.some 71, op := Op.pick (Operand.tmp 65) (Operand.const (Value.bool Bool.true)) (Operand.tmp 70), type := 4, pos := _, after := #[{ on := 15, ground := Ground.data }, { on := 20, ground := Ground.data }], guard := Option.none }) (v := ?_) rfl (by kernel_rfl) (by kernel_rfl) (by kernel_rfl) (fun _ _ _ h => h) (Or.inl ⟨by rfl, ?_⟩) (by assumption) ?_
            rotate_left
            · (intro wS hSw; (try dsimp only at hSw); go_simp; try with_reducible rfl)
            try simp only [Act.put, List.setIfInBounds_toArray, List.set_cons_zero, List.set_cons_succ]
            refine wpAnyH_done (by kernel_rfl) ?_ _
            refine NoPanic.normal ?_
            have HB6 := Lib.hid (HBd5.out.trans (hb.mono HBd5.out.size))
            have HB6a := Lib.hid (HBd5a.out.trans (hb.mono HBd5a.out.size))
            clear hb HCC hS6 hHeld
            as_aux_lemma =>
              cases q with
              | true =>
                have HV := Lib.hid (show V = false from by rw [HP.out]; rfl)
                go_wp2_with fail
                exact bodyPost_ret (v := .bool false) (by simp [results, Tryz.results40, go_sem]) rfl ⟨by rw [HV.out], HB6.out⟩
              | false =>
                rw [Bool.not_false, Bool.true_and] at HP
                have hx6 := HX.out w6 HB6a.out
                have z0 : w6.cell? ⟨w.heap.size, 0, none⟩ = some (.string (bT s.name)) := by simp only [World.cell?, hx6]; rfl
                have z1 : w6.cell? ⟨w.heap.size, 1, none⟩ = some (.slice ra s.records.length rv) := by simp only [World.cell?, hx6]; rfl
                have z2 : w6.cell? ⟨w.heap.size, 2, none⟩ = some (.slice sa s.services.length sv) := by simp only [World.cell?, hx6]; rfl
                have z3 : w6.cell? ⟨w.heap.size, 3, none⟩ = some (.slice ga s.sagas.length gv) := by simp only [World.cell?, hx6]; rfl
                have z17 : w6.cell? ⟨w.heap.size, 17, none⟩ = some (.slice (some ⟨b1, o1, none⟩) R.length le) := by simp only [World.cell?, hx6]; rfl
                have hl6 : w.heap.size < w6.heap.size := (Array.getElem?_eq_some_iff.1 hx6).1
                have HBC := Lib.hid (HBA.out w6 HB6.out)
                clear hx6
                go_wp2_with fail
                refine HBC.out.mono ?_
                rintro e' w7 ⟨⟨hn, rfl⟩ | ⟨F, u, hf, rfl, hu, _⟩, hb⟩
                · have HB7 := Lib.hid (HB6.out.trans (hb.mono HB6.out.size))
                  have HV := Lib.hid (show V = false from by rw [HP.out, hn]; rfl)
                  clear hb hn HBC z0 z1 z2 z3 z17
                  go_wp2_with fail
                  exact bodyPost_ret (v := .bool false) (by simp [results, Tryz.results40, go_sem]) rfl ⟨by rw [HV.out], HB7.out⟩
                · have HB7 := Lib.hid (HB6.out.trans (hb.mono HB6.out.size))
                  have HV := Lib.hid (show V = true from by rw [HP.out, hf]; rfl)
                  obtain ⟨ua, uc, rfl⟩ := own_slice hu
                  clear hb hf hu HBC z0 z1 z2 z3 z17
                  go_wp2_with fail
                  exact bodyPost_ret (v := .bool true) (by simp [results, Tryz.results40, go_sem]) rfl ⟨by rw [HV.out], HB7.out⟩
          exact AllReadyH.nil
        have f3 : decide (0 < (n : Int)) = true := by rw [decide_eq_true_eq]; omega
        have f3' : decide (0 < n) = true := decide_eq_true c3
        rw [decide_eq_true c3, Bool.true_and] at HP
        have hj : n - 1 < L.length := by rw [HLN.out]; omega
        have HJX := Lib.hid (show L.getD (n - 1) ent0 = L[n - 1]'hj from by simp [List.getD_eq_getElem?_getD, List.getElem?_eq_getElem hj])
        rw [HJX.out] at HP
        have hjw : IntKind.i64.wrap ((n : Int) - 1) = ((n - 1 : Nat) : Int) := by rw [IntWalk.i64_in _ (by omega)]; omega
        have hsl := HA.out w5 HB5.out
        rw [← HLN.out] at hsl
        obtain ⟨b2, o2, rfl, hb2, p0, _, _, _, _, _⟩ := ent_at hsl hj
        clear hsl
        have pd0 : w5.drew.cell? ⟨b2, o2 + (n - 1) * 6, none⟩ = some (.int .u64 (L[n - 1]'hj).stamp) := p0
        have hbd2 : b2 < w5.drew.heap.size := hb2
        have hj0 : (0 : Int) ≤ ((n - 1 : Nat) : Int) := by omega
        have hj1 : ((n - 1 : Nat) : Int) < (n : Int) := by omega
        generalize L[n - 1]'hj = x at *
        generalize hjj : n - 1 = j at *
        have HJJ := Lib.hid hjj
        clear hjj hj
        by_cases c4 : e.stamp ≤ x.stamp
        · have f4 : decide (e.stamp ≤ x.stamp) = true := decide_eq_true c4
          have HV := Lib.hid (show V = false from by rw [HP.out, f4]; rfl)
          clear c3 c4 ye0 y14 pd0
          go_wp2_with fail
          go_quiet (fail)
          go_wp2_with fail
          exact bodyPost_ret (v := .bool false) (by simp [results, Tryz.results40, go_sem]) rfl ⟨by rw [HV.out], HBn5.out _⟩
        have f4 : decide (e.stamp ≤ x.stamp) = false := decide_eq_false c4
        have HP2 := Lib.hid (show V = (!q && (balA s R []).isSome) from by rw [HP.out, f4]; rfl)
        clear HP
        have HP := HP2
        clear HP2 c3 c4 x14 xe0 p0
        have HSK := Lib.hid (fun W (X : Below w5.drew.heap.size w5.drew W) => show W.cell? ⟨w.heap.size, 14, none⟩ = some (.slice (some ⟨b2, o2, none⟩) n lc) ∧ W.cell? ⟨b2, o2 + j * 6, none⟩ = some (.int .u64 x.stamp) ∧ W.cell? ⟨w3.heap.size, 0, none⟩ = some (.int .u64 e.stamp) from ⟨(X.cell (p := ⟨w.heap.size, 14, none⟩) hl5).trans y14, (X.cell (p := ⟨b2, o2 + j * 6, none⟩) hbd2).trans pd0, (X.cell (p := ⟨w3.heap.size, 0, none⟩) hle).trans ye0⟩)
        have hS5 := HSK.out w5.drew (Below.refl _ _)
        clear y14 ye0
        go_wp2_with fail
        refine wp_region_noPanic ?_
        refine wp_region_held_drew (S := (fun w' : World => w'.cell? ⟨w.heap.size, 14, none⟩ = some (.slice (some ⟨b2, o2, none⟩) n lc) ∧ w'.cell? ⟨b2, o2 + j * 6, none⟩ = some (.int .u64 x.stamp) ∧ w'.cell? ⟨w3.heap.size, 0, none⟩ = some (.int .u64 e.stamp))) (by kernel_rfl) (by (first | exact hS5 | exact hS6)) (fun hHeld => ?_)
        refine wpAnyH_take (i := 0) (oi := { dst := Option.some 50, op := Op.move (Operand.tmp 3), type := 3, pos := _, after := #[], guard := Option.none }) (v := ?_) rfl (by kernel_rfl) (by kernel_rfl) (by kernel_rfl) (fun _ _ _ h => h) (Or.inl ⟨by rfl, ?_⟩) (by assumption) ?_
        rotate_left
        · (intro wS hSw; (try dsimp only at hSw); go_simp; try with_reducible rfl)
        try simp only [Act.put, List.setIfInBounds_toArray, List.set_cons_zero, List.set_cons_succ]
        refine wpAnyH_take (i := 1) (oi := { dst := Option.some 51, op := Op.binOp BinOp.gtr 3 (Operand.tmp 50) (Operand.const (Value.int IntKind.i64 0)) 3, type := 4, pos := _, after := #[{ on := 0, ground := Ground.data }], guard := Option.none }) (v := ?_) rfl (by kernel_rfl) (by kernel_rfl) (by kernel_rfl) (fun _ _ _ h => h) (Or.inl ⟨by rfl, ?_⟩) (by assumption) ?_
        rotate_left
        · (intro wS hSw; (try dsimp only at hSw); go_simp; try with_reducible rfl)
        try simp only [Act.put, List.setIfInBounds_toArray, List.set_cons_zero, List.set_cons_succ]
        refine wpAnyH_take (i := 2) (oi := { dst := Option.some 52, op := Op.move (Operand.tmp 51), type := 4, pos := _, after := #[{ on := 1, ground := Ground.data }], guard := Option.none }) (v := ?_) rfl (by kernel_rfl) (by kernel_rfl) (by kernel_rfl) (fun _ _ _ h => h) (Or.inl ⟨by rfl, ?_⟩) (by assumption) ?_
        rotate_left
        · (intro wS hSw; (try dsimp only at hSw); go_simp; try with_reducible rfl)
        try simp only [Act.put, List.setIfInBounds_toArray, List.set_cons_zero, List.set_cons_succ]
        refine wpAnyH_take (i := 3) (oi := { dst := Option.some 53, op := Op.fieldAddr 102 (Operand.tmp 1) 6, type := 0, pos := _, after := #[{ on := 2, ground := Ground.guard }], guard := Option.some (2, Bool.true) }) (v := ?_) rfl (by kernel_rfl) (by kernel_rfl) (by kernel_rfl) (fun _ _ _ h => h) (Or.inl ⟨by rfl, ?_⟩) (by assumption) ?_
        rotate_left
        · (intro wS hSw; (try dsimp only at hSw); go_simp; try with_reducible rfl)
        try simp only [Act.put, List.setIfInBounds_toArray, List.set_cons_zero, List.set_cons_succ]
        refine wpAnyH_take (i := 4) (oi := { dst := Option.some 54, op := Op.fieldAddr 45 (Operand.tmp 53) 0, type := 0, pos := _, after := #[{ on := 3, ground := Ground.data }, { on := 2, ground := Ground.guard }], guard := Option.some (2, Bool.true) }) (v := ?_) rfl (by kernel_rfl) (by kernel_rfl) (by kernel_rfl) (fun _ _ _ h => h) (Or.inl ⟨by rfl, ?_⟩) (by assumption) ?_
        rotate_left
        · (intro wS hSw; (try dsimp only at hSw); go_simp; try with_reducible rfl)
        try simp only [Act.put, List.setIfInBounds_toArray, List.set_cons_zero, List.set_cons_succ]
        refine wpAnyH_take (i := 5) (oi := { dst := Option.some 55, op := Op.load 27 (Operand.tmp 54), type := 27, pos := _, after := #[{ on := 4, ground := Ground.data }, { on := 2, ground := Ground.guard }], guard := Option.some (2, Bool.true) }) (v := ?_) rfl (by kernel_rfl) (by kernel_rfl) (by kernel_rfl) (fun _ _ _ h => h) (Or.inl ⟨by rfl, ?_⟩) (by assumption) ?_
        rotate_left
        · (intro wS hSw; (try dsimp only at hSw); go_simp; try with_reducible rfl)
        try simp only [Act.put, List.setIfInBounds_toArray, List.set_cons_zero, List.set_cons_succ]
        refine wpAnyH_take (i := 6) (oi := { dst := Option.some 56, op := Op.move (Operand.tmp 3), type := 3, pos := _, after := #[{ on := 2, ground := Ground.guard }], guard := Option.some (2, Bool.true) }) (v := ?_) rfl (by kernel_rfl) (by kernel_rfl) (by kernel_rfl) (fun _ _ _ h => h) (Or.inl ⟨by rfl, ?_⟩) (by assumption) ?_
        rotate_left
        · (intro wS hSw; (try dsimp only at hSw); go_simp; try with_reducible rfl)
        try simp only [Act.put, List.setIfInBounds_toArray, List.set_cons_zero, List.set_cons_succ]
        refine wpAnyH_take (i := 7) (oi := { dst := Option.some 57, op := Op.binOp BinOp.sub 3 (Operand.tmp 56) (Operand.const (Value.int IntKind.i64 1)) 3, type := 3, pos := _, after := #[{ on := 6, ground := Ground.data }, { on := 2, ground := Ground.guard }], guard := Option.some (2, Bool.true) }) (v := ?_) rfl (by kernel_rfl) (by kernel_rfl) (by kernel_rfl) (fun _ _ _ h => h) (Or.inl ⟨by rfl, ?_⟩) (by assumption) ?_
        rotate_left
        · (intro wS hSw; (try dsimp only at hSw); go_simp; try with_reducible rfl)
        try simp only [Act.put, List.setIfInBounds_toArray, List.set_cons_zero, List.set_cons_succ]
        refine wpAnyH_take (i := 8) (oi := { dst := Option.some 58, op := Op.indexAddr 27 (Operand.tmp 55) (Operand.tmp 57), type := 0, pos := _, after := #[{ on := 5, ground := Ground.data }, { on := 7, ground := Ground.data }, { on := 2, ground := Ground.guard }], guard := Option.some (2, Bool.true) }) (v := ?_) rfl (by kernel_rfl) (by kernel_rfl) (by kernel_rfl) (fun _ _ _ h => h) (Or.inl ⟨by rfl, ?_⟩) (by assumption) ?_
        rotate_left
        · (intro wS hSw; (try dsimp only at hSw); go_simp; try with_reducible rfl)
        try simp only [Act.put, List.setIfInBounds_toArray, List.set_cons_zero, List.set_cons_succ]
        refine wpAnyH_take (i := 9) (oi := { dst := Option.some 59, op := Op.fieldAddr 71 (Operand.tmp 58) 0, type := 0, pos := _, after := #[{ on := 8, ground := Ground.data }, { on := 2, ground := Ground.guard }], guard := Option.some (2, Bool.true) }) (v := ?_) rfl (by kernel_rfl) (by kernel_rfl) (by kernel_rfl) (fun _ _ _ h => h) (Or.inl ⟨by rfl, ?_⟩) (by assumption) ?_
        rotate_left
        · (intro wS hSw; (try dsimp only at hSw); go_simp; try with_reducible rfl)
        try simp only [Act.put, List.setIfInBounds_toArray, List.set_cons_zero, List.set_cons_succ]
        refine wpAnyH_take (i := 10) (oi := { dst := Option.some 60, op := Op.load 61 (Operand.tmp 59), type := 61, pos := _, after := #[{ on := 9, ground := Ground.data }, { on := 2, ground := Ground.guard }], guard := Option.some (2, Bool.true) }) (v := ?_) rfl (by kernel_rfl) (by kernel_rfl) (by kernel_rfl) (fun _ _ _ h => h) (Or.inl ⟨by rfl, ?_⟩) (by assumption) ?_
        rotate_left
        · (intro wS hSw; (try dsimp only at hSw); go_simp; try with_reducible rfl)
        try simp only [Act.put, List.setIfInBounds_toArray, List.set_cons_zero, List.set_cons_succ]
        refine wpAnyH_take (i := 11) (oi := { dst := Option.some 61, op := Op.fieldAddr 71 (Operand.tmp 4) 0, type := 0, pos := _, after := #[{ on := 2, ground := Ground.guard }], guard := Option.some (2, Bool.true) }) (v := ?_) rfl (by kernel_rfl) (by kernel_rfl) (by kernel_rfl) (fun _ _ _ h => h) (Or.inl ⟨by rfl, ?_⟩) (by assumption) ?_
        rotate_left
        · (intro wS hSw; (try dsimp only at hSw); go_simp; try with_reducible rfl)
        try simp only [Act.put, List.setIfInBounds_toArray, List.set_cons_zero, List.set_cons_succ]
        refine wpAnyH_take (i := 12) (oi := { dst := Option.some 62, op := Op.load 61 (Operand.tmp 61), type := 61, pos := _, after := #[{ on := 11, ground := Ground.data }, { on := 2, ground := Ground.guard }], guard := Option.some (2, Bool.true) }) (v := ?_) rfl (by kernel_rfl) (by kernel_rfl) (by kernel_rfl) (fun _ _ _ h => h) (Or.inl ⟨by rfl, ?_⟩) (by assumption) ?_
        rotate_left
        · (intro wS hSw; (try dsimp only at hSw); go_simp; try with_reducible rfl)
        try simp only [Act.put, List.setIfInBounds_toArray, List.set_cons_zero, List.set_cons_succ]
        refine wpAnyH_take (i := 13) (oi := { dst := Option.some 63, op := Op.binOp BinOp.geq 61 (Operand.tmp 60) (Operand.tmp 62) 61, type := 4, pos := _, after := #[{ on := 10, ground := Ground.data }, { on := 12, ground := Ground.data }, { on := 2, ground := Ground.guard }], guard := Option.some (2, Bool.true) }) (v := ?_) rfl (by kernel_rfl) (by kernel_rfl) (by kernel_rfl) (fun _ _ _ h => h) (Or.inl ⟨by rfl, ?_⟩) (by assumption) ?_
        rotate_left
        · (intro wS hSw; (try dsimp only at hSw); go_simp; try with_reducible rfl)
        try simp only [Act.put, List.setIfInBounds_toArray, List.set_cons_zero, List.set_cons_succ]
        refine wpAnyH_take (i := 14) (oi := { dst := Option.some 64, op := Op.pick (Operand.tmp 52) (Operand.tmp 63) (Operand.const (Value.bool Bool.false)), type := 4, pos := _, after := #[{ on := 2, ground := Ground.data }, { on := 13, ground := Ground.data }], guard := Option.none }) (v := ?_) rfl (by kernel_rfl) (by kernel_rfl) (by kernel_rfl) (fun _ _ _ h => h) (Or.inl ⟨by rfl, ?_⟩) (by assumption) ?_
        rotate_left
        · (intro wS hSw; (try dsimp only at hSw); go_simp; try with_reducible rfl)
        try simp only [Act.put, List.setIfInBounds_toArray, List.set_cons_zero, List.set_cons_succ]
        refine wpAnyH_take (i := 15) (oi := { dst := Option.some 65, op := Op.move (Operand.tmp 64), type := 4, pos := _, after := #[{ on := 14, ground := Ground.data }, { on := 2, ground := Ground.chain }], guard := Option.none }) (v := ?_) rfl (by kernel_rfl) (by kernel_rfl) (by kernel_rfl) (fun _ _ _ h => h) (Or.inl ⟨by rfl, ?_⟩) (by assumption) ?_
        rotate_left
        · (intro wS hSw; (try dsimp only at hSw); go_simp; try with_reducible rfl)
        try simp only [Act.put, List.setIfInBounds_toArray, List.set_cons_zero, List.set_cons_succ]
        refine wpAnyH_take (i := 16) (oi := { dst := Option.some 66, op := Op.fieldAddr 102 (Operand.tmp 1) 6, type := 0, pos := _, after := #[{ on := 15, ground := Ground.guard }], guard := Option.some (15, Bool.false) }) (v := ?_) rfl (by kernel_rfl) (by kernel_rfl) (by kernel_rfl) (fun _ _ _ h => h) (Or.inl ⟨by rfl, ?_⟩) (by assumption) ?_
        rotate_left
        · (intro wS hSw; (try dsimp only at hSw); go_simp; try with_reducible rfl)
        try simp only [Act.put, List.setIfInBounds_toArray, List.set_cons_zero, List.set_cons_succ]
        refine wpAnyH_take (i := 17) (oi := { dst := Option.some 67, op := Op.fieldAddr 45 (Operand.tmp 66) 0, type := 0, pos := _, after := #[{ on := 16, ground := Ground.data }, { on := 15, ground := Ground.guard }], guard := Option.some (15, Bool.false) }) (v := ?_) rfl (by kernel_rfl) (by kernel_rfl) (by kernel_rfl) (fun _ _ _ h => h) (Or.inl ⟨by rfl, ?_⟩) (by assumption) ?_
        rotate_left
        · (intro wS hSw; (try dsimp only at hSw); go_simp; try with_reducible rfl)
        try simp only [Act.put, List.setIfInBounds_toArray, List.set_cons_zero, List.set_cons_succ]
        refine wpAnyH_take (i := 18) (oi := { dst := Option.some 68, op := Op.load 27 (Operand.tmp 67), type := 27, pos := _, after := #[{ on := 17, ground := Ground.data }, { on := 15, ground := Ground.guard }], guard := Option.some (15, Bool.false) }) (v := ?_) rfl (by kernel_rfl) (by kernel_rfl) (by kernel_rfl) (fun _ _ _ h => h) (Or.inl ⟨by rfl, ?_⟩) (by assumption) ?_
        rotate_left
        · (intro wS hSw; (try dsimp only at hSw); go_simp; try with_reducible rfl)
        try simp only [Act.put, List.setIfInBounds_toArray, List.set_cons_zero, List.set_cons_succ]
        refine wpAnyH_take (i := 19) (oi := { dst := Option.some 69, op := Op.makeFunc (Fn.func 71) #[] #[Operand.tmp 4], type := 85, pos := _, after := #[{ on := 15, ground := Ground.guard }], guard := Option.some (15, Bool.false) }) (v := ?_) rfl (by kernel_rfl) (by kernel_rfl) (by kernel_rfl) (fun _ _ _ h => h) (Or.inl ⟨by rfl, ?_⟩) (by assumption) ?_
        rotate_left
        · (intro wS hSw; (try dsimp only at hSw); go_simp; try with_reducible rfl)
        try simp only [Act.put, List.setIfInBounds_toArray, List.set_cons_zero, List.set_cons_succ]
        refine wpAnyH_ready (rs := [20]) (by kernel_rfl) (by simp) ?_
        refine AllReadyH.cons (o := { dst := Option.some 70, op := Op.call { callee := Callee.value (Operand.func 70), args := #[Operand.tmp 68, Operand.tmp 69], argTypes := #[27, 85] }, type := 4, pos := _, after := #[{ on := 18, ground := Ground.data }, { on := 19, ground := Ground.data }, { on := 15, ground := Ground.chain }, { on := 15, ground := Ground.guard }], guard := Option.some (15, Bool.false) }) rfl (fun K hK => ?_) ?_
        · go_simp
          (refine HCC.out.mono ?_; rintro e' w6 ⟨rfl, hb⟩; have hS6 := HSK.out w6 hb)
          refine hK.out _ _ (by (first | exact hS5 | exact hS6)) (fun hHeld => ?_)
          clear hK K
          try simp only [Act.put, List.setIfInBounds_toArray, List.set_cons_zero, List.set_cons_succ]
          refine wpAnyH_take (i := 21) (oi := { dst := Option.some 71, op := Op.pick (Operand.tmp 65) (Operand.const (Value.bool Bool.true)) (Operand.tmp 70), type := 4, pos := _, after := #[{ on := 15, ground := Ground.data }, { on := 20, ground := Ground.data }], guard := Option.none }) (v := ?_) rfl (by kernel_rfl) (by kernel_rfl) (by kernel_rfl) (fun _ _ _ h => h) (Or.inl ⟨by rfl, ?_⟩) (by assumption) ?_
          rotate_left
          · (intro wS hSw; (try dsimp only at hSw); go_simp; try with_reducible rfl)
          try simp only [Act.put, List.setIfInBounds_toArray, List.set_cons_zero, List.set_cons_succ]
          refine wpAnyH_done (by kernel_rfl) ?_ _
          refine NoPanic.normal ?_
          have HB6 := Lib.hid (HBd5.out.trans (hb.mono HBd5.out.size))
          have HB6a := Lib.hid (HBd5a.out.trans (hb.mono HBd5a.out.size))
          clear hb HCC hS6 hHeld
          as_aux_lemma =>
            cases q with
            | true =>
              have HV := Lib.hid (show V = false from by rw [HP.out]; rfl)
              go_wp2_with fail
              exact bodyPost_ret (v := .bool false) (by simp [results, Tryz.results40, go_sem]) rfl ⟨by rw [HV.out], HB6.out⟩
            | false =>
              rw [Bool.not_false, Bool.true_and] at HP
              have hx6 := HX.out w6 HB6a.out
              have z0 : w6.cell? ⟨w.heap.size, 0, none⟩ = some (.string (bT s.name)) := by simp only [World.cell?, hx6]; rfl
              have z1 : w6.cell? ⟨w.heap.size, 1, none⟩ = some (.slice ra s.records.length rv) := by simp only [World.cell?, hx6]; rfl
              have z2 : w6.cell? ⟨w.heap.size, 2, none⟩ = some (.slice sa s.services.length sv) := by simp only [World.cell?, hx6]; rfl
              have z3 : w6.cell? ⟨w.heap.size, 3, none⟩ = some (.slice ga s.sagas.length gv) := by simp only [World.cell?, hx6]; rfl
              have z17 : w6.cell? ⟨w.heap.size, 17, none⟩ = some (.slice (some ⟨b1, o1, none⟩) R.length le) := by simp only [World.cell?, hx6]; rfl
              have hl6 : w.heap.size < w6.heap.size := (Array.getElem?_eq_some_iff.1 hx6).1
              have HBC := Lib.hid (HBA.out w6 HB6.out)
              clear hx6
              go_wp2_with fail
              refine HBC.out.mono ?_
              rintro e' w7 ⟨⟨hn, rfl⟩ | ⟨F, u, hf, rfl, hu, _⟩, hb⟩
              · have HB7 := Lib.hid (HB6.out.trans (hb.mono HB6.out.size))
                have HV := Lib.hid (show V = false from by rw [HP.out, hn]; rfl)
                clear hb hn HBC z0 z1 z2 z3 z17
                go_wp2_with fail
                exact bodyPost_ret (v := .bool false) (by simp [results, Tryz.results40, go_sem]) rfl ⟨by rw [HV.out], HB7.out⟩
              · have HB7 := Lib.hid (HB6.out.trans (hb.mono HB6.out.size))
                have HV := Lib.hid (show V = true from by rw [HP.out, hf]; rfl)
                obtain ⟨ua, uc, rfl⟩ := own_slice hu
                clear hb hf hu HBC z0 z1 z2 z3 z17
                go_wp2_with fail
                exact bodyPost_ret (v := .bool true) (by simp [results, Tryz.results40, go_sem]) rfl ⟨by rw [HV.out], HB7.out⟩
        exact AllReadyH.nil
end Go.Proofs.YtgoejmheihgpfaaGreatDoor
