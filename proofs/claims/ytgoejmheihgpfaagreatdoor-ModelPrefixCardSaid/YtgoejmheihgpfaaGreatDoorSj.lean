/-
  model's step.others, step.serve.
-/
import Derived.Test.YtgoejmheihgpfaaGreatDoorSg
import Derived.Deep.MidRow
namespace Go.Proofs.YtgoejmheihgpfaaGreatDoor
open Go.RowKit

/-- a load of a struct as one step, ahead of a drawn region's tail -/
theorem still_load {P : Program} {ops : Array Oper} {w : World} {Q : Act → Prop} {a : Act} {o : Oper} {rest : List Oper} (ty : TypeId) (x : Operand) (ho : o.op = .load ty x) (hw : Region.wanted o (yielded ops a.tmps) = true) (b f : Nat) (hx : a.eval x = .pointer (some ⟨b, f, none⟩)) (v : Value)
    (hrun : (loadVar ty ⟨b, f, none⟩).run P w = .ok v w) (h : wpStill P ops w Q rest (a.put o.dst v)) : wpStill P ops w Q (o :: rest) a := by
  refine wpStill_step (fun K hK => ?_)
  rw [if_pos hw]
  unfold Oper.still execOp
  simp only [ho, hx, Instr.loadAt, Instr.sureAddr, Sem.run_bind, Sem.run_pure, Result.andThen_ok, hrun]
  exact ⟨rfl, hK _ h⟩
theorem info_step : (Tryz.prog.info? 102).map (·.size) = some 20 := by kernel_rfl
theorem info_mrk : (Tryz.prog.info? 57).map (·.size) = some 14 := by kernel_rfl
theorem load_step {W : World} {g : Nat} {cs : Array Value} (h : W.heap[g]? = some (.cells cs 102 (0, 0))) (hs : cs.size = 20) : (loadVar 102 ⟨g, 0, none⟩).run Tryz.prog W = .ok (.agg cs) W :=
  run_loadVar_row W g _ _ cs (0, 0) _ h Tryz.underlying102 rfl (by rw [info_step, hs])
theorem load_mrk {W : World} {b o : Nat} {x : Mrk} (h : ∀ j u, (mrkC x)[j]? = some u → W.cell? ⟨b, o + j, none⟩ = some u) : (loadVar 57 ⟨b, o, none⟩).run Tryz.prog W = .ok (.agg (mrkC x)) W :=
  run_loadVar_mid W b o _ (mrkC x).toList _ (fun j v hv => h j v (by simpa using hv)) Tryz.underlying57 rfl (by rw [info_mrk]; rfl)

def mkcells (M : List Mrk) : List Value := M.flatMap (fun x => (mrkC x).toList)
theorem mkcells_at : ∀ (L : List Mrk) (k : Nat) (h : k < L.length) (j : Nat) (u : Value), (mrkC L[k])[j]? = some u → (mkcells L)[k * 14 + j]? = some u
  | t :: L, 0, _, j, u, hu => by
    have hj : j < (mrkC t).toList.length := by have := (Array.getElem?_eq_some_iff.1 hu).1; simpa using this
    have hu' : (mrkC t)[j]? = some u := hu
    unfold mkcells
    rw [List.flatMap_cons, Nat.zero_mul, Nat.zero_add, List.getElem?_append_left hj]
    simpa using hu'
  | t :: L, k + 1, h, j, u, hu => by
    have hl : (mrkC t).toList.length = 14 := rfl
    have := mkcells_at L k (by simpa using h) j u hu
    unfold mkcells at this ⊢
    rw [List.flatMap_cons, List.getElem?_append_right (by omega), hl, show (k + 1) * 14 + j - 14 = k * 14 + j by omega]
    exact this
theorem mrk_at {w : World} {n c : Nat} {a : Option Addr} {L : List Mrk} (h : Slc w 14 (.slice a n c) L.length (mkcells L)) {k : Nat} (hk : k < L.length) :
    ∃ b o, a = some ⟨b, o, none⟩ ∧ b < w.heap.size ∧ ∀ j u, (mrkC L[k])[j]? = some u → w.cell? ⟨b, o + k * 14 + j, none⟩ = some u := by
  obtain ⟨_, _, e⟩ := h.shape
  injection e with _ e2
  subst e2
  obtain ⟨b, o, rfl, hb, hc⟩ := slc_cells h (by omega)
  exact ⟨b, o, rfl, hb, fun j u hu => by rw [Nat.add_assoc]; exact hc _ _ (mkcells_at L k hk j u hu)⟩
def othersF (nw one : Int) : Nat → List Mrk → List Mrk → Bool
  | i, a :: M, b :: N => (decide ((i : Int) = one) || passedA nw a b) && othersF nw one (i + 1) M N
  | _, _, _ => true
/-- is all else as it was? -/
def othersA (nw one : Int) (M N : List Mrk) : Bool := decide (M.length = N.length) && othersF nw one 0 M N
theorem othersF_next {nw one : Int} {i : Nat} {a b : List Mrk} {k : Nat} (h1 : k < a.length) (h2 : k < b.length) : othersF nw one i (a.drop k) (b.drop k) = ((decide ((i : Int) = one) || passedA nw a[k] b[k]) && othersF nw one (i + 1) (a.drop (k + 1)) (b.drop (k + 1))) := by
  rw [List.drop_eq_getElem_cons h1, List.drop_eq_getElem_cons h2]
  rfl
theorem othersF_end {nw one : Int} {i : Nat} {a b : List Mrk} {k : Nat} (h1 : ¬ k < a.length) : othersF nw one i (a.drop k) (b.drop k) = true := by
  rw [List.drop_of_length_le (by omega)]
  rfl
set_option maxRecDepth 100000 in
set_option maxHeartbeats 8000000 in
theorem others_any (w : World) (s : Sch) (ra sa ga la ma lb mb : Option Addr) (rv sv gv lc mc le me : Nat) (pf pc pn pd ps pm kp nn th nw da db : Int) (L R : List Ent) (M N : List Mrk) (one : Int) (hA : Slc w 14 (.slice ma M.length mc) M.length (mkcells M)) (hB : Slc w 14 (.slice mb N.length me) N.length (mkcells N)) (hn : M.length ≤ 1000) :
    Calls Tryz.prog 38 #[.agg #[.string (bT s.name), .slice ra s.records.length rv, .slice sa s.services.length sv, .slice ga s.sagas.length gv, .int .i64 pf, .int .i64 pc, .int .i64 pn, .int .i64 pd, .int .i64 ps, .int .i64 pm, .int .i64 kp, .int .i64 nn, .int .i64 th, .int .i64 nw, .slice la L.length lc, .slice ma M.length mc, .int .i64 da, .slice lb R.length le, .slice mb N.length me, .int .i64 db], .int .i64 one] w fun x w' => x = .returned (.bool (othersA nw one M N)) ∧ Below w.heap.size w w' := by
  have HA := Lib.hid hA
  have HB := Lib.hid hB
  have HPS := Lib.hid (fun W a b => passed_any W s ra sa ga la ma lb mb rv sv gv lc mc le me pf pc pn pd ps pm kp nn th nw da db L R M N a b)
  clear hA hB
  generalize hE : othersA nw one M N = E
  have HE0 := Lib.hid hE
  clear hE
  go_enter Tryz.func38, Tryz.ntmps38
  go_upto_region 1 with (fail)
  generalize hwa : w.alloc (.cells #[.string (bT s.name), .slice ra s.records.length rv, .slice sa s.services.length sv, .slice ga s.sagas.length gv, .int .i64 pf, .int .i64 pc, .int .i64 pn, .int .i64 pd, .int .i64 ps, .int .i64 pm, .int .i64 kp, .int .i64 nn, .int .i64 th, .int .i64 nw, .slice la L.length lc, .slice ma M.length mc, .int .i64 da, .slice lb R.length le, .slice mb N.length me, .int .i64 db] 102) = wa at *
  have HXa := Lib.hid (show wa.heap[w.heap.size]? = some (.cells #[.string (bT s.name), .slice ra s.records.length rv, .slice sa s.services.length sv, .slice ga s.sagas.length gv, .int .i64 pf, .int .i64 pc, .int .i64 pn, .int .i64 pd, .int .i64 ps, .int .i64 pm, .int .i64 kp, .int .i64 nn, .int .i64 th, .int .i64 nw, .slice la L.length lc, .slice ma M.length mc, .int .i64 da, .slice lb R.length le, .slice mb N.length me, .int .i64 db] 102 (0, 0)) from hwa ▸ heap_alloc_new _ _)
  have HBa := Lib.hid (show Below w.heap.size w wa from hwa ▸ bl1 _ _)
  clear hwa
  have HX := Lib.hid (fun W (X : Below wa.heap.size wa W) => show W.heap[w.heap.size]? = some (.cells #[.string (bT s.name), .slice ra s.records.length rv, .slice sa s.services.length sv, .slice ga s.sagas.length gv, .int .i64 pf, .int .i64 pc, .int .i64 pn, .int .i64 pd, .int .i64 ps, .int .i64 pm, .int .i64 kp, .int .i64 nn, .int .i64 th, .int .i64 nw, .slice la L.length lc, .slice ma M.length mc, .int .i64 da, .slice lb R.length le, .slice mb N.length me, .int .i64 db] 102 (0, 0)) from (X.block _ (Array.getElem?_eq_some_iff.1 HXa.out).1).trans HXa.out)
  have hxa := HXa.out
  have x15 : wa.cell? ⟨w.heap.size, 15, none⟩ = some (.slice ma M.length mc) := by simp only [World.cell?, hxa]; rfl
  have x18 : wa.cell? ⟨w.heap.size, 18, none⟩ = some (.slice mb N.length me) := by simp only [World.cell?, hxa]; rfl
  clear hxa
  by_cases hl : M.length = N.length
  case neg =>
    have d1 : ((M.length : Int) == (N.length : Int)) = false := by rw [beq_eq_false_iff_ne]; omega
    have d2 : ((M.length : Int) != (N.length : Int)) = true := by rw [bne_iff_ne]; omega
    have HE := Lib.hid (show E = false from by rw [← HE0.out]; unfold othersA; rw [decide_eq_false hl]; rfl)
    go_wp2_with fail
    exact bodyPost_ret (v := .bool false) (by simp [results, Tryz.results38, go_sem]) rfl ⟨by rw [HE.out], HBa.out⟩
  have d1 : ((M.length : Int) == (N.length : Int)) = true := by rw [beq_iff_eq]; omega
  have d2 : ((M.length : Int) != (N.length : Int)) = false := by rw [bne_eq_false_iff_eq]; omega
  have HL := Lib.hid hl
  have HE := Lib.hid (show E = othersF nw one 0 (M.drop 0) (N.drop 0) from by rw [← HE0.out]; unfold othersA; rw [decide_eq_true hl]; rfl)
  clear hl
  go_wp2_with fail
  go_loopw [19] (fun vi wr => ∃ k : Nat, k ≤ M.length ∧ vi = .int .i64 (k : Nat) ∧ Hid (Below wa.heap.size wa wr) ∧ Hid (E = othersF nw one k (M.drop k) (N.drop k))) (fun vi _ => M.length - (intOf vi).toNat)
  case atStart => exact ⟨0, by omega, rfl, Lib.hid (Below.refl _ _), HE⟩
  case round =>
    clear HE HE0 x15 x18
    rename World => wr
    obtain ⟨k, hk, rfl, HBr, HE⟩ := hrel
    have HBw := Lib.hid (HBa.out.trans (HBr.out.mono HBa.out.size))
    by_cases hlt : k < M.length
    case neg =>
      have HN := Lib.hid (HE.out.trans (othersF_end hlt))
      go_wp2_with fail
      exact bodyPost_ret (v := .bool true) (by simp [results, Tryz.results38, go_sem]) rfl ⟨by rw [HN.out], HBw.out⟩
    have hlt2 : k < N.length := by rw [← HL.out]; exact hlt
    have HN := Lib.hid (HE.out.trans (othersF_next hlt hlt2))
    have HBn := Lib.hid (fun n => show Below wa.heap.size wa (wr.drewN n) from ⟨HBr.out.os, HBr.out.tape, HBr.out.output, HBr.out.size, HBr.out.block⟩)
    by_cases ho : (k : Int) = one
    · have o1 : ((k : Int) == one) = true := by rw [beq_iff_eq]; exact ho
      have o2 : ((k : Int) != one) = false := by rw [bne_eq_false_iff_eq]; exact ho
      have HN2 := Lib.hid (show E = othersF nw one (k + 1) (M.drop (k + 1)) (N.drop (k + 1)) from by rw [HN.out, decide_eq_true ho]; rfl)
      clear ho HN HE
      go_wp2_with fail
      go_quiet (fail)
      have HB4 := Lib.hid (HBn.out nq)
      go_wp2_with fail
      exact ⟨⟨k + 1, by omega, by go_num, HB4, HN2⟩, by simp [intOf]; omega⟩
    as_aux_lemma =>
      have o1 : ((k : Int) == one) = false := by rw [beq_eq_false_iff_ne]; exact ho
      have o2 : ((k : Int) != one) = true := by rw [bne_iff_ne]; exact ho
      rw [decide_eq_false ho, Bool.false_or] at HN
      obtain ⟨b1, o1', rfl, hb1, hp⟩ := mrk_at (HA.out.below HBw.out) hlt
      obtain ⟨b2, o2', rfl, hb2, hq⟩ := mrk_at (HB.out.below HBw.out) hlt2
      have hxr := HX.out wr HBr.out
      have HDR := Lib.hid (show Below wr.heap.size wr wr.drew from ⟨rfl, rfl, rfl, Nat.le_refl _, fun _ _ => rfl⟩)
      have HBd := Lib.hid (show Below wa.heap.size wa wr.drew from HBr.out.trans (HDR.out.mono HBr.out.size))
      generalize M[k] = x at *
      generalize N[k] = y at *
      
      have HL1 := Lib.hid (load_mrk (W := wr.drew) hp)
      have HL2 := Lib.hid (load_mrk (W := wr.drew) hq)
      unfold mrkC at HL1 HL2
      have HL0 := Lib.hid (load_step (W := wr.drew) hxr rfl)
      have x15 : wr.drew.cell? ⟨w.heap.size, 15, none⟩ = some (.slice (some ⟨b1, o1', none⟩) M.length mc) := by show wr.cell? _ = _; simp only [World.cell?, hxr]; rfl
      have x18 : wr.drew.cell? ⟨w.heap.size, 18, none⟩ = some (.slice (some ⟨b2, o2', none⟩) N.length me) := by show wr.cell? _ = _; simp only [World.cell?, hxr]; rfl
      have hlw : w.heap.size < wr.drew.heap.size := (Array.getElem?_eq_some_iff.1 hxr).1
      have hbd1 : b1 < wr.drew.heap.size := hb1
      have hbd2 : b2 < wr.drew.heap.size := hb2
      have HPC := Lib.hid (HPS.out wr.drew x y)
      generalize passedA nw x y = q at *
      have hi1 : (0 : Int) ≤ (k : Int) := by omega
      have hi2 : (k : Int) < (M.length : Int) := by omega
      have hi3 : (k : Int) < (N.length : Int) := by omega
      clear hp hq hxr HE ho
      go_wp2_with fail
      refine wp_region_still_tail 17 (by kernel_rfl) (by kernel_rfl) ?_
      simp only [List.take_succ_cons, List.take_zero, List.drop_succ_cons, List.drop_zero]
      iterate 4 still_step
      refine still_load _ _ rfl rfl _ _ rfl _ HL0.out ?_
      try simp only [Act.put, List.setIfInBounds_toArray, List.set_cons_zero, List.set_cons_succ]
      iterate 5 still_step
      refine still_load _ _ rfl rfl _ _ rfl _ HL1.out ?_
      try simp only [Act.put, List.setIfInBounds_toArray, List.set_cons_zero, List.set_cons_succ]
      iterate 5 still_step
      refine still_load _ _ rfl rfl _ _ rfl _ HL2.out ?_
      try simp only [Act.put, List.setIfInBounds_toArray, List.set_cons_zero, List.set_cons_succ]
      refine wpStill_nil ?_
      change wpList _ _ _ _ _ wr.drew
      clear HL0 HL1 HL2
      as_aux_lemma =>
        go_wp2_with fail
        refine HPC.out.mono ?_
        rintro e w2 ⟨rfl, hb⟩
        have HB2 := Lib.hid (HBd.out.trans (hb.mono HBd.out.size))
        have HBW2 := Lib.hid (HBa.out.trans (HB2.out.mono HBa.out.size))
        clear hb HPC
        clear x15 x18
        cases q with
        | true =>
          rw [Bool.true_and] at HN
          go_wp2_with fail
          exact ⟨⟨k + 1, by omega, by go_num, HB2, HN⟩, by simp [intOf]; omega⟩
        | false =>
          rw [Bool.false_and] at HN
          go_wp2_with fail
          exact bodyPost_ret (v := .bool false) (by simp [results, Tryz.results38, go_sem]) rfl ⟨by rw [HN.out], HBW2.out⟩
end Go.Proofs.YtgoejmheihgpfaaGreatDoor
