/- Lemmas for ModelStays' proof. -/
import Derived.Test.YtgoejmheihgpfaaGreatDoorSg
import Derived.BigFrame
namespace Go.Proofs.YtgoejmheihgpfaaGreatDoor
set_option maxRecDepth 100000
set_option maxHeartbeats 16000000
open Go.RowKit
theorem wpList_loadS {P : Program} {ops : Array Oper} {w : World} {Q : Exit → Act → World → Prop} {a : Act} {o : Oper} {rest : List Oper} (ty : TypeId) (x : Operand) (ho : o.op = .load ty x) (hw : Region.wanted o (yielded ops a.tmps) = true) (b f : Nat) (hx : a.eval x = .pointer (some ⟨b, f, none⟩)) (v : Value)
  (hrun : (loadVar ty ⟨b, f, none⟩).run P w = .ok v w) (h : wpList P ops Q rest (a.put o.dst v) w) : wpList P ops Q (o :: rest) a w :=
 BigFrame.wpList_want hw fun K hK => by
  unfold Oper.wp execOp
  simp only [ho, hx, Instr.loadAt, Instr.sureAddr, Sem.run_bind, Sem.run_pure, Result.andThen_ok, hrun]
  exact hK _ _ h
theorem serve1_any (w : World) (x e : Ent) (eb : Nat) (he : w.heap[eb]? = some (.cells #[.int .u64 e.stamp, sT e.key, sT e.sv, sT e.mt, sT e.acc, iV e.am] 71 (0, 0))) :
  Calls Tryz.prog 71 #[.agg #[.int .u64 x.stamp, sT x.key, sT x.sv, sT x.mt, sT x.acc, iV x.am], .pointer (some ⟨eb, 0, none⟩)] w fun y w' => y = .returned (.bool (decide (x.key = e.key))) ∧ Below w.heap.size w w' := by
 have hel : eb < w.heap.size := (zq he).1
 have HBw := zD (bl1 w (.cells #[.int .u64 x.stamp, sT x.key, sT x.sv, sT x.mt, sT x.acc, iV x.am] 71))
 have he2 := (HBw.out.block _ hel).trans he
 have r1 : (w.alloc (.cells #[.int .u64 x.stamp, sT x.key, sT x.sv, sT x.mt, sT x.acc, iV x.am] 71)).cell? ⟨eb, 1, none⟩ = some (sT e.key) := by simp only [World.cell?, he2]; rfl
 have e_n := bT_same x.key e.key
 have HE := zD e_n
 clear he he2
 go_enter Tryz.func71, Tryz.ntmps71
 go_wp2_with fail
 exact zR (v := .bool (decide (x.key = e.key))) ⟨rfl, HBw.out⟩
def IdxR (b : Bool) (x : Ending) : Prop := ∃ n : Int, x = .returned (iV n) ∧ decide (0 ≤ n) = b
theorem any_next {α : Type} {p : α → Bool} {L : List α} {k : Nat} (h : k < L.length) : (L.drop k).any p = (p L[k] || (L.drop (k + 1)).any p) := by
 rw [List.drop_eq_getElem_cons h]; rfl
theorem any_end {α : Type} {p : α → Bool} {L : List α} {k : Nat} (h : ¬ k < L.length) : (L.drop k).any p = false := by
 rw [List.drop_of_length_le (by omega)]; rfl
theorem indexE_any (w : World) (va : Value) (L : List Ent) (hA : Slc w 6 va L.length (ecells L)) (e : Ent) (eb : Nat) (he : w.heap[eb]? = some (.cells #[.int .u64 e.stamp, sT e.key, sT e.sv, sT e.mt, sT e.acc, iV e.am] 71 (0, 0))) :
  Calls Tryz.prog 99 #[va, .func (.func 71) #[] #[.pointer (some ⟨eb, 0, none⟩)]] w fun x w' => IdxR (L.any (fun x => decide (x.key = e.key))) x ∧ Below w.heap.size w w' := by
 obtain ⟨la, lc, rfl⟩ := hA.shape
 have hel : eb < w.heap.size := (zq he).1
 have HA := zD hA
 have hn := hA.bd
 have HF := zD (fun W (X : Below w.heap.size w W) x => serve1_any W x e eb ((X.block _ hel).trans he))
 have HE := zD (show L.any (fun x => decide (x.key = e.key)) = (L.drop 0).any (fun x => decide (x.key = e.key)) from rfl)
 generalize L.any (fun x => decide (x.key = e.key)) = E at *
 clear hA he
 go_enter Tryz.func99, Tryz.ntmps99
 go_wp2_with fail
 go_loopw [5, 8] (fun _ vi wr => ∃ k : Nat, k ≤ L.length ∧ vi = iV (k : Nat) ∧ Hid (Below w.heap.size w wr) ∧ Hid (E = (L.drop k).any (fun x => decide (x.key = e.key)))) (fun _ vi _ => L.length - (intOf vi).toNat)
 case atStart => exact ⟨0, by omega, rfl, zD zl, HE⟩
 case round =>
  clear HE; rename World => wr
  obtain ⟨k, hk, rfl, HBr, HE⟩ := hrel; by_cases hlt : k < L.length
  case neg =>
   have HN := zD (HE.out.trans (any_end hlt)); go_wp2_with fail; exact zR (v := iV (-1)) ⟨⟨-1, rfl, by rw [HN.out]; rfl⟩, HBr.out⟩
  obtain ⟨b1, o1, rfl, hb1, p0, p1, p2, p3, p4, p5⟩ := ent_at (HA.out.below HBr.out) hlt; have HN := zD (HE.out.trans (any_next hlt)); generalize L[k] = x at *; have HFc := zD (HF.out wr HBr.out x); generalize decide (x.key = e.key) = q at *; go_wp2_with fail; refine HFc.out.mono ?_; rintro e' w2 ⟨rfl, hb⟩; have HB2 := zT HBr hb; clear hb HFc; cases q with
  | true =>
   rw [Bool.true_or] at HN; go_wp2_with fail; exact zR (v := iV (k : Nat)) ⟨⟨(k : Nat), rfl, by rw [HN.out]; exact zt (by omega)⟩, HB2.out⟩
  | false =>
   rw [Bool.false_or] at HN; go_wp2_with fail; exact ⟨⟨k + 1, by omega, by go_num, HB2, HN⟩, by simp [intOf]; omega⟩
theorem containsE_any (w : World) (va : Value) (L : List Ent) (hA : Slc w 6 va L.length (ecells L)) (e : Ent) (eb : Nat) (he : w.heap[eb]? = some (.cells #[.int .u64 e.stamp, sT e.key, sT e.sv, sT e.mt, sT e.acc, iV e.am] 71 (0, 0))) :
  Calls Tryz.prog 70 #[va, .func (.func 71) #[] #[.pointer (some ⟨eb, 0, none⟩)]] w fun x w' => x = .returned (.bool (L.any (fun x => decide (x.key = e.key)))) ∧ Below w.heap.size w w' := by
 obtain ⟨la, lc, rfl⟩ := hA.shape
 have HI := zD (indexE_any w _ L hA e eb he)
 generalize L.any (fun x => decide (x.key = e.key)) = E at *
 clear hA he
 go_enter Tryz.func70, Tryz.ntmps70
 go_wp2_with fail
 refine HI.out.mono ?_
 rintro e' w2 ⟨⟨n, rfl, hn⟩, hb⟩
 have HB2 := zD hb
 have HN := zD hn
 clear hb hn
 go_wp2_with fail
 exact zR (v := .bool (decide (0 ≤ n))) ⟨by rw [HN.out], HB2.out⟩
theorem slcE_front {w : World} {a : Option Addr} {c : Nat} {L : List Ent} (h : Slc w 6 (.slice a L.length c) L.length (ecells L)) (k : Nat) (hk : k ≤ L.length) : Slc w 6 (.slice a k c) (L.take k).length (ecells (L.take k)) := by
 obtain ⟨⟨a', c', e, q1, q2, q3, q4⟩, ql⟩ := h
 injection e with e1 _ e3
 subst e1 e3
 have hl : (L.take k).length = k := by rw [List.length_take]; omega
 have hel : ∀ T : List Ent, (ecells T).length = T.length * 6 := fun T => by
  unfold ecells; induction T with
  | nil => rfl
  | cons x r ih => rw [List.flatMap_cons, List.length_append, ih, List.length_cons]; simp [entC]; omega
 have hpre : ecells L = ecells (L.take k) ++ ecells (L.drop k) := by unfold ecells; rw [← List.flatMap_append, List.take_append_drop]
 refine ⟨⟨a, c, by rw [hl], by omega, q2, q3, fun h0 => ?_⟩, hel _⟩
 obtain ⟨b, o, e, hb, hc⟩ := q4 (by omega)
 exact ⟨b, o, e, hb, fun j u hu => hc j u (by rw [hpre, List.getElem?_append_left (List.getElem?_eq_some_iff.1 hu).1]; exact hu)⟩
def ent0 : Ent := ⟨0, [], [], [], [], 0⟩
def serveA (s : Sch) (nw : Int) (L R : List Ent) (M N : List Mrk) (da db : Int) : Bool :=
 decide (R.length = L.length + 1) && decide (da = db) && entsEq L (R.take L.length) && othersA nw (-1) M N && !(decide (0 < L.length) && decide ((R.getD L.length ent0).stamp ≤ (L.getD (L.length - 1) ent0).stamp)) && !(L.any (fun x => decide (x.key = (R.getD L.length ent0).key))) && (balA s R []).isSome
theorem serve_any (w : World) (s : Sch) (ra sa ga la ma lb mb : Option Addr) (rv sv gv lc mc le me : Nat) (pf pc pn pd ps pm kp nn th nw da db : Int) (L R : List Ent) (M N : List Mrk) (hS : SchR w s (.slice ra s.records.length rv) (.slice sa s.services.length sv) (.slice ga s.sagas.length gv)) (hM : Small s) (hA : Slc w 6 (.slice la L.length lc) L.length (ecells L)) (hB : Slc w 6 (.slice lb R.length le) R.length (ecells R)) (hC : Slc w 14 (.slice ma M.length mc) M.length (mkcells M)) (hD : Slc w 14 (.slice mb N.length me) N.length (mkcells N)) (hn1 : L.length ≤ 1000) (hn2 : R.length ≤ 1000) (hn3 : M.length ≤ 1000) (hacc : ∀ e ∈ R, e.acc.length ≤ 1000000) :
  Calls Tryz.prog 40 #[.agg #[sT s.name, .slice ra s.records.length rv, .slice sa s.services.length sv, .slice ga s.sagas.length gv, iV pf, iV pc, iV pn, iV pd, iV ps, iV pm, iV kp, iV nn, iV th, iV nw, .slice la L.length lc, .slice ma M.length mc, iV da, .slice lb R.length le, .slice mb N.length me, iV db]] w fun x w' => x = .returned (.bool (serveA s nw L R M N da db)) ∧ Below w.heap.size w w' := by
 have HA := zD (fun W (X : Below w.heap.size w W) => hA.below X)
 have HB := zD (fun W (X : Below w.heap.size w W) => hB.below X)
 have hcap : R.length ≤ le := by obtain ⟨⟨_, _, e, h, _⟩, _⟩ := hB; cases e; exact h
 have HOT := zD (fun W (X : Below w.heap.size w W) => others_any W s ra sa ga la ma lb mb rv sv gv lc mc le me pf pc pn pd ps pm kp nn th nw da db L R M N (-1) (hC.below X) (hD.below X) hn3)
 have HBA := zD (fun W (X : Below w.heap.size w W) => balances_any W s _ _ _ (hS.below X) hM _ R (hB.below X) hn2 hacc)
 have HP := zD (show serveA s nw L R M N da db = (decide (R.length = L.length + 1) && decide (da = db) && entsEq L (R.take L.length) && othersA nw (-1) M N && !(decide (0 < L.length) && decide ((R.getD L.length ent0).stamp ≤ (L.getD (L.length - 1) ent0).stamp)) && !(L.any (fun x => decide (x.key = (R.getD L.length ent0).key))) && (balA s R []).isSome) from rfl)
 generalize serveA s nw L R M N da db = V at *
 clear hS hM hA hB hC hD hacc
 go_enter Tryz.func40, Tryz.ntmps40
 go_upto_region 1 with (fail)
 generalize hwa : w.alloc (.cells #[sT s.name, .slice ra s.records.length rv, .slice sa s.services.length sv, .slice ga s.sagas.length gv, iV pf, iV pc, iV pn, iV pd, iV ps, iV pm, iV kp, iV nn, iV th, iV nw, .slice la L.length lc, .slice ma M.length mc, iV da, .slice lb R.length le, .slice mb N.length me, iV db] 102) = wa at *
 have HXa := zD (show wa.heap[w.heap.size]? = some (.cells #[sT s.name, .slice ra s.records.length rv, .slice sa s.services.length sv, .slice ga s.sagas.length gv, iV pf, iV pc, iV pn, iV pd, iV ps, iV pm, iV kp, iV nn, iV th, iV nw, .slice la L.length lc, .slice ma M.length mc, iV da, .slice lb R.length le, .slice mb N.length me, iV db] 102 (0, 0)) from hwa ▸ zw _ _)
 have HBa := zD (show Below w.heap.size w wa from hwa ▸ bl1 _ _)
 clear hwa
 have HX := zD (fun W (X : Below wa.heap.size wa W) => show W.heap[w.heap.size]? = some (.cells #[sT s.name, .slice ra s.records.length rv, .slice sa s.services.length sv, .slice ga s.sagas.length gv, iV pf, iV pc, iV pn, iV pd, iV ps, iV pm, iV kp, iV nn, iV th, iV nw, .slice la L.length lc, .slice ma M.length mc, iV da, .slice lb R.length le, .slice mb N.length me, iV db] 102 (0, 0)) from (X.block _ (zq HXa.out).1).trans HXa.out)
 have hxa := HXa.out
 have hla : w.heap.size < wa.heap.size := (zq hxa).1
 have hw1 : IntKind.i64.wrap ((L.length : Int) + 1) = (L.length : Int) + 1 := IntWalk.i64_in _ (by omega)
 have HDR := zD (show Below wa.heap.size wa wa.drew from ⟨rfl, rfl, rfl, zn, fun _ _ => rfl⟩)
 have HDN := zD (fun n => show Below wa.heap.size wa (wa.drewN n) from ⟨rfl, rfl, rfl, zn, fun _ _ => rfl⟩)
 have HBd := zD (show Below w.heap.size w wa.drew from HBa.out.trans (HDR.out.mono HBa.out.size))
 have HBn := zD (fun n => show Below w.heap.size w (wa.drewN n) from HBa.out.trans ((HDN.out n).mono HBa.out.size))
 have x14 := zG hxa 14 rfl
 have x16 := zG hxa 16 rfl
 have x17 := zG hxa 17 rfl
 have x19 := zG hxa 19 rfl
 have y14 : wa.drew.cell? ⟨w.heap.size, 14, none⟩ = some (.slice la L.length lc) := by show wa.cell? _ = _; simp only [World.cell?, hxa]; rfl
 have y16 : wa.drew.cell? ⟨w.heap.size, 16, none⟩ = some (iV da) := by show wa.cell? _ = _; simp only [World.cell?, hxa]; rfl
 have y17 : wa.drew.cell? ⟨w.heap.size, 17, none⟩ = some (.slice lb R.length le) := by show wa.cell? _ = _; simp only [World.cell?, hxa]; rfl
 have y19 : wa.drew.cell? ⟨w.heap.size, 19, none⟩ = some (iV db) := by show wa.cell? _ = _; simp only [World.cell?, hxa]; rfl
 clear hxa
 by_cases c1 : R.length = L.length + 1
 case neg =>
  have d1 : ((R.length : Int) == (L.length : Int) + 1) = false := by rw [zb]; omega
  have d2 : ((R.length : Int) != (L.length : Int) + 1) = true := by rw [bne_iff_ne]; omega
  have HV := zD (show V = false from by rw [HP.out, zf c1]; rfl); clear c1 y14 y16 y17 y19; go_wp2_with fail; go_quiet (fail); go_wp2_with fail; exact zR (v := .bool false) ⟨by rw [HV.out], HBn.out _⟩
 have d1 : ((R.length : Int) == (L.length : Int) + 1) = true := by rw [beq_iff_eq]; omega
 have d2 : ((R.length : Int) != (L.length : Int) + 1) = false := by rw [bne_eq_false_iff_eq]; omega
 rw [zt c1, Bool.true_and] at HP
 by_cases c2 : da = db
 case neg =>
  have d3 : (da == db) = false := by rw [zb]; exact c2
  have d4 : (da != db) = true := by rw [bne_iff_ne]; exact c2
  have HV := zD (show V = false from by rw [HP.out, zf c2]; rfl); clear c1 c2 y14 y16 y17 y19; go_wp2_with fail; go_quiet (fail); go_wp2_with fail; exact zR (v := .bool false) ⟨by rw [HV.out], HBn.out _⟩
 have d3 : (da == db) = true := by rw [beq_iff_eq]; exact c2
 have d4 : (da != db) = false := by rw [bne_eq_false_iff_eq]; exact c2
 rw [zt c2, Bool.true_and] at HP
 clear c2
 have hk : L.length < R.length := by omega
 have hk2 : L.length ≤ le := by omega
 have hi0 : (0 : Int) ≤ (L.length : Int) := by omega
 have hi1 : (L.length : Int) ≤ (le : Int) := by omega
 have hi2 : (L.length : Int) < (R.length : Int) := by omega
 have htl : (R.take L.length).length = L.length := by rw [List.length_take]; omega
 have HTL := zD htl
 have HEQ := zD (show Calls Tryz.prog 66 #[.slice la L.length lc, .slice lb L.length le] wa.drew _ from equalE_any wa.drew _ _ L (R.take L.length) (HA.out _ HBd.out) (slcE_front (HB.out _ HBd.out) L.length (Nat.le_of_lt hk)))
 have HKR := zD hk
 clear htl c1 hk
 have hcx : R.getD L.length ent0 = R[L.length]'HKR.out := by simp [List.getD_eq_getElem?_getD, List.getElem?_eq_getElem HKR.out]
 have HCX := zD hcx
 clear hcx
 generalize entsEq L (R.take L.length) = q at *
 clear x16 x17 x19
 go_wp2_with fail
 go_still_tail 25, (by kernel_rfl)
 change wpList _ _ _ _ _ wa.drew
 generalize wa.drew = wd at *
 as_aux_lemma =>
  go_wp2_with fail; refine HEQ.out.mono ?_; rintro e' w2 ⟨rfl, hb⟩; have HB2 := zT HBd hb; have HB2a := zT HDR hb; clear hb HEQ y14 y16 y17 y19 d1 d2 d3 d4 hw1; cases q with
  | false =>
   have HV := zD (show V = false from by rw [HP.out]; rfl); go_wp2_with fail; exact zR (v := .bool false) ⟨by rw [HV.out], HB2.out⟩
  | true =>
   rw [Bool.true_and] at HP; have hx2 := HX.out w2 HB2a.out; have HL2 := zD (load_step hx2 rfl); have hl2 : w.heap.size < w2.heap.size := (zq hx2).1; clear hx2; have HOC := zD (HOT.out w2 HB2.out); generalize othersA nw (-1) M N = q at *; go_wp2_with (first | (refine wpList_loadS _ _ rfl rfl _ _ rfl _ HL2.out ?_)); refine HOC.out.mono ?_; rintro e' w3 ⟨rfl, hb⟩; have HB3 := zT HB2 hb; have HB3a := zT HB2a hb; clear hb HOC HL2; cases q with
   | false =>
    have HV := zD (show V = false from by rw [HP.out]; rfl); go_wp2_with fail; exact zR (v := .bool false) ⟨by rw [HV.out], HB3.out⟩
   | true =>
    rw [Bool.true_and, HCX.out] at HP; have hx3 := HX.out w3 HB3a.out; have z17 := zG hx3 17 rfl; have hl3 : w.heap.size < w3.heap.size := (zq hx3).1; have HX3 := zD hx3; clear hx3; obtain ⟨b1, o1, rfl, hb1, p0, p1, p2, p3, p4, p5⟩ := ent_at (HB.out w3 HB3.out) HKR.out; generalize R[L.length]'HKR.out = e at *; go_upto_region 5 with (fail); have HE5 := zD (zw w3 (.cells #[.int .u64 e.stamp, sT e.key, sT e.sv, sT e.mt, sT e.acc, iV e.am] 71)); have HB5 := zD (HB3.out.alloc HB3.out.size (.cells #[.int .u64 e.stamp, sT e.key, sT e.sv, sT e.mt, sT e.acc, iV e.am] 71)); have HB5a := zD (HB3a.out.alloc HB3a.out.size (.cells #[.int .u64 e.stamp, sT e.key, sT e.sv, sT e.mt, sT e.acc, iV e.am] 71)); generalize w3.alloc (.cells #[.int .u64 e.stamp, sT e.key, sT e.sv, sT e.mt, sT e.acc, iV e.am] 71) = w5 at *; clear p0 p1 p2 p3 p4 p5 z17; have HDR5 := zD (show Below w5.heap.size w5 w5.drew from ⟨rfl, rfl, rfl, zn, fun _ _ => rfl⟩); have HDN5 := zD (fun n => show Below w5.heap.size w5 (w5.drewN n) from ⟨rfl, rfl, rfl, zn, fun _ _ => rfl⟩); have HBd5 := zD (show Below w.heap.size w w5.drew from HB5.out.trans (HDR5.out.mono HB5.out.size)); have HBd5a := zD (show Below wa.heap.size wa w5.drew from HB5a.out.trans (HDR5.out.mono HB5a.out.size)); have HBn5 := zD (fun n => show Below w.heap.size w (w5.drewN n) from HB5.out.trans ((HDN5.out n).mono HB5.out.size)); have hx5 := HX.out w5 HB5a.out; have hl5 : w.heap.size < w5.drew.heap.size := (zq hx5).1; have hle : w3.heap.size < w5.drew.heap.size := (zq HE5.out).1; have x14 := zG hx5 14 rfl; have y14 : w5.drew.cell? ⟨w.heap.size, 14, none⟩ = some (.slice la L.length lc) := x14; have he0 := HE5.out; have xe0 := zG he0 0 rfl; have ye0 : w5.drew.cell? ⟨w3.heap.size, 0, none⟩ = some (.int .u64 e.stamp) := xe0; have HCC := zD (containsE_any w5.drew _ L (HA.out _ HBd5.out) e w3.heap.size HE5.out); generalize L.any (fun x => decide (x.key = e.key)) = q at *; clear hx5 he0; generalize hLn : L.length = n at *; have HLN := zD hLn; clear hLn; by_cases c3 : 0 < n
    case neg =>
     obtain rfl : n = 0 := by omega
     have HP2 := zD (show V = (!q && (balA s R []).isSome) from by rw [HP.out, zf c3]; rfl); clear HP; have HP := HP2; clear HP2 c3 x14 xe0 hi0 hi1 hi2 hk2 hn1 hn2 hn3; have HSK := zD (fun W (X : Below w5.drew.heap.size w5.drew W) => show W.cell? ⟨w.heap.size, 14, none⟩ = some (.slice la 0 lc) from (X.cell (p := ⟨w.heap.size, 14, none⟩) hl5).trans y14); have hS5 := HSK.out w5.drew zl; clear y14 ye0; go_wp2_with fail; refine wp_region_noPanic ?_; refine wp_region_held_drew (S := (fun w' : World => w'.cell? ⟨w.heap.size, 14, none⟩ = some (.slice la 0 lc))) (by kernel_rfl) (by (first | exact hS5 | exact hS6)) (fun hHeld => ?_); refine zJ 0 50 rfl ?_; refine zJ 1 51 rfl ?_; refine zJ 2 52 rfl ?_; refine zU 3 53 rfl ?_; refine zU 4 54 rfl ?_; refine zU 5 55 rfl ?_; refine zU 6 56 rfl ?_; refine zU 7 57 rfl ?_; refine zU 8 58 rfl ?_; refine zU 9 59 rfl ?_; refine zU 10 60 rfl ?_; refine zU 11 61 rfl ?_; refine zU 12 62 rfl ?_; refine zU 13 63 rfl ?_; refine zJ 14 64 rfl ?_; refine zJ 15 65 rfl ?_; refine zJ 16 66 rfl ?_; refine zJ 17 67 rfl ?_; refine zJ 18 68 rfl ?_; refine zJ 19 69 rfl ?_; refine zy [20] ?_; refine zg (some 70) rfl (fun K hK => ?_) ?_
     ·go_simp
      (refine HCC.out.mono ?_; rintro e' w6 ⟨rfl, hb⟩; have hS6 := HSK.out w6 hb)
      refine hK.out _ _ (by (first | exact hS5 | exact hS6)) (fun hHeld => ?_); clear hK K; try simp only [Act.put, zX, zY, zZ]
      refine zJ 21 71 rfl ?_; refine wpAnyH_done (by kernel_rfl) ?_ _; refine NoPanic.normal ?_; have HB6 := zT HBd5 hb; have HB6a := zT HBd5a hb; clear hb HCC hS6 hHeld
      as_aux_lemma =>
       cases q with
       | true =>
        have HV := zD (show V = false from by rw [HP.out]; rfl); go_wp2_with fail; exact zR (v := .bool false) ⟨by rw [HV.out], HB6.out⟩
       | false =>
        rw [Bool.not_false, Bool.true_and] at HP; have hx6 := HX.out w6 HB6a.out; have z0 := zG hx6 0 rfl; have z1 := zG hx6 1 rfl; have z2 := zG hx6 2 rfl; have z3 := zG hx6 3 rfl; have z17 := zG hx6 17 rfl; have hl6 : w.heap.size < w6.heap.size := (zq hx6).1; have HBC := zD (HBA.out w6 HB6.out); clear hx6; go_wp2_with fail; refine HBC.out.mono ?_; rintro e' w7 ⟨⟨hn, rfl⟩ | ⟨F, u, hf, rfl, hu, _⟩, hb⟩
        ·have HB7 := zT HB6 hb
         have HV := zD (show V = false from by rw [HP.out, hn]; rfl); clear hb hn HBC z0 z1 z2 z3 z17; go_wp2_with fail; exact zR (v := .bool false) ⟨by rw [HV.out], HB7.out⟩
        ·have HB7 := zT HB6 hb
         have HV := zD (show V = true from by rw [HP.out, hf]; rfl); obtain ⟨ua, uc, rfl⟩ := own_slice hu; clear hb hf hu HBC z0 z1 z2 z3 z17; go_wp2_with fail; exact zR (v := .bool true) ⟨by rw [HV.out], HB7.out⟩
     exact zh
    have f3 : decide (0 < (n : Int)) = true := by rw [decide_eq_true_eq]; omega
    have f3' : decide (0 < n) = true := zt c3; rw [zt c3, Bool.true_and] at HP; have hj : n - 1 < L.length := by rw [HLN.out]; omega
    have HJX := zD (show L.getD (n - 1) ent0 = L[n - 1]'hj from by simp [List.getD_eq_getElem?_getD, List.getElem?_eq_getElem hj]); rw [HJX.out] at HP; have hjw : IntKind.i64.wrap ((n : Int) - 1) = ((n - 1 : Nat) : Int) := by rw [IntWalk.i64_in _ (by omega)]; omega
    have hsl := HA.out w5 HB5.out; rw [← HLN.out] at hsl; obtain ⟨b2, o2, rfl, hb2, p0, _, _, _, _, _⟩ := ent_at hsl hj; clear hsl; have pd0 : w5.drew.cell? ⟨b2, o2 + (n - 1) * 6, none⟩ = some (.int .u64 (L[n - 1]'hj).stamp) := p0; have hbd2 : b2 < w5.drew.heap.size := hb2; have hj0 : (0 : Int) ≤ ((n - 1 : Nat) : Int) := by omega
    have hj1 : ((n - 1 : Nat) : Int) < (n : Int) := by omega
    generalize L[n - 1]'hj = x at *; generalize hjj : n - 1 = j at *; have HJJ := zD hjj; clear hjj hj; by_cases c4 : e.stamp ≤ x.stamp
    ·have f4 : decide (e.stamp ≤ x.stamp) = true := zt c4
     have HV := zD (show V = false from by rw [HP.out, f4]; rfl); clear c3 c4 ye0 y14 pd0; go_wp2_with fail; go_quiet (fail); go_wp2_with fail; exact zR (v := .bool false) ⟨by rw [HV.out], HBn5.out _⟩
    have f4 : decide (e.stamp ≤ x.stamp) = false := zf c4; have HP2 := zD (show V = (!q && (balA s R []).isSome) from by rw [HP.out, f4]; rfl); clear HP; have HP := HP2; clear HP2 c3 c4 x14 xe0 p0; have HSK := zD (fun W (X : Below w5.drew.heap.size w5.drew W) => show W.cell? ⟨w.heap.size, 14, none⟩ = some (.slice (some ⟨b2, o2, none⟩) n lc) ∧ W.cell? ⟨b2, o2 + j * 6, none⟩ = some (.int .u64 x.stamp) ∧ W.cell? ⟨w3.heap.size, 0, none⟩ = some (.int .u64 e.stamp) from ⟨(X.cell (p := ⟨w.heap.size, 14, none⟩) hl5).trans y14, (X.cell (p := ⟨b2, o2 + j * 6, none⟩) hbd2).trans pd0, (X.cell (p := ⟨w3.heap.size, 0, none⟩) hle).trans ye0⟩); have hS5 := HSK.out w5.drew zl; clear y14 ye0; go_wp2_with fail; refine wp_region_noPanic ?_; refine wp_region_held_drew (S := (fun w' : World => w'.cell? ⟨w.heap.size, 14, none⟩ = some (.slice (some ⟨b2, o2, none⟩) n lc) ∧ w'.cell? ⟨b2, o2 + j * 6, none⟩ = some (.int .u64 x.stamp) ∧ w'.cell? ⟨w3.heap.size, 0, none⟩ = some (.int .u64 e.stamp))) (by kernel_rfl) (by (first | exact hS5 | exact hS6)) (fun hHeld => ?_); refine zJ 0 50 rfl ?_; refine zJ 1 51 rfl ?_; refine zJ 2 52 rfl ?_; refine zJ 3 53 rfl ?_; refine zJ 4 54 rfl ?_; refine zJ 5 55 rfl ?_; refine zJ 6 56 rfl ?_; refine zJ 7 57 rfl ?_; refine zJ 8 58 rfl ?_; refine zJ 9 59 rfl ?_; refine zJ 10 60 rfl ?_; refine zJ 11 61 rfl ?_; refine zJ 12 62 rfl ?_; refine zJ 13 63 rfl ?_; refine zJ 14 64 rfl ?_; refine zJ 15 65 rfl ?_; refine zJ 16 66 rfl ?_; refine zJ 17 67 rfl ?_; refine zJ 18 68 rfl ?_; refine zJ 19 69 rfl ?_; refine zy [20] ?_; refine zg (some 70) rfl (fun K hK => ?_) ?_
    ·go_simp
     (refine HCC.out.mono ?_; rintro e' w6 ⟨rfl, hb⟩; have hS6 := HSK.out w6 hb)
     refine hK.out _ _ (by (first | exact hS5 | exact hS6)) (fun hHeld => ?_); clear hK K; try simp only [Act.put, zX, zY, zZ]
     refine zJ 21 71 rfl ?_; refine wpAnyH_done (by kernel_rfl) ?_ _; refine NoPanic.normal ?_; have HB6 := zT HBd5 hb; have HB6a := zT HBd5a hb; clear hb HCC hS6 hHeld
     as_aux_lemma =>
      cases q with
      | true =>
       have HV := zD (show V = false from by rw [HP.out]; rfl); go_wp2_with fail; exact zR (v := .bool false) ⟨by rw [HV.out], HB6.out⟩
      | false =>
       rw [Bool.not_false, Bool.true_and] at HP; have hx6 := HX.out w6 HB6a.out; have z0 := zG hx6 0 rfl; have z1 := zG hx6 1 rfl; have z2 := zG hx6 2 rfl; have z3 := zG hx6 3 rfl; have z17 := zG hx6 17 rfl; have hl6 : w.heap.size < w6.heap.size := (zq hx6).1; have HBC := zD (HBA.out w6 HB6.out); clear hx6; go_wp2_with fail; refine HBC.out.mono ?_; rintro e' w7 ⟨⟨hn, rfl⟩ | ⟨F, u, hf, rfl, hu, _⟩, hb⟩
       ·have HB7 := zT HB6 hb
        have HV := zD (show V = false from by rw [HP.out, hn]; rfl); clear hb hn HBC z0 z1 z2 z3 z17; go_wp2_with fail; exact zR (v := .bool false) ⟨by rw [HV.out], HB7.out⟩
       ·have HB7 := zT HB6 hb
        have HV := zD (show V = true from by rw [HP.out, hf]; rfl); obtain ⟨ua, uc, rfl⟩ := own_slice hu; clear hb hf hu HBC z0 z1 z2 z3 z17; go_wp2_with fail; exact zR (v := .bool true) ⟨by rw [HV.out], HB7.out⟩
    exact zh
end Go.Proofs.YtgoejmheihgpfaaGreatDoor
