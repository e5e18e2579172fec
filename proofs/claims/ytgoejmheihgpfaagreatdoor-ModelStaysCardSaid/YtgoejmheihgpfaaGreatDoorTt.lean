/- Lemmas for ModelStays' proof. -/
import Derived.Deep.DeepCutAuto
import Derived.Deep.CutBlock
import Derived.RangeFuncBox
import Derived.BigGuardPart
import Derived.Test.YtgoejmheihgpfaaGreatDoorTr
import Derived.Test.YtgoejmheihgpfaaGreatDoorTl
namespace Go.Proofs.YtgoejmheihgpfaaGreatDoor
set_option maxRecDepth 100000
set_option maxHeartbeats 16000000
open Go.RowKit
attribute [local go_sem] Oper.semAt_some
theorem agg_t2 (W : World) : (isAgg 2).run Tryz.prog W = .ok false W := by simp [isAgg, run_underlying Tryz.underlying2]
theorem zinfo_t4 : (Tryz.prog.info? 4).map (·.zero) = some (some (.bool false)) := by kernel_rfl
theorem zero_t4 (W : World) : (zeroValue 4).run Tryz.prog W = .ok (.bool false) W := zo zinfo_t4 W
theorem below_put {B l : Nat} {w0 w : World} {o : Obj} (hb : Below B w0 w) (hl : B ≤ l) : Below B w0 (w.putObj l o) :=
 ⟨hb.os, hb.tape, hb.output, by simpa using hb.size, fun k hk => (World.putObj_heap_other (by omega)).trans (hb.block k hk)⟩
section
variable {F : Fence} {n : Nat} {P : Program}
theorem wpIn_range_box {α : Type} {g : Operand} {assign body : Code} {Q : Exit → Act → World → Prop} {a : Act} {w : World} (hro : F.round = none) (h1 : 1 ≤ n) {gf : Nat} {lb : Array Value} (hg : a.eval g = .func (.func gf) #[] lb) (hFg : F.fn gf)
  (eg : ∀ args w, (callFunc gf args).run P w = .ok (.enter gf args) w) {enc : α → Value} {Good : α → Prop} {w0 : World} {p pb : Tmp} (hseq : SeqC F (n - 1) P gf lb enc Good (KpR w0) w) (hw : w0.heap.size ≤ w.heap.size) (cl : α → Array Value) (T : TypeId)
  (Ix : Code → World → Prop) (hIx : ∀ c W l o o', Ix c W → w.heap.size ≤ l → W.heap[l]? = some o → o.isCells = false → Ix c (W.putObj l o'))
  (hassign : ∀ (l : Nat) (x : α) (W : World) (K : Act → World → Prop), Below w.heap.size w W → Good x → (∀ W' b, w.heap.size ≤ b → Below W.heap.size W W' → W'.heap[b]? = some (.cells (cl x) T (0, 0)) → K { tmps := (a.tmps.setIfInBounds p (enc x)).setIfInBounds pb (.pointer (some ⟨b, 0, none⟩)), defers := [] } W') →
   assign.wpIn (F.inRound l) (n - 1 - 1) P (Exit.then K (fun _ _ _ => False)) { tmps := a.tmps.setIfInBounds p (enc x), defers := [] } W)
  (hbody : ∀ (l : Nat) (x : α) (b : Nat) (W : World), Below w.heap.size w W → Good x → w.heap.size ≤ b → W.heap[b]? = some (.cells (cl x) T (0, 0)) → body.wpIn (F.inRound l) (n - 1 - 1) P (ownPostG w.heap.size (KpR w0) (fun (_ : List Unit) => Below w.heap.size w) (fun c _ => Ix c) [] W) { tmps := (a.tmps.setIfInBounds p (enc x)).setIfInBounds pb (.pointer (some ⟨b, 0, none⟩)), defers := [] } W)
  (hdone : ∀ W : World, Below w.heap.size w W → W.heap[w.heap.size]? = some (.deferred (some [])) → Q .normal { a with defers := { target := .collected w.heap.size, args := #[] } :: a.defers } W)
  (hstop : ∀ (c : Code) (W : World), Ix c W → W.heap[w.heap.size]? = some (.deferred (some [])) → c.wpIn F n P Q { a with defers := { target := .collected w.heap.size, args := #[] } :: a.defers } W) :
  (Code.rangeFunc g #[p] assign body).wpIn F n P Q a w := by
 refine wpIn_range_cells hro h1 hg hFg eg hseq KpR.trans (fun W l o o' => KpR.putObj hw W l o o')
  (fun x a' W => ∃ b, w.heap.size ≤ b ∧ a' = { tmps := (a.tmps.setIfInBounds p (enc x)).setIfInBounds pb (.pointer (some ⟨b, 0, none⟩)), defers := [] } ∧ W.heap[b]? = some (.cells (cl x) T (0, 0)))
  ?_ Ix hIx ?_ ?_ hdone hstop
 ·rintro x a' W l o o' ⟨b, hb, rfl, hc⟩ hl ho
  exact ⟨b, hb, rfl, (World.putObj_heap_other (fun e => by subst e; rw [hc] at hl; cases hl; cases ho)).trans hc⟩
 ·intro l x W K hb hgd hK
  refine hassign l x W K hb hgd (fun W' b h1 h2 h3 => hK _ _ ⟨h2.size, fun k o _ hk _ => (h2.block k (blk_lt hk)).trans hk⟩ ⟨h2.size, fun k c t hk => blk_below h2 hk, fun hx => hx.trans (h2.mono hx.size)⟩ (hb.trans (h2.mono hb.size)) ⟨b, h1, rfl, h3⟩)
 ·rintro l x a' W hb hgd ⟨b, h1, rfl, h3⟩
  exact hbody l x b W hb hgd h1 h3
end
section
variable {F : Fence} {n : Nat} {P : Program} {ops : Array Oper} {w W' : World} {Q : Exit → Act → World → Prop} {a : Act} {o : Oper} {rest : List Oper}
theorem in_value {v : Value} (hg : o.guard = none) (ha : o.about P w a.eval = none) (hd : ∀ c, o.op ≠ .defer c) (hr : (execOp a.eval o).run P w = .ok (.value v) W') (h : wpListIn F n P ops Q rest (a.put o.dst v) W') : wpListIn F n P ops Q (o :: rest) a w := by
 unfold wpListIn
 rw [if_pos (wanted_plain hg)]
 unfold Oper.wpIn
 refine ⟨fun f hf => (by rw [ha] at hf; cases hf), ?_⟩
 rw [Oper.semAt_eq _ _ _ hd, hr]
 exact h
theorem in_skip (hg : o.guard = none) (ha : o.about P w a.eval = none) (hd : ∀ c, o.op ≠ .defer c) (hr : (execOp a.eval o).run P w = .ok .skip W') (h : wpListIn F n P ops Q rest (a.put o.dst undef) W') : wpListIn F n P ops Q (o :: rest) a w := by
 unfold wpListIn
 rw [if_pos (wanted_plain hg)]
 unfold Oper.wpIn
 refine ⟨fun f hf => (by rw [ha] at hf; cases hf), ?_⟩
 rw [Oper.semAt_eq _ _ _ hd, hr]
 exact h
theorem in_boxed {id : Nat} {o1 o2 : Oper} {T : TypeId} {p pb : Tmp} {z c : Array Value} (h1 : o1.op = .alloc T) (g1 : o1.guard = none) (d1 : o1.dst = some pb) (h2 : o2.op = .store T (.tmp pb) (.tmp p)) (g2 : o2.guard = none) (d2 : o2.dst = none)
  (hz : ∀ W, (zeroValue T).run P W = .ok (.agg z) W) (hp : a.tmps.getD p undef = .agg c) (hpb : pb < a.tmps.size) (hne : p ≠ pb) (hi : (P.info? T).map (·.size) = some c.size) (hs : z.size = c.size) (hc : c.all (·.oneCell') = true)
  (h : ∀ W' b, w.heap.size ≤ b → Below w.heap.size w W' → W'.heap[b]? = some (.cells c T (0, 0)) → Q .normal { a with tmps := a.tmps.setIfInBounds pb (.pointer (some ⟨b, 0, none⟩)) } W') : (Code.region id #[o1, o2] false).wpIn F n P Q a w := by
 refine wpIn_region_lit (l := [o1, o2]) ?_
 have hnx : Nx w (w.alloc (.cells z T)) w.heap.size z T := Nx.alloc w z T
 have r1 : (execOp a.eval o1).run P w = .ok (.value (.pointer (some ⟨w.heap.size, 0, none⟩))) (w.alloc (.cells z T)) := by
  unfold execOp
  simp only [h1, Instr.alloc, newVar, newRow, Sem.run_bind, hz, Result.andThen_ok]
  rfl
 refine in_value g1 (by simp [Oper.about, h1]) (fun c => by rw [h1]; exact nofun) r1 ?_
 rw [d1]
 show wpListIn F n P _ Q [o2] { a with tmps := a.tmps.setIfInBounds pb (.pointer (some ⟨w.heap.size, 0, none⟩)) } _
 have r2 : (execOp (Act.eval { a with tmps := a.tmps.setIfInBounds pb (.pointer (some ⟨w.heap.size, 0, none⟩)) }) o2).run P (w.alloc (.cells z T)) = .ok .skip ((w.alloc (.cells z T)).setRow w.heap.size c) := by
  have e1 : (a.tmps.setIfInBounds pb (.pointer (some ⟨w.heap.size, 0, none⟩))).getD pb undef = .pointer (some ⟨w.heap.size, 0, none⟩) := by simp [Array.getD, hpb]
  have e2 : (a.tmps.setIfInBounds pb (.pointer (some ⟨w.heap.size, 0, none⟩))).getD p undef = .agg c := by rw [← hp]; simp only [Array.getD_eq_getD_getElem?, Array.getElem?_setIfInBounds_ne (Ne.symm hne)]
  unfold execOp
  simp only [h2, Act.eval, e1, e2, Instr.storeAt, Instr.sureAddr, Sem.run_bind, Sem.run_pure, Result.andThen_ok, run_storeVar_row _ _ _ _ _ _ hnx.blk hi hs hc]
 refine in_skip g2 (by simp [Oper.about, h2]) (fun c => by rw [h2]; exact nofun) r2 ?_
 rw [d2]
 have hrow := Nx.row hnx.blk c
 exact h _ _ zn (hrow.bel _ _ (hnx.bel _ _ zl zn zn) (by simp) zn) hrow.blk
end
theorem answer_any (w : World) (hK : KwIn w) (s : Sch) (ra sa ga la ma lb mb : Option Addr) (rv sv gv lc mc le me : Nat) (pf pc pn pd ps pm kp nn th nw da db : Int) (L R : List Ent) (M N : List Mrk) (hS : SchR w s (.slice ra s.records.length rv) (.slice sa s.services.length sv) (.slice ga s.sagas.length gv)) (hM : Small s) (hA : Slc w 6 (.slice la L.length lc) L.length (ecells L)) (hB : Slc w 6 (.slice lb R.length le) R.length (ecells R)) (hC : Slc w 14 (.slice ma M.length mc) M.length (mkcells M)) (hD : Slc w 14 (.slice mb N.length me) N.length (mkcells N)) (hn : M.length ≤ 1000) (hR : ∀ m ∈ M, RunSmall m.run) (hR2 : ∀ m ∈ N, RunSmall m.run) :
  Calls Tryz.prog 42 #[.agg (sW s ra sa ga la ma lb mb rv sv gv lc mc le me pf pc pn pd ps pm kp nn th nw da db L R M N)] w fun x w' => AltR M N x ∧ Below w.heap.size w w' := by
 have HFA := zD (show AltR M N (.returned (.bool false)) from ⟨false, rfl, fun h => by cases h⟩)
 have HCH := zD (fun W (X : Below w.heap.size w W) => changed_any W s ra sa ga la ma lb mb rv sv gv lc mc le me pf pc pn pd ps pm kp nn th nw da db L R M N (hC.below X) (hD.below X) hn)
 have HSL := zD (fun W (X : Below w.heap.size w W) => still_any W s ra sa ga la ma lb mb rv sv gv lc mc le me pf pc pn pd ps pm kp nn th nw da db L R M N (hA.below X) (hB.below X))
 have HOT := zD (fun W (X : Below w.heap.size w W) one => others_any W s ra sa ga la ma lb mb rv sv gv lc mc le me pf pc pn pd ps pm kp nn th nw da db L R M N one (hC.below X) (hD.below X) hn)
 have HSQ := zD (fun W (X : Below w.heap.size w W) r (hr : RunSmall r) v br bv bx h1 h2 h3 => becomes1_in 4 (by omega) w hK s ra sa ga la ma lb mb rv sv gv lc mc le me pf pc pn pd ps pm kp nn th nw da db L R M N hS hM r hr v W X.size X br bv bx h1 h2 h3)
 have HBC := zD (fun W r v => becomes_any W s ra sa ga la ma lb mb rv sv gv lc mc le me pf pc pn pd ps pm kp nn th nw da db L R M N r v)
 have HCC := zD hC
 have HDD := zD hD
 have HRR := zD hR
 have HB0 := zD (Below.refl w.heap.size w)
 clear hK hS hM hA hB hC hD hn hR hR2
 refine (callsIn_wide (n := 6)).1 (callsIn_of_wp_marks Tryz.func42 rfl trivial ?_ rfl)
 refine wpIn_wide.2 ?_
 simp only [Tryz.ntmps42, List.size_toArray, List.length_cons, List.length_nil, Nat.reduceAdd, Nat.reduceSub, Array.replicate_succ, Array.replicate_zero, List.push_toArray, List.append_toArray, List.nil_append, List.cons_append]
 go_upto_region 1 with (go_big_may; first | ((with_reducible refine zc 1 ?_); refine zO 102 0 rfl ?_; intro W1 g1 hg1 hx1; have Hb11 := zD hx1.blk; have db1 := zM HB0 hg1; have HB1 := zE hx1 HB0 db1; clear HB0 hg1 hx1))
 go_wp2_with (go_big_may; first | ((with_reducible refine zc 11 ?_); refine zS 102 1 0 (load_f102 Hb11.out (by rfl)) ?_))
 refine (HCH.out _ HB1.out).mono ?_
 rintro e w2 ⟨⟨i, rfl, hi⟩, hb⟩
 have Hb12 := zB hb Hb11
 clear Hb11
 have HB2 := zT HB1 hb
 clear HB1 hb
 have HI := zD hi
 clear hi
 go_upto_region 2 with (fail)
 by_cases h0 : i < 0
 case pos =>
  have d0 : decide (i < 0) = true := by simp [h0]
  go_wp2_with fail; exact ⟨.bool false, by simp [results, Tryz.results42, go_sem], HFA.out, HB2.out⟩
 have d0 : decide (i < 0) = false := by simp; omega
 obtain ⟨k, rfl, hone⟩ := HI.out.resolve_left (by omega)
 have HONE := zD hone
 clear HI h0 hone
 have HSL2 := zD (HSL.out w2 HB2.out)
 generalize entsEq L R = q at *
 go_wp2_with (go_big_may; first | ((with_reducible refine zc 16 ?_); refine zS 102 1 0 (load_f102 Hb12.out (by rfl)) ?_))
 refine HSL2.out.mono ?_
 rintro e w3 ⟨rfl, hb⟩
 have Hb13 := zB hb Hb12
 clear Hb12
 have HB3 := zT HB2 hb
 clear HB2 hb
 clear HSL2
 cases q with
 | false =>
  go_wp2_with fail; exact ⟨.bool false, by simp [results, Tryz.results42, go_sem], HFA.out, HB3.out⟩
 | true =>
  have HOT3 := zD (HOT.out w3 HB3.out (k : Nat)); generalize othersA nw (k : Nat) M N = q at *; go_wp2_with (go_big_may; first | ((with_reducible refine zc 21 ?_); refine zS 102 1 0 (load_f102 Hb13.out (by rfl)) ?_)); refine HOT3.out.mono ?_; rintro e w4 ⟨rfl, hb⟩; have Hb14 := zB hb Hb13; clear Hb13; have HB4 := zT HB3 hb; clear HB3 hb; clear HOT3; cases q with
  | false =>
   go_wp2_with fail; exact ⟨.bool false, by simp [results, Tryz.results42, go_sem], HFA.out, HB4.out⟩
  | true =>
   go_upto_region 4 with (fail); have HK1 := zD (show k < M.length from HONE.out.2.choose); have HK2 := zD (show k < N.length from HONE.out.2.choose_spec.choose); obtain ⟨b1, o1, rfl, hp⟩ := mrk_there (w := w) HCC.out HK1.out; obtain ⟨b2, o2, rfl, hq⟩ := mrk_there (w := w) HDD.out HK2.out; have HP := zD hp; have HQ := zD hq; clear hp hq; generalize hmx : M[k]'HK1.out = x at *; generalize hmy : N[k]'HK2.out = y at *; have HMX := zD hmx; have HMY := zD hmy; clear hmx hmy; have hi1 : (0 : Int) ≤ (k : Int) := by omega
   have hi2 : (k : Int) < (M.length : Int) := by have := HK1.out; omega
   have hi3 : (k : Int) < (N.length : Int) := by have := HK2.out; omega
   obtain ⟨⟨xi, xs, xa, xat, xph, xtr, xst, xwh, xvl⟩, ⟨xos, xoc, xov, xod⟩, xg⟩ := x; obtain ⟨⟨yi, ys, ya, yat, yph, ytr, yst, ywh, yvl⟩, ⟨yos, yoc, yov, yod⟩, yg⟩ := y; go_cut [4, 5] from 11 to 37 (fun va vb wc => TwoR w w4 (sW s ra sa ga la (some ⟨b1, o1, none⟩) lb (some ⟨b2, o2, none⟩) rv sv gv lc mc le me pf pc pn pd ps pm kp nn th nw da db L R M N) g1 ⟨⟨xi, xs, xa, xat, xph, xtr, xst, xwh, xvl⟩, ⟨xos, xoc, xov, xod⟩, xg⟩ ⟨⟨yi, ys, ya, yat, yph, ytr, yst, ywh, yvl⟩, ⟨yos, yoc, yov, yod⟩, yg⟩ va vb wc)
   case first =>
    refine wp_region_noPanic ?_; have Hb14d := zD (show w4.drew.heap[g1]? = _ from Hb14.out); clear Hb14; have HB4d := zD (show Below w.heap.size w w4.drew from HB4.out.trans ⟨rfl, rfl, rfl, zn, fun _ _ => rfl⟩); clear HB4; refine wp_region_held_drew (S := fun w' => w'.heap[g1]? = some (.cells (sW s ra sa ga la (some ⟨b1, o1, none⟩) lb (some ⟨b2, o2, none⟩) rv sv gv lc mc le me pf pc pn pd ps pm kp nn th nw da db L R M N) 102 (0, 0)) ∧ Below w.heap.size w w') (by kernel_rfl) (⟨Hb14d.out, HB4d.out⟩) (fun hHeld => ?_); generalize w4.drew = W5 at *; refine zJ 0 26 rfl ?_; refine zJ 1 27 rfl ?_; refine zI 2 28 rfl (fun wS hS => run_loadC_op 43 (.tmp 27) (by rfl) _ 15 (by rfl) (.slice (some ⟨b1, o1, none⟩) M.length mc) agg_t43 hS.1 (by rfl)) ?_; refine zJ 3 29 rfl ?_; refine zJ 4 30 rfl ?_; refine zI 5 31 rfl (fun wS hS => run_load_op 57 (.tmp 30) (by rfl) _ _ (by rfl) (.agg #[sT xi, sT xs, sT xa, iV xat, .int .u8 (xph : Nat), iV xtr, .bool xst, iV xwh, sT xvl, iV xos, iV xoc, sT xov, iV xod, .bool xg]) (load_mrk (x := ⟨⟨xi, xs, xa, xat, xph, xtr, xst, xwh, xvl⟩, ⟨xos, xoc, xov, xod⟩, xg⟩) (HP.out _ hS.2))) ?_; refine zJ 6 32 rfl ?_; refine zJ 7 33 rfl ?_; refine zI 8 34 rfl (fun wS hS => run_loadC_op 43 (.tmp 33) (by rfl) _ 18 (by rfl) (.slice (some ⟨b2, o2, none⟩) N.length me) agg_t43 hS.1 (by rfl)) ?_; refine zJ 9 35 rfl ?_; refine zJ 10 36 rfl ?_; refine zI 11 37 rfl (fun wS hS => run_load_op 57 (.tmp 36) (by rfl) _ _ (by rfl) (.agg #[sT yi, sT ys, sT ya, iV yat, .int .u8 (yph : Nat), iV ytr, .bool yst, iV ywh, sT yvl, iV yos, iV yoc, sT yov, iV yod, .bool yg]) (load_mrk (x := ⟨⟨yi, ys, ya, yat, yph, ytr, yst, ywh, yvl⟩, ⟨yos, yoc, yov, yod⟩, yg⟩) (HQ.out _ hS.2))) ?_; refine zy [12, 13] ?_; refine zg (some 4) rfl (fun K hK => ?_) ?_
    ·refine zQ 57 zero_t57 ?_
     intro W6 g6 hg6 hx6; have Hb66 := zD hx6.blk; have db6 := zM HB4d hg6; have Hb16 := zN hx6 hg6 Hb14d; have nb6b1 := newer hg6 Hb14d.out; have HB6 := zE hx6 HB4d db6; clear Hb14d HB4d hg6 hx6; refine hK.out _ _ (⟨Hb16.out, HB6.out⟩) (fun hHeld => ?_); clear hK K; try simp only [Act.put, zX, zY, zZ]
     refine zy [13] ?_; refine zg (some 5) rfl (fun K hK => ?_) ?_
     ·refine zQ 57 zero_t57 ?_
      intro W7 g7 hg7 hx7; have Hb77 := zD hx7.blk; have db7 := zM HB6 hg7; have Hb17 := zN hx7 hg7 Hb16; have nb7b1 := newer hg7 Hb16.out; have Hb67 := zN hx7 hg7 Hb66; have nb7b6 := newer hg7 Hb66.out; have HB7 := zE hx7 HB6 db7; clear Hb16 Hb66 HB6 hg7 hx7; refine hK.out _ _ (⟨Hb17.out, HB7.out⟩) (fun hHeld => ?_); clear hK K; try simp only [Act.put, zX, zY, zZ]
      refine zy [14] ?_; refine zg none rfl (fun K hK => ?_) ?_
      ·refine zP 57 4 31 rfl Hb67 ?_
       intro W8 hx8; have Hb68 := zD hx8.blk; have Hb18 := zH hx8 nb6b1.symm Hb17; have Hb78 := zH hx8 nb7b6 Hb77; have HB8 := zE hx8 HB7 db6; clear hx8 Hb17 Hb77 HB7 Hb67; refine hK.out _ _ (⟨Hb18.out, HB8.out⟩) (fun hHeld => ?_); clear hK K; try simp only [Act.put, zX, zY, zZ]
       refine zy [15] ?_; refine zg none rfl (fun K hK => ?_) ?_
       ·refine zP 57 5 37 rfl Hb78 ?_
        intro W9 hx9; have Hb79 := zD hx9.blk; have Hb19 := zH hx9 nb7b1.symm Hb18; have Hb69 := zH hx9 nb7b6.symm Hb68; have HB9 := zE hx9 HB8 db7; clear hx9 Hb18 Hb68 HB8 Hb78; refine hK.out _ _ (⟨Hb19.out, HB9.out⟩) (fun hHeld => ?_); clear hK K; try simp only [Act.put, zX, zY, zZ]
        refine wpAnyH_done (by kernel_rfl) ?_ _; refine NoPanic.normal ?_; go_wp2_with fail; go_meet
        case rel => exact ⟨_, _, rfl, rfl, db6, db7, nb7b6.symm, nb6b1, nb7b1, Hb69.out, Hb79.out, Hb19.out, HB9.out⟩
       exact zh
      exact zh
     exact zh
    refine zg (some 5) rfl (fun K hK => ?_) ?_
    ·refine zQ 57 zero_t57 ?_
     intro W6 g6 hg6 hx6; have Hb66 := zD hx6.blk; have db6 := zM HB4d hg6; have Hb16 := zN hx6 hg6 Hb14d; have nb6b1 := newer hg6 Hb14d.out; have HB6 := zE hx6 HB4d db6; clear Hb14d HB4d hg6 hx6; refine hK.out _ _ (⟨Hb16.out, HB6.out⟩) (fun hHeld => ?_); clear hK K; try simp only [Act.put, zX, zY, zZ]
     refine zy [12] ?_; refine zg (some 4) rfl (fun K hK => ?_) ?_
     ·refine zQ 57 zero_t57 ?_
      intro W7 g7 hg7 hx7; have Hb77 := zD hx7.blk; have db7 := zM HB6 hg7; have Hb17 := zN hx7 hg7 Hb16; have nb7b1 := newer hg7 Hb16.out; have Hb67 := zN hx7 hg7 Hb66; have nb7b6 := newer hg7 Hb66.out; have HB7 := zE hx7 HB6 db7; clear Hb16 Hb66 HB6 hg7 hx7; refine hK.out _ _ (⟨Hb17.out, HB7.out⟩) (fun hHeld => ?_); clear hK K; try simp only [Act.put, zX, zY, zZ]
      refine zy [14] ?_; refine zg none rfl (fun K hK => ?_) ?_
      ·refine zP 57 4 31 rfl Hb77 ?_
       intro W8 hx8; have Hb78 := zD hx8.blk; have Hb18 := zH hx8 nb7b1.symm Hb17; have Hb68 := zH hx8 nb7b6.symm Hb67; have HB8 := zE hx8 HB7 db7; clear hx8 Hb17 Hb67 HB7 Hb77; refine hK.out _ _ (⟨Hb18.out, HB8.out⟩) (fun hHeld => ?_); clear hK K; try simp only [Act.put, zX, zY, zZ]
       refine zy [15] ?_; refine zg none rfl (fun K hK => ?_) ?_
       ·refine zP 57 5 37 rfl Hb68 ?_
        intro W9 hx9; have Hb69 := zD hx9.blk; have Hb19 := zH hx9 nb6b1.symm Hb18; have Hb79 := zH hx9 nb7b6 Hb78; have HB9 := zE hx9 HB8 db6; clear hx9 Hb18 Hb78 HB8 Hb68; refine hK.out _ _ (⟨Hb19.out, HB9.out⟩) (fun hHeld => ?_); clear hK K; try simp only [Act.put, zX, zY, zZ]
        refine wpAnyH_done (by kernel_rfl) ?_ _; refine NoPanic.normal ?_; go_wp2_with fail; go_meet
        case rel => exact ⟨_, _, rfl, rfl, db7, db6, nb7b6, nb7b1, nb6b1, Hb79.out, Hb69.out, Hb19.out, HB9.out⟩
       exact zh
      exact zh
     exact zh
    exact zh
   case rest =>
    obtain ⟨A, B, rfl, rfl, dA, dB, nAB, nAS, nBS, hA, hB, hX, hW⟩ := hcut; unfold mrkC at hA hB; have HXc := zD hX; have HAc := zD hA; have HBc := zD hB; have HWc := zD hW; clear hX hA hB hW; have HSM := zD (show RunSmall ⟨xi, xs, xa, xat, xph, xtr, xst, xwh, xvl⟩ by have := HRR.out _ (List.getElem_mem HK1.out); rw [HMX.out] at this; exact this)
    have HVQ := zD (fun (q : Run) (ho : overA ⟨xi, xs, xa, xat, xph, xtr, xst, xwh, xvl⟩ = false) (hi : q.id = xi) (hr : runEq q ⟨yi, ys, ya, yat, yph, ytr, yst, ywh, yvl⟩ = true) => show AltP M N from ⟨k, HONE.out, fun h1 h2 => by
        rw [HMX.out, HMY.out]; have := (runEq_iff _ _).1 hr; subst this; exact ⟨ho, hi⟩⟩)
    go_upto_region 6 with (go_big_may; first | ((with_reducible refine zc 6 ?_); refine wpList_allocG 4 (by rfl) (by rfl) _ zero_t4 #[.bool false] (by rfl) ?_; intro W5 g5 hg5 hx5; have Hb55 := zD hx5.blk; have db5 := zM HWc hg5; have Hb15 := zN hx5 hg5 HXc; have nb5b1 := newer hg5 HXc.out; have HbA5 := zN hx5 hg5 HAc; have nb5bA := newer hg5 HAc.out; have HbB5 := zN hx5 hg5 HBc; have nb5bB := newer hg5 HBc.out; have HB5 := zE hx5 HWc db5; clear HXc HAc HBc HWc hg5 hx5) | ((with_reducible refine zd 4 6 ?_); refine zC 4 6 (.const (.bool false)) 0 (.bool false) Hb55 ?_; intro W6 hx6; have Hb56 := zD hx6.blk; have Hb16 := zH hx6 nb5b1.symm Hb15; have HbA6 := zH hx6 nb5bA.symm HbA5; have HbB6 := zH hx6 nb5bB.symm HbB5; have HB6 := zE hx6 HB5 db5; clear hx6 Hb15 HbA5 HbB5 HB5 Hb55)); go_wp2_with (go_big_may; first | ((with_reducible refine zc 38 ?_); refine zS 102 1 0 (load_f102 Hb16.out (by rfl)) ?_) | ((with_reducible refine zc 40 ?_); refine zS 53 39 0 (load_t53 HbA6.out 0 #[sT xi, sT xs, sT xa, iV xat, .int .u8 (xph : Nat), iV xtr, .bool xst, iV xwh, sT xvl] (by rfl) (by kernel_rfl)) ?_) | ((with_reducible refine zc 43 ?_); refine zV 9 42 8 agg_t9 HbB6 rfl ?_)); refine (HBC.out _ ⟨xi, xs, xa, xat, xph, xtr, xst, xwh, xvl⟩ yvl).mono ?_; rintro e w7 ⟨br, bv, bx, rfl, h1, h2, h3, hb⟩; have Hb17 := zB hb Hb16; clear Hb16; have HbA7 := zB hb HbA6; clear HbA6; have HbB7 := zB hb HbB6; clear HbB6; have Hb57 := zB hb Hb56; clear Hb56; have HB7 := zT HB6 hb; clear HB6 hb; have HSQ7 := zD (HSQ.out w7 HB7.out ⟨xi, xs, xa, xat, xph, xtr, xst, xwh, xvl⟩ HSM.out yvl br bv bx h1 h2 h3); clear h1 h2 h3 HSQ; go_wp2_with fail; have HW7 := zD (show w.heap.size ≤ w7.heap.size from HB7.out.size); refine (wpIn_wide (n := 5)).1 (wpIn_range_box (enc := fun q : Run => .agg (runC q)) (p := 45) (pb := 7) rfl (by omega) (gf := 101) (lb := #[.pointer (some ⟨br, 0, none⟩), .pointer (some ⟨bv, 0, none⟩), .pointer (some ⟨bx, 0, none⟩)]) rfl trivial (enters_of Tryz.func101 (by kernel_rfl) rfl) HSQ7.out HW7.out (fun q => runC q) 53 (fun c V => c = .exit 0 ∧ AltP M N ∧ V.heap[g5]? = some (.cells #[.bool true] 4 (0, 0)) ∧ (∀ k, k < w7.heap.size → k ≠ g5 → V.heap[k]? = w7.heap[k]?) ∧ Below w.heap.size w V) ?_ ?_ ?_ ?_ ?_)
    ·rintro c V l o o' ⟨rfl, h1, h2, h3, h4⟩ hl ho hc
     have hw7 := HW7.out; have hF := blk_lt Hb57.out; exact ⟨rfl, h1, (World.putObj_heap_other (by omega)).trans h2, fun k hk hn => (World.putObj_heap_other (by omega)).trans (h3 k hk hn), ⟨h4.os, h4.tape, h4.output, by simpa using h4.size, fun k hk => (World.putObj_heap_other (by omega)).trans (h4.block k hk)⟩⟩
    ·rintro l ⟨qid, qsg, qarg, qat, qph, qtr, qst, qwh, qvl⟩ V K hb hg hK
     unfold runC at hK ⊢; refine in_boxed (p := 45) (pb := 7) (T := 53) (z := #[eS, eS, eS, iV 0, .int .u8 0, iV 0, .bool false, iV 0, eS]) (c := #[sT qid, sT qsg, sT qarg, iV qat, .int .u8 (qph : Nat), iV qtr, .bool qst, iV qwh, sT qvl]) (by rfl) (by rfl) (by rfl) (by rfl) (by rfl) (by rfl) zero_t53 (by rfl) (by simp) (by decide) (by kernel_rfl) (by rfl) (by kernel_rfl) (fun W' b h1 h2 h3 => hK W' b (Nat.le_trans hb.size h1) h2 h3)
    ·rintro l ⟨qid, qsg, qarg, qat, qph, qtr, qst, qwh, qvl⟩ b V hb ⟨ho, hqi⟩ hlb hbl
     unfold runC at hbl ⊢; have HF0 := zB hb Hb57; have HBV := zB hb HbB7; have HBQ := zD hbl; clear hbl; have z0 := zF HBQ 0 rfl; have z1 := zF HBQ 1 rfl; have z2 := zF HBQ 2 rfl; have z3 := zF HBQ 3 rfl; have z4 := zF HBQ 4 rfl; have z5 := zF HBQ 5 rfl; have z6 := zF HBQ 6 rfl; have z7 := zF HBQ 7 rfl; have z8 := zF HBQ 8 rfl; have y0 := zF HBV 0 rfl; have y1 := zF HBV 1 rfl; have y2 := zF HBV 2 rfl; have y3 := zF HBV 3 rfl; have y4 := zF HBV 4 rfl; have y5 := zF HBV 5 rfl; have y6 := zF HBV 6 rfl; have y7 := zF HBV 7 rfl; have y8 := zF HBV 8 rfl; have hro := fun W => run_eql ⟨qid, qsg, qarg, qat, qph, qtr, qst, qwh, qvl⟩ ⟨yi, ys, ya, yat, yph, ytr, yst, ywh, yvl⟩ W
     have hrg := fun X Y W => run_eqlg ⟨qid, qsg, qarg, qat, qph, qtr, qst, qwh, qvl⟩ ⟨yi, ys, ya, yat, yph, ytr, yst, ywh, yvl⟩ X Y W
     unfold runC at hro hrg; dsimp only at hro hrg; have HQV := zD (HVQ.out ⟨qid, qsg, qarg, qat, qph, qtr, qst, qwh, qvl⟩ ho hqi); generalize runEq ⟨qid, qsg, qarg, qat, qph, qtr, qst, qwh, qvl⟩ ⟨yi, ys, ya, yat, yph, ytr, yst, ywh, yvl⟩ = RQ at *; have HbV := zD hb; clear hb ho hqi hlb; cases RQ with
     | false =>
      gi_wp2_with fail; exact ⟨KeepsFrom.refl _ _, ⟨zn, fun _ _ _ h => h, fun h => h⟩, HbV.out⟩
     | true =>
      have c0 := zF HF0 0 rfl; have c1 : V.frozen? ⟨g5, 0, none⟩ = false := by simp [World.frozen?, HF0.out]
      gi_wp2_with fail; have hX := Nx.cell HF0.out 0 (.bool true); exact ⟨⟨hX.sz, fun k o hk1 hk2 _ => hX.keep (fun e => by have := blk_lt Hb57.out; omega) hk2⟩, rfl, HQV.out (by simp), hX.blk, fun k hk hn => (hX.oth k hn (Nat.lt_of_lt_of_le hk HbV.out.size)).trans (HbV.out.block k hk), hX.bel _ _ (HB7.out.trans (HbV.out.mono HB7.out.size)) (Nat.le_trans HW7.out HbV.out.size) db5⟩
    ·intro V hb hD
     have Hb18 := zB hb Hb17; have HbA8 := zB hb HbA7; have HbB8 := zB hb HbB7; have Hb58 := zB hb Hb57; have HbD8 := zD hD; have HB8 := zT HB7 hb; clear hb hD; go_upto_region 10 with (fail); refine wp_region_noPanic ?_; have Hb18d := zD (show V.drew.heap[g1]? = _ from Hb18.out); clear Hb18; have HbA8d := zD (show V.drew.heap[A]? = _ from HbA8.out); clear HbA8; have HbB8d := zD (show V.drew.heap[B]? = _ from HbB8.out); clear HbB8; have Hb58d := zD (show V.drew.heap[g5]? = _ from Hb58.out); clear Hb58; have HbD8d := zD (show V.drew.heap[w7.heap.size]? = _ from HbD8.out); clear HbD8; have HB8d := zD (show Below w.heap.size w V.drew from HB8.out.trans ⟨rfl, rfl, rfl, zn, fun _ _ => rfl⟩); clear HB8; refine wp_region_held_drew (S := fun w' => w'.heap[A]? = some (.cells #[sT xi, sT xs, sT xa, iV xat, .int .u8 (xph : Nat), iV xtr, .bool xst, iV xwh, sT xvl, iV xos, iV xoc, sT xov, iV xod, .bool xg] 57 (0, 0)) ∧ w'.heap[g1]? = some (.cells (sW s ra sa ga la (some ⟨b1, o1, none⟩) lb (some ⟨b2, o2, none⟩) rv sv gv lc mc le me pf pc pn pd ps pm kp nn th nw da db L R M N) 102 (0, 0))) (by kernel_rfl) (⟨HbA8d.out, Hb18d.out⟩) (fun hHeld => ?_); generalize V.drew = W9 at *; refine zJ 0 50 rfl ?_; refine zI 1 51 rfl (fun wS hS => run_load_op 55 (.tmp 50) (by rfl) _ 9 (by rfl) _ (load_t55 hS.1 9 #[iV xos, iV xoc, sT xov, iV xod] (by rfl) (by kernel_rfl))) ?_; refine zJ 2 52 rfl ?_; refine zJ 3 53 rfl ?_; refine zI 4 54 rfl (fun wS hS => run_loadC_op 3 (.tmp 53) (by rfl) _ 16 (by rfl) (iV da) agg_t3 hS.2 (by rfl)) ?_; refine zy [5] ?_; refine zg (some 8) rfl (fun K hK => ?_) ?_
     ·refine zQ 55 zero_t55 ?_
      intro W10 g10 hg10 hx10; have Hb1010 := zD hx10.blk; have db10 := zM HB8d hg10; have Hb110 := zN hx10 hg10 Hb18d; have nb10b1 := newer hg10 Hb18d.out; have HbA10 := zN hx10 hg10 HbA8d; have nb10bA := newer hg10 HbA8d.out; have HbB10 := zN hx10 hg10 HbB8d; have nb10bB := newer hg10 HbB8d.out; have Hb510 := zN hx10 hg10 Hb58d; have nb10b5 := newer hg10 Hb58d.out; have HbD10 := zN hx10 hg10 HbD8d; have nb10bD := newer hg10 HbD8d.out; have HB10 := zE hx10 HB8d db10; clear Hb18d HbA8d HbB8d Hb58d HbD8d HB8d hg10 hx10; refine hK.out _ _ (⟨HbA10.out, Hb110.out⟩) (fun hHeld => ?_); clear hK K; try simp only [Act.put, zX, zY, zZ]
      refine zy [6] ?_; refine zg none rfl (fun K hK => ?_) ?_
      ·refine zP 55 8 51 rfl Hb1010 ?_
       intro W11 hx11; have Hb1011 := zD hx11.blk; have Hb111 := zH hx11 nb10b1.symm Hb110; have HbA11 := zH hx11 nb10bA.symm HbA10; have HbB11 := zH hx11 nb10bB.symm HbB10; have Hb511 := zH hx11 nb10b5.symm Hb510; have HbD11 := zH hx11 nb10bD.symm HbD10; have HB11 := zE hx11 HB10 db10; clear hx11 Hb110 HbA10 HbB10 Hb510 HbD10 HB10 Hb1010; refine hK.out _ _ (⟨HbA11.out, Hb111.out⟩) (fun hHeld => ?_); clear hK K; try simp only [Act.put, zX, zY, zZ]
       refine zJ 7 9 rfl ?_; refine zJ 8 10 rfl ?_; refine wpAnyH_done (by kernel_rfl) ?_ _; refine NoPanic.normal ?_; go_upto_region 11 with (fail); go_cut [62] from 50 to 61 (fun vt wd => ∃ t : Bool, vt = .bool t ∧ (t = true → xg = false) ∧ wd.heap[g10]? = some (.cells #[iV xos, iV xoc, sT xov, iV xod] 55 (0, 0)) ∧ wd.heap[g1]? = some (.cells (sW s ra sa ga la (some ⟨b1, o1, none⟩) lb (some ⟨b2, o2, none⟩) rv sv gv lc mc le me pf pc pn pd ps pm kp nn th nw da db L R M N) 102 (0, 0)) ∧ wd.heap[A]? = some (.cells #[sT xi, sT xs, sT xa, iV xat, .int .u8 (xph : Nat), iV xtr, .bool xst, iV xwh, sT xvl, iV xos, iV xoc, sT xov, iV xod, .bool xg] 57 (0, 0)) ∧ wd.heap[B]? = some (.cells #[sT yi, sT ys, sT ya, iV yat, .int .u8 (yph : Nat), iV ytr, .bool yst, iV ywh, sT yvl, iV yos, iV yoc, sT yov, iV yod, .bool yg] 57 (0, 0)) ∧ wd.heap[g5]? = some (.cells #[.bool false] 4 (0, 0)) ∧ wd.heap[w7.heap.size]? = some (.deferred (some [])) ∧ Below w.heap.size w wd)
       case first =>
        go_wp2_with (go_big_may; first | ((with_reducible refine zc 56 ?_); refine zS 53 55 0 (load_t53 HbB11.out 0 #[sT yi, sT ys, sT ya, iV yat, .int .u8 (yph : Nat), iV ytr, .bool yst, iV ywh, sT yvl] (by rfl) (by kernel_rfl)) ?_)); refine (over_any _ ⟨yi, ys, ya, yat, yph, ytr, yst, ywh, yvl⟩).mono ?_; rintro e w9 ⟨rfl, hb⟩; generalize overA ⟨yi, ys, ya, yat, yph, ytr, yst, ywh, yvl⟩ = oy at *; have Hb112 := zB hb Hb111; clear Hb111; have HbA12 := zB hb HbA11; clear HbA11; have HbB12 := zB hb HbB11; clear HbB11; have Hb512 := zB hb Hb511; clear Hb511; have HbD12 := zB hb HbD11; clear HbD11; have Hb1012 := zB hb Hb1011; clear Hb1011; have HB12 := zT HB11 hb; clear HB11 hb; cases oy with
        | false =>
         go_wp2_with fail; go_meet
         case rel => exact ⟨false, rfl, (fun h => by cases h), Hb1012.out, Hb112.out, HbA12.out, HbB12.out, Hb512.out, HbD12.out, HB12.out⟩
        | true =>
         go_wp2_with (go_big_may; first | ((with_reducible refine zc 60 ?_); refine zV 4 59 13 agg_t4 HbA12 rfl ?_)); go_meet
         case rel => exact ⟨!xg, (by simp), (fun h => by simpa using h), Hb1012.out, Hb112.out, HbA12.out, HbB12.out, Hb512.out, HbD12.out, HB12.out⟩
       case rest =>
        obtain ⟨t, rfl, hxg, q0, q1, q2, q3, q4, q5, q6⟩ := hcut; have Hb10r := zD q0; have Hb1r := zD q1; have HbAr := zD q2; have HbBr := zD q3; have Hb5r := zD q4; have HbDr := zD q5; have HBr := zD q6; clear q0 q1 q2 q3 q4 q5 q6; have HXG := zD hxg; clear hxg; go_upto_if 62 with (fail); go_cut [10] from 55 to 93 (fun vw wd => ∃ (wv : Bool) (p0 p1 p3 : Int) (p2 : Tx), vw = .bool wv ∧ wd.heap[g10]? = some (.cells #[iV p0, iV p1, sT p2, iV p3] 55 (0, 0)) ∧ wd.heap[g1]? = some (.cells (sW s ra sa ga la (some ⟨b1, o1, none⟩) lb (some ⟨b2, o2, none⟩) rv sv gv lc mc le me pf pc pn pd ps pm kp nn th nw da db L R M N) 102 (0, 0)) ∧ wd.heap[A]? = some (.cells #[sT xi, sT xs, sT xa, iV xat, .int .u8 (xph : Nat), iV xtr, .bool xst, iV xwh, sT xvl, iV xos, iV xoc, sT xov, iV xod, .bool xg] 57 (0, 0)) ∧ wd.heap[B]? = some (.cells #[sT yi, sT ys, sT ya, iV yat, .int .u8 (yph : Nat), iV ytr, .bool yst, iV ywh, sT yvl, iV yos, iV yoc, sT yov, iV yod, .bool yg] 57 (0, 0)) ∧ wd.heap[g5]? = some (.cells #[.bool false] 4 (0, 0)) ∧ wd.heap[w7.heap.size]? = some (.deferred (some [])) ∧ Below w.heap.size w wd)
        case first =>
         cases t with
         | false =>
          go_wp2_with fail; go_meet
          case rel => exact ⟨false, _, _, _, _, rfl, Hb10r.out, Hb1r.out, HbAr.out, HbBr.out, Hb5r.out, HbDr.out, HBr.out⟩
         | true =>
          obtain rfl : xg = false := HXG.out rfl; clear HXG; go_wp2_with (go_big_may; first | ((with_reducible refine zc 65 ?_); refine zS 53 64 0 (load_t53 HbBr.out 0 #[sT yi, sT ys, sT ya, iV yat, .int .u8 (yph : Nat), iV ytr, .bool yst, iV ywh, sT yvl] (by rfl) (by kernel_rfl)) ?_)); refine (outcome_any _ ⟨yi, ys, ya, yat, yph, ytr, yst, ywh, yvl⟩).mono ?_; rintro e w9 ⟨⟨u0, u1, u2, rfl⟩, hb⟩; have Hb112 := zB hb Hb1r; clear Hb1r; have HbA12 := zB hb HbAr; clear HbAr; have HbB12 := zB hb HbBr; clear HbBr; have Hb512 := zB hb Hb5r; clear Hb5r; have HbD12 := zB hb HbDr; clear HbDr; have Hb1012 := zB hb Hb10r; clear Hb10r; have HB12 := zT HBr hb; clear HBr hb; go_upto_region 13 with (go_big_may; first | ((with_reducible refine zd 3 70 ?_); refine zC 3 70 (.tmp 67) 0 (iV u0) Hb1012 ?_; intro W13 hx13; have Hb1013 := zD hx13.blk; have Hb113 := zH hx13 nb10b1.symm Hb112; have HbA13 := zH hx13 nb10bA.symm HbA12; have HbB13 := zH hx13 nb10bB.symm HbB12; have Hb513 := zH hx13 nb10b5.symm Hb512; have HbD13 := zH hx13 nb10bD.symm HbD12; have HB13 := zE hx13 HB12 db10; clear hx13 Hb112 HbA12 HbB12 Hb512 HbD12 HB12 Hb1012) | ((with_reducible refine zd 3 71 ?_); refine zC 3 71 (.tmp 68) 1 (iV u1) Hb1013 ?_; intro W14 hx14; have Hb1014 := zD hx14.blk; have Hb114 := zH hx14 nb10b1.symm Hb113; have HbA14 := zH hx14 nb10bA.symm HbA13; have HbB14 := zH hx14 nb10bB.symm HbB13; have Hb514 := zH hx14 nb10b5.symm Hb513; have HbD14 := zH hx14 nb10bD.symm HbD13; have HB14 := zE hx14 HB13 db10; clear hx14 Hb113 HbA13 HbB13 Hb513 HbD13 HB13 Hb1013) | ((with_reducible refine zd 9 72 ?_); refine zC 9 72 (.tmp 69) 2 (sT u2) Hb1014 ?_; intro W15 hx15; have Hb1015 := zD hx15.blk; have Hb115 := zH hx15 nb10b1.symm Hb114; have HbA15 := zH hx15 nb10bA.symm HbA14; have HbB15 := zH hx15 nb10bB.symm HbB14; have Hb515 := zH hx15 nb10b5.symm Hb514; have HbD15 := zH hx15 nb10bD.symm HbD14; have HB15 := zE hx15 HB14 db10; clear hx15 Hb114 HbA14 HbB14 Hb514 HbD14 HB14 Hb1014)); go_upto_region 14 with (go_big_may; first | ((with_reducible refine zc 74 ?_); refine zV 2 73 12 agg_t2 Hb115 rfl ?_) | ((with_reducible refine zc 76 ?_); refine zV 2 75 10 agg_t2 Hb115 rfl ?_) | ((with_reducible refine zd 2 78 ?_); refine wpList_cellI 2 (.tmp 78) (.tmp 77) (by rfl) (by rfl) _ 3 #[iV u0, iV u1, sT u2, iV xod] (by rfl) ⟨_, by rfl⟩ Hb1015.out (by simp) (by kernel_rfl) ?_; intro i16 W16 hx16; have Hb1016 := zD (show W16.heap[g10]? = some (.cells #[iV u0, iV u1, sT u2, iV i16] 55 (0, 0)) from hx16.blk); have Hb116 := zH hx16 nb10b1.symm Hb115; have HbA16 := zH hx16 nb10bA.symm HbA15; have HbB16 := zH hx16 nb10bB.symm HbB15; have Hb516 := zH hx16 nb10b5.symm Hb515; have HbD16 := zH hx16 nb10bD.symm HbD15; have HB16 := zE hx16 HB15 db10; clear hx16 Hb115 HbA15 HbB15 Hb515 HbD15 HB15 Hb1015)); by_cases hle : i16 ≤ nw
          case neg =>
           have dle : decide (i16 ≤ nw) = false := zf hle; clear hle; go_wp2_with (go_big_may; first | ((with_reducible refine zc 80 ?_); refine zV 2 79 3 agg_t2 Hb1016 rfl ?_) | ((with_reducible refine zc 82 ?_); refine zV 2 81 13 agg_t2 Hb116 rfl ?_)); go_meet
           case rel => exact ⟨false, _, _, _, _, rfl, Hb1016.out, Hb116.out, HbA16.out, HbB16.out, Hb516.out, HbD16.out, HB16.out⟩
          have dle : decide (i16 ≤ nw) = true := zt hle; clear hle; have hoo := fun W => opr_eql ⟨yos, yoc, yov, yod⟩ opr0 W
          have hog := fun X Y W => opr_eqlg ⟨yos, yoc, yov, yod⟩ opr0 X Y W
          unfold oprC opr0 at hoo hog; dsimp only at hoo hog; have eb0 : bT [] = ⟨#[]⟩ := rfl; simp only [eb0] at hoo hog; clear eb0; generalize oprEq ⟨yos, yoc, yov, yod⟩ ⟨0, 0, [], 0⟩ = GQ at *; cases yg with
          | false =>
           go_wp2_with (go_big_may; first | ((with_reducible refine zc 80 ?_); refine zV 2 79 3 agg_t2 Hb1016 rfl ?_) | ((with_reducible refine zc 82 ?_); refine zV 2 81 13 agg_t2 Hb116 rfl ?_) | ((with_reducible refine zc 86 ?_); refine zV 4 85 13 agg_t4 HbB16 rfl ?_) | ((with_reducible refine zc 90 ?_); refine zS 55 89 9 (load_t55 HbB16.out 9 #[iV yos, iV yoc, sT yov, iV yod] (by rfl) (by kernel_rfl)) ?_) | ((with_reducible refine zc 91 ?_); refine wpList_buildS 55 #[] (by rfl) (by rfl) #[] (by rfl) #[iV 0, iV 0, eS, iV 0] (by kernel_rfl) ?_)); go_meet
           case rel => exact ⟨false, _, _, _, _, rfl, Hb1016.out, Hb116.out, HbA16.out, HbB16.out, Hb516.out, HbD16.out, HB16.out⟩
          | true =>
           cases GQ with
           | false =>
            go_wp2_with (go_big_may; first | ((with_reducible refine zc 80 ?_); refine zV 2 79 3 agg_t2 Hb1016 rfl ?_) | ((with_reducible refine zc 82 ?_); refine zV 2 81 13 agg_t2 Hb116 rfl ?_) | ((with_reducible refine zc 86 ?_); refine zV 4 85 13 agg_t4 HbB16 rfl ?_) | ((with_reducible refine zc 90 ?_); refine zS 55 89 9 (load_t55 HbB16.out 9 #[iV yos, iV yoc, sT yov, iV yod] (by rfl) (by kernel_rfl)) ?_) | ((with_reducible refine zc 91 ?_); refine wpList_buildS 55 #[] (by rfl) (by rfl) #[] (by rfl) #[iV 0, iV 0, eS, iV 0] (by kernel_rfl) ?_)); go_meet
            case rel => exact ⟨false, _, _, _, _, rfl, Hb1016.out, Hb116.out, HbA16.out, HbB16.out, Hb516.out, HbD16.out, HB16.out⟩
           | true =>
            go_wp2_with (go_big_may; first | ((with_reducible refine zc 80 ?_); refine zV 2 79 3 agg_t2 Hb1016 rfl ?_) | ((with_reducible refine zc 82 ?_); refine zV 2 81 13 agg_t2 Hb116 rfl ?_) | ((with_reducible refine zc 86 ?_); refine zV 4 85 13 agg_t4 HbB16 rfl ?_) | ((with_reducible refine zc 90 ?_); refine zS 55 89 9 (load_t55 HbB16.out 9 #[iV yos, iV yoc, sT yov, iV yod] (by rfl) (by kernel_rfl)) ?_) | ((with_reducible refine zc 91 ?_); refine wpList_buildS 55 #[] (by rfl) (by rfl) #[] (by rfl) #[iV 0, iV 0, eS, iV 0] (by kernel_rfl) ?_)); go_meet
            case rel => exact ⟨true, _, _, _, _, rfl, Hb1016.out, Hb116.out, HbA16.out, HbB16.out, Hb516.out, HbD16.out, HB16.out⟩
        case rest =>
         obtain ⟨wv, p0, p1, p3, p2, rfl, q0, q1, q2, q3, q4, q5, q6⟩ := hcut; have Hb10z := zD q0; have Hb1z := zD q1; have HbAz := zD q2; have HbBz := zD q3; have Hb5z := zD q4; have HbDz := zD q5; have HBz := zD q6; clear q0 q1 q2 q3 q4 q5 q6; by_cases h5 : yph = 5
         case pos =>
          have d5 : (((yph : Nat) : Int) == 5) = true := by rw [beq_iff_eq]; omega
          clear h5; go_wp2_with (go_big_may; first | ((with_reducible refine zc 96 ?_); refine zV 5 95 4 agg_t5 HbBz rfl ?_) | ((with_reducible refine zc 100 ?_); refine zV 4 6 0 agg_t4 Hb5z rfl ?_)); refine ⟨by simp, .inl ⟨_, _, rfl, run_takeDeferred HbDz.out, ?_⟩⟩; exact ⟨.bool false, by simp [results, Tryz.results42, go_sem], HFA.out, below_put HBz.out HW7.out⟩
         have d5 : (((yph : Nat) : Int) == 5) = false := by rw [zb]; omega
         clear h5; go_wp2_with (go_big_may; first | ((with_reducible refine zc 96 ?_); refine zV 5 95 4 agg_t5 HbBz rfl ?_) | ((with_reducible refine zc 100 ?_); refine zV 4 6 0 agg_t4 Hb5z rfl ?_)); refine ⟨by simp, .inl ⟨_, _, rfl, run_takeDeferred HbDz.out, ?_⟩⟩; exact ⟨.bool false, by simp [results, Tryz.results42, go_sem], HFA.out, below_put HBz.out HW7.out⟩
      exact zh
     exact zh
    ·rintro c V ⟨rfl, h1, h2, h3, h4⟩ hD
     have Hb18 := zD ((h3 _ (blk_lt Hb17.out) nb5b1.symm).trans Hb17.out); have HbA8 := zD ((h3 _ (blk_lt HbA7.out) nb5bA.symm).trans HbA7.out); have HbB8 := zD ((h3 _ (blk_lt HbB7.out) nb5bB.symm).trans HbB7.out); have Hb58 := zD h2; have HbD8 := zD hD; have HB8 := zD (h4); have HAL := zD h1; clear h1 h2 h3 h4 hD; refine (wpIn_wide (n := 5)).2 ?_; go_upto_region 10 with (fail); refine wp_region_noPanic ?_; have Hb18d := zD (show V.drew.heap[g1]? = _ from Hb18.out); clear Hb18; have HbA8d := zD (show V.drew.heap[A]? = _ from HbA8.out); clear HbA8; have HbB8d := zD (show V.drew.heap[B]? = _ from HbB8.out); clear HbB8; have Hb58d := zD (show V.drew.heap[g5]? = _ from Hb58.out); clear Hb58; have HbD8d := zD (show V.drew.heap[w7.heap.size]? = _ from HbD8.out); clear HbD8; have HB8d := zD (show Below w.heap.size w V.drew from HB8.out.trans ⟨rfl, rfl, rfl, zn, fun _ _ => rfl⟩); clear HB8; refine wp_region_held_drew (S := fun w' => w'.heap[A]? = some (.cells #[sT xi, sT xs, sT xa, iV xat, .int .u8 (xph : Nat), iV xtr, .bool xst, iV xwh, sT xvl, iV xos, iV xoc, sT xov, iV xod, .bool xg] 57 (0, 0)) ∧ w'.heap[g1]? = some (.cells (sW s ra sa ga la (some ⟨b1, o1, none⟩) lb (some ⟨b2, o2, none⟩) rv sv gv lc mc le me pf pc pn pd ps pm kp nn th nw da db L R M N) 102 (0, 0))) (by kernel_rfl) (⟨HbA8d.out, Hb18d.out⟩) (fun hHeld => ?_); generalize V.drew = W9 at *; refine zJ 0 50 rfl ?_; refine zI 1 51 rfl (fun wS hS => run_load_op 55 (.tmp 50) (by rfl) _ 9 (by rfl) _ (load_t55 hS.1 9 #[iV xos, iV xoc, sT xov, iV xod] (by rfl) (by kernel_rfl))) ?_; refine zJ 2 52 rfl ?_; refine zJ 3 53 rfl ?_; refine zI 4 54 rfl (fun wS hS => run_loadC_op 3 (.tmp 53) (by rfl) _ 16 (by rfl) (iV da) agg_t3 hS.2 (by rfl)) ?_; refine zy [5] ?_; refine zg (some 8) rfl (fun K hK => ?_) ?_
     ·refine zQ 55 zero_t55 ?_
      intro W10 g10 hg10 hx10; have Hb1010 := zD hx10.blk; have db10 := zM HB8d hg10; have Hb110 := zN hx10 hg10 Hb18d; have nb10b1 := newer hg10 Hb18d.out; have HbA10 := zN hx10 hg10 HbA8d; have nb10bA := newer hg10 HbA8d.out; have HbB10 := zN hx10 hg10 HbB8d; have nb10bB := newer hg10 HbB8d.out; have Hb510 := zN hx10 hg10 Hb58d; have nb10b5 := newer hg10 Hb58d.out; have HbD10 := zN hx10 hg10 HbD8d; have nb10bD := newer hg10 HbD8d.out; have HB10 := zE hx10 HB8d db10; clear Hb18d HbA8d HbB8d Hb58d HbD8d HB8d hg10 hx10; refine hK.out _ _ (⟨HbA10.out, Hb110.out⟩) (fun hHeld => ?_); clear hK K; try simp only [Act.put, zX, zY, zZ]
      refine zy [6] ?_; refine zg none rfl (fun K hK => ?_) ?_
      ·refine zP 55 8 51 rfl Hb1010 ?_
       intro W11 hx11; have Hb1011 := zD hx11.blk; have Hb111 := zH hx11 nb10b1.symm Hb110; have HbA11 := zH hx11 nb10bA.symm HbA10; have HbB11 := zH hx11 nb10bB.symm HbB10; have Hb511 := zH hx11 nb10b5.symm Hb510; have HbD11 := zH hx11 nb10bD.symm HbD10; have HB11 := zE hx11 HB10 db10; clear hx11 Hb110 HbA10 HbB10 Hb510 HbD10 HB10 Hb1010; refine hK.out _ _ (⟨HbA11.out, Hb111.out⟩) (fun hHeld => ?_); clear hK K; try simp only [Act.put, zX, zY, zZ]
       refine zJ 7 9 rfl ?_; refine zJ 8 10 rfl ?_; refine wpAnyH_done (by kernel_rfl) ?_ _; refine NoPanic.normal ?_; go_upto_region 11 with (fail); go_cut [62] from 50 to 61 (fun vt wd => ∃ t : Bool, vt = .bool t ∧ (t = true → xg = false) ∧ wd.heap[g10]? = some (.cells #[iV xos, iV xoc, sT xov, iV xod] 55 (0, 0)) ∧ wd.heap[g1]? = some (.cells (sW s ra sa ga la (some ⟨b1, o1, none⟩) lb (some ⟨b2, o2, none⟩) rv sv gv lc mc le me pf pc pn pd ps pm kp nn th nw da db L R M N) 102 (0, 0)) ∧ wd.heap[A]? = some (.cells #[sT xi, sT xs, sT xa, iV xat, .int .u8 (xph : Nat), iV xtr, .bool xst, iV xwh, sT xvl, iV xos, iV xoc, sT xov, iV xod, .bool xg] 57 (0, 0)) ∧ wd.heap[B]? = some (.cells #[sT yi, sT ys, sT ya, iV yat, .int .u8 (yph : Nat), iV ytr, .bool yst, iV ywh, sT yvl, iV yos, iV yoc, sT yov, iV yod, .bool yg] 57 (0, 0)) ∧ wd.heap[g5]? = some (.cells #[.bool true] 4 (0, 0)) ∧ wd.heap[w7.heap.size]? = some (.deferred (some [])) ∧ Below w.heap.size w wd)
       case first =>
        go_wp2_with (go_big_may; first | ((with_reducible refine zc 56 ?_); refine zS 53 55 0 (load_t53 HbB11.out 0 #[sT yi, sT ys, sT ya, iV yat, .int .u8 (yph : Nat), iV ytr, .bool yst, iV ywh, sT yvl] (by rfl) (by kernel_rfl)) ?_)); refine (over_any _ ⟨yi, ys, ya, yat, yph, ytr, yst, ywh, yvl⟩).mono ?_; rintro e w9 ⟨rfl, hb⟩; generalize overA ⟨yi, ys, ya, yat, yph, ytr, yst, ywh, yvl⟩ = oy at *; have Hb112 := zB hb Hb111; clear Hb111; have HbA12 := zB hb HbA11; clear HbA11; have HbB12 := zB hb HbB11; clear HbB11; have Hb512 := zB hb Hb511; clear Hb511; have HbD12 := zB hb HbD11; clear HbD11; have Hb1012 := zB hb Hb1011; clear Hb1011; have HB12 := zT HB11 hb; clear HB11 hb; cases oy with
        | false =>
         go_wp2_with fail; go_meet
         case rel => exact ⟨false, rfl, (fun h => by cases h), Hb1012.out, Hb112.out, HbA12.out, HbB12.out, Hb512.out, HbD12.out, HB12.out⟩
        | true =>
         go_wp2_with (go_big_may; first | ((with_reducible refine zc 60 ?_); refine zV 4 59 13 agg_t4 HbA12 rfl ?_)); go_meet
         case rel => exact ⟨!xg, (by simp), (fun h => by simpa using h), Hb1012.out, Hb112.out, HbA12.out, HbB12.out, Hb512.out, HbD12.out, HB12.out⟩
       case rest =>
        obtain ⟨t, rfl, hxg, q0, q1, q2, q3, q4, q5, q6⟩ := hcut; have Hb10r := zD q0; have Hb1r := zD q1; have HbAr := zD q2; have HbBr := zD q3; have Hb5r := zD q4; have HbDr := zD q5; have HBr := zD q6; clear q0 q1 q2 q3 q4 q5 q6; have HXG := zD hxg; clear hxg; go_upto_if 62 with (fail); go_cut [10] from 55 to 93 (fun vw wd => ∃ (wv : Bool) (p0 p1 p3 : Int) (p2 : Tx), vw = .bool wv ∧ wd.heap[g10]? = some (.cells #[iV p0, iV p1, sT p2, iV p3] 55 (0, 0)) ∧ wd.heap[g1]? = some (.cells (sW s ra sa ga la (some ⟨b1, o1, none⟩) lb (some ⟨b2, o2, none⟩) rv sv gv lc mc le me pf pc pn pd ps pm kp nn th nw da db L R M N) 102 (0, 0)) ∧ wd.heap[A]? = some (.cells #[sT xi, sT xs, sT xa, iV xat, .int .u8 (xph : Nat), iV xtr, .bool xst, iV xwh, sT xvl, iV xos, iV xoc, sT xov, iV xod, .bool xg] 57 (0, 0)) ∧ wd.heap[B]? = some (.cells #[sT yi, sT ys, sT ya, iV yat, .int .u8 (yph : Nat), iV ytr, .bool yst, iV ywh, sT yvl, iV yos, iV yoc, sT yov, iV yod, .bool yg] 57 (0, 0)) ∧ wd.heap[g5]? = some (.cells #[.bool true] 4 (0, 0)) ∧ wd.heap[w7.heap.size]? = some (.deferred (some [])) ∧ Below w.heap.size w wd)
        case first =>
         cases t with
         | false =>
          go_wp2_with fail; go_meet
          case rel => exact ⟨false, _, _, _, _, rfl, Hb10r.out, Hb1r.out, HbAr.out, HbBr.out, Hb5r.out, HbDr.out, HBr.out⟩
         | true =>
          obtain rfl : xg = false := HXG.out rfl; clear HXG; go_wp2_with (go_big_may; first | ((with_reducible refine zc 65 ?_); refine zS 53 64 0 (load_t53 HbBr.out 0 #[sT yi, sT ys, sT ya, iV yat, .int .u8 (yph : Nat), iV ytr, .bool yst, iV ywh, sT yvl] (by rfl) (by kernel_rfl)) ?_)); refine (outcome_any _ ⟨yi, ys, ya, yat, yph, ytr, yst, ywh, yvl⟩).mono ?_; rintro e w9 ⟨⟨u0, u1, u2, rfl⟩, hb⟩; have Hb112 := zB hb Hb1r; clear Hb1r; have HbA12 := zB hb HbAr; clear HbAr; have HbB12 := zB hb HbBr; clear HbBr; have Hb512 := zB hb Hb5r; clear Hb5r; have HbD12 := zB hb HbDr; clear HbDr; have Hb1012 := zB hb Hb10r; clear Hb10r; have HB12 := zT HBr hb; clear HBr hb; go_upto_region 13 with (go_big_may; first | ((with_reducible refine zd 3 70 ?_); refine zC 3 70 (.tmp 67) 0 (iV u0) Hb1012 ?_; intro W13 hx13; have Hb1013 := zD hx13.blk; have Hb113 := zH hx13 nb10b1.symm Hb112; have HbA13 := zH hx13 nb10bA.symm HbA12; have HbB13 := zH hx13 nb10bB.symm HbB12; have Hb513 := zH hx13 nb10b5.symm Hb512; have HbD13 := zH hx13 nb10bD.symm HbD12; have HB13 := zE hx13 HB12 db10; clear hx13 Hb112 HbA12 HbB12 Hb512 HbD12 HB12 Hb1012) | ((with_reducible refine zd 3 71 ?_); refine zC 3 71 (.tmp 68) 1 (iV u1) Hb1013 ?_; intro W14 hx14; have Hb1014 := zD hx14.blk; have Hb114 := zH hx14 nb10b1.symm Hb113; have HbA14 := zH hx14 nb10bA.symm HbA13; have HbB14 := zH hx14 nb10bB.symm HbB13; have Hb514 := zH hx14 nb10b5.symm Hb513; have HbD14 := zH hx14 nb10bD.symm HbD13; have HB14 := zE hx14 HB13 db10; clear hx14 Hb113 HbA13 HbB13 Hb513 HbD13 HB13 Hb1013) | ((with_reducible refine zd 9 72 ?_); refine zC 9 72 (.tmp 69) 2 (sT u2) Hb1014 ?_; intro W15 hx15; have Hb1015 := zD hx15.blk; have Hb115 := zH hx15 nb10b1.symm Hb114; have HbA15 := zH hx15 nb10bA.symm HbA14; have HbB15 := zH hx15 nb10bB.symm HbB14; have Hb515 := zH hx15 nb10b5.symm Hb514; have HbD15 := zH hx15 nb10bD.symm HbD14; have HB15 := zE hx15 HB14 db10; clear hx15 Hb114 HbA14 HbB14 Hb514 HbD14 HB14 Hb1014)); go_upto_region 14 with (go_big_may; first | ((with_reducible refine zc 74 ?_); refine zV 2 73 12 agg_t2 Hb115 rfl ?_) | ((with_reducible refine zc 76 ?_); refine zV 2 75 10 agg_t2 Hb115 rfl ?_) | ((with_reducible refine zd 2 78 ?_); refine wpList_cellI 2 (.tmp 78) (.tmp 77) (by rfl) (by rfl) _ 3 #[iV u0, iV u1, sT u2, iV xod] (by rfl) ⟨_, by rfl⟩ Hb1015.out (by simp) (by kernel_rfl) ?_; intro i16 W16 hx16; have Hb1016 := zD (show W16.heap[g10]? = some (.cells #[iV u0, iV u1, sT u2, iV i16] 55 (0, 0)) from hx16.blk); have Hb116 := zH hx16 nb10b1.symm Hb115; have HbA16 := zH hx16 nb10bA.symm HbA15; have HbB16 := zH hx16 nb10bB.symm HbB15; have Hb516 := zH hx16 nb10b5.symm Hb515; have HbD16 := zH hx16 nb10bD.symm HbD15; have HB16 := zE hx16 HB15 db10; clear hx16 Hb115 HbA15 HbB15 Hb515 HbD15 HB15 Hb1015)); by_cases hle : i16 ≤ nw
          case neg =>
           have dle : decide (i16 ≤ nw) = false := zf hle; clear hle; go_wp2_with (go_big_may; first | ((with_reducible refine zc 80 ?_); refine zV 2 79 3 agg_t2 Hb1016 rfl ?_) | ((with_reducible refine zc 82 ?_); refine zV 2 81 13 agg_t2 Hb116 rfl ?_)); go_meet
           case rel => exact ⟨false, _, _, _, _, rfl, Hb1016.out, Hb116.out, HbA16.out, HbB16.out, Hb516.out, HbD16.out, HB16.out⟩
          have dle : decide (i16 ≤ nw) = true := zt hle; clear hle; have hoo := fun W => opr_eql ⟨yos, yoc, yov, yod⟩ opr0 W
          have hog := fun X Y W => opr_eqlg ⟨yos, yoc, yov, yod⟩ opr0 X Y W
          unfold oprC opr0 at hoo hog; dsimp only at hoo hog; have eb0 : bT [] = ⟨#[]⟩ := rfl; simp only [eb0] at hoo hog; clear eb0; generalize oprEq ⟨yos, yoc, yov, yod⟩ ⟨0, 0, [], 0⟩ = GQ at *; cases yg with
          | false =>
           go_wp2_with (go_big_may; first | ((with_reducible refine zc 80 ?_); refine zV 2 79 3 agg_t2 Hb1016 rfl ?_) | ((with_reducible refine zc 82 ?_); refine zV 2 81 13 agg_t2 Hb116 rfl ?_) | ((with_reducible refine zc 86 ?_); refine zV 4 85 13 agg_t4 HbB16 rfl ?_) | ((with_reducible refine zc 90 ?_); refine zS 55 89 9 (load_t55 HbB16.out 9 #[iV yos, iV yoc, sT yov, iV yod] (by rfl) (by kernel_rfl)) ?_) | ((with_reducible refine zc 91 ?_); refine wpList_buildS 55 #[] (by rfl) (by rfl) #[] (by rfl) #[iV 0, iV 0, eS, iV 0] (by kernel_rfl) ?_)); go_meet
           case rel => exact ⟨false, _, _, _, _, rfl, Hb1016.out, Hb116.out, HbA16.out, HbB16.out, Hb516.out, HbD16.out, HB16.out⟩
          | true =>
           cases GQ with
           | false =>
            go_wp2_with (go_big_may; first | ((with_reducible refine zc 80 ?_); refine zV 2 79 3 agg_t2 Hb1016 rfl ?_) | ((with_reducible refine zc 82 ?_); refine zV 2 81 13 agg_t2 Hb116 rfl ?_) | ((with_reducible refine zc 86 ?_); refine zV 4 85 13 agg_t4 HbB16 rfl ?_) | ((with_reducible refine zc 90 ?_); refine zS 55 89 9 (load_t55 HbB16.out 9 #[iV yos, iV yoc, sT yov, iV yod] (by rfl) (by kernel_rfl)) ?_) | ((with_reducible refine zc 91 ?_); refine wpList_buildS 55 #[] (by rfl) (by rfl) #[] (by rfl) #[iV 0, iV 0, eS, iV 0] (by kernel_rfl) ?_)); go_meet
            case rel => exact ⟨false, _, _, _, _, rfl, Hb1016.out, Hb116.out, HbA16.out, HbB16.out, Hb516.out, HbD16.out, HB16.out⟩
           | true =>
            go_wp2_with (go_big_may; first | ((with_reducible refine zc 80 ?_); refine zV 2 79 3 agg_t2 Hb1016 rfl ?_) | ((with_reducible refine zc 82 ?_); refine zV 2 81 13 agg_t2 Hb116 rfl ?_) | ((with_reducible refine zc 86 ?_); refine zV 4 85 13 agg_t4 HbB16 rfl ?_) | ((with_reducible refine zc 90 ?_); refine zS 55 89 9 (load_t55 HbB16.out 9 #[iV yos, iV yoc, sT yov, iV yod] (by rfl) (by kernel_rfl)) ?_) | ((with_reducible refine zc 91 ?_); refine wpList_buildS 55 #[] (by rfl) (by rfl) #[] (by rfl) #[iV 0, iV 0, eS, iV 0] (by kernel_rfl) ?_)); go_meet
            case rel => exact ⟨true, _, _, _, _, rfl, Hb1016.out, Hb116.out, HbA16.out, HbB16.out, Hb516.out, HbD16.out, HB16.out⟩
        case rest =>
         obtain ⟨wv, p0, p1, p3, p2, rfl, q0, q1, q2, q3, q4, q5, q6⟩ := hcut; have Hb10z := zD q0; have Hb1z := zD q1; have HbAz := zD q2; have HbBz := zD q3; have Hb5z := zD q4; have HbDz := zD q5; have HBz := zD q6; clear q0 q1 q2 q3 q4 q5 q6; go_upto_if 97 with (go_big_may; first | ((with_reducible refine zc 96 ?_); refine zV 5 95 4 agg_t5 HbBz rfl ?_)); go_cut [9] from 55 to 99 (fun vd wd => ∃ dd : Int, vd = iV dd ∧ wd.heap[g10]? = some (.cells #[iV p0, iV p1, sT p2, iV p3] 55 (0, 0)) ∧ wd.heap[g1]? = some (.cells (sW s ra sa ga la (some ⟨b1, o1, none⟩) lb (some ⟨b2, o2, none⟩) rv sv gv lc mc le me pf pc pn pd ps pm kp nn th nw da db L R M N) 102 (0, 0)) ∧ wd.heap[A]? = some (.cells #[sT xi, sT xs, sT xa, iV xat, .int .u8 (xph : Nat), iV xtr, .bool xst, iV xwh, sT xvl, iV xos, iV xoc, sT xov, iV xod, .bool xg] 57 (0, 0)) ∧ wd.heap[B]? = some (.cells #[sT yi, sT ys, sT ya, iV yat, .int .u8 (yph : Nat), iV ytr, .bool yst, iV ywh, sT yvl, iV yos, iV yoc, sT yov, iV yod, .bool yg] 57 (0, 0)) ∧ wd.heap[g5]? = some (.cells #[.bool true] 4 (0, 0)) ∧ wd.heap[w7.heap.size]? = some (.deferred (some [])) ∧ Below w.heap.size w wd)
         case first =>
          by_cases h5 : yph = 5
          case pos =>
           have d5 : (((yph : Nat) : Int) == 5) = true := by rw [beq_iff_eq]; omega
           clear h5; go_wp2_with fail; go_meet
           case rel => exact ⟨_, rfl, Hb10z.out, Hb1z.out, HbAz.out, HbBz.out, Hb5z.out, HbDz.out, HBz.out⟩
          have d5 : (((yph : Nat) : Int) == 5) = false := by rw [zb]; omega
          clear h5; go_wp2_with fail; go_meet
          case rel => exact ⟨_, rfl, Hb10z.out, Hb1z.out, HbAz.out, HbBz.out, Hb5z.out, HbDz.out, HBz.out⟩
         case rest =>
          obtain ⟨dd, rfl, q0, q1, q2, q3, q4, q5, q6⟩ := hcut; have Hb10y := zD q0; have Hb1y := zD q1; have HbAy := zD q2; have HbBy := zD q3; have Hb5y := zD q4; have HbDy := zD q5; have HBy := zD q6; clear q0 q1 q2 q3 q4 q5 q6; have HYES := zD (show AltR M N (.returned (.bool true)) from ⟨true, rfl, fun _ => HAL.out⟩); have hoo := fun W => opr_eql ⟨p0, p1, p2, p3⟩ ⟨yos, yoc, yov, yod⟩ W
          have hog := fun X Y W => opr_eqlg ⟨p0, p1, p2, p3⟩ ⟨yos, yoc, yov, yod⟩ X Y W
          unfold oprC at hoo hog; dsimp only at hoo hog; generalize oprEq ⟨p0, p1, p2, p3⟩ ⟨yos, yoc, yov, yod⟩ = OQ at *; by_cases hdd : dd = db
          case neg =>
           have ddd : (dd == db) = false := by rw [zb]; exact hdd
           clear hdd; go_wp2_with (go_big_may; first | ((with_reducible refine zc 100 ?_); refine zV 4 6 0 agg_t4 Hb5y rfl ?_) | ((with_reducible refine zc 105 ?_); refine zV 3 104 19 agg_t3 Hb1y rfl ?_) | ((with_reducible refine zc 112 ?_); refine zV 4 111 13 agg_t4 HbAy rfl ?_) | ((with_reducible refine zc 114 ?_); refine zV 4 113 13 agg_t4 HbBy rfl ?_) | ((with_reducible refine zc 117 ?_); refine zS 55 8 0 (load_f55 Hb10y.out (by rfl)) ?_) | ((with_reducible refine zc 119 ?_); refine zS 55 118 9 (load_t55 HbBy.out 9 #[iV yos, iV yoc, sT yov, iV yod] (by rfl) (by kernel_rfl)) ?_)); refine ⟨by simp, .inl ⟨_, _, rfl, run_takeDeferred HbDy.out, ?_⟩⟩; exact ⟨.bool false, by simp [results, Tryz.results42, go_sem], HFA.out, below_put HBy.out HW7.out⟩
          have ddd : (dd == db) = true := by rw [beq_iff_eq]; exact hdd
          clear hdd; cases wv with
          | true =>
           go_wp2_with (go_big_may; first | ((with_reducible refine zc 100 ?_); refine zV 4 6 0 agg_t4 Hb5y rfl ?_) | ((with_reducible refine zc 105 ?_); refine zV 3 104 19 agg_t3 Hb1y rfl ?_) | ((with_reducible refine zc 112 ?_); refine zV 4 111 13 agg_t4 HbAy rfl ?_) | ((with_reducible refine zc 114 ?_); refine zV 4 113 13 agg_t4 HbBy rfl ?_) | ((with_reducible refine zc 117 ?_); refine zS 55 8 0 (load_f55 Hb10y.out (by rfl)) ?_) | ((with_reducible refine zc 119 ?_); refine zS 55 118 9 (load_t55 HbBy.out 9 #[iV yos, iV yoc, sT yov, iV yod] (by rfl) (by kernel_rfl)) ?_)); refine ⟨by simp, .inl ⟨_, _, rfl, run_takeDeferred HbDy.out, ?_⟩⟩; exact ⟨.bool true, by simp [results, Tryz.results42, go_sem], HYES.out, below_put HBy.out HW7.out⟩
          | false =>
           by_cases hgg : xg = yg
           case neg =>
            have dgg : (xg == yg) = false := by rw [zb]; exact hgg
            clear hgg; go_wp2_with (go_big_may; first | ((with_reducible refine zc 100 ?_); refine zV 4 6 0 agg_t4 Hb5y rfl ?_) | ((with_reducible refine zc 105 ?_); refine zV 3 104 19 agg_t3 Hb1y rfl ?_) | ((with_reducible refine zc 112 ?_); refine zV 4 111 13 agg_t4 HbAy rfl ?_) | ((with_reducible refine zc 114 ?_); refine zV 4 113 13 agg_t4 HbBy rfl ?_) | ((with_reducible refine zc 117 ?_); refine zS 55 8 0 (load_f55 Hb10y.out (by rfl)) ?_) | ((with_reducible refine zc 119 ?_); refine zS 55 118 9 (load_t55 HbBy.out 9 #[iV yos, iV yoc, sT yov, iV yod] (by rfl) (by kernel_rfl)) ?_)); refine ⟨by simp, .inl ⟨_, _, rfl, run_takeDeferred HbDy.out, ?_⟩⟩; exact ⟨.bool false, by simp [results, Tryz.results42, go_sem], HFA.out, below_put HBy.out HW7.out⟩
           have dgg : (xg == yg) = true := by rw [beq_iff_eq]; exact hgg
           clear hgg; cases OQ with
           | false =>
            go_wp2_with (go_big_may; first | ((with_reducible refine zc 100 ?_); refine zV 4 6 0 agg_t4 Hb5y rfl ?_) | ((with_reducible refine zc 105 ?_); refine zV 3 104 19 agg_t3 Hb1y rfl ?_) | ((with_reducible refine zc 112 ?_); refine zV 4 111 13 agg_t4 HbAy rfl ?_) | ((with_reducible refine zc 114 ?_); refine zV 4 113 13 agg_t4 HbBy rfl ?_) | ((with_reducible refine zc 117 ?_); refine zS 55 8 0 (load_f55 Hb10y.out (by rfl)) ?_) | ((with_reducible refine zc 119 ?_); refine zS 55 118 9 (load_t55 HbBy.out 9 #[iV yos, iV yoc, sT yov, iV yod] (by rfl) (by kernel_rfl)) ?_)); refine ⟨by simp, .inl ⟨_, _, rfl, run_takeDeferred HbDy.out, ?_⟩⟩; exact ⟨.bool false, by simp [results, Tryz.results42, go_sem], HFA.out, below_put HBy.out HW7.out⟩
           | true =>
            go_wp2_with (go_big_may; first | ((with_reducible refine zc 100 ?_); refine zV 4 6 0 agg_t4 Hb5y rfl ?_) | ((with_reducible refine zc 105 ?_); refine zV 3 104 19 agg_t3 Hb1y rfl ?_) | ((with_reducible refine zc 112 ?_); refine zV 4 111 13 agg_t4 HbAy rfl ?_) | ((with_reducible refine zc 114 ?_); refine zV 4 113 13 agg_t4 HbBy rfl ?_) | ((with_reducible refine zc 117 ?_); refine zS 55 8 0 (load_f55 Hb10y.out (by rfl)) ?_) | ((with_reducible refine zc 119 ?_); refine zS 55 118 9 (load_t55 HbBy.out 9 #[iV yos, iV yoc, sT yov, iV yod] (by rfl) (by kernel_rfl)) ?_)); refine ⟨by simp, .inl ⟨_, _, rfl, run_takeDeferred HbDy.out, ?_⟩⟩; exact ⟨.bool true, by simp [results, Tryz.results42, go_sem], HYES.out, below_put HBy.out HW7.out⟩
      exact zh
     exact zh
end Go.Proofs.YtgoejmheihgpfaaGreatDoor
