/- Lemmas for ModelStays' proof. -/
import Derived.RangeFuncCalls
import Derived.RangeFuncOwn
import Derived.RangeFuncWrites
import Derived.RangeFuncRecord
import Derived.Test.YtgoejmheihgpfaaGreatDoorTq
import Derived.Deep.DeepCutAuto
import Derived.Deep.CutBlock
namespace Go.Proofs.YtgoejmheihgpfaaGreatDoor
set_option maxRecDepth 100000
set_option maxHeartbeats 16000000
open Go.RowKit
section
open Go.RowKit
def SeqC {α : Type} (F : Fence) (n : Nat) (P : Program) (gf : Nat) (lb : Array Value) (enc : α → Value) (Good : α → Prop) (Kp : World → World → Prop) (w : World) : Prop :=
 ∀ (l : Nat) (J Jx : World → Prop) (W : World), Below w.heap.size w W → (∀ A B row, J A → A.grownBy B row → (∀ r, row = some r → W.heap.size ≤ r) → J B) →
  (∀ x A, J A → Good x → YieldAt F (n - 1) P l #[enc x] A fun e B => (e = .returned (.bool true) ∧ J B ∧ Kp A B) ∨ (e = .returned (.bool false) ∧ Jx B)) →
  J W → CallsIn F n P gf (#[.func (.yield l) #[] #[]] ++ lb) W fun e B => (∃ v, e = .returned v) ∧ (J B ∨ Jx B)
section
variable {F : Fence} {n : Nat} {P : Program}
theorem wpIn_range_cells {α : Type} {g : Operand} {assign body : Code} {Q : Exit → Act → World → Prop} {a : Act} {w : World} (hro : F.round = none) (h1 : 1 ≤ n) {gf : Nat} {lb : Array Value} (hg : a.eval g = .func (.func gf) #[] lb) (hFg : F.fn gf)
  (eg : ∀ args w, (callFunc gf args).run P w = .ok (.enter gf args) w) {enc : α → Value} {Good : α → Prop} {Kp : World → World → Prop} {p : Tmp} (hseq : SeqC F (n - 1) P gf lb enc Good Kp w)
  (hKt : ∀ {A B C : World}, Kp A B → Kp B C → Kp A C) (hKb : ∀ (W : World) (l : Nat) (o o' : Obj), w.heap.size ≤ l → W.heap[l]? = some o → o.isCells = false → Kp W (W.putObj l o'))
  (Ax : α → Act → World → Prop) (hAx : ∀ x a' W l o o', Ax x a' W → W.heap[l]? = some o → o.isCells = false → Ax x a' (W.putObj l o'))
  (Ix : Code → World → Prop) (hIx : ∀ c W l o o', Ix c W → w.heap.size ≤ l → W.heap[l]? = some o → o.isCells = false → Ix c (W.putObj l o'))
  (hassign : ∀ (l : Nat) (x : α) (W : World) (K : Act → World → Prop), Below w.heap.size w W → Good x → (∀ a' W', KeepsFrom w.heap.size W W' → Kp W W' → Below w.heap.size w W' → Ax x a' W' → K a' W') →
   assign.wpIn (F.inRound l) (n - 1 - 1) P (Exit.then K (fun _ _ _ => False)) { tmps := a.tmps.setIfInBounds p (enc x), defers := [] } W)
  (hbody : ∀ (l : Nat) (x : α) (a' : Act) (W : World), Below w.heap.size w W → Good x → Ax x a' W → body.wpIn (F.inRound l) (n - 1 - 1) P (ownPostG w.heap.size Kp (fun (_ : List Unit) => Below w.heap.size w) (fun c _ => Ix c) [] W) a' W)
  (hdone : ∀ W : World, Below w.heap.size w W → W.heap[w.heap.size]? = some (.deferred (some [])) → Q .normal { a with defers := { target := .collected w.heap.size, args := #[] } :: a.defers } W)
  (hstop : ∀ (c : Code) (W : World), Ix c W → W.heap[w.heap.size]? = some (.deferred (some [])) → c.wpIn F n P Q { a with defers := { target := .collected w.heap.size, args := #[] } :: a.defers } W) :
  (Code.rangeFunc g #[p] assign body).wpIn F n P Q a w := by
 refine wpIn_rangeFunc (fun fn hfn => ?_)
 rw [hro]
 -- the loop's record in each of its states
 let rec_ : LoopState → Option Code → Loop := fun st pe => { state := st, pending := pe, fn, tmps := a.tmps, params := #[p], assign, body, defers := w.heap.size }
 let L := w.heap.size + 1
 let W1 := (w.alloc (.deferred (some []))).alloc (.loop (rec_ .ready none))
 have hz : W1.heap.size = w.heap.size + 2 := by simp [W1]
 have hL1 : W1.heap[L]? = some (.loop (rec_ .ready none)) := by
  have := World.alloc_heap_new (w.alloc (.deferred (some []))) (.loop (rec_ .ready none))
  rwa [World.size_alloc] at this
 have hD1 : W1.heap[w.heap.size]? = some (.deferred (some [])) := (Below.heap_alloc _ _ _ (by simp)).trans (World.alloc_heap_new w _)
 have hB1 : Below w.heap.size w W1 := ((Below.refl _ w).alloc zn _).alloc (by simp) _
 have putB : ∀ {W : World} (o : Obj), Below w.heap.size w W → Below w.heap.size w (W.putObj L o) := fun o hb =>
  ⟨hb.os, hb.tape, hb.output, by simpa using hb.size, fun k hk => (World.putObj_heap_other (by show k ≠ w.heap.size + 1; omega)).trans (hb.block k hk)⟩
 refine ⟨L, [{ target := .collected w.heap.size, args := #[] }], W1, { target := .fn (.func gf) lb, args := #[.func (.yield L) #[] #[]] }, W1, gf, #[.func (.yield L) #[] #[]] ++ lb, W1, run_enterLoop_outer _ _ _ _ _, ?_, ?_, ?_, fun _ => h1, ?_⟩
 ·simp only [resolve, hg]
  simp [go_sem]
 ·intro f' hf'
  simp [Target.leads] at hf'
  subst hf'
  exact hFg
 ·simp [invoke, go_sem, eg]
 ·refine (hseq L (fun W => Below w.heap.size w W ∧ W.heap[L]? = some (.loop (rec_ .ready none)) ∧ W.heap[w.heap.size]? = some (.deferred (some [])))
   (fun W => ∃ c, Ix c W ∧ W.heap[L]? = some (.loop (rec_ .done (some c))) ∧ W.heap[w.heap.size]? = some (.deferred (some []))) W1 hB1 ?_ ?_ ⟨hB1, hL1, hD1⟩).mono ?_
  ·rintro A B row ⟨hb, hl, hd⟩ hgr hr
   have keep : ∀ k, k < w.heap.size + 2 → k < A.heap.size → B.heap[k]? = A.heap[k]? := fun k hk hA => hgr.block k hA (fun e => by have := hr k e.symm; omega)
   refine ⟨⟨hgr.os.trans hb.os, hgr.tape.trans hb.tape, hgr.output.trans hb.output, Nat.le_trans hb.size hgr.size, fun k hk => (keep k (by omega) (Nat.lt_of_lt_of_le hk hb.size)).trans (hb.block k hk)⟩, ?_, ?_⟩
   ·exact (keep L (by show w.heap.size + 1 < _; omega) (blk_lt hl)).trans hl
   ·exact (keep _ (by omega) (blk_lt hd)).trans hd
  ·rintro x W ⟨hb, hl, hd⟩ hgood
   have hy := run_yield (P := P) (args := #[enc x]) hl rfl
   refine ⟨fn, _, assign, body, hy, roundIn_of_wpIn hfn ?_⟩
   have e : (#[p].zip #[enc x]).foldl (fun t (q, v) => t.setIfInBounds q v) a.tmps = a.tmps.setIfInBounds p (enc x) := by simp
   show Code.wpIn _ _ _ assign _ { tmps := (#[p].zip #[enc x]).foldl (fun t (q, v) => t.setIfInBounds q v) a.tmps, defers := [] } W
   rw [e]
   refine hassign _ x W _ hb hgood ?_
   intro a' Wa hkf hkp hba hax
   have hla := hkf.same L _ (by show w.heap.size ≤ w.heap.size + 1; omega) hl rfl
   have hda := hkf.same _ _ zn hd rfl
   refine ⟨_, run_beginRound hla rfl, ?_⟩
   have hl2 : (Wa.putObj L (.loop (rec_ .busy none))).heap[L]? = some (.loop (rec_ .busy none)) := World.putObj_heap_same (blk_lt hla)
   have hd2 : (Wa.putObj L (.loop (rec_ .busy none))).heap[w.heap.size]? = some (.deferred (some [])) := (World.putObj_heap_other (by show w.heap.size ≠ w.heap.size + 1; omega)).trans hda
   have hk2 : Kp Wa (Wa.putObj L (.loop (rec_ .busy none))) := hKb _ _ _ _ (by show w.heap.size ≤ w.heap.size + 1; omega) hla rfl
   refine wpIn_mono (hbody _ x a' _ (putB _ hba) hgood (hAx _ _ _ _ _ _ hax hla rfl)) ?_
   rintro e a3 W3 hp
   have fin : ∀ jump : Option Code, KeepsFrom w.heap.size (Wa.putObj L (.loop (rec_ .busy none))) W3 →
     ∃ W4, W4 = W3.putObj L (.loop (rec_ (if jump.isNone then .ready else .done) jump)) ∧ (Instr.endRound L jump).run P W3 = .ok (.bool jump.isNone) W4 ∧ W3.heap[L]? = some (.loop (rec_ .busy none)) ∧
      W4.heap[L]? = some (.loop (rec_ (if jump.isNone then .ready else .done) jump)) ∧ W4.heap[w.heap.size]? = some (.deferred (some [])) := fun jump hk3 => by
    have hl3 := hk3.same L _ (by show w.heap.size ≤ w.heap.size + 1; omega) hl2 rfl
    exact ⟨_, rfl, run_endRound (P := P) jump hl3, hl3, World.putObj_heap_same (blk_lt hl3), (World.putObj_heap_other (by show w.heap.size ≠ w.heap.size + 1; omega)).trans (hk3.same _ _ zn hd2 rfl)⟩
   have lw : w.heap.size ≤ L := by show w.heap.size ≤ w.heap.size + 1; omega
   cases e with
   | normal =>
    obtain ⟨hk3, hkp3, hi3⟩ := hp
    obtain ⟨W4, hW4, hr, hl3, hl4, hd4⟩ := fin none hk3
    refine ⟨_, _, hr, .inl ⟨rfl, ⟨by rw [hW4]; exact putB _ hi3, hl4, hd4⟩, ?_⟩⟩
    rw [hW4]
    exact hKt hkp (hKt hk2 (hKt hkp3 (hKb _ _ _ _ lw hl3 rfl)))
   | ret =>
    obtain ⟨hk3, hi3⟩ := hp
    obtain ⟨W4, hW4, hr, hl3, hl4, hd4⟩ := fin (some .ret) hk3
    exact ⟨_, _, hr, .inr ⟨rfl, .ret, by rw [hW4]; exact hIx _ _ _ _ _ hi3 lw hl3 rfl, hl4, hd4⟩⟩
   | exit id =>
    obtain ⟨hk3, hi3⟩ := hp
    obtain ⟨W4, hW4, hr, hl3, hl4, hd4⟩ := fin (some (.exit id)) hk3
    exact ⟨_, _, hr, .inr ⟨rfl, .exit id, by rw [hW4]; exact hIx _ _ _ _ _ hi3 lw hl3 rfl, hl4, hd4⟩⟩
   | goto t =>
    obtain ⟨hk3, hi3⟩ := hp
    obtain ⟨W4, hW4, hr, hl3, hl4, hd4⟩ := fin (some (.goto t)) hk3
    exact ⟨_, _, hr, .inr ⟨rfl, .goto t, by rw [hW4]; exact hIx _ _ _ _ _ hi3 lw hl3 rfl, hl4, hd4⟩⟩
   | panic ch => exact hp.elim
   | outgrown => exact hp.elim
  ·have lw : w.heap.size ≠ L := by show w.heap.size ≠ w.heap.size + 1; omega
   rintro e W2 ⟨⟨v, rfl⟩, ⟨hb, hl, hd⟩ | ⟨c, hi, hl, hd⟩⟩
   ·exact ⟨none, _, run_endLoop (P := P) hl (by simp [rec_]), hdone _ (putB _ hb) ((World.putObj_heap_other lw).trans hd)⟩
   ·exact ⟨some c, _, run_endLoop (P := P) hl (by simp [rec_]), hstop c _ (hIx _ _ _ _ _ hi (by show w.heap.size ≤ w.heap.size + 1; omega) hl rfl) ((World.putObj_heap_other lw).trans hd)⟩
end
end
def KpR (w0 A B : World) : Prop := A.heap.size ≤ B.heap.size ∧ (∀ (k : Nat) (c : Array Value) (t : TypeId), A.heap[k]? = some (.cells c t (0, 0)) → B.heap[k]? = some (.cells c t (0, 0))) ∧ (Below w0.heap.size w0 A → Below w0.heap.size w0 B)
theorem KpR.trans {w0 A B C : World} (h : KpR w0 A B) (k : KpR w0 B C) : KpR w0 A C := ⟨Nat.le_trans h.1 k.1, fun i c t hi => k.2.1 i c t (h.2.1 i c t hi), fun hb => k.2.2 (h.2.2 hb)⟩
theorem KpR.putObj {w0 w : World} (hw : w0.heap.size ≤ w.heap.size) (W : World) (l : Nat) (o o' : Obj) (hl : w.heap.size ≤ l) (ho : W.heap[l]? = some o) (hc : o.isCells = false) : KpR w0 W (W.putObj l o') :=
 ⟨by simp, fun k c t hk => (World.putObj_heap_other (fun e => by subst e; rw [hk] at ho; cases ho; cases hc)).trans hk, fun hb => ⟨hb.os, hb.tape, hb.output, by simpa using hb.size, fun k hk => (World.putObj_heap_other (by omega)).trans (hb.block k hk)⟩⟩
def Stab (W : World) (J : World → Prop) : Prop := ∀ A B row, J A → A.grownBy B row → (∀ r, row = some r → W.heap.size ≤ r) → J B
structure It (w0 W : World) (J : World → Prop) (V : World) : Prop where
 below : Below w0.heap.size w0 V
 size : W.heap.size ≤ V.heap.size
 j : J V
theorem Nx.grown {w W : World} {g : Nat} {c : Array Value} {T : TypeId} (X : Nx w W g c T) : w.grownBy W (some g) :=
 have h := X.bel 0 w (Below.refl 0 w) (Nat.zero_le _) (Nat.zero_le _)
 ⟨h.os, h.tape, h.output, X.sz, fun k hk hn => X.oth k (fun e => hn (by rw [e])) hk⟩
theorem It.nx {w0 W V V' : World} {J : World → Prop} {g : Nat} {c : Array Value} {T : TypeId} (hs : Stab W J) (hw : w0.heap.size ≤ W.heap.size) (h : It w0 W J V) (X : Nx V V' g c T) (hg : W.heap.size ≤ g) : It w0 W J V' :=
 ⟨X.bel _ _ h.below (Nat.le_trans hw h.size) (Nat.le_trans hw hg), Nat.le_trans h.size X.sz, hs _ _ _ h.j X.grown (fun r e => by cases e; exact hg)⟩
theorem It.call {w0 W V V' : World} {J : World → Prop} (hs : Stab W J) (h : It w0 W J V) (hb : Below V.heap.size V V') : It w0 W J V' :=
 ⟨h.below.trans (hb.mono h.below.size), Nat.le_trans h.size hb.size, hs _ _ none h.j ⟨hb.os, hb.tape, hb.output, hb.size, fun k hk _ => hb.block k hk⟩ (fun r e => by cases e)⟩
theorem It.round {w0 W V V' : World} {J : World → Prop} (h : It w0 W J V) (hj : J V') (hk : KpR w0 V V') : It w0 W J V' := ⟨hk.2.2 h.below, Nat.le_trans h.size hk.1, hj⟩
theorem run_build_op {P : Program} {w : World} {ρ : Operand → Value} {o : Oper} (t : TypeId) (parts : Array (Nat × Operand)) (ho : o.op = .build t parts) (ps : Array (Nat × Value)) (hp : (parts.map fun (i, x) => (i, ρ x)) = ps) (cells : Array Value) (hb : P.built t ps.toList = some cells) : (execOp ρ o).run P w = .ok (.value (.agg cells)) w := by
 unfold execOp
 simp only [ho, hp, Sem.run_bind, run_build w t _ cells hb, Result.andThen_ok]
 rfl
theorem becomes_any (w : World) (s : Sch) (ra sa ga la ma lb mb : Option Addr) (rv sv gv lc mc le me : Nat) (pf pc pn pd ps pm kp nn th nw da db : Int) (L R : List Ent) (M N : List Mrk) (r : Run) (v : Tx) :
  Calls Tryz.prog 74 #[.agg (sW s ra sa ga la ma lb mb rv sv gv lc mc le me pf pc pn pd ps pm kp nn th nw da db L R M N), .agg (runC r), sT v] w fun x w' => ∃ br bv bx, x = .returned (.func (.func 101) #[] #[.pointer (some ⟨br, 0, none⟩), .pointer (some ⟨bv, 0, none⟩), .pointer (some ⟨bx, 0, none⟩)]) ∧
   w'.heap[br]? = some (.cells (runC r) 53 (0, 0)) ∧ w'.heap[bv]? = some (.cells #[sT v] 9 (0, 0)) ∧ w'.heap[bx]? = some (.cells (sW s ra sa ga la ma lb mb rv sv gv lc mc le me pf pc pn pd ps pm kp nn th nw da db L R M N) 102 (0, 0)) ∧ Below w.heap.size w w' := by
 obtain ⟨id, sg, arg, at_, ph, tr, st, wh, vl⟩ := r
 unfold runC
 dsimp only
 have HB0 := zD (Below.refl w.heap.size w)
 go_enter Tryz.func74, Tryz.ntmps74
 go_upto_region 1 with (first | (refine zO 102 0 rfl ?_; intro W1 g1 hg1 hx1; have Hb11 := zD hx1.blk; have db1 := Nat.le_trans HB0.out.size hg1; have HB1 := zE hx1 HB0 db1; clear HB0 hg1 hx1) | (refine zO 53 1 rfl ?_; intro W2 g2 hg2 hx2; have Hb22 := zD hx2.blk; have db2 := Nat.le_trans HB1.out.size hg2; have Hb12 := zN hx2 hg2 Hb11; have HB2 := zE hx2 HB1 db2; clear Hb11 HB1 hg2 hx2) | (refine wpList_boxG 9 (.tmp 2) (by rfl) (by rfl) (sT v) (by rfl) #[sT v] (by rfl) ?_; intro W3 g3 hg3 hx3; have Hb33 := zD hx3.blk; have db3 := Nat.le_trans HB2.out.size hg3; have Hb13 := zN hx3 hg3 Hb12; have Hb23 := zN hx3 hg3 Hb22; have HB3 := zE hx3 HB2 db3; clear Hb12 Hb22 HB2 hg3 hx3))
 go_wp2_with fail
 exact zR (v := .func (.func 101) #[] #[.pointer (some ⟨g2, 0, none⟩), .pointer (some ⟨g3, 0, none⟩), .pointer (some ⟨g1, 0, none⟩)]) ⟨_, _, _, rfl, Hb23.out, Hb33.out, Hb13.out, HB3.out⟩
theorem idx183_0 (W : World) : (Instr.index 183 (.agg #[iV 0, iV 202]) (iV 0)).run Tryz.prog W = .ok (iV 0) W := by kernel_rfl
theorem idx183_1 (W : World) : (Instr.index 183 (.agg #[iV 0, iV 202]) (iV 1)).run Tryz.prog W = .ok (iV 202) W := by kernel_rfl
structure Rd (br bv bx : Nat) (r : Run) (v : Tx) (cs : Array Value) (bl : Nat) (lt : Array Value) (V : World) : Prop where
 r : V.heap[br]? = some (.cells (runC r) 53 (0, 0))
 v : V.heap[bv]? = some (.cells #[sT v] 9 (0, 0))
 x : V.heap[bx]? = some (.cells cs 102 (0, 0))
 l : V.heap[bl]? = some (.cells lt 63 (0, 0))
theorem becomes1_in (n : Nat) (hn : 1 ≤ n) (w0 : World) (hK : KwIn w0) (s : Sch) (ra sa ga la ma lb mb : Option Addr) (rv sv gv lc mc le me : Nat) (pf pc pn pd ps pm kp nn th nw da db : Int) (L R : List Ent) (M N : List Mrk) (hS : SchR w0 s (.slice ra s.records.length rv) (.slice sa s.services.length sv) (.slice ga s.sagas.length gv)) (hM : Small s) (r : Run) (hR : RunSmall r) (v : Tx) (w : World) (hw : w0.heap.size ≤ w.heap.size) (hbw : Below w0.heap.size w0 w) (br bv bx : Nat)
  (h1 : w.heap[br]? = some (.cells (runC r) 53 (0, 0))) (h2 : w.heap[bv]? = some (.cells #[sT v] 9 (0, 0))) (h3 : w.heap[bx]? = some (.cells (sW s ra sa ga la ma lb mb rv sv gv lc mc le me pf pc pn pd ps pm kp nn th nw da db L R M N) 102 (0, 0))) :
  SeqC Fence.wide n Tryz.prog 101 #[.pointer (some ⟨br, 0, none⟩), .pointer (some ⟨bv, 0, none⟩), .pointer (some ⟨bx, 0, none⟩)] (fun q : Run => .agg (runC q)) (fun q => overA r = false ∧ q.id = r.id) (KpR w0) w := by
 intro l J Jx W hbW hJ hY h0
 have hx : r.id.length ≤ 1000000 := by have := hR.id; omega
 have HSJ := zD (show Stab W J from hJ)
 have HW0 := zD (show w0.heap.size ≤ W.heap.size from Nat.le_trans hw hbW.size)
 have HKY := zD (fun V bk => key_any V r.id hx r.at_ bk)
 have HRE := zD (fun V (X : Below w0.heap.size w0 V) fr most l0 l1 l2 l3 l5 l8 l4 l6 l7 l9 => reply_any V (hK.below X) s _ _ _ _ _ _ _ _ _ (hS.below X) hM r hR fr most l0 l1 l2 l3 l5 l8 l4 l6 l7 l9)
 have HSE := zD (fun V (X : Below w0.heap.size w0 V) fr l0 l1 l2 l3 l5 l8 l4 l6 l7 l9 => settle_any V (hK.below X) s _ _ _ _ _ _ _ _ _ (hS.below X) hM r hR fr l0 l1 l2 l3 l5 l8 l4 l6 l7 l9)
 have HRR := zD (fun x (h : ReplyR r x) => (show ∃ (q : Run) (l : Array Value) (c t : Bool), LetV l ∧ x = .returned (.tuple #[.agg (runC q), .agg l, .bool c, .bool t]) ∧ (t = true → overA r = false ∧ q.id = r.id) from h))
 have HY := zD (fun q (A : World) (hj : J A) (hg : overA r = false ∧ q.id = r.id) => hY q A hj hg)
 have HB0 := zD (show It w0 W J W from ⟨hbw.trans (hbW.mono hw), zn, h0⟩)
 have HRD := zD (blk_below hbW h1)
 have HVD := zD (blk_below hbW h2)
 have HXD := zD (blk_below hbW h3)
 generalize ReplyR r = RPR at *
 generalize overA r = OV at *
 clear hK hS hM hR hx hbw hbW hJ hY h0 h1 h2 h3 hw
 refine callsIn_of_wp Tryz.func101 rfl trivial ?_ rfl
 refine wpIn_wide.2 ?_
 simp only [Tryz.ntmps101, List.size_toArray, List.length_cons, List.length_nil, Nat.reduceAdd, Nat.reduceSub, Array.replicate_succ, Array.replicate_zero, List.push_toArray, List.append_toArray, List.nil_append, List.cons_append]
 go_upto_region 0 with (fail)
 obtain ⟨id, sg, arg, at_, ph, tr, st, wh, vl⟩ := r
 have HRD := zD (show W.heap[br]? = some (.cells #[sT id, sT sg, sT arg, iV at_, .int .u8 (ph : Nat), iV tr, .bool st, iV wh, sT vl] 53 (0, 0)) from HRD.out)
 dsimp only at HKY HY HRR
 unfold runC at HRE HSE
 dsimp only at HRE HSE
 go_cut [5] (fun vL wc => ∃ bl ky, vL = .pointer (some ⟨bl, 0, none⟩) ∧ W.heap.size ≤ bl ∧ bl ≠ br ∧ bl ≠ bv ∧ bl ≠ bx ∧ Rd br bv bx ⟨id, sg, arg, at_, ph, tr, st, wh, vl⟩ v (sW s ra sa ga la ma lb mb rv sv gv lc mc le me pf pc pn pd ps pm kp nn th nw da db L R M N) bl #[.int .u8 2, iV 0, iV 0, .int .u64 0, sT ky, .int .u64 0, eS, eS, iV 0, sT v] wc ∧ It w0 W J wc)
 case first =>
  refine wp_region_noPanic ?_; have HRDd := zD (show W.drew.heap[br]? = _ from HRD.out); clear HRD; have HVDd := zD (show W.drew.heap[bv]? = _ from HVD.out); clear HVD; have HXDd := zD (show W.drew.heap[bx]? = _ from HXD.out); clear HXD; have HB0d := zD (It.call (V := W) (V' := W.drew) HSJ.out HB0.out ⟨rfl, rfl, rfl, zn, fun _ _ => rfl⟩); clear HB0; refine wp_region_held_drew (S := fun w' => w'.heap[br]? = some (.cells #[sT id, sT sg, sT arg, iV at_, .int .u8 (ph : Nat), iV tr, .bool st, iV wh, sT vl] 53 (0, 0)) ∧ w'.heap[bv]? = some (.cells #[sT v] 9 (0, 0))) (by kernel_rfl) (⟨HRDd.out, HVDd.out⟩) (fun hHeld => ?_); generalize W.drew = W1 at *; refine zJ 0 14 rfl ?_; refine zI 1 15 rfl (fun wS hS => run_loadC_op 9 (.tmp 14) (by rfl) _ 0 (by rfl) (sT id) agg_t9 hS.1 (by rfl)) ?_; refine zJ 2 16 rfl ?_; refine zI 3 17 rfl (fun wS hS => run_loadC_op 3 (.tmp 16) (by rfl) _ 3 (by rfl) (iV at_) agg_t3 hS.1 (by rfl)) ?_; refine zJ 4 18 rfl ?_; refine zI 5 19 rfl (fun wS hS => run_loadC_op 5 (.tmp 18) (by rfl) _ 4 (by rfl) (.int .u8 (ph : Nat)) agg_t5 hS.1 (by rfl)) ?_; refine zJ 6 20 rfl ?_; refine zI 8 22 rfl (fun wS hS => run_loadC_op 9 (.tmp 2) (by rfl) _ 0 (by rfl) (sT v) agg_t9 hS.2 (by rfl)) ?_; refine zy [7, 10] ?_; refine zg (some 21) rfl (fun K hK => ?_) ?_
  ·go_simp
   refine (HKY.out _ _).mono ?_; rintro e w3 ⟨rfl, hb⟩; generalize keyA id at_ _ = ky at *; have HR2 := zB hb HRDd; clear HRDd; have HV2 := zB hb HVDd; clear HVDd; have HX2 := zB hb HXDd; clear HXDd; have HB2 := zD (It.call HSJ.out HB0d.out hb); clear HB0d hb; refine hK.out _ _ (⟨HR2.out, HV2.out⟩) (fun hHeld => ?_); clear hK K; try simp only [Act.put, zX, zY, zZ]
   refine zI 9 23 rfl (fun wS hS => run_build_op 63 #[(0, .const (.int .u8 2)), (4, .tmp 21), (9, .tmp 22)] (by rfl) #[(0, .int .u8 2), (4, sT ky), (9, sT v)] (by kernel_rfl) #[.int .u8 2, iV 0, iV 0, .int .u64 0, sT ky, .int .u64 0, eS, eS, iV 0, sT v] (by kernel_rfl)) ?_; refine zy [10] ?_; refine zg (some 5) rfl (fun K hK => ?_) ?_
   ·refine zQ 63 zero_t63 ?_
    intro W3 g3 hg3 hx3; have Hb33 := zD hx3.blk; have db3 := Nat.le_trans HB2.out.size hg3; have HR3 := zN hx3 hg3 HR2; have nb3R := newer hg3 HR2.out; have HV3 := zN hx3 hg3 HV2; have nb3V := newer hg3 HV2.out; have HX3 := zN hx3 hg3 HX2; have nb3X := newer hg3 HX2.out; have HB3 := zD (It.nx HSJ.out HW0.out HB2.out hx3 db3); clear HR2 HV2 HX2 HB2 hg3 hx3; refine hK.out _ _ (⟨HR3.out, HV3.out⟩) (fun hHeld => ?_); clear hK K; try simp only [Act.put, zX, zY, zZ]
    refine zy [11] ?_; refine zg none rfl (fun K hK => ?_) ?_
    ·refine zP 63 5 23 rfl Hb33 ?_
     intro W4 hx4; have Hb34 := zD hx4.blk; have HR4 := zH hx4 nb3R.symm HR3; have HV4 := zH hx4 nb3V.symm HV3; have HX4 := zH hx4 nb3X.symm HX3; have HB4 := zD (It.nx HSJ.out HW0.out HB3.out hx4 db3); clear hx4 HR3 HV3 HX3 HB3 Hb33; refine hK.out _ _ (⟨HR4.out, HV4.out⟩) (fun hHeld => ?_); clear hK K; try simp only [Act.put, zX, zY, zZ]
     refine wpAnyH_done (by kernel_rfl) ?_ _; refine NoPanic.normal ?_; go_wp2_with fail; go_meet
     case rel => exact ⟨_, _, rfl, db3, nb3R, nb3V, nb3X, ⟨HR4.out, HV4.out, HX4.out, Hb34.out⟩, HB4.out⟩
    exact zh
   exact zh
  refine zg (some 5) rfl (fun K hK => ?_) ?_
  ·refine zQ 63 zero_t63 ?_
   intro W2 g2 hg2 hx2; have Hb22 := zD hx2.blk; have db2 := Nat.le_trans HB0d.out.size hg2; have HR2 := zN hx2 hg2 HRDd; have nb2R := newer hg2 HRDd.out; have HV2 := zN hx2 hg2 HVDd; have nb2V := newer hg2 HVDd.out; have HX2 := zN hx2 hg2 HXDd; have nb2X := newer hg2 HXDd.out; have HB2 := zD (It.nx HSJ.out HW0.out HB0d.out hx2 db2); clear HRDd HVDd HXDd HB0d hg2 hx2; refine hK.out _ _ (⟨HR2.out, HV2.out⟩) (fun hHeld => ?_); clear hK K; try simp only [Act.put, zX, zY, zZ]
   refine zy [7] ?_; refine zg (some 21) rfl (fun K hK => ?_) ?_
   ·go_simp
    refine (HKY.out _ _).mono ?_; rintro e w3 ⟨rfl, hb⟩; generalize keyA id at_ _ = ky at *; have HR3 := zB hb HR2; clear HR2; have HV3 := zB hb HV2; clear HV2; have HX3 := zB hb HX2; clear HX2; have Hb23 := zB hb Hb22; clear Hb22; have HB3 := zD (It.call HSJ.out HB2.out hb); clear HB2 hb; refine hK.out _ _ (⟨HR3.out, HV3.out⟩) (fun hHeld => ?_); clear hK K; try simp only [Act.put, zX, zY, zZ]
    refine zI 9 23 rfl (fun wS hS => run_build_op 63 #[(0, .const (.int .u8 2)), (4, .tmp 21), (9, .tmp 22)] (by rfl) #[(0, .int .u8 2), (4, sT ky), (9, sT v)] (by kernel_rfl) #[.int .u8 2, iV 0, iV 0, .int .u64 0, sT ky, .int .u64 0, eS, eS, iV 0, sT v] (by kernel_rfl)) ?_; refine zy [11] ?_; refine zg none rfl (fun K hK => ?_) ?_
    ·refine zP 63 5 23 rfl Hb23 ?_
     intro W4 hx4; have Hb24 := zD hx4.blk; have HR4 := zH hx4 nb2R.symm HR3; have HV4 := zH hx4 nb2V.symm HV3; have HX4 := zH hx4 nb2X.symm HX3; have HB4 := zD (It.nx HSJ.out HW0.out HB3.out hx4 db2); clear hx4 HR3 HV3 HX3 HB3 Hb23; refine hK.out _ _ (⟨HR4.out, HV4.out⟩) (fun hHeld => ?_); clear hK K; try simp only [Act.put, zX, zY, zZ]
     refine wpAnyH_done (by kernel_rfl) ?_ _; refine NoPanic.normal ?_; go_wp2_with fail; go_meet
     case rel => exact ⟨_, _, rfl, db2, nb2R, nb2V, nb2X, ⟨HR4.out, HV4.out, HX4.out, Hb24.out⟩, HB4.out⟩
    exact zh
   exact zh
  exact zh
 case rest =>
  obtain ⟨bl, ky, rfl, dL, nLR, nLV, nLX, ⟨hr, hv, hx, hl⟩, hit⟩ := hcut; have HRa := zD (show wc.heap[br]? = some (.cells #[sT id, sT sg, sT arg, iV at_, .int .u8 (ph : Nat), iV tr, .bool st, iV wh, sT vl] 53 (0, 0)) from hr); have HVa := zD hv; have HXa := zD hx; have HLa := zD hl; have HIa := zD hit; clear hr hv hx hl hit; clear HRD HVD HXD HB0; go_upto_block 0 with (fail); go_cut [5] (fun vL wd => ∃ c0 : Int, vL = .pointer (some ⟨bl, 0, none⟩) ∧ Rd br bv bx ⟨id, sg, arg, at_, ph, tr, st, wh, vl⟩ v (sW s ra sa ga la ma lb mb rv sv gv lc mc le me pf pc pn pd ps pm kp nn th nw da db L R M N) bl #[.int .u8 2, iV 0, iV 0, .int .u64 0, sT ky, .int .u64 0, eS, eS, iV c0, sT v] wd ∧ It w0 W J wd)
  case first =>
   go_wp2_with fail; go_loopw [24] (fun p wr => ∃ (k : Nat) (c0 : Int), k ≤ 1000 ∧ p = iV k ∧ Rd br bv bx ⟨id, sg, arg, at_, ph, tr, st, wh, vl⟩ v (sW s ra sa ga la ma lb mb rv sv gv lc mc le me pf pc pn pd ps pm kp nn th nw da db L R M N) bl #[.int .u8 2, iV 0, iV 0, .int .u64 0, sT ky, .int .u64 0, eS, eS, iV c0, sT v] wr ∧ It w0 W J wr) (fun p _ => 1000 - (intOf p).toNat)
   case atStart => exact ⟨0, 0, by omega, rfl, ⟨HRa.out, HVa.out, HXa.out, HLa.out⟩, HIa.out⟩
   case round =>
    obtain ⟨k, c0, hk, rfl, ⟨hr, hv, hx, hl⟩, hit⟩ := hrel; have HRb := zD (show wr.heap[br]? = some (.cells #[sT id, sT sg, sT arg, iV at_, .int .u8 (ph : Nat), iV tr, .bool st, iV wh, sT vl] 53 (0, 0)) from hr); have HVb := zD hv; have HXb := zD hx; have HLb := zD hl; have HIb := zD hit; clear hr hv hx hl hit; by_cases hlt : k < 1000
    case neg =>
     have dk : decide (((k : Nat) : Int) < 1000) = false := by simp; omega
     go_wp2_with fail; go_meet
     case rel => exact ⟨_, rfl, ⟨HRb.out, HVb.out, HXb.out, HLb.out⟩, HIb.out⟩
    have dk : decide (((k : Nat) : Int) < 1000) = true := by simp; omega
    go_upto_region 4 with (first | (refine zC 3 27 (.tmp 26) 8 (iV (k : Nat)) HLb ?_; intro W21 hx21; have HL21 := zD hx21.blk; have HR21 := zH hx21 nLR.symm HRb; have HV21 := zH hx21 nLV.symm HVb; have HX21 := zH hx21 nLX.symm HXb; have HB21 := zD (It.nx HSJ.out HW0.out HIb.out hx21 dL); clear hx21 HRb HVb HXb HIb HLb)); go_wp2_with (first | (refine zS 26 29 0 (load_t26 HX21.out 0 (sV s ra sa ga rv sv gv) (by rfl) (by kernel_rfl)) ?_) | (refine zS 53 1 0 (load_f53 HR21.out (by rfl)) ?_) | (refine zV 3 32 11 agg_t3 HX21 rfl ?_) | (refine zV 3 35 9 agg_t3 HX21 rfl ?_) | (refine zS 63 5 0 (load_f63 HL21.out (by rfl)) ?_)); refine (HRE.out _ HB21.out.below _ _ _ _ _ _ _ _ _ _ _ _).mono ?_; rintro e w5 ⟨hres, hb⟩; obtain ⟨⟨qid, qsg, qarg, qat, qph, qtr, qst, qwh, qvl⟩, lt, c1, t1, ⟨m0, m1, m2, m3, m5, m8, m4, m6, m7, m9, rfl⟩, rfl, hg⟩ := HRR.out _ hres; clear hres; have HG := zD hg; clear hg; have HR22 := zB hb HR21; clear HR21; have HV22 := zB hb HV21; clear HV21; have HX22 := zB hb HX21; clear HX21; have HL22 := zB hb HL21; clear HL21; have HB22 := zD (It.call HSJ.out HB21.out hb); clear HB21 hb; cases t1 with
    | false =>
     go_wp2_with (first | (refine zA 53 zero_t53 ?_; intro W23 g23 hg23 hx23; have Hb2323 := zD hx23.blk; have db23 := Nat.le_trans HB22.out.size hg23; have HR23 := zN hx23 hg23 HR22; have nb23R := newer hg23 HR22.out; have HV23 := zN hx23 hg23 HV22; have nb23V := newer hg23 HV22.out; have HX23 := zN hx23 hg23 HX22; have nb23X := newer hg23 HX22.out; have HL23 := zN hx23 hg23 HL22; have nb23L := newer hg23 HL22.out; have HB23 := zD (It.nx HSJ.out HW0.out HB22.out hx23 db23); clear HR22 HV22 HX22 HL22 HB22 hg23 hx23) | (refine zA 63 zero_t63 ?_; intro W24 g24 hg24 hx24; have Hb2424 := zD hx24.blk; have db24 := Nat.le_trans HB23.out.size hg24; have HR24 := zN hx24 hg24 HR23; have nb24R := newer hg24 HR23.out; have HV24 := zN hx24 hg24 HV23; have nb24V := newer hg24 HV23.out; have HX24 := zN hx24 hg24 HX23; have nb24X := newer hg24 HX23.out; have HL24 := zN hx24 hg24 HL23; have nb24L := newer hg24 HL23.out; have Hb2324 := zN hx24 hg24 Hb2323; have nb24b23 := newer hg24 Hb2323.out; have HB24 := zD (It.nx HSJ.out HW0.out HB23.out hx24 db24); clear HR23 HV23 HX23 HL23 Hb2323 HB23 hg24 hx24) | (refine zW 53 6 39 rfl Hb2324 ?_; intro W25 hx25; have Hb2325 := zD hx25.blk; have HR25 := zH hx25 nb23R.symm HR24; have HV25 := zH hx25 nb23V.symm HV24; have HX25 := zH hx25 nb23X.symm HX24; have HL25 := zH hx25 nb23L.symm HL24; have Hb2425 := zH hx25 nb24b23 Hb2424; have HB25 := zD (It.nx HSJ.out HW0.out HB24.out hx25 db23); clear hx25 HR24 HV24 HX24 HL24 Hb2424 HB24 Hb2324) | (refine zW 63 7 40 rfl Hb2425 ?_; intro W26 hx26; have Hb2426 := zD hx26.blk; have HR26 := zH hx26 nb24R.symm HR25; have HV26 := zH hx26 nb24V.symm HV25; have HX26 := zH hx26 nb24X.symm HX25; have HL26 := zH hx26 nb24L.symm HL25; have Hb2326 := zH hx26 nb24b23.symm Hb2325; have HB26 := zD (It.nx HSJ.out HW0.out HB25.out hx26 db24); clear hx26 HR25 HV25 HX25 HL25 Hb2325 HB25 Hb2425)); go_meet
     case rel => exact ⟨_, rfl, ⟨HR26.out, HV26.out, HX26.out, HL26.out⟩, HB26.out⟩
    | true =>
     go_upto_region 6 with (first | (refine zA 53 zero_t53 ?_; intro W23 g23 hg23 hx23; have Hb2323 := zD hx23.blk; have db23 := Nat.le_trans HB22.out.size hg23; have HR23 := zN hx23 hg23 HR22; have nb23R := newer hg23 HR22.out; have HV23 := zN hx23 hg23 HV22; have nb23V := newer hg23 HV22.out; have HX23 := zN hx23 hg23 HX22; have nb23X := newer hg23 HX22.out; have HL23 := zN hx23 hg23 HL22; have nb23L := newer hg23 HL22.out; have HB23 := zD (It.nx HSJ.out HW0.out HB22.out hx23 db23); clear HR22 HV22 HX22 HL22 HB22 hg23 hx23) | (refine zA 63 zero_t63 ?_; intro W24 g24 hg24 hx24; have Hb2424 := zD hx24.blk; have db24 := Nat.le_trans HB23.out.size hg24; have HR24 := zN hx24 hg24 HR23; have nb24R := newer hg24 HR23.out; have HV24 := zN hx24 hg24 HV23; have nb24V := newer hg24 HV23.out; have HX24 := zN hx24 hg24 HX23; have nb24X := newer hg24 HX23.out; have HL24 := zN hx24 hg24 HL23; have nb24L := newer hg24 HL23.out; have Hb2324 := zN hx24 hg24 Hb2323; have nb24b23 := newer hg24 Hb2323.out; have HB24 := zD (It.nx HSJ.out HW0.out HB23.out hx24 db24); clear HR23 HV23 HX23 HL23 Hb2323 HB23 hg24 hx24) | (refine zW 53 6 39 rfl Hb2324 ?_; intro W25 hx25; have Hb2325 := zD hx25.blk; have HR25 := zH hx25 nb23R.symm HR24; have HV25 := zH hx25 nb23V.symm HV24; have HX25 := zH hx25 nb23X.symm HX24; have HL25 := zH hx25 nb23L.symm HL24; have Hb2425 := zH hx25 nb24b23 Hb2424; have HB25 := zD (It.nx HSJ.out HW0.out HB24.out hx25 db23); clear hx25 HR24 HV24 HX24 HL24 Hb2424 HB24 Hb2324) | (refine zW 63 7 40 rfl Hb2425 ?_; intro W26 hx26; have Hb2426 := zD hx26.blk; have HR26 := zH hx26 nb24R.symm HR25; have HV26 := zH hx26 nb24V.symm HV25; have HX26 := zH hx26 nb24X.symm HX25; have HL26 := zH hx26 nb24L.symm HL25; have Hb2326 := zH hx26 nb24b23.symm Hb2325; have HB26 := zD (It.nx HSJ.out HW0.out HB25.out hx26 db24); clear hx26 HR25 HV25 HX25 HL25 Hb2325 HB25 Hb2425)); obtain ⟨fn, tmps, assign, body, hy, hR⟩ := HY.out ⟨qid, qsg, qarg, qat, qph, qtr, qst, qwh, qvl⟩ _ HB26.out.j (HG.out (by simp)); have HYR := zD hR; clear hR HG; unfold runC at hy; dsimp only at hy; have y0 := zF Hb2326 0 rfl; have y1 := zF Hb2326 1 rfl; have y2 := zF Hb2326 2 rfl; have y3 := zF Hb2326 3 rfl; have y4 := zF Hb2326 4 rfl; have y5 := zF Hb2326 5 rfl; have y6 := zF Hb2326 6 rfl; have y7 := zF Hb2326 7 rfl; have y8 := zF Hb2326 8 rfl; refine (wpIn_wide (n := n)).1 ?_; gi_wp2_with fail; refine HYR.out.mono ?_; rintro e w6 (⟨rfl, hj, hkp⟩ | ⟨rfl, hjx⟩)
     ·clear y0 y1 y2 y3 y4 y5 y6 y7 y8 HYR hy
      have HR27 := zD (hkp.2.1 _ _ _ HR26.out); clear HR26; have HV27 := zD (hkp.2.1 _ _ _ HV26.out); clear HV26; have HX27 := zD (hkp.2.1 _ _ _ HX26.out); clear HX26; have HL27 := zD (hkp.2.1 _ _ _ HL26.out); clear HL26; have Hb2327 := zD (hkp.2.1 _ _ _ Hb2326.out); clear Hb2326; have Hb2427 := zD (hkp.2.1 _ _ _ Hb2426.out); clear Hb2426; have HB27 := zD (It.round HB26.out hj hkp); clear HB26 hkp hj; gi_wp2_with fail; go_wp2_with fail; go_roundw
      case rel => exact ⟨k + 1, _, by omega, by go_num, ⟨HR27.out, HV27.out, HX27.out, HL27.out⟩, HB27.out⟩
      case measure => simp [intOf]; omega
     ·have HJX := zD hjx
      clear hjx HYR hy; gi_wp2_with fail; go_wp2_with fail; refine bodyPost_ret (results_none rfl _ _ _) rfl ?_; exact ⟨⟨_, rfl⟩, .inr HJX.out⟩
  case rest =>
   obtain ⟨c0, rfl, ⟨hr, hv, hx, hl⟩, hit⟩ := hcut; have HRc := zD (show wc.heap[br]? = some (.cells #[sT id, sT sg, sT arg, iV at_, .int .u8 (ph : Nat), iV tr, .bool st, iV wh, sT vl] 53 (0, 0)) from hr); have HVc := zD hv; have HXc := zD hx; have HLc := zD hl; have HIc := zD hit; clear hr hv hx hl hit; clear HRa HVa HXa HLa HIa; go_wp2_with (first | (refine zV 9 50 0 agg_t9 HRc rfl ?_) | (refine zV 3 52 3 agg_t3 HRc rfl ?_)); refine (HKY.out _ _).mono ?_; rintro e w7 ⟨rfl, hb⟩; generalize keyA id at_ _ = kz at *; have HR21 := zB hb HRc; clear HRc; have HV21 := zB hb HVc; clear HVc; have HX21 := zB hb HXc; clear HXc; have HL21 := zB hb HLc; clear HLc; have HB21 := zD (It.call HSJ.out HIc.out hb); clear HIc hb; go_upto_block 2 with (first | (refine wpList_buildS 63 #[(0, (.const (.int .u8 4))), (4, (.tmp 54))] (by rfl) (by rfl) #[(0, .int .u8 4), (4, sT kz)] (by kernel_rfl) #[.int .u8 4, iV 0, iV 0, .int .u64 0, sT kz, .int .u64 0, eS, eS, iV 0, eS] (by kernel_rfl) ?_) | (refine zW 63 5 55 rfl HL21 ?_; intro W22 hx22; have HL22 := zD hx22.blk; have HR22 := zH hx22 nLR.symm HR21; have HV22 := zH hx22 nLV.symm HV21; have HX22 := zH hx22 nLX.symm HX21; have HB22 := zD (It.nx HSJ.out HW0.out HB21.out hx22 dL); clear hx22 HR21 HV21 HX21 HB21 HL21) | (refine wpList_buildS 183 #[(0, (.const (iV 0))), (1, (.const (iV 202)))] (by rfl) (by rfl) #[(0, iV 0), (1, iV 202)] (by kernel_rfl) #[iV 0, iV 202] (by kernel_rfl) ?_)); go_wp2_with fail; go_loopw [57] (fun p wr => ∃ (k : Nat) (c0 : Int), k ≤ 2 ∧ p = iV k ∧ Rd br bv bx ⟨id, sg, arg, at_, ph, tr, st, wh, vl⟩ v (sW s ra sa ga la ma lb mb rv sv gv lc mc le me pf pc pn pd ps pm kp nn th nw da db L R M N) bl #[.int .u8 4, iV 0, iV 0, .int .u64 0, sT kz, .int .u64 0, eS, eS, iV c0, eS] wr ∧ It w0 W J wr) (fun p _ => 2 - (intOf p).toNat)
   case atStart => exact ⟨0, 0, by omega, rfl, ⟨HR22.out, HV22.out, HX22.out, HL22.out⟩, HB22.out⟩
   case round =>
    obtain ⟨k, c0, hk, rfl, ⟨hr, hv, hx, hl⟩, hit⟩ := hrel; have HRe := zD (show wr.heap[br]? = some (.cells #[sT id, sT sg, sT arg, iV at_, .int .u8 (ph : Nat), iV tr, .bool st, iV wh, sT vl] 53 (0, 0)) from hr); have HVe := zD hv; have HXe := zD hx; have HLe := zD hl; have HIe := zD hit; clear hr hv hx hl hit; by_cases hlt : k < 2
    case neg =>
     have dk : decide (((k : Nat) : Int) < 2) = false := by simp; omega
     go_wp2_with fail; refine bodyPost_end (results_none rfl _ _ _) rfl ?_; exact ⟨⟨_, rfl⟩, .inl HIe.out.j⟩
    have dk : decide (((k : Nat) : Int) < 2) = true := by simp; omega
    obtain rfl | rfl : k = 0 ∨ k = 1 := by omega
    ·have hix := idx183_0
     go_upto_region 12 with (first | (refine wpList_cellI 3 (.tmp 60) (.tmp 59) (by rfl) (by rfl) _ 8 #[.int .u8 4, iV 0, iV 0, .int .u64 0, sT kz, .int .u64 0, eS, eS, iV c0, eS] (by rfl) ⟨_, by rfl⟩ HLe.out (by simp) (by kernel_rfl) ?_; intro i21 W21 hx21; have HL21 := zD (show W21.heap[bl]? = some (.cells #[.int .u8 4, iV 0, iV 0, .int .u64 0, sT kz, .int .u64 0, eS, eS, iV i21, eS] 63 (0, 0)) from hx21.blk); have HR21 := zH hx21 nLR.symm HRe; have HV21 := zH hx21 nLV.symm HVe; have HX21 := zH hx21 nLX.symm HXe; have HB21 := zD (It.nx HSJ.out HW0.out HIe.out hx21 dL); clear hx21 HRe HVe HXe HIe HLe)); go_wp2_with (first | (refine zS 26 62 0 (load_t26 HX21.out 0 (sV s ra sa ga rv sv gv) (by rfl) (by kernel_rfl)) ?_) | (refine zS 53 1 0 (load_f53 HR21.out (by rfl)) ?_) | (refine zV 3 65 11 agg_t3 HX21 rfl ?_) | (refine zS 63 5 0 (load_f63 HL21.out (by rfl)) ?_)); refine (HSE.out _ HB21.out.below _ _ _ _ _ _ _ _ _ _ _).mono ?_; rintro e w5 ⟨hres, hb⟩; obtain ⟨⟨qid, qsg, qarg, qat, qph, qtr, qst, qwh, qvl⟩, lt, c1, t1, ⟨m0, m1, m2, m3, m5, m8, m4, m6, m7, m9, rfl⟩, rfl, hg⟩ := HRR.out _ hres; clear hres; have HG := zD hg; clear hg; have HR22 := zB hb HR21; clear HR21; have HV22 := zB hb HV21; clear HV21; have HX22 := zB hb HX21; clear HX21; have HL22 := zB hb HL21; clear HL21; have HB22 := zD (It.call HSJ.out HB21.out hb); clear HB21 hb; cases t1 with
     | false =>
      go_wp2_with (first | (refine zA 53 zero_t53 ?_; intro W23 g23 hg23 hx23; have Hb2323 := zD hx23.blk; have db23 := Nat.le_trans HB22.out.size hg23; have HR23 := zN hx23 hg23 HR22; have nb23R := newer hg23 HR22.out; have HV23 := zN hx23 hg23 HV22; have nb23V := newer hg23 HV22.out; have HX23 := zN hx23 hg23 HX22; have nb23X := newer hg23 HX22.out; have HL23 := zN hx23 hg23 HL22; have nb23L := newer hg23 HL22.out; have HB23 := zD (It.nx HSJ.out HW0.out HB22.out hx23 db23); clear HR22 HV22 HX22 HL22 HB22 hg23 hx23) | (refine zA 63 zero_t63 ?_; intro W24 g24 hg24 hx24; have Hb2424 := zD hx24.blk; have db24 := Nat.le_trans HB23.out.size hg24; have HR24 := zN hx24 hg24 HR23; have nb24R := newer hg24 HR23.out; have HV24 := zN hx24 hg24 HV23; have nb24V := newer hg24 HV23.out; have HX24 := zN hx24 hg24 HX23; have nb24X := newer hg24 HX23.out; have HL24 := zN hx24 hg24 HL23; have nb24L := newer hg24 HL23.out; have Hb2324 := zN hx24 hg24 Hb2323; have nb24b23 := newer hg24 Hb2323.out; have HB24 := zD (It.nx HSJ.out HW0.out HB23.out hx24 db24); clear HR23 HV23 HX23 HL23 Hb2323 HB23 hg24 hx24) | (refine zW 53 10 69 rfl Hb2324 ?_; intro W25 hx25; have Hb2325 := zD hx25.blk; have HR25 := zH hx25 nb23R.symm HR24; have HV25 := zH hx25 nb23V.symm HV24; have HX25 := zH hx25 nb23X.symm HX24; have HL25 := zH hx25 nb23L.symm HL24; have Hb2425 := zH hx25 nb24b23 Hb2424; have HB25 := zD (It.nx HSJ.out HW0.out HB24.out hx25 db23); clear hx25 HR24 HV24 HX24 HL24 Hb2424 HB24 Hb2324) | (refine zW 63 11 70 rfl Hb2425 ?_; intro W26 hx26; have Hb2426 := zD hx26.blk; have HR26 := zH hx26 nb24R.symm HR25; have HV26 := zH hx26 nb24V.symm HV25; have HX26 := zH hx26 nb24X.symm HX25; have HL26 := zH hx26 nb24L.symm HL25; have Hb2326 := zH hx26 nb24b23.symm Hb2325; have HB26 := zD (It.nx HSJ.out HW0.out HB25.out hx26 db24); clear hx26 HR25 HV25 HX25 HL25 Hb2325 HB25 Hb2425)); refine bodyPost_ret (results_none rfl _ _ _) rfl ?_; exact ⟨⟨_, rfl⟩, .inl HB26.out.j⟩
     | true =>
      go_upto_region 13 with (first | (refine zA 53 zero_t53 ?_; intro W23 g23 hg23 hx23; have Hb2323 := zD hx23.blk; have db23 := Nat.le_trans HB22.out.size hg23; have HR23 := zN hx23 hg23 HR22; have nb23R := newer hg23 HR22.out; have HV23 := zN hx23 hg23 HV22; have nb23V := newer hg23 HV22.out; have HX23 := zN hx23 hg23 HX22; have nb23X := newer hg23 HX22.out; have HL23 := zN hx23 hg23 HL22; have nb23L := newer hg23 HL22.out; have HB23 := zD (It.nx HSJ.out HW0.out HB22.out hx23 db23); clear HR22 HV22 HX22 HL22 HB22 hg23 hx23) | (refine zA 63 zero_t63 ?_; intro W24 g24 hg24 hx24; have Hb2424 := zD hx24.blk; have db24 := Nat.le_trans HB23.out.size hg24; have HR24 := zN hx24 hg24 HR23; have nb24R := newer hg24 HR23.out; have HV24 := zN hx24 hg24 HV23; have nb24V := newer hg24 HV23.out; have HX24 := zN hx24 hg24 HX23; have nb24X := newer hg24 HX23.out; have HL24 := zN hx24 hg24 HL23; have nb24L := newer hg24 HL23.out; have Hb2324 := zN hx24 hg24 Hb2323; have nb24b23 := newer hg24 Hb2323.out; have HB24 := zD (It.nx HSJ.out HW0.out HB23.out hx24 db24); clear HR23 HV23 HX23 HL23 Hb2323 HB23 hg24 hx24) | (refine zW 53 10 69 rfl Hb2324 ?_; intro W25 hx25; have Hb2325 := zD hx25.blk; have HR25 := zH hx25 nb23R.symm HR24; have HV25 := zH hx25 nb23V.symm HV24; have HX25 := zH hx25 nb23X.symm HX24; have HL25 := zH hx25 nb23L.symm HL24; have Hb2425 := zH hx25 nb24b23 Hb2424; have HB25 := zD (It.nx HSJ.out HW0.out HB24.out hx25 db23); clear hx25 HR24 HV24 HX24 HL24 Hb2424 HB24 Hb2324) | (refine zW 63 11 70 rfl Hb2425 ?_; intro W26 hx26; have Hb2426 := zD hx26.blk; have HR26 := zH hx26 nb24R.symm HR25; have HV26 := zH hx26 nb24V.symm HV25; have HX26 := zH hx26 nb24X.symm HX25; have HL26 := zH hx26 nb24L.symm HL25; have Hb2326 := zH hx26 nb24b23.symm Hb2325; have HB26 := zD (It.nx HSJ.out HW0.out HB25.out hx26 db24); clear hx26 HR25 HV25 HX25 HL25 Hb2325 HB25 Hb2425)); obtain ⟨fn, tmps, assign, body, hy, hR⟩ := HY.out ⟨qid, qsg, qarg, qat, qph, qtr, qst, qwh, qvl⟩ _ HB26.out.j (HG.out (by simp)); have HYR := zD hR; clear hR HG; unfold runC at hy; dsimp only at hy; have y0 := zF Hb2326 0 rfl; have y1 := zF Hb2326 1 rfl; have y2 := zF Hb2326 2 rfl; have y3 := zF Hb2326 3 rfl; have y4 := zF Hb2326 4 rfl; have y5 := zF Hb2326 5 rfl; have y6 := zF Hb2326 6 rfl; have y7 := zF Hb2326 7 rfl; have y8 := zF Hb2326 8 rfl; refine (wpIn_wide (n := n)).1 ?_; gi_wp2_with fail; refine HYR.out.mono ?_; rintro e w6 (⟨rfl, hj, hkp⟩ | ⟨rfl, hjx⟩)
      ·clear y0 y1 y2 y3 y4 y5 y6 y7 y8 HYR hy
       have HR27 := zD (hkp.2.1 _ _ _ HR26.out); clear HR26; have HV27 := zD (hkp.2.1 _ _ _ HV26.out); clear HV26; have HX27 := zD (hkp.2.1 _ _ _ HX26.out); clear HX26; have HL27 := zD (hkp.2.1 _ _ _ HL26.out); clear HL26; have Hb2327 := zD (hkp.2.1 _ _ _ Hb2326.out); clear Hb2326; have Hb2427 := zD (hkp.2.1 _ _ _ Hb2426.out); clear Hb2426; have HB27 := zD (It.round HB26.out hj hkp); clear HB26 hkp hj; gi_wp2_with fail; go_wp2_with fail; go_roundw
       case rel => exact ⟨1, _, by omega, by go_num, ⟨HR27.out, HV27.out, HX27.out, HL27.out⟩, HB27.out⟩
       case measure => simp [intOf]
      ·have HJX := zD hjx
       clear hjx HYR hy; gi_wp2_with fail; go_wp2_with fail; refine bodyPost_ret (results_none rfl _ _ _) rfl ?_; exact ⟨⟨_, rfl⟩, .inr HJX.out⟩
    ·have hix := idx183_1
     go_upto_region 12 with (first | (refine wpList_cellI 3 (.tmp 60) (.tmp 59) (by rfl) (by rfl) _ 8 #[.int .u8 4, iV 0, iV 0, .int .u64 0, sT kz, .int .u64 0, eS, eS, iV c0, eS] (by rfl) ⟨_, by rfl⟩ HLe.out (by simp) (by kernel_rfl) ?_; intro i21 W21 hx21; have HL21 := zD (show W21.heap[bl]? = some (.cells #[.int .u8 4, iV 0, iV 0, .int .u64 0, sT kz, .int .u64 0, eS, eS, iV i21, eS] 63 (0, 0)) from hx21.blk); have HR21 := zH hx21 nLR.symm HRe; have HV21 := zH hx21 nLV.symm HVe; have HX21 := zH hx21 nLX.symm HXe; have HB21 := zD (It.nx HSJ.out HW0.out HIe.out hx21 dL); clear hx21 HRe HVe HXe HIe HLe)); go_wp2_with (first | (refine zS 26 62 0 (load_t26 HX21.out 0 (sV s ra sa ga rv sv gv) (by rfl) (by kernel_rfl)) ?_) | (refine zS 53 1 0 (load_f53 HR21.out (by rfl)) ?_) | (refine zV 3 65 11 agg_t3 HX21 rfl ?_) | (refine zS 63 5 0 (load_f63 HL21.out (by rfl)) ?_)); refine (HSE.out _ HB21.out.below _ _ _ _ _ _ _ _ _ _ _).mono ?_; rintro e w5 ⟨hres, hb⟩; obtain ⟨⟨qid, qsg, qarg, qat, qph, qtr, qst, qwh, qvl⟩, lt, c1, t1, ⟨m0, m1, m2, m3, m5, m8, m4, m6, m7, m9, rfl⟩, rfl, hg⟩ := HRR.out _ hres; clear hres; have HG := zD hg; clear hg; have HR22 := zB hb HR21; clear HR21; have HV22 := zB hb HV21; clear HV21; have HX22 := zB hb HX21; clear HX21; have HL22 := zB hb HL21; clear HL21; have HB22 := zD (It.call HSJ.out HB21.out hb); clear HB21 hb; cases t1 with
     | false =>
      go_wp2_with (first | (refine zA 53 zero_t53 ?_; intro W23 g23 hg23 hx23; have Hb2323 := zD hx23.blk; have db23 := Nat.le_trans HB22.out.size hg23; have HR23 := zN hx23 hg23 HR22; have nb23R := newer hg23 HR22.out; have HV23 := zN hx23 hg23 HV22; have nb23V := newer hg23 HV22.out; have HX23 := zN hx23 hg23 HX22; have nb23X := newer hg23 HX22.out; have HL23 := zN hx23 hg23 HL22; have nb23L := newer hg23 HL22.out; have HB23 := zD (It.nx HSJ.out HW0.out HB22.out hx23 db23); clear HR22 HV22 HX22 HL22 HB22 hg23 hx23) | (refine zA 63 zero_t63 ?_; intro W24 g24 hg24 hx24; have Hb2424 := zD hx24.blk; have db24 := Nat.le_trans HB23.out.size hg24; have HR24 := zN hx24 hg24 HR23; have nb24R := newer hg24 HR23.out; have HV24 := zN hx24 hg24 HV23; have nb24V := newer hg24 HV23.out; have HX24 := zN hx24 hg24 HX23; have nb24X := newer hg24 HX23.out; have HL24 := zN hx24 hg24 HL23; have nb24L := newer hg24 HL23.out; have Hb2324 := zN hx24 hg24 Hb2323; have nb24b23 := newer hg24 Hb2323.out; have HB24 := zD (It.nx HSJ.out HW0.out HB23.out hx24 db24); clear HR23 HV23 HX23 HL23 Hb2323 HB23 hg24 hx24) | (refine zW 53 10 69 rfl Hb2324 ?_; intro W25 hx25; have Hb2325 := zD hx25.blk; have HR25 := zH hx25 nb23R.symm HR24; have HV25 := zH hx25 nb23V.symm HV24; have HX25 := zH hx25 nb23X.symm HX24; have HL25 := zH hx25 nb23L.symm HL24; have Hb2425 := zH hx25 nb24b23 Hb2424; have HB25 := zD (It.nx HSJ.out HW0.out HB24.out hx25 db23); clear hx25 HR24 HV24 HX24 HL24 Hb2424 HB24 Hb2324) | (refine zW 63 11 70 rfl Hb2425 ?_; intro W26 hx26; have Hb2426 := zD hx26.blk; have HR26 := zH hx26 nb24R.symm HR25; have HV26 := zH hx26 nb24V.symm HV25; have HX26 := zH hx26 nb24X.symm HX25; have HL26 := zH hx26 nb24L.symm HL25; have Hb2326 := zH hx26 nb24b23.symm Hb2325; have HB26 := zD (It.nx HSJ.out HW0.out HB25.out hx26 db24); clear hx26 HR25 HV25 HX25 HL25 Hb2325 HB25 Hb2425)); refine bodyPost_ret (results_none rfl _ _ _) rfl ?_; exact ⟨⟨_, rfl⟩, .inl HB26.out.j⟩
     | true =>
      go_upto_region 13 with (first | (refine zA 53 zero_t53 ?_; intro W23 g23 hg23 hx23; have Hb2323 := zD hx23.blk; have db23 := Nat.le_trans HB22.out.size hg23; have HR23 := zN hx23 hg23 HR22; have nb23R := newer hg23 HR22.out; have HV23 := zN hx23 hg23 HV22; have nb23V := newer hg23 HV22.out; have HX23 := zN hx23 hg23 HX22; have nb23X := newer hg23 HX22.out; have HL23 := zN hx23 hg23 HL22; have nb23L := newer hg23 HL22.out; have HB23 := zD (It.nx HSJ.out HW0.out HB22.out hx23 db23); clear HR22 HV22 HX22 HL22 HB22 hg23 hx23) | (refine zA 63 zero_t63 ?_; intro W24 g24 hg24 hx24; have Hb2424 := zD hx24.blk; have db24 := Nat.le_trans HB23.out.size hg24; have HR24 := zN hx24 hg24 HR23; have nb24R := newer hg24 HR23.out; have HV24 := zN hx24 hg24 HV23; have nb24V := newer hg24 HV23.out; have HX24 := zN hx24 hg24 HX23; have nb24X := newer hg24 HX23.out; have HL24 := zN hx24 hg24 HL23; have nb24L := newer hg24 HL23.out; have Hb2324 := zN hx24 hg24 Hb2323; have nb24b23 := newer hg24 Hb2323.out; have HB24 := zD (It.nx HSJ.out HW0.out HB23.out hx24 db24); clear HR23 HV23 HX23 HL23 Hb2323 HB23 hg24 hx24) | (refine zW 53 10 69 rfl Hb2324 ?_; intro W25 hx25; have Hb2325 := zD hx25.blk; have HR25 := zH hx25 nb23R.symm HR24; have HV25 := zH hx25 nb23V.symm HV24; have HX25 := zH hx25 nb23X.symm HX24; have HL25 := zH hx25 nb23L.symm HL24; have Hb2425 := zH hx25 nb24b23 Hb2424; have HB25 := zD (It.nx HSJ.out HW0.out HB24.out hx25 db23); clear hx25 HR24 HV24 HX24 HL24 Hb2424 HB24 Hb2324) | (refine zW 63 11 70 rfl Hb2425 ?_; intro W26 hx26; have Hb2426 := zD hx26.blk; have HR26 := zH hx26 nb24R.symm HR25; have HV26 := zH hx26 nb24V.symm HV25; have HX26 := zH hx26 nb24X.symm HX25; have HL26 := zH hx26 nb24L.symm HL25; have Hb2326 := zH hx26 nb24b23.symm Hb2325; have HB26 := zD (It.nx HSJ.out HW0.out HB25.out hx26 db24); clear hx26 HR25 HV25 HX25 HL25 Hb2325 HB25 Hb2425)); obtain ⟨fn, tmps, assign, body, hy, hR⟩ := HY.out ⟨qid, qsg, qarg, qat, qph, qtr, qst, qwh, qvl⟩ _ HB26.out.j (HG.out (by simp)); have HYR := zD hR; clear hR HG; unfold runC at hy; dsimp only at hy; have y0 := zF Hb2326 0 rfl; have y1 := zF Hb2326 1 rfl; have y2 := zF Hb2326 2 rfl; have y3 := zF Hb2326 3 rfl; have y4 := zF Hb2326 4 rfl; have y5 := zF Hb2326 5 rfl; have y6 := zF Hb2326 6 rfl; have y7 := zF Hb2326 7 rfl; have y8 := zF Hb2326 8 rfl; refine (wpIn_wide (n := n)).1 ?_; gi_wp2_with fail; refine HYR.out.mono ?_; rintro e w6 (⟨rfl, hj, hkp⟩ | ⟨rfl, hjx⟩)
      ·clear y0 y1 y2 y3 y4 y5 y6 y7 y8 HYR hy
       have HR27 := zD (hkp.2.1 _ _ _ HR26.out); clear HR26; have HV27 := zD (hkp.2.1 _ _ _ HV26.out); clear HV26; have HX27 := zD (hkp.2.1 _ _ _ HX26.out); clear HX26; have HL27 := zD (hkp.2.1 _ _ _ HL26.out); clear HL26; have Hb2327 := zD (hkp.2.1 _ _ _ Hb2326.out); clear Hb2326; have Hb2427 := zD (hkp.2.1 _ _ _ Hb2426.out); clear Hb2426; have HB27 := zD (It.round HB26.out hj hkp); clear HB26 hkp hj; gi_wp2_with fail; go_wp2_with fail; go_roundw
       case rel => exact ⟨2, _, by omega, by go_num, ⟨HR27.out, HV27.out, HX27.out, HL27.out⟩, HB27.out⟩
       case measure => simp [intOf]
      ·have HJX := zD hjx
       clear hjx HYR hy; gi_wp2_with fail; go_wp2_with fail; refine bodyPost_ret (results_none rfl _ _ _) rfl ?_; exact ⟨⟨_, rfl⟩, .inr HJX.out⟩
end Go.Proofs.YtgoejmheihgpfaaGreatDoor
