/-
  package mem: From(""), and its iterator within a range over a function.
-/
import Derived.Test.YtcohbfabcdjefaaGreatDoorEr
import Derived.RangeFuncBox
import Derived.RangeFuncLeaves
import Derived.RangeFuncNested
import Derived.Shelf.Abstract
import Derived.OwnWalkIn
import Derived.TacticsInMore
import Derived.LoopNIn
import Derived.LoopIn
namespace Go.Proofs.YtcohbfabcdjefaaGreatDoor
open Go.RowKit Go.Maps Go.Shelf

theorem split_empty (M : List It) : Split M ⟨#[]⟩ 0 := ⟨Nat.zero_le _, fun _ _ h => by omega, fun t h _ => by
  show 0 ≤ Lib.compareBytes (bl M[t].key) []
  cases bl M[t].key with
  | nil => decide
  | cons x r => show (0 : Int) ≤ 1; decide⟩
theorem RdI.but {w w' : World} {v u : Value} {M : List It} {mb : Nat} {lent : Bool} (h : RdI w v M) (hm : MemAt w mb u lent) (hu : ∃ a n c, u = .slice a n c) (hb : But [mb] w w') : RdI w' v M := by
  obtain ⟨a, c, rfl, h1, h2, h3⟩ := h
  refine ⟨a, c, rfl, h1, h2, fun hl => ?_⟩
  obtain ⟨b, rfl, hlt, hc⟩ := h3 hl
  have hne : b ≠ mb := by
    rintro rfl
    have e1 := (hc 0 hl).c0
    have e2 := hm.c0
    rw [Nat.zero_mul] at e1
    obtain ⟨_, _, _, rfl⟩ := hu
    rw [e1] at e2; cases e2
  exact ⟨b, rfl, Nat.lt_of_lt_of_le hlt hb.size, fun i hi => (hc i hi).block (hb.block b hlt (by simpa using hne))⟩
set_option maxRecDepth 100000 in
set_option maxHeartbeats 1000000 in
/-- the table is lent from now on; what is handed back goes over all of it -/
theorem from_any (w : World) (B mb : Nat) (v : Value) (lent : Bool) (M : List It) (hm : MemAt w mb v lent) (h : RdI w v M) (hbig : M.length ≤ 1000000) (hB : B ≤ mb) (hBw : B ≤ w.heap.size) :
    Calls Tryz.prog 46 #[.pointer (some ⟨mb, 0, none⟩), .string ⟨#[]⟩] w fun e w' => ∃ Bn, e = .returned (.func (.func 94) #[] #[.pointer (some ⟨Bn, 0, none⟩)]) ∧ Boxed w' Bn 142 v ∧ RdI w' v M ∧ But [mb] w w' ∧ w.heap.size ≤ Bn := by
  have HF := Lib.hid (find_any w mb v lent M ⟨#[]⟩ 0 hm h (split_empty M) hbig)
  have HM := Lib.hid hm
  have HH := Lib.hid h
  have hml := hm.lt
  obtain ⟨a, c, rfl, h1, h2, h3⟩ := h.ex
  have H3 := Lib.hid h3
  unfold maxLen at h2
  have hshape : M.length = 0 ∨ ∃ b, a = some ⟨b, 0, none⟩ ∧ b < w.heap.size := by
    rcases Nat.eq_zero_or_pos M.length with h0 | h0
    · exact .inl h0
    · obtain ⟨b, e, hb, _⟩ := h3 h0; exact .inr ⟨b, e, hb⟩
  clear hm h h3
  go_enter Tryz.func46, Tryz.ntmps46
  go_wp2_with fail
  refine HF.out.mono ?_
  rintro e w1 ⟨rfl, hb1⟩
  have hm1 : MemAt w1 mb (.slice a M.length c) lent := ⟨(hb1.block mb hml).trans HM.out.blk⟩
  have HM1 := Lib.hid hm1
  have HB1 := Lib.hid hb1
  have HR1 := Lib.hid (HH.out.below hb1)
  have p0 := hm1.c0
  have p1 := hm1.c1
  have hml1 := hm1.lt
  have z1 : w1.frozen? ⟨mb, 1, none⟩ = false := by simp [World.frozen?, hm1.blk]
  clear hb1 hm1 HF
  go_wp2_with fail
  go_ret
  have hb2 : But [mb] w1 ((w1.setCell ⟨mb, 1, none⟩ (.bool true)).alloc (.cells #[.slice a M.length c] 142)) := ((But.refl [mb] w1).setCell (.inl (by simp)) _).alloc _
  refine ⟨w1.heap.size, rfl, ?_, HR1.out.but HM1.out ⟨_, _, _, rfl⟩ hb2, (But.of_below HB1.out).trans hb2, HB1.out.size⟩
  have := Boxed.new (w1.setCell ⟨mb, 1, none⟩ (.bool true)) 142 (.slice a M.length c)
  simpa using this
/-- the row of the items is kept -/
def RowKept (v : Value) (A B : World) : Prop := ∀ k, v.ownBlock = some k → ∀ o, A.heap[k]? = some o → B.heap[k]? = some o
set_option maxRecDepth 100000 in
set_option maxHeartbeats 1000000 in
theorem from1_in (n : Nat) (hn : 1 ≤ n) (l Bn : Nat) (v : Value) (M : List It) (hbig : M.length ≤ 1000000) (J Jx : List It → World → Prop)
    (hY : ∀ pre x W, J pre W → pre.length < M.length → YieldAt Fence.wide (n - 1) Tryz.prog l #[.string x.key, entv x] W fun e W' =>
      (e = .returned (.bool true) ∧ J (pre ++ [x]) W' ∧ RowKept v W W') ∨ (e = .returned (.bool false) ∧ Jx (pre ++ [x]) W'))
    (hJb : ∀ pre W W', J pre W → Below W.heap.size W W' → J pre W')
    (W : World) (hBn : W.cell? ⟨Bn, 0, none⟩ = some v) (hr : RdI W v M) (h0 : J [] W) :
    CallsIn Fence.wide n Tryz.prog 94 #[.func (.yield l) #[] #[], .pointer (some ⟨Bn, 0, none⟩)] W fun e W' => (∃ v, e = .returned v) ∧
      ((∃ ys, ys = M ∧ J ys W') ∨ (∃ pre, pre <+: M ∧ Jx pre W')) := by
  obtain ⟨a, c, rfl, h1, h2, h3⟩ := hr
  unfold maxLen at h2
  have H3 := Lib.hid h3
  clear h3
  refine callsIn_of_wp Tryz.func94 rfl trivial ?_ rfl
  simp only [Tryz.ntmps94, List.size_toArray, List.length_cons, List.length_nil, Nat.reduceAdd, Nat.reduceSub, Array.replicate_succ, Array.replicate_zero, List.push_toArray, List.append_toArray, List.nil_append, List.cons_append]
  gi_wp2
  gi_loopw [7] (fun p wr => ∃ k : Nat, k ≤ M.length ∧ p = .int .i64 k ∧ Hid (J (M.take k) wr) ∧ Hid (∀ kb, a = some ⟨kb, 0, none⟩ → ∀ o, W.heap[kb]? = some o → wr.heap[kb]? = some o))
    (fun p _ => M.length - (intOf p).toNat)
  case atStart =>
    exact ⟨0, Nat.zero_le _, rfl, h0, fun _ _ _ h => h⟩
  case round =>
    obtain ⟨k, hk, rfl, HJ, HK⟩ := hrel
    by_cases hlt2 : k < M.length
    · obtain ⟨b, rfl, hb, hrow⟩ := H3.out (by omega)
      have f := (hrow k hlt2).block (show wr.heap[b]? = W.heap[b]? by
        have e : W.heap[b]? = some W.heap[b] := Array.getElem?_eq_getElem hb
        rw [e]; exact HK.out b rfl _ e)
      have HP := Lib.hid (List.take_succ_eq_append_getElem hlt2)
      generalize M[k] = x at *
      have p0 := f.c0
      have p1 := f.c1
      have p2 := f.c2
      have p3 := f.c3
      clear f hrow
      obtain ⟨fn, tmps, assign, body, hy, hR⟩ := hY (M.take k) x (wr.alloc (.cells #[.string x.key, .string x.key, .string x.val, .bool x.gone] 176 (0, 0))) (hJb _ _ _ HJ.out (bl1 wr _)) (by rw [List.length_take]; omega)
      unfold entv at hy
      have HR := Lib.hid hR
      have hbw : b < wr.heap.size := by
        have e : W.heap[b]? = some W.heap[b] := Array.getElem?_eq_getElem hb
        exact heap_lt (HK.out b rfl _ e)
      clear hR hY hJb
      gi_wp2_with fail
      refine HR.out.mono ?_
      rintro e W3 (⟨rfl, hJ3, hk3⟩ | ⟨rfl, hJx3⟩)
      · have HJ3 := Lib.hid hJ3
        have HK3 := Lib.hid (show ∀ kb, some (⟨b, 0, none⟩ : Addr) = some ⟨kb, 0, none⟩ → ∀ o, W.heap[kb]? = some o → W3.heap[kb]? = some o from fun kb e o ho => by
          have e2 : b = kb := by injection e with e; injection e
          subst e2
          exact hk3 b rfl o ((heap_alloc_old wr _ hbw).trans (HK.out b rfl o ho)))
        clear hJ3 hk3
        gi_wp2_with fail
        go_roundw
        case rel => exact ⟨k + 1, by omega, by go_num, by rw [HP.out]; exact HJ3, HK3⟩
        case measure => simp [intOf]; omega
      · have HX := Lib.hid hJx3
        clear hJx3
        gi_wp2_with fail
        refine bodyPost_ret (results_none rfl _ _ _) rfl ?_
        exact ⟨⟨_, rfl⟩, .inr ⟨M.take k ++ [x], by rw [← HP.out]; exact List.take_prefix _ _, HX.out⟩⟩
    · have hkl : k = M.length := by omega
      subst hkl
      have HT := Lib.hid (show M.take M.length = M from List.take_of_length_le (Nat.le_refl _))
      clear hY hJb
      gi_wp2_with fail
      go_end0
      exact ⟨⟨_, rfl⟩, .inl ⟨M, rfl, by have := HJ.out; rwa [HT.out] at this⟩⟩
/-- what 'From' hands back, as the kit's law on a range over a function asks it -/
theorem from_stops (n : Nat) (hn : 1 ≤ n) (Bn : Nat) (v : Value) (M : List It) (hbig : M.length ≤ 1000000) (w : World) (hc : Boxed w Bn 142 v) (hr : RdI w v M) :
    SeqStopsK Fence.wide n Tryz.prog 94 #[.pointer (some ⟨Bn, 0, none⟩)] (fun x : It => #[Value.string x.key, entv x]) (RowKept v) (fun ys => ys = M) (fun pre => pre <+: M) M.length w := fun l J Jx W hW hJ _ hY h0 =>
  from1_in n hn l Bn v M hbig J Jx hY (fun pre A B hj hb => hJ pre A B none hj ⟨hb.os, hb.tape, hb.output, hb.size, fun k hk _ => hb.block k hk⟩ (fun r e => by cases e)) W ((hW.cell (p := ⟨Bn, 0, none⟩) hc.lt).trans hc.cell) (hr.below hW) h0
theorem rowK_t {v : Value} {A B C : World} (h : RowKept v A B) (k : RowKept v B C) : RowKept v A C := fun x hx o ho => k x hx o (h x hx o ho)
theorem rowK_b {v : Value} {w : World} (hv : ∀ k, v.ownBlock = some k → k < w.heap.size) (W : World) (l : Nat) (o o' : Obj) (hl : w.heap.size ≤ l) (_ : W.heap[l]? = some o) (_ : o.isCells = false) (_ : o.isWalk = false) : RowKept v W (W.putObj l o') := fun x hx ox hox => by
  have := hv x hx
  rw [← hox]
  show (W.putObj l o').heap[x]? = _
  simp only [World.putObj, Array.getElem?_setIfInBounds]
  rw [if_neg (by omega)]
theorem RdI.own_lt {w : World} {v : Value} {M : List It} (h : RdI w v M) (hB : ∀ k, v.ownBlock = some k → k < w.heap.size) : ∀ k, v.ownBlock = some k → k < w.heap.size := hB
end Go.Proofs.YtcohbfabcdjefaaGreatDoor
