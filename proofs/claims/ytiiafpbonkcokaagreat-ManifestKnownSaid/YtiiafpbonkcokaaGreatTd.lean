/-
  'All': the bodies of a text's frames, for every loop body.
-/
import Derived.Test.YtiiafpbonkcokaaGreatTc
import Derived.RangeFuncBox
import Derived.RangeFuncLeaves
import Derived.RangeFuncNested
import Derived.Shelf.Abstract
import Derived.OwnWalkIn
import Derived.TacticsInMore
import Derived.LoopNIn
import Derived.LoopIn
namespace Go.Proofs.YtiiafpbonkcokaaGreat
open Go.RowKit Go.Shelf

attribute [local go_sem] Oper.semAt_some

/-- the frames of some bodies, one behind the other -/
def frames (l : List ByteArray) : List UInt8 := l.flatMap fun b => (frame b).data.toList
theorem frames_append (l r : List ByteArray) : frames (l ++ r) = frames l ++ frames r := by simp [frames]
theorem frames_one (b : ByteArray) : frames [b] = (frame b).data.toList := by simp [frames]
def offs (l : List ByteArray) (k : Nat) : Nat := (frames (l.take k)).length
theorem offs_succ {l : List ByteArray} {k : Nat} (h : k < l.length) : offs l (k + 1) = offs l k + 8 + l[k].size := by
  unfold offs
  rw [List.take_succ_eq_append_getElem h, frames_append, List.length_append, frames_one, len_list, frame_size]; omega
theorem offs_zero (l : List ByteArray) : offs l 0 = 0 := by simp [offs, frames]
/-- s: the frames of l, and t behind them -/
structure Text (s : ByteArray) (l : List ByteArray) (t : List UInt8) : Prop where
  eq : s.data.toList = frames l ++ t
  sz : ∀ b ∈ l, b.size ≤ 65536
theorem Text.at_ {s : ByteArray} {l : List ByteArray} {t : List UInt8} (h : Text s l t) {k : Nat} (hk : k < l.length) : FrameAt s (offs l k) l[k] := by
  refine ⟨frames (l.drop (k + 1)) ++ t, ?_⟩
  have e : frames l = frames (l.take k) ++ ((frame l[k]).data.toList ++ frames (l.drop (k + 1))) := by
    rw [← frames_one, ← frames_append, ← frames_append, List.singleton_append, ← List.drop_eq_getElem_cons hk, List.take_append_drop]
  rw [h.eq, e, List.append_assoc, offs, List.drop_left, List.append_assoc]
theorem Text.len {s : ByteArray} {l : List ByteArray} {t : List UInt8} (h : Text s l t) : s.size = offs l l.length + t.length := by
  rw [← len_list, h.eq, List.length_append, offs, List.take_of_length_le (Nat.le_refl _)]
/-- at p no frame stands -/
def Ends (s : ByteArray) (p : Nat) : Prop := ∀ W : World, Calls Tryz.prog 87 #[.string s, .int .i64 p] W fun e w' => (∃ x y, e = .returned (.tuple #[.string x, .int .i64 y, .bool false])) ∧ Below W.heap.size W w'
theorem ends_end {s : ByteArray} {p : Nat} (hs : s.size ≤ 9223372036854775807) (hp : p ≤ s.size) (h : s.size < p + 8) : Ends s p :=
  fun W => (next_end W s p hs hp h).mono fun _ _ ⟨he, hw⟩ => ⟨⟨_, _, he⟩, hw ▸ Below.refl _ _⟩

/-- the captured text is kept -/
def BoxKept (Bn : Nat) (A B : World) : Prop := ∀ x, A.cell? ⟨Bn, 0, none⟩ = some x → B.cell? ⟨Bn, 0, none⟩ = some x
theorem all_any (s : ByteArray) (w : World) : Calls Tryz.prog 62 #[.string s] w fun e w' => e = .returned (.func (.func 86) #[] #[.pointer (some ⟨w.heap.size, 0, none⟩)]) ∧ w' = w.alloc (.cells #[.string s] 9) := by
  go_enter Tryz.func62, Tryz.ntmps62
  go_wp2
  go_ret
  exact ⟨rfl, rfl⟩

set_option maxRecDepth 100000 in
set_option maxHeartbeats 1000000 in
theorem all1_in (n : Nat) (hn : 1 ≤ n) (l Bn : Nat) (s : ByteArray) (bs : List ByteArray) (t : List UInt8) (hs : s.size ≤ 9223372036854775807) (hT : Text s bs t) (hE : Ends s (offs bs bs.length)) (J Jx : List ByteArray → World → Prop)
    (hY : ∀ pre x W, J pre W → pre.length < bs.length → YieldAt Fence.wide (n - 1) Tryz.prog l #[.string x] W fun e W' =>
      (e = .returned (.bool true) ∧ J (pre ++ [x]) W' ∧ BoxKept Bn W W') ∨ (e = .returned (.bool false) ∧ Jx (pre ++ [x]) W'))
    (hJb : ∀ pre W W', J pre W → Below W.heap.size W W' → J pre W')
    (W : World) (hBn : W.cell? ⟨Bn, 0, none⟩ = some (.string s)) (h0 : J [] W) :
    CallsIn Fence.wide n Tryz.prog 86 #[.func (.yield l) #[] #[], .pointer (some ⟨Bn, 0, none⟩)] W fun e W' => (∃ v, e = .returned v) ∧
      ((∃ ys, ys = bs ∧ J ys W') ∨ (∃ pre, pre <+: bs ∧ Jx pre W')) := by
  refine callsIn_of_wp Tryz.func86 rfl trivial ?_ rfl
  simp only [Tryz.ntmps86, List.size_toArray, List.length_cons, List.length_nil, Nat.reduceAdd, Nat.reduceSub, Array.replicate_succ, Array.replicate_zero, List.push_toArray, List.append_toArray, List.nil_append, List.cons_append]
  have HT := Lib.hid hT
  have HE := Lib.hid hE
  have HL := Lib.hid hT.len
  clear hT hE
  gi_wp2
  gi_loopw [3] (fun p wr => ∃ k : Nat, k ≤ bs.length ∧ p = .int .i64 (offs bs k) ∧ wr.cell? ⟨Bn, 0, none⟩ = some (.string s) ∧ Hid (J (bs.take k) wr))
    (fun p _ => s.size + 1 - (intOf p).toNat)
  case atStart =>
    exact ⟨0, Nat.zero_le _, by rw [offs_zero]; rfl, hBn, h0⟩
  case round =>
    obtain ⟨k, hk, rfl, hc, HJ⟩ := hrel
    by_cases hlt2 : k < bs.length
    · have HF := Lib.hid (HT.out.at_ hlt2)
      have HO := Lib.hid (offs_succ hlt2)
      have HS := Lib.hid (HT.out.sz _ (List.getElem_mem hlt2))
      have HP := Lib.hid (List.take_succ_eq_append_getElem hlt2)
      generalize bs[k] = b at *
      have HN := Lib.hid (next_ok wr s (offs bs k) b hs HS.out HF.out)
      gi_wp2_with fail
      refine ⟨trivial, ?_⟩
      refine (callsIn_wide.2 HN.out).mono ?_
      rintro e w1 ⟨rfl, hb⟩
      have hlt1 : Bn < wr.heap.size := World.block_lt_of_cell? wr _ hc
      have hc1 : w1.cell? ⟨Bn, 0, none⟩ = some (.string s) := (hb.cell (p := ⟨Bn, 0, none⟩) hlt1).trans hc
      obtain ⟨fn, tmps, assign, body, hy, hR⟩ := hY (bs.take k) b w1 (hJb _ _ _ HJ.out hb) (by rw [List.length_take]; omega)
      have HR := Lib.hid hR
      clear hR hb hY hJb
      gi_wp2_with fail
      refine HR.out.mono ?_
      rintro e W3 (⟨rfl, hJ3, hk3⟩ | ⟨rfl, hJx3⟩)
      · have hc3 : W3.cell? ⟨Bn, 0, none⟩ = some (.string s) := hk3 _ hc1
        have HJ3 := Lib.hid hJ3
        clear hJ3 hk3
        gi_wp2_with fail
        go_roundw
        case rel => exact ⟨k + 1, by omega, by rw [HO.out]; go_num, hc3, by rw [HP.out]; exact HJ3⟩
        case measure =>
          have := HO.out
          have := HT.out.len
          have h9 : offs bs k + 8 + b.size ≤ s.size := HF.out.len
          simp [intOf]; omega
      · have HX := Lib.hid hJx3
        clear hJx3
        gi_wp2_with fail
        refine bodyPost_ret (results_none rfl _ _ _) rfl ?_
        exact ⟨⟨_, rfl⟩, .inr ⟨bs.take k ++ [b], by rw [← HP.out]; exact List.take_prefix _ _, HX.out⟩⟩
    · have : k = bs.length := by omega
      subst this
      have HN := Lib.hid (HE.out wr)
      have HK := Lib.hid (show bs.take bs.length = bs from List.take_of_length_le (Nat.le_refl _))
      gi_wp2_with fail
      refine ⟨trivial, ?_⟩
      refine (callsIn_wide.2 HN.out).mono ?_
      rintro e w1 ⟨⟨x, y, rfl⟩, hb⟩
      have HJ1 := Lib.hid (hJb _ _ _ HJ.out hb)
      clear hb hY hJb
      gi_wp2_with fail
      refine ⟨fun f e => (by cases e), ?_⟩
      gi_wp2_with fail
      refine bodyPost_ret (results_none rfl _ _ _) rfl ?_
      exact ⟨⟨_, rfl⟩, .inl ⟨bs, rfl, by have := HJ1.out; rwa [HK.out] at this⟩⟩

/-- what 'All' hands back, as the kit's law on a range over a function asks it -/
theorem all_stops (n : Nat) (hn : 1 ≤ n) (Bn : Nat) (s : ByteArray) (bs : List ByteArray) (t : List UInt8) (hs : s.size ≤ 9223372036854775807) (hT : Text s bs t) (hE : Ends s (offs bs bs.length)) (w : World) (hc : w.cell? ⟨Bn, 0, none⟩ = some (.string s)) :
    SeqStopsK Fence.wide n Tryz.prog 86 #[.pointer (some ⟨Bn, 0, none⟩)] (fun x : ByteArray => #[Value.string x]) (BoxKept Bn) (fun ys => ys = bs) (fun pre => pre <+: bs) bs.length w := fun l J Jx W hW hJ _ hY h0 =>
  all1_in n hn l Bn s bs t hs hT hE J Jx hY (fun pre A B hj hb => hJ pre A B none hj ⟨hb.os, hb.tape, hb.output, hb.size, fun k hk _ => hb.block k hk⟩ (fun r e => by cases e)) W ((hW.cell (p := ⟨Bn, 0, none⟩) (World.block_lt_of_cell? w _ hc)).trans hc) h0
theorem boxK_t {Bn : Nat} {A B C : World} (h : BoxKept Bn A B) (k : BoxKept Bn B C) : BoxKept Bn A C := fun x hx => k x (h x hx)
theorem boxK_b {Bn : Nat} {w : World} (hn : Bn < w.heap.size) (W : World) (l : Nat) (o o' : Obj) (hl : w.heap.size ≤ l) (_ : W.heap[l]? = some o) (_ : o.isCells = false) (_ : o.isWalk = false) : BoxKept Bn W (W.putObj l o') := fun x hx => by
  rw [← hx]
  refine World.cell?_of_block (w := W) (w' := W.putObj l o') ?_
  show (W.putObj l o').heap[Bn]? = _
  simp only [World.putObj, Array.getElem?_setIfInBounds]
  rw [if_neg (by omega)]
end Go.Proofs.YtiiafpbonkcokaaGreat
