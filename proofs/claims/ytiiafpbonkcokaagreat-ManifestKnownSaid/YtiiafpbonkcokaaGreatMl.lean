/-
  'read': the state of a text.
-/
import Derived.Test.YtiiafpbonkcokaaGreatMk
import Derived.Test.YtiiafpbonkcokaaGreatTd
import Derived.Maps.AppendAt
import Derived.Deep.DeepCutAuto
import Derived.Deep.RegionLaw
import Derived.Deep.AppendLies
namespace Go.Proofs.YtiiafpbonkcokaaGreat
open Go.RowKit Go.Shelf

def bodies (s : St) : List ByteArray := headB s :: s.fs.map bodyB
theorem pack_frames (s : St) : (packB s).data.toList = frames (bodies s) := by
  have : ∀ (l : List Fi) (a : ByteArray), (l.foldl (fun acc f => acc ++ frame (bodyB f)) a).data.toList = a.data.toList ++ frames (l.map bodyB) := by
    intro l
    induction l with
    | nil => intro a; simp [frames]
    | cons f r ih =>
      intro a
      rw [List.foldl_cons, ih, app_list, List.append_assoc]
      rfl
  unfold packB packL
  rw [this]
  rfl
theorem pack_text {s : St} (hck : checkB s = true) : Text (packB s) (bodies s) [] := by
  obtain ⟨_, _, _, _, _, hf⟩ := check_fit hck
  refine ⟨by rw [pack_frames, List.append_nil], fun b hb => ?_⟩
  rcases List.mem_cons.1 hb with rfl | hb
  · rw [head_size]; omega
  · obtain ⟨f, hm, rfl⟩ := List.mem_map.1 hb
    have h1 := (hf f hm).s1
    have h2 := (hf f hm).s2
    rw [body_size]; omega
theorem info_str : (Tryz.prog.info? 9).map (fun i => (i.zero, i.size, i.bytes)) = some (some (.string ⟨#[]⟩), 1, 16) := by kernel_rfl

attribute [local go_sem] Oper.semAt_some

theorem ownFrom_block {β : Type} {B k : Nat} {o : Obj} (hk : k < B) : OwnFrom B (fun (_ : β) (W : World) => W.heap[k]? = some o) := fun s A B' row hs hg hr => (hg.block _ (heap_lt hs) (fun e => by have := (hr _ e.symm).1; omega)).trans hs
theorem p8_list (x : Int) : (p8 x).data.toList = le8 x.toNat := rfl
theorem p8_len (x : Int) : (p8 x).data.toList.length = 8 := by rw [p8_list, le8_len]
/-- the number at a place of a text -/
theorem numAt (W : World) (t : ByteArray) (i : Nat) (x : Int) (h0 : 0 ≤ x) (h1 : x ≤ 1099511627776) (hs : t.size ≤ 1000000) (h : (t.data.toList.drop (i * 8)).take 8 = (p8 x).data.toList) :
    Calls Tryz.prog 63 #[.string t, .int .i64 i] W fun e w' => e = .returned (.int .i64 x) ∧ W = w' := by
  obtain ⟨n, rfl⟩ := Int.eq_ofNat_of_zero_le h0
  have hl := congrArg List.length h
  rw [p8_len, List.length_take, List.length_drop, len_list] at hl
  refine get8_any W t i n (by omega) (by omega) (by omega) (fun k hk h2 => ?_)
  have e : (t.data.toList.drop (i * 8))[k]? = (le8 n)[k]? := by
    rw [← show (p8 (n : Int)).data.toList = le8 n from rfl, ← h, List.getElem?_take, if_pos hk]
  rw [List.getElem?_drop, le8_at n k hk, List.getElem?_eq_getElem (by rw [len_list]; exact h2)] at e
  have e2 := Option.some.inj e
  have e3 : t[i * 8 + k] = UInt8.ofNat (by8 n k) := e2
  rw [e3, toNat_by8]
theorem head_at (s : St) : ((headB s).data.toList.drop (0 * 8)).take 8 = (p8 s.next).data.toList ∧ ((headB s).data.toList.drop (1 * 8)).take 8 = (p8 s.log).data.toList ∧ ((headB s).data.toList.drop (2 * 8)).take 8 = (p8 s.fs.length).data.toList := by
  have e : (headB s).data.toList = (p8 s.next).data.toList ++ ((p8 s.log).data.toList ++ (p8 s.fs.length).data.toList) := by
    unfold headB; rw [app_list, app_list, List.append_assoc]
  have l1 := p8_len s.next
  have l2 := p8_len s.log
  have l3 := p8_len s.fs.length
  rw [e]
  generalize (p8 s.next).data.toList = a at *
  generalize (p8 s.log).data.toList = b at *
  generalize (p8 s.fs.length).data.toList = c at *
  refine ⟨?_, ?_, ?_⟩
  · rw [List.drop_zero, List.take_left' l1]
  · rw [List.drop_left' l1, List.take_left' l2]
  · rw [show 2 * 8 = 8 + 8 from rfl, ← List.drop_drop, List.drop_left' l1, List.drop_left' l2, List.take_of_length_le (by omega)]
theorem body_at (f : Fi) : ((bodyB f).data.toList.drop (0 * 8)).take 8 = (p8 f.n).data.toList ∧ ((bodyB f).data.toList.drop (1 * 8)).take 8 = (p8 f.level).data.toList ∧ ((bodyB f).data.toList.drop (2 * 8)).take 8 = (p8 f.count).data.toList ∧ ((bodyB f).data.toList.drop (3 * 8)).take 8 = (p8 f.first.size).data.toList ∧ (bodyB f).data.toList.drop 32 = f.first.data.toList ++ f.last.data.toList := by
  have e : (bodyB f).data.toList = (p8 f.n).data.toList ++ ((p8 f.level).data.toList ++ ((p8 f.count).data.toList ++ ((p8 f.first.size).data.toList ++ (f.first.data.toList ++ f.last.data.toList)))) := by
    unfold bodyB; rw [app_list, app_list, app_list, app_list, app_list]; simp only [List.append_assoc]
  have l1 := p8_len f.n
  have l2 := p8_len f.level
  have l3 := p8_len f.count
  have l4 := p8_len f.first.size
  rw [e]
  generalize (p8 f.n).data.toList = a at *
  generalize (p8 f.level).data.toList = b at *
  generalize (p8 f.count).data.toList = c at *
  generalize (p8 f.first.size).data.toList = d at *
  refine ⟨?_, ?_, ?_, ?_, ?_⟩
  · rw [List.drop_zero, List.take_left' l1]
  · rw [List.drop_left' l1, List.take_left' l2]
  · rw [show 2 * 8 = 8 + 8 from rfl, ← List.drop_drop, List.drop_left' l1, List.drop_left' l2, List.take_left' l3]
  · rw [show 3 * 8 = 8 + (8 + 8) from rfl, ← List.drop_drop, ← List.drop_drop, List.drop_left' l1, List.drop_left' l2, List.drop_left' l3, List.take_left' l4]
  · rw [show 32 = 8 + (8 + (8 + 8)) from rfl, ← List.drop_drop, ← List.drop_drop, ← List.drop_drop, List.drop_left' l1, List.drop_left' l2, List.drop_left' l3, List.drop_left' l4]
theorem keepAl {W wa : World} {a b : Nat} {x y : Value} (h : (wa.cell? ⟨a, 0, none⟩ = some x ∧ wa.cell? ⟨b, 0, none⟩ = some y) ∧ Hid (Below W.heap.size W wa)) (o : Obj) : ((wa.alloc o).cell? ⟨a, 0, none⟩ = some x ∧ (wa.alloc o).cell? ⟨b, 0, none⟩ = some y) ∧ Hid (Below W.heap.size W (wa.alloc o)) :=
  ⟨⟨((bl1 wa o).cell (p := ⟨a, 0, none⟩) (World.block_lt_of_cell? wa _ h.1.1)).trans h.1.1, ((bl1 wa o).cell (p := ⟨b, 0, none⟩) (World.block_lt_of_cell? wa _ h.1.2)).trans h.1.2⟩, h.2.out.alloc h.2.out.size _⟩
/-- what stands in memory while the tables are read -/
structure RdM (wc wr : World) (sbx : Nat) (nx lg : Int) (v : Value) (cur : List Fi) : Prop where
  sb : wr.heap[sbx]? = some (.cells #[.int .i64 nx, .int .i64 lg, v] 24 (0, 0))
  own : wr.ownsRow wc.heap.size 29 5 v cur.length (rcells cur)
  kept : But [sbx] wc wr
  lt : sbx < wc.heap.size
theorem RdM.drew {wc wr : World} {sbx : Nat} {nx lg : Int} {v : Value} {cur : List Fi} (h : RdM wc wr sbx nx lg v cur) : RdM wc wr.drew sbx nx lg v cur := ⟨h.sb, h.own.drew, h.kept.drew, h.lt⟩
theorem RdM.alloc {wc wr : World} {sbx : Nat} {nx lg : Int} {v : Value} {cur : List Fi} (h : RdM wc wr sbx nx lg v cur) (o : Obj) : RdM wc (wr.alloc o) sbx nx lg v cur :=
  ⟨(Below.heap_alloc _ _ _ (heap_lt h.sb)).trans h.sb, h.own.alloc _, h.kept.alloc _, h.lt⟩
theorem RdM.s {wc wr : World} {sbx : Nat} {nx lg : Int} {v : Value} {cur : List Fi} (h : RdM wc wr sbx nx lg v cur) : wr.cell? ⟨sbx, 2, none⟩ = some v ∧ Hid (RdM wc wr sbx nx lg v cur) := ⟨by simp [World.cell?, h.sb], Lib.hid h⟩
theorem RdM.fz {wc wr : World} {sbx : Nat} {nx lg : Int} {v : Value} {cur : List Fi} (h : RdM wc wr sbx nx lg v cur) : wr.frozen? ⟨sbx, 2, none⟩ = false := by simp [World.frozen?, h.sb]
theorem RdM.push {wc W w1 : World} {sbx : Nat} {nx lg : Int} {v v' : Value} {cur : List Fi} {x : Fi} (h : RdM wc W sbx nx lg v cur) (hg : W.grownBy w1 v.ownBlock)
    (ho : w1.ownsRow wc.heap.size 29 5 v' (cur.length + 1) (rcells cur ++ ficells x)) :
    (w1.frozen? ⟨sbx, 2, none⟩ = false ∧ w1.cell? ⟨sbx, 2, none⟩ = some v) ∧ RdM wc (w1.setCell ⟨sbx, 2, none⟩ v') sbx nx lg v' (cur ++ [x]) := by
  have hne : some sbx ≠ v.ownBlock := fun e => by have := (h.own.lt sbx e.symm).1; have := h.lt; omega
  have h1 : w1.heap[sbx]? = some (.cells #[.int .i64 nx, .int .i64 lg, v] 24 (0, 0)) := (hg.block sbx (heap_lt h.sb) hne).trans h.sb
  have hne2 : v'.ownBlock = none ∨ v'.ownBlock ≠ some sbx := .inr (fun e => by have := (ho.lt sbx e).1; have := h.lt; omega)
  refine ⟨⟨by simp [World.frozen?, h1], by simp [World.cell?, h1]⟩, ⟨?_, ?_, ?_, h.lt⟩⟩
  · exact heap_setCell_same _ _ _ _ _ _ h1
  · have hgs : w1.grownBy (w1.setCell ⟨sbx, 2, none⟩ v') (some sbx) := ⟨rfl, rfl, rfl, by simp [World.setCell], fun k _ hk => Below.heap_setCell w1 ⟨sbx, 2, none⟩ v' k (fun e => hk (congrArg some e))⟩
    rw [rcells_append, List.length_append]
    exact ho.kept hgs hne2
  · refine But.setCell ⟨hg.os.trans h.kept.os, hg.tape.trans h.kept.tape, hg.output.trans h.kept.output, Nat.le_trans h.kept.size hg.size, fun k hk hn => (hg.block k (Nat.lt_of_lt_of_le hk h.kept.size) (fun e => by have := (h.own.lt k e.symm).1; omega)).trans (h.kept.block k hk hn)⟩ (.inl (by simp)) v'
structure ExM (wr : World) (rb : Nat) (v : Value) (s : St) (w9 : World) : Prop where
  below : Below wr.heap.size wr w9
  row : FRow (fun _ => True) wr v s.fs
  blk : wr.heap[rb]? = some (.cells #[.int .i64 0, .int .i64 0, .slice none 0 0] 24 (0, 0))
theorem ExM.trans {wr w9 w10 : World} {rb : Nat} {v : Value} {s : St} (h : ExM wr rb v s w9) (k : Below w9.heap.size w9 w10) : ExM wr rb v s w10 := ⟨h.below.trans (k.mono h.below.size), h.row, h.blk⟩
theorem ExM.block {wr w9 : World} {rb : Nat} {v : Value} {s : St} (h : ExM wr rb v s w9) : w9.heap[rb]? = some (.cells #[.int .i64 0, .int .i64 0, .slice none 0 0] 24 (0, 0)) := (h.below.block rb (heap_lt h.blk)).trans h.blk
theorem ExM.facts {wr w9 : World} {rb : Nat} {v : Value} {s : St} (h : ExM wr rb v s w9) : w9.cell? ⟨rb, 0, none⟩ = some (.int .i64 0) ∧ w9.cell? ⟨rb, 1, none⟩ = some (.int .i64 0) ∧ w9.cell? ⟨rb, 2, none⟩ = some (.slice none 0 0) ∧ w9.frozen? ⟨rb, 0, none⟩ = false ∧ w9.frozen? ⟨rb, 1, none⟩ = false ∧ w9.frozen? ⟨rb, 2, none⟩ = false := by
  have e := h.block
  exact ⟨by simp [World.cell?, e], by simp [World.cell?, e], by simp [World.cell?, e], by simp [World.frozen?, e], by simp [World.frozen?, e], by simp [World.frozen?, e]⟩
theorem ExM.stored {wr w9 : World} {rb : Nat} {v : Value} {s : St} (h : ExM wr rb v s w9) (a b c : Value) :
    ((((w9.setCell ⟨rb, 0, none⟩ a).setCell ⟨rb, 1, none⟩ b).setCell ⟨rb, 2, none⟩ c).heap[rb]? = some (.cells #[a, b, c] 24 (0, 0))) ∧
    (∀ k, k ≠ rb → (((w9.setCell ⟨rb, 0, none⟩ a).setCell ⟨rb, 1, none⟩ b).setCell ⟨rb, 2, none⟩ c).heap[k]? = w9.heap[k]?) ∧ But [rb] wr (((w9.setCell ⟨rb, 0, none⟩ a).setCell ⟨rb, 1, none⟩ b).setCell ⟨rb, 2, none⟩ c) := by
  refine ⟨?_, fun k hk => ?_, ?_⟩
  · exact heap_setCell_same _ _ _ _ _ _ (heap_setCell_same _ _ _ _ _ _ (heap_setCell_same _ _ _ _ _ _ h.block))
  · rw [Below.heap_setCell _ _ _ _ hk, Below.heap_setCell _ _ _ _ hk, Below.heap_setCell _ _ _ _ hk]
  · exact (((But.of_below h.below).setCell (.inl (by simp)) _).setCell (.inl (by simp)) _).setCell (.inl (by simp)) _
/-- what a round does: one text more -/
theorem body_facts {w W0 W w1 : World} {v v' : Value} {xs ys : List Value} {k m : Nat} {text : ByteArray} {tmp : Obj}
    (hv : Boxed W (w.heap.size + 1) 92 v) (hrow : W.ownsRow W0.heap.size 9 1 v k xs)
    (hR : Below w.heap.size w W ∧ W.heap[w.heap.size]? = some (.cells #[.int .i64 0, .int .i64 0, .slice none 0 0] 24 (0, 0)) ∧ W.heap[w.heap.size + 1 + 1]? = some (.cells #[.string text] 9 (0, 0)))
    (hzW : W0.heap.size ≤ W.heap.size) (hz : W0.heap.size = w.heap.size + 3) (hown' : w1.ownsRow W0.heap.size 9 1 v' m ys) (hgrow : (W.alloc tmp).grownBy w1 v.ownBlock) :
    Boxed w1 (w.heap.size + 1) 92 v ∧ Boxed (w1.setCell ⟨w.heap.size + 1, 0, none⟩ v') (w.heap.size + 1) 92 v' ∧
    (KeepsFrom W0.heap.size W (w1.setCell ⟨w.heap.size + 1, 0, none⟩ v') ∧ BoxKept (w.heap.size + 1 + 1) W (w1.setCell ⟨w.heap.size + 1, 0, none⟩ v') ∧
      ((∃ u, Boxed (w1.setCell ⟨w.heap.size + 1, 0, none⟩ v') (w.heap.size + 1) 92 u ∧ (w1.setCell ⟨w.heap.size + 1, 0, none⟩ v').ownsRow W0.heap.size 9 1 u m ys ∧ True) ∧ Below w.heap.size w (w1.setCell ⟨w.heap.size + 1, 0, none⟩ v') ∧ ((w1.setCell ⟨w.heap.size + 1, 0, none⟩ v').heap[w.heap.size]? = some (.cells #[.int .i64 0, .int .i64 0, .slice none 0 0] 24 (0, 0)) ∧ (w1.setCell ⟨w.heap.size + 1, 0, none⟩ v').heap[w.heap.size + 1 + 1]? = some (.cells #[.string text] 9 (0, 0))))) := by
  obtain ⟨hB, hr0, hr2⟩ := hR
  have hv1 : Boxed w1 (w.heap.size + 1) 92 v := (hv.alloc tmp).kept hgrow (hv.not_row (by decide) hrow)
  have hob : ∀ j, v.ownBlock = some j → W0.heap.size ≤ j := fun j e => (hrow.lt j e).1
  have hb : ∀ k, k < W0.heap.size → k ≠ w.heap.size + 1 → (w1.setCell ⟨w.heap.size + 1, 0, none⟩ v').heap[k]? = W.heap[k]? := fun k hk hne => by
    rw [Below.heap_setCell w1 ⟨w.heap.size + 1, 0, none⟩ v' k hne, hgrow.block k (by simp; omega) (fun e => by have := hob k e.symm; omega), Below.heap_alloc _ _ _ (by omega)]
  refine ⟨hv1, hv1.set v', ?_, ?_, ⟨v', hv1.set v', hown'.kept (grownBy_setCell' w1 _ v') (.inr (hv1.not_row (by decide) hown').symm), trivial⟩, ?_, ?_, ?_⟩
  · refine KeepsOthers.from (((KeepsOthers.alloc W tmp).trans (KeepsOthers.of_grownBy hgrow fun j o ej hj => ?_)).trans (KeepsOthers.setCell _ _ _)) _
    rcases (hrow.alloc tmp).2 with ⟨rfl, _⟩ | ⟨g, cap, cur, rfl, _, hgb, _⟩
    · simp [Value.ownBlock] at ej
    · obtain rfl : g = j := by simpa [Value.ownBlock] using ej
      rw [hgb] at hj; cases hj; rfl
  · intro y hy
    rw [← hy]
    exact World.cell?_of_block (w := W) (a := ⟨w.heap.size + 1 + 1, 0, none⟩) (hb (w.heap.size + 1 + 1) (by omega) (by omega))
  · exact ((hB.alloc hB.size tmp).grown hgrow (by have := hB.size; simp; omega) (fun j ej => by have := hob j ej; omega)).setCell (by show w.heap.size ≤ w.heap.size + 1; omega) v'
  · exact (hb _ (by omega) (by omega)).trans hr0
  · exact (hb _ (by omega) (by omega)).trans hr2
/-- what 'read' answers -/
def ReadR (w : World) (s : St) (e : Ending) (w' : World) : Prop := ∃ v, e = .returned (.tuple #[.agg #[.int .i64 s.next, .int .i64 s.log, v], .bool true]) ∧ FRow (w.heap.size ≤ ·) w' v s.fs ∧ Below w.heap.size w w'

set_option maxRecDepth 100000 in
set_option maxHeartbeats 4000000 in
theorem mread_any (w : World) (s : St) (hck : checkB s = true) (text : ByteArray) (ht : text = packB s) : Calls Tryz.prog 48 #[.string text] w (ReadR w s) := by
  have HCK := Lib.hid hck
  have HT := Lib.hid (show Text text (bodies s) [] by rw [ht]; exact pack_text hck)
  have HTX := Lib.hid ht
  obtain ⟨n1, n2, l1, l2, hlen, hfit⟩ := check_fit hck
  have hts : text.size ≤ 100000 := by rw [ht]; have := packL_size s s.fs hfit; unfold packB; omega
  obtain ⟨i0, hi, hz0, hz1, hz2⟩ := info_parts info_str
  clear hck ht
  refine (callsIn_wide (n := 5)).1 (callsIn_of_wp_marks Tryz.func48 rfl trivial ?_ rfl)
  refine wpIn_wide.2 ?_
  simp only [Tryz.ntmps48, List.size_toArray, List.length_cons, List.length_nil, Nat.reduceAdd, Nat.reduceSub, Array.replicate_succ, Array.replicate_zero, List.push_toArray, List.append_toArray, List.nil_append, List.cons_append]
  go_wp2_with fail
  refine (all_any _ _).mono ?_
  rintro e w1 ⟨rfl, rfl⟩
  obtain ⟨W0, hW0⟩ : ∃ W0, W0 = ((w.alloc (.cells #[.int .i64 0, .int .i64 0, .slice none 0 0] 24)).alloc (.cells #[.slice none 0 0] 92)).alloc (.cells #[.string text] 9) := ⟨_, rfl⟩
  have hz : W0.heap.size = w.heap.size + 3 := by rw [hW0]; simp
  have r0 : W0.heap[w.heap.size]? = some (.cells #[.int .i64 0, .int .i64 0, .slice none 0 0] 24 (0, 0)) := by
    rw [hW0, Below.heap_alloc _ _ _ (by simp; omega), Below.heap_alloc _ _ _ (by simp)]; exact heap_alloc_new w _
  have r1 : Boxed W0 (w.heap.size + 1) 92 (.slice none 0 0) := by
    have := heap_alloc_new (w.alloc (.cells #[.int .i64 0, .int .i64 0, .slice none 0 0] 24)) (.cells #[.slice none 0 0] 92)
    rw [World.size_alloc] at this
    unfold Boxed
    rw [hW0, Below.heap_alloc _ _ _ (by simp)]; exact this
  have r2 : W0.cell? ⟨w.heap.size + 1 + 1, 0, none⟩ = some (.string text) := by rw [hW0]; simp [go_sem]
  have r3 : W0.heap[w.heap.size + 1 + 1]? = some (.cells #[.string text] 9 (0, 0)) := by
    rw [hW0]
    have := heap_alloc_new ((w.alloc (.cells #[.int .i64 0, .int .i64 0, .slice none 0 0] 24)).alloc (.cells #[.slice none 0 0] 92)) (.cells #[.string text] 9)
    rwa [World.size_alloc, World.size_alloc] at this
  have HB0 := Lib.hid (show Below w.heap.size w W0 by rw [hW0]; exact bl3 _ _ _ _)
  have HW := Lib.hid hW0.symm
  have HE := Lib.hid (ends_end (s := text) (p := offs (bodies s) (bodies s).length) (by omega) (by have := HT.out.len; simp at this; omega) (by have := HT.out.len; simp at this; omega))
  have HZ := Lib.hid hz
  clear hW0 hz
  go_wp2_with fail
  rw [HW.out]
  refine (wpIn_wide (n := 5)).1 (wpIn_rangeFunc_ownG rfl (by omega) (gf := 86) (lb := #[.pointer (some ⟨w.heap.size + 1 + 1, 0, none⟩)]) rfl trivial (enters_of Tryz.func86 (by kernel_rfl) rfl)
    (all_stops 4 (by omega) (w.heap.size + 1 + 1) text (bodies s) [] (by omega) HT.out HE.out W0 r2) boxK_t (boxK_b (by rw [HZ.out]; omega)) (Below.refl _ _) (fun _ => rfl)
    (fun pre W => (∃ v, Boxed W (w.heap.size + 1) 92 v ∧ W.ownsRow W0.heap.size 9 1 v pre.length (pre.map Value.string) ∧ True) ∧ Below w.heap.size w W ∧ (W.heap[w.heap.size]? = some (.cells #[.int .i64 0, .int .i64 0, .slice none 0 0] 24 (0, 0)) ∧ W.heap[w.heap.size + 1 + 1]? = some (.cells #[.string text] 9 (0, 0))))
    (fun _ _ _ => False)
    (OwnFrom.and (Own.from (holdsRow_own W0.heap.size (w.heap.size + 1) 92 9 1 (fun pre : List ByteArray => pre.length) (fun pre => pre.map Value.string) (fun _ _ => True)) _) (OwnFrom.and (ownFrom_below (Nat.le_refl _) (by rw [HZ.out]; omega)) (OwnFrom.and (ownFrom_block (by rw [HZ.out]; omega)) (ownFrom_block (by rw [HZ.out]; omega)))))
    (fun _ _ _ _ _ hs _ _ => hs)
    ⟨⟨_, r1, World.ownsRow_nil _ _ _ _, trivial⟩, HB0.out, r0, r3⟩
    (fun x => { tmps := #[.string text, undef, .pointer (some ⟨w.heap.size, 0, none⟩), .bool false, .pointer (some ⟨w.heap.size + 1, 0, none⟩), .string x, undef, undef, undef, undef, undef, .string text, .func (.func 86) #[] #[.pointer (some ⟨w.heap.size + 1 + 1, 0, none⟩)], .string x, undef, undef, undef, undef, undef, undef, undef, undef, undef, undef, undef, undef, undef, undef, undef, undef, undef, undef, undef, undef, undef, undef, undef, undef, undef, undef, undef, undef, undef, undef, undef, undef, undef, undef, undef, undef, undef, undef, undef, undef, undef, undef, undef, undef, undef, undef, undef, undef, undef, undef, undef, undef, undef, undef, undef, undef, undef, undef, undef, undef, undef, undef, undef, undef, undef, undef, undef, undef, undef, undef, undef, undef, undef, undef, undef, undef, undef, undef, undef, undef, undef, undef, undef, undef, undef, undef, undef], defers := [] }) ?assign ?body ?done ?stop)
  case assign =>
    intro l x W K hK
    gi_wp2
    exact hK
  case body =>
    rintro l pre x W ⟨⟨v, hv, hrow, _⟩, hB, hr0, hr2⟩ hlt
    have hc := hv.cell
    have hpl : pre.length ≤ 200 := by
      have : (bodies s).length ≤ 201 := by unfold bodies; simp; omega
      omega
    have HV := Lib.hid hv
    have HRW := Lib.hid hrow
    have HR := Lib.hid (show Below w.heap.size w W ∧ W.heap[w.heap.size]? = some (.cells #[.int .i64 0, .int .i64 0, .slice none 0 0] 24 (0, 0)) ∧ W.heap[w.heap.size + 1 + 1]? = some (.cells #[.string text] 9 (0, 0)) from ⟨hB, hr0, hr2⟩)
    have hzW : W0.heap.size ≤ W.heap.size := by rw [HZ.out]; have := heap_lt hr2; omega
    obtain ⟨va, vc, rfl⟩ := own_slice hrow
    clear hB hr0 hr2 hv hrow hlt
    gi_wp2_with (gi_at_builtin; refine wpListIn_append_own _ rfl _ _ 92 rfl W0.heap.size 9 i0 (.string ⟨#[]⟩) 1 16 Tryz.underlying92 hi hz0 hz1 hz2 rfl (by decide) _ _ _ rfl (HRW.out.alloc _) ⟨W.heap.size, 0, none⟩ 1 1 [.string x] rfl rfl (cell_one_new _ _ _) (by simp [Value.oneCell']) (by unfold maxLen; omega) (by omega) (by simp; omega) ?_; intro v' w1 hown' hgrow _; obtain ⟨g', cap', rfl⟩ := ownsRow_succ hown'; obtain ⟨hv1, hv2, hfin⟩ := body_facts HV.out HRW.out HR.out hzW HZ.out hown' hgrow; have hc1 := hv1.cell; have hf1 := hv1.frozen)
    simp only [ownPostG, List.length_append, List.length_singleton, List.map_append, List.map_cons, List.map_nil]
    exact hfin
  case done =>
    rintro D ys W hD rfl ⟨⟨v, hv, hrow, _⟩, hB, hr0, hr2⟩ hK
    have hlb : (bodies s).length = s.fs.length + 1 := by unfold bodies; simp
    rw [hlb] at hrow
    obtain ⟨g, cap, rfl⟩ := ownsRow_succ hrow
    have hcc := hv.cell
    have hcell : ∀ j (h : j < (bodies s).length), W.cell? ⟨g, j, none⟩ = some (.string (bodies s)[j]) := fun j hj => by
      rw [hrow.cellAt j (by omega), List.getElem?_map, List.getElem?_eq_getElem hj]; rfl
    have e0 : W.cell? ⟨g, 0, none⟩ = some (.string (headB s)) := hcell 0 (by omega)
    have HC := Lib.hid hcell
    have HKD := Lib.hid hK
    have HLB := Lib.hid hlb
    have HBW := Lib.hid hB
    have HR0 := Lib.hid hr0
    have HD := Lib.hid hD
    have G2 : ∀ W, Calls Tryz.prog 63 #[.string (headB s), .int .i64 2] W (fun e w' => e = .returned (.int .i64 s.fs.length) ∧ W = w') := fun W => numAt W (headB s) 2 s.fs.length (by omega) (by omega) (by rw [head_size]; omega) (head_at s).2.2
    have G0 : ∀ W, Calls Tryz.prog 63 #[.string (headB s), .int .i64 0] W (fun e w' => e = .returned (.int .i64 s.next) ∧ W = w') := fun W => numAt W (headB s) 0 s.next (by omega) (by omega) (by rw [head_size]; omega) (head_at s).1
    have G1 : ∀ W, Calls Tryz.prog 63 #[.string (headB s), .int .i64 1] W (fun e w' => e = .returned (.int .i64 s.log) ∧ W = w') := fun W => numAt W (headB s) 1 s.log (by omega) (by omega) (by rw [head_size]; omega) (head_at s).2.1
    have H2 := Lib.hid G2
    have H0 := Lib.hid G0
    have H1 := Lib.hid G1
    have hcapn : s.fs.length + 1 ≤ cap ∧ cap ≤ 9223372036854775807 := by
      rcases hrow.2 with ⟨he, _⟩ | ⟨g', cap', cur, he, _, _, h1, h2, _⟩
      · cases he
      · injection he with _ _ e3; subst e3; exact ⟨h1, h2⟩
    have i1 : (((s.fs.length + 1 : Nat) : Int) == 0) = false := by rw [beq_eq_false_iff_ne]; omega
    have i1' : ((s.fs.length : Int) + 1 == 0) = false := by rw [beq_eq_false_iff_ne]; omega
    have i2 : (((headB s).size : Int) != 24) = false := by rw [head_size]; rfl
    have i3 : ((s.fs.length : Int) != ((s.fs.length + 1 : Nat) : Int) - 1) = false := by rw [bne_eq_false_iff_eq]; omega
    have i3' : ((s.fs.length : Int) != (s.fs.length : Int) + 1 - 1) = false := by rw [bne_eq_false_iff_eq]; omega
    have i4 : IntKind.i64.wrap (((s.fs.length + 1 : Nat) : Int) - 1) = ((s.fs.length + 1 : Nat) : Int) - 1 := IntWalk.i64_in _ (by omega)
    have i4' : IntKind.i64.wrap ((s.fs.length : Int) + 1 - 1) = (s.fs.length : Int) + 1 - 1 := IntWalk.i64_in _ (by omega)
    clear hcell hK hlb hB hr0 hr2 hD hv hrow G0 G1 G2
    go_wp2_with fail
    go_quiet ((go_at_call 63; exact Calls.quiet_of_same ((H2.out _).mono fun _ _ ⟨he, hw⟩ => ⟨he, hw.symm⟩)))
    rename_i nq
    have HW2 := Lib.hid (show (W.drewN nq).heap = W.heap ∧ Below W.heap.size W (W.drewN nq) from ⟨rfl, below_drewN (Below.refl _ _) _⟩)
    have hcc2 : (W.drewN nq).cell? ⟨w.heap.size + 1, 0, none⟩ = some (.slice (some ⟨g, 0, none⟩) (s.fs.length + 1) cap) := hcc
    have e02 : (W.drewN nq).cell? ⟨g, 0, none⟩ = some (.string (headB s)) := e0
    generalize W.drewN nq = W2 at *
    clear hcc e0
    have nn1 := World.new_ne W2 _ hcc2
    have nn2 := World.new_ne W2 _ e02
    have HS0 := Lib.hid (show (W2.drew.cell? ⟨w.heap.size + 1, 0, none⟩ = some (.slice (some ⟨g, 0, none⟩) (s.fs.length + 1) cap) ∧ W2.drew.cell? ⟨g, 0, none⟩ = some (.string (headB s))) ∧ Hid (Below W2.heap.size W2 W2.drew) from ⟨⟨hcc2, e02⟩, (Below.refl _ _).drew⟩)
    have HO2 := Lib.hid (show (W2.drew.alloc (.cells #[.int .i64 s.next, .int .i64 s.log, .slice none 0 0] 24)).heap[W2.heap.size]? = some (.cells #[.int .i64 s.next, .int .i64 s.log, .slice none 0 0] 24 (0, 0)) ∧ Below W2.heap.size W2 (W2.drew.alloc (.cells #[.int .i64 s.next, .int .i64 s.log, .slice none 0 0] 24)) from ⟨heap_alloc_new W2.drew _, ((Below.refl _ _).drew).alloc (Nat.le_refl _) _⟩)
    have HO3 := Lib.hid (show ((W2.alloc (.cells #[.int .i64 s.next, .int .i64 s.log, .slice none 0 0] 24)).drew).heap[W2.heap.size]? = some (.cells #[.int .i64 s.next, .int .i64 s.log, .slice none 0 0] 24 (0, 0)) ∧ Below W2.heap.size W2 ((W2.alloc (.cells #[.int .i64 s.next, .int .i64 s.log, .slice none 0 0] 24)).drew) from ⟨heap_alloc_new W2 _, (bl1 W2 _).drew⟩)
    go_upto_region 7 with (fail)
    go_cut [6] from 39 to 47 (fun s6 wx => s6 = .pointer (some ⟨W2.heap.size, 0, none⟩) ∧ Hid (wx.heap[W2.heap.size]? = some (.cells #[.int .i64 s.next, .int .i64 s.log, .slice none 0 0] 24 (0, 0)) ∧ Below W2.heap.size W2 wx))
    case first =>
      go_region_held3 (fun w' => (w'.cell? ⟨w.heap.size + 1, 0, none⟩ = some (.slice (some ⟨g, 0, none⟩) (s.fs.length + 1) cap) ∧ w'.cell? ⟨g, 0, none⟩ = some (.string (headB s))) ∧ Hid (Below W2.heap.size W2 w'))
        (first | exact HS0.out | exact keepAl HS0.out _ | assumption)
        (first | (go_at_call 63; ((with_reducible refine (H0.out _).mono ?_); rintro e w' ⟨rfl, rfl⟩)) | (go_at_call 63; ((with_reducible refine (H1.out _).mono ?_); rintro e w' ⟨rfl, rfl⟩)))
      all_goals
        go_wp2_with fail
        go_meet
        first | exact ⟨rfl, HO2⟩ | exact ⟨rfl, HO3⟩
    case rest =>
      obtain ⟨rfl, HX⟩ := hcut
      have hgW : g < W2.heap.size := World.block_lt_of_cell? W2 _ e02
      have hlW2 : w.heap.size + 1 < W2.heap.size := World.block_lt_of_cell? W2 _ hcc2
      clear HS0 HO2 HO3 nn1 nn2 e02
      have hwc : ∀ k, k < W.heap.size → wc.heap[k]? = W.heap[k]? := fun k hk => (HX.out.2.block k (by rw [HW2.out.1]; exact hk)).trans (by rw [HW2.out.1])
      have hlw : w.heap.size + 1 < W.heap.size := by have := World.block_lt_of_cell? W2 _ hcc2; rw [HW2.out.1] at this; exact this
      have hcc3 : wc.cell? ⟨w.heap.size + 1, 0, none⟩ = some (.slice (some ⟨g, 0, none⟩) (s.fs.length + 1) cap) := (HX.out.2.cell (p := ⟨w.heap.size + 1, 0, none⟩) (World.block_lt_of_cell? W2 _ hcc2)).trans hcc2
      have hcells : ∀ j (h : j < (bodies s).length), wc.cell? ⟨g, j, none⟩ = some (.string (bodies s)[j]) := fun j hj => by
        have h1 := HC.out j hj
        exact (World.cell?_of_block (w := W) (hwc g (World.block_lt_of_cell? W _ h1))).trans h1
      have hgl : g < wc.heap.size := World.block_lt_of_cell? wc _ (hcells 0 (by rw [HLB.out]; omega))
      have HM0 := Lib.hid (show RdM wc wc W2.heap.size s.next s.log (.slice none 0 0) [] from ⟨HX.out.1, World.ownsRow_nil _ _ _ _, But.refl _ _, heap_lt HX.out.1⟩)
      have HCL := Lib.hid hcells
      have HWC := Lib.hid hwc
      have HXB := Lib.hid HX.out.2
      obtain ⟨A, hA, hAp⟩ : ∃ A : Option Addr, (if cap = 1 then some (⟨g, 0, none⟩ : Addr) else some ⟨g, 1, none⟩) = A ∧ Hid (0 < s.fs.length → A = some ⟨g, 1, none⟩) := ⟨_, rfl, fun h => by rw [if_neg (by omega)]⟩
      have hcap1 : 1 ≤ cap := by omega
      have hcap2 : s.fs.length + 1 ≤ cap := hcapn.1
      clear hwc hcells hcc2 HX HC
      go_wp2_with fail
      go_loopw [51] (fun i wr => ∃ k : Nat, k ≤ s.fs.length ∧ i = .int .i64 k ∧ Hid (∃ v, RdM wc wr W2.heap.size s.next s.log v (s.fs.take k))) (fun i _ => s.fs.length - (intOf i).toNat)
      case atStart => exact ⟨0, by omega, rfl, _, HM0.out⟩
      case round =>
        obtain ⟨k, hk, rfl, HCUR⟩ := hrel
        by_cases hlt : k < s.fs.length
        · obtain rfl := hAp.out (by omega)
          obtain ⟨v, hM⟩ := HCUR.out
          obtain ⟨va, vc, rfl⟩ := own_slice hM.own
          have hex : wr.cell? ⟨g, 1 + k, none⟩ = some (.string (bodyB s.fs[k])) := by
            have h1 := HCL.out (k + 1) (by rw [HLB.out]; omega)
            have h2 : (bodies s)[k + 1]'(by rw [HLB.out]; omega) = bodyB s.fs[k] := by unfold bodies; simp
            rw [h2] at h1
            rw [Nat.add_comm]
            exact (hM.kept.cell hgl (by simp; omega)).trans h1
          have hsb := hM.sb
          have hs0 : wr.cell? ⟨W2.heap.size, 0, none⟩ = some (.int .i64 s.next) := by simp [World.cell?, hsb]
          have hs1 : wr.cell? ⟨W2.heap.size, 1, none⟩ = some (.int .i64 s.log) := by simp [World.cell?, hsb]
          have hs2 : wr.cell? ⟨W2.heap.size, 2, none⟩ = some (.slice va (s.fs.take k).length vc) := by simp [World.cell?, hsb]
          have hf2 : wr.frozen? ⟨W2.heap.size, 2, none⟩ = false := by simp [World.frozen?, hsb]
          have HS := Lib.hid (show s.fs.take (k + 1) = s.fs.take k ++ [s.fs[k]] from List.take_succ_eq_append_getElem hlt)
          have hft := hfit _ (List.getElem_mem hlt)
          have htl : (s.fs.take k).length ≤ 200 := by rw [List.length_take]; omega
          have HM := Lib.hid hM
          clear hM hsb HCUR hAp
          generalize s.fs.take k = cur at *
          generalize s.fs[k] = x at *
          have hbs := body_size x
          have hB1 : (32 : Int) ≤ (bodyB x).size := by omega
          have HBA := Lib.hid (body_at x)
          have hx1 := hft.s1
          have hx2 := hft.s2
          have HK : (bodyB x).extract 32 (bodyB x).size = x.first ++ x.last := by
            refine ba_ext ?_
            rw [ext_list, (body_at x).2.2.2.2, app_list, List.take_of_length_le (by rw [List.length_append, len_list, len_list]; omega)]
          have Q3 : ∀ W, Calls Tryz.prog 63 #[.string (bodyB x), .int .i64 3] W (fun e w' => e = .returned (.int .i64 x.first.size) ∧ W = w') := fun W => numAt W (bodyB x) 3 x.first.size (by omega) (by omega) (by omega) HBA.out.2.2.2.1
          have Q0 : ∀ W, Calls Tryz.prog 63 #[.string (bodyB x), .int .i64 0] W (fun e w' => e = .returned (.int .i64 x.n) ∧ W = w') := fun W => numAt W (bodyB x) 0 x.n hft.n0 hft.n1 (by omega) HBA.out.1
          have Q1 : ∀ W, Calls Tryz.prog 63 #[.string (bodyB x), .int .i64 1] W (fun e w' => e = .returned (.int .i64 x.level) ∧ W = w') := fun W => numAt W (bodyB x) 1 x.level hft.l0 hft.l1 (by omega) HBA.out.2.1
          have Q2 : ∀ W, Calls Tryz.prog 63 #[.string (bodyB x), .int .i64 2] W (fun e w' => e = .returned (.int .i64 x.count) ∧ W = w') := fun W => numAt W (bodyB x) 2 x.count hft.c0 hft.c1 (by omega) HBA.out.2.2.1
          have K3 := Lib.hid Q3
          have K0 := Lib.hid Q0
          have K1 := Lib.hid Q1
          have K2 := Lib.hid Q2
          clear Q0 Q1 Q2 Q3
          go_wp2_with fail
          refine (K3.out _).mono ?_
          rintro e w7 ⟨rfl, rfl⟩
          go_upto_region 17 with (fail)
          have HKK : (bodyB x).extract 32 (32 + x.first.size + x.last.size) = x.first ++ x.last := by rw [← hbs]; exact HK
          rw [HKK]
          have sl0 : (x.first ++ x.last).size = x.first.size + x.last.size := by simp
          have sl1 : (x.first ++ x.last).extract 0 x.first.size = x.first := by
            refine ba_ext ?_
            rw [ext_list, app_list, List.drop_zero]
            exact List.take_left' (by rw [len_list]; rfl)
          have sl2 : (x.first ++ x.last).extract x.first.size (x.first.size + x.last.size) = x.last := by
            refine ba_ext ?_
            rw [ext_list, app_list, List.drop_left' (by rw [len_list])]
            exact List.take_of_length_le (by rw [len_list]; omega)
          generalize x.first ++ x.last = keys at *
          have sl3 : (0 : Int) ≤ (x.first.size : Int) := by omega
          have sl4 : (x.first.size : Int) ≤ (keys.size : Int) := by omega
          rw [← sl0] at sl2
          have sl5 : x.first.size ≤ keys.size := by omega
          have SL0 := Lib.hid sl0
          clear sl0
          obtain ⟨i9, hi9, hz90, hz91, hz92⟩ := info_parts info_file
          have HONE := Lib.hid (show ∀ u ∈ ficells x, u.oneCell' = true by simp [ficells, Value.oneCell'])
          have nn3 := World.new_ne wr _ hs2
          have hlr := World.block_lt_of_cell? wr _ hs2
          refine wp_region_noPanic ?_
          refine wp_region_held_drew (S := (fun w' => w'.frozen? ⟨W2.heap.size, 2, none⟩ = false)) (by kernel_rfl) (by (first | exact HM.out.drew.fz | exact (HM.out.alloc _).fz | exact (HM.out.alloc _).drew.fz | exact (HM.out.drew.alloc _).fz | exact y10 | exact hP.fz | assumption)) (fun hHeld => ?_)
          refine wpAnyH_take (i := 0) (oi := { dst := Option.some 72, op := Op.fieldAddr 24 (Operand.tmp 6) 2, type := 0, pos := _, after := #[], guard := Option.none }) (v := ?_) rfl (by kernel_rfl) (by kernel_rfl) (by kernel_rfl) (fun _ _ _ h => h) (Or.inl ⟨by rfl, ?_⟩) (by assumption) ?_
          rotate_left
          · (intro wS hSw; (try dsimp only at hSw); go_simp; try with_reducible rfl)
          try simp only [Act.put, List.setIfInBounds_toArray, List.set_cons_zero, List.set_cons_succ]
          refine wpAnyH_take (i := 2) (oi := { dst := Option.some 74, op := Op.move (Operand.tmp 8), type := 9, pos := _, after := #[], guard := Option.none }) (v := ?_) rfl (by kernel_rfl) (by kernel_rfl) (by kernel_rfl) (fun _ _ _ h => h) (Or.inl ⟨by rfl, ?_⟩) (by assumption) ?_
          rotate_left
          · (intro wS hSw; (try dsimp only at hSw); go_simp; try with_reducible rfl)
          try simp only [Act.put, List.setIfInBounds_toArray, List.set_cons_zero, List.set_cons_succ]
          refine wpAnyH_take (i := 4) (oi := { dst := Option.some 76, op := Op.move (Operand.tmp 8), type := 9, pos := _, after := #[], guard := Option.none }) (v := ?_) rfl (by kernel_rfl) (by kernel_rfl) (by kernel_rfl) (fun _ _ _ h => h) (Or.inl ⟨by rfl, ?_⟩) (by assumption) ?_
          rotate_left
          · (intro wS hSw; (try dsimp only at hSw); go_simp; try with_reducible rfl)
          try simp only [Act.put, List.setIfInBounds_toArray, List.set_cons_zero, List.set_cons_succ]
          refine wpAnyH_take (i := 6) (oi := { dst := Option.some 78, op := Op.move (Operand.tmp 8), type := 9, pos := _, after := #[], guard := Option.none }) (v := ?_) rfl (by kernel_rfl) (by kernel_rfl) (by kernel_rfl) (fun _ _ _ h => h) (Or.inl ⟨by rfl, ?_⟩) (by assumption) ?_
          rotate_left
          · (intro wS hSw; (try dsimp only at hSw); go_simp; try with_reducible rfl)
          try simp only [Act.put, List.setIfInBounds_toArray, List.set_cons_zero, List.set_cons_succ]
          refine wpAnyH_take (i := 8) (oi := { dst := Option.some 80, op := Op.move (Operand.tmp 9), type := 9, pos := _, after := #[], guard := Option.none }) (v := ?_) rfl (by kernel_rfl) (by kernel_rfl) (by kernel_rfl) (fun _ _ _ h => h) (Or.inl ⟨by rfl, ?_⟩) (by assumption) ?_
          rotate_left
          · (intro wS hSw; (try dsimp only at hSw); go_simp; try with_reducible rfl)
          try simp only [Act.put, List.setIfInBounds_toArray, List.set_cons_zero, List.set_cons_succ]
          refine wpAnyH_take (i := 9) (oi := { dst := Option.some 81, op := Op.move (Operand.tmp 10), type := 3, pos := _, after := #[], guard := Option.none }) (v := ?_) rfl (by kernel_rfl) (by kernel_rfl) (by kernel_rfl) (fun _ _ _ h => h) (Or.inl ⟨by rfl, ?_⟩) (by assumption) ?_
          rotate_left
          · (intro wS hSw; (try dsimp only at hSw); go_simp; try with_reducible rfl)
          try simp only [Act.put, List.setIfInBounds_toArray, List.set_cons_zero, List.set_cons_succ]
          refine wpAnyH_take (i := 10) (oi := { dst := Option.some 82, op := Op.slice 9 (Operand.tmp 80) Option.none (Option.some (Operand.tmp 81)) Option.none, type := 9, pos := _, after := #[{ on := 8, ground := Ground.data }, { on := 9, ground := Ground.data }], guard := Option.none }) (v := ?_) rfl (by kernel_rfl) (by kernel_rfl) (by kernel_rfl) (fun _ _ _ h => h) (Or.inl ⟨by rfl, ?_⟩) (by assumption) ?_
          rotate_left
          · (intro wS hSw; (try dsimp only at hSw); go_simp; try with_reducible rfl)
          try simp only [Act.put, List.setIfInBounds_toArray, List.set_cons_zero, List.set_cons_succ]
          refine wpAnyH_take (i := 11) (oi := { dst := Option.some 83, op := Op.move (Operand.tmp 9), type := 9, pos := _, after := #[], guard := Option.none }) (v := ?_) rfl (by kernel_rfl) (by kernel_rfl) (by kernel_rfl) (fun _ _ _ h => h) (Or.inl ⟨by rfl, ?_⟩) (by assumption) ?_
          rotate_left
          · (intro wS hSw; (try dsimp only at hSw); go_simp; try with_reducible rfl)
          try simp only [Act.put, List.setIfInBounds_toArray, List.set_cons_zero, List.set_cons_succ]
          refine wpAnyH_take (i := 12) (oi := { dst := Option.some 84, op := Op.move (Operand.tmp 10), type := 3, pos := _, after := #[], guard := Option.none }) (v := ?_) rfl (by kernel_rfl) (by kernel_rfl) (by kernel_rfl) (fun _ _ _ h => h) (Or.inl ⟨by rfl, ?_⟩) (by assumption) ?_
          rotate_left
          · (intro wS hSw; (try dsimp only at hSw); go_simp; try with_reducible rfl)
          try simp only [Act.put, List.setIfInBounds_toArray, List.set_cons_zero, List.set_cons_succ]
          refine wpAnyH_take (i := 13) (oi := { dst := Option.some 85, op := Op.slice 9 (Operand.tmp 83) (Option.some (Operand.tmp 84)) Option.none Option.none, type := 9, pos := _, after := #[{ on := 11, ground := Ground.data }, { on := 12, ground := Ground.data }], guard := Option.none }) (v := ?_) rfl (by kernel_rfl) (by kernel_rfl) (by kernel_rfl) (fun _ _ _ h => h) (Or.inl ⟨by rfl, ?_⟩) (by assumption) ?_
          rotate_left
          · (intro wS hSw; (try dsimp only at hSw); go_simp; try with_reducible rfl)
          try simp only [Act.put, List.setIfInBounds_toArray, List.set_cons_zero, List.set_cons_succ]
          refine wpAnyH_ready (rs := [1, 3]) (by kernel_rfl) (by simp) ?_
          refine AllReadyH.cons (o := { dst := Option.some 73, op := Op.load 22 (Operand.tmp 72), type := 22, pos := _, after := #[{ on := 0, ground := Ground.data }], guard := Option.none }) rfl (fun K hK => ?_) ?_
          · go_simp
            refine hK.out _ _ (by (first | exact HM.out.drew.fz | exact (HM.out.alloc _).fz | exact (HM.out.alloc _).drew.fz | exact (HM.out.drew.alloc _).fz | exact y10 | exact hP.fz | assumption)) (fun hHeld => ?_)
            clear hK K
            try simp only [Act.put, List.setIfInBounds_toArray, List.set_cons_zero, List.set_cons_succ]
            refine wpAnyH_ready (rs := [3]) (by kernel_rfl) (by simp) ?_
            refine AllReadyH.cons (o := { dst := Option.some 75, op := Op.call { callee := Callee.value (Operand.func 63), args := #[Operand.tmp 74, Operand.const (Value.int IntKind.i64 0)], argTypes := #[9, 3] }, type := 3, pos := _, after := #[{ on := 2, ground := Ground.data }], guard := Option.none }) rfl (fun K hK => ?_) ?_
            · go_simp
              (first | (go_at_call 63; ((with_reducible refine (K0.out _).mono ?_); rintro e w' ⟨rfl, rfl⟩)) | (go_at_call 63; ((with_reducible refine (K1.out _).mono ?_); rintro e w' ⟨rfl, rfl⟩)) | (go_at_call 63; ((with_reducible refine (K2.out _).mono ?_); rintro e w' ⟨rfl, rfl⟩)) | (refine step_append_lies _ (by rfl) _ _ _ (by rfl) _ 29 i9 (.agg #[.int .i64 0, .int .i64 0, .int .i64 0, .string ⟨#[]⟩, .string ⟨#[]⟩]) 5 56 Tryz.underlying22 hi9 hz90 hz91 hz92 rfl (by decide) _ cur.length (rcells cur) (by rfl) (HM.out.drew.alloc _).own ⟨wr.heap.size, 0, none⟩ 1 1 (ficells x) (by rfl) (by rfl) (World.news_of_block (cs := #[.int .i64 x.n, .int .i64 x.level, .int .i64 x.count, .string x.first, .string x.last]) (t := 29) (fr := (0, 0)) (heap_alloc_new wr.drew _)) HONE.out Nat.one_pos (by unfold maxLen; omega) (by omega) (HM.out.drew.alloc _).kept.size _ rfl ?_; intro gg cap3 w10 hown1 hgrow hat hlt9; obtain ⟨⟨y10, z10⟩, hP⟩ := (HM.out.drew.alloc _).push hgrow hown1) | (refine step_append_lies _ (by rfl) _ _ _ (by rfl) _ 29 i9 (.agg #[.int .i64 0, .int .i64 0, .int .i64 0, .string ⟨#[]⟩, .string ⟨#[]⟩]) 5 56 Tryz.underlying22 hi9 hz90 hz91 hz92 rfl (by decide) _ cur.length (rcells cur) (by rfl) (HM.out.alloc _).drew.own ⟨wr.heap.size, 0, none⟩ 1 1 (ficells x) (by rfl) (by rfl) (World.news_of_block (cs := #[.int .i64 x.n, .int .i64 x.level, .int .i64 x.count, .string x.first, .string x.last]) (t := 29) (fr := (0, 0)) (heap_alloc_new wr _)) HONE.out Nat.one_pos (by unfold maxLen; omega) (by omega) (HM.out.alloc _).drew.kept.size _ rfl ?_; intro gg cap3 w10 hown1 hgrow hat hlt9; obtain ⟨⟨y10, z10⟩, hP⟩ := (HM.out.alloc _).drew.push hgrow hown1))
              refine hK.out _ _ (by (first | exact HM.out.drew.fz | exact (HM.out.alloc _).fz | exact (HM.out.alloc _).drew.fz | exact (HM.out.drew.alloc _).fz | exact y10 | exact hP.fz | assumption)) (fun hHeld => ?_)
              clear hK K
              try simp only [Act.put, List.setIfInBounds_toArray, List.set_cons_zero, List.set_cons_succ]
              refine wpAnyH_ready (rs := [5]) (by kernel_rfl) (by simp) ?_
              refine AllReadyH.cons (o := { dst := Option.some 77, op := Op.call { callee := Callee.value (Operand.func 63), args := #[Operand.tmp 76, Operand.const (Value.int IntKind.i64 1)], argTypes := #[9, 3] }, type := 3, pos := _, after := #[{ on := 4, ground := Ground.data }, { on := 3, ground := Ground.chain }], guard := Option.none }) rfl (fun K hK => ?_) ?_
              · go_simp
                (first | (go_at_call 63; ((with_reducible refine (K0.out _).mono ?_); rintro e w' ⟨rfl, rfl⟩)) | (go_at_call 63; ((with_reducible refine (K1.out _).mono ?_); rintro e w' ⟨rfl, rfl⟩)) | (go_at_call 63; ((with_reducible refine (K2.out _).mono ?_); rintro e w' ⟨rfl, rfl⟩)) | (refine step_append_lies _ (by rfl) _ _ _ (by rfl) _ 29 i9 (.agg #[.int .i64 0, .int .i64 0, .int .i64 0, .string ⟨#[]⟩, .string ⟨#[]⟩]) 5 56 Tryz.underlying22 hi9 hz90 hz91 hz92 rfl (by decide) _ cur.length (rcells cur) (by rfl) (HM.out.drew.alloc _).own ⟨wr.heap.size, 0, none⟩ 1 1 (ficells x) (by rfl) (by rfl) (World.news_of_block (cs := #[.int .i64 x.n, .int .i64 x.level, .int .i64 x.count, .string x.first, .string x.last]) (t := 29) (fr := (0, 0)) (heap_alloc_new wr.drew _)) HONE.out Nat.one_pos (by unfold maxLen; omega) (by omega) (HM.out.drew.alloc _).kept.size _ rfl ?_; intro gg cap3 w10 hown1 hgrow hat hlt9; obtain ⟨⟨y10, z10⟩, hP⟩ := (HM.out.drew.alloc _).push hgrow hown1) | (refine step_append_lies _ (by rfl) _ _ _ (by rfl) _ 29 i9 (.agg #[.int .i64 0, .int .i64 0, .int .i64 0, .string ⟨#[]⟩, .string ⟨#[]⟩]) 5 56 Tryz.underlying22 hi9 hz90 hz91 hz92 rfl (by decide) _ cur.length (rcells cur) (by rfl) (HM.out.alloc _).drew.own ⟨wr.heap.size, 0, none⟩ 1 1 (ficells x) (by rfl) (by rfl) (World.news_of_block (cs := #[.int .i64 x.n, .int .i64 x.level, .int .i64 x.count, .string x.first, .string x.last]) (t := 29) (fr := (0, 0)) (heap_alloc_new wr _)) HONE.out Nat.one_pos (by unfold maxLen; omega) (by omega) (HM.out.alloc _).drew.kept.size _ rfl ?_; intro gg cap3 w10 hown1 hgrow hat hlt9; obtain ⟨⟨y10, z10⟩, hP⟩ := (HM.out.alloc _).drew.push hgrow hown1))
                refine hK.out _ _ (by (first | exact HM.out.drew.fz | exact (HM.out.alloc _).fz | exact (HM.out.alloc _).drew.fz | exact (HM.out.drew.alloc _).fz | exact y10 | exact hP.fz | assumption)) (fun hHeld => ?_)
                clear hK K
                try simp only [Act.put, List.setIfInBounds_toArray, List.set_cons_zero, List.set_cons_succ]
                refine wpAnyH_ready (rs := [7]) (by kernel_rfl) (by simp) ?_
                refine AllReadyH.cons (o := { dst := Option.some 79, op := Op.call { callee := Callee.value (Operand.func 63), args := #[Operand.tmp 78, Operand.const (Value.int IntKind.i64 2)], argTypes := #[9, 3] }, type := 3, pos := _, after := #[{ on := 6, ground := Ground.data }, { on := 5, ground := Ground.chain }], guard := Option.none }) rfl (fun K hK => ?_) ?_
                · go_simp
                  (first | (go_at_call 63; ((with_reducible refine (K0.out _).mono ?_); rintro e w' ⟨rfl, rfl⟩)) | (go_at_call 63; ((with_reducible refine (K1.out _).mono ?_); rintro e w' ⟨rfl, rfl⟩)) | (go_at_call 63; ((with_reducible refine (K2.out _).mono ?_); rintro e w' ⟨rfl, rfl⟩)) | (refine step_append_lies _ (by rfl) _ _ _ (by rfl) _ 29 i9 (.agg #[.int .i64 0, .int .i64 0, .int .i64 0, .string ⟨#[]⟩, .string ⟨#[]⟩]) 5 56 Tryz.underlying22 hi9 hz90 hz91 hz92 rfl (by decide) _ cur.length (rcells cur) (by rfl) (HM.out.drew.alloc _).own ⟨wr.heap.size, 0, none⟩ 1 1 (ficells x) (by rfl) (by rfl) (World.news_of_block (cs := #[.int .i64 x.n, .int .i64 x.level, .int .i64 x.count, .string x.first, .string x.last]) (t := 29) (fr := (0, 0)) (heap_alloc_new wr.drew _)) HONE.out Nat.one_pos (by unfold maxLen; omega) (by omega) (HM.out.drew.alloc _).kept.size _ rfl ?_; intro gg cap3 w10 hown1 hgrow hat hlt9; obtain ⟨⟨y10, z10⟩, hP⟩ := (HM.out.drew.alloc _).push hgrow hown1) | (refine step_append_lies _ (by rfl) _ _ _ (by rfl) _ 29 i9 (.agg #[.int .i64 0, .int .i64 0, .int .i64 0, .string ⟨#[]⟩, .string ⟨#[]⟩]) 5 56 Tryz.underlying22 hi9 hz90 hz91 hz92 rfl (by decide) _ cur.length (rcells cur) (by rfl) (HM.out.alloc _).drew.own ⟨wr.heap.size, 0, none⟩ 1 1 (ficells x) (by rfl) (by rfl) (World.news_of_block (cs := #[.int .i64 x.n, .int .i64 x.level, .int .i64 x.count, .string x.first, .string x.last]) (t := 29) (fr := (0, 0)) (heap_alloc_new wr _)) HONE.out Nat.one_pos (by unfold maxLen; omega) (by omega) (HM.out.alloc _).drew.kept.size _ rfl ?_; intro gg cap3 w10 hown1 hgrow hat hlt9; obtain ⟨⟨y10, z10⟩, hP⟩ := (HM.out.alloc _).drew.push hgrow hown1))
                  refine hK.out _ _ (by (first | exact HM.out.drew.fz | exact (HM.out.alloc _).fz | exact (HM.out.alloc _).drew.fz | exact (HM.out.drew.alloc _).fz | exact y10 | exact hP.fz | assumption)) (fun hHeld => ?_)
                  clear hK K
                  try simp only [Act.put, List.setIfInBounds_toArray, List.set_cons_zero, List.set_cons_succ]
                  refine wpAnyH_take (i := 14) (oi := { dst := Option.some 86, op := Op.build 29 #[(0, Operand.tmp 75), (1, Operand.tmp 77), (2, Operand.tmp 79), (3, Operand.tmp 82), (4, Operand.tmp 85)], type := 29, pos := _, after := #[{ on := 3, ground := Ground.data }, { on := 5, ground := Ground.data }, { on := 7, ground := Ground.data }, { on := 10, ground := Ground.data }, { on := 13, ground := Ground.data }], guard := Option.none }) (v := ?_) rfl (by kernel_rfl) (by kernel_rfl) (by kernel_rfl) (fun _ _ _ h => h) (Or.inl ⟨by rfl, ?_⟩) (by assumption) ?_
                  rotate_left
                  · (intro wS hSw; (try dsimp only at hSw); go_simp; try with_reducible rfl)
                  try simp only [Act.put, List.setIfInBounds_toArray, List.set_cons_zero, List.set_cons_succ]
                  refine wpAnyH_ready (rs := [15]) (by kernel_rfl) (by simp) ?_
                  refine AllReadyH.cons (o := { dst := Option.some 87, op := Op.buildSlice 22 1 #[(0, Operand.tmp 86)], type := 22, pos := _, after := #[{ on := 14, ground := Ground.data }], guard := Option.none }) rfl (fun K hK => ?_) ?_
                  · go_simp
                    refine hK.out _ _ (by (first | exact HM.out.drew.fz | exact (HM.out.alloc _).fz | exact (HM.out.alloc _).drew.fz | exact (HM.out.drew.alloc _).fz | exact y10 | exact hP.fz | assumption)) (fun hHeld => ?_)
                    clear hK K
                    try simp only [Act.put, List.setIfInBounds_toArray, List.set_cons_zero, List.set_cons_succ]
                    refine wpAnyH_ready (rs := [16]) (by kernel_rfl) (by simp) ?_
                    refine AllReadyH.cons (o := { dst := Option.some 88, op := Op.call { callee := Callee.builtin Builtin.append, args := #[Operand.tmp 73, Operand.tmp 87], argTypes := #[22, 22] }, type := 22, pos := _, after := #[{ on := 1, ground := Ground.data }, { on := 15, ground := Ground.data }, { on := 7, ground := Ground.chain }], guard := Option.none }) rfl (fun K hK => ?_) ?_
                    · (first | (go_at_call 63; ((with_reducible refine (K0.out _).mono ?_); rintro e w' ⟨rfl, rfl⟩)) | (go_at_call 63; ((with_reducible refine (K1.out _).mono ?_); rintro e w' ⟨rfl, rfl⟩)) | (go_at_call 63; ((with_reducible refine (K2.out _).mono ?_); rintro e w' ⟨rfl, rfl⟩)) | (refine step_append_lies _ (by rfl) _ _ _ (by rfl) _ 29 i9 (.agg #[.int .i64 0, .int .i64 0, .int .i64 0, .string ⟨#[]⟩, .string ⟨#[]⟩]) 5 56 Tryz.underlying22 hi9 hz90 hz91 hz92 rfl (by decide) _ cur.length (rcells cur) (by rfl) (HM.out.drew.alloc _).own ⟨wr.heap.size, 0, none⟩ 1 1 (ficells x) (by rfl) (by rfl) (World.news_of_block (cs := #[.int .i64 x.n, .int .i64 x.level, .int .i64 x.count, .string x.first, .string x.last]) (t := 29) (fr := (0, 0)) (heap_alloc_new wr.drew _)) HONE.out Nat.one_pos (by unfold maxLen; omega) (by omega) (HM.out.drew.alloc _).kept.size _ rfl ?_; intro gg cap3 w10 hown1 hgrow hat hlt9; obtain ⟨⟨y10, z10⟩, hP⟩ := (HM.out.drew.alloc _).push hgrow hown1) | (refine step_append_lies _ (by rfl) _ _ _ (by rfl) _ 29 i9 (.agg #[.int .i64 0, .int .i64 0, .int .i64 0, .string ⟨#[]⟩, .string ⟨#[]⟩]) 5 56 Tryz.underlying22 hi9 hz90 hz91 hz92 rfl (by decide) _ cur.length (rcells cur) (by rfl) (HM.out.alloc _).drew.own ⟨wr.heap.size, 0, none⟩ 1 1 (ficells x) (by rfl) (by rfl) (World.news_of_block (cs := #[.int .i64 x.n, .int .i64 x.level, .int .i64 x.count, .string x.first, .string x.last]) (t := 29) (fr := (0, 0)) (heap_alloc_new wr _)) HONE.out Nat.one_pos (by unfold maxLen; omega) (by omega) (HM.out.alloc _).drew.kept.size _ rfl ?_; intro gg cap3 w10 hown1 hgrow hat hlt9; obtain ⟨⟨y10, z10⟩, hP⟩ := (HM.out.alloc _).drew.push hgrow hown1))
                      refine hK.out _ _ (by (first | exact HM.out.drew.fz | exact (HM.out.alloc _).fz | exact (HM.out.alloc _).drew.fz | exact (HM.out.drew.alloc _).fz | exact y10 | exact hP.fz | assumption)) (fun hHeld => ?_)
                      clear hK K
                      try simp only [Act.put, List.setIfInBounds_toArray, List.set_cons_zero, List.set_cons_succ]
                      refine wpAnyH_take (i := 17) (oi := { dst := Option.some 89, op := Op.fieldAddr 24 (Operand.tmp 6) 2, type := 0, pos := _, after := #[{ on := 0, ground := Ground.phase }, { on := 1, ground := Ground.phase }, { on := 2, ground := Ground.phase }, { on := 3, ground := Ground.phase }, { on := 4, ground := Ground.phase }, { on := 5, ground := Ground.phase }, { on := 6, ground := Ground.phase }, { on := 7, ground := Ground.phase }, { on := 8, ground := Ground.phase }, { on := 9, ground := Ground.phase }, { on := 10, ground := Ground.phase }, { on := 11, ground := Ground.phase }, { on := 12, ground := Ground.phase }, { on := 13, ground := Ground.phase }, { on := 14, ground := Ground.phase }, { on := 15, ground := Ground.phase }, { on := 16, ground := Ground.phase }], guard := Option.none }) (v := ?_) rfl (by kernel_rfl) (by kernel_rfl) (by kernel_rfl) (fun _ _ _ h => h) (Or.inl ⟨by rfl, ?_⟩) (by assumption) ?_
                      rotate_left
                      · (intro wS hSw; (try dsimp only at hSw); go_simp; try with_reducible rfl)
                      try simp only [Act.put, List.setIfInBounds_toArray, List.set_cons_zero, List.set_cons_succ]
                      refine wpAnyH_ready (rs := [18]) (by kernel_rfl) (by simp) ?_
                      refine AllReadyH.cons (o := { dst := Option.none, op := Op.store 22 (Operand.tmp 89) (Operand.tmp 88), type := 0, pos := _, after := #[{ on := 17, ground := Ground.data }, { on := 16, ground := Ground.data }, { on := 16, ground := Ground.chain }, { on := 0, ground := Ground.phase }, { on := 1, ground := Ground.phase }, { on := 2, ground := Ground.phase }, { on := 3, ground := Ground.phase }, { on := 4, ground := Ground.phase }, { on := 5, ground := Ground.phase }, { on := 6, ground := Ground.phase }, { on := 7, ground := Ground.phase }, { on := 8, ground := Ground.phase }, { on := 9, ground := Ground.phase }, { on := 10, ground := Ground.phase }, { on := 11, ground := Ground.phase }, { on := 12, ground := Ground.phase }, { on := 13, ground := Ground.phase }, { on := 14, ground := Ground.phase }, { on := 15, ground := Ground.phase }, { on := 16, ground := Ground.phase }], guard := Option.none }) rfl (fun K hK => ?_) ?_
                      · go_simp
                        refine hK.out _ _ (by (first | exact HM.out.drew.fz | exact (HM.out.alloc _).fz | exact (HM.out.alloc _).drew.fz | exact (HM.out.drew.alloc _).fz | exact y10 | exact hP.fz | assumption)) (fun hHeld => ?_)
                        clear hK K
                        try simp only [Act.put, List.setIfInBounds_toArray, List.set_cons_zero, List.set_cons_succ]
                        refine wpAnyH_done (by kernel_rfl) ?_ _
                        refine NoPanic.normal ?_
                        have HPP := Lib.hid hP
                        clear hP hown1 hgrow
                        go_wp2_with fail
                        exact ⟨⟨k + 1, by omega, by go_num, by rw [HS.out]; exact ⟨_, HPP.out⟩⟩, by simp [intOf]; omega⟩
                      exact AllReadyH.nil
                    exact AllReadyH.nil
                  exact AllReadyH.nil
                exact AllReadyH.nil
              exact AllReadyH.nil
            exact AllReadyH.nil
          refine AllReadyH.cons (o := { dst := Option.some 75, op := Op.call { callee := Callee.value (Operand.func 63), args := #[Operand.tmp 74, Operand.const (Value.int IntKind.i64 0)], argTypes := #[9, 3] }, type := 3, pos := _, after := #[{ on := 2, ground := Ground.data }], guard := Option.none }) rfl (fun K hK => ?_) ?_
          · go_simp
            (first | (go_at_call 63; ((with_reducible refine (K0.out _).mono ?_); rintro e w' ⟨rfl, rfl⟩)) | (go_at_call 63; ((with_reducible refine (K1.out _).mono ?_); rintro e w' ⟨rfl, rfl⟩)) | (go_at_call 63; ((with_reducible refine (K2.out _).mono ?_); rintro e w' ⟨rfl, rfl⟩)) | (refine step_append_lies _ (by rfl) _ _ _ (by rfl) _ 29 i9 (.agg #[.int .i64 0, .int .i64 0, .int .i64 0, .string ⟨#[]⟩, .string ⟨#[]⟩]) 5 56 Tryz.underlying22 hi9 hz90 hz91 hz92 rfl (by decide) _ cur.length (rcells cur) (by rfl) (HM.out.drew.alloc _).own ⟨wr.heap.size, 0, none⟩ 1 1 (ficells x) (by rfl) (by rfl) (World.news_of_block (cs := #[.int .i64 x.n, .int .i64 x.level, .int .i64 x.count, .string x.first, .string x.last]) (t := 29) (fr := (0, 0)) (heap_alloc_new wr.drew _)) HONE.out Nat.one_pos (by unfold maxLen; omega) (by omega) (HM.out.drew.alloc _).kept.size _ rfl ?_; intro gg cap3 w10 hown1 hgrow hat hlt9; obtain ⟨⟨y10, z10⟩, hP⟩ := (HM.out.drew.alloc _).push hgrow hown1) | (refine step_append_lies _ (by rfl) _ _ _ (by rfl) _ 29 i9 (.agg #[.int .i64 0, .int .i64 0, .int .i64 0, .string ⟨#[]⟩, .string ⟨#[]⟩]) 5 56 Tryz.underlying22 hi9 hz90 hz91 hz92 rfl (by decide) _ cur.length (rcells cur) (by rfl) (HM.out.alloc _).drew.own ⟨wr.heap.size, 0, none⟩ 1 1 (ficells x) (by rfl) (by rfl) (World.news_of_block (cs := #[.int .i64 x.n, .int .i64 x.level, .int .i64 x.count, .string x.first, .string x.last]) (t := 29) (fr := (0, 0)) (heap_alloc_new wr _)) HONE.out Nat.one_pos (by unfold maxLen; omega) (by omega) (HM.out.alloc _).drew.kept.size _ rfl ?_; intro gg cap3 w10 hown1 hgrow hat hlt9; obtain ⟨⟨y10, z10⟩, hP⟩ := (HM.out.alloc _).drew.push hgrow hown1))
            refine hK.out _ _ (by (first | exact HM.out.drew.fz | exact (HM.out.alloc _).fz | exact (HM.out.alloc _).drew.fz | exact (HM.out.drew.alloc _).fz | exact y10 | exact hP.fz | assumption)) (fun hHeld => ?_)
            clear hK K
            try simp only [Act.put, List.setIfInBounds_toArray, List.set_cons_zero, List.set_cons_succ]
            refine wpAnyH_ready (rs := [1, 5]) (by kernel_rfl) (by simp) ?_
            refine AllReadyH.cons (o := { dst := Option.some 73, op := Op.load 22 (Operand.tmp 72), type := 22, pos := _, after := #[{ on := 0, ground := Ground.data }], guard := Option.none }) rfl (fun K hK => ?_) ?_
            · go_simp
              refine hK.out _ _ (by (first | exact HM.out.drew.fz | exact (HM.out.alloc _).fz | exact (HM.out.alloc _).drew.fz | exact (HM.out.drew.alloc _).fz | exact y10 | exact hP.fz | assumption)) (fun hHeld => ?_)
              clear hK K
              try simp only [Act.put, List.setIfInBounds_toArray, List.set_cons_zero, List.set_cons_succ]
              refine wpAnyH_ready (rs := [5]) (by kernel_rfl) (by simp) ?_
              refine AllReadyH.cons (o := { dst := Option.some 77, op := Op.call { callee := Callee.value (Operand.func 63), args := #[Operand.tmp 76, Operand.const (Value.int IntKind.i64 1)], argTypes := #[9, 3] }, type := 3, pos := _, after := #[{ on := 4, ground := Ground.data }, { on := 3, ground := Ground.chain }], guard := Option.none }) rfl (fun K hK => ?_) ?_
              · go_simp
                (first | (go_at_call 63; ((with_reducible refine (K0.out _).mono ?_); rintro e w' ⟨rfl, rfl⟩)) | (go_at_call 63; ((with_reducible refine (K1.out _).mono ?_); rintro e w' ⟨rfl, rfl⟩)) | (go_at_call 63; ((with_reducible refine (K2.out _).mono ?_); rintro e w' ⟨rfl, rfl⟩)) | (refine step_append_lies _ (by rfl) _ _ _ (by rfl) _ 29 i9 (.agg #[.int .i64 0, .int .i64 0, .int .i64 0, .string ⟨#[]⟩, .string ⟨#[]⟩]) 5 56 Tryz.underlying22 hi9 hz90 hz91 hz92 rfl (by decide) _ cur.length (rcells cur) (by rfl) (HM.out.drew.alloc _).own ⟨wr.heap.size, 0, none⟩ 1 1 (ficells x) (by rfl) (by rfl) (World.news_of_block (cs := #[.int .i64 x.n, .int .i64 x.level, .int .i64 x.count, .string x.first, .string x.last]) (t := 29) (fr := (0, 0)) (heap_alloc_new wr.drew _)) HONE.out Nat.one_pos (by unfold maxLen; omega) (by omega) (HM.out.drew.alloc _).kept.size _ rfl ?_; intro gg cap3 w10 hown1 hgrow hat hlt9; obtain ⟨⟨y10, z10⟩, hP⟩ := (HM.out.drew.alloc _).push hgrow hown1) | (refine step_append_lies _ (by rfl) _ _ _ (by rfl) _ 29 i9 (.agg #[.int .i64 0, .int .i64 0, .int .i64 0, .string ⟨#[]⟩, .string ⟨#[]⟩]) 5 56 Tryz.underlying22 hi9 hz90 hz91 hz92 rfl (by decide) _ cur.length (rcells cur) (by rfl) (HM.out.alloc _).drew.own ⟨wr.heap.size, 0, none⟩ 1 1 (ficells x) (by rfl) (by rfl) (World.news_of_block (cs := #[.int .i64 x.n, .int .i64 x.level, .int .i64 x.count, .string x.first, .string x.last]) (t := 29) (fr := (0, 0)) (heap_alloc_new wr _)) HONE.out Nat.one_pos (by unfold maxLen; omega) (by omega) (HM.out.alloc _).drew.kept.size _ rfl ?_; intro gg cap3 w10 hown1 hgrow hat hlt9; obtain ⟨⟨y10, z10⟩, hP⟩ := (HM.out.alloc _).drew.push hgrow hown1))
                refine hK.out _ _ (by (first | exact HM.out.drew.fz | exact (HM.out.alloc _).fz | exact (HM.out.alloc _).drew.fz | exact (HM.out.drew.alloc _).fz | exact y10 | exact hP.fz | assumption)) (fun hHeld => ?_)
                clear hK K
                try simp only [Act.put, List.setIfInBounds_toArray, List.set_cons_zero, List.set_cons_succ]
                refine wpAnyH_ready (rs := [7]) (by kernel_rfl) (by simp) ?_
                refine AllReadyH.cons (o := { dst := Option.some 79, op := Op.call { callee := Callee.value (Operand.func 63), args := #[Operand.tmp 78, Operand.const (Value.int IntKind.i64 2)], argTypes := #[9, 3] }, type := 3, pos := _, after := #[{ on := 6, ground := Ground.data }, { on := 5, ground := Ground.chain }], guard := Option.none }) rfl (fun K hK => ?_) ?_
                · go_simp
                  (first | (go_at_call 63; ((with_reducible refine (K0.out _).mono ?_); rintro e w' ⟨rfl, rfl⟩)) | (go_at_call 63; ((with_reducible refine (K1.out _).mono ?_); rintro e w' ⟨rfl, rfl⟩)) | (go_at_call 63; ((with_reducible refine (K2.out _).mono ?_); rintro e w' ⟨rfl, rfl⟩)) | (refine step_append_lies _ (by rfl) _ _ _ (by rfl) _ 29 i9 (.agg #[.int .i64 0, .int .i64 0, .int .i64 0, .string ⟨#[]⟩, .string ⟨#[]⟩]) 5 56 Tryz.underlying22 hi9 hz90 hz91 hz92 rfl (by decide) _ cur.length (rcells cur) (by rfl) (HM.out.drew.alloc _).own ⟨wr.heap.size, 0, none⟩ 1 1 (ficells x) (by rfl) (by rfl) (World.news_of_block (cs := #[.int .i64 x.n, .int .i64 x.level, .int .i64 x.count, .string x.first, .string x.last]) (t := 29) (fr := (0, 0)) (heap_alloc_new wr.drew _)) HONE.out Nat.one_pos (by unfold maxLen; omega) (by omega) (HM.out.drew.alloc _).kept.size _ rfl ?_; intro gg cap3 w10 hown1 hgrow hat hlt9; obtain ⟨⟨y10, z10⟩, hP⟩ := (HM.out.drew.alloc _).push hgrow hown1) | (refine step_append_lies _ (by rfl) _ _ _ (by rfl) _ 29 i9 (.agg #[.int .i64 0, .int .i64 0, .int .i64 0, .string ⟨#[]⟩, .string ⟨#[]⟩]) 5 56 Tryz.underlying22 hi9 hz90 hz91 hz92 rfl (by decide) _ cur.length (rcells cur) (by rfl) (HM.out.alloc _).drew.own ⟨wr.heap.size, 0, none⟩ 1 1 (ficells x) (by rfl) (by rfl) (World.news_of_block (cs := #[.int .i64 x.n, .int .i64 x.level, .int .i64 x.count, .string x.first, .string x.last]) (t := 29) (fr := (0, 0)) (heap_alloc_new wr _)) HONE.out Nat.one_pos (by unfold maxLen; omega) (by omega) (HM.out.alloc _).drew.kept.size _ rfl ?_; intro gg cap3 w10 hown1 hgrow hat hlt9; obtain ⟨⟨y10, z10⟩, hP⟩ := (HM.out.alloc _).drew.push hgrow hown1))
                  refine hK.out _ _ (by (first | exact HM.out.drew.fz | exact (HM.out.alloc _).fz | exact (HM.out.alloc _).drew.fz | exact (HM.out.drew.alloc _).fz | exact y10 | exact hP.fz | assumption)) (fun hHeld => ?_)
                  clear hK K
                  try simp only [Act.put, List.setIfInBounds_toArray, List.set_cons_zero, List.set_cons_succ]
                  refine wpAnyH_take (i := 14) (oi := { dst := Option.some 86, op := Op.build 29 #[(0, Operand.tmp 75), (1, Operand.tmp 77), (2, Operand.tmp 79), (3, Operand.tmp 82), (4, Operand.tmp 85)], type := 29, pos := _, after := #[{ on := 3, ground := Ground.data }, { on := 5, ground := Ground.data }, { on := 7, ground := Ground.data }, { on := 10, ground := Ground.data }, { on := 13, ground := Ground.data }], guard := Option.none }) (v := ?_) rfl (by kernel_rfl) (by kernel_rfl) (by kernel_rfl) (fun _ _ _ h => h) (Or.inl ⟨by rfl, ?_⟩) (by assumption) ?_
                  rotate_left
                  · (intro wS hSw; (try dsimp only at hSw); go_simp; try with_reducible rfl)
                  try simp only [Act.put, List.setIfInBounds_toArray, List.set_cons_zero, List.set_cons_succ]
                  refine wpAnyH_ready (rs := [15]) (by kernel_rfl) (by simp) ?_
                  refine AllReadyH.cons (o := { dst := Option.some 87, op := Op.buildSlice 22 1 #[(0, Operand.tmp 86)], type := 22, pos := _, after := #[{ on := 14, ground := Ground.data }], guard := Option.none }) rfl (fun K hK => ?_) ?_
                  · go_simp
                    refine hK.out _ _ (by (first | exact HM.out.drew.fz | exact (HM.out.alloc _).fz | exact (HM.out.alloc _).drew.fz | exact (HM.out.drew.alloc _).fz | exact y10 | exact hP.fz | assumption)) (fun hHeld => ?_)
                    clear hK K
                    try simp only [Act.put, List.setIfInBounds_toArray, List.set_cons_zero, List.set_cons_succ]
                    refine wpAnyH_ready (rs := [16]) (by kernel_rfl) (by simp) ?_
                    refine AllReadyH.cons (o := { dst := Option.some 88, op := Op.call { callee := Callee.builtin Builtin.append, args := #[Operand.tmp 73, Operand.tmp 87], argTypes := #[22, 22] }, type := 22, pos := _, after := #[{ on := 1, ground := Ground.data }, { on := 15, ground := Ground.data }, { on := 7, ground := Ground.chain }], guard := Option.none }) rfl (fun K hK => ?_) ?_
                    · (first | (go_at_call 63; ((with_reducible refine (K0.out _).mono ?_); rintro e w' ⟨rfl, rfl⟩)) | (go_at_call 63; ((with_reducible refine (K1.out _).mono ?_); rintro e w' ⟨rfl, rfl⟩)) | (go_at_call 63; ((with_reducible refine (K2.out _).mono ?_); rintro e w' ⟨rfl, rfl⟩)) | (refine step_append_lies _ (by rfl) _ _ _ (by rfl) _ 29 i9 (.agg #[.int .i64 0, .int .i64 0, .int .i64 0, .string ⟨#[]⟩, .string ⟨#[]⟩]) 5 56 Tryz.underlying22 hi9 hz90 hz91 hz92 rfl (by decide) _ cur.length (rcells cur) (by rfl) (HM.out.drew.alloc _).own ⟨wr.heap.size, 0, none⟩ 1 1 (ficells x) (by rfl) (by rfl) (World.news_of_block (cs := #[.int .i64 x.n, .int .i64 x.level, .int .i64 x.count, .string x.first, .string x.last]) (t := 29) (fr := (0, 0)) (heap_alloc_new wr.drew _)) HONE.out Nat.one_pos (by unfold maxLen; omega) (by omega) (HM.out.drew.alloc _).kept.size _ rfl ?_; intro gg cap3 w10 hown1 hgrow hat hlt9; obtain ⟨⟨y10, z10⟩, hP⟩ := (HM.out.drew.alloc _).push hgrow hown1) | (refine step_append_lies _ (by rfl) _ _ _ (by rfl) _ 29 i9 (.agg #[.int .i64 0, .int .i64 0, .int .i64 0, .string ⟨#[]⟩, .string ⟨#[]⟩]) 5 56 Tryz.underlying22 hi9 hz90 hz91 hz92 rfl (by decide) _ cur.length (rcells cur) (by rfl) (HM.out.alloc _).drew.own ⟨wr.heap.size, 0, none⟩ 1 1 (ficells x) (by rfl) (by rfl) (World.news_of_block (cs := #[.int .i64 x.n, .int .i64 x.level, .int .i64 x.count, .string x.first, .string x.last]) (t := 29) (fr := (0, 0)) (heap_alloc_new wr _)) HONE.out Nat.one_pos (by unfold maxLen; omega) (by omega) (HM.out.alloc _).drew.kept.size _ rfl ?_; intro gg cap3 w10 hown1 hgrow hat hlt9; obtain ⟨⟨y10, z10⟩, hP⟩ := (HM.out.alloc _).drew.push hgrow hown1))
                      refine hK.out _ _ (by (first | exact HM.out.drew.fz | exact (HM.out.alloc _).fz | exact (HM.out.alloc _).drew.fz | exact (HM.out.drew.alloc _).fz | exact y10 | exact hP.fz | assumption)) (fun hHeld => ?_)
                      clear hK K
                      try simp only [Act.put, List.setIfInBounds_toArray, List.set_cons_zero, List.set_cons_succ]
                      refine wpAnyH_take (i := 17) (oi := { dst := Option.some 89, op := Op.fieldAddr 24 (Operand.tmp 6) 2, type := 0, pos := _, after := #[{ on := 0, ground := Ground.phase }, { on := 1, ground := Ground.phase }, { on := 2, ground := Ground.phase }, { on := 3, ground := Ground.phase }, { on := 4, ground := Ground.phase }, { on := 5, ground := Ground.phase }, { on := 6, ground := Ground.phase }, { on := 7, ground := Ground.phase }, { on := 8, ground := Ground.phase }, { on := 9, ground := Ground.phase }, { on := 10, ground := Ground.phase }, { on := 11, ground := Ground.phase }, { on := 12, ground := Ground.phase }, { on := 13, ground := Ground.phase }, { on := 14, ground := Ground.phase }, { on := 15, ground := Ground.phase }, { on := 16, ground := Ground.phase }], guard := Option.none }) (v := ?_) rfl (by kernel_rfl) (by kernel_rfl) (by kernel_rfl) (fun _ _ _ h => h) (Or.inl ⟨by rfl, ?_⟩) (by assumption) ?_
                      rotate_left
                      · (intro wS hSw; (try dsimp only at hSw); go_simp; try with_reducible rfl)
                      try simp only [Act.put, List.setIfInBounds_toArray, List.set_cons_zero, List.set_cons_succ]
                      refine wpAnyH_ready (rs := [18]) (by kernel_rfl) (by simp) ?_
                      refine AllReadyH.cons (o := { dst := Option.none, op := Op.store 22 (Operand.tmp 89) (Operand.tmp 88), type := 0, pos := _, after := #[{ on := 17, ground := Ground.data }, { on := 16, ground := Ground.data }, { on := 16, ground := Ground.chain }, { on := 0, ground := Ground.phase }, { on := 1, ground := Ground.phase }, { on := 2, ground := Ground.phase }, { on := 3, ground := Ground.phase }, { on := 4, ground := Ground.phase }, { on := 5, ground := Ground.phase }, { on := 6, ground := Ground.phase }, { on := 7, ground := Ground.phase }, { on := 8, ground := Ground.phase }, { on := 9, ground := Ground.phase }, { on := 10, ground := Ground.phase }, { on := 11, ground := Ground.phase }, { on := 12, ground := Ground.phase }, { on := 13, ground := Ground.phase }, { on := 14, ground := Ground.phase }, { on := 15, ground := Ground.phase }, { on := 16, ground := Ground.phase }], guard := Option.none }) rfl (fun K hK => ?_) ?_
                      · go_simp
                        refine hK.out _ _ (by (first | exact HM.out.drew.fz | exact (HM.out.alloc _).fz | exact (HM.out.alloc _).drew.fz | exact (HM.out.drew.alloc _).fz | exact y10 | exact hP.fz | assumption)) (fun hHeld => ?_)
                        clear hK K
                        try simp only [Act.put, List.setIfInBounds_toArray, List.set_cons_zero, List.set_cons_succ]
                        refine wpAnyH_done (by kernel_rfl) ?_ _
                        refine NoPanic.normal ?_
                        have HPP := Lib.hid hP
                        clear hP hown1 hgrow
                        go_wp2_with fail
                        exact ⟨⟨k + 1, by omega, by go_num, by rw [HS.out]; exact ⟨_, HPP.out⟩⟩, by simp [intOf]; omega⟩
                      exact AllReadyH.nil
                    exact AllReadyH.nil
                  exact AllReadyH.nil
                exact AllReadyH.nil
              exact AllReadyH.nil
            refine AllReadyH.cons (o := { dst := Option.some 77, op := Op.call { callee := Callee.value (Operand.func 63), args := #[Operand.tmp 76, Operand.const (Value.int IntKind.i64 1)], argTypes := #[9, 3] }, type := 3, pos := _, after := #[{ on := 4, ground := Ground.data }, { on := 3, ground := Ground.chain }], guard := Option.none }) rfl (fun K hK => ?_) ?_
            · go_simp
              (first | (go_at_call 63; ((with_reducible refine (K0.out _).mono ?_); rintro e w' ⟨rfl, rfl⟩)) | (go_at_call 63; ((with_reducible refine (K1.out _).mono ?_); rintro e w' ⟨rfl, rfl⟩)) | (go_at_call 63; ((with_reducible refine (K2.out _).mono ?_); rintro e w' ⟨rfl, rfl⟩)) | (refine step_append_lies _ (by rfl) _ _ _ (by rfl) _ 29 i9 (.agg #[.int .i64 0, .int .i64 0, .int .i64 0, .string ⟨#[]⟩, .string ⟨#[]⟩]) 5 56 Tryz.underlying22 hi9 hz90 hz91 hz92 rfl (by decide) _ cur.length (rcells cur) (by rfl) (HM.out.drew.alloc _).own ⟨wr.heap.size, 0, none⟩ 1 1 (ficells x) (by rfl) (by rfl) (World.news_of_block (cs := #[.int .i64 x.n, .int .i64 x.level, .int .i64 x.count, .string x.first, .string x.last]) (t := 29) (fr := (0, 0)) (heap_alloc_new wr.drew _)) HONE.out Nat.one_pos (by unfold maxLen; omega) (by omega) (HM.out.drew.alloc _).kept.size _ rfl ?_; intro gg cap3 w10 hown1 hgrow hat hlt9; obtain ⟨⟨y10, z10⟩, hP⟩ := (HM.out.drew.alloc _).push hgrow hown1) | (refine step_append_lies _ (by rfl) _ _ _ (by rfl) _ 29 i9 (.agg #[.int .i64 0, .int .i64 0, .int .i64 0, .string ⟨#[]⟩, .string ⟨#[]⟩]) 5 56 Tryz.underlying22 hi9 hz90 hz91 hz92 rfl (by decide) _ cur.length (rcells cur) (by rfl) (HM.out.alloc _).drew.own ⟨wr.heap.size, 0, none⟩ 1 1 (ficells x) (by rfl) (by rfl) (World.news_of_block (cs := #[.int .i64 x.n, .int .i64 x.level, .int .i64 x.count, .string x.first, .string x.last]) (t := 29) (fr := (0, 0)) (heap_alloc_new wr _)) HONE.out Nat.one_pos (by unfold maxLen; omega) (by omega) (HM.out.alloc _).drew.kept.size _ rfl ?_; intro gg cap3 w10 hown1 hgrow hat hlt9; obtain ⟨⟨y10, z10⟩, hP⟩ := (HM.out.alloc _).drew.push hgrow hown1))
              refine hK.out _ _ (by (first | exact HM.out.drew.fz | exact (HM.out.alloc _).fz | exact (HM.out.alloc _).drew.fz | exact (HM.out.drew.alloc _).fz | exact y10 | exact hP.fz | assumption)) (fun hHeld => ?_)
              clear hK K
              try simp only [Act.put, List.setIfInBounds_toArray, List.set_cons_zero, List.set_cons_succ]
              refine wpAnyH_ready (rs := [1, 7]) (by kernel_rfl) (by simp) ?_
              refine AllReadyH.cons (o := { dst := Option.some 73, op := Op.load 22 (Operand.tmp 72), type := 22, pos := _, after := #[{ on := 0, ground := Ground.data }], guard := Option.none }) rfl (fun K hK => ?_) ?_
              · go_simp
                refine hK.out _ _ (by (first | exact HM.out.drew.fz | exact (HM.out.alloc _).fz | exact (HM.out.alloc _).drew.fz | exact (HM.out.drew.alloc _).fz | exact y10 | exact hP.fz | assumption)) (fun hHeld => ?_)
                clear hK K
                try simp only [Act.put, List.setIfInBounds_toArray, List.set_cons_zero, List.set_cons_succ]
                refine wpAnyH_ready (rs := [7]) (by kernel_rfl) (by simp) ?_
                refine AllReadyH.cons (o := { dst := Option.some 79, op := Op.call { callee := Callee.value (Operand.func 63), args := #[Operand.tmp 78, Operand.const (Value.int IntKind.i64 2)], argTypes := #[9, 3] }, type := 3, pos := _, after := #[{ on := 6, ground := Ground.data }, { on := 5, ground := Ground.chain }], guard := Option.none }) rfl (fun K hK => ?_) ?_
                · go_simp
                  (first | (go_at_call 63; ((with_reducible refine (K0.out _).mono ?_); rintro e w' ⟨rfl, rfl⟩)) | (go_at_call 63; ((with_reducible refine (K1.out _).mono ?_); rintro e w' ⟨rfl, rfl⟩)) | (go_at_call 63; ((with_reducible refine (K2.out _).mono ?_); rintro e w' ⟨rfl, rfl⟩)) | (refine step_append_lies _ (by rfl) _ _ _ (by rfl) _ 29 i9 (.agg #[.int .i64 0, .int .i64 0, .int .i64 0, .string ⟨#[]⟩, .string ⟨#[]⟩]) 5 56 Tryz.underlying22 hi9 hz90 hz91 hz92 rfl (by decide) _ cur.length (rcells cur) (by rfl) (HM.out.drew.alloc _).own ⟨wr.heap.size, 0, none⟩ 1 1 (ficells x) (by rfl) (by rfl) (World.news_of_block (cs := #[.int .i64 x.n, .int .i64 x.level, .int .i64 x.count, .string x.first, .string x.last]) (t := 29) (fr := (0, 0)) (heap_alloc_new wr.drew _)) HONE.out Nat.one_pos (by unfold maxLen; omega) (by omega) (HM.out.drew.alloc _).kept.size _ rfl ?_; intro gg cap3 w10 hown1 hgrow hat hlt9; obtain ⟨⟨y10, z10⟩, hP⟩ := (HM.out.drew.alloc _).push hgrow hown1) | (refine step_append_lies _ (by rfl) _ _ _ (by rfl) _ 29 i9 (.agg #[.int .i64 0, .int .i64 0, .int .i64 0, .string ⟨#[]⟩, .string ⟨#[]⟩]) 5 56 Tryz.underlying22 hi9 hz90 hz91 hz92 rfl (by decide) _ cur.length (rcells cur) (by rfl) (HM.out.alloc _).drew.own ⟨wr.heap.size, 0, none⟩ 1 1 (ficells x) (by rfl) (by rfl) (World.news_of_block (cs := #[.int .i64 x.n, .int .i64 x.level, .int .i64 x.count, .string x.first, .string x.last]) (t := 29) (fr := (0, 0)) (heap_alloc_new wr _)) HONE.out Nat.one_pos (by unfold maxLen; omega) (by omega) (HM.out.alloc _).drew.kept.size _ rfl ?_; intro gg cap3 w10 hown1 hgrow hat hlt9; obtain ⟨⟨y10, z10⟩, hP⟩ := (HM.out.alloc _).drew.push hgrow hown1))
                  refine hK.out _ _ (by (first | exact HM.out.drew.fz | exact (HM.out.alloc _).fz | exact (HM.out.alloc _).drew.fz | exact (HM.out.drew.alloc _).fz | exact y10 | exact hP.fz | assumption)) (fun hHeld => ?_)
                  clear hK K
                  try simp only [Act.put, List.setIfInBounds_toArray, List.set_cons_zero, List.set_cons_succ]
                  refine wpAnyH_take (i := 14) (oi := { dst := Option.some 86, op := Op.build 29 #[(0, Operand.tmp 75), (1, Operand.tmp 77), (2, Operand.tmp 79), (3, Operand.tmp 82), (4, Operand.tmp 85)], type := 29, pos := _, after := #[{ on := 3, ground := Ground.data }, { on := 5, ground := Ground.data }, { on := 7, ground := Ground.data }, { on := 10, ground := Ground.data }, { on := 13, ground := Ground.data }], guard := Option.none }) (v := ?_) rfl (by kernel_rfl) (by kernel_rfl) (by kernel_rfl) (fun _ _ _ h => h) (Or.inl ⟨by rfl, ?_⟩) (by assumption) ?_
                  rotate_left
                  · (intro wS hSw; (try dsimp only at hSw); go_simp; try with_reducible rfl)
                  try simp only [Act.put, List.setIfInBounds_toArray, List.set_cons_zero, List.set_cons_succ]
                  refine wpAnyH_ready (rs := [15]) (by kernel_rfl) (by simp) ?_
                  refine AllReadyH.cons (o := { dst := Option.some 87, op := Op.buildSlice 22 1 #[(0, Operand.tmp 86)], type := 22, pos := _, after := #[{ on := 14, ground := Ground.data }], guard := Option.none }) rfl (fun K hK => ?_) ?_
                  · go_simp
                    refine hK.out _ _ (by (first | exact HM.out.drew.fz | exact (HM.out.alloc _).fz | exact (HM.out.alloc _).drew.fz | exact (HM.out.drew.alloc _).fz | exact y10 | exact hP.fz | assumption)) (fun hHeld => ?_)
                    clear hK K
                    try simp only [Act.put, List.setIfInBounds_toArray, List.set_cons_zero, List.set_cons_succ]
                    refine wpAnyH_ready (rs := [16]) (by kernel_rfl) (by simp) ?_
                    refine AllReadyH.cons (o := { dst := Option.some 88, op := Op.call { callee := Callee.builtin Builtin.append, args := #[Operand.tmp 73, Operand.tmp 87], argTypes := #[22, 22] }, type := 22, pos := _, after := #[{ on := 1, ground := Ground.data }, { on := 15, ground := Ground.data }, { on := 7, ground := Ground.chain }], guard := Option.none }) rfl (fun K hK => ?_) ?_
                    · (first | (go_at_call 63; ((with_reducible refine (K0.out _).mono ?_); rintro e w' ⟨rfl, rfl⟩)) | (go_at_call 63; ((with_reducible refine (K1.out _).mono ?_); rintro e w' ⟨rfl, rfl⟩)) | (go_at_call 63; ((with_reducible refine (K2.out _).mono ?_); rintro e w' ⟨rfl, rfl⟩)) | (refine step_append_lies _ (by rfl) _ _ _ (by rfl) _ 29 i9 (.agg #[.int .i64 0, .int .i64 0, .int .i64 0, .string ⟨#[]⟩, .string ⟨#[]⟩]) 5 56 Tryz.underlying22 hi9 hz90 hz91 hz92 rfl (by decide) _ cur.length (rcells cur) (by rfl) (HM.out.drew.alloc _).own ⟨wr.heap.size, 0, none⟩ 1 1 (ficells x) (by rfl) (by rfl) (World.news_of_block (cs := #[.int .i64 x.n, .int .i64 x.level, .int .i64 x.count, .string x.first, .string x.last]) (t := 29) (fr := (0, 0)) (heap_alloc_new wr.drew _)) HONE.out Nat.one_pos (by unfold maxLen; omega) (by omega) (HM.out.drew.alloc _).kept.size _ rfl ?_; intro gg cap3 w10 hown1 hgrow hat hlt9; obtain ⟨⟨y10, z10⟩, hP⟩ := (HM.out.drew.alloc _).push hgrow hown1) | (refine step_append_lies _ (by rfl) _ _ _ (by rfl) _ 29 i9 (.agg #[.int .i64 0, .int .i64 0, .int .i64 0, .string ⟨#[]⟩, .string ⟨#[]⟩]) 5 56 Tryz.underlying22 hi9 hz90 hz91 hz92 rfl (by decide) _ cur.length (rcells cur) (by rfl) (HM.out.alloc _).drew.own ⟨wr.heap.size, 0, none⟩ 1 1 (ficells x) (by rfl) (by rfl) (World.news_of_block (cs := #[.int .i64 x.n, .int .i64 x.level, .int .i64 x.count, .string x.first, .string x.last]) (t := 29) (fr := (0, 0)) (heap_alloc_new wr _)) HONE.out Nat.one_pos (by unfold maxLen; omega) (by omega) (HM.out.alloc _).drew.kept.size _ rfl ?_; intro gg cap3 w10 hown1 hgrow hat hlt9; obtain ⟨⟨y10, z10⟩, hP⟩ := (HM.out.alloc _).drew.push hgrow hown1))
                      refine hK.out _ _ (by (first | exact HM.out.drew.fz | exact (HM.out.alloc _).fz | exact (HM.out.alloc _).drew.fz | exact (HM.out.drew.alloc _).fz | exact y10 | exact hP.fz | assumption)) (fun hHeld => ?_)
                      clear hK K
                      try simp only [Act.put, List.setIfInBounds_toArray, List.set_cons_zero, List.set_cons_succ]
                      refine wpAnyH_take (i := 17) (oi := { dst := Option.some 89, op := Op.fieldAddr 24 (Operand.tmp 6) 2, type := 0, pos := _, after := #[{ on := 0, ground := Ground.phase }, { on := 1, ground := Ground.phase }, { on := 2, ground := Ground.phase }, { on := 3, ground := Ground.phase }, { on := 4, ground := Ground.phase }, { on := 5, ground := Ground.phase }, { on := 6, ground := Ground.phase }, { on := 7, ground := Ground.phase }, { on := 8, ground := Ground.phase }, { on := 9, ground := Ground.phase }, { on := 10, ground := Ground.phase }, { on := 11, ground := Ground.phase }, { on := 12, ground := Ground.phase }, { on := 13, ground := Ground.phase }, { on := 14, ground := Ground.phase }, { on := 15, ground := Ground.phase }, { on := 16, ground := Ground.phase }], guard := Option.none }) (v := ?_) rfl (by kernel_rfl) (by kernel_rfl) (by kernel_rfl) (fun _ _ _ h => h) (Or.inl ⟨by rfl, ?_⟩) (by assumption) ?_
                      rotate_left
                      · (intro wS hSw; (try dsimp only at hSw); go_simp; try with_reducible rfl)
                      try simp only [Act.put, List.setIfInBounds_toArray, List.set_cons_zero, List.set_cons_succ]
                      refine wpAnyH_ready (rs := [18]) (by kernel_rfl) (by simp) ?_
                      refine AllReadyH.cons (o := { dst := Option.none, op := Op.store 22 (Operand.tmp 89) (Operand.tmp 88), type := 0, pos := _, after := #[{ on := 17, ground := Ground.data }, { on := 16, ground := Ground.data }, { on := 16, ground := Ground.chain }, { on := 0, ground := Ground.phase }, { on := 1, ground := Ground.phase }, { on := 2, ground := Ground.phase }, { on := 3, ground := Ground.phase }, { on := 4, ground := Ground.phase }, { on := 5, ground := Ground.phase }, { on := 6, ground := Ground.phase }, { on := 7, ground := Ground.phase }, { on := 8, ground := Ground.phase }, { on := 9, ground := Ground.phase }, { on := 10, ground := Ground.phase }, { on := 11, ground := Ground.phase }, { on := 12, ground := Ground.phase }, { on := 13, ground := Ground.phase }, { on := 14, ground := Ground.phase }, { on := 15, ground := Ground.phase }, { on := 16, ground := Ground.phase }], guard := Option.none }) rfl (fun K hK => ?_) ?_
                      · go_simp
                        refine hK.out _ _ (by (first | exact HM.out.drew.fz | exact (HM.out.alloc _).fz | exact (HM.out.alloc _).drew.fz | exact (HM.out.drew.alloc _).fz | exact y10 | exact hP.fz | assumption)) (fun hHeld => ?_)
                        clear hK K
                        try simp only [Act.put, List.setIfInBounds_toArray, List.set_cons_zero, List.set_cons_succ]
                        refine wpAnyH_done (by kernel_rfl) ?_ _
                        refine NoPanic.normal ?_
                        have HPP := Lib.hid hP
                        clear hP hown1 hgrow
                        go_wp2_with fail
                        exact ⟨⟨k + 1, by omega, by go_num, by rw [HS.out]; exact ⟨_, HPP.out⟩⟩, by simp [intOf]; omega⟩
                      exact AllReadyH.nil
                    exact AllReadyH.nil
                  exact AllReadyH.nil
                exact AllReadyH.nil
              refine AllReadyH.cons (o := { dst := Option.some 79, op := Op.call { callee := Callee.value (Operand.func 63), args := #[Operand.tmp 78, Operand.const (Value.int IntKind.i64 2)], argTypes := #[9, 3] }, type := 3, pos := _, after := #[{ on := 6, ground := Ground.data }, { on := 5, ground := Ground.chain }], guard := Option.none }) rfl (fun K hK => ?_) ?_
              · go_simp
                (first | (go_at_call 63; ((with_reducible refine (K0.out _).mono ?_); rintro e w' ⟨rfl, rfl⟩)) | (go_at_call 63; ((with_reducible refine (K1.out _).mono ?_); rintro e w' ⟨rfl, rfl⟩)) | (go_at_call 63; ((with_reducible refine (K2.out _).mono ?_); rintro e w' ⟨rfl, rfl⟩)) | (refine step_append_lies _ (by rfl) _ _ _ (by rfl) _ 29 i9 (.agg #[.int .i64 0, .int .i64 0, .int .i64 0, .string ⟨#[]⟩, .string ⟨#[]⟩]) 5 56 Tryz.underlying22 hi9 hz90 hz91 hz92 rfl (by decide) _ cur.length (rcells cur) (by rfl) (HM.out.drew.alloc _).own ⟨wr.heap.size, 0, none⟩ 1 1 (ficells x) (by rfl) (by rfl) (World.news_of_block (cs := #[.int .i64 x.n, .int .i64 x.level, .int .i64 x.count, .string x.first, .string x.last]) (t := 29) (fr := (0, 0)) (heap_alloc_new wr.drew _)) HONE.out Nat.one_pos (by unfold maxLen; omega) (by omega) (HM.out.drew.alloc _).kept.size _ rfl ?_; intro gg cap3 w10 hown1 hgrow hat hlt9; obtain ⟨⟨y10, z10⟩, hP⟩ := (HM.out.drew.alloc _).push hgrow hown1) | (refine step_append_lies _ (by rfl) _ _ _ (by rfl) _ 29 i9 (.agg #[.int .i64 0, .int .i64 0, .int .i64 0, .string ⟨#[]⟩, .string ⟨#[]⟩]) 5 56 Tryz.underlying22 hi9 hz90 hz91 hz92 rfl (by decide) _ cur.length (rcells cur) (by rfl) (HM.out.alloc _).drew.own ⟨wr.heap.size, 0, none⟩ 1 1 (ficells x) (by rfl) (by rfl) (World.news_of_block (cs := #[.int .i64 x.n, .int .i64 x.level, .int .i64 x.count, .string x.first, .string x.last]) (t := 29) (fr := (0, 0)) (heap_alloc_new wr _)) HONE.out Nat.one_pos (by unfold maxLen; omega) (by omega) (HM.out.alloc _).drew.kept.size _ rfl ?_; intro gg cap3 w10 hown1 hgrow hat hlt9; obtain ⟨⟨y10, z10⟩, hP⟩ := (HM.out.alloc _).drew.push hgrow hown1))
                refine hK.out _ _ (by (first | exact HM.out.drew.fz | exact (HM.out.alloc _).fz | exact (HM.out.alloc _).drew.fz | exact (HM.out.drew.alloc _).fz | exact y10 | exact hP.fz | assumption)) (fun hHeld => ?_)
                clear hK K
                try simp only [Act.put, List.setIfInBounds_toArray, List.set_cons_zero, List.set_cons_succ]
                refine wpAnyH_take (i := 14) (oi := { dst := Option.some 86, op := Op.build 29 #[(0, Operand.tmp 75), (1, Operand.tmp 77), (2, Operand.tmp 79), (3, Operand.tmp 82), (4, Operand.tmp 85)], type := 29, pos := _, after := #[{ on := 3, ground := Ground.data }, { on := 5, ground := Ground.data }, { on := 7, ground := Ground.data }, { on := 10, ground := Ground.data }, { on := 13, ground := Ground.data }], guard := Option.none }) (v := ?_) rfl (by kernel_rfl) (by kernel_rfl) (by kernel_rfl) (fun _ _ _ h => h) (Or.inl ⟨by rfl, ?_⟩) (by assumption) ?_
                rotate_left
                · (intro wS hSw; (try dsimp only at hSw); go_simp; try with_reducible rfl)
                try simp only [Act.put, List.setIfInBounds_toArray, List.set_cons_zero, List.set_cons_succ]
                refine wpAnyH_ready (rs := [1, 15]) (by kernel_rfl) (by simp) ?_
                refine AllReadyH.cons (o := { dst := Option.some 73, op := Op.load 22 (Operand.tmp 72), type := 22, pos := _, after := #[{ on := 0, ground := Ground.data }], guard := Option.none }) rfl (fun K hK => ?_) ?_
                · go_simp
                  refine hK.out _ _ (by (first | exact HM.out.drew.fz | exact (HM.out.alloc _).fz | exact (HM.out.alloc _).drew.fz | exact (HM.out.drew.alloc _).fz | exact y10 | exact hP.fz | assumption)) (fun hHeld => ?_)
                  clear hK K
                  try simp only [Act.put, List.setIfInBounds_toArray, List.set_cons_zero, List.set_cons_succ]
                  refine wpAnyH_ready (rs := [15]) (by kernel_rfl) (by simp) ?_
                  refine AllReadyH.cons (o := { dst := Option.some 87, op := Op.buildSlice 22 1 #[(0, Operand.tmp 86)], type := 22, pos := _, after := #[{ on := 14, ground := Ground.data }], guard := Option.none }) rfl (fun K hK => ?_) ?_
                  · go_simp
                    refine hK.out _ _ (by (first | exact HM.out.drew.fz | exact (HM.out.alloc _).fz | exact (HM.out.alloc _).drew.fz | exact (HM.out.drew.alloc _).fz | exact y10 | exact hP.fz | assumption)) (fun hHeld => ?_)
                    clear hK K
                    try simp only [Act.put, List.setIfInBounds_toArray, List.set_cons_zero, List.set_cons_succ]
                    refine wpAnyH_ready (rs := [16]) (by kernel_rfl) (by simp) ?_
                    refine AllReadyH.cons (o := { dst := Option.some 88, op := Op.call { callee := Callee.builtin Builtin.append, args := #[Operand.tmp 73, Operand.tmp 87], argTypes := #[22, 22] }, type := 22, pos := _, after := #[{ on := 1, ground := Ground.data }, { on := 15, ground := Ground.data }, { on := 7, ground := Ground.chain }], guard := Option.none }) rfl (fun K hK => ?_) ?_
                    · (first | (go_at_call 63; ((with_reducible refine (K0.out _).mono ?_); rintro e w' ⟨rfl, rfl⟩)) | (go_at_call 63; ((with_reducible refine (K1.out _).mono ?_); rintro e w' ⟨rfl, rfl⟩)) | (go_at_call 63; ((with_reducible refine (K2.out _).mono ?_); rintro e w' ⟨rfl, rfl⟩)) | (refine step_append_lies _ (by rfl) _ _ _ (by rfl) _ 29 i9 (.agg #[.int .i64 0, .int .i64 0, .int .i64 0, .string ⟨#[]⟩, .string ⟨#[]⟩]) 5 56 Tryz.underlying22 hi9 hz90 hz91 hz92 rfl (by decide) _ cur.length (rcells cur) (by rfl) (HM.out.drew.alloc _).own ⟨wr.heap.size, 0, none⟩ 1 1 (ficells x) (by rfl) (by rfl) (World.news_of_block (cs := #[.int .i64 x.n, .int .i64 x.level, .int .i64 x.count, .string x.first, .string x.last]) (t := 29) (fr := (0, 0)) (heap_alloc_new wr.drew _)) HONE.out Nat.one_pos (by unfold maxLen; omega) (by omega) (HM.out.drew.alloc _).kept.size _ rfl ?_; intro gg cap3 w10 hown1 hgrow hat hlt9; obtain ⟨⟨y10, z10⟩, hP⟩ := (HM.out.drew.alloc _).push hgrow hown1) | (refine step_append_lies _ (by rfl) _ _ _ (by rfl) _ 29 i9 (.agg #[.int .i64 0, .int .i64 0, .int .i64 0, .string ⟨#[]⟩, .string ⟨#[]⟩]) 5 56 Tryz.underlying22 hi9 hz90 hz91 hz92 rfl (by decide) _ cur.length (rcells cur) (by rfl) (HM.out.alloc _).drew.own ⟨wr.heap.size, 0, none⟩ 1 1 (ficells x) (by rfl) (by rfl) (World.news_of_block (cs := #[.int .i64 x.n, .int .i64 x.level, .int .i64 x.count, .string x.first, .string x.last]) (t := 29) (fr := (0, 0)) (heap_alloc_new wr _)) HONE.out Nat.one_pos (by unfold maxLen; omega) (by omega) (HM.out.alloc _).drew.kept.size _ rfl ?_; intro gg cap3 w10 hown1 hgrow hat hlt9; obtain ⟨⟨y10, z10⟩, hP⟩ := (HM.out.alloc _).drew.push hgrow hown1))
                      refine hK.out _ _ (by (first | exact HM.out.drew.fz | exact (HM.out.alloc _).fz | exact (HM.out.alloc _).drew.fz | exact (HM.out.drew.alloc _).fz | exact y10 | exact hP.fz | assumption)) (fun hHeld => ?_)
                      clear hK K
                      try simp only [Act.put, List.setIfInBounds_toArray, List.set_cons_zero, List.set_cons_succ]
                      refine wpAnyH_take (i := 17) (oi := { dst := Option.some 89, op := Op.fieldAddr 24 (Operand.tmp 6) 2, type := 0, pos := _, after := #[{ on := 0, ground := Ground.phase }, { on := 1, ground := Ground.phase }, { on := 2, ground := Ground.phase }, { on := 3, ground := Ground.phase }, { on := 4, ground := Ground.phase }, { on := 5, ground := Ground.phase }, { on := 6, ground := Ground.phase }, { on := 7, ground := Ground.phase }, { on := 8, ground := Ground.phase }, { on := 9, ground := Ground.phase }, { on := 10, ground := Ground.phase }, { on := 11, ground := Ground.phase }, { on := 12, ground := Ground.phase }, { on := 13, ground := Ground.phase }, { on := 14, ground := Ground.phase }, { on := 15, ground := Ground.phase }, { on := 16, ground := Ground.phase }], guard := Option.none }) (v := ?_) rfl (by kernel_rfl) (by kernel_rfl) (by kernel_rfl) (fun _ _ _ h => h) (Or.inl ⟨by rfl, ?_⟩) (by assumption) ?_
                      rotate_left
                      · (intro wS hSw; (try dsimp only at hSw); go_simp; try with_reducible rfl)
                      try simp only [Act.put, List.setIfInBounds_toArray, List.set_cons_zero, List.set_cons_succ]
                      refine wpAnyH_ready (rs := [18]) (by kernel_rfl) (by simp) ?_
                      refine AllReadyH.cons (o := { dst := Option.none, op := Op.store 22 (Operand.tmp 89) (Operand.tmp 88), type := 0, pos := _, after := #[{ on := 17, ground := Ground.data }, { on := 16, ground := Ground.data }, { on := 16, ground := Ground.chain }, { on := 0, ground := Ground.phase }, { on := 1, ground := Ground.phase }, { on := 2, ground := Ground.phase }, { on := 3, ground := Ground.phase }, { on := 4, ground := Ground.phase }, { on := 5, ground := Ground.phase }, { on := 6, ground := Ground.phase }, { on := 7, ground := Ground.phase }, { on := 8, ground := Ground.phase }, { on := 9, ground := Ground.phase }, { on := 10, ground := Ground.phase }, { on := 11, ground := Ground.phase }, { on := 12, ground := Ground.phase }, { on := 13, ground := Ground.phase }, { on := 14, ground := Ground.phase }, { on := 15, ground := Ground.phase }, { on := 16, ground := Ground.phase }], guard := Option.none }) rfl (fun K hK => ?_) ?_
                      · go_simp
                        refine hK.out _ _ (by (first | exact HM.out.drew.fz | exact (HM.out.alloc _).fz | exact (HM.out.alloc _).drew.fz | exact (HM.out.drew.alloc _).fz | exact y10 | exact hP.fz | assumption)) (fun hHeld => ?_)
                        clear hK K
                        try simp only [Act.put, List.setIfInBounds_toArray, List.set_cons_zero, List.set_cons_succ]
                        refine wpAnyH_done (by kernel_rfl) ?_ _
                        refine NoPanic.normal ?_
                        have HPP := Lib.hid hP
                        clear hP hown1 hgrow
                        go_wp2_with fail
                        exact ⟨⟨k + 1, by omega, by go_num, by rw [HS.out]; exact ⟨_, HPP.out⟩⟩, by simp [intOf]; omega⟩
                      exact AllReadyH.nil
                    exact AllReadyH.nil
                  exact AllReadyH.nil
                refine AllReadyH.cons (o := { dst := Option.some 87, op := Op.buildSlice 22 1 #[(0, Operand.tmp 86)], type := 22, pos := _, after := #[{ on := 14, ground := Ground.data }], guard := Option.none }) rfl (fun K hK => ?_) ?_
                · go_simp
                  refine hK.out _ _ (by (first | exact HM.out.drew.fz | exact (HM.out.alloc _).fz | exact (HM.out.alloc _).drew.fz | exact (HM.out.drew.alloc _).fz | exact y10 | exact hP.fz | assumption)) (fun hHeld => ?_)
                  clear hK K
                  try simp only [Act.put, List.setIfInBounds_toArray, List.set_cons_zero, List.set_cons_succ]
                  refine wpAnyH_ready (rs := [1]) (by kernel_rfl) (by simp) ?_
                  refine AllReadyH.cons (o := { dst := Option.some 73, op := Op.load 22 (Operand.tmp 72), type := 22, pos := _, after := #[{ on := 0, ground := Ground.data }], guard := Option.none }) rfl (fun K hK => ?_) ?_
                  · go_simp
                    refine hK.out _ _ (by (first | exact HM.out.drew.fz | exact (HM.out.alloc _).fz | exact (HM.out.alloc _).drew.fz | exact (HM.out.drew.alloc _).fz | exact y10 | exact hP.fz | assumption)) (fun hHeld => ?_)
                    clear hK K
                    try simp only [Act.put, List.setIfInBounds_toArray, List.set_cons_zero, List.set_cons_succ]
                    refine wpAnyH_ready (rs := [16]) (by kernel_rfl) (by simp) ?_
                    refine AllReadyH.cons (o := { dst := Option.some 88, op := Op.call { callee := Callee.builtin Builtin.append, args := #[Operand.tmp 73, Operand.tmp 87], argTypes := #[22, 22] }, type := 22, pos := _, after := #[{ on := 1, ground := Ground.data }, { on := 15, ground := Ground.data }, { on := 7, ground := Ground.chain }], guard := Option.none }) rfl (fun K hK => ?_) ?_
                    · (first | (go_at_call 63; ((with_reducible refine (K0.out _).mono ?_); rintro e w' ⟨rfl, rfl⟩)) | (go_at_call 63; ((with_reducible refine (K1.out _).mono ?_); rintro e w' ⟨rfl, rfl⟩)) | (go_at_call 63; ((with_reducible refine (K2.out _).mono ?_); rintro e w' ⟨rfl, rfl⟩)) | (refine step_append_lies _ (by rfl) _ _ _ (by rfl) _ 29 i9 (.agg #[.int .i64 0, .int .i64 0, .int .i64 0, .string ⟨#[]⟩, .string ⟨#[]⟩]) 5 56 Tryz.underlying22 hi9 hz90 hz91 hz92 rfl (by decide) _ cur.length (rcells cur) (by rfl) (HM.out.drew.alloc _).own ⟨wr.heap.size, 0, none⟩ 1 1 (ficells x) (by rfl) (by rfl) (World.news_of_block (cs := #[.int .i64 x.n, .int .i64 x.level, .int .i64 x.count, .string x.first, .string x.last]) (t := 29) (fr := (0, 0)) (heap_alloc_new wr.drew _)) HONE.out Nat.one_pos (by unfold maxLen; omega) (by omega) (HM.out.drew.alloc _).kept.size _ rfl ?_; intro gg cap3 w10 hown1 hgrow hat hlt9; obtain ⟨⟨y10, z10⟩, hP⟩ := (HM.out.drew.alloc _).push hgrow hown1) | (refine step_append_lies _ (by rfl) _ _ _ (by rfl) _ 29 i9 (.agg #[.int .i64 0, .int .i64 0, .int .i64 0, .string ⟨#[]⟩, .string ⟨#[]⟩]) 5 56 Tryz.underlying22 hi9 hz90 hz91 hz92 rfl (by decide) _ cur.length (rcells cur) (by rfl) (HM.out.alloc _).drew.own ⟨wr.heap.size, 0, none⟩ 1 1 (ficells x) (by rfl) (by rfl) (World.news_of_block (cs := #[.int .i64 x.n, .int .i64 x.level, .int .i64 x.count, .string x.first, .string x.last]) (t := 29) (fr := (0, 0)) (heap_alloc_new wr _)) HONE.out Nat.one_pos (by unfold maxLen; omega) (by omega) (HM.out.alloc _).drew.kept.size _ rfl ?_; intro gg cap3 w10 hown1 hgrow hat hlt9; obtain ⟨⟨y10, z10⟩, hP⟩ := (HM.out.alloc _).drew.push hgrow hown1))
                      refine hK.out _ _ (by (first | exact HM.out.drew.fz | exact (HM.out.alloc _).fz | exact (HM.out.alloc _).drew.fz | exact (HM.out.drew.alloc _).fz | exact y10 | exact hP.fz | assumption)) (fun hHeld => ?_)
                      clear hK K
                      try simp only [Act.put, List.setIfInBounds_toArray, List.set_cons_zero, List.set_cons_succ]
                      refine wpAnyH_take (i := 17) (oi := { dst := Option.some 89, op := Op.fieldAddr 24 (Operand.tmp 6) 2, type := 0, pos := _, after := #[{ on := 0, ground := Ground.phase }, { on := 1, ground := Ground.phase }, { on := 2, ground := Ground.phase }, { on := 3, ground := Ground.phase }, { on := 4, ground := Ground.phase }, { on := 5, ground := Ground.phase }, { on := 6, ground := Ground.phase }, { on := 7, ground := Ground.phase }, { on := 8, ground := Ground.phase }, { on := 9, ground := Ground.phase }, { on := 10, ground := Ground.phase }, { on := 11, ground := Ground.phase }, { on := 12, ground := Ground.phase }, { on := 13, ground := Ground.phase }, { on := 14, ground := Ground.phase }, { on := 15, ground := Ground.phase }, { on := 16, ground := Ground.phase }], guard := Option.none }) (v := ?_) rfl (by kernel_rfl) (by kernel_rfl) (by kernel_rfl) (fun _ _ _ h => h) (Or.inl ⟨by rfl, ?_⟩) (by assumption) ?_
                      rotate_left
                      · (intro wS hSw; (try dsimp only at hSw); go_simp; try with_reducible rfl)
                      try simp only [Act.put, List.setIfInBounds_toArray, List.set_cons_zero, List.set_cons_succ]
                      refine wpAnyH_ready (rs := [18]) (by kernel_rfl) (by simp) ?_
                      refine AllReadyH.cons (o := { dst := Option.none, op := Op.store 22 (Operand.tmp 89) (Operand.tmp 88), type := 0, pos := _, after := #[{ on := 17, ground := Ground.data }, { on := 16, ground := Ground.data }, { on := 16, ground := Ground.chain }, { on := 0, ground := Ground.phase }, { on := 1, ground := Ground.phase }, { on := 2, ground := Ground.phase }, { on := 3, ground := Ground.phase }, { on := 4, ground := Ground.phase }, { on := 5, ground := Ground.phase }, { on := 6, ground := Ground.phase }, { on := 7, ground := Ground.phase }, { on := 8, ground := Ground.phase }, { on := 9, ground := Ground.phase }, { on := 10, ground := Ground.phase }, { on := 11, ground := Ground.phase }, { on := 12, ground := Ground.phase }, { on := 13, ground := Ground.phase }, { on := 14, ground := Ground.phase }, { on := 15, ground := Ground.phase }, { on := 16, ground := Ground.phase }], guard := Option.none }) rfl (fun K hK => ?_) ?_
                      · go_simp
                        refine hK.out _ _ (by (first | exact HM.out.drew.fz | exact (HM.out.alloc _).fz | exact (HM.out.alloc _).drew.fz | exact (HM.out.drew.alloc _).fz | exact y10 | exact hP.fz | assumption)) (fun hHeld => ?_)
                        clear hK K
                        try simp only [Act.put, List.setIfInBounds_toArray, List.set_cons_zero, List.set_cons_succ]
                        refine wpAnyH_done (by kernel_rfl) ?_ _
                        refine NoPanic.normal ?_
                        have HPP := Lib.hid hP
                        clear hP hown1 hgrow
                        go_wp2_with fail
                        exact ⟨⟨k + 1, by omega, by go_num, by rw [HS.out]; exact ⟨_, HPP.out⟩⟩, by simp [intOf]; omega⟩
                      exact AllReadyH.nil
                    exact AllReadyH.nil
                  exact AllReadyH.nil
                exact AllReadyH.nil
              exact AllReadyH.nil
            exact AllReadyH.nil
          exact AllReadyH.nil
        · obtain ⟨v, hM⟩ := HCUR.out
          rw [List.take_of_length_le (by omega)] at hM
          obtain ⟨va, vc, rfl⟩ := own_slice hM.own
          have hFR := FRow.own hM.own (fun f hf => by
            have h := hfit f hf
            have h1 := h.n0; have h2 := h.n1; have h3 := h.s1; have h4 := h.s2
            exact ⟨by omega, by omega, by omega, by omega⟩)
          have hrb : wr.heap[w.heap.size]? = some (.cells #[.int .i64 0, .int .i64 0, .slice none 0 0] 24 (0, 0)) := by
            have h1 := hM.lt
            rw [hM.kept.block w.heap.size (by omega) (by simp; omega), HWC.out _ (by omega)]
            exact HR0.out
          have hsb := hM.sb
          have hs0 : wr.cell? ⟨W2.heap.size, 0, none⟩ = some (.int .i64 s.next) := by simp [World.cell?, hsb]
          have hs1 : wr.cell? ⟨W2.heap.size, 1, none⟩ = some (.int .i64 s.log) := by simp [World.cell?, hsb]
          have hs2 : wr.cell? ⟨W2.heap.size, 2, none⟩ = some (.slice va s.fs.length vc) := by simp [World.cell?, hsb]
          have HS := Lib.hid (show (wr.drew.cell? ⟨W2.heap.size, 0, none⟩ = some (.int .i64 s.next) ∧ wr.drew.cell? ⟨W2.heap.size, 1, none⟩ = some (.int .i64 s.log) ∧ wr.drew.cell? ⟨W2.heap.size, 2, none⟩ = some (.slice va s.fs.length vc)) ∧ Hid (ExM wr w.heap.size (.slice va s.fs.length vc) s wr.drew) from ⟨⟨hs0, hs1, hs2⟩, Lib.hid ⟨(Below.refl _ _).drew, hFR.wider (fun _ _ _ => trivial), hrb⟩⟩)
          have HM := Lib.hid hM
          have C1 := Lib.hid (show ∀ w9, ExM wr w.heap.size (.slice va s.fs.length vc) s w9 → Calls Tryz.prog 11 #[.agg #[.int .i64 s.next, .int .i64 s.log, .slice va s.fs.length vc]] w9 (fun e w' => e = .returned (.int .i64 0) ∧ Below w9.heap.size w9 w') from fun w9 h => (check_any _ w9 s _ (h.row.below h.below)).mono (fun e w' he => show e = .returned (.int .i64 0) ∧ Below w9.heap.size w9 w' from ⟨by rw [he.1]; unfold checkE; rw [HCK.out]; rfl, he.2⟩))
          have C2 := Lib.hid (show ∀ w9, ExM wr w.heap.size (.slice va s.fs.length vc) s w9 → Calls Tryz.prog 51 #[.agg #[.int .i64 s.next, .int .i64 s.log, .slice va s.fs.length vc]] w9 (fun e w' => e = .returned (.string text) ∧ Below w9.heap.size w9 w') from fun w9 h => (pack_any _ w9 s _ (h.row.below h.below) HCK.out).mono (fun e w' he => show e = .returned (.string text) ∧ Below w9.heap.size w9 w' from ⟨by rw [he.1, HTX.out], he.2⟩))
          have hte : (text.toList == text.toList) = true := by simp
          have HFO := Lib.hid hFR
          clear hM hsb hFR hrb HCUR
          go_upto_region 19 with (fail)
          have X0 := HS.out.2.out
          have hsl : W2.heap.size < wr.heap.size := World.block_lt_of_cell? wr _ hs0
          have HCs := Lib.hid (fun w9 (X : ExM wr w.heap.size (.slice va s.fs.length vc) s w9) => show w9.cell? ⟨W2.heap.size, 0, none⟩ = some (.int .i64 s.next) ∧ w9.cell? ⟨W2.heap.size, 1, none⟩ = some (.int .i64 s.log) ∧ w9.cell? ⟨W2.heap.size, 2, none⟩ = some (.slice va s.fs.length vc) from
            ⟨(X.below.cell (p := ⟨W2.heap.size, 0, none⟩) hsl).trans hs0, (X.below.cell (p := ⟨W2.heap.size, 1, none⟩) hsl).trans hs1, (X.below.cell (p := ⟨W2.heap.size, 2, none⟩) hsl).trans hs2⟩)
          have HXX := Lib.hid X0
          have hnr : W2.heap.size ≠ w.heap.size := by omega
          go_region_held3 (fun w' => w'.cell? ⟨W2.heap.size, 0, none⟩ = some (.int .i64 s.next) ∧ w'.cell? ⟨W2.heap.size, 1, none⟩ = some (.int .i64 s.log) ∧ w'.cell? ⟨W2.heap.size, 2, none⟩ = some (.slice va s.fs.length vc))
            (first | exact HS.out.1 | exact HCs.out _ X9 | exact HCs.out _ X10 | (refine ⟨(World.cell?_of_block (w := w10) (K10.2.1 W2.heap.size hnr)).trans (HCs.out _ X10).1, (World.cell?_of_block (w := w10) (K10.2.1 W2.heap.size hnr)).trans (HCs.out _ X10).2.1, (World.cell?_of_block (w := w10) (K10.2.1 W2.heap.size hnr)).trans (HCs.out _ X10).2.2⟩) | assumption)
            (first
              | (go_at_call 11; ((with_reducible refine (C1.out _ HXX.out).mono ?_); rintro e w9 ⟨rfl, hb9⟩; have X9 := HXX.out.trans hb9; have y9 := X9.facts))
              | (go_at_call 51; ((with_reducible refine (C2.out _ X9).mono ?_); rintro e w10 ⟨rfl, hb10⟩; have X10 := X9.trans hb10; obtain ⟨r0, r1, r2, z0, z1, z2⟩ := X10.facts; have K10 := X10.stored (.int .i64 s.next) (.int .i64 s.log) (.slice va s.fs.length vc))))
          all_goals
            have h9 := HM.out
            have hKD : (((w10.setCell ⟨w.heap.size, 0, none⟩ (.int .i64 s.next)).setCell ⟨w.heap.size, 1, none⟩ (.int .i64 s.log)).setCell ⟨w.heap.size, 2, none⟩ (.slice va s.fs.length vc)).heap[D]? = some (.deferred (some [])) := by
              have hDW := heap_lt HKD.out
              have h1 := h9.lt
              have h2 := HD.out
              have h3 := HZ.out
              have h4 : W2.heap.size = W.heap.size := by rw [HW2.out.1]
              rw [K10.2.2.block D (by omega) (by simp; omega), h9.kept.block D (by omega) (by simp; omega), HWC.out D hDW]
              exact HKD.out
            have hbel : Below w.heap.size w (((w10.setCell ⟨w.heap.size, 0, none⟩ (.int .i64 s.next)).setCell ⟨w.heap.size, 1, none⟩ (.int .i64 s.log)).setCell ⟨w.heap.size, 2, none⟩ (.slice va s.fs.length vc)) := by
              have h1 := h9.lt
              have h2 := HBW.out.size
              have h3 := HXB.out.size
              have h4 : W2.heap.size = W.heap.size := by rw [HW2.out.1]
              have h5 := h9.kept.size
              exact ((((HBW.out.trans (HW2.out.2.mono (by omega))).trans (HXB.out.mono (by omega))).trans (h9.kept.below (by omega) (by simp; omega))).trans (K10.2.2.below (by omega) (by simp)))
            have hrow : FRow (fun b => w.heap.size ≤ b ∧ b ≠ D) (((w10.setCell ⟨w.heap.size, 0, none⟩ (.int .i64 s.next)).setCell ⟨w.heap.size, 1, none⟩ (.int .i64 s.log)).setCell ⟨w.heap.size, 2, none⟩ (.slice va s.fs.length vc)) (.slice va s.fs.length vc) s.fs := by
              have h1 := h9.lt
              have h3 := HXB.out.size
              have h4 : W2.heap.size = W.heap.size := by rw [HW2.out.1]
              have hDW := heap_lt HKD.out
              exact HFO.out.keep (fun b hb hlt => K10.2.2.block b hlt (by simp; omega)) K10.2.2.size (fun b hb _ => ⟨by omega, by omega⟩)
            have hblk := K10.1
            have HKF := Lib.hid hKD
            have HBL := Lib.hid hbel
            have HRW := Lib.hid hrow
            have HBK := Lib.hid hblk
            clear K10 hKD hbel hrow hblk
            generalize (((w10.setCell ⟨w.heap.size, 0, none⟩ (.int .i64 s.next)).setCell ⟨w.heap.size, 1, none⟩ (.int .i64 s.log)).setCell ⟨w.heap.size, 2, none⟩ (.slice va s.fs.length vc)) = WF at *
            go_wp2_with fail
            refine ⟨by simp, .inl ⟨_, _, rfl, run_takeDeferred HKF.out, ?_⟩⟩
            have f0 : (WF.putObj D (.deferred none)).heap[w.heap.size]? = some (.cells #[.int .i64 s.next, .int .i64 s.log, .slice va s.fs.length vc] 24 (0, 0)) := by
              have h2 := HD.out
              have h3 := HZ.out
              exact (World.putObj_heap_other (by omega)).trans HBK.out
            have g0 : (WF.putObj D (.deferred none)).cell? ⟨w.heap.size, 0, none⟩ = some (.int .i64 s.next) := by simp [World.cell?, f0]
            have g1 : (WF.putObj D (.deferred none)).cell? ⟨w.heap.size, 1, none⟩ = some (.int .i64 s.log) := by simp [World.cell?, f0]
            have g2 : (WF.putObj D (.deferred none)).cell? ⟨w.heap.size, 2, none⟩ = some (.slice va s.fs.length vc) := by simp [World.cell?, f0]
            have hgb := grownBy_putObj_a WF D (.deferred none)
            have h2 := HD.out
            have h3 := HZ.out
            refine ⟨.tuple #[.agg #[.int .i64 s.next, .int .i64 s.log, .slice va s.fs.length vc], .bool true], by simp [results, Tryz.results48, go_sem, g0, g1, g2], .slice va s.fs.length vc, rfl, ?_, ?_⟩
            · exact HRW.out.keep (fun b hb hlt => World.putObj_heap_other (fun e => hb.2 (by omega))) hgb.size (fun b hb _ => hb.1)
            · exact HBL.out.grown hgb HBL.out.size (fun k e => by cases e; omega)
  case stop =>
    rintro D c pre W _ _ h _
    exact h.elim
end Go.Proofs.YtiiafpbonkcokaaGreat
