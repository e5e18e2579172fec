/-
  redressref19.Box.Add.
-/
import Derived.Test.YtcohbfabcdjefaaGreatDoorGd
namespace Go.Proofs.YtcohbfabcdjefaaGreatDoor
open Go.RowKit Go.Maps

/-- a row of items that can be read -/
def Rw (w : World) (v : Value) (n : Nat) : Prop := ∃ xs, w.ownsRow 0 66 4 v n xs ∧ ∀ u ∈ xs, u.oneCell' = true
theorem Rw.kx {l : List Nat} {ts : List TypeId} {w w' : World} {v : Value} {n : Nat} (h : Rw w v n) (hk : Kx l ts w w') (hT : 66 ∉ ts) (hl : ∀ g a c, v = .slice (some ⟨g, 0, none⟩) a c → g ∉ l) : Rw w' v n := by
  obtain ⟨xs, ⟨h1, h2⟩, h3⟩ := h
  refine ⟨xs, ⟨h1, ?_⟩, h3⟩
  rcases h2 with h2 | ⟨g, cap, cur, hv, hb, hg, rest⟩
  · exact .inl h2
  · exact .inr ⟨g, cap, cur, hv, hb, hk.blk g cur _ _ hg (hl _ _ _ hv) hT, rest⟩
theorem Rw.shape {w : World} {v : Value} {n : Nat} (h : Rw w v n) : ∃ a c, v = .slice a n c := by
  obtain ⟨xs, ⟨h1, h2⟩, h3⟩ := h
  rcases h2 with ⟨h2, rfl⟩ | ⟨g, cap, cur, hv, rest⟩
  · exact ⟨_, _, h2⟩
  · exact ⟨_, _, hv⟩
theorem Rw.nil (w : World) : Rw w (.slice none 0 0) 0 := ⟨[], World.ownsRow_nil _ _ _ _, fun u h => by cases h⟩
theorem Rw.block {w : World} {g a c n : Nat} (h : Rw w (.slice (some ⟨g, 0, none⟩) a c) n) : ∃ cs, w.heap[g]? = some (.cells cs 66 (0, 0)) := by
  obtain ⟨xs, ⟨h1, h2⟩, h3⟩ := h
  rcases h2 with ⟨h2, rfl⟩ | ⟨g', cap, cur, hv, _, hg, _⟩
  · cases h2
  · injection hv with e; injection e with e; injection e with e; subst e; exact ⟨_, hg⟩
/-- a box in memory -/
def Bx (w : World) (b : Nat) (f : Nat → Value) : Prop := w.heap[b]? = some (.cells (bxA f) 35 (0, 0))
theorem Bx.cell {w : World} {b : Nat} {f : Nat → Value} (h : Bx w b f) (i : Nat) (hi : i < 17) : w.cell? ⟨b, i, none⟩ = some (f i) := by
  show (match w.heap[b]? with | some (.cells c _ _) => c[i]? | _ => none) = _
  rw [show w.heap[b]? = _ from h]; exact bxA_get f i hi
/-- the cells' kinds -/
def BxS (f : Nat → Value) : Prop := (∀ i < 8, ∃ a n c, f i = .slice a n c) ∧ (∀ i < 8, ∃ k, f (8 + i) = .int .u64 k) ∧ ∃ a n c, f 16 = .slice a n c
def updF (f : Nat → Value) (i : Nat) (v : Value) : Nat → Value := fun j => if j = i then v else f j
theorem updF_at (f : Nat → Value) (i : Nat) (v : Value) : updF f i v i = v := if_pos rfl
theorem updF_ne (f : Nat → Value) (i j : Nat) (v : Value) (h : j ≠ i) : updF f i v j = f j := if_neg h
theorem BxS.num {f : Nat → Value} (h : BxS f) (q : Nat) (hq : q < 8) (k : Int) : BxS (updF f (8 + q) (.int .u64 k)) := by
  refine ⟨fun i hi => ?_, fun i hi => ?_, ?_⟩
  · rw [updF_ne _ _ _ _ (by omega)]; exact h.1 i hi
  · by_cases e : i = q
    · subst e; rw [updF_at]; exact ⟨_, rfl⟩
    · rw [updF_ne _ _ _ _ (by omega)]; exact h.2.1 i hi
  · rw [updF_ne _ _ _ _ (by omega)]; exact h.2.2
theorem BxS.row {f : Nat → Value} (h : BxS f) (q : Nat) (hq : q < 8) (a : Option Addr) (n c : Nat) : BxS (updF f q (.slice a n c)) := by
  refine ⟨fun i hi => ?_, fun i hi => ?_, ?_⟩
  · by_cases e : i = q
    · subst e; rw [updF_at]; exact ⟨_, _, _, rfl⟩
    · rw [updF_ne _ _ _ _ (by omega)]; exact h.1 i hi
  · rw [updF_ne _ _ _ _ (by omega)]; exact h.2.1 i hi
  · rw [updF_ne _ _ _ _ (by omega)]; exact h.2.2
theorem bxA_set (f : Nat → Value) (i : Nat) (hi : i < 17) (v : Value) : (bxA f).setIfInBounds i v = bxA (updF f i v) := by
  rcases i with _ | _ | _ | _ | _ | _ | _ | _ | _ | _ | _ | _ | _ | _ | _ | _ | _ | i <;> first | rfl | omega
theorem Bx.set {w : World} {b : Nat} {f : Nat → Value} (h : Bx w b f) (i : Nat) (hi : i < 17) (v : Value) : Bx (w.setCell ⟨b, i, none⟩ v) b (updF f i v) := by
  unfold Bx at *
  rw [← bxA_set f i hi]
  simp only [World.setCell, Array.getElem?_modify, h]
  simp
theorem Rw.set_box {w : World} {b : Nat} {f : Nat → Value} {v : Value} {n : Nat} (h : Rw w v n) (hb : Bx w b f) (i : Nat) (u : Value) : Rw (w.setCell ⟨b, i, none⟩ u) v n := by
  obtain ⟨xs, ⟨h1, h2⟩, h3⟩ := h
  refine ⟨xs, ⟨h1, ?_⟩, h3⟩
  rcases h2 with h2 | ⟨g, cap, cur, hv, hb', hg, rest⟩
  · exact .inl h2
  · refine .inr ⟨g, cap, cur, hv, hb', ?_, rest⟩
    rw [Below.heap_setCell _ _ _ _ (by
      intro e
      rw [show g = b from e, show w.heap[b]? = _ from hb] at hg
      injection hg with e; injection e with e1 e2; revert e2; decide)]
    exact hg
theorem cellB {w : World} {b : Nat} {cs : Array Value} {T : TypeId} (h : w.heap[b]? = some (.cells cs T)) (i : Nat) (v : Value) (hi : cs[i]? = some v) : w.cell? ⟨b, i, none⟩ = some v := by
  show (match w.heap[b]? with | some (.cells c _ _) => c[i]? | _ => none) = _
  rw [h]; exact hi
theorem heap_setRow_same {w : World} {b : Nat} {cs : Array Value} {T : TypeId} (h : w.heap[b]? = some (.cells cs T)) (c' : Array Value) : (w.setRow b c').heap[b]? = some (.cells c' T) := by
  simp only [World.setRow, Array.getElem?_modify, h]
  simp
theorem heap_setRow_ne (w : World) (b k : Nat) (h : k ≠ b) (c' : Array Value) : (w.setRow b c').heap[k]? = w.heap[k]? := by
  simp only [World.setRow, Array.getElem?_modify]
  rw [if_neg (fun e => h e.symm)]
theorem below_setRow {B : Nat} {a w : World} (h : Below B a w) {b : Nat} (hb : B ≤ b) (c' : Array Value) : Below B a (w.setRow b c') :=
  h.trans ⟨rfl, rfl, rfl, by simp [World.setRow], fun k hk => heap_setRow_ne _ _ _ (by omega) _⟩
theorem Rw.setRow {w : World} {v : Value} {n b : Nat} {cs : Array Value} (h : Rw w v n) (hb : w.heap[b]? = some (.cells cs 35)) (c' : Array Value) : Rw (w.setRow b c') v n := by
  obtain ⟨xs, ⟨h1, h2⟩, h3⟩ := h
  refine ⟨xs, ⟨h1, ?_⟩, h3⟩
  rcases h2 with h2 | ⟨g, cap, cur, hv, hb', hg, rest⟩
  · exact .inl h2
  · refine .inr ⟨g, cap, cur, hv, hb', ?_, rest⟩
    rw [heap_setRow_ne _ _ _ (by
      intro e
      rw [e, hb] at hg
      injection hg with e; injection e with e1 e2; revert e2; decide)]
    exact hg
theorem bxA_one {f : Nat → Value} (h : BxS f) : (bxA f).all (·.oneCell') = true := by
  obtain ⟨h1, h2, a, n, c, h3⟩ := h
  refine Array.all_eq_true_iff_forall_mem.2 (fun v hv => ?_)
  obtain ⟨i, hi, rfl⟩ := Array.mem_iff_getElem.1 hv
  have hi' : i < 17 := hi
  have e := bxA_get f i hi'
  rw [Array.getElem?_eq_getElem hi] at e
  injection e with e
  rw [e]
  rcases Nat.lt_or_ge i 8 with hl | hl
  · obtain ⟨_, _, _, e'⟩ := h1 i hl; rw [e']; rfl
  rcases Nat.lt_or_ge i 16 with hl2 | hl2
  · obtain ⟨_, e'⟩ := h2 (i - 8) (by omega); rw [show 8 + (i - 8) = i by omega] at e'; rw [e']; rfl
  · rw [show i = 16 by omega, h3]; rfl
theorem und_box : Tryz.prog.underlying 35 = some (.struct (match Tryz.prog.underlying 35 with | some (.struct f) => f | _ => #[])) := by kernel_rfl
theorem sz_box {f : Nat → Value} : (Tryz.prog.info? 35).map (·.size) = some (bxA f).size := (show (Tryz.prog.info? 35).map (·.size) = some 17 by kernel_rfl)
theorem info_ritem : (Tryz.prog.info? 66).map (fun i => (i.zero, i.size, i.bytes)) = some (some (.agg #[.string ⟨#[]⟩, .int .u64 0, .int .i64 0, .int .i64 0]), 4, 40) := by kernel_rfl
def zBox : Array Value := #[.slice none 0 0, .slice none 0 0, .slice none 0 0, .slice none 0 0, .slice none 0 0, .slice none 0 0, .slice none 0 0, .slice none 0 0, .int .u64 0, .int .u64 0, .int .u64 0, .int .u64 0, .int .u64 0, .int .u64 0, .int .u64 0, .int .u64 0, .slice none 0 0]
theorem own_alloc {w : World} {B : Nat} {T : TypeId} {v : Value} {n : Nat} {xs : List Value} (h : w.ownsRow B T 4 v n xs) (o : Obj) : (w.alloc o).ownsRow B T 4 v n xs := by
  refine ⟨h.1, ?_⟩
  rcases h.2 with h2 | ⟨g, cap, cur, hv, hb, hg, rest⟩
  · exact .inl h2
  · exact .inr ⟨g, cap, cur, hv, hb, (heap_alloc_old w o (heap_lt hg)).trans hg, rest⟩
theorem own_box {w : World} {B : Nat} {v : Value} {n : Nat} {xs : List Value} (h : w.ownsRow B 66 4 v n xs) {b : Nat} {cs : Array Value} (e : some b = v.ownBlock) (hb : w.heap[b]? = some (.cells cs 35)) : False := by
  rcases h.2 with ⟨rfl, _⟩ | ⟨g, cap, cur, rfl, _, hg, _⟩
  · cases e
  · injection e with e
    rw [show b = g from e, hg] at hb
    injection hb with e; injection e with e1 e2; revert e2; decide
theorem own_zero {w : World} {B : Nat} {T : TypeId} {v : Value} {n : Nat} {xs : List Value} (h : w.ownsRow B T 4 v n xs) : w.ownsRow 0 T 4 v n xs := by
  refine ⟨h.1, ?_⟩
  rcases h.2 with h2 | ⟨g, cap, cur, hv, hb, rest⟩
  · exact .inl h2
  · exact .inr ⟨g, cap, cur, hv, Nat.zero_le _, rest⟩
theorem own_ge {w : World} {B : Nat} {T : TypeId} {v : Value} {n : Nat} {xs : List Value} (h : w.ownsRow B T 4 v n xs) : ∀ k, v.ownBlock = some k → B ≤ k := by
  intro k e
  rcases h.2 with ⟨rfl, _⟩ | ⟨g, cap, cur, rfl, hb, rest⟩
  · cases e
  · injection e with e; exact e ▸ hb
def NewRow (B : Nat) (v : Value) : Prop := ∀ g a c, v = .slice (some ⟨g, 0, none⟩) a c → B ≤ g
theorem one_app {xs ys : List Value} (h1 : ∀ u ∈ xs, u.oneCell' = true) (h2 : ∀ u ∈ ys, u.oneCell' = true) : ∀ u ∈ xs ++ ys, u.oneCell' = true := fun u hu => by
  rcases List.mem_append.1 hu with h | h
  · exact h1 u h
  · exact h2 u h
set_option maxRecDepth 100000 in
set_option maxHeartbeats 1000000 in
theorem radd_nil (w : World) (f : Nat → Value) (hsf : BxS f) (q k : Nat) (hq : q < 8) (hf : f q = .slice none 0 0) (hh : f (8 + q) = .int .u64 k) (hk : k < 1000) (txt : ByteArray) (now : Int) :
    Calls Tryz.prog 10 #[.agg (bxA f), .int .i64 q, .string txt, .int .i64 now] w fun e w' => ∃ v', e = .returned (.agg (bxA (updF (updF f (8 + q) (.int .u64 ((k : Int) + 1))) q v'))) ∧ Rw w' v' 1 ∧ NewRow w.heap.size v' ∧ Below w.heap.size w w' := by
  have g2 : IntKind.u64.wrap ((k : Int) + 1) = (k : Int) + 1 := by rw [IntKind.wrap_u64]; omega
  obtain ⟨i0, hi0, hz0, hz1, hz2⟩ := info_parts info_ritem
  obtain ⟨f2, hf2⟩ : ∃ f2, f2 = updF f (8 + q) (.int .u64 ((k : Int) + 1)) := ⟨_, rfl⟩
  have eS : (bxA f).setIfInBounds (8 + q) (.int .u64 ((k : Int) + 1)) = bxA f2 := by rw [hf2]; exact bxA_set f _ (by omega) _
  have e2 : f2 q = .slice none 0 0 := by rw [hf2, ← hf]; unfold updF; rw [if_neg (by omega)]
  have e3 : f2 (8 + q) = .int .u64 ((k : Int) + 1) := by rw [hf2]; unfold updF; rw [if_pos rfl]
  have c1 : ((w.alloc (.cells (bxA f) 35)).alloc (.cells zBox 35)).cell? ⟨w.heap.size, 8 + q, none⟩ = some (.int .u64 k) := by
    rw [← hh]
    exact Bx.cell (show Bx _ w.heap.size f from (heap_alloc_old _ _ (by simp)).trans (heap_alloc_new w _)) (8 + q) (by omega)
  have b2 : Bx ((w.alloc (.cells ((bxA f).setIfInBounds (8 + q) (.int .u64 ((k : Int) + 1))) 35)).alloc (.cells zBox 35)) w.heap.size f2 := by
    rw [eS]; exact (heap_alloc_old _ _ (by simp)).trans (heap_alloc_new w _)
  have c2 := b2.cell q (by omega)
  rw [e2] at c2
  have c3 := b2.cell (8 + q) (by omega)
  rw [e3] at c3
  obtain ⟨W2, hW2⟩ : ∃ W2, W2 = (w.alloc (.cells ((bxA f).setIfInBounds (8 + q) (.int .u64 ((k : Int) + 1))) 35)).alloc (.cells zBox 35) := ⟨_, rfl⟩
  have hs2 : W2.heap.size = w.heap.size + 2 := by rw [hW2]; simp
  have hz2' : W2.heap[w.heap.size + 1]? = some (.cells zBox 35) := by
    have := heap_alloc_new (w.alloc (.cells ((bxA f).setIfInBounds (8 + q) (.int .u64 ((k : Int) + 1))) 35)) (.cells zBox 35)
    rw [World.size_alloc] at this
    rw [hW2]; exact this
  have hb2 : Below w.heap.size w W2 := by rw [hW2]; exact bl2 w _ _
  rw [← hW2] at b2
  obtain ⟨W3, hW3⟩ : ∃ W3, W3 = W2.alloc (.cells #[.string txt, .int .u64 ((k : Int) + 1), .int .i64 0, .int .i64 now] 66) := ⟨_, rfl⟩
  have HC := Lib.hid (show ∀ j u, [Value.string txt, .int .u64 ((k : Int) + 1), .int .i64 0, .int .i64 now][j]? = some u → W3.cell? ((⟨w.heap.size + 2, 0, none⟩ : Addr).add j) = some u from fun j u hj => by
    rw [Addr.add_lit]
    have h3 := heap_alloc_new W2 (.cells #[.string txt, .int .u64 ((k : Int) + 1), .int .i64 0, .int .i64 now] 66)
    rw [← hW3, hs2] at h3
    simp only [World.cell?, h3]
    simpa using hj)
  have H1 := Lib.hid (show ∀ u ∈ [Value.string txt, .int .u64 ((k : Int) + 1), .int .i64 0, .int .i64 now], u.oneCell' = true from fun u hu => by
    simp only [List.mem_cons, List.not_mem_nil, or_false] at hu
    rcases hu with rfl | rfl | rfl | rfl <;> rfl)
  have HX := Lib.hid (show Bx W3 w.heap.size f2 by rw [hW3]; exact (heap_alloc_old W2 _ (by omega)).trans b2)
  have HZ := Lib.hid (show W3.heap[w.heap.size + 1]? = some (.cells zBox 35) by rw [hW3]; exact (heap_alloc_old W2 _ (by omega)).trans hz2')
  have HB := Lib.hid (show Below w.heap.size w W3 by rw [hW3]; exact hb2.alloc hb2.size _)
  have HO := Lib.hid (show W3.ownsRow w.heap.size 66 4 (.slice none 0 0) 0 [] from World.ownsRow_nil _ _ _ _)
  rw [hW3, hW2] at HC HX HZ HB HO
  have HE2 := Lib.hid e2
  have HE3 := Lib.hid e3
  have HF := Lib.hid hf2
  have HSF := Lib.hid (show BxS f2 by rw [hf2]; exact hsf.num q hq _)
  clear hf hh hsf b2 e2 e3 hf2 eS hb2 hz2' hs2 hW2 hW3 W2 W3
  unfold zBox at *
  go_enter Tryz.func10, Tryz.ntmps10
  go_wp2_with (first
    | (at_builtin; refine wpList_append_own _ rfl _ _ 29 rfl w.heap.size 66 i0 (.agg #[.string ⟨#[]⟩, .int .u64 0, .int .i64 0, .int .i64 0]) 4 40 Tryz.underlying29 hi0 hz0 hz1 hz2 rfl (by decide) _ 0 [] rfl HO.out ⟨w.heap.size + 2, 0, none⟩ 1 1 [Value.string txt, .int .u64 ((k : Int) + 1), .int .i64 0, .int .i64 now] rfl rfl HC.out H1.out (by unfold maxLen; omega) (by omega) HB.out.size ?_)
    | fail)
  intro v' w1 hown1 hgrow _
  obtain ⟨a', c', rfl⟩ : ∃ a' c', v' = .slice a' 1 c' := by
    obtain ⟨a', c', e⟩ := (show Rw w1 v' 1 from ⟨_, own_zero hown1, H1.out⟩).shape
    exact ⟨a', c', e⟩
  have hx1 : Bx w1 w.heap.size f2 := (hgrow.block _ (heap_lt HX.out) (by simp [Value.ownBlock])).trans HX.out
  have hx2 := hx1.set q (by omega) (.slice a' 1 c')
  have hzz : (w1.setCell ⟨w.heap.size, q, none⟩ (.slice a' 1 c')).heap[w.heap.size + 1]? = some (.cells zBox 35) := by
    rw [Below.heap_setCell _ _ _ _ (by simp)]
    exact (hgrow.block _ (heap_lt HZ.out) (by simp [Value.ownBlock])).trans HZ.out
  have hbw : Below w.heap.size w (w1.setCell ⟨w.heap.size, q, none⟩ (.slice a' 1 c')) := (HB.out.grown hgrow HB.out.size (fun k e => by simp [Value.ownBlock] at e)).setCell (Nat.le_refl _) _
  have hrw : Rw (w1.setCell ⟨w.heap.size, q, none⟩ (.slice a' 1 c')) (.slice a' 1 c') 1 := (show Rw w1 (.slice a' 1 c') 1 from ⟨_, own_zero hown1, H1.out⟩).set_box hx1 q _
  have cw := hx1.cell q (by omega)
  have fw : w1.frozen? ⟨w.heap.size, q, none⟩ = false := Lib.frozen_of_heap hx1 q
  have HX2 := Lib.hid hx2
  have HZ2 := Lib.hid hzz
  have HBW := Lib.hid hbw
  have HRW := Lib.hid hrw
  have HNW := Lib.hid (show NewRow w.heap.size (.slice a' 1 c') from fun g a c e => own_ge hown1 g (by rw [e]; rfl))
  have HF2 := Lib.hid (show updF f2 q (.slice a' 1 c') = updF (updF f (8 + q) (.int .u64 ((k : Int) + 1))) q (.slice a' 1 c') by rw [HF.out])
  clear hown1 hgrow hx1 hx2 hzz hbw hrw HX HZ HB HC HO c1 c2 c3
  have HS3 := Lib.hid (show BxS (updF f2 q (.slice a' 1 c')) from HSF.out.row q hq _ _ _)
  clear HSF
  generalize updF f2 q (.slice a' 1 c') = f3 at *
  have hall : (bxA f3).all (·.oneCell') = true := bxA_one HS3.out
  have HIB := Lib.hid hall
  clear hall
  go_wp2_with (first
    | (refine wpList_load_row rfl 35 (.tmp 4) rfl w.heap.size rfl 35 (bxA f3) (0, 0) _ HX2.out und_box rfl sz_box ?_)
    | (refine wpList_store_row rfl 35 (.tmp 8) (.tmp 37) rfl (w.heap.size + 1) (bxA f3) rfl rfl 35 zBox HZ2.out sz_box rfl HIB.out ?_)
    | fail)
  refine bodyPost_ret (results_cell_row rfl _ _ (w.heap.size + 1) 35 (bxA f3) (0, 0) _ rfl (heap_setRow_same HZ2.out _) und_box rfl sz_box) rfl ⟨.slice a' 1 c', by rw [← HF2.out], ?_, HNW.out, ?_⟩
  · exact HRW.out.setRow HZ2.out _
  · exact below_setRow HBW.out (Nat.le_succ _) _
set_option maxRecDepth 100000 in
set_option maxHeartbeats 1000000 in
theorem radd_row (w : World) (f : Nat → Value) (hsf : BxS f) (q k n g c : Nat) (hq : q < 8) (hn : n < 100) (hf : f q = .slice (some ⟨g, 0, none⟩) n c) (hv : Rw w (.slice (some ⟨g, 0, none⟩) n c) n) (hh : f (8 + q) = .int .u64 k) (hk : k < 1000) (txt : ByteArray) (now : Int) :
    Calls Tryz.prog 10 #[.agg (bxA f), .int .i64 q, .string txt, .int .i64 now] w fun e w' => ∃ v', e = .returned (.agg (bxA (updF (updF f (8 + q) (.int .u64 ((k : Int) + 1))) q v'))) ∧ Rw w' v' (n + 1) ∧ NewRow w.heap.size v' ∧ Below w.heap.size w w' := by
  have g2 : IntKind.u64.wrap ((k : Int) + 1) = (k : Int) + 1 := by rw [IntKind.wrap_u64]; omega
  obtain ⟨i0, hi0, hz0, hz1, hz2⟩ := info_parts info_ritem
  obtain ⟨f2, hf2⟩ : ∃ f2, f2 = updF f (8 + q) (.int .u64 ((k : Int) + 1)) := ⟨_, rfl⟩
  have eS : (bxA f).setIfInBounds (8 + q) (.int .u64 ((k : Int) + 1)) = bxA f2 := by rw [hf2]; exact bxA_set f _ (by omega) _
  have e2 : f2 q = .slice (some ⟨g, 0, none⟩) n c := by rw [hf2, ← hf]; unfold updF; rw [if_neg (by omega)]
  have e3 : f2 (8 + q) = .int .u64 ((k : Int) + 1) := by rw [hf2]; unfold updF; rw [if_pos rfl]
  have c1 : ((w.alloc (.cells (bxA f) 35)).alloc (.cells zBox 35)).cell? ⟨w.heap.size, 8 + q, none⟩ = some (.int .u64 k) := by
    rw [← hh]
    exact Bx.cell (show Bx _ w.heap.size f from (heap_alloc_old _ _ (by simp)).trans (heap_alloc_new w _)) (8 + q) (by omega)
  have b2 : Bx ((w.alloc (.cells ((bxA f).setIfInBounds (8 + q) (.int .u64 ((k : Int) + 1))) 35)).alloc (.cells zBox 35)) w.heap.size f2 := by
    rw [eS]; exact (heap_alloc_old _ _ (by simp)).trans (heap_alloc_new w _)
  have c2 := b2.cell q (by omega)
  rw [e2] at c2
  have c3 := b2.cell (8 + q) (by omega)
  rw [e3] at c3
  obtain ⟨W2, hW2⟩ : ∃ W2, W2 = (w.alloc (.cells ((bxA f).setIfInBounds (8 + q) (.int .u64 ((k : Int) + 1))) 35)).alloc (.cells zBox 35) := ⟨_, rfl⟩
  have hs2 : W2.heap.size = w.heap.size + 2 := by rw [hW2]; simp
  have hz2' : W2.heap[w.heap.size + 1]? = some (.cells zBox 35) := by
    have := heap_alloc_new (w.alloc (.cells ((bxA f).setIfInBounds (8 + q) (.int .u64 ((k : Int) + 1))) 35)) (.cells zBox 35)
    rw [World.size_alloc] at this
    rw [hW2]; exact this
  have hb2 : Below w.heap.size w W2 := by rw [hW2]; exact bl2 w _ _
  rw [← hW2] at b2
  obtain ⟨xs, ⟨hl, hxs⟩, h1⟩ := hv
  have hvr : ∃ cur, w.heap[g]? = some (.cells cur 66) ∧ cur.toList.take (n * 4) = xs := by
    rcases hxs with ⟨h, _⟩ | ⟨g', cap, cur, hv, _, hg, _, _, _, ht⟩
    · cases h
    · injection hv with e; injection e with e; injection e with e; subst e; exact ⟨cur, hg, ht⟩
  obtain ⟨cur, hcur, hcx⟩ := hvr
  have HC1 := Lib.hid (show ∀ j u, xs[j]? = some u → W2.cell? ((⟨g, 0, none⟩ : Addr).add j) = some u from fun j u hj => by
    rw [Addr.add_lit]
    have hg2 := (hb2.block g (heap_lt hcur)).trans hcur
    rw [← hcx, List.getElem?_take] at hj
    split at hj
    · rw [Array.getElem?_toList] at hj
      simp only [World.cell?, hg2]
      simpa using hj
    · cases hj)
  have HO1 := Lib.hid (show W2.ownsRow w.heap.size 66 4 (.slice none 0 0) 0 [] from World.ownsRow_nil _ _ _ _)
  have HX1 := Lib.hid b2
  have HZ1 := Lib.hid hz2'
  have HB1 := Lib.hid hb2
  have HL1 := Lib.hid hl
  have HN1 := Lib.hid h1
  have H1 := Lib.hid (show ∀ u ∈ [Value.string txt, .int .u64 ((k : Int) + 1), .int .i64 0, .int .i64 now], u.oneCell' = true from fun u hu => by
    simp only [List.mem_cons, List.not_mem_nil, or_false] at hu
    rcases hu with rfl | rfl | rfl | rfl <;> rfl)
  rw [hW2] at HC1 HO1 HX1 HZ1 HB1
  have HE2 := Lib.hid e2
  have HE3 := Lib.hid e3
  have HF := Lib.hid hf2
  have HSF := Lib.hid (show BxS f2 by rw [hf2]; exact hsf.num q hq _)
  clear hf hh hsf b2 e2 e3 hf2 eS hb2 hz2' hs2 hW2 W2 hl hxs h1 hcur hcx
  unfold zBox at *
  go_enter Tryz.func10, Tryz.ntmps10
  go_wp2_with (first
    | (at_builtin; refine wpList_append_own _ rfl _ _ 29 rfl w.heap.size 66 i0 (.agg #[.string ⟨#[]⟩, .int .u64 0, .int .i64 0, .int .i64 0]) 4 40 Tryz.underlying29 hi0 hz0 hz1 hz2 rfl (by decide) _ 0 [] rfl HO1.out ⟨g, 0, none⟩ n c xs rfl HL1.out HC1.out HN1.out (by unfold maxLen; omega) (by omega) HB1.out.size ?_)
    | fail)
  intro v1 wa howna hgrowa _
  have HOA := Lib.hid (show wa.ownsRow w.heap.size 66 4 v1 n xs from (by simpa using howna))
  have HBL := Lib.hid (show ∀ k, v1.ownBlock = some k → w.heap.size ≤ k from own_ge (by simpa using howna))
  have hxa : Bx wa w.heap.size f2 := (hgrowa.block _ (heap_lt HX1.out) (by simp [Value.ownBlock])).trans HX1.out
  have hza : wa.heap[w.heap.size + 1]? = some (.cells zBox 35) := (hgrowa.block _ (heap_lt HZ1.out) (by simp [Value.ownBlock])).trans HZ1.out
  have hba : Below w.heap.size w wa := HB1.out.grown hgrowa HB1.out.size (fun k e => by simp [Value.ownBlock] at e)
  have c4 := hxa.cell (8 + q) (by omega)
  rw [HE3.out] at c4
  obtain ⟨W3, hW3⟩ : ∃ W3, W3 = wa.alloc (.cells #[.string txt, .int .u64 ((k : Int) + 1), .int .i64 0, .int .i64 now] 66) := ⟨_, rfl⟩
  have HC := Lib.hid (show ∀ j u, [Value.string txt, .int .u64 ((k : Int) + 1), .int .i64 0, .int .i64 now][j]? = some u → W3.cell? ((⟨wa.heap.size, 0, none⟩ : Addr).add j) = some u from fun j u hj => by
    rw [Addr.add_lit]
    have h3 := heap_alloc_new wa (.cells #[.string txt, .int .u64 ((k : Int) + 1), .int .i64 0, .int .i64 now] 66)
    rw [← hW3] at h3
    simp only [World.cell?, h3]
    simpa using hj)
  have HX := Lib.hid (show Bx W3 w.heap.size f2 by rw [hW3]; exact (heap_alloc_old wa _ (heap_lt hxa)).trans hxa)
  have HZ := Lib.hid (show W3.heap[w.heap.size + 1]? = some (.cells zBox 35) by rw [hW3]; exact (heap_alloc_old wa _ (heap_lt hza)).trans hza)
  have HB := Lib.hid (show Below w.heap.size w W3 by rw [hW3]; exact hba.alloc hba.size _)
  have HR1 := Lib.hid (show Rw wa v1 n from ⟨_, own_zero HOA.out, HN1.out⟩)
  have HO := Lib.hid (show W3.ownsRow w.heap.size 66 4 v1 n xs by rw [hW3]; exact own_alloc HOA.out _)
  have HNE := Lib.hid (show ∀ b, (∃ cs, W3.heap[b]? = some (.cells cs 35)) → some b ≠ v1.ownBlock from fun b ⟨cs, hb⟩ e => own_box HO.out e hb)
  rw [hW3] at HC HX HZ HB HO HNE
  clear howna hgrowa hxa hza hba hW3 W3 HOA HC1 HO1 HX1 HZ1 HB1 HL1 c1 c2 c3
  obtain ⟨a1, d1, rfl⟩ := HR1.out.shape
  go_wp2_with (first
    | (at_builtin; refine wpList_append_own _ rfl _ _ 29 rfl w.heap.size 66 i0 (.agg #[.string ⟨#[]⟩, .int .u64 0, .int .i64 0, .int .i64 0]) 4 40 Tryz.underlying29 hi0 hz0 hz1 hz2 rfl (by decide) _ n xs rfl HO.out ⟨wa.heap.size, 0, none⟩ 1 1 [Value.string txt, .int .u64 ((k : Int) + 1), .int .i64 0, .int .i64 now] rfl rfl HC.out H1.out (by unfold maxLen; omega) (by omega) HB.out.size ?_)
    | fail)
  intro v' w1 hown1 hgrow _
  obtain ⟨a', c', rfl⟩ : ∃ a' c', v' = .slice a' (n + 1) c' := by
    obtain ⟨a', c', e⟩ := (show Rw w1 v' (n + 1) from ⟨_, own_zero hown1, one_app HN1.out H1.out⟩).shape
    exact ⟨a', c', e⟩
  have hx1 : Bx w1 w.heap.size f2 := (hgrow.block _ (heap_lt HX.out) (HNE.out _ ⟨_, HX.out⟩)).trans HX.out
  have hx2 := hx1.set q (by omega) (.slice a' (n + 1) c')
  have hzz : (w1.setCell ⟨w.heap.size, q, none⟩ (.slice a' (n + 1) c')).heap[w.heap.size + 1]? = some (.cells zBox 35) := by
    rw [Below.heap_setCell _ _ _ _ (by simp)]
    exact (hgrow.block _ (heap_lt HZ.out) (HNE.out _ ⟨_, HZ.out⟩)).trans HZ.out
  have hbw : Below w.heap.size w (w1.setCell ⟨w.heap.size, q, none⟩ (.slice a' (n + 1) c')) := (HB.out.grown hgrow HB.out.size (fun k e => HBL.out k e)).setCell (Nat.le_refl _) _
  have hrw : Rw (w1.setCell ⟨w.heap.size, q, none⟩ (.slice a' (n + 1) c')) (.slice a' (n + 1) c') (n + 1) := (show Rw w1 (.slice a' (n + 1) c') (n + 1) from ⟨_, own_zero hown1, one_app HN1.out H1.out⟩).set_box hx1 q _
  have cw := hx1.cell q (by omega)
  have fw : w1.frozen? ⟨w.heap.size, q, none⟩ = false := Lib.frozen_of_heap hx1 q
  have HX2 := Lib.hid hx2
  have HZ2 := Lib.hid hzz
  have HBW := Lib.hid hbw
  have HRW := Lib.hid hrw
  have HNW := Lib.hid (show NewRow w.heap.size (.slice a' (n + 1) c') from fun g a c e => own_ge hown1 g (by rw [e]; rfl))
  have HF2 := Lib.hid (show updF f2 q (.slice a' (n + 1) c') = updF (updF f (8 + q) (.int .u64 ((k : Int) + 1))) q (.slice a' (n + 1) c') by rw [HF.out])
  clear hown1 hgrow hx1 hx2 hzz hbw hrw HX HZ HB HC HO c4
  have HS3 := Lib.hid (show BxS (updF f2 q (.slice a' (n + 1) c')) from HSF.out.row q hq _ _ _)
  clear HSF
  generalize updF f2 q (.slice a' (n + 1) c') = f3 at *
  have hall : (bxA f3).all (·.oneCell') = true := bxA_one HS3.out
  have HIB := Lib.hid hall
  clear hall
  go_wp2_with (first
    | (refine wpList_load_row rfl 35 (.tmp 4) rfl w.heap.size rfl 35 (bxA f3) (0, 0) _ HX2.out und_box rfl sz_box ?_)
    | (refine wpList_store_row rfl 35 (.tmp 8) (.tmp 37) rfl (w.heap.size + 1) (bxA f3) rfl rfl 35 zBox HZ2.out sz_box rfl HIB.out ?_)
    | fail)
  refine bodyPost_ret (results_cell_row rfl _ _ (w.heap.size + 1) 35 (bxA f3) (0, 0) _ rfl (heap_setRow_same HZ2.out _) und_box rfl sz_box) rfl ⟨.slice a' (n + 1) c', by rw [← HF2.out], ?_, HNW.out, ?_⟩
  · exact HRW.out.setRow HZ2.out _
  · exact below_setRow HBW.out (Nat.le_succ _) _
theorem radd_any (w : World) (f : Nat → Value) (hsf : BxS f) (q k n : Nat) (hq : q < 8) (hn : n < 100) (v : Value) (hf : f q = v) (hv : Rw w v n) (hh : f (8 + q) = .int .u64 k) (hk : k < 1000) (txt : ByteArray) (now : Int) :
    Calls Tryz.prog 10 #[.agg (bxA f), .int .i64 q, .string txt, .int .i64 now] w fun e w' => ∃ v', e = .returned (.agg (bxA (updF (updF f (8 + q) (.int .u64 ((k : Int) + 1))) q v'))) ∧ Rw w' v' (n + 1) ∧ NewRow w.heap.size v' ∧ Below w.heap.size w w' := by
  obtain ⟨xs, ⟨hl, hxs⟩, h1⟩ := hv
  rcases hxs with ⟨rfl, rfl⟩ | ⟨g, cap, cur, rfl, hr⟩
  · exact radd_nil w f hsf q k hq hf hh hk txt now
  · exact radd_row w f hsf q k n g cap hq hn hf ⟨xs, ⟨hl, .inr ⟨g, cap, cur, rfl, hr⟩⟩, h1⟩ hh hk txt now
end Go.Proofs.YtcohbfabcdjefaaGreatDoor
