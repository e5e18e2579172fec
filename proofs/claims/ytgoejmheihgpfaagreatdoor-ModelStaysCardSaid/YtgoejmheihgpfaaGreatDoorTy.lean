/- Lemmas for ModelStays' proof. -/
import Derived.Lib.AppendZerosOnto
import Derived.Lib.SliceRun
import Derived.Laws.OwnMore
import Derived.Laws.AppendOwnNone
import Derived.Great.BuildSlice
import Derived.Test.YtgoejmheihgpfaaGreatDoorTl
namespace Go.Proofs.YtgoejmheihgpfaaGreatDoor
set_option maxRecDepth 100000
set_option maxHeartbeats 16000000
open Go.RowKit
theorem info_mrk3 : (Tryz.prog.info? 57).map (fun i => (i.zero, i.size, i.bytes)) = some (some (.agg #[eS, eS, eS, iV 0, .int .u8 0, iV 0, .bool false, iV 0, eS, iV 0, iV 0, eS, iV 0, .bool false]), 14, 152) := by kernel_rfl
theorem mkcells_len : ∀ (L : List Mrk), (mkcells L).length = L.length * 14
 | [] => rfl
 | m :: L => by
  have := mkcells_len L
  show ((mrkC m).toList ++ mkcells L).length = _
  rw [List.length_append, this, List.length_cons]
  show 14 + _ = _
  omega
theorem mkcells_one : ∀ (L : List Mrk), ∀ u ∈ mkcells L, u.oneCell' = true
 | [], _, h => by cases h
 | m :: L, u, h => by
  rcases List.mem_append.1 (show u ∈ (mrkC m).toList ++ mkcells L from h) with h | h
  ·simp only [mrkC, List.mem_cons, List.not_mem_nil, or_false] at h
   rcases h with h | h | h | h | h | h | h | h | h | h | h | h | h | h <;> (subst h; rfl)
  ·exact mkcells_one L u h
theorem mkcells_append : ∀ (l r : List Mrk), mkcells (l ++ r) = mkcells l ++ mkcells r := fun l r => by unfold mkcells; exact List.flatMap_append
theorem grow_any (w : World) (n : Nat) (hn : n ≤ 2000) : Calls Tryz.prog 98 #[.slice none 0 0, iV n] w fun e w' => ∃ v, e = .returned v ∧ w'.ownsRow w.heap.size 57 14 v 0 [] ∧ Below w.heap.size w w' := by
 obtain ⟨i0, hi0, hz0, hz1, hz2⟩ := info_parts info_mrk3
 have h1 : ¬ ((n : Int) < 0) := by omega
 have h2 : wrap64 ((0 : Int) - 0) = 0 := by kernel_rfl
 have h3 : wrap64 ((n : Int) - 0) = (n : Int) := by unfold wrap64; omega
 rcases Nat.eq_zero_or_pos n with rfl | hp
 ·have h4 : ¬ ((((0 : Nat) : Int)) > 0) := by omega
  go_enter Tryz.func98, Tryz.ntmps98; go_wp2; exact zR (v := .slice none 0 0) ⟨_, rfl, World.ownsRow_nil _ _ _ _, zl⟩
 ·have h4 : (n : Int) > 0 := by omega
  have hold : (Builtin.firstCells i0.size 0 (.slice none 0 0)).run Tryz.prog w.drew = .ok (([] : List Value).toArray) w.drew := run_firstCells_none (w := w.drew) i0.size 0 0 0
  have hrz : ∀ ty, (Builtin.append_ #[43, 3] ty #[.slice none 0 0, iV (n : Int)]).run Tryz.prog w = .ok (.slice (some ⟨w.heap.size, 0, none⟩) n (grownCap w n 0 57)) (w.drew.alloc (.cells (([] : List Value).toArray ++ Builtin.zeroCells (Value.cells (.agg #[eS, eS, eS, iV 0, .int .u8 0, iV 0, .bool false, iV 0, eS, iV 0, iV 0, eS, iV 0, .bool false])) n ++ Builtin.zeroCells (Value.cells (.agg #[eS, eS, eS, iV 0, .int .u8 0, iV 0, .bool false, iV 0, eS, iV 0, iV 0, eS, iV 0, .bool false])) (grownCap w n 0 57 - n)) 57)) := fun ty => by
   have h := Lib.run_append_grow_zeros w 43 3 ty 57 i0 _ .i64 .i64 Tryz.underlying43 Tryz.underlying3 hi0 hz0 none 0 0 [] hold n hp (by omega) (by omega) (by omega)
    (by rw [hz2]; omega) (by rw [Nat.zero_add]; exact growslice_fits hp (by rw [hz2]; omega))
   rw [Nat.zero_add] at h; exact h
  have hge := grownCap_ge w n 0 57; have hle := grownCap_le_maxLen w n 0 57 (by unfold maxLen; omega); generalize grownCap w n 0 57 = G at *; have hG63 : G ≤ 9223372036854775807 := by unfold maxLen at hle; omega
  go_enter Tryz.func98, Tryz.ntmps98; go_wp2_with (at_builtin; refine Lib.wpList_append_run _ rfl _ _ _ _ rfl _ _ rfl rfl _ _ (hrz _) ?_); have hb := (Below.refl w.heap.size w).alloc zn (Obj.cells (Builtin.zeroCells #[eS, eS, eS, iV 0, .int .u8 0, iV 0, .bool false, iV 0, eS, iV 0, iV 0, eS, iV 0, .bool false] n ++ Builtin.zeroCells #[eS, eS, eS, iV 0, .int .u8 0, iV 0, .bool false, iV 0, eS, iV 0, iV 0, eS, iV 0, .bool false] (G - n)) 57); exact zR (v := .slice (some ⟨w.heap.size, 0, none⟩) 0 G) ⟨_, rfl, World.ownsRow_made w _ G zn hle (by rw [Array.size_append, size_zeroCells, size_zeroCells, ← Nat.add_mul]; congr 1; omega), ⟨hb.os, hb.tape, hb.output, hb.size, hb.block⟩⟩
theorem wpList_append_mrks {w : World} {ops : Array Oper} {rest : List Oper} {o : Oper} {a : Act} {Q : Exit → Act → World → Prop} (hgd : o.guard = none) (s x : Operand)
  (ho : o.op = .call { callee := .builtin .append, args := #[s, x], argTypes := #[43, 43] })
  (base : Nat)
  (v : Value) (n : Nat) (xs : List Value) (hs : a.eval s = v) (hown : w.ownsRow base 57 14 v n xs)
  (src : Value) (L : List Mrk) (hx : a.eval x = src) (hrow : Slc w 14 src L.length (mkcells L)) (hn : n + L.length ≤ 1000000) (hbase : base ≤ w.heap.size)
  (h : ∀ v' w', w'.ownsRow base 57 14 v' (n + L.length) (xs ++ mkcells L) → w.grownBy w' v.ownBlock → wpList Tryz.prog ops Q rest (a.put o.dst v') w') : wpList Tryz.prog ops Q (o :: rest) a w := by
 obtain ⟨i, hi, hz, hsize, hby⟩ := info_parts info_mrk3
 obtain ⟨⟨ad, c, rfl, q1, q2, q3, q4⟩, ql⟩ := hrow
 cases ad with
 | none =>
  have hc := q3 rfl
  have hL : L = [] := List.eq_nil_of_length_eq_zero (by omega)
  subst hL
  subst hc
  refine wpList_append_own_none hgd s x 43 ho base 57 i 14 Tryz.underlying43 hi v n xs hs hown hx ?_
  exact h v w (by simpa [mkcells] using hown) ⟨rfl, rfl, rfl, zn, fun _ _ _ => rfl⟩
 | some ad =>
  refine wpList_append_own w hgd s x 43 ho base 57 i _ 14 152 Tryz.underlying43 hi hz hsize hby rfl (by decide) v n xs hs hown ad L.length c (mkcells L) hx (mkcells_len L) (fun j u hu => ?_) (mkcells_one L) (by unfold maxLen; omega) (by omega) hbase (fun v' w' h1 h2 _ => h v' w' h1 h2)
  have hlt : 0 < L.length := by
   have := (List.getElem?_eq_some_iff.1 hu).1
   rw [mkcells_len] at this
   omega
  obtain ⟨b, o', e, _, hc⟩ := q4 hlt
  injection e with e
  subst e
  have hq := hc j u hu
  by_cases hj : j = 0
  ·subst hj; simpa [Addr.add] using hq
  ·simpa [Addr.add, hj] using hq
theorem concat_any (w : World) (b c : Nat) (u1 u2 : Value) (hb : w.heap[b]? = some (.cells #[u1, u2] 43 (0, 0))) (X Y : List Mrk) (h1 : Slc w 14 u1 X.length (mkcells X)) (h2 : Slc w 14 u2 Y.length (mkcells Y)) (hl : X.length + Y.length ≤ 2000) :
  Calls Tryz.prog 69 #[.slice (some ⟨b, 0, none⟩) 2 c] w fun e w' => ∃ v, e = .returned v ∧ w'.ownsRow w.heap.size 57 14 v (X.length + Y.length) (mkcells (X ++ Y)) ∧ Below w.heap.size w w' := by
 obtain ⟨a1, c1, rfl⟩ := h1.shape
 obtain ⟨a2, c2, rfl⟩ := h2.shape
 have e0 := zG hb 0 rfl
 have e1 := zG hb 1 rfl
 have w1 : wrap64 ((X.length : Int) + (Y.length : Int)) = (X.length : Int) + (Y.length : Int) := IntWalk.wrap64_in _ (by omega)
 have w2 : wrap64 (0 + (X.length : Int)) = (X.length : Int) := by rw [Int.zero_add]; exact IntWalk.wrap64_in _ (by omega)
 have hx0 : ¬ ((X.length : Int) < 0) := by omega
 have hx1 : ¬ ((X.length : Int) + (Y.length : Int) < 0) := by omega
 go_enter Tryz.func69, Tryz.ntmps69
 have HG := zD (grow_any w (X.length + Y.length) hl)
 have HX := zD h1
 have HY := zD h2
 have HE0 := zD e0
 have HE1 := zD e1
 have HB0 := zD hb
 clear h1 h2 hb
 go_wp2_with fail
 go_loop [11, 3] (fun vi vz => ∃ j S : Nat, j ≤ 2 ∧ vi = iV (j : Nat) ∧ vz = iV (S : Nat) ∧ Hid ((j = 0 ∧ S = 0) ∨ (j = 1 ∧ S = X.length) ∨ (j = 2 ∧ S = X.length + Y.length))) (fun vi _ => 2 - (intOf vi).toNat)
 case atStart => exact ⟨0, 0, by omega, rfl, rfl, zD (.inl ⟨rfl, rfl⟩)⟩
 case round =>
  obtain ⟨j, S, hj, rfl, rfl, HJ⟩ := hrel; rcases HJ.out with ⟨rfl, rfl⟩ | ⟨rfl, rfl⟩ | ⟨rfl, rfl⟩
  ·clear HJ
   go_wp2_with fail; exact ⟨⟨1, X.length, by omega, by go_num, by go_num, zD (.inr (.inl ⟨rfl, rfl⟩))⟩, by simp [intOf]⟩
  ·clear HJ
   go_wp2_with fail; exact ⟨⟨2, X.length + Y.length, by omega, by go_num, by go_num, zD (.inr (.inr ⟨rfl, rfl⟩))⟩, by simp [intOf]⟩
  clear HJ; go_wp2_with fail; refine HG.out.mono ?_; rintro e w2 ⟨v, rfl, hown, hb⟩; have HOW0 := zD hown; have HBW := zD hb; have e0' := (hb.cell (p := ⟨b, 0, none⟩) (blk_lt HB0.out)).trans e0; have e1' := (hb.cell (p := ⟨b, 1, none⟩) (blk_lt HB0.out)).trans e1; clear hown hb HE0 HE1 e0 e1 w1 hx0 hx1 HG; go_wp2_with fail; go_loopw [27, 6] (fun vi vs wr => ∃ (j n : Nat) (xs : List Value), j ≤ 2 ∧ vi = iV (j : Nat) ∧ Hid (wr.ownsRow w.heap.size 57 14 vs n xs) ∧ Hid (Below w.heap.size w wr) ∧ Hid ((j = 0 ∧ n = 0 ∧ xs = []) ∨ (j = 1 ∧ n = X.length ∧ xs = mkcells X) ∨ (j = 2 ∧ n = X.length + Y.length ∧ xs = mkcells (X ++ Y)))) (fun vi _ _ => 2 - (intOf vi).toNat)
  case atStart => exact ⟨0, 0, [], by omega, rfl, HOW0, HBW, zD (.inl ⟨rfl, rfl, rfl⟩)⟩
  case round =>
   rename World => wr
   obtain ⟨j, n, xs, hj, rfl, HOW, HBr, HJ⟩ := hrel; have e0 := (HBr.out.cell (p := ⟨b, 0, none⟩) (blk_lt HB0.out)).trans (show w.cell? ⟨b, 0, none⟩ = some (.slice a1 X.length c1) by simp only [World.cell?, HB0.out]; rfl); have e1 := (HBr.out.cell (p := ⟨b, 1, none⟩) (blk_lt HB0.out)).trans (show w.cell? ⟨b, 1, none⟩ = some (.slice a2 Y.length c2) by simp only [World.cell?, HB0.out]; rfl); rcases HJ.out with ⟨rfl, rfl, rfl⟩ | ⟨rfl, rfl, rfl⟩ | ⟨rfl, rfl, rfl⟩
   ·clear HJ
    go_wp2_with (first | (at_builtin; refine wpList_append_mrks rfl _ _ rfl w.heap.size u6 0 [] rfl HOW.out _ X rfl (HX.out.below HBr.out) (by omega) HBr.out.size ?_; intro v' w1 hown1 hgrow; have HOW1 := zD hown1; have HBw1 := zD (HBr.out.grown hgrow HBr.out.size (fun k hk => (HOW.out.lt k hk).1)); clear hown1 hgrow)); exact ⟨⟨1, X.length, mkcells X, by omega, by go_num, by simpa using HOW1, HBw1, zD (.inr (.inl ⟨rfl, rfl, rfl⟩))⟩, by simp [intOf]⟩
   ·clear HJ
    go_wp2_with (first | (at_builtin; refine wpList_append_mrks rfl _ _ rfl w.heap.size u6 X.length (mkcells X) rfl HOW.out _ Y rfl (HY.out.below HBr.out) (by omega) HBr.out.size ?_; intro v' w1 hown1 hgrow; have HOW1 := zD hown1; have HBw1 := zD (HBr.out.grown hgrow HBr.out.size (fun k hk => (HOW.out.lt k hk).1)); clear hown1 hgrow)); exact ⟨⟨2, X.length + Y.length, mkcells (X ++ Y), by omega, by go_num, by rw [mkcells_append]; exact HOW1, HBw1, zD (.inr (.inr ⟨rfl, rfl, rfl⟩))⟩, by simp [intOf]⟩
   clear HJ; go_wp2_with fail; exact zR (v := u6) ⟨_, rfl, HOW.out, HBr.out⟩
theorem slc_frontM {w : World} {a : Option Addr} {c : Nat} {L : List Mrk} (h : Slc w 14 (.slice a L.length c) L.length (mkcells L)) (k : Nat) (hk : k ≤ L.length) : Slc w 14 (.slice a k c) (L.take k).length (mkcells (L.take k)) := by
 obtain ⟨⟨a', c', e, q1, q2, q3, q4⟩, ql⟩ := h
 injection e with e1 _ e3
 subst e1 e3
 have hl : (L.take k).length = k := by rw [List.length_take]; omega
 have hpre : mkcells L = mkcells (L.take k) ++ mkcells (L.drop k) := by rw [← mkcells_append, List.take_append_drop]
 refine ⟨⟨a, c, by rw [hl], by omega, q2, q3, fun h0 => ?_⟩, by rw [mkcells_len]⟩
 obtain ⟨b, o, e, hb, hc⟩ := q4 (by omega)
 exact ⟨b, o, e, hb, fun j u hu => hc j u (by rw [hpre, List.getElem?_append_left (List.getElem?_eq_some_iff.1 hu).1]; exact hu)⟩
theorem slc_backM {w : World} {b o c : Nat} {L : List Mrk} (h : Slc w 14 (.slice (some ⟨b, o, none⟩) L.length c) L.length (mkcells L)) (k : Nat) (hk : k ≤ L.length) (A : Option Addr) (hA : A = if c = k then some ⟨b, o, none⟩ else some ⟨b, o + k * 14, none⟩) : Slc w 14 (.slice A (L.length - k) (c - k)) (L.drop k).length (mkcells (L.drop k)) := by
 obtain ⟨⟨a', c', e, q1, q2, q3, q4⟩, ql⟩ := h
 injection e with e1 _ e3
 subst e1 e3
 have hl : (L.drop k).length = L.length - k := by rw [List.length_drop]
 have hpre : mkcells L = mkcells (L.take k) ++ mkcells (L.drop k) := by rw [← mkcells_append, List.take_append_drop]
 have ht : (mkcells (L.take k)).length = k * 14 := by rw [mkcells_len, List.length_take]; rw [Nat.min_eq_left hk]
 refine ⟨⟨A, c - k, by rw [hl], by omega, by omega, (fun e => by subst hA; split at e <;> cases e), fun h0 => ?_⟩, by rw [mkcells_len]⟩
 obtain ⟨b', o', e, hb, hc⟩ := q4 (by omega)
 cases e
 refine ⟨b, o + k * 14, by rw [hA, if_neg (by omega)], hb, fun j u hu => ?_⟩
 rw [show o + k * 14 + j = o + (k * 14 + j) by omega]
 exact hc _ u (by rw [hpre, List.getElem?_append_right (by omega), ht, show k * 14 + j - k * 14 = j by omega]; exact hu)
theorem owns_nx {w W : World} {g base : Nat} {c : Array Value} {T e : TypeId} {size n : Nat} {v : Value} {xs : List Value} (h : w.ownsRow base e size v n xs) (X : Nx w W g c T) (hg : g < base) : W.ownsRow base e size v n xs :=
 ⟨h.1, h.2.imp_right fun ⟨g', cap, cur, e1, hb, hk, r⟩ => ⟨g', cap, cur, e1, hb, X.keep (by omega) hk, r⟩⟩
theorem info_slc43 : (Tryz.prog.info? 43).map (fun i => (i.zero, i.size, i.bytes)) = some (some (.slice none 0 0), 1, 24) := by kernel_rfl
section
variable {ops : Array Oper} {w : World} {Q : Exit → Act → World → Prop} {a : Act} {o : Oper} {K : Act → World → Prop}
theorem op_loadC {P : Program} {Y : Prop} (ty : TypeId) (x : Operand) (ho : o.op = .load ty x) (hg : o.guard = none) (g j : Nat) (hx : a.eval x = .pointer (some ⟨g, j, none⟩)) (v : Value) (hag : ∀ W, (isAgg ty).run P W = .ok false W) {cs : Array Value} {T : TypeId}
  (H : w.heap[g]? = some (.cells cs T (0, 0))) (hj : cs[j]? = some v) (h : K (a.put o.dst v) w) : if Region.wanted o (yielded ops a.tmps) = true then o.wp P a w K Q else Y :=
 op_want hg (by
  have hr : (execOp a.eval o).run P w = .ok (.value v) w := run_loadC_op ty x ho g j hx v hag H hj
  unfold Oper.wp
  simp only [hr]
  exact h)
theorem op_build2 {Y : Prop} (p q : Tmp) (ho : o.op = .buildSlice 177 2 #[(0, .tmp p), (1, .tmp q)]) (hg : o.guard = none) (x1 x2 : Option Addr) (n1 n2 c1 c2 : Nat) (hp : a.eval (.tmp p) = .slice x1 n1 c1) (hq : a.eval (.tmp q) = .slice x2 n2 c2)
  (h : ∀ W g, w.heap.size ≤ g → Nx w W g #[.slice x1 n1 c1, .slice x2 n2 c2] 43 → K (a.put o.dst (.slice (some ⟨g, 0, none⟩) 2 2)) W) : if Region.wanted o (yielded ops a.tmps) = true then o.wp Tryz.prog a w K Q else Y := by
 obtain ⟨i, hi, hz, hs, _⟩ := info_parts info_slc43
 refine op_want hg (wp_buildSlice 177 43 2 _ ho #[.slice x1 n1 c1, .slice x2 n2 c2] i (.slice none 0 0) Tryz.underlying177 hi hz (by rw [hs]; decide) (by rw [hs]; decide) ?_ (h _ _ zn (Nx.alloc w _ _)))
 rw [hs]
 simp only [List.map_toArray, List.map_cons, List.map_nil, hp, hq]
 kernel_rfl
end
end Go.Proofs.YtgoejmheihgpfaaGreatDoor
