/- Lemmas for ModelStays' proof. -/
import Derived.Test.YtgoejmheihgpfaaGreatDoorPg
namespace Go.Proofs.YtgoejmheihgpfaaGreatDoor
set_option maxRecDepth 100000
set_option maxHeartbeats 16000000
open Go.RowKit
theorem bT_is (a x : Tx) : ((bT a).toList == x) = decide (a = x) := by
 rw [bT_list, Bool.eq_iff_iff, beq_iff_eq, decide_eq_true_iff]
theorem srt_round {w wr w6 : World} {v : Value} {o : Obj} (hv : ∀ g, v.ownBlock = some g → w.heap.size ≤ g ∧ g < wr.heap.size) (h1 : Below w.heap.size w wr) (hg : (wr.alloc o).grownBy w6 v.ownBlock) : Below w.heap.size w w6 :=
 (h1.alloc h1.size o).grown hg (by have := h1.size; simp; omega) (fun k e => (hv k e).1)
theorem sorts_any (w : World) (v : Value) (T : List Tok) (h : Slc w 4 v T.length (tcells T)) (hL : T.length ≤ 65536) (hB : ∀ t ∈ T, t.text.length ≤ 65536) (i : Int) (hi : Pl T i) : Calls Tryz.prog 148 #[v, iV i] w fun e w' => ∃ u, e = .returned (.tuple #[u, iV (sortsA T (T.length + 1) i).2]) ∧ w'.ownsRow w.heap.size 79 2 u (sortsA T (T.length + 1) i).1.length (scells (sortsA T (T.length + 1) i).1) ∧ Below w.heap.size w w' := by
 have HT := zD (fun w' (X : Below w.heap.size w w') j (hj : Pl T j) => text_any w' v T (h.below X) hL j (by have := hj.1; omega) (by have := hj.2; omega))
 have HN := zD (fun w' (X : Below w.heap.size w w') j (hj : Pl T j) => namer_pl w' v T (h.below X) hL hB j hj)
 clear h hB
 by_cases h0 : i < 0
 ·rw [sorts_neg h0]
  go_enter Tryz.func148, Tryz.ntmps148; go_wp2_with fail; exact zR (v := .tuple #[.slice none 0 0, iV i]) ⟨_, rfl, World.ownsRow_nil _ _ _ _, zl⟩
 obtain ⟨k0, rfl⟩ : ∃ k : Nat, i = (k : Int) := ⟨i.toNat, by omega⟩
 have hk0 : k0 ≤ T.length := by have := hi.2; omega
 have HQ := zD (show sortsA T (T.length + 1) (k0 : Int) = ahead [] (sortsA T (T.length + 1) (k0 : Int)) from rfl)
 generalize hq : sortsA T (T.length + 1) (k0 : Int) = Q at *
 have HQ := zD (show Q = ahead [] (sortsA T (T.length + 1) (k0 : Int)) from by rw [hq]; rfl)
 clear hq
 go_enter Tryz.func148, Tryz.ntmps148
 go_wp2_with fail
 go_loopw [6, 1] (fun vl va wr => ∃ (k F : Nat) (S : List Srt), k ≤ T.length ∧ va = iV (k : Nat) ∧ S.length ≤ k ∧ T.length < F + k ∧ Hid (wr.ownsRow w.heap.size 79 2 vl S.length (scells S)) ∧ Hid (Below w.heap.size w wr) ∧ Hid (Q = ahead S (sortsA T F (k : Int)))) (fun _ va _ => T.length + 1 - (intOf va).toNat)
 case atStart => exact ⟨k0, T.length + 1, [], by omega, rfl, by simp, by omega, World.ownsRow_nil _ _ _ _, zl, HQ⟩
 case round =>
  clear HQ hk0 hi h0; obtain ⟨k, F, S, hk, rfl, hSk, hF, HR, HB, HQ⟩ := hrel; obtain ⟨va, vc, rfl⟩ := own_slice HR.out; obtain ⟨F, rfl⟩ : ∃ F', F = F' + 1 := ⟨F - 1, by omega⟩; have hk0 : ¬ (k : Int) < 0 := by omega
  have hpl : Pl T (k : Int) := ⟨by omega, by omega⟩; have HTk := zD (HT.out wr HB.out _ hpl); have HNk := zD (HN.out wr HB.out _ hpl); have HIN := zD (fun (h : textA T (k : Int) ≠ []) => text_in hk0 h); have HS1 := zD (fun (h : textA T (k : Int) = wList) => HQ.out.trans (sorts_list (S := S) (F := F) hk0 h)); have HS2 := zD (fun (h : textA T (k : Int) = wOpt) => HQ.out.trans (sorts_opt (S := S) (F := F) hk0 h)); have HS3 := zD (fun (h1 : textA T (k : Int) ≠ wList) (h2 : textA T (k : Int) ≠ wOpt) => HQ.out.trans (sorts_last (S := S) (F := F) hk0 h1 h2)); unfold lastA at HS3; generalize textA T (k : Int) = y at *; have HOG := zD (own_ge HR.out); have hszw := HB.out.size; obtain ⟨i0, hi0, hz0, hz1, hz2⟩ := info_parts info_srt; have e_wList : ((bT y).toList == [108, 105, 115, 116]) = decide (y = wList) := bT_is y wList; have e_wOpt : ((bT y).toList == [111, 112, 116]) = decide (y = wOpt) := bT_is y wOpt; have e_wNone : ((bT y).toList == [110, 111, 110, 101]) = decide (y = wNone) := bT_is y wNone; have e_wBool : ((bT y).toList == [98, 111, 111, 108]) = decide (y = wBool) := bT_is y wBool; have e_wInt : ((bT y).toList == [105, 110, 116]) = decide (y = wInt) := bT_is y wInt; have e_wText : ((bT y).toList == [116, 101, 120, 116]) = decide (y = wText) := bT_is y wText; by_cases c_wList : y = wList
  ·rw [zt c_wList] at e_wList
   have HNX := zD (HS1.out c_wList); have hlt := HIN.out (by rw [c_wList]; decide); clear HS1 HS2 HS3 HIN e_wOpt e_wNone e_wBool e_wInt e_wText c_wList; go_wp2_with fail; refine HTk.out.mono ?_; rintro e w2 ⟨rfl, rfl⟩; go_wp2_with fail; refine HTk.out.mono ?_; rintro e w2 ⟨rfl, rfl⟩
   go_wp2_with (first
    | (at_builtin; refine wpList_append_own _ rfl _ _ 75 rfl w.heap.size 79 i0 (.agg #[.int .u8 0, eS]) 2 24 Tryz.underlying75 hi0 hz0 hz1 hz2 rfl (by decide) _ _ _ rfl (HR.out.alloc _) ⟨wr.heap.size, 0, none⟩ 1 1 [.int .u8 5, eS] rfl rfl (World.news_of_block (cs := #[.int .u8 5, eS]) (t := 79) (fr := (0, 0)) (zw wr _)) (by simp [Value.oneCell']) (by unfold maxLen; omega) (by omega) (by simp; omega) ?_; intro v' w6 hown6 hgrow _; obtain ⟨xa, xc, rfl⟩ := own_slice hown6; have HW6 := zD (srt_round HOG.out HB.out hgrow))
    | fail)
   exact ⟨⟨k + 1, F, S ++ [⟨5, []⟩], by omega, by go_num, by simp; omega, by omega, by rw [scells_append, List.length_append]; exact hown6, HW6.out, by rw [Int.natCast_succ]; exact HNX.out⟩, by simp [intOf]; omega⟩
  by_cases c_wOpt : y = wOpt
  ·rw [zf c_wList] at e_wList
   rw [zt c_wOpt] at e_wOpt; have HNX := zD (HS2.out c_wOpt); have hlt := HIN.out (by rw [c_wOpt]; decide); clear HS1 HS2 HS3 HIN e_wNone e_wBool e_wInt e_wText c_wList c_wOpt; go_wp2_with fail; refine HTk.out.mono ?_; rintro e w2 ⟨rfl, rfl⟩; go_wp2_with fail; refine HTk.out.mono ?_; rintro e w2 ⟨rfl, rfl⟩; go_wp2_with fail; refine HTk.out.mono ?_; rintro e w2 ⟨rfl, rfl⟩
   go_wp2_with (first
    | (at_builtin; refine wpList_append_own _ rfl _ _ 75 rfl w.heap.size 79 i0 (.agg #[.int .u8 0, eS]) 2 24 Tryz.underlying75 hi0 hz0 hz1 hz2 rfl (by decide) _ _ _ rfl (HR.out.alloc _) ⟨wr.heap.size, 0, none⟩ 1 1 [.int .u8 6, eS] rfl rfl (World.news_of_block (cs := #[.int .u8 6, eS]) (t := 79) (fr := (0, 0)) (zw wr _)) (by simp [Value.oneCell']) (by unfold maxLen; omega) (by omega) (by simp; omega) ?_; intro v' w6 hown6 hgrow _; obtain ⟨xa, xc, rfl⟩ := own_slice hown6; have HW6 := zD (srt_round HOG.out HB.out hgrow))
    | fail)
   exact ⟨⟨k + 1, F, S ++ [⟨6, []⟩], by omega, by go_num, by simp; omega, by omega, by rw [scells_append, List.length_append]; exact hown6, HW6.out, by rw [Int.natCast_succ]; exact HNX.out⟩, by simp [intOf]; omega⟩
  ·rw [zf c_wList] at e_wList
   rw [zf c_wOpt] at e_wOpt; have HNX := HS3.out c_wList c_wOpt; clear HS1 HS2 HS3 c_wList c_wOpt; go_wp2_with fail; refine HTk.out.mono ?_; rintro e w2 ⟨rfl, rfl⟩; go_wp2_with fail; refine HTk.out.mono ?_; rintro e w2 ⟨rfl, rfl⟩; go_wp2_with fail; by_cases c_wNone : y = wNone
   ·rw [zt c_wNone] at e_wNone
    rw [if_pos c_wNone] at HNX; clear HIN c_wNone; subst HNX; refine HTk.out.mono ?_; rintro e w2 ⟨rfl, rfl⟩
    go_wp2_with (first
     | (at_builtin; refine wpList_append_own _ rfl _ _ 75 rfl w.heap.size 79 i0 (.agg #[.int .u8 0, eS]) 2 24 Tryz.underlying75 hi0 hz0 hz1 hz2 rfl (by decide) _ _ _ rfl (HR.out.alloc _) ⟨wr.heap.size, 0, none⟩ 1 1 [.int .u8 1, eS] rfl rfl (World.news_of_block (cs := #[.int .u8 1, eS]) (t := 79) (fr := (0, 0)) (zw wr _)) (by simp [Value.oneCell']) (by unfold maxLen; omega) (by omega) (by simp; omega) ?_; intro v' w6 hown6 hgrow _; obtain ⟨xa, xc, rfl⟩ := own_slice hown6; have HW6 := zD (srt_round HOG.out HB.out hgrow))
     | fail)
    exact zR (v := .tuple #[.slice xa (S.length + 1) xc, iV ((k : Int) + 1)]) ⟨_, rfl, by rw [scells_append]; exact hown6, HW6.out⟩
   rw [zf c_wNone] at e_wNone; rw [if_neg c_wNone] at HNX; clear c_wNone; by_cases c_wBool : y = wBool
   ·rw [zt c_wBool] at e_wBool
    rw [if_pos c_wBool] at HNX; clear HIN c_wBool; subst HNX; refine HTk.out.mono ?_; rintro e w2 ⟨rfl, rfl⟩
    go_wp2_with (first
     | (at_builtin; refine wpList_append_own _ rfl _ _ 75 rfl w.heap.size 79 i0 (.agg #[.int .u8 0, eS]) 2 24 Tryz.underlying75 hi0 hz0 hz1 hz2 rfl (by decide) _ _ _ rfl (HR.out.alloc _) ⟨wr.heap.size, 0, none⟩ 1 1 [.int .u8 2, eS] rfl rfl (World.news_of_block (cs := #[.int .u8 2, eS]) (t := 79) (fr := (0, 0)) (zw wr _)) (by simp [Value.oneCell']) (by unfold maxLen; omega) (by omega) (by simp; omega) ?_; intro v' w6 hown6 hgrow _; obtain ⟨xa, xc, rfl⟩ := own_slice hown6; have HW6 := zD (srt_round HOG.out HB.out hgrow))
     | fail)
    exact zR (v := .tuple #[.slice xa (S.length + 1) xc, iV ((k : Int) + 1)]) ⟨_, rfl, by rw [scells_append]; exact hown6, HW6.out⟩
   rw [zf c_wBool] at e_wBool; rw [if_neg c_wBool] at HNX; clear c_wBool; by_cases c_wInt : y = wInt
   ·rw [zt c_wInt] at e_wInt
    rw [if_pos c_wInt] at HNX; clear HIN c_wInt; subst HNX; refine HTk.out.mono ?_; rintro e w2 ⟨rfl, rfl⟩
    go_wp2_with (first
     | (at_builtin; refine wpList_append_own _ rfl _ _ 75 rfl w.heap.size 79 i0 (.agg #[.int .u8 0, eS]) 2 24 Tryz.underlying75 hi0 hz0 hz1 hz2 rfl (by decide) _ _ _ rfl (HR.out.alloc _) ⟨wr.heap.size, 0, none⟩ 1 1 [.int .u8 3, eS] rfl rfl (World.news_of_block (cs := #[.int .u8 3, eS]) (t := 79) (fr := (0, 0)) (zw wr _)) (by simp [Value.oneCell']) (by unfold maxLen; omega) (by omega) (by simp; omega) ?_; intro v' w6 hown6 hgrow _; obtain ⟨xa, xc, rfl⟩ := own_slice hown6; have HW6 := zD (srt_round HOG.out HB.out hgrow))
     | fail)
    exact zR (v := .tuple #[.slice xa (S.length + 1) xc, iV ((k : Int) + 1)]) ⟨_, rfl, by rw [scells_append]; exact hown6, HW6.out⟩
   rw [zf c_wInt] at e_wInt; rw [if_neg c_wInt] at HNX; clear c_wInt; by_cases c_wText : y = wText
   ·rw [zt c_wText] at e_wText
    rw [if_pos c_wText] at HNX; clear HIN c_wText; subst HNX; refine HTk.out.mono ?_; rintro e w2 ⟨rfl, rfl⟩
    go_wp2_with (first
     | (at_builtin; refine wpList_append_own _ rfl _ _ 75 rfl w.heap.size 79 i0 (.agg #[.int .u8 0, eS]) 2 24 Tryz.underlying75 hi0 hz0 hz1 hz2 rfl (by decide) _ _ _ rfl (HR.out.alloc _) ⟨wr.heap.size, 0, none⟩ 1 1 [.int .u8 4, eS] rfl rfl (World.news_of_block (cs := #[.int .u8 4, eS]) (t := 79) (fr := (0, 0)) (zw wr _)) (by simp [Value.oneCell']) (by unfold maxLen; omega) (by omega) (by simp; omega) ?_; intro v' w6 hown6 hgrow _; obtain ⟨xa, xc, rfl⟩ := own_slice hown6; have HW6 := zD (srt_round HOG.out HB.out hgrow))
     | fail)
    exact zR (v := .tuple #[.slice xa (S.length + 1) xc, iV ((k : Int) + 1)]) ⟨_, rfl, by rw [scells_append]; exact hown6, HW6.out⟩
   rw [zf c_wText] at e_wText; rw [if_neg c_wText] at HNX; clear c_wText; subst HNX; clear HIN; refine HTk.out.mono ?_; rintro e w2 ⟨rfl, rfl⟩; go_wp2_with fail; refine HNk.out.mono ?_; rintro e w2 ⟨rfl, rfl⟩
   go_wp2_with (first
    | (at_builtin; refine wpList_append_own _ rfl _ _ 75 rfl w.heap.size 79 i0 (.agg #[.int .u8 0, eS]) 2 24 Tryz.underlying75 hi0 hz0 hz1 hz2 rfl (by decide) _ _ _ rfl (HR.out.alloc _) ⟨wr.heap.size, 0, none⟩ 1 1 [.int .u8 7, sT (nameA T (k : Int)).1] rfl rfl (World.news_of_block (cs := #[.int .u8 7, sT (nameA T (k : Int)).1]) (t := 79) (fr := (0, 0)) (zw wr _)) (by simp [Value.oneCell']) (by unfold maxLen; omega) (by omega) (by simp; omega) ?_; intro v' w6 hown6 hgrow _; obtain ⟨xa, xc, rfl⟩ := own_slice hown6; have HW6 := zD (srt_round HOG.out HB.out hgrow))
    | fail)
   exact zR (v := .tuple #[.slice xa (S.length + 1) xc, iV (nameA T (k : Int)).2]) ⟨_, rfl, by rw [scells_append]; exact hown6, HW6.out⟩
def Rows {α : Type} (E : World → α → List Value → Prop) (w : World) : List α → List Value → Prop
 | [], xs => xs = []
 | a :: l, xs => ∃ c ys, xs = c ++ ys ∧ E w a c ∧ Rows E w l ys
theorem Rows.mono {α : Type} {E : World → α → List Value → Prop} {w w' : World} (h : ∀ a c, E w a c → E w' a c) : ∀ {l : List α} {xs : List Value}, Rows E w l xs → Rows E w' l xs
 | [], _, e => e
 | _ :: _, _, ⟨c, ys, e, h1, h2⟩ => ⟨c, ys, e, h _ _ h1, Rows.mono h h2⟩
theorem Rows.add {α : Type} {E : World → α → List Value → Prop} {w : World} {a : α} {c : List Value} (ha : E w a c) : ∀ {l : List α} {xs : List Value}, Rows E w l xs → Rows E w (l ++ [a]) (xs ++ c)
 | [], _, e => by subst e; exact ⟨c, [], by simp, ha, rfl⟩
 | _ :: _, _, ⟨c1, ys, e, h1, h2⟩ => ⟨c1, ys ++ c, by rw [e, List.append_assoc], h1, Rows.add ha h2⟩
theorem Rows.at {α : Type} {E : World → α → List Value → Prop} {w : World} {k : Nat} (hk : ∀ a c, E w a c → c.length = k) : ∀ {l : List α} {xs : List Value}, Rows E w l xs → ∀ (i : Nat) (h : i < l.length), ∃ c, E w l[i] c ∧ ∀ j u, c[j]? = some u → xs[i * k + j]? = some u
 | a :: l, _, ⟨c, ys, e, h1, h2⟩, 0, _ => ⟨c, h1, fun j u hu => by
   rw [e, Nat.zero_mul, Nat.zero_add, List.getElem?_append_left (List.getElem?_eq_some_iff.1 hu).1]
   exact hu⟩
 | a :: l, _, ⟨c, ys, e, h1, h2⟩, i + 1, h => by
  obtain ⟨c2, g1, g2⟩ := Rows.at hk h2 i (by simpa using h)
  refine ⟨c2, g1, fun j u hu => ?_⟩
  rw [e, show (i + 1) * k + j = c.length + (i * k + j) by rw [hk _ _ h1, Nat.succ_mul]; omega, List.getElem?_append_right (by omega), Nat.add_sub_cancel_left]
  exact g2 j u hu
theorem own_other {w : World} {B : Nat} {T T' : TypeId} {k : Nat} {v : Value} {n : Nat} {xs : List Value} (h : w.ownsRow B T k v n xs) {g : Nat} {cs : Array Value} (hg : w.heap[g]? = some (.cells cs T' (0, 0))) (hne : T ≠ T') : v.ownBlock ≠ some g := by
 intro e
 rcases h.2 with ⟨rfl, _⟩ | ⟨g', cap, cur, rfl, _, hb, _⟩
 ·cases e
 ·injection e with e
  subst e; rw [hb] at hg; injection hg with hg; injection hg with _ h2 _; exact hne h2
theorem own_grown {w w' : World} {B B' : Nat} {T T' : TypeId} {k k' : Nat} {v v' : Value} {n n' : Nat} {xs xs' : List Value} (h : w.ownsRow B T k v n xs) (h' : w.ownsRow B' T' k' v' n' xs') (hne : T ≠ T') (hg : w.grownBy w' v'.ownBlock) : w'.ownsRow B T k v n xs := by
 refine h.kept hg ?_
 rcases h'.2 with ⟨rfl, _⟩ | ⟨g', cap, cur, rfl, _, hb, _⟩
 ·cases hv : v.ownBlock <;> simp [Value.ownBlock]
 ·have := own_other h hb hne
  cases hv : v.ownBlock with
  | none => simp
  | some x => rw [hv] at this; simp [Value.ownBlock] at this ⊢; exact this
def fldE (B : Nat) (w : World) (f : Fld) (c : List Value) : Prop := ∃ u, c = [sT f.name, u] ∧ w.ownsRow B 79 2 u f.type.length (scells f.type)
theorem fldE_below {B : Nat} {w w' : World} (hb : Below w.heap.size w w') (f : Fld) (c : List Value) (h : fldE B w f c) : fldE B w' f c := by
 obtain ⟨u, e, h⟩ := h
 exact ⟨u, e, own_below h hb⟩
theorem fldE_grown {B B' : Nat} {w w' : World} {T' : TypeId} {k' : Nat} {v' : Value} {n' : Nat} {xs' : List Value} (h' : w.ownsRow B' T' k' v' n' xs') (hne : 79 ≠ T') (hg : w.grownBy w' v'.ownBlock) (f : Fld) (c : List Value) (h : fldE B w f c) : fldE B w' f c := by
 obtain ⟨u, e, h⟩ := h
 exact ⟨u, e, own_grown h h' hne hg⟩
def Adv (i j : Int) : Prop := j < 0 ∨ (0 ≤ i ∧ i < j)
theorem stepA_adv {T : List Tok} {i : Int} (x : Tx) : Adv i (stepA T i x) := by
 unfold stepA Adv
 split
 ·exact .inl (by assumption)
 ·split
  ·exact .inr ⟨by omega, by omega⟩
  ·exact .inl (by omega)
theorem nameA_adv {T : List Tok} {i : Int} : Adv i (nameA T i).2 := by
 unfold nameA Adv
 split
 ·exact .inl (by assumption)
 ·split
  ·exact .inl (by show -1 - i < 0; omega)
  ·split
   ·exact .inr ⟨by omega, by show i < i + 1; omega⟩
   ·exact .inl (by show -1 - i < 0; omega)
theorem Adv.trans {i j k : Int} (h1 : Adv i j) (h2 : Adv j k) : Adv i k := by
 unfold Adv at *
 omega
theorem last_adv {T : List Tok} {i : Int} (h0 : ¬ i < 0) : Adv i (lastA T i).2 := by
 unfold lastA
 have e : Adv i (i + 1) := .inr ⟨by omega, by omega⟩
 repeat' split
 ·exact e
 ·exact e
 ·exact e
 ·exact e
 ·exact nameA_adv
theorem sorts_far : ∀ (T : List Tok) (F : Nat) (i : Int), Pl T i → (T.length : Int) < F + i ∨ i < 0 → Pl T (sortsA T F i).2 ∧ Adv i (sortsA T F i).2
 | T, 0, i, h, hF => by
  by_cases h0 : i < 0
  ·rw [sorts_neg h0]; exact ⟨h, .inl h0⟩
  ·have := h.2; omega
 | T, F + 1, i, h, hF => by
  by_cases h0 : i < 0
  ·rw [sorts_neg h0]; exact ⟨h, .inl h0⟩
  have k : ∀ x : Tx, x ≠ [] → textA T i = x → Pl T (sortsA T F (i + 1)).2 ∧ Adv i (sortsA T F (i + 1)).2 := fun x hx he => by
   have hi := text_in h0 (he ▸ hx)
   have ih := sorts_far T F (i + 1) ⟨by omega, by omega⟩ (by omega)
   exact ⟨ih.1, Adv.trans (.inr ⟨by omega, by omega⟩) ih.2⟩
  by_cases h1 : textA T i = wList
  ·have e : (sortsA T (F + 1) i).2 = (sortsA T F (i + 1)).2 := congrArg (fun q => q.2) (sorts_list (S := []) (F := F) h0 h1)
   rw [e]; exact k wList (by decide) h1
  by_cases h2 : textA T i = wOpt
  ·have e : (sortsA T (F + 1) i).2 = (sortsA T F (i + 1)).2 := congrArg (fun q => q.2) (sorts_opt (S := []) (F := F) h0 h2)
   rw [e]; exact k wOpt (by decide) h2
  ·have e : (sortsA T (F + 1) i).2 = (lastA T i).2 := congrArg (fun q => q.2) (sorts_last (S := []) (F := F) h0 h1 h2)
   rw [e]; exact ⟨last_pl h0 h, last_adv h0⟩
theorem sorts_pl {T : List Tok} {i : Int} (h : Pl T i) : Pl T (sortsA T (T.length + 1) i).2 ∧ Adv i (sortsA T (T.length + 1) i).2 := sorts_far T _ i h (by omega)
def fieldA (T : List Tok) (i : Int) : Fld × Int := (⟨(nameA T i).1, (sortsA T (T.length + 1) (stepA T (nameA T i).2 [58])).1⟩, stepA T (sortsA T (T.length + 1) (stepA T (nameA T i).2 [58])).2 [59])
theorem fieldA_far {T : List Tok} {i : Int} (h : Pl T i) : Pl T (fieldA T i).2 ∧ Adv i (fieldA T i).2 := by
 have a := nameA_pl h
 have b := stepA_pl (x := [58]) (by simp) a
 have c := sorts_pl b
 have d := stepA_pl (x := [59]) (by simp) c.1
 exact ⟨d, (((nameA_adv (T := T) (i := i)).trans (stepA_adv [58])).trans c.2).trans (stepA_adv [59])⟩
theorem fields_neg {T : List Tok} {F : Nat} {i : Int} (h : i < 0) : fieldsA T F i = ([], i) := by
 cases F with
 | zero => rfl
 | succ F => rw [fieldsA, if_pos (.inl h)]
theorem fields_shut {T : List Tok} {F : Nat} {i : Int} (h : textA T i = [125]) : fieldsA T (F + 1) i = ([], i) := by rw [fieldsA, if_pos (.inr h)]
theorem fields_next {T : List Tok} {F : Nat} {i : Int} {S : List Fld} (h0 : ¬ i < 0) (h : textA T i ≠ [125]) : ahead S (fieldsA T (F + 1) i) = ahead (S ++ [(fieldA T i).1]) (fieldsA T F (fieldA T i).2) := by
 rw [fieldsA, if_neg (by simp [h0, h])]
 simp [ahead, fieldA]
theorem info_fld : (Tryz.prog.info? 77).map (fun i => (i.zero, i.size, i.bytes)) = some (some (.agg #[eS, .slice none 0 0]), 2, 40) := by kernel_rfl
theorem own_base {w : World} {B B' : Nat} {T : TypeId} {k : Nat} {v : Value} {n : Nat} {xs : List Value} (h : w.ownsRow B T k v n xs) (hB : B' ≤ B) : w.ownsRow B' T k v n xs := by
 obtain ⟨h1, h2⟩ := h
 refine ⟨h1, h2.imp id ?_⟩
 rintro ⟨g, cap, cur, e, hg, r⟩
 exact ⟨g, cap, cur, e, Nat.le_trans hB hg, r⟩
theorem own_set {w : World} {B : Nat} {T T' : TypeId} {k : Nat} {v : Value} {n : Nat} {xs : List Value} (h : w.ownsRow B T k v n xs) {b : Nat} {cs : Array Value} (hb : w.heap[b]? = some (.cells cs T' (0, 0))) (hne : T ≠ T') (o : Nat) (u : Value) : (w.setCell ⟨b, o, none⟩ u).ownsRow B T k v n xs := by
 refine h.kept (row := some b) ⟨rfl, rfl, rfl, by simp [World.setCell], fun j _ hj => Below.heap_setCell _ _ _ _ (fun e => hj (by rw [e]))⟩ ?_
 have := own_other h hb hne
 cases hv : v.ownBlock with
 | none => simp
 | some x => rw [hv] at this; simp at this ⊢; exact this
theorem fld_round {w wr w5 w7 : World} {va : Value} {S : List Fld} {xs ys : List Value} {f : Fld} {o : Obj} (h1 : wr.ownsRow w.heap.size 77 2 va S.length xs) (h2 : Rows (fldE w.heap.size) wr S xs) (h3 : Below wr.heap.size wr w5) (h4 : fldE w.heap.size w5 f ys) (hg : (w5.alloc o).grownBy w7 va.ownBlock) : Rows (fldE w.heap.size) w7 (S ++ [f]) (xs ++ ys) := by
 have b1 : Below wr.heap.size wr (w5.alloc o) := h3.alloc h3.size o
 have b2 : Below w5.heap.size w5 (w5.alloc o) := (Below.refl _ w5).alloc zn o
 have h1' := own_below h1 b1
 exact Rows.add (fldE_grown h1' (by decide) hg _ _ (fldE_below b2 _ _ h4)) (h2.mono (fun a c h => fldE_grown h1' (by decide) hg a c (fldE_below b1 a c h)))
theorem fields_any (w : World) (v : Value) (T : List Tok) (h : Slc w 4 v T.length (tcells T)) (hL : T.length ≤ 65536) (hB : ∀ t ∈ T, t.text.length ≤ 65536) (i : Int) (hi : Pl T i) : Calls Tryz.prog 113 #[v, iV i] w fun e w' => ∃ u, e = .returned (.tuple #[u, iV (shutA (fieldsA T (T.length + 1) (stepA T i [123]))).2]) ∧ (∃ xs, w'.ownsRow w.heap.size 77 2 u (shutA (fieldsA T (T.length + 1) (stepA T i [123]))).1.length xs ∧ Rows (fldE w.heap.size) w' (shutA (fieldsA T (T.length + 1) (stepA T i [123]))).1 xs) ∧ Below w.heap.size w w' := by
 have HT := zD (fun w' (X : Below w.heap.size w w') j (hj : Pl T j) => text_any w' v T (h.below X) hL j (by have := hj.1; omega) (by have := hj.2; omega))
 have HN := zD (fun w' (X : Below w.heap.size w w') j (hj : Pl T j) => namer_pl w' v T (h.below X) hL hB j hj)
 have HS := zD (fun w' (X : Below w.heap.size w w') j (hj : Pl T j) x => step_pl w' v T (h.below X) hL j hj x)
 have HO := zD (fun w' (X : Below w.heap.size w w') j (hj : Pl T j) => sorts_any w' v T (h.below X) hL hB j hj)
 clear h hB
 have H1 := zD (HS.out w zl i hi [123])
 have hp := stepA_pl (x := [123]) (by simp) hi
 generalize stepA T i [123] = i1 at *
 generalize hq : shutA (fieldsA T (T.length + 1) i1) = Q at *
 have HQ := zD (show Q = shutA (ahead [] (fieldsA T (T.length + 1) i1)) from by rw [← hq]; rfl)
 clear hq
 go_enter Tryz.func113, Tryz.ntmps113
 go_wp2_with fail
 refine H1.out.mono ?_
 rintro e w1 ⟨rfl, rfl⟩
 go_wp2_with fail
 go_loopw [6, 1] (fun vl va wr => ∃ (j : Int) (F : Nat) (S : List Fld) (xs : List Value), va = iV j ∧ Pl T j ∧ (0 ≤ j → (S.length : Int) ≤ j ∧ (T.length : Int) < F + j) ∧ S.length ≤ T.length + 1 ∧ Hid (wr.ownsRow w.heap.size 77 2 vl S.length xs) ∧ Hid (Rows (fldE w.heap.size) wr S xs) ∧ Hid (Below w.heap.size w wr) ∧ Hid (Q = shutA (ahead S (fieldsA T F j)))) (fun _ va _ => if intOf va < 0 then 0 else T.length + 1 - (intOf va).toNat)
 case atStart => exact ⟨i1, T.length + 1, [], [], rfl, hp, fun h => ⟨by simpa using h, by omega⟩, by simp, World.ownsRow_nil _ _ _ _, rfl, zl, HQ⟩
 case round =>
  clear HQ hp hi H1; obtain ⟨j, F, S, xs, rfl, hp, hj, hS, HR, HRW, HB, HQ⟩ := hrel; obtain ⟨va, vc, rfl⟩ := own_slice HR.out; by_cases h0 : j < 0
  ·have hQ : Q = ([], j) := by rw [HQ.out, fields_neg h0]; unfold shutA ahead; rw [if_pos h0]
   clear HQ hj; subst hQ; go_wp2_with fail; exact zR (v := .tuple #[.slice none 0 0, iV j]) ⟨_, rfl, ⟨[], World.ownsRow_nil _ _ _ _, rfl⟩, HB.out⟩
  obtain ⟨k, rfl⟩ : ∃ k : Nat, j = (k : Int) := ⟨j.toNat, by omega⟩; obtain ⟨hSk, hF⟩ := hj (by omega); clear hj; have hk : k ≤ T.length := by have := hp.2; omega
  obtain ⟨F, rfl⟩ : ∃ F', F = F' + 1 := ⟨F - 1, by omega⟩; have HTk := zD (HT.out wr HB.out _ hp); have e_y := bT_is (textA T (k : Int)) [125]; by_cases hy : textA T (k : Int) = [125]
  ·have hQ : Q = (S, (k : Int) + 1) := by rw [HQ.out, fields_shut hy]; unfold shutA ahead; rw [if_neg h0]; simp
   rw [zt hy] at e_y; have e_z : (!((bT (textA T (k : Int))).toList == [125])) = false := by rw [e_y]; rfl
   clear hy HQ; generalize textA T (k : Int) = y at *; subst hQ; go_wp2_with fail; refine HTk.out.mono ?_; rintro e w2 ⟨rfl, rfl⟩; go_wp2_with fail; exact zR (v := .tuple #[.slice va S.length vc, iV ((k : Int) + 1)]) ⟨_, rfl, ⟨xs, HR.out, HRW.out⟩, HB.out⟩
  ·rw [zf hy] at e_y
   have e_z : (!((bT (textA T (k : Int))).toList == [125])) = true := by rw [e_y]; rfl
   have HNX := zD (HQ.out.trans (congrArg shutA (fields_next h0 hy))); clear hy HQ; generalize textA T (k : Int) = y at *; go_wp2_with fail; refine HTk.out.mono ?_; rintro e w2 ⟨rfl, rfl⟩; have HNk := zD (fun A => HN.out (wr.alloc A) (HB.out.alloc HB.out.size A) _ hp); go_wp2_with fail; refine (HNk.out _).mono ?_; rintro e w2 ⟨rfl, rfl⟩; go_wp2_with fail; have p1 := nameA_pl hp; have p2 := stepA_pl (x := [58]) (by simp) p1; have p3 := (sorts_pl p2).1; have HSk := zD (fun A => HS.out (wr.alloc A) (HB.out.alloc HB.out.size A) _ p1 [58]); have HOk := zD (fun A => HO.out (wr.alloc A) (HB.out.alloc HB.out.size A) _ p2); have HSl := zD (fun w' X => HS.out w' X _ p3 [59]); have HFF := zD (fieldA_far (T := T) hp); generalize hfa : fieldA T (k : Int) = fa at *; have hfa2 : fa = (⟨(nameA T (k : Int)).1, (sortsA T (T.length + 1) (stepA T (nameA T (k : Int)).2 [58])).1⟩, stepA T (sortsA T (T.length + 1) (stepA T (nameA T (k : Int)).2 [58])).2 [59]) := hfa.symm; generalize nameA T (k : Int) = nm at *; generalize stepA T nm.2 [58] = i2 at *; generalize sortsA T (T.length + 1) i2 = so at *; generalize stepA T so.2 [59] = i4 at *; clear hfa p1 p2 p3; refine (HSk.out _).mono ?_; rintro e w2 ⟨rfl, rfl⟩; go_wp2_with fail; refine (HOk.out _).mono ?_; rintro e w4 ⟨u, rfl, hou, hbu⟩; have hb4 : w4.heap[wr.heap.size]? = some (.cells #[sT nm.1, .slice none 0 0] 77 (0, 0)) := (hbu.block _ (by simp)).trans (zw _ _); have d0 : w4.cell? ⟨wr.heap.size, 0, none⟩ = some (sT nm.1) := by simp [World.cell?, hb4]
   have d1 : w4.cell? ⟨wr.heap.size, 1, none⟩ = some (.slice none 0 0) := by simp [World.cell?, hb4]
   have d2 : ∀ o, w4.frozen? ⟨wr.heap.size, o, none⟩ = false := fun o => by simp [World.frozen?, hb4]
   have d3 := (zq hb4).1; have HB4 := zD (show Below wr.heap.size wr w4 from ((Below.refl _ wr).alloc zn _).trans (hbu.mono (by simp))); obtain ⟨ua, uc, rfl⟩ := own_slice hou; have HOU := zD hou; clear hou hbu; go_wp2_with fail; have HB5 := zD (HB4.out.setCell (p := ⟨wr.heap.size, 1, none⟩) zn (.slice ua so.1.length uc)); have HOU5 := zD (own_base (own_set HOU.out hb4 (by decide) 1 (.slice ua so.1.length uc)) (B' := w.heap.size) (by have := HB.out.size; simp; omega)); have hb5 : (w4.setCell ⟨wr.heap.size, 1, none⟩ (.slice ua so.1.length uc)).heap[wr.heap.size]? = some (.cells #[sT nm.1, .slice ua so.1.length uc] 77 (0, 0)) := by simp [World.setCell, Array.getElem?_modify, hb4]
   clear hb4 d0 d1 d2 d3 HOU HB4; generalize w4.setCell ⟨wr.heap.size, 1, none⟩ (.slice ua so.1.length uc) = w5 at *; have d0 : w5.cell? ⟨wr.heap.size, 0, none⟩ = some (sT nm.1) := by simp [World.cell?, hb5]
   have d1 : w5.cell? ⟨wr.heap.size, 1, none⟩ = some (.slice ua so.1.length uc) := by simp [World.cell?, hb5]
   have d2 : ∀ o, w5.frozen? ⟨wr.heap.size, o, none⟩ = false := fun o => by simp [World.frozen?, hb5]
   have HBW := zD (HB.out.trans (HB5.out.mono HB.out.size)); have HRr := zD (own_below HR.out HB5.out); have HOG := own_ge HRr.out; have hszw := HB.out.size; have hs5 := HB5.out.size; obtain ⟨i0, hi0, hz0, hz1, hz2⟩ := info_parts info_fld; refine (HSl.out w5 HBW.out).mono ?_; rintro e w6 ⟨rfl, rfl⟩
   go_wp2_with (first
    | (at_builtin; refine wpList_append_own _ rfl _ _ 72 rfl w.heap.size 77 i0 (.agg #[eS, .slice none 0 0]) 2 40 Tryz.underlying72 hi0 hz0 hz1 hz2 rfl (by decide) _ _ _ rfl (HRr.out.alloc _) ⟨w5.heap.size, 0, none⟩ 1 1 [sT nm.1, .slice ua so.1.length uc] rfl rfl (World.news_of_block (cs := #[sT nm.1, .slice ua so.1.length uc]) (t := 77) (fr := (0, 0)) (zw w5 _)) (by intro u hu; simp only [List.mem_cons, List.not_mem_nil, or_false] at hu; rcases hu with rfl | rfl <;> rfl) (by unfold maxLen; omega) (by omega) (by simp; omega) ?_; intro v' w7 hown7 hgrow _; obtain ⟨xa, xc, rfl⟩ := own_slice hown7; have HGR := zD hgrow)
    | fail)
   have HW7 := zD (fld_round HR.out HRW.out HB5.out (f := ⟨nm.1, so.1⟩) (ys := [sT nm.1, .slice ua so.1.length uc]) ⟨_, rfl, HOU5.out⟩ HGR.out); have HB7 := zD (srt_round HOG HBW.out HGR.out); subst hfa2; have hfl := HFF.out; dsimp only at HNX hfl; unfold Adv Pl at hfl; exact ⟨⟨i4, F, S ++ [⟨nm.1, so.1⟩], _, rfl, hfl.1, fun h => ⟨by simp; omega, by omega⟩, by simp; omega, by rw [List.length_append]; exact hown7, HW7, HB7, HNX⟩, by show (if i4 < 0 then 0 else T.length + 1 - i4.toNat) < (if (k : Int) < 0 then 0 else T.length + 1 - (k : Int).toNat); rw [if_neg (show ¬ (k : Int) < 0 by omega)]; split <;> omega⟩
end Go.Proofs.YtgoejmheihgpfaaGreatDoor
