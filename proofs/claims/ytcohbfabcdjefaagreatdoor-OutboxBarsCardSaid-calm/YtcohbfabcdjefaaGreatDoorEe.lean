/-
  slices.Insert of one entry.
-/
import Derived.Test.YtcohbfabcdjefaaGreatDoorEd
import Derived.Deep.RegionLaw
import Derived.Shelf.Spec.SlicesInsertGrow
import Derived.OwnWalk
import Derived.Lib.LazyBuf
import Derived.Laws.OwnMore
namespace Go.Proofs.YtcohbfabcdjefaaGreatDoor
open Go.RowKit Go.Maps Go.Shelf

theorem info_item : (Tryz.prog.info? 176).map (fun i => (i.zero, i.size, i.bytes)) = some (some (.agg #[.string ⟨#[]⟩, .string ⟨#[]⟩, .string ⟨#[]⟩, .bool false]), 4, 56) := by kernel_rfl
theorem run_copy_cellsN {P : Program} (w : World) (dT sT ty elem : TypeId) (sz k b o dLen dCap : Nat) (a : Addr) (sLen sCap : Nat) (cs : List Value)
    (hu : P.underlying dT = some (.slice elem)) (hs : (P.info? elem).map (·.size) = some sz) (hk : Nat.min sLen dLen = k) (hn : cs.length = k * sz)
    (hsrc : ∀ j v, cs[j]? = some v → w.cell? (a.add j) = some v) (hc : ∀ j, j < cs.length → (w.cell? ⟨b, o + j, none⟩).isSome = true) (hf : ∀ j, j < cs.length → w.frozen? ⟨b, o + j, none⟩ = false) (h1 : ∀ v ∈ cs, v.oneCell' = true) :
    (Builtin.copy_ #[dT, sT] ty #[.slice (some ⟨b, o, none⟩) dLen dCap, .slice (some a) sLen sCap]).run P w = .ok (goInt k) (w.setCells b o cs) := by
  have hl := run_loadCells_list (P := P) w a cs hsrc
  have hst := run_storeCells_cells (P := P) b o cs 0 w (by simpa using hc) (by simpa using hf) h1
  cases hq : P.info? elem with
  | none => simp [hq] at hs
  | some i =>
    have hi : i.size = sz := by simpa [hq] using hs
    simp [Builtin.copy_, run_underlying hu, Builtin.lenOf, Builtin.firstCells, sizeOf, typeInfo, hq, hi, hk, ← hn, hl, hst]
theorem own_row4 {w : World} {B : Nat} {T : TypeId} {g n cap : Nat} {xs : List Value} (h : w.ownsRow B T 4 (.slice (some ⟨g, 0, none⟩) n cap) n xs) : B ≤ g ∧ n ≤ cap ∧ cap ≤ maxLen ∧ xs.length = n * 4 ∧ ∃ f, w.rowIs g T (cap * 4) f ∧ ∀ j, j < n * 4 → xs[j]? = some (f j) := by
  obtain ⟨h1, h2⟩ := h
  rcases h2 with ⟨he, _⟩ | ⟨g', cap', cur, he, hg, hb, hnc, hm, hcs, ht⟩
  · cases he
  · obtain ⟨rfl, rfl⟩ : g = g' ∧ cap = cap' := by injection he with e1 e2 e3; injection e1 with e1; injection e1 with e1; exact ⟨e1, e3⟩
    refine ⟨hg, hnc, hm, h1, fun j => cur[j]!, ⟨cur, hb, hcs, fun i hi => ?_⟩, fun j hj => ?_⟩
    · show cur[i]? = some cur[i]!
      rw [getElem!_pos cur i (by omega)]; exact Array.getElem?_eq_getElem _
    · have hle : n * 4 ≤ cap * 4 := by omega
      rw [← ht, List.getElem?_take, if_pos hj, Array.getElem?_toList]
      show cur[j]? = some cur[j]!
      rw [getElem!_pos cur j (by omega)]
      exact Array.getElem?_eq_getElem _
theorem row_own4 {w : World} {B : Nat} {T : TypeId} {g n cap : Nat} {xs : List Value} {f : Nat → Value} (hr : w.rowIs g T (cap * 4) f) (hB : B ≤ g) (hn : n ≤ cap) (hm : cap ≤ maxLen) (hl : xs.length = n * 4) (hx : ∀ j u, xs[j]? = some u → f j = u) : w.ownsRow B T 4 (.slice (some ⟨g, 0, none⟩) n cap) n xs := by
  obtain ⟨cur, hb, hs, hc⟩ := hr
  refine ⟨hl, .inr ⟨g, cap, cur, rfl, hB, hb, hn, hm, hs, ?_⟩⟩
  refine List.ext_getElem? (fun j => ?_)
  by_cases hj : j < n * 4
  · rw [List.getElem?_take, if_pos hj, Array.getElem?_toList, hc j (by omega), List.getElem?_eq_getElem (by omega : j < xs.length), hx j _ (List.getElem?_eq_getElem (by omega))]
  · rw [List.getElem?_take, if_neg hj, List.getElem?_eq_none (by omega)]
theorem icells_one : ∀ (L : List It), ∀ u ∈ icells L, u.oneCell' = true
  | [], _, h => by cases h
  | f :: r, u, h => by
    simp only [icells, List.mem_cons] at h
    rcases h with rfl | rfl | rfl | rfl | h
    · rfl
    · rfl
    · rfl
    · rfl
    · exact icells_one r u h
theorem itcells_one (x : It) : ∀ u ∈ itcells x, u.oneCell' = true := by
  intro u h
  simp only [itcells, List.mem_cons, List.not_mem_nil, or_false] at h
  rcases h with rfl | rfl | rfl | rfl <;> rfl
theorem icells_drop : ∀ (L : List It) (i : Nat), icells (L.drop i) = (icells L).drop (i * 4)
  | L, 0 => by simp
  | [], i + 1 => by simp [icells]
  | f :: r, i + 1 => by
    rw [List.drop_succ_cons, icells_drop r i, show (i + 1) * 4 = i * 4 + 4 by omega]
    simp [icells]
theorem icells_take : ∀ (L : List It) (i : Nat), icells (L.take i) = (icells L).take (i * 4)
  | L, 0 => by simp [icells]
  | [], i + 1 => by simp [icells]
  | f :: r, i + 1 => by
    rw [List.take_succ_cons, icells, icells_take r i, show (i + 1) * 4 = i * 4 + 4 by omega]
    simp [icells]
/-- what stands after an entry was put in -/
def insL (M : List It) (p : Nat) (x : It) : List It := M.take p ++ x :: M.drop p
theorem insL_len (M : List It) (p : Nat) (x : It) (h : p ≤ M.length) : (insL M p x).length = M.length + 1 := by unfold insL; simp; omega
theorem insL_cells (M : List It) (p : Nat) (x : It) (h : p ≤ M.length) {j : Nat} {u : Value} (hj : (icells (insL M p x))[j]? = some u) :
    (j < p * 4 ∧ (icells M)[j]? = some u) ∨ (p * 4 ≤ j ∧ j < p * 4 + 4 ∧ (itcells x)[j - p * 4]? = some u) ∨ (p * 4 + 4 ≤ j ∧ j < M.length * 4 + 4 ∧ (icells (M.drop p))[j - (p * 4 + 4)]? = some u) := by
  have e : icells (insL M p x) = (icells M).take (p * 4) ++ (itcells x ++ icells (M.drop p)) := by
    unfold insL
    rw [icells_append, icells_take]
    rfl
  have hlt := (List.getElem?_eq_some_iff.1 hj).1
  rw [icells_len, insL_len M p x h] at hlt
  rw [e] at hj
  have hll : ((icells M).take (p * 4)).length = p * 4 := by rw [List.length_take, icells_len]; omega
  by_cases h1 : j < p * 4
  · left
    rw [List.getElem?_append_left (by omega), List.getElem?_take, if_pos h1] at hj
    exact ⟨h1, hj⟩
  · right
    rw [List.getElem?_append_right (by omega), hll] at hj
    by_cases h2 : j < p * 4 + 4
    · left
      rw [List.getElem?_append_left (by show j - p * 4 < 4; omega)] at hj
      exact ⟨by omega, h2, hj⟩
    · right
      rw [List.getElem?_append_right (by show 4 ≤ j - p * 4; omega)] at hj
      exact ⟨by omega, by omega, by rw [show j - (p * 4 + 4) = j - p * 4 - (itcells x).length by show _ = j - p * 4 - 4; omega]; exact hj⟩
theorem far_setCells {b b' : Nat} (h : b' ≠ b) : ∀ (vs : List Value) (o : Nat) (w : World), (w.setCells b o vs).heap[b']? = w.heap[b']?
  | [], _, _ => rfl
  | v :: r, o, w => by rw [World.setCells, far_setCells h r (o + 1)]; exact Below.heap_setCell w _ v b' h
theorem grown_setCells4 {w w' : World} {g : Nat} {r : Option Nat} (hg : r = some g ∨ w.heap.size ≤ g) (h : w.grownBy w' r) : ∀ (vs : List Value) (o : Nat), w.grownBy (w'.setCells g o vs) r := by
  intro vs
  induction vs generalizing w' with
  | nil => intro o; exact h
  | cons v vs ih =>
    intro o
    rw [World.setCells]
    refine ih (w' := w'.setCell ⟨g, o, none⟩ v) ⟨h.os, h.tape, h.output, by simpa using h.size, fun k hk hne => ?_⟩ _
    rw [Below.heap_setCell w' _ v k (by rcases hg with hg | hg; (· exact fun e => hne (by rw [hg]; exact congrArg some e)); (· show k ≠ g; omega))]
    exact h.block k hk hne

section
variable (B : Nat) (w : World) (M : List It) (x : It) (vb : Nat)
set_option maxRecDepth 100000 in
set_option maxHeartbeats 2000000 in
/-- at the end -/
theorem insert_end (v : Value) (hB : B ≤ w.heap.size) (hM : M.length ≤ 1000000) (h : OwnI w B v M) (hvb : w.heap[vb]? = some (.cells (itcells x).toArray 176 (0, 0))) :
    Calls Tryz.prog 93 #[v, .int .i64 (M.length : Nat), .slice (some ⟨vb, 0, none⟩) 1 1] w fun e w' => ∃ u, e = .returned u ∧ OwnI w' B u (insL M M.length x) ∧ w.grownBy w' v.ownBlock := by
  obtain ⟨i0, hi0, hz0, hz1, hz2⟩ := info_parts info_item
  have HO := Lib.hid h
  have hsh : ∃ a c, v = .slice a M.length c ∧ M.length ≤ c ∧ c ≤ maxLen := by obtain ⟨a, c, e, h1, h2, _⟩ := h.rd; exact ⟨a, c, e, h1, h2⟩
  obtain ⟨a, c, rfl, hn, hm⟩ := hsh
  unfold maxLen at hm
  have hcs : ∀ j u, (itcells x)[j]? = some u → w.cell? ((⟨vb, 0, none⟩ : Addr).add j) = some u := fun j u hj => by
    rw [Addr.add_lit]
    simp only [World.cell?, hvb]
    simpa using hj
  have HC := Lib.hid hcs
  have HB := Lib.hid hB
  clear h hcs hB hvb
  rcases Nat.eq_or_lt_of_le hn with hcn | hcn
  · subst hcn
    go_enter Tryz.func93, Tryz.ntmps93
    go_wp2_with (first
        | (at_builtin; refine wpList_append_own _ rfl _ _ 142 rfl B 176 i0 (.agg #[.string ⟨#[]⟩, .string ⟨#[]⟩, .string ⟨#[]⟩, .bool false]) 4 56 Tryz.underlying142 hi0 hz0 hz1 hz2 rfl (by decide) _ M.length (icells M) rfl HO.out ⟨vb, 0, none⟩ 1 1 (itcells x) rfl rfl HC.out (itcells_one x) (by unfold maxLen; omega) (by omega) HB.out ?_; intro v' w1 hown1 hgrow _)
        | fail)
    have HO1 := Lib.hid (show OwnI w1 B v' (insL M M.length x) by
      have e : icells (insL M M.length x) = icells M ++ itcells x := by unfold insL; rw [icells_append, List.take_length, List.drop_length]; rfl
      show w1.ownsRow B _ 4 v' (insL M M.length x).length (icells (insL M M.length x))
      rw [insL_len _ _ _ (Nat.le_refl _), e]
      exact hown1)
    have HG := Lib.hid hgrow
    clear hown1 hgrow
    go_wp2_with fail
    go_ret
    exact ⟨_, rfl, HO1.out, HG.out⟩
  · have hcn' : ¬ (c = M.length) := by omega
    go_enter Tryz.func93, Tryz.ntmps93
    go_wp2_with (first
        | (at_builtin; refine wpList_append_own _ rfl _ _ 142 rfl B 176 i0 (.agg #[.string ⟨#[]⟩, .string ⟨#[]⟩, .string ⟨#[]⟩, .bool false]) 4 56 Tryz.underlying142 hi0 hz0 hz1 hz2 rfl (by decide) _ M.length (icells M) rfl HO.out ⟨vb, 0, none⟩ 1 1 (itcells x) rfl rfl HC.out (itcells_one x) (by unfold maxLen; omega) (by omega) HB.out ?_; intro v' w1 hown1 hgrow _)
        | fail)
    have HO1 := Lib.hid (show OwnI w1 B v' (insL M M.length x) by
      have e : icells (insL M M.length x) = icells M ++ itcells x := by unfold insL; rw [icells_append, List.take_length, List.drop_length]; rfl
      show w1.ownsRow B _ 4 v' (insL M M.length x).length (icells (insL M M.length x))
      rw [insL_len _ _ _ (Nat.le_refl _), e]
      exact hown1)
    have HG := Lib.hid hgrow
    clear hown1 hgrow
    go_wp2_with fail
    go_ret
    exact ⟨_, rfl, HO1.out, HG.out⟩

set_option maxRecDepth 100000 in
set_option maxHeartbeats 2000000 in
/-- there is room -/
theorem insert_shift (g cap p : Nat) (hp : p < M.length) (hroom : M.length + 1 ≤ cap) (h : OwnI w B (.slice (some ⟨g, 0, none⟩) M.length cap) M) (hne : vb ≠ g) (hvb : w.heap[vb]? = some (.cells (itcells x).toArray 176 (0, 0))) :
    Calls Tryz.prog 93 #[.slice (some ⟨g, 0, none⟩) M.length cap, .int .i64 (p : Nat), .slice (some ⟨vb, 0, none⟩) 1 1] w fun e w' => ∃ u, e = .returned u ∧ OwnI w' B u (insL M p x) ∧ w.grownBy w' (some g) := by
  obtain ⟨i0, hi0, hz0, hz1, hz2⟩ := info_parts info_item
  obtain ⟨hBg, hnc, hm, hl, f, hr, hx⟩ := own_row4 h
  have hsz : (Tryz.prog.info? 176).map (·.size) = some 4 := by rw [hi0]; simp [hz1]
  have hz4 : ∀ w, (sizeOf 176).run Tryz.prog w = .ok 4 w := fun w => by simp [sizeOf, typeInfo, hi0, hz1]
  have hrb : ∃ c : Array Value, w.heap[g]? = some (.cells c 176 (0, 0)) ∧ c.size = cap * 4 := by obtain ⟨c, e, s, _⟩ := hr; exact ⟨c, e, s⟩
  obtain ⟨cg, hcg, hcs⟩ := hrb
  have hov : ∀ lb cb, (callFunc 157 #[.slice (some ⟨vb, 0, none⟩) 1 1, .slice (some ⟨g, (p + 1) * 4, none⟩) lb cb]).run Tryz.prog w = .ok (.value (.bool false)) w := fun lb cb => by
    rw [run_callFunc_extern Tryz.func157 (by kernel_rfl) (by kernel_rfl) (by kernel_rfl) (e := Extern.SlicesOverlaps.overlaps #[142, 142] #[4]) (by kernel_rfl),
      Lib.run_overlaps_apart w 142 4 176 Tryz.underlying142 4 hz4 ⟨vb, 0, none⟩ ⟨g, (p + 1) * 4, none⟩ 1 1 lb cb hne 176 176 4 cg.size (by simp [World.shape?, hvb, itcells]) (by simp [World.shape?, hcg]) (by omega) (by simp [World.frozen?, hvb]) (by simp [World.frozen?, hvb])]
    rfl
  obtain ⟨n, hn⟩ : ∃ n, n = M.length := ⟨_, rfl⟩
  have hdl : (icells (M.drop p)).length = (n - p) * 4 := by rw [icells_len, List.length_drop, hn]
  have hcp1 : ∀ ty dc sc, (Builtin.copy_ #[142, 142] ty #[.slice (some ⟨g, (p + 1) * 4, none⟩) (n + 1 - (p + 1)) dc, .slice (some ⟨g, p * 4, none⟩) (n + 1 - p) sc]).run Tryz.prog w.drew = .ok (goInt ((n - p : Nat) : Int)) (w.drew.setCells g ((p + 1) * 4) (icells (M.drop p))) := fun ty dc sc =>
    run_copy_cellsN w.drew _ _ ty 176 4 (n - p) g ((p + 1) * 4) (n + 1 - (p + 1)) dc ⟨g, p * 4, none⟩ (n + 1 - p) sc (icells (M.drop p)) Tryz.underlying142 hsz (by simp only [Nat.min_def]; split <;> omega) hdl
      (fun j v hj => by
        have hlt := (List.getElem?_eq_some_iff.1 hj).1
        rw [hdl] at hlt
        rw [icells_drop, List.getElem?_drop, hx _ (by omega)] at hj
        rw [Addr.add_lit, ← Option.some.inj hj]
        exact hr.cell (by omega))
      (fun j hj => by
        rw [hdl] at hj
        rw [show w.drew.cell? ⟨g, (p + 1) * 4 + j, none⟩ = some (f ((p + 1) * 4 + j)) from hr.cell (by omega)]
        rfl)
      (fun j hj => hr.frozen _) (icells_one _)
  obtain ⟨W1, hW1⟩ : ∃ W1, W1 = w.drew.setCells g ((p + 1) * 4) (icells (M.drop p)) := ⟨_, rfl⟩
  have hr1 := rowIs_setCells (icells (M.drop p)) ((p + 1) * 4) w.drew f hr.drew
  have hg1 : w.grownBy W1 (some g) := by rw [hW1]; exact grown_setCells4 (.inl rfl) (w := w) (w' := w.drew) ⟨rfl, rfl, rfl, Nat.le_refl _, fun _ _ _ => rfl⟩ _ _
  have hv1 : W1.heap[vb]? = w.heap[vb]? := by rw [hW1]; exact far_setCells hne _ _ _
  rw [← hW1] at hr1
  have hcp2 : ∀ ty dc, (Builtin.copy_ #[142, 142] ty #[.slice (some ⟨g, p * 4, none⟩) (n + 1 - p) dc, .slice (some ⟨vb, 0, none⟩) 1 1]).run Tryz.prog W1 = .ok (goInt 1) (W1.setCells g (p * 4) (itcells x)) := fun ty dc =>
    run_copy_cellsN W1 _ _ ty 176 4 1 g (p * 4) (n + 1 - p) dc ⟨vb, 0, none⟩ 1 1 (itcells x) Tryz.underlying142 hsz (by simp only [Nat.min_def]; split <;> omega) rfl
      (fun j v hj => by
        rw [Addr.add_lit]
        simp only [World.cell?, hv1, hvb]
        simpa using hj)
      (fun j hj => by
        have hj4 : j < 4 := hj
        rw [hr1.cell (by omega)]
        rfl)
      (fun j hj => hr1.frozen _) (itcells_one x)
  have hr2 := rowIs_setCells (itcells x) (p * 4) W1 _ hr1
  have hfin : OwnI (W1.setCells g (p * 4) (itcells x)) B (.slice (some ⟨g, 0, none⟩) (n + 1) cap) (insL M p x) ∧ w.grownBy (W1.setCells g (p * 4) (itcells x)) (some g) := by
    refine ⟨?_, grown_setCells4 (.inl rfl) hg1 _ _⟩
    have e := insL_len M p x (by omega)
    show World.ownsRow _ B _ 4 _ (insL M p x).length _
    rw [e, ← hn]
    refine row_own4 hr2 hBg (by omega) hm (by rw [icells_len, e, hn]) (fun j u hj => ?_)
    have l4 : (itcells x).length = 4 := rfl
    rw [l4, hdl]
    rcases insL_cells M p x (by omega) hj with ⟨h1, h2⟩ | ⟨h1, h2, h3⟩ | ⟨h1, h2, h3⟩
    · rw [if_neg (by omega), if_neg (by omega)]
      rw [hx _ (by omega)] at h2
      exact Option.some.inj h2
    · rw [if_pos (by omega), h3]; rfl
    · rw [if_neg (by omega), if_pos (by omega), show j - (p + 1) * 4 = j - (p * 4 + 4) by omega, h3]; rfl
  have HF := Lib.hid hfin
  unfold maxLen at hm
  have hc63 : cap ≤ 9223372036854775807 := hm
  have hz2' : ¬ ((p : Int) = (n : Int)) := by omega
  have hw1 : IntKind.i64.wrap ((p : Int) + 1) = (p : Int) + 1 := by rw [IntKind.wrap_i64]; omega
  have hb1 : (0 : Int) ≤ (p : Int) + 1 := by omega
  have hin : p ≤ n := by omega
  have htn : ((p : Int) + 1).toNat = p + 1 := by omega
  have hb2 : ¬ (cap = p + 1) := by omega
  have hb3 : (p : Int) ≤ (n : Int) + 1 := by omega
  have hb4 : ¬ (cap = p) := by omega
  have hroom' : n + 1 ≤ cap := by omega
  have hpn : p < n := by omega
  rw [← hW1] at hcp1
  rw [← hn]
  clear hfin hr2 hr1 hg1 hv1 hr hx hl hcg hcs hm hW1 hdl hvb h hn hroom hp hnc hsz hz4 hz0 hz1 hz2 hi0
  go_enter Tryz.func93, Tryz.ntmps93
  go_wp2_with (simp only [hov])
  go_region_law (refine step_copy_runI rfl _ _ 142 142 rfl (.slice (some ⟨g, (p + 1) * 4, none⟩) (n + 1 - (p + 1)) (cap - (p + 1))) (.slice (some ⟨g, p * 4, none⟩) (n + 1 - p) (cap - p)) (by simp [Act.eval, Act.put]) (by simp [Act.eval, Act.put]) (hcp1 _ _ _) ?_)
  go_wp2_with (at_builtin; refine wpList_copy_runI _ rfl _ _ 142 142 rfl _ _ rfl rfl (hcp2 _ _) ?_)
  go_ret
  exact ⟨_, rfl, HF.out⟩
set_option maxRecDepth 100000 in
set_option maxHeartbeats 4000000 in
/-- there's no room -/
theorem insert_grow (g cap p : Nat) (hp : p < M.length) (hroom : ¬ M.length + 1 ≤ cap) (hM : M.length ≤ 1000000) (hB : B ≤ w.heap.size) (h : OwnI w B (.slice (some ⟨g, 0, none⟩) M.length cap) M) (hvb : w.heap[vb]? = some (.cells (itcells x).toArray 176 (0, 0))) :
    Calls Tryz.prog 93 #[.slice (some ⟨g, 0, none⟩) M.length cap, .int .i64 (p : Nat), .slice (some ⟨vb, 0, none⟩) 1 1] w fun e w' => ∃ u, e = .returned u ∧ OwnI w' B u (insL M p x) ∧ w.grownBy w' (some g) := by
  obtain ⟨i0, hi0, hz0, hz1, hz2⟩ := info_parts info_item
  obtain ⟨hBg, hnc, hm, hl, f, hr, hx⟩ := own_row4 h
  have hsz : (Tryz.prog.info? 176).map (·.size) = some 4 := by rw [hi0]; simp [hz1]
  obtain ⟨n, hn⟩ : ∃ n, n = M.length := ⟨_, rfl⟩
  have hcap : cap = n := by omega
  have hdl : (icells (M.drop p)).length = (n - p) * 4 := by rw [icells_len, List.length_drop, hn]
  have htl : (icells (M.take p)).length = p * 4 := by rw [icells_len, List.length_take]; congr 1; omega
  have hgw : g < w.heap.size := by obtain ⟨c, e, _⟩ := hr; exact (Array.getElem?_eq_some_iff.1 e).1
  have hvw : vb < w.heap.size := (Array.getElem?_eq_some_iff.1 hvb).1
  have hold : (Builtin.firstCells i0.size p (.slice (some ⟨g, 0, none⟩) p cap)).run Tryz.prog w.drew = .ok (icells (M.take p)).toArray w.drew := by
    rw [hz1]
    exact run_firstCells_some w.drew 4 p ⟨g, 0, none⟩ p cap (icells (M.take p)) htl (fun j v hj => by
      have hlt := (List.getElem?_eq_some_iff.1 hj).1
      rw [htl] at hlt
      rw [icells_take, List.getElem?_take, if_pos hlt, hx _ (by omega)] at hj
      rw [Addr.add_lit, Nat.zero_add, ← Option.some.inj hj]
      exact hr.drew.cell (by omega))
  have hkk : (n : Int) + 1 - (p : Int) = ((n + 1 - p : Nat) : Int) := by omega
  have hik : p + (n + 1 - p) = n + 1 := by omega
  have hrz : ∀ ty, (Builtin.append_ #[142, 3] ty #[.slice (some ⟨g, 0, none⟩) p cap, .int .i64 ((n : Int) + 1 - (p : Int))]).run Tryz.prog w =
      .ok (.slice (some ⟨w.heap.size, 0, none⟩) (n + 1) (grownCap w (n + 1) cap 176)) (w.drew.alloc (.cells ((icells (M.take p)).toArray ++ Builtin.zeroCells (Value.cells (.agg #[.string ⟨#[]⟩, .string ⟨#[]⟩, .string ⟨#[]⟩, .bool false])) (n + 1 - p) ++ Builtin.zeroCells (Value.cells (.agg #[.string ⟨#[]⟩, .string ⟨#[]⟩, .string ⟨#[]⟩, .bool false])) (grownCap w (n + 1) cap 176 - (n + 1))) 176)) := fun ty => by
    have h := Lib.run_append_grow_zeros w 142 3 ty 176 i0 _ .i64 .i64 Tryz.underlying142 Tryz.underlying3 hi0 hz0 (some ⟨g, 0, none⟩) p cap (icells (M.take p)) hold (n + 1 - p) (by omega) (by omega) (by omega) (by omega) (by rw [hz2]; omega) (by rw [hz2, hik]; exact growslice_fits (by omega) (by omega))
    rw [hik] at h
    rw [hkk]
    exact h
  have hGn : n + 1 ≤ grownCap w (n + 1) cap 176 := grownCap_ge w _ _ _
  have hGm : grownCap w (n + 1) cap 176 ≤ maxLen := grownCap_le_maxLen w (n + 1) cap 176 (by unfold maxLen; omega)
  generalize grownCap w (n + 1) cap 176 = G at *
  have hG63 : G ≤ 9223372036854775807 := by unfold maxLen at hGm; omega
  obtain ⟨ROW, hROW⟩ : ∃ ROW : Array Value, ROW = (icells (M.take p)).toArray ++ Builtin.zeroCells (Value.cells (.agg #[.string ⟨#[]⟩, .string ⟨#[]⟩, .string ⟨#[]⟩, .bool false])) (n + 1 - p) ++ Builtin.zeroCells (Value.cells (.agg #[.string ⟨#[]⟩, .string ⟨#[]⟩, .string ⟨#[]⟩, .bool false])) (G - (n + 1)) := ⟨_, rfl⟩
  rw [← hROW] at hrz
  have c4 : (Value.cells (.agg #[.string ⟨#[]⟩, .string ⟨#[]⟩, .string ⟨#[]⟩, .bool false])).size = 4 := rfl
  have hRs : ROW.size = G * 4 := by
    rw [hROW, Array.size_append, Array.size_append, List.size_toArray, htl, size_zeroCells, size_zeroCells, c4]
    omega
  have hRp : ∀ j, j < p * 4 → ROW[j]? = (icells M)[j]? := fun j hj => by
    rw [hROW, Array.append_assoc, Array.getElem?_append_left (by rw [List.size_toArray, htl]; exact hj), List.getElem?_toArray, icells_take, List.getElem?_take, if_pos hj]
  have hrN : ∀ W : World, W.heap[w.heap.size]? = some (.cells ROW 176 (0, 0)) → W.rowIs w.heap.size 176 (G * 4) (fun j => ROW[j]!) := fun W e => ⟨ROW, e, hRs, fun i hi => by
    show ROW[i]? = some ROW[i]!
    rw [getElem!_pos ROW i (by omega)]; exact Array.getElem?_eq_getElem _⟩
  obtain ⟨W1, hW1⟩ : ∃ W1, W1 = w.drew.alloc (.cells ROW 176) := ⟨_, rfl⟩
  rw [← hW1] at hrz
  have hr1 : W1.rowIs w.heap.size 176 (G * 4) (fun j => ROW[j]!) := hrN _ (by rw [hW1]; exact heap_alloc_new w.drew _)
  have ho1 : ∀ k, k < w.heap.size → W1.heap[k]? = w.heap[k]? := fun k hk => by rw [hW1]; exact heap_alloc_old w.drew _ hk
  have hg1 : w.grownBy W1 (some g) := by
    rw [hW1]
    exact ⟨rfl, rfl, rfl, by simp, fun k hk _ => heap_alloc_old w.drew _ hk⟩
  have hcpA : ∀ ty dc, (Builtin.copy_ #[142, 142] ty #[.slice (some ⟨w.heap.size, p * 4, none⟩) (n + 1 - p) dc, .slice (some ⟨vb, 0, none⟩) 1 1]).run Tryz.prog W1 = .ok (goInt 1) (W1.setCells w.heap.size (p * 4) (itcells x)) := fun ty dc =>
    run_copy_cellsN W1 _ _ ty 176 4 1 w.heap.size (p * 4) (n + 1 - p) dc ⟨vb, 0, none⟩ 1 1 (itcells x) Tryz.underlying142 hsz (by simp only [Nat.min_def]; split <;> omega) rfl
      (fun j v hj => by
        rw [Addr.add_lit]
        simp only [World.cell?, ho1 vb hvw, hvb]
        simpa using hj)
      (fun j hj => by
        have hj4 : j < 4 := hj
        rw [hr1.cell (by omega)]
        rfl)
      (fun j hj => hr1.frozen _) (itcells_one x)
  obtain ⟨W2, hW2⟩ : ∃ W2, W2 = W1.setCells w.heap.size (p * 4) (itcells x) := ⟨_, rfl⟩
  rw [← hW2] at hcpA
  have hr2 := rowIs_setCells (itcells x) (p * 4) W1 _ hr1
  rw [← hW2] at hr2
  have ho2 : ∀ k, k < w.heap.size → W2.heap[k]? = w.heap[k]? := fun k hk => by rw [hW2, far_setCells (by omega)]; exact ho1 k hk
  have hg2 : w.grownBy W2 (some g) := by rw [hW2]; exact grown_setCells4 (.inr (Nat.le_refl _)) hg1 _ _
  have hcpB : ∀ ty dc sc, (Builtin.copy_ #[142, 142] ty #[.slice (some ⟨w.heap.size, (p + 1) * 4, none⟩) (n + 1 - (p + 1)) dc, .slice (some ⟨g, p * 4, none⟩) (n - p) sc]).run Tryz.prog W2.drew = .ok (goInt ((n - p : Nat) : Int)) (W2.drew.setCells w.heap.size ((p + 1) * 4) (icells (M.drop p))) := fun ty dc sc =>
    run_copy_cellsN W2.drew _ _ ty 176 4 (n - p) w.heap.size ((p + 1) * 4) (n + 1 - (p + 1)) dc ⟨g, p * 4, none⟩ (n - p) sc (icells (M.drop p)) Tryz.underlying142 hsz (by simp only [Nat.min_def]; split <;> omega) hdl
      (fun j v hj => by
        have hlt := (List.getElem?_eq_some_iff.1 hj).1
        rw [hdl] at hlt
        rw [icells_drop, List.getElem?_drop, hx _ (by omega)] at hj
        rw [Addr.add_lit, ← Option.some.inj hj]
        exact (World.cell?_of_block (w := w) (a := ⟨g, p * 4 + j, none⟩) (ho2 g hgw)).trans (hr.cell (by omega)))
      (fun j hj => by
        rw [hdl] at hj
        rw [show W2.drew.cell? ⟨w.heap.size, (p + 1) * 4 + j, none⟩ = some _ from hr2.cell (by omega)]
        rfl)
      (fun j hj => hr2.frozen _) (icells_one _)
  have hr3 := rowIs_setCells (icells (M.drop p)) ((p + 1) * 4) W2.drew _ hr2.drew
  have hfin : OwnI (W2.drew.setCells w.heap.size ((p + 1) * 4) (icells (M.drop p))) B (.slice (some ⟨w.heap.size, 0, none⟩) (n + 1) G) (insL M p x) ∧ w.grownBy (W2.drew.setCells w.heap.size ((p + 1) * 4) (icells (M.drop p))) (some g) := by
    refine ⟨?_, grown_setCells4 (.inr (Nat.le_refl _)) (w' := W2.drew) ⟨hg2.os, hg2.tape, hg2.output, hg2.size, hg2.block⟩ _ _⟩
    have e := insL_len M p x (by omega)
    show World.ownsRow _ B _ 4 _ (insL M p x).length _
    rw [e, ← hn]
    refine row_own4 hr3 hB (by omega) hGm (by rw [icells_len, e, hn]) (fun j u hj => ?_)
    have l4 : (itcells x).length = 4 := rfl
    rw [l4, hdl]
    rcases insL_cells M p x (by omega) hj with ⟨h1, h2⟩ | ⟨h1, h2, h3⟩ | ⟨h1, h2, h3⟩
    · rw [if_neg (by omega), if_neg (by omega), getElem!_pos ROW j (by omega)]
      rw [← hRp j h1, Array.getElem?_eq_getElem (by omega)] at h2
      exact Option.some.inj h2
    · rw [if_neg (by omega), if_pos (by omega), h3]; rfl
    · rw [if_pos (by omega), show j - (p + 1) * 4 = j - (p * 4 + 4) by omega, h3]; rfl
  have HF := Lib.hid hfin
  have hz2' : ¬ ((p : Int) = (n : Int)) := by omega
  have hz3 : (cap : Int) < (n : Int) + 1 := by omega
  have hw1 : IntKind.i64.wrap ((p : Int) + 1) = (p : Int) + 1 := by rw [IntKind.wrap_i64]; omega
  have hb1 : (0 : Int) ≤ (p : Int) + 1 := by omega
  have hin : p ≤ n := by omega
  have htn : ((p : Int) + 1).toNat = p + 1 := by omega
  have hb3 : (p : Int) ≤ (n : Int) := by omega
  have hGi : ¬ (G = p) := by omega
  have hGim : ¬ (G = p + 1) := by omega
  have hci : ¬ (cap = p) := by omega
  have hpn : p < n := by omega
  rw [← hn]
  have hpc : (p : Int) ≤ (cap : Int) := by omega
  have hpc' : p ≤ cap := by omega
  have hz4 : ((p : Int) == (n : Int)) = false := by simp; omega
  clear hcap hM hB
  clear hfin hr3 hr2 hr1 hg2 hg1 ho1 ho2 hr hx hl hm hW1 hW2 hdl htl hvb h hn hroom hp hnc hsz hz0 hz1 hz2 hi0 hRp hRs hROW hrN hGm hkk hik hold hgw hvw
  go_enter Tryz.func93, Tryz.ntmps93
  go_wp2_with (first
    | (at_builtin; refine Lib.wpList_append_run _ rfl _ _ _ _ rfl _ _ rfl rfl _ _ (hrz _) ?_)
    | (at_builtin; refine wpList_copy_runI _ rfl _ _ 142 142 rfl _ _ rfl rfl (hcpA _ _) ?_))
  go_region_law (refine step_copy_runI rfl _ _ 142 142 rfl (.slice (some ⟨w.heap.size, (p + 1) * 4, none⟩) (n + 1 - (p + 1)) (G - (p + 1))) (.slice (some ⟨g, p * 4, none⟩) (n - p) (cap - p)) (by simp [Act.eval, Act.put]) (by simp [Act.eval, Act.put]) (hcpB _ _ _) ?_)
  go_wp2
  go_ret
  exact ⟨_, rfl, HF.out⟩
/-- slices.Insert of one entry that lies apart -/
theorem insert_any (v : Value) (p : Nat) (hp : p ≤ M.length) (hM : M.length ≤ 1000000) (hB : B ≤ w.heap.size) (h : OwnI w B v M) (hne : ∀ g, v.ownBlock = some g → vb ≠ g) (hvb : w.heap[vb]? = some (.cells (itcells x).toArray 176 (0, 0))) :
    Calls Tryz.prog 93 #[v, .int .i64 (p : Nat), .slice (some ⟨vb, 0, none⟩) 1 1] w fun e w' => ∃ u, e = .returned u ∧ OwnI w' B u (insL M p x) ∧ w.grownBy w' v.ownBlock := by
  rcases Nat.eq_or_lt_of_le hp with rfl | hlt
  · exact insert_end B w M x vb v hB hM h hvb
  · obtain ⟨g, cap, rfl⟩ : ∃ g cap, v = .slice (some ⟨g, 0, none⟩) M.length cap := by
      rcases h.2 with ⟨_, hn⟩ | ⟨g, cap, cur, he, _⟩
      · omega
      · exact ⟨g, cap, he⟩
    by_cases hr : M.length + 1 ≤ cap
    · exact insert_shift B w M x vb g cap p hlt hr h (hne g rfl) hvb
    · exact insert_grow B w M x vb g cap p hlt hr hM hB h hvb
end
end Go.Proofs.YtcohbfabcdjefaaGreatDoor
