/-
  'slices.Clone', 'slices.Delete' of tables.
-/
import Derived.Test.YtiiafpbonkcokaaGreatMg
import Derived.Deep.RegionLaw
import Derived.Deep.AppendLies
import Derived.Lib.SliceRun
import Derived.Lib.LazyBuf
import Derived.OwnWalk
namespace Go.Proofs.YtiiafpbonkcokaaGreat
open Go.RowKit Go.Maps

theorem info_file : (Tryz.prog.info? 29).map (fun i => (i.zero, i.size, i.bytes)) = some (some (.agg #[.int .i64 0, .int .i64 0, .int .i64 0, .string ⟨#[]⟩, .string ⟨#[]⟩]), 5, 56) := by kernel_rfl
theorem rcells_one : ∀ (L : List Fi), ∀ u ∈ rcells L, u.oneCell' = true
  | [], _, h => by cases h
  | f :: r, u, h => by
    simp only [rcells, List.mem_cons] at h
    rcases h with rfl | rfl | rfl | rfl | rfl | h
    · rfl
    · rfl
    · rfl
    · rfl
    · rfl
    · exact rcells_one r u h
theorem rcells_get : ∀ (L : List Fi) (j : Nat) (u : Value), (rcells L)[j]? = some u → ∃ i k, ∃ hi : i < L.length, k < 5 ∧ j = i * 5 + k ∧ (ficells L[i])[k]? = some u
  | [], _, _, h => by simp [rcells] at h
  | f :: r, j, u, h => by
    by_cases hj : j < 5
    · refine ⟨0, j, by simp, hj, by omega, ?_⟩
      match j, hj with
      | 0, _ => exact h
      | 1, _ => exact h
      | 2, _ => exact h
      | 3, _ => exact h
      | 4, _ => exact h
    · obtain ⟨j', rfl⟩ : ∃ j', j = j' + 5 := ⟨j - 5, by omega⟩
      obtain ⟨i, k, hi, hk, he, hu⟩ := rcells_get r j' u (by simpa [rcells] using h)
      exact ⟨i + 1, k, by simpa using hi, hk, by omega, hu⟩
theorem FiAt.at_ {w : World} {b o : Nat} {f : Fi} (h : FiAt w b o f) {k : Nat} {u : Value} (hu : (ficells f)[k]? = some u) : w.cell? ⟨b, o + k, none⟩ = some u := by
  match k, hu with
  | 0, hu => rw [← hu]; exact h.c0
  | 1, hu => rw [← hu]; exact h.c1
  | 2, hu => rw [← hu]; exact h.c2
  | 3, hu => rw [← hu]; exact h.c3
  | 4, hu => rw [← hu]; exact h.c4
  | k + 5, hu => simp [ficells] at hu
/-- the cells of a slice of tables, one by one -/
theorem FRow.cells {S : Nat → Prop} {w : World} {a : Option Addr} {c n : Nat} {L : List Fi} (h : FRow S w (.slice a n c) L) {ad : Addr} (ha : a = some ad) (j : Nat) (u : Value) (hu : (rcells L)[j]? = some u) : w.cell? (ad.add j) = some u := by
  obtain ⟨⟨a', c', he, _, _, _, h3⟩, _⟩ := h
  injection he with e1 e2 e3
  subst e1 e3
  obtain ⟨i, k, hi, hk, rfl, hv⟩ := rcells_get L j u hu
  obtain ⟨b, o, hb, _, _, hc⟩ := h3 (by omega)
  rw [ha] at hb
  cases hb
  rw [Addr.add_lit, show o + (i * 5 + k) = o + i * 5 + k by omega]
  exact (hc i hi).at_ hv

set_option maxRecDepth 100000 in
set_option maxHeartbeats 1000000 in
theorem clone_any (S : Nat → Prop) (w : World) (v : Value) (L : List Fi) (h : FRow S w v L) (hL : L.length ≤ 1000000) : Calls Tryz.prog 35 #[v] w fun e w' => ∃ u, e = .returned u ∧ w'.ownsRow w.heap.size 29 5 u L.length (rcells L) ∧ Below w.heap.size w w' := by
  obtain ⟨⟨a, c, rfl, q1, q2, q3, q4⟩, qk⟩ := h
  have HR := Lib.hid (show FRow S w (.slice a L.length c) L from ⟨⟨a, c, rfl, q1, q2, q3, q4⟩, qk⟩)
  have heq := fun W => Lib.run_eql_slice_nil (P := Tryz.prog) W 22 29 a L.length c 0 0 Tryz.underlying22
  have HQ4 := Lib.hid q4
  have HQ3 := Lib.hid q3
  clear q3 q4 qk
  cases a with
  | none =>
    have hL0 : L = [] := by
      cases L with
      | nil => rfl
      | cons x r => have := HQ3.out rfl; simp at q1; omega
    subst hL0
    have heq' : ∀ W : World, (binOp .eql 22 (.slice none 0 c) (.slice none 0 0)).run Tryz.prog W = .ok (.bool true) W := heq
    clear heq
    show Calls _ _ #[.slice none 0 c] _ _
    go_enter Tryz.func35, Tryz.ntmps35
    go_wp2_with fail
    go_ret
    exact ⟨_, rfl, World.ownsRow_nil _ _ _ _, Below.refl _ _⟩
  | some ad =>
    have heq' : ∀ W : World, (binOp .eql 22 (.slice (some ad) L.length c) (.slice none 0 0)).run Tryz.prog W = .ok (.bool false) W := heq
    clear heq
    obtain ⟨i0, hi0, hz0, hz1, hz2⟩ := info_parts info_file
    go_enter Tryz.func35, Tryz.ntmps35
    go_wp2_with (first
      | (at_builtin; refine wpList_append_own _ rfl _ _ 22 rfl w.heap.size 29 i0 (.agg #[.int .i64 0, .int .i64 0, .int .i64 0, .string ⟨#[]⟩, .string ⟨#[]⟩]) 5 56 Tryz.underlying22 hi0 hz0 hz1 hz2 rfl (by decide) _ 0 [] rfl (World.ownsRow_made w #[] 0 (Nat.le_refl _) (by unfold maxLen; omega) rfl) ad L.length c (rcells L) rfl (rcells_len L) (fun j u hu => ((bl1 w _).cell (p := ad.add j) (World.block_lt_of_cell? w _ (HR.out.cells rfl j u hu))).trans (HR.out.cells rfl j u hu)) (rcells_one L) (by unfold maxLen; omega) (by omega) (by simp) ?_; intro v' w1 hown1 hgrow _)
      | fail)
    have HO := Lib.hid (show w1.ownsRow w.heap.size 29 5 v' L.length (rcells L) by simpa using hown1)
    have HB := Lib.hid (show Below w.heap.size w w1 from (bl1 w _).grown hgrow (by simp) (fun k hk => by injection hk with hk; rw [← hk]; exact Nat.le_refl _))
    clear hown1 hgrow
    go_wp2_with fail
    go_ret
    exact ⟨_, rfl, HO.out, HB.out⟩

/-- an owned row as a block told by the place -/
theorem own_row {w : World} {B : Nat} {T : TypeId} {g n cap : Nat} {xs : List Value} (h : w.ownsRow B T 5 (.slice (some ⟨g, 0, none⟩) n cap) n xs) : B ≤ g ∧ n ≤ cap ∧ cap ≤ maxLen ∧ xs.length = n * 5 ∧ ∃ f, w.rowIs g T (cap * 5) f ∧ ∀ j, j < n * 5 → xs[j]? = some (f j) := by
  obtain ⟨h1, h2⟩ := h
  rcases h2 with ⟨he, _⟩ | ⟨g', cap', cur, he, hg, hb, hnc, hm, hcs, ht⟩
  · cases he
  · obtain ⟨rfl, rfl⟩ : g = g' ∧ cap = cap' := by injection he with e1 e2 e3; injection e1 with e1; injection e1 with e1; exact ⟨e1, e3⟩
    refine ⟨hg, hnc, hm, h1, fun j => cur[j]!, ⟨cur, hb, hcs, fun i hi => ?_⟩, fun j hj => ?_⟩
    · show cur[i]? = some cur[i]!
      rw [getElem!_pos cur i (by omega)]; exact Array.getElem?_eq_getElem _
    · have hle : n * 5 ≤ cap * 5 := by omega
      rw [← ht, List.getElem?_take, if_pos hj, Array.getElem?_toList]
      show cur[j]? = some cur[j]!
      rw [getElem!_pos cur j (by omega)]
      exact Array.getElem?_eq_getElem _
theorem row_own {w : World} {B : Nat} {T : TypeId} {g n cap : Nat} {xs : List Value} {f : Nat → Value} (hr : w.rowIs g T (cap * 5) f) (hB : B ≤ g) (hn : n ≤ cap) (hm : cap ≤ maxLen) (hl : xs.length = n * 5) (hx : ∀ j, j < n * 5 → xs[j]? = some (f j)) : w.ownsRow B T 5 (.slice (some ⟨g, 0, none⟩) n cap) n xs := by
  obtain ⟨cur, hb, hs, hc⟩ := hr
  refine ⟨hl, .inr ⟨g, cap, cur, rfl, hB, hb, hn, hm, hs, ?_⟩⟩
  refine List.ext_getElem? (fun j => ?_)
  by_cases hj : j < n * 5
  · rw [List.getElem?_take, if_pos hj, Array.getElem?_toList, hc j (by omega), hx j hj]
  · rw [List.getElem?_take, if_neg hj, List.getElem?_eq_none (by omega)]
def zfile : List Value := [.int .i64 0, .int .i64 0, .int .i64 0, .string ⟨#[]⟩, .string ⟨#[]⟩]
theorem zero_file (w : World) : (zeroValue 29).run Tryz.prog w = .ok (.agg #[.int .i64 0, .int .i64 0, .int .i64 0, .string ⟨#[]⟩, .string ⟨#[]⟩]) w := by kernel_rfl
/-- 'clear' of one table -/
theorem run_clear_one (w : World) (ty : TypeId) (b o c : Nat) (hc : ∀ j, j < 5 → (w.cell? ⟨b, o + j, none⟩).isSome = true) (hf : ∀ j, j < 5 → w.frozen? ⟨b, o + j, none⟩ = false) :
    (Builtin.clear_ #[22] ty #[.slice (some ⟨b, o, none⟩) 1 c]).run Tryz.prog w = .ok (.tuple #[]) (w.setCells b o zfile) := by
  have hst := run_storeCells_cells (P := Tryz.prog) b o zfile 0 w (by intro j hj; simpa using hc j hj) (by intro j hj; simpa using hf j hj) (by intro v hv; simp [zfile] at hv; rcases hv with rfl | rfl | rfl <;> rfl)
  simp only [Nat.add_zero] at hst
  have hzc : (Builtin.zeroCells (Value.cells (.agg #[.int .i64 0, .int .i64 0, .int .i64 0, .string ⟨#[]⟩, .string ⟨#[]⟩])) 1).toList = zfile := by kernel_rfl
  simp [Builtin.clear_, run_underlying Tryz.underlying22, zero_file, hzc, hst]
theorem rowIs_far {b b' : Nat} (h : b' ≠ b) : ∀ (vs : List Value) (o : Nat) (w : World), (w.setCells b o vs).heap[b']? = w.heap[b']?
  | [], _, _ => rfl
  | v :: r, o, w => by rw [World.setCells, rowIs_far h r (o + 1)]; exact Below.heap_setCell w _ v b' h
theorem setCells_os (b : Nat) : ∀ (vs : List Value) (o : Nat) (w : World), (w.setCells b o vs).os = w.os
  | [], _, _ => rfl
  | v :: r, o, w => by rw [World.setCells, setCells_os b r (o + 1)]; rfl
theorem setCells_output (b : Nat) : ∀ (vs : List Value) (o : Nat) (w : World), (w.setCells b o vs).output = w.output
  | [], _, _ => rfl
  | v :: r, o, w => by rw [World.setCells, setCells_output b r (o + 1)]; rfl
theorem setCells_size (b : Nat) : ∀ (vs : List Value) (o : Nat) (w : World), (w.setCells b o vs).heap.size = w.heap.size
  | [], _, _ => rfl
  | v :: r, o, w => by rw [World.setCells, setCells_size b r (o + 1)]; simp
theorem setCells_tape (b : Nat) : ∀ (vs : List Value) (o : Nat) (w : World), (w.setCells b o vs).tape = w.tape
  | [], _, _ => rfl
  | v :: r, o, w => by rw [World.setCells, setCells_tape b r (o + 1)]; rfl
theorem grown_setCells {w w' : World} {g : Nat} (h : w.grownBy w' (some g)) (o : Nat) (vs : List Value) : w.grownBy (w'.setCells g o vs) (some g) :=
  ⟨by rw [setCells_os]; exact h.os, by rw [setCells_tape]; exact h.tape, by rw [setCells_output]; exact h.output, by rw [setCells_size]; exact h.size, fun k hk hne => (rowIs_far (fun e => hne (by rw [e])) vs o w').trans (h.block k hk hne)⟩
theorem rcells_drop : ∀ (L : List Fi) (i : Nat), rcells (L.drop i) = (rcells L).drop (i * 5)
  | L, 0 => by simp
  | [], i + 1 => by simp [rcells]
  | f :: r, i + 1 => by
    rw [List.drop_succ_cons, rcells_drop r i, show (i + 1) * 5 = i * 5 + 5 by omega]
    simp [rcells]
theorem rcells_take : ∀ (L : List Fi) (i : Nat), rcells (L.take i) = (rcells L).take (i * 5)
  | L, 0 => by simp [rcells]
  | [], i + 1 => by simp [rcells]
  | f :: r, i + 1 => by
    rw [List.take_succ_cons, rcells, rcells_take r i, show (i + 1) * 5 = i * 5 + 5 by omega]
    simp [rcells]

set_option maxRecDepth 100000 in
set_option maxHeartbeats 2000000 in
theorem delete_any (B : Nat) (w : World) (v : Value) (L : List Fi) (i : Nat) (hi : i < L.length) (hL : L.length ≤ 1000000) (h : w.ownsRow B 29 5 v L.length (rcells L)) :
    Calls Tryz.prog 39 #[v, .int .i64 i, .int .i64 ((i : Int) + 1)] w fun e w' => ∃ u, e = .returned u ∧ w'.ownsRow B 29 5 u (L.eraseIdx i).length (rcells (L.eraseIdx i)) ∧ w.grownBy w' v.ownBlock := by
  obtain ⟨g, cap, rfl⟩ : ∃ g cap, v = .slice (some ⟨g, 0, none⟩) L.length cap := by
    rcases h.2 with ⟨_, hn⟩ | ⟨g, cap, cur, he, _⟩
    · omega
    · exact ⟨g, cap, he⟩
  obtain ⟨hBg, hnc, hm, hl, f, hr, hx⟩ := own_row h
  unfold maxLen at hm
  obtain ⟨i0, hi0, hz0, hz1, hz2⟩ := info_parts info_file
  obtain ⟨n, hn⟩ : ∃ n, n = L.length := ⟨_, rfl⟩
  obtain ⟨news, hnews⟩ : ∃ news, news = rcells (L.drop (i + 1)) := ⟨_, rfl⟩
  have hnl : news.length = (n - (i + 1)) * 5 := by rw [hnews, rcells_len, List.length_drop, hn]
  have hng : ∀ t u, news[t]? = some u → (i + 1) * 5 + t < n * 5 ∧ u = f ((i + 1) * 5 + t) := by
    intro t u hu
    have ht := (List.getElem?_eq_some_iff.1 hu).1
    rw [hnews, rcells_drop, List.getElem?_drop] at hu
    have h2 : (i + 1) * 5 + t < n * 5 := by rw [hnl] at ht; omega
    rw [hx _ (by omega)] at hu
    exact ⟨h2, (Option.some.inj hu).symm⟩
  -- the source of the move
  obtain ⟨A, hA, hsrc⟩ : ∃ A : Addr, (if cap = i + 1 then (some (⟨g, 0, none⟩ : Addr)) else some ⟨g, (i + 1) * 5, none⟩) = some A ∧ Hid (∀ t u, news[t]? = some u → w.drew.cell? (A.add t) = some u) := by
    by_cases hc : cap = i + 1
    · refine ⟨⟨g, 0, none⟩, by simp [hc], fun t u hu => ?_⟩
      have := (hng t u hu).1
      omega
    · refine ⟨⟨g, (i + 1) * 5, none⟩, by simp [hc], fun t u hu => ?_⟩
      obtain ⟨h1, rfl⟩ := hng t u hu
      rw [Addr.add_lit]
      exact hr.cell (by omega)
  have s2 : Hid (∀ u ∈ news, u.oneCell' = true) := by rw [hnews]; exact rcells_one _
  have s3 : Hid (∀ t, t < news.length → (w.drew.cell? ⟨g, 0 + i * 5 + t, none⟩).isSome = true ∧ w.drew.frozen? ⟨g, 0 + i * 5 + t, none⟩ = false) := by
    intro t ht
    rw [hnl] at ht
    exact ⟨by rw [show w.drew.cell? ⟨g, 0 + i * 5 + t, none⟩ = some (f (0 + i * 5 + t)) from hr.cell (by omega)]; rfl, hr.frozen _⟩
  obtain ⟨W1, hW1⟩ : ∃ W1, W1 = w.drew.setCells g (0 + i * 5) news := ⟨_, rfl⟩
  have hr1 := rowIs_setCells news (0 + i * 5) w.drew f hr.drew
  rw [← hW1] at hr1
  have hg1 : w.grownBy W1 (some g) := by rw [hW1]; exact grown_setCells (w := w) (w' := w.drew) ⟨rfl, rfl, rfl, Nat.le_refl _, fun _ _ _ => rfl⟩ _ _
  have hcl : ∀ ty c, (Builtin.clear_ #[22] ty #[.slice (some ⟨g, (n - 1) * 5, none⟩) (n - (n - 1)) c]).run Tryz.prog W1 = .ok (.tuple #[]) (W1.setCells g ((n - 1) * 5) zfile) := by
    rw [show n - (n - 1) = 1 by omega]
    exact fun ty c => run_clear_one W1 ty g _ c (fun j hj => by rw [hr1.cell (by omega)]; rfl) (fun j hj => hr1.frozen _)
  have hr2 := rowIs_setCells zfile ((n - 1) * 5) W1 _ hr1
  have hfin : (W1.setCells g ((n - 1) * 5) zfile).ownsRow B 29 5 (.slice (some ⟨g, 0, none⟩) (n - 1) cap) (L.eraseIdx i).length (rcells (L.eraseIdx i)) ∧ w.grownBy (W1.setCells g ((n - 1) * 5) zfile) (some g) := by
    have hle : (L.eraseIdx i).length = n - 1 := by rw [List.length_eraseIdx_of_lt hi, hn]
    have hfe : rcells (L.eraseIdx i) = (rcells L).take (i * 5) ++ (rcells L).drop ((i + 1) * 5) := by
      rw [List.eraseIdx_eq_take_drop_succ, rcells_append, rcells_take, rcells_drop]
    refine ⟨?_, grown_setCells hg1 _ _⟩
    rw [hle]
    refine row_own hr2 hBg (by omega) (by unfold maxLen; omega) (by rw [rcells_len, hle]) (fun j hj => ?_)
    rw [if_neg (by omega), hfe]
    have hll : ((rcells L).take (i * 5)).length = i * 5 := by rw [List.length_take, rcells_len]; omega
    by_cases hji : j < i * 5
    · rw [if_neg (by omega), List.getElem?_append_left (by omega), List.getElem?_take, if_pos hji]
      exact hx j (by omega)
    · rw [if_pos (by omega), List.getElem?_append_right (by omega), hll, List.getElem?_drop, hx _ (by omega), hnews, rcells_drop, List.getElem?_drop]
      have e : (i + 1) * 5 + (j - (0 + i * 5)) < (rcells L).length := by rw [rcells_len]; omega
      have e2 := hx ((i + 1) * 5 + (j - (0 + i * 5))) (by omega)
      rw [e2]
      simp
  have HF := Lib.hid hfin
  have HW := Lib.hid hW1
  have HNL := Lib.hid hnl
  rw [← hn]
  have hii : i < n := by omega
  have hic : i ≤ cap := by omega
  have hjc : i + 1 ≤ cap := by omega
  have hjn : i + 1 ≤ n := by omega
  have r1 : (0 : Int) ≤ (i : Int) + 1 := by omega
  have r2 : (i : Int) + 1 ≤ (n : Int) := by omega
  have hcapn : n ≤ cap := by omega
  have HN := Lib.hid hn
  have hcap : cap ≤ 9223372036854775807 := hm
  clear hfin hW1 hg1 hr1 hr2 hng hx hr hl hnl hnews hn hm h hnc hi hL
  go_enter Tryz.func39, Tryz.ntmps39
  go_wp2_with fail
  go_region_law (refine step_append_room rfl (.tmp 22) (.tmp 25) 22 rfl 29 i0 5 Tryz.underlying22 hi0 hz1 g 0 i cap (by simp [Act.eval, Act.put]) A (n - (i + 1)) (cap - (i + 1)) news (by simp [Act.eval, Act.put]) HNL.out hsrc.out s2.out (by omega) s3.out ?_; rw [← HW.out])
  have hl3 : i + (n - (i + 1)) = n - 1 := by omega
  go_wp2_with fail
  go_ret
  exact ⟨_, rfl, HF.out⟩
end Go.Proofs.YtiiafpbonkcokaaGreat
