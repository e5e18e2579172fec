/-
  'slices.SortFunc' of tables by their numbers.
-/
import Derived.Test.YtiiafpbonkcokaaGreatMh
import Derived.Test.YtiiafpbonkcokaaGreatS3
namespace Go.Proofs.YtiiafpbonkcokaaGreat
open Go.RowKit Go.Maps Go.Shelf Go.Lib Go.Sort

theorem grow_alloc2 (W : World) (a b : Obj) : ∃ q os, (W.alloc a).alloc b = grow (W.drewN q) os := ⟨0, #[a] ++ #[b], by rw [alloc_eq_grow, alloc_eq_grow, grow_grow]; rfl⟩
theorem cmp2_any (x y : Fi) (W : World) : Calls Tryz.prog 41 #[fiv x, fiv y] W fun e w' => e = .returned (.int .i64 (cmpI x.n y.n)) ∧ ∃ q os', w' = grow (W.drewN q) os' := by
  have H := Lib.hid (fun W => compare_any W x.n y.n)
  generalize cmpI x.n y.n = r at *
  unfold fiv
  go_enter Tryz.func41, Tryz.ntmps41
  go_wp2_with fail
  refine (H.out _).mono ?_
  rintro e w' ⟨rfl, rfl⟩
  go_wp2_with fail
  go_ret
  exact ⟨rfl, grow_alloc2 _ _ _⟩
theorem ltOf_n (x y : Fi) : ltOf (fun x y : Fi => cmpI x.n y.n) x y = decide (x.n < y.n) := by
  unfold ltOf cmpI
  by_cases h1 : x.n < y.n
  · simp [h1]
  · by_cases h2 : y.n < x.n <;> simp [h1, h2]
theorem swo_n : SWO (ltOf fun x y : Fi => cmpI x.n y.n) where
  irrefl x := by rw [ltOf_n]; simp
  trans x y z h1 h2 := by rw [ltOf_n] at *; simp at *; omega
  ntrans x y z h1 h2 := by rw [ltOf_n] at *; simp at *; omega
theorem enters_cmp2 : ∀ args w, (callFunc 41 args).run Tryz.prog w = .ok (.enter 41 args) w := enters_of Tryz.func41 (by kernel_rfl) rfl
theorem flat_at (L : List Fi) (j : Nat) (h : j < L.length * 5) : (rcells L)[j]? = some (flatK ficells 5 L.toArray)[j]! := by
  have hl : j < (rcells L).length := by rw [rcells_len]; exact h
  obtain ⟨i, k, hi, hk, rfl, hv⟩ := rcells_get L j _ (List.getElem?_eq_getElem hl)
  rw [List.getElem?_eq_getElem hl, get_flatK _ _ _ _ (by simpa using h), show (i * 5 + k) / 5 = i by omega, show (i * 5 + k) % 5 = k by omega]
  have e : L.toArray[i]! = L[i] := by rw [getElem!_pos L.toArray i (by simpa using hi)]; rfl
  rw [e, getElem!_pos (ficells L[i]) k (by simpa [ficells] using hk)]
  rw [List.getElem?_eq_getElem (by simpa [ficells] using hk)] at hv
  exact hv.symm ▸ rfl
theorem perm_of {d d' : Array Fi} (h : PermIn 0 d.size d d') : d'.toList.Perm d.toList ∧ d'.size = d.size := by
  obtain ⟨h1, _, h3⟩ := h
  refine ⟨?_, h1⟩
  have e1 : d'.extract 0 d.size = d' := by rw [← h1]; simp
  have e2 : d.extract 0 d.size = d := by simp
  rwa [e1, e2] at h3

theorem ins0_any (w : World) : Calls Tryz.prog 76 #[.slice none 0 0, .int .i64 0, .int .i64 0, .func (.func 41) #[] #[]] w fun e w' => e = .returned (.tuple #[]) ∧ w = w' := by
  go_enter Tryz.func76, Tryz.ntmps76
  go_wp2_with fail
  refine wp_loop_rounds 1 ?_
  rw [rounds_succ]
  go_wp2_with fail
  go_end0
  exact ⟨rfl, rfl⟩
theorem pdq0_any (w : World) (l : Int) : Calls Tryz.prog 58 #[.slice none 0 0, .int .i64 0, .int .i64 0, .int .i64 l, .func (.func 41) #[] #[]] w fun e w' => e = .returned (.tuple #[]) ∧ w = w' := by
  go_enter Tryz.func58, Tryz.ntmps58
  go_wp2_with fail
  refine wp_loop_rounds 1 ?_
  rw [rounds_succ]
  go_wp2_with fail
  refine (ins0_any _).mono ?_
  rintro e w1 ⟨rfl, rfl⟩
  go_wp2_with fail
  refine bodyPost_ret (results_none rfl _ _ _) rfl ?_
  exact ⟨rfl, rfl⟩
theorem put_self (w : World) (blk : Nat) (F cur : Array Value) (T : TypeId) (h : w.heap[blk]? = some (.cells cur T (0, 0))) (hF : F.size ≤ cur.size) : ∃ c2, (putRow id w blk 0 F).heap[blk]? = some (.cells c2 T (0, 0)) ∧ c2.size = cur.size ∧ ∀ j, j < F.size → c2[j]? = some F[j]! := by
  refine ⟨putCells id 0 F cur, ?_, by simp [putCells], fun j hj => ?_⟩
  · simp [putRow, mapBlock, Array.getElem?_modify, h, onCells]
  · simp only [putCells, Array.getElem?_mapIdx]
    rw [Array.getElem?_eq_getElem (by omega : j < cur.size), Option.map_some, if_pos ⟨by omega, by omega⟩]
    rfl
theorem put_far (w : World) (blk k : Nat) (F : Array Value) (h : k ≠ blk) : (putRow id w blk 0 F).heap[k]? = w.heap[k]? := by
  simp [putRow, mapBlock, Array.getElem?_modify, Ne.symm h]
theorem put_size (w : World) (blk : Nat) (F : Array Value) : (putRow id w blk 0 F).heap.size = w.heap.size := by simp [putRow, mapBlock]
set_option maxRecDepth 100000 in
set_option maxHeartbeats 1000000 in
theorem sort_any (B : Nat) (w : World) (v : Value) (L : List Fi) (hL : L.length ≤ 1000000) (h : w.ownsRow B 29 5 v L.length (rcells L)) :
    Calls Tryz.prog 40 #[v, .func (.func 41) #[] #[]] w fun e w' => e = .returned (.tuple #[]) ∧ ∃ R : List Fi, R.Perm L ∧ R.Pairwise (fun x y => x.n ≤ y.n) ∧ w'.ownsRow B 29 5 v R.length (rcells R) ∧ w.grownBy w' v.ownBlock := by
  rcases h.2 with ⟨rfl, hn⟩ | ⟨g, cap, cur, rfl, hBg, hb, hnc, hm, hcs, ht⟩
  · have hL0 : L = [] := List.eq_nil_of_length_eq_zero hn
    subst hL0
    have HO := Lib.hid h
    have HL := Lib.hid (fun W => Any.bits_Len (SlLaysF0.n15.bits (P := Tryz.prog) (ρ := Tryz.sortFi_ren) { Tryz.sortFi with }) 0 W (by omega) (by omega))
    clear h hn
    go_enter Tryz.func40, Tryz.ntmps40
    go_wp2_with fail
    refine (HL.out _).mono ?_
    rintro e w1 ⟨rfl, rfl⟩
    go_wp2_with fail
    refine (pdq0_any _ _).mono ?_
    rintro e w2 ⟨rfl, rfl⟩
    go_wp2_with fail
    go_end0
    exact ⟨rfl, [], List.Perm.refl _, List.Pairwise.nil, HO.out, rfl, rfl, rfl, Nat.le_refl _, fun _ _ _ => rfl⟩
  · have hd : L.toArray.size = L.length := by simp
    have hcell : ∀ j, j < L.length * 5 → w.cell? ⟨g, 0 + j, none⟩ = some (flatK ficells 5 L.toArray)[j]! ∧ w.frozen? ⟨g, 0 + j, none⟩ = false := fun j hj => by
      have h1 := flat_at L j hj
      rw [← ht, List.getElem?_take, if_pos hj, Array.getElem?_toList] at h1
      rw [Nat.zero_add]
      exact ⟨by simp [World.cell?, hb, h1], by simp [World.frozen?, hb]⟩
    have hcon := AnyQ.slices_SortFunc Tryz.sortFi 5 Tryz.isAgg29 Tryz.sizeOf29 ficells (fun _ => rfl) (fun x v hv => by simp [ficells] at hv; rcases hv with rfl | rfl | rfl | rfl | rfl <;> rfl) (fun x y => cmpI x.n y.n) swo_n 41 #[] g 0 cap L.toArray w enters_cmp2 (fun _ _ _ _ x y => cmp2_any x y _) (fun j hj => hcell j (by simpa using hj)) (Array.getElem?_eq_some_iff.1 hb).1 (by rw [hd]; omega)
    rw [hd] at hcon
    change Calls Tryz.prog 40 _ _ _ at hcon
    refine hcon.mono ?_
    rintro e w' ⟨rfl, d', m, os, hp, hs, rfl⟩
    rw [← hd] at hp hs
    obtain ⟨hperm, hsz⟩ := perm_of hp
    have hlt : g < w.heap.size := (Array.getElem?_eq_some_iff.1 hb).1
    have hFs : (flatK ficells 5 d').size = L.length * 5 := by rw [size_flatK, hsz, hd]
    obtain ⟨c2, h1, h2, h3⟩ := put_self (Go.Sort.ahead w m) g (flatK ficells 5 d') cur 29 hb (by rw [hFs, hcs]; omega)
    have hgrow : ∀ k, k < w.heap.size → (Go.Sort.grow (putRow id (Go.Sort.ahead w m) g 0 (flatK ficells 5 d')) os).heap[k]? = (putRow id (Go.Sort.ahead w m) g 0 (flatK ficells 5 d')).heap[k]? := fun k hk => by
      simp only [Go.Sort.grow]
      rw [Array.getElem?_append_left (by rw [put_size]; exact hk)]
    have hRl : d'.toList.length = L.length := by rw [Array.length_toList, hsz, hd]
    refine ⟨rfl, d'.toList, hperm, ?_, ?_, ?_⟩
    · rw [List.pairwise_iff_getElem]
      intro i j hi hj hij
      have := hs i j (Nat.zero_le _) hij (by rw [Array.length_toList] at hj; rw [← hsz]; exact hj)
      rw [ltOf_n] at this
      rw [getElem!_pos d' j (by simpa using hj), getElem!_pos d' i (by simpa using hi)] at this
      simpa using this
    · rw [hRl]
      refine ⟨by rw [rcells_len, hRl], .inr ⟨g, cap, c2, rfl, hBg, (hgrow g hlt).trans h1, hnc, hm, h2.trans hcs, ?_⟩⟩
      refine List.ext_getElem? (fun j => ?_)
      by_cases hj : j < L.length * 5
      · rw [List.getElem?_take, if_pos hj, Array.getElem?_toList, h3 j (by omega), flat_at d'.toList j (by rw [hRl]; exact hj)]
      · rw [List.getElem?_take, if_neg hj, List.getElem?_eq_none (by rw [rcells_len, hRl]; omega)]
    · refine ⟨rfl, rfl, rfl, ?_, fun k hk hne => (hgrow k hk).trans (put_far _ _ _ _ (fun e => hne (by rw [e]; rfl)))⟩
      show w.heap.size ≤ (Go.Sort.grow (putRow id (Go.Sort.ahead w m) g 0 (flatK ficells 5 d')) os).heap.size
      simp only [Go.Sort.grow, Array.size_append, put_size]
      show w.heap.size ≤ w.heap.size + _
      omega
end Go.Proofs.YtiiafpbonkcokaaGreat
