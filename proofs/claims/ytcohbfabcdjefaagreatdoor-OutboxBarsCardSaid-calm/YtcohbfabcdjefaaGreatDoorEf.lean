/-
  package mem: own, Set.
-/
import Derived.Test.YtcohbfabcdjefaaGreatDoorEe
namespace Go.Proofs.YtcohbfabcdjefaaGreatDoor
open Go.RowKit Go.Maps

theorem own_any (w : World) (mb : Nat) (v : Value) (hm : MemAt w mb v false) : Calls Tryz.prog 92 #[.pointer (some ⟨mb, 0, none⟩)] w fun e w' => e = .returned (.tuple #[]) ∧ w' = w := by
  have p1 := hm.c1
  clear hm
  go_enter Tryz.func92, Tryz.ntmps92
  go_wp2_with fail
  go_end0
  exact ⟨rfl, rfl⟩
theorem own_keep {w w' : World} {B : Nat} {T : TypeId} {size n : Nat} {v : Value} {xs : List Value} (h : w.ownsRow B T size v n xs) (hk : ∀ g cs, v.ownBlock = some g → w.heap[g]? = some (.cells cs T (0, 0)) → w'.heap[g]? = some (.cells cs T (0, 0))) : w'.ownsRow B T size v n xs :=
  ⟨h.1, h.2.imp_right fun ⟨g, cap, cur, e, hg, hb, r⟩ => ⟨g, cap, cur, e, hg, hk g cur (by rw [e]; rfl) hb, r⟩⟩
theorem own_below {w w' : World} {B : Nat} {T : TypeId} {size n : Nat} {v : Value} {xs : List Value} (h : w.ownsRow B T size v n xs) (hb : Below w.heap.size w w') : w'.ownsRow B T size v n xs :=
  own_keep h fun g cs _ e => (hb.block g ((Array.getElem?_eq_some_iff.1 e).1)).trans e
theorem own_block {w : World} {B : Nat} {T : TypeId} {size n : Nat} {v : Value} {xs : List Value} (h : w.ownsRow B T size v n xs) {g : Nat} (hg : v.ownBlock = some g) : ∃ cs, w.heap[g]? = some (.cells cs T (0, 0)) := by
  rcases h.2 with ⟨rfl, _⟩ | ⟨g', cap, cur, rfl, _, hb, _⟩
  · cases hg
  · injection hg with e; subst e; exact ⟨cur, hb⟩
theorem MemAt.far {w : World} {mb : Nat} {v : Value} {l : Bool} (h : MemAt w mb v l) {k : Nat} {cs : Array Value} {T : TypeId} (hk : w.heap[k]? = some (.cells cs T (0, 0))) (hT : T ≠ 144) : k ≠ mb := by
  rintro rfl
  rw [h.blk] at hk; injection hk with e; injection e with _ e2; exact hT e2.symm
theorem grown_but {w w' : World} {r : Option Nat} (h : w.grownBy w' r) : But r.toList w w' :=
  ⟨h.os, h.tape, h.output, h.size, fun k hk hn => h.block k hk (fun e => hn (by rw [← e]; simp))⟩
/-- an entry's three cells over those that stand there -/
def entcells (x : It) : List Value := [.string x.key, .string x.val, .bool x.gone]
theorem set_own {w : World} {B g cap p : Nat} {M : List It} (x : It) (hp : p < M.length) (hk : M[p].key = x.key) (h : OwnI w B (.slice (some ⟨g, 0, none⟩) M.length cap) M) : OwnI (w.setCells g (p * 4 + 1) (entcells x)) B (.slice (some ⟨g, 0, none⟩) M.length cap) (M.set p x) := by
  obtain ⟨hBg, hnc, hm, hl, f, hr, hx⟩ := own_row4 h
  have hr2 := rowIs_setCells (entcells x) (p * 4 + 1) w f hr
  have e : (M.set p x).length = M.length := List.length_set
  show World.ownsRow _ B _ 4 _ (M.set p x).length _
  rw [e]
  refine row_own4 hr2 hBg hnc hm (by rw [icells_len, e]) (fun j u hj => ?_)
  have hlt := (List.getElem?_eq_some_iff.1 hj).1
  rw [icells_len, e] at hlt
  have l3 : (entcells x).length = 3 := rfl
  rw [l3]
  obtain ⟨i, k, hk4, rfl⟩ : ∃ i k, k < 4 ∧ j = i * 4 + k := ⟨j / 4, j % 4, Nat.mod_lt _ (by omega), by omega⟩
  have hi : i < (M.set p x).length := by rw [e]; omega
  have hi' : i < M.length := by omega
  obtain ⟨a0, a1, a2, a3⟩ := icells_at _ i hi
  obtain ⟨b0, b1, b2, b3⟩ := icells_at _ i hi'
  by_cases hip : i = p
  · subst hip
    have es : (M.set i x)[i] = x := by simp
    rw [es] at a0 a1 a2 a3
    match k, hk4 with
    | 0, _ =>
      rw [Nat.add_zero] at hj hlt
      rw [if_neg (by omega)]
      rw [a0] at hj
      show f (i * 4) = u
      rw [hx _ (by omega)] at b0
      injection hj with hj
      injection b0 with b0
      rw [b0, ← hj, hk]
    | 1, _ => rw [if_pos (by omega), show i * 4 + 1 - (i * 4 + 1) = 0 by omega]; rw [a1] at hj; injection hj
    | 2, _ => rw [if_pos (by omega), show i * 4 + 2 - (i * 4 + 1) = 1 by omega]; rw [a2] at hj; injection hj
    | 3, _ => rw [if_pos (by omega), show i * 4 + 3 - (i * 4 + 1) = 2 by omega]; rw [a3] at hj; injection hj
  · have es : (M.set p x)[i] = M[i] := by rw [List.getElem_set_ne (by omega)]
    rw [es] at a0 a1 a2 a3
    rw [if_neg (by omega)]
    have : (icells M)[i * 4 + k]? = some u := by
      match k, hk4 with
      | 0, _ => rw [Nat.add_zero] at hj ⊢; rw [b0, ← a0]; exact hj
      | 1, _ => rw [b1, ← a1]; exact hj
      | 2, _ => rw [b2, ← a2]; exact hj
      | 3, _ => rw [b3, ← a3]; exact hj
    rw [hx _ (by omega)] at this
    injection this
theorem But.setCells {l : List Nat} {a : World} {g : Nat} (hg : g ∈ l ∨ a.heap.size ≤ g) : ∀ (vs : List Value) (o : Nat) {w : World}, But l a w → But l a (w.setCells g o vs)
  | [], _, _, h => h
  | v :: r, o, w, h => by rw [World.setCells]; exact But.setCells hg r (o + 1) (h.setCell (p := ⟨g, o, none⟩) hg v)

/-- what 'Set' leaves -/
def SetR (w : World) (B mb : Nat) (v : Value) (M : List It) (x : It) (w' : World) : Prop := ∃ u, MemAt w' mb u false ∧ OwnI w' B u (putL M x) ∧ But (mb :: v.ownBlock.toList) w w'
set_option maxRecDepth 100000 in
set_option maxHeartbeats 2000000 in
theorem set_any (w : World) (B mb : Nat) (v : Value) (M : List It) (x : It) (hB : B ≤ w.heap.size) (hm : MemAt w mb v false) (h : OwnI w B v M) (hU : Up M) (hbig : M.length ≤ 100000) :
    Calls Tryz.prog 45 #[.pointer (some ⟨mb, 0, none⟩), .string x.key, entv x] w fun e w' => e = .returned (.bool !(getL M x.key).isSome) ∧ SetR w B mb v M x w' := by
  obtain ⟨p, hp⟩ : ∃ p, p = below x.key M := ⟨_, rfl⟩
  have hs := hU.split x.key
  rw [← hp] at hs
  have HG := Lib.hid (getL_at hU hs)
  have HP := Lib.hid (Split.putL (x := x) hU hs)
  have hple := hs.le
  have HC := fun W (hM : MemAt W mb v false) (hW : RdI W v M) => Lib.hid (find_any W mb v false M x.key p hM hW hs (by omega))
  have HW := fun W (hM : MemAt W mb v false) => Lib.hid (own_any W mb v hM)
  obtain ⟨W1, hW1⟩ : ∃ W1, W1 = w.alloc (.cells #[.string x.key, .string x.val, .bool x.gone] 99 (0, 0)) := ⟨_, rfl⟩
  have hB1 : Below w.heap.size w W1 := by rw [hW1]; exact bl1 w _
  have hm1 : MemAt W1 mb v false := ⟨by rw [hW1, heap_alloc_old w _ hm.lt]; exact hm.blk⟩
  have ho1 : OwnI W1 B v M := own_below h hB1
  have hn1 : W1.heap[w.heap.size]? = some (.cells #[.string x.key, .string x.val, .bool x.gone] 99 (0, 0)) := by rw [hW1]; exact heap_alloc_new w _
  have HM1 := Lib.hid hm1
  have HO1 := Lib.hid ho1
  have HN1 := Lib.hid hn1
  have HB1 := Lib.hid hB1
  have HL := Lib.hid hm.lt
  have HBS := Lib.hid hB
  clear hm h hU hp hs hm1 ho1 hn1 hB1 hB
  unfold entv
  go_enter Tryz.func45, Tryz.ntmps45
  go_wp2_with fail
  rw [← hW1]
  clear hW1
  refine (HC W1 HM1.out HO1.out.rd).out.mono ?_
  rintro e w2 ⟨rfl, hb2⟩
  have HM2 := Lib.hid (show MemAt w2 mb v false from ⟨(hb2.block mb HM1.out.lt).trans HM1.out.blk⟩)
  have HO2 := Lib.hid (own_below HO1.out hb2)
  have HN2 := Lib.hid ((hb2.block _ ((Array.getElem?_eq_some_iff.1 HN1.out).1)).trans HN1.out)
  have HB2 := Lib.hid (HB1.out.trans (hb2.mono HB1.out.size))
  clear hb2 HM1 HO1 HN1 HB1 HC
  cases hfd : foundAt M x.key p with
  | true =>
    obtain ⟨hpl, hk⟩ := foundAt_lt hfd
    rw [hfd] at HG
    obtain ⟨g, cap, rfl⟩ : ∃ g cap, v = .slice (some ⟨g, 0, none⟩) M.length cap := by
      rcases HO2.out.2 with ⟨_, hn⟩ | ⟨g, cap, cur, he, _⟩
      · omega
      · exact ⟨g, cap, he⟩
    obtain ⟨cg, hcg⟩ := own_block HO2.out (g := g) rfl
    have hgm := HM2.out.far hcg (by decide)
    have hgb : g ≠ w.heap.size := by
      rintro rfl
      have := hcg.symm.trans HN2.out
      simp at this
    obtain ⟨hBg, hnc, hmx, hl, f, hr, hx⟩ := own_row4 HO2.out
    have hHP : putL M x = M.set p x := HP.out.trans (by unfold putAt; rw [hfd]; rfl)
    have hHG : getL M x.key = some M[p] := HG.out.trans (by rw [if_pos rfl, List.getElem?_eq_getElem hpl])
    have HF := Lib.hid (set_own x hpl hk HO2.out)
    have HQ := Lib.hid hHP
    have HI := Lib.hid hHG
    have m0 := HM2.out.c0
    have n0 : w2.cell? ⟨w.heap.size, 0, none⟩ = some (.string x.key) := by simp [World.cell?, HN2.out]
    have n1 : w2.cell? ⟨w.heap.size, 1, none⟩ = some (.string x.val) := by simp [World.cell?, HN2.out]
    have n2 : w2.cell? ⟨w.heap.size, 2, none⟩ = some (.bool x.gone) := by simp [World.cell?, HN2.out]
    have c1 : w2.cell? ⟨g, p * 4 + 1, none⟩ = some (f (p * 4 + 1)) := hr.cell (by omega)
    have c2 : w2.cell? ⟨g, p * 4 + 1 + 1, none⟩ = some (f (p * 4 + 1 + 1)) := hr.cell (by omega)
    have c3 : w2.cell? ⟨g, p * 4 + 1 + 2, none⟩ = some (f (p * 4 + 1 + 2)) := hr.cell (by omega)
    have z1 := hr.frozen (p * 4 + 1)
    have z2 := hr.frozen (p * 4 + 1 + 1)
    have z3 := hr.frozen (p * 4 + 1 + 2)
    have HCG := Lib.hid hcg
    clear hcg hHP hHG hr hx hl hmx HG HP hk hfd
    go_wp2_with fail
    refine (HW w2 HM2.out).out.mono ?_
    rintro e w3 ⟨rfl, rfl⟩
    go_wp2_with fail
    go_region
    go_wp2_with fail
    go_ret
    refine ⟨by rw [HI.out]; rfl, .slice (some ⟨g, 0, none⟩) M.length cap, ⟨?_⟩, ?_, ?_⟩
    · exact (far_setCells (fun e => hgm e.symm) (entcells x) (p * 4 + 1) w3).trans HM2.out.blk
    · rw [HQ.out]
      exact own_keep (w := w3.setCells g (p * 4 + 1) (entcells x)) HF.out fun _ _ _ e => e
    · exact (But.setCells (.inl (by simp [Value.ownBlock])) (entcells x) (p * 4 + 1) (But.of_below HB2.out)).drew
  | false =>
    rw [hfd] at HG
    have hHP : putL M x = insL M p x := HP.out.trans (by unfold putAt; rw [hfd]; rfl)
    have hHG : getL M x.key = none := HG.out
    obtain ⟨W3, hW3⟩ : ∃ W3, W3 = (w2.alloc (.cells #[.string x.key, .string x.key, .string x.val, .bool x.gone] 176 (0, 0))).drew := ⟨_, rfl⟩
    have hb3 : Below w2.heap.size w2 W3 := by rw [hW3]; exact ((Below.refl _ _).alloc (Nat.le_refl _) _).drew
    have hs3 : W3.heap.size = w2.heap.size + 1 := by rw [hW3]; simp
    have hv3 : W3.heap[w2.heap.size]? = some (.cells (itcells x).toArray 176 (0, 0)) := by rw [hW3]; exact heap_alloc_new w2 _
    have ho3 := own_below HO2.out hb3
    have HM3 := Lib.hid (show MemAt W3 mb v false from ⟨(hb3.block mb HM2.out.lt).trans HM2.out.blk⟩)
    have hsz := HB2.out.size
    have HI := Lib.hid (insert_any B W3 M x w2.heap.size v p hple (by omega) (by have := HBS.out; omega) ho3 (fun g hg => by
      obtain ⟨cs, e⟩ := own_block HO2.out hg
      have := (Array.getElem?_eq_some_iff.1 e).1
      omega) hv3)
    have HO3 := Lib.hid ho3
    have HB3 := Lib.hid (HB2.out.trans (hb3.mono hsz))
    have HP' := Lib.hid hHP
    have HG' := Lib.hid hHG
    have m0 := HM2.out.c0
    have n0 : w2.cell? ⟨w.heap.size, 0, none⟩ = some (.string x.key) := by simp [World.cell?, HN2.out]
    have n1 : w2.cell? ⟨w.heap.size, 1, none⟩ = some (.string x.val) := by simp [World.cell?, HN2.out]
    have n2 : w2.cell? ⟨w.heap.size, 2, none⟩ = some (.bool x.gone) := by simp [World.cell?, HN2.out]
    clear hHP hHG hb3 hs3 hv3 ho3 HP HG hfd
    go_wp2_with fail
    refine (HW w2 HM2.out).out.mono ?_
    rintro e w3 ⟨rfl, rfl⟩
    go_wp2_with fail
    have HN3 : (w3.alloc (.cells #[.string x.key, .string x.key, .string x.val, .bool x.gone] 176 (0, 0))).drew.heap[w.heap.size]? = some (.cells #[.string x.key, .string x.val, .bool x.gone] 99 (0, 0)) := (heap_alloc_old w3 _ (Array.getElem?_eq_some_iff.1 HN2.out).1).trans HN2.out
    have m3 : ∀ o, (w3.alloc o).cell? ⟨mb, 0, none⟩ = some v := fun o => (World.cell?_of_block (w := w3) (a := ⟨mb, 0, none⟩) (heap_alloc_old w3 _ HM2.out.lt)).trans m0
    have HSx := Lib.hid (show ∀ W : World, W.heap[w.heap.size]? = some (.cells #[.string x.key, .string x.val, .bool x.gone] 99 (0, 0)) → (W.cell? ⟨w.heap.size, 0, none⟩ = some (.string x.key) ∧ W.cell? ⟨w.heap.size, 1, none⟩ = some (.string x.val) ∧ W.cell? ⟨w.heap.size, 2, none⟩ = some (.bool x.gone)) from fun W e => ⟨by simp [World.cell?, e], by simp [World.cell?, e], by simp [World.cell?, e]⟩)
    have hmw : mb ≠ w.heap.size := Nat.ne_of_lt HL.out
    have HN3' := Lib.hid HN3
    clear HN3
    refine wp_region_noPanic ?_
    refine wp_region_held_drew (S := (fun w' => w'.cell? ⟨w.heap.size, 0, none⟩ = some (.string x.key) ∧ w'.cell? ⟨w.heap.size, 1, none⟩ = some (.string x.val) ∧ w'.cell? ⟨w.heap.size, 2, none⟩ = some (.bool x.gone))) (by kernel_rfl) (by (first | exact HSx.out _ HN2.out | exact HSx.out _ HN3'.out | exact HSx.out _ HN4.out | exact HSx.out _ ((Below.heap_setCell w4 ⟨mb, 0, none⟩ _ _ (fun e => hmw e.symm)).trans HN4.out) | assumption)) (fun hHeld => ?_)
    refine wpAnyH_take (i := 0) (oi := { dst := Option.some 28, op := Op.move (Operand.tmp 0), type := 97, pos := _, after := #[], guard := Option.none }) (v := ?_) rfl (by kernel_rfl) (by kernel_rfl) (by kernel_rfl) (fun _ _ _ h => h) (Or.inl ⟨by rfl, ?_⟩) (by assumption) ?_
    rotate_left
    · (intro wS hSw; (try dsimp only at hSw); go_simp; try with_reducible rfl)
    try simp only [Act.put, List.setIfInBounds_toArray, List.set_cons_zero, List.set_cons_succ]
    refine wpAnyH_take (i := 1) (oi := { dst := Option.some 29, op := Op.move (Operand.tmp 0), type := 97, pos := _, after := #[], guard := Option.none }) (v := ?_) rfl (by kernel_rfl) (by kernel_rfl) (by kernel_rfl) (fun _ _ _ h => h) (Or.inl ⟨by rfl, ?_⟩) (by assumption) ?_
    rotate_left
    · (intro wS hSw; (try dsimp only at hSw); go_simp; try with_reducible rfl)
    try simp only [Act.put, List.setIfInBounds_toArray, List.set_cons_zero, List.set_cons_succ]
    refine wpAnyH_take (i := 2) (oi := { dst := Option.some 30, op := Op.nilCheck (Operand.tmp 29), type := 0, pos := _, after := #[{ on := 1, ground := Ground.data }], guard := Option.none }) (v := ?_) rfl (by kernel_rfl) (by kernel_rfl) (by kernel_rfl) (fun _ _ _ h => h) (Or.inl ⟨by rfl, ?_⟩) (by assumption) ?_
    rotate_left
    · (intro wS hSw; (try dsimp only at hSw); go_simp; try with_reducible rfl)
    try simp only [Act.put, List.setIfInBounds_toArray, List.set_cons_zero, List.set_cons_succ]
    refine wpAnyH_take (i := 3) (oi := { dst := Option.some 31, op := Op.fieldAddr 144 (Operand.tmp 30) 0, type := 0, pos := _, after := #[{ on := 2, ground := Ground.data }], guard := Option.none }) (v := ?_) rfl (by kernel_rfl) (by kernel_rfl) (by kernel_rfl) (fun _ _ _ h => h) (Or.inl ⟨by rfl, ?_⟩) (by assumption) ?_
    rotate_left
    · (intro wS hSw; (try dsimp only at hSw); go_simp; try with_reducible rfl)
    try simp only [Act.put, List.setIfInBounds_toArray, List.set_cons_zero, List.set_cons_succ]
    refine wpAnyH_take (i := 5) (oi := { dst := Option.some 33, op := Op.move (Operand.tmp 7), type := 3, pos := _, after := #[], guard := Option.none }) (v := ?_) rfl (by kernel_rfl) (by kernel_rfl) (by kernel_rfl) (fun _ _ _ h => h) (Or.inl ⟨by rfl, ?_⟩) (by assumption) ?_
    rotate_left
    · (intro wS hSw; (try dsimp only at hSw); go_simp; try with_reducible rfl)
    try simp only [Act.put, List.setIfInBounds_toArray, List.set_cons_zero, List.set_cons_succ]
    refine wpAnyH_take (i := 6) (oi := { dst := Option.some 34, op := Op.move (Operand.tmp 1), type := 9, pos := _, after := #[], guard := Option.none }) (v := ?_) rfl (by kernel_rfl) (by kernel_rfl) (by kernel_rfl) (fun _ _ _ h => h) (Or.inl ⟨by rfl, ?_⟩) (by assumption) ?_
    rotate_left
    · (intro wS hSw; (try dsimp only at hSw); go_simp; try with_reducible rfl)
    try simp only [Act.put, List.setIfInBounds_toArray, List.set_cons_zero, List.set_cons_succ]
    refine wpAnyH_take (i := 7) (oi := { dst := Option.some 35, op := Op.load 99 (Operand.tmp 5), type := 99, pos := _, after := #[], guard := Option.none }) (v := ?_) rfl (by kernel_rfl) (by kernel_rfl) (by kernel_rfl) (fun _ _ _ h => h) (Or.inl ⟨by rfl, ?_⟩) (by assumption) ?_
    rotate_left
    · (intro wS hSw; (try dsimp only at hSw); go_simp; try with_reducible rfl)
    try simp only [Act.put, List.setIfInBounds_toArray, List.set_cons_zero, List.set_cons_succ]
    refine wpAnyH_take (i := 8) (oi := { dst := Option.some 36, op := Op.build 176 #[(0, Operand.tmp 34), (1, Operand.tmp 35)], type := 176, pos := _, after := #[{ on := 6, ground := Ground.data }, { on := 7, ground := Ground.data }], guard := Option.none }) (v := ?_) rfl (by kernel_rfl) (by kernel_rfl) (by kernel_rfl) (fun _ _ _ h => h) (Or.inl ⟨by rfl, ?_⟩) (by assumption) ?_
    rotate_left
    · (intro wS hSw; (try dsimp only at hSw); go_simp; try with_reducible rfl)
    try simp only [Act.put, List.setIfInBounds_toArray, List.set_cons_zero, List.set_cons_succ]
    refine wpAnyH_ready (rs := [4, 9]) (by kernel_rfl) (by simp) ?_
    refine AllReadyH.cons (o := { dst := Option.some 32, op := Op.load 142 (Operand.tmp 31), type := 142, pos := _, after := #[{ on := 3, ground := Ground.data }], guard := Option.none }) rfl (fun K hK => ?_) ?_
    · go_simp
      refine hK.out _ _ (by (first | exact HSx.out _ HN2.out | exact HSx.out _ HN3'.out | exact HSx.out _ HN4.out | exact HSx.out _ ((Below.heap_setCell w4 ⟨mb, 0, none⟩ _ _ (fun e => hmw e.symm)).trans HN4.out) | assumption)) (fun hHeld => ?_)
      clear hK K
      try simp only [Act.put, List.setIfInBounds_toArray, List.set_cons_zero, List.set_cons_succ]
      refine wpAnyH_ready (rs := [9]) (by kernel_rfl) (by simp) ?_
      refine AllReadyH.cons (o := { dst := Option.some 37, op := Op.buildSlice 142 1 #[(0, Operand.tmp 36)], type := 142, pos := _, after := #[{ on := 8, ground := Ground.data }], guard := Option.none }) rfl (fun K hK => ?_) ?_
      · go_simp
        refine hK.out _ _ (by (first | exact HSx.out _ HN2.out | exact HSx.out _ HN3'.out | exact HSx.out _ HN4.out | exact HSx.out _ ((Below.heap_setCell w4 ⟨mb, 0, none⟩ _ _ (fun e => hmw e.symm)).trans HN4.out) | assumption)) (fun hHeld => ?_)
        clear hK K
        try simp only [Act.put, List.setIfInBounds_toArray, List.set_cons_zero, List.set_cons_succ]
        refine wpAnyH_ready (rs := [10]) (by kernel_rfl) (by simp) ?_
        refine AllReadyH.cons (o := { dst := Option.some 38, op := Op.call { callee := Callee.value (Operand.func 93), args := #[Operand.tmp 32, Operand.tmp 33, Operand.tmp 37], argTypes := #[142, 3, 142] }, type := 142, pos := _, after := #[{ on := 4, ground := Ground.data }, { on := 5, ground := Ground.data }, { on := 9, ground := Ground.data }], guard := Option.none }) rfl (fun K hK => ?_) ?_
        · go_simp
          (first | (go_at_call 93; rw [← hW3]; refine HI.out.mono ?_; rintro e w4 ⟨u, rfl, hou, hgr⟩; obtain ⟨ua, uc, rfl⟩ := (OwnI.rd hou).shape; have hm4 := (hgr.block mb HM3.out.lt (fun e => by obtain ⟨cs, e2⟩ := own_block HO3.out e.symm; exact HM3.out.far e2 (by decide) rfl)).trans HM3.out.blk; have HN4 := Lib.hid ((hgr.block w.heap.size (by rw [hW3]; exact (Array.getElem?_eq_some_iff.1 HN3'.out).1) (fun e => by obtain ⟨cs, e2⟩ := own_block HO3.out e.symm; have e3 := e2.symm.trans (hW3 ▸ HN3'.out); simp at e3)).trans (hW3 ▸ HN3'.out)); have HOU := Lib.hid hou; have HGR := Lib.hid hgr; have HM4 := Lib.hid hm4; have p40 : w4.cell? ⟨mb, 0, none⟩ = some v := (by simp [World.cell?, hm4]); have z40 : w4.frozen? ⟨mb, 0, none⟩ = false := (by simp [World.frozen?, hm4]); clear hou hgr hm4))
          refine hK.out _ _ (by (first | exact HSx.out _ HN2.out | exact HSx.out _ HN3'.out | exact HSx.out _ HN4.out | exact HSx.out _ ((Below.heap_setCell w4 ⟨mb, 0, none⟩ _ _ (fun e => hmw e.symm)).trans HN4.out) | assumption)) (fun hHeld => ?_)
          clear hK K
          try simp only [Act.put, List.setIfInBounds_toArray, List.set_cons_zero, List.set_cons_succ]
          refine wpAnyH_take (i := 11) (oi := { dst := Option.some 39, op := Op.nilCheck (Operand.tmp 28), type := 0, pos := _, after := #[{ on := 0, ground := Ground.data }, { on := 0, ground := Ground.phase }, { on := 1, ground := Ground.phase }, { on := 2, ground := Ground.phase }, { on := 3, ground := Ground.phase }, { on := 4, ground := Ground.phase }, { on := 5, ground := Ground.phase }, { on := 6, ground := Ground.phase }, { on := 7, ground := Ground.phase }, { on := 8, ground := Ground.phase }, { on := 9, ground := Ground.phase }, { on := 10, ground := Ground.phase }], guard := Option.none }) (v := ?_) rfl (by kernel_rfl) (by kernel_rfl) (by kernel_rfl) (fun _ _ _ h => h) (Or.inl ⟨by rfl, ?_⟩) (by assumption) ?_
          rotate_left
          · (intro wS hSw; (try dsimp only at hSw); go_simp; try with_reducible rfl)
          try simp only [Act.put, List.setIfInBounds_toArray, List.set_cons_zero, List.set_cons_succ]
          refine wpAnyH_take (i := 12) (oi := { dst := Option.some 40, op := Op.fieldAddr 144 (Operand.tmp 39) 0, type := 0, pos := _, after := #[{ on := 11, ground := Ground.data }, { on := 0, ground := Ground.phase }, { on := 1, ground := Ground.phase }, { on := 2, ground := Ground.phase }, { on := 3, ground := Ground.phase }, { on := 4, ground := Ground.phase }, { on := 5, ground := Ground.phase }, { on := 6, ground := Ground.phase }, { on := 7, ground := Ground.phase }, { on := 8, ground := Ground.phase }, { on := 9, ground := Ground.phase }, { on := 10, ground := Ground.phase }], guard := Option.none }) (v := ?_) rfl (by kernel_rfl) (by kernel_rfl) (by kernel_rfl) (fun _ _ _ h => h) (Or.inl ⟨by rfl, ?_⟩) (by assumption) ?_
          rotate_left
          · (intro wS hSw; (try dsimp only at hSw); go_simp; try with_reducible rfl)
          try simp only [Act.put, List.setIfInBounds_toArray, List.set_cons_zero, List.set_cons_succ]
          refine wpAnyH_ready (rs := [13]) (by kernel_rfl) (by simp) ?_
          refine AllReadyH.cons (o := { dst := Option.none, op := Op.store 142 (Operand.tmp 40) (Operand.tmp 38), type := 0, pos := _, after := #[{ on := 12, ground := Ground.data }, { on := 10, ground := Ground.data }, { on := 10, ground := Ground.chain }, { on := 0, ground := Ground.phase }, { on := 1, ground := Ground.phase }, { on := 2, ground := Ground.phase }, { on := 3, ground := Ground.phase }, { on := 4, ground := Ground.phase }, { on := 5, ground := Ground.phase }, { on := 6, ground := Ground.phase }, { on := 7, ground := Ground.phase }, { on := 8, ground := Ground.phase }, { on := 9, ground := Ground.phase }, { on := 10, ground := Ground.phase }], guard := Option.none }) rfl (fun K hK => ?_) ?_
          · go_simp
            refine hK.out _ _ (by (first | exact HSx.out _ HN2.out | exact HSx.out _ HN3'.out | exact HSx.out _ HN4.out | exact HSx.out _ ((Below.heap_setCell w4 ⟨mb, 0, none⟩ _ _ (fun e => hmw e.symm)).trans HN4.out) | assumption)) (fun hHeld => ?_)
            clear hK K
            try simp only [Act.put, List.setIfInBounds_toArray, List.set_cons_zero, List.set_cons_succ]
            refine wpAnyH_done (by kernel_rfl) ?_ _
            refine NoPanic.normal ?_
            go_wp2_with fail
            go_ret
            refine ⟨by rw [HG'.out]; rfl, .slice ua (insL M p x).length uc, ⟨?_⟩, ?_, ?_⟩
            · exact heap_setCell_same _ _ _ _ _ _ HM4.out
            · rw [HP'.out]
              refine own_keep HOU.out fun g cs _ e => (Below.heap_setCell w4 ⟨mb, 0, none⟩ _ g ?_).trans e
              intro e2
              rw [e2] at e
              have := e.symm.trans HM4.out
              simp at this
            · exact ((But.of_below HB3.out).trans ((grown_but HGR.out).wider (fun _ e => List.mem_cons_of_mem _ e))).setCell (.inl (by simp)) _
          exact AllReadyH.nil
        exact AllReadyH.nil
      exact AllReadyH.nil
    refine AllReadyH.cons (o := { dst := Option.some 37, op := Op.buildSlice 142 1 #[(0, Operand.tmp 36)], type := 142, pos := _, after := #[{ on := 8, ground := Ground.data }], guard := Option.none }) rfl (fun K hK => ?_) ?_
    · go_simp
      refine hK.out _ _ (by (first | exact HSx.out _ HN2.out | exact HSx.out _ HN3'.out | exact HSx.out _ HN4.out | exact HSx.out _ ((Below.heap_setCell w4 ⟨mb, 0, none⟩ _ _ (fun e => hmw e.symm)).trans HN4.out) | assumption)) (fun hHeld => ?_)
      clear hK K
      try simp only [Act.put, List.setIfInBounds_toArray, List.set_cons_zero, List.set_cons_succ]
      refine wpAnyH_ready (rs := [4]) (by kernel_rfl) (by simp) ?_
      refine AllReadyH.cons (o := { dst := Option.some 32, op := Op.load 142 (Operand.tmp 31), type := 142, pos := _, after := #[{ on := 3, ground := Ground.data }], guard := Option.none }) rfl (fun K hK => ?_) ?_
      · go_simp
        refine hK.out _ _ (by (first | exact HSx.out _ HN2.out | exact HSx.out _ HN3'.out | exact HSx.out _ HN4.out | exact HSx.out _ ((Below.heap_setCell w4 ⟨mb, 0, none⟩ _ _ (fun e => hmw e.symm)).trans HN4.out) | assumption)) (fun hHeld => ?_)
        clear hK K
        try simp only [Act.put, List.setIfInBounds_toArray, List.set_cons_zero, List.set_cons_succ]
        refine wpAnyH_ready (rs := [10]) (by kernel_rfl) (by simp) ?_
        refine AllReadyH.cons (o := { dst := Option.some 38, op := Op.call { callee := Callee.value (Operand.func 93), args := #[Operand.tmp 32, Operand.tmp 33, Operand.tmp 37], argTypes := #[142, 3, 142] }, type := 142, pos := _, after := #[{ on := 4, ground := Ground.data }, { on := 5, ground := Ground.data }, { on := 9, ground := Ground.data }], guard := Option.none }) rfl (fun K hK => ?_) ?_
        · go_simp
          (first | (go_at_call 93; rw [← hW3]; refine HI.out.mono ?_; rintro e w4 ⟨u, rfl, hou, hgr⟩; obtain ⟨ua, uc, rfl⟩ := (OwnI.rd hou).shape; have hm4 := (hgr.block mb HM3.out.lt (fun e => by obtain ⟨cs, e2⟩ := own_block HO3.out e.symm; exact HM3.out.far e2 (by decide) rfl)).trans HM3.out.blk; have HN4 := Lib.hid ((hgr.block w.heap.size (by rw [hW3]; exact (Array.getElem?_eq_some_iff.1 HN3'.out).1) (fun e => by obtain ⟨cs, e2⟩ := own_block HO3.out e.symm; have e3 := e2.symm.trans (hW3 ▸ HN3'.out); simp at e3)).trans (hW3 ▸ HN3'.out)); have HOU := Lib.hid hou; have HGR := Lib.hid hgr; have HM4 := Lib.hid hm4; have p40 : w4.cell? ⟨mb, 0, none⟩ = some v := (by simp [World.cell?, hm4]); have z40 : w4.frozen? ⟨mb, 0, none⟩ = false := (by simp [World.frozen?, hm4]); clear hou hgr hm4))
          refine hK.out _ _ (by (first | exact HSx.out _ HN2.out | exact HSx.out _ HN3'.out | exact HSx.out _ HN4.out | exact HSx.out _ ((Below.heap_setCell w4 ⟨mb, 0, none⟩ _ _ (fun e => hmw e.symm)).trans HN4.out) | assumption)) (fun hHeld => ?_)
          clear hK K
          try simp only [Act.put, List.setIfInBounds_toArray, List.set_cons_zero, List.set_cons_succ]
          refine wpAnyH_take (i := 11) (oi := { dst := Option.some 39, op := Op.nilCheck (Operand.tmp 28), type := 0, pos := _, after := #[{ on := 0, ground := Ground.data }, { on := 0, ground := Ground.phase }, { on := 1, ground := Ground.phase }, { on := 2, ground := Ground.phase }, { on := 3, ground := Ground.phase }, { on := 4, ground := Ground.phase }, { on := 5, ground := Ground.phase }, { on := 6, ground := Ground.phase }, { on := 7, ground := Ground.phase }, { on := 8, ground := Ground.phase }, { on := 9, ground := Ground.phase }, { on := 10, ground := Ground.phase }], guard := Option.none }) (v := ?_) rfl (by kernel_rfl) (by kernel_rfl) (by kernel_rfl) (fun _ _ _ h => h) (Or.inl ⟨by rfl, ?_⟩) (by assumption) ?_
          rotate_left
          · (intro wS hSw; (try dsimp only at hSw); go_simp; try with_reducible rfl)
          try simp only [Act.put, List.setIfInBounds_toArray, List.set_cons_zero, List.set_cons_succ]
          refine wpAnyH_take (i := 12) (oi := { dst := Option.some 40, op := Op.fieldAddr 144 (Operand.tmp 39) 0, type := 0, pos := _, after := #[{ on := 11, ground := Ground.data }, { on := 0, ground := Ground.phase }, { on := 1, ground := Ground.phase }, { on := 2, ground := Ground.phase }, { on := 3, ground := Ground.phase }, { on := 4, ground := Ground.phase }, { on := 5, ground := Ground.phase }, { on := 6, ground := Ground.phase }, { on := 7, ground := Ground.phase }, { on := 8, ground := Ground.phase }, { on := 9, ground := Ground.phase }, { on := 10, ground := Ground.phase }], guard := Option.none }) (v := ?_) rfl (by kernel_rfl) (by kernel_rfl) (by kernel_rfl) (fun _ _ _ h => h) (Or.inl ⟨by rfl, ?_⟩) (by assumption) ?_
          rotate_left
          · (intro wS hSw; (try dsimp only at hSw); go_simp; try with_reducible rfl)
          try simp only [Act.put, List.setIfInBounds_toArray, List.set_cons_zero, List.set_cons_succ]
          refine wpAnyH_ready (rs := [13]) (by kernel_rfl) (by simp) ?_
          refine AllReadyH.cons (o := { dst := Option.none, op := Op.store 142 (Operand.tmp 40) (Operand.tmp 38), type := 0, pos := _, after := #[{ on := 12, ground := Ground.data }, { on := 10, ground := Ground.data }, { on := 10, ground := Ground.chain }, { on := 0, ground := Ground.phase }, { on := 1, ground := Ground.phase }, { on := 2, ground := Ground.phase }, { on := 3, ground := Ground.phase }, { on := 4, ground := Ground.phase }, { on := 5, ground := Ground.phase }, { on := 6, ground := Ground.phase }, { on := 7, ground := Ground.phase }, { on := 8, ground := Ground.phase }, { on := 9, ground := Ground.phase }, { on := 10, ground := Ground.phase }], guard := Option.none }) rfl (fun K hK => ?_) ?_
          · go_simp
            refine hK.out _ _ (by (first | exact HSx.out _ HN2.out | exact HSx.out _ HN3'.out | exact HSx.out _ HN4.out | exact HSx.out _ ((Below.heap_setCell w4 ⟨mb, 0, none⟩ _ _ (fun e => hmw e.symm)).trans HN4.out) | assumption)) (fun hHeld => ?_)
            clear hK K
            try simp only [Act.put, List.setIfInBounds_toArray, List.set_cons_zero, List.set_cons_succ]
            refine wpAnyH_done (by kernel_rfl) ?_ _
            refine NoPanic.normal ?_
            go_wp2_with fail
            go_ret
            refine ⟨by rw [HG'.out]; rfl, .slice ua (insL M p x).length uc, ⟨?_⟩, ?_, ?_⟩
            · exact heap_setCell_same _ _ _ _ _ _ HM4.out
            · rw [HP'.out]
              refine own_keep HOU.out fun g cs _ e => (Below.heap_setCell w4 ⟨mb, 0, none⟩ _ g ?_).trans e
              intro e2
              rw [e2] at e
              have := e.symm.trans HM4.out
              simp at this
            · exact ((But.of_below HB3.out).trans ((grown_but HGR.out).wider (fun _ e => List.mem_cons_of_mem _ e))).setCell (.inl (by simp)) _
          exact AllReadyH.nil
        exact AllReadyH.nil
      exact AllReadyH.nil
    exact AllReadyH.nil
end Go.Proofs.YtcohbfabcdjefaaGreatDoor
