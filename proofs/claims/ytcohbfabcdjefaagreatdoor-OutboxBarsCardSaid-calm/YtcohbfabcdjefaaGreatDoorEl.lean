/-
  package store: put.
-/
import Derived.Test.YtcohbfabcdjefaaGreatDoorEk
namespace Go.Proofs.YtcohbfabcdjefaaGreatDoor
open Go.RowKit Go.Maps

theorem StB.cell {w : World} {sb mb db lb nb size logged : Nat} {dead : Bool} (h : StB w sb mb db lb nb size logged dead) (j : Nat) : w.cell? ⟨sb, j, none⟩ = (stC mb db lb nb size logged dead)[j]? := Lib.cell_of_heap h j
theorem StB.fro {w : World} {sb mb db lb nb size logged : Nat} {dead : Bool} (h : StB w sb mb db lb nb size logged dead) (j : Nat) : w.frozen? ⟨sb, j, none⟩ = false := Lib.frozen_of_heap h j
theorem SetR.far {w w' : World} {B mb : Nat} {v : Value} {M : List It} {x : It} (h : SetR w B mb v M x w') (hm : MemAt w mb v false) (ho : OwnI w B v M) {k : Nat} {cs : Array Value} {T : TypeId} (hk : w.heap[k]? = some (.cells cs T (0, 0))) (h1 : T ≠ 144) (h2 : T ≠ 176) : w'.heap[k]? = some (.cells cs T (0, 0)) := by
  obtain ⟨u, _, _, hb⟩ := h
  rw [hb.block k (Array.getElem?_eq_some_iff.1 hk).1 (fun e => ?_)]
  · exact hk
  · rcases List.mem_cons.1 e with e | e
    · exact hm.far hk h1 e
    · obtain ⟨cs', e2⟩ := own_block ho (g := k) (by simpa using e)
      rw [hk] at e2; injection e2 with e2; injection e2 with _ e3; exact h2 e3
/-- what 'put' holds of the store and what is in memory -/
structure PutI (w : World) (B sb mb db lb nb logged : Nat) (dead : Bool) (M : List It) (wr : World) (u : Value) : Prop where
  st : StB wr sb mb db lb nb (sumE M) logged dead
  mem : MemAt wr mb u false
  own : OwnI wr B u M
  up : Up M
  kp : Kp B tsM w wr
set_option maxRecDepth 100000 in
set_option maxHeartbeats 4000000 in
theorem put_any (w : World) (B Be sb mb db lb nb logged : Nat) (dead : Bool) (M L : List It) (v lv : Value) (h : PutI w B sb mb db lb nb logged dead M w v) (hB : B ≤ w.heap.size) (hsb : B ≤ sb) (hmb : B ≤ mb) (hl : OwnE w Be lv L)
    (hlen : M.length + L.length ≤ 50000) (hsum : sumE M + sumE L ≤ 1000000000) :
    Calls Tryz.prog 51 #[.pointer (some ⟨sb, 0, none⟩), lv] w fun e w' => e = .returned (.tuple #[]) ∧ ∃ u, PutI w B sb mb db lb nb logged dead (putAll M L) w' u := by
  have HL := Lib.hid hl
  have HI0 := Lib.hid h
  obtain ⟨a, c, rfl, h1, h2, h3⟩ := hl.rd
  unfold maxLen at h2
  clear h3 hl h
  go_enter Tryz.func51, Tryz.ntmps51
  go_wp2_with fail
  go_loopw [10] (fun x wr => ∃ (i : Nat) (u : Value), i ≤ L.length ∧ x = .int .i64 i ∧ (putAll M (L.take i)).length ≤ M.length + i ∧ sumE (putAll M (L.take i)) ≤ sumE M + sumE (L.take i) ∧ Hid (PutI w B sb mb db lb nb logged dead (putAll M (L.take i)) wr u)) (fun x _ => L.length - (intOf x).toNat)
  case atStart => exact ⟨0, v, Nat.zero_le _, rfl, Nat.le_refl _, Nat.le_refl _, HI0⟩
  case round =>
    obtain ⟨i, u, hi, rfl, hml, hms, HI⟩ := hrel
    by_cases hlt : i < L.length
    · obtain ⟨a', c', e, _, _, h3⟩ := (OwnE.rd (HI.out.kp.own HL.out (by decide)))
      injection e with e1 e2 e3
      subst e1 e3
      obtain ⟨b, rfl, hb, hrow⟩ := h3 (by omega)
      have f := hrow i hlt
      have hss := putAll_succ M L i hlt
      have hts := sumE_succ L i hlt
      have htl := sumE_take L (i + 1)
      clear hrow h3
      generalize L[i] = x at *
      generalize putAll M (L.take i) = N at *
      have hNl := getL_len x HI.out.up
      have p0 := f.c0
      have p1 := f.c1
      have p2 := f.c2
      clear f
      have HS := Lib.hid hss
      clear hss
      obtain ⟨W, hW⟩ : ∃ W, W = wr.alloc (.cells #[.string x.key, .string x.val, .bool x.gone] 99 (0, 0)) := ⟨_, rfl⟩
      have hBW : Below wr.heap.size wr W := by rw [hW]; exact bl1 wr _
      have hst : StB W sb mb db lb nb (sumE N) logged dead := (hBW.block sb (Array.getElem?_eq_some_iff.1 HI.out.st).1).trans HI.out.st
      have hmm : MemAt W mb u false := ⟨(hBW.block mb HI.out.mem.lt).trans HI.out.mem.blk⟩
      have hown : OwnI W B u N := own_below HI.out.own hBW
      have q : W.heap[wr.heap.size]? = some (.cells #[.string x.key, .string x.val, .bool x.gone] 99 (0, 0)) := by rw [hW]; exact heap_alloc_new wr _
      have q0 : W.cell? ⟨wr.heap.size, 0, none⟩ = some (.string x.key) := by simp [World.cell?, q]
      have q1 : W.cell? ⟨wr.heap.size, 1, none⟩ = some (.string x.val) := by simp [World.cell?, q]
      have q2 : W.cell? ⟨wr.heap.size, 2, none⟩ = some (.bool x.gone) := by simp [World.cell?, q]
      have s0 : W.cell? ⟨sb, 0, none⟩ = some (.pointer (some ⟨mb, 0, none⟩)) := hst.cell 0
      have HGE := Lib.hid (fun W' (hb : Below W.heap.size W W') => get_any W' mb u false N x.key ⟨(hb.block mb hmm.lt).trans hmm.blk⟩ (hown.rd.below hb) HI.out.up (by omega))
      have HSS := Lib.hid (show ∀ W', Below W.heap.size W W' → (W'.cell? ⟨sb, 0, none⟩ = some (.pointer (some ⟨mb, 0, none⟩)) ∧ W'.cell? ⟨wr.heap.size, 0, none⟩ = some (.string x.key)) from fun W' hb => ⟨(hb.cell (Array.getElem?_eq_some_iff.1 hst).1).trans s0, (hb.cell (Array.getElem?_eq_some_iff.1 q).1).trans q0⟩)
      have X0 := Lib.hid ((Below.refl W.heap.size W).drew)
      have X1 := Lib.hid (((Below.refl W.heap.size W).alloc (Nat.le_refl _) (.cells #[.string ⟨#[]⟩, .string ⟨#[]⟩, .bool false] 99 (0, 0))).drew)
      have HST := Lib.hid hst
      have HMM := Lib.hid hmm
      have HOW := Lib.hid hown
      have HQ := Lib.hid q
      have HKW := Lib.hid (HI.out.kp.trans (.of_below hBW))
      have HWE := Lib.hid hW
      clear hW hst hmm hown q
      go_wp2_with fail
      rw [← HWE.out]
      clear HWE hBW
      cases hget : getL N x.key with
      | none =>
        rw [hget] at HGE
        obtain ⟨T, hT⟩ : ∃ T, T = sumE N := ⟨_, rfl⟩
        have HSUM := Lib.hid (show sumE (putL N x) = T + szE x by rw [hT]; exact sumE_putL_none x HI.out.up hget)
        have hTb : T ≤ sumE M + sumE (L.take i) := by omega
        rw [← hT] at HST
        clear hT
        unfold getV noEnt at HGE
        go_region_held3 (fun w' => w'.cell? ⟨sb, 0, none⟩ = some (.pointer (some ⟨mb, 0, none⟩)) ∧ w'.cell? ⟨wr.heap.size, 0, none⟩ = some (.string x.key))
          (first | exact HSS.out _ X0.out | exact HSS.out _ X1.out | exact HSS.out _ XA.out | exact HSS.out _ (XA.out.alloc XA.out.size _) | exact HSS.out _ ((((XA.out.alloc XA.out.size _).setCell XA.out.size _).setCell XA.out.size _).setCell XA.out.size _) | exact HSS.out _ XB.out | exact HSS.out _ (((XB.out.setCell (Nat.le_refl _) _).setCell (Nat.le_refl _) _).setCell (Nat.le_refl _) _) | assumption)
          (first
            | (go_at_call 106; ((with_reducible refine (HGE.out _ X0.out).mono ?_); rintro e wA ⟨rfl, hbA⟩; have XA := Lib.hid (X0.out.trans (hbA.mono X0.out.size)); clear hbA))
            | (go_at_call 106; ((with_reducible refine (HGE.out _ X1.out).mono ?_); rintro e wB ⟨rfl, hbB⟩; have XB := Lib.hid (X1.out.trans (hbB.mono X1.out.size)); have yB := (hbB.block W.heap.size (by simp)).trans (heap_alloc_new W _); have YB := Lib.hid yB; have y0 : wB.cell? ⟨W.heap.size, 0, none⟩ = some (.string ⟨#[]⟩) := (by simp [World.cell?, yB]); have y1 : wB.cell? ⟨W.heap.size, 1, none⟩ = some (.string ⟨#[]⟩) := (by simp [World.cell?, yB]); have y2 : wB.cell? ⟨W.heap.size, 2, none⟩ = some (.bool false) := (by simp [World.cell?, yB]); have z0 : wB.frozen? ⟨W.heap.size, 0, none⟩ = false := (by simp [World.frozen?, yB]); have z1 : wB.frozen? ⟨W.heap.size, 1, none⟩ = false := (by simp [World.frozen?, yB]); have z2 : wB.frozen? ⟨W.heap.size, 2, none⟩ = false := (by simp [World.frozen?, yB]); clear hbB yB)))
        all_goals
          go_wp2_with fail
          first
            | (obtain ⟨Z, hZ⟩ : ∃ Z, Z = wA.alloc (.cells #[.string ⟨#[]⟩, .string ⟨#[]⟩, .bool false] 99 (0, 0)) := ⟨_, rfl⟩; have XZ := Lib.hid (show Below W.heap.size W Z by rw [hZ]; exact XA.out.alloc XA.out.size _); rw [← hZ]; clear hZ)
            | (obtain ⟨Z, hZ⟩ : ∃ Z, Z = ((wB.setCell ⟨W.heap.size, 0, none⟩ (.string ⟨#[]⟩)).setCell ⟨W.heap.size, 1, none⟩ (.string ⟨#[]⟩)).setCell ⟨W.heap.size, 2, none⟩ (.bool false) := ⟨_, rfl⟩; have XZ := Lib.hid (show Below W.heap.size W Z by rw [hZ]; exact ((XB.out.setCell (Nat.le_refl _) _).setCell (Nat.le_refl _) _).setCell (Nat.le_refl _) _); rw [← hZ]; clear hZ)
          have hBZ : B ≤ Z.heap.size := by have h1 := HKW.out.size; have h2 := XZ.out.size; omega
          have hmZ : MemAt Z mb u false := ⟨(XZ.out.block mb HMM.out.lt).trans HMM.out.blk⟩
          have hoZ : OwnI Z B u N := own_below HOW.out XZ.out
          have hstZ : StB Z sb mb db lb nb T logged dead := (XZ.out.block sb (Array.getElem?_eq_some_iff.1 HST.out).1).trans HST.out
          have hqZ := (XZ.out.block wr.heap.size (Array.getElem?_eq_some_iff.1 HQ.out).1).trans HQ.out
          have hkZ : Kp B tsM w Z := HKW.out.trans (.of_below XZ.out)
          have HSE := Lib.hid (set_any Z.drew B mb u N x (by show B ≤ Z.heap.size; exact hBZ) ⟨hmZ.blk⟩ (own_keep hoZ (fun _ _ _ e => e)) HI.out.up (by omega))
          have e0 : Z.cell? ⟨sb, 0, none⟩ = some (.pointer (some ⟨mb, 0, none⟩)) := hstZ.cell 0
          have e1 : Z.cell? ⟨wr.heap.size, 0, none⟩ = some (.string x.key) := by simp [World.cell?, hqZ]
          have e2 : Z.cell? ⟨wr.heap.size, 1, none⟩ = some (.string x.val) := by simp [World.cell?, hqZ]
          have e3 : Z.cell? ⟨wr.heap.size, 2, none⟩ = some (.bool x.gone) := by simp [World.cell?, hqZ]
          have HSZ := Lib.hid hstZ
          have HQZ := Lib.hid hqZ
          have HMZ := Lib.hid hmZ
          have HOZ := Lib.hid hoZ
          have HKZ := Lib.hid hkZ
          clear hstZ hqZ hmZ hoZ hkZ hBZ
          unfold entv at HSE
          have HS6 := Lib.hid (show ∀ W' : World, StB W' sb mb db lb nb T logged dead → W'.heap[wr.heap.size]? = some (.cells #[.string x.key, .string x.val, .bool x.gone] 99 (0, 0)) → (W'.cell? ⟨sb, 0, none⟩ = some (.pointer (some ⟨mb, 0, none⟩)) ∧ W'.cell? ⟨wr.heap.size, 0, none⟩ = some (.string x.key) ∧ W'.cell? ⟨wr.heap.size, 1, none⟩ = some (.string x.val) ∧ W'.cell? ⟨wr.heap.size, 2, none⟩ = some (.bool x.gone)) from fun W' h1 h2 => ⟨h1.cell 0, by simp [World.cell?, h2], by simp [World.cell?, h2], by simp [World.cell?, h2]⟩)
          go_region_held3 (fun w' => w'.cell? ⟨sb, 0, none⟩ = some (.pointer (some ⟨mb, 0, none⟩)) ∧ w'.cell? ⟨wr.heap.size, 0, none⟩ = some (.string x.key) ∧ w'.cell? ⟨wr.heap.size, 1, none⟩ = some (.string x.val) ∧ w'.cell? ⟨wr.heap.size, 2, none⟩ = some (.bool x.gone))
            (first | exact HS6.out _ HSZ.out HQZ.out | exact HS6.out _ HT3.out HU3.out | assumption)
            (first
              | (go_at_call 45; refine HSE.out.mono ?_; rintro e w3 ⟨rfl, hset⟩; have HSET := Lib.hid hset; have HT3 := Lib.hid (show StB w3 sb mb db lb nb T logged dead from SetR.far hset ⟨HMZ.out.blk⟩ (own_keep HOZ.out (fun _ _ _ e => e)) (w := Z.drew) HSZ.out (by decide) (by decide)); have HU3 := Lib.hid (SetR.far hset ⟨HMZ.out.blk⟩ (own_keep HOZ.out (fun _ _ _ e => e)) (w := Z.drew) HQZ.out (by decide) (by decide)); clear hset))
          go_wp2_with fail
          have t8 : w3.cell? ⟨sb, 8, none⟩ = some (.int .i64 (T : Nat)) := HT3.out.cell 8
          have f8 : w3.frozen? ⟨sb, 8, none⟩ = false := HT3.out.fro 8
          have hse : szE x = x.key.size + x.val.size := rfl
          have g3 : IntKind.i64.wrap ((x.key.size : Int) + (x.val.size : Int)) = (x.key.size : Int) + (x.val.size : Int) := by rw [IntKind.wrap_i64]; omega
          have g4 : IntKind.i64.wrap ((T : Int) + ((x.key.size : Int) + (x.val.size : Int))) = (T : Int) + ((x.key.size : Int) + (x.val.size : Int)) := by rw [IntKind.wrap_i64]; omega
          have hne : wr.heap.size ≠ sb := by
            intro e
            have h5 := HU3.out
            rw [e] at h5
            have := h5.symm.trans HT3.out
            simp [stC] at this
          have HS7 := Lib.hid (show ∀ W' : World, W'.heap[wr.heap.size]? = some (.cells #[.string x.key, .string x.val, .bool x.gone] 99 (0, 0)) → (W'.cell? ⟨wr.heap.size, 0, none⟩ = some (.string x.key) ∧ W'.cell? ⟨wr.heap.size, 1, none⟩ = some (.string x.val)) from fun W' h2 => ⟨by simp [World.cell?, h2], by simp [World.cell?, h2]⟩)
          clear HS6 HSE HGE HSS e0 e1 e2 e3 q0 q1 q2 s0 p0 p1 p2
          refine wp_region_noPanic ?_
          refine wp_region_held_drew (S := (fun w' => w'.cell? ⟨wr.heap.size, 0, none⟩ = some (.string x.key) ∧ w'.cell? ⟨wr.heap.size, 1, none⟩ = some (.string x.val))) (by kernel_rfl) (by (first | exact HS7.out _ HU3.out | exact HS7.out _ ((Below.heap_setCell w3 ⟨sb, 8, none⟩ _ _ hne).trans HU3.out) | assumption)) (fun hHeld => ?_)
          refine wpAnyH_take (i := 0) (oi := { dst := Option.some 49, op := Op.move (Operand.tmp 0), type := 53, pos := _, after := #[], guard := Option.none }) (v := ?_) rfl (by kernel_rfl) (by kernel_rfl) (by kernel_rfl) (fun _ _ _ h => h) (Or.inl ⟨by rfl, ?_⟩) (by assumption) ?_
          rotate_left
          · (intro wS hSw; (try dsimp only at hSw); go_simp; try with_reducible rfl)
          try simp only [Act.put, List.setIfInBounds_toArray, List.set_cons_zero, List.set_cons_succ]
          refine wpAnyH_take (i := 1) (oi := { dst := Option.some 50, op := Op.nilCheck (Operand.tmp 49), type := 0, pos := _, after := #[{ on := 0, ground := Ground.data }], guard := Option.none }) (v := ?_) rfl (by kernel_rfl) (by kernel_rfl) (by kernel_rfl) (fun _ _ _ h => h) (Or.inl ⟨by rfl, ?_⟩) (by assumption) ?_
          rotate_left
          · (intro wS hSw; (try dsimp only at hSw); go_simp; try with_reducible rfl)
          try simp only [Act.put, List.setIfInBounds_toArray, List.set_cons_zero, List.set_cons_succ]
          refine wpAnyH_take (i := 2) (oi := { dst := Option.some 51, op := Op.fieldAddr 106 (Operand.tmp 50) 4, type := 0, pos := _, after := #[{ on := 1, ground := Ground.data }], guard := Option.none }) (v := ?_) rfl (by kernel_rfl) (by kernel_rfl) (by kernel_rfl) (fun _ _ _ h => h) (Or.inl ⟨by rfl, ?_⟩) (by assumption) ?_
          rotate_left
          · (intro wS hSw; (try dsimp only at hSw); go_simp; try with_reducible rfl)
          try simp only [Act.put, List.setIfInBounds_toArray, List.set_cons_zero, List.set_cons_succ]
          refine wpAnyH_take (i := 4) (oi := { dst := Option.some 53, op := Op.fieldAddr 99 (Operand.tmp 5) 0, type := 0, pos := _, after := #[], guard := Option.none }) (v := ?_) rfl (by kernel_rfl) (by kernel_rfl) (by kernel_rfl) (fun _ _ _ h => h) (Or.inl ⟨by rfl, ?_⟩) (by assumption) ?_
          rotate_left
          · (intro wS hSw; (try dsimp only at hSw); go_simp; try with_reducible rfl)
          try simp only [Act.put, List.setIfInBounds_toArray, List.set_cons_zero, List.set_cons_succ]
          refine wpAnyH_take (i := 5) (oi := { dst := Option.some 54, op := Op.load 9 (Operand.tmp 53), type := 9, pos := _, after := #[{ on := 4, ground := Ground.data }], guard := Option.none }) (v := ?_) rfl (by kernel_rfl) (by kernel_rfl) (by kernel_rfl) (fun _ _ _ h => h) (Or.inl ⟨by rfl, ?_⟩) (by assumption) ?_
          rotate_left
          · (intro wS hSw; (try dsimp only at hSw); go_simp; try with_reducible rfl)
          try simp only [Act.put, List.setIfInBounds_toArray, List.set_cons_zero, List.set_cons_succ]
          refine wpAnyH_take (i := 6) (oi := { dst := Option.some 55, op := Op.call { callee := Callee.builtin Builtin.len, args := #[Operand.tmp 54], argTypes := #[9] }, type := 3, pos := _, after := #[{ on := 5, ground := Ground.data }], guard := Option.none }) (v := ?_) rfl (by kernel_rfl) (by kernel_rfl) (by kernel_rfl) (fun _ _ _ h => h) (Or.inl ⟨by rfl, ?_⟩) (by assumption) ?_
          rotate_left
          · (intro wS hSw; (try dsimp only at hSw); go_simp; try with_reducible rfl)
          try simp only [Act.put, List.setIfInBounds_toArray, List.set_cons_zero, List.set_cons_succ]
          refine wpAnyH_take (i := 7) (oi := { dst := Option.some 56, op := Op.fieldAddr 99 (Operand.tmp 5) 1, type := 0, pos := _, after := #[], guard := Option.none }) (v := ?_) rfl (by kernel_rfl) (by kernel_rfl) (by kernel_rfl) (fun _ _ _ h => h) (Or.inl ⟨by rfl, ?_⟩) (by assumption) ?_
          rotate_left
          · (intro wS hSw; (try dsimp only at hSw); go_simp; try with_reducible rfl)
          try simp only [Act.put, List.setIfInBounds_toArray, List.set_cons_zero, List.set_cons_succ]
          refine wpAnyH_take (i := 8) (oi := { dst := Option.some 57, op := Op.load 9 (Operand.tmp 56), type := 9, pos := _, after := #[{ on := 7, ground := Ground.data }], guard := Option.none }) (v := ?_) rfl (by kernel_rfl) (by kernel_rfl) (by kernel_rfl) (fun _ _ _ h => h) (Or.inl ⟨by rfl, ?_⟩) (by assumption) ?_
          rotate_left
          · (intro wS hSw; (try dsimp only at hSw); go_simp; try with_reducible rfl)
          try simp only [Act.put, List.setIfInBounds_toArray, List.set_cons_zero, List.set_cons_succ]
          refine wpAnyH_take (i := 9) (oi := { dst := Option.some 58, op := Op.call { callee := Callee.builtin Builtin.len, args := #[Operand.tmp 57], argTypes := #[9] }, type := 3, pos := _, after := #[{ on := 8, ground := Ground.data }], guard := Option.none }) (v := ?_) rfl (by kernel_rfl) (by kernel_rfl) (by kernel_rfl) (fun _ _ _ h => h) (Or.inl ⟨by rfl, ?_⟩) (by assumption) ?_
          rotate_left
          · (intro wS hSw; (try dsimp only at hSw); go_simp; try with_reducible rfl)
          try simp only [Act.put, List.setIfInBounds_toArray, List.set_cons_zero, List.set_cons_succ]
          refine wpAnyH_take (i := 10) (oi := { dst := Option.some 59, op := Op.binOp BinOp.add 3 (Operand.tmp 55) (Operand.tmp 58) 3, type := 3, pos := _, after := #[{ on := 6, ground := Ground.data }, { on := 9, ground := Ground.data }], guard := Option.none }) (v := ?_) rfl (by kernel_rfl) (by kernel_rfl) (by kernel_rfl) (fun _ _ _ h => h) (Or.inl ⟨by rfl, ?_⟩) (by assumption) ?_
          rotate_left
          · (intro wS hSw; (try dsimp only at hSw); go_simp; try with_reducible rfl)
          try simp only [Act.put, List.setIfInBounds_toArray, List.set_cons_zero, List.set_cons_succ]
          refine wpAnyH_ready (rs := [3]) (by kernel_rfl) (by simp) ?_
          refine AllReadyH.cons (o := { dst := Option.some 52, op := Op.load 3 (Operand.tmp 51), type := 3, pos := _, after := #[{ on := 2, ground := Ground.data }], guard := Option.none }) rfl (fun K hK => ?_) ?_
          · go_simp
            refine hK.out _ _ (by (first | exact HS7.out _ HU3.out | exact HS7.out _ ((Below.heap_setCell w3 ⟨sb, 8, none⟩ _ _ hne).trans HU3.out) | assumption)) (fun hHeld => ?_)
            clear hK K
            try simp only [Act.put, List.setIfInBounds_toArray, List.set_cons_zero, List.set_cons_succ]
            refine wpAnyH_take (i := 11) (oi := { dst := Option.some 60, op := Op.binOp BinOp.add 3 (Operand.tmp 52) (Operand.tmp 59) 3, type := 3, pos := _, after := #[{ on := 3, ground := Ground.data }, { on := 10, ground := Ground.data }], guard := Option.none }) (v := ?_) rfl (by kernel_rfl) (by kernel_rfl) (by kernel_rfl) (fun _ _ _ h => h) (Or.inl ⟨by rfl, ?_⟩) (by assumption) ?_
            rotate_left
            · (intro wS hSw; (try dsimp only at hSw); go_simp; try with_reducible rfl)
            try simp only [Act.put, List.setIfInBounds_toArray, List.set_cons_zero, List.set_cons_succ]
            refine wpAnyH_take (i := 12) (oi := { dst := Option.some 61, op := Op.nilCheck (Operand.tmp 49), type := 0, pos := _, after := #[{ on := 0, ground := Ground.data }, { on := 0, ground := Ground.phase }, { on := 1, ground := Ground.phase }, { on := 2, ground := Ground.phase }, { on := 3, ground := Ground.phase }, { on := 4, ground := Ground.phase }, { on := 5, ground := Ground.phase }, { on := 6, ground := Ground.phase }, { on := 7, ground := Ground.phase }, { on := 8, ground := Ground.phase }, { on := 9, ground := Ground.phase }, { on := 10, ground := Ground.phase }, { on := 11, ground := Ground.phase }], guard := Option.none }) (v := ?_) rfl (by kernel_rfl) (by kernel_rfl) (by kernel_rfl) (fun _ _ _ h => h) (Or.inl ⟨by rfl, ?_⟩) (by assumption) ?_
            rotate_left
            · (intro wS hSw; (try dsimp only at hSw); go_simp; try with_reducible rfl)
            try simp only [Act.put, List.setIfInBounds_toArray, List.set_cons_zero, List.set_cons_succ]
            refine wpAnyH_take (i := 13) (oi := { dst := Option.some 62, op := Op.fieldAddr 106 (Operand.tmp 61) 4, type := 0, pos := _, after := #[{ on := 12, ground := Ground.data }, { on := 0, ground := Ground.phase }, { on := 1, ground := Ground.phase }, { on := 2, ground := Ground.phase }, { on := 3, ground := Ground.phase }, { on := 4, ground := Ground.phase }, { on := 5, ground := Ground.phase }, { on := 6, ground := Ground.phase }, { on := 7, ground := Ground.phase }, { on := 8, ground := Ground.phase }, { on := 9, ground := Ground.phase }, { on := 10, ground := Ground.phase }, { on := 11, ground := Ground.phase }], guard := Option.none }) (v := ?_) rfl (by kernel_rfl) (by kernel_rfl) (by kernel_rfl) (fun _ _ _ h => h) (Or.inl ⟨by rfl, ?_⟩) (by assumption) ?_
            rotate_left
            · (intro wS hSw; (try dsimp only at hSw); go_simp; try with_reducible rfl)
            try simp only [Act.put, List.setIfInBounds_toArray, List.set_cons_zero, List.set_cons_succ]
            refine wpAnyH_ready (rs := [14]) (by kernel_rfl) (by simp) ?_
            refine AllReadyH.cons (o := { dst := Option.none, op := Op.store 3 (Operand.tmp 62) (Operand.tmp 60), type := 0, pos := _, after := #[{ on := 13, ground := Ground.data }, { on := 11, ground := Ground.data }, { on := 0, ground := Ground.phase }, { on := 1, ground := Ground.phase }, { on := 2, ground := Ground.phase }, { on := 3, ground := Ground.phase }, { on := 4, ground := Ground.phase }, { on := 5, ground := Ground.phase }, { on := 6, ground := Ground.phase }, { on := 7, ground := Ground.phase }, { on := 8, ground := Ground.phase }, { on := 9, ground := Ground.phase }, { on := 10, ground := Ground.phase }, { on := 11, ground := Ground.phase }], guard := Option.none }) rfl (fun K hK => ?_) ?_
            · go_simp
              refine hK.out _ _ (by (first | exact HS7.out _ HU3.out | exact HS7.out _ ((Below.heap_setCell w3 ⟨sb, 8, none⟩ _ _ hne).trans HU3.out) | assumption)) (fun hHeld => ?_)
              clear hK K
              try simp only [Act.put, List.setIfInBounds_toArray, List.set_cons_zero, List.set_cons_succ]
              refine wpAnyH_done (by kernel_rfl) ?_ _
              refine NoPanic.normal ?_
              go_wp2_with fail
              obtain ⟨u3, hm3, ho3, hb3⟩ := HSET.out
              have hks : Kp B tsM Z.drew w3 := .of_but hb3 (fun k hk => by
                rcases List.mem_cons.1 hk with rfl | hk
                · exact ⟨hmb, _, _, _, HMZ.out.blk, by decide⟩
                · have hk' : u.ownBlock = some k := by simpa using hk
                  obtain ⟨cs, e2⟩ := own_block HOZ.out hk'
                  exact ⟨(HOZ.out.lt k hk').1, cs, _, _, e2, by decide⟩)
              have hkp : Kp B tsM w w3 := HKZ.out.trans ⟨hks.os, hks.tape, hks.output, hks.size, hks.blk⟩
              refine ⟨⟨i + 1, u3, hlt, by go_num, ?_, ?_, ?_⟩, by simp [intOf]; omega⟩
              · rw [HS.out, hNl]; split <;> omega
              · rw [HS.out, HSUM.out]; omega
              · rw [HS.out]
                refine ⟨?_, ⟨?_⟩, ?_, putL_up x HI.out.up, (hkp.setCell HT3.out (by decide) hsb _ _).drew⟩
                · unfold StB
                  rw [HSUM.out, hse]
                  exact heap_setCell_same _ _ _ _ _ _ HT3.out
                · exact (Below.heap_setCell w3 ⟨sb, 8, none⟩ _ mb (fun e => hm3.far HT3.out (by decide) e.symm)).trans hm3.blk
                · refine own_keep ho3 (fun g cs _ e => (Below.heap_setCell w3 ⟨sb, 8, none⟩ _ g (fun e2 => ?_)).trans e)
                  have e3 : g = sb := e2
                  rw [e3] at e
                  have := e.symm.trans HT3.out
                  simp [stC] at this
            exact AllReadyH.nil
          exact AllReadyH.nil
      | some y =>
        rw [hget] at HGE
        obtain ⟨T, hT⟩ : ∃ T, sumE N = T + szE y := ⟨sumE N - szE y, by have := sumE_putL_some x y HI.out.up hget; have := sumE_mem (getL_mem hget).1; omega⟩
        have HSUM := Lib.hid (show sumE (putL N x) = T + szE x by have := sumE_putL_some x y HI.out.up hget; omega)
        have hTb : T ≤ sumE M + sumE (L.take i) := by omega
        have hye : szE y = y.key.size + y.val.size := rfl
        have g5 : IntKind.i64.wrap ((y.key.size : Int) + (y.val.size : Int)) = (y.key.size : Int) + (y.val.size : Int) := by rw [IntKind.wrap_i64]; omega
        have g6 : IntKind.i64.wrap ((sumE N : Int) - ((y.key.size : Int) + (y.val.size : Int))) = (T : Int) := by rw [IntKind.wrap_i64]; omega
        have HT := Lib.hid hT
        clear hT
        unfold getV entv at HGE
        go_region_held3 (fun w' => w'.cell? ⟨sb, 0, none⟩ = some (.pointer (some ⟨mb, 0, none⟩)) ∧ w'.cell? ⟨wr.heap.size, 0, none⟩ = some (.string x.key))
          (first | exact HSS.out _ X0.out | exact HSS.out _ X1.out | exact HSS.out _ XA.out | exact HSS.out _ (XA.out.alloc XA.out.size _) | exact HSS.out _ ((((XA.out.alloc XA.out.size _).setCell XA.out.size _).setCell XA.out.size _).setCell XA.out.size _) | exact HSS.out _ XB.out | exact HSS.out _ (((XB.out.setCell (Nat.le_refl _) _).setCell (Nat.le_refl _) _).setCell (Nat.le_refl _) _) | assumption)
          (first
            | (go_at_call 106; ((with_reducible refine (HGE.out _ X0.out).mono ?_); rintro e wA ⟨rfl, hbA⟩; have XA := Lib.hid (X0.out.trans (hbA.mono X0.out.size)); clear hbA))
            | (go_at_call 106; ((with_reducible refine (HGE.out _ X1.out).mono ?_); rintro e wB ⟨rfl, hbB⟩; have XB := Lib.hid (X1.out.trans (hbB.mono X1.out.size)); have yB := (hbB.block W.heap.size (by simp)).trans (heap_alloc_new W _); have YB := Lib.hid yB; have y0 : wB.cell? ⟨W.heap.size, 0, none⟩ = some (.string ⟨#[]⟩) := (by simp [World.cell?, yB]); have y1 : wB.cell? ⟨W.heap.size, 1, none⟩ = some (.string ⟨#[]⟩) := (by simp [World.cell?, yB]); have y2 : wB.cell? ⟨W.heap.size, 2, none⟩ = some (.bool false) := (by simp [World.cell?, yB]); have z0 : wB.frozen? ⟨W.heap.size, 0, none⟩ = false := (by simp [World.frozen?, yB]); have z1 : wB.frozen? ⟨W.heap.size, 1, none⟩ = false := (by simp [World.frozen?, yB]); have z2 : wB.frozen? ⟨W.heap.size, 2, none⟩ = false := (by simp [World.frozen?, yB]); clear hbB yB)))
        all_goals
          go_wp2_with fail
          first
            | (obtain ⟨Y, hY⟩ : ∃ Z, Z = wA.alloc (.cells #[.string y.key, .string y.val, .bool y.gone] 99 (0, 0)) := ⟨_, rfl⟩; have XY := Lib.hid (show Below W.heap.size W Y by rw [hY]; exact XA.out.alloc XA.out.size _); have hoy : Y.heap[wA.heap.size]? = some (.cells #[.string y.key, .string y.val, .bool y.gone] 99 (0, 0)) := (by rw [hY]; exact heap_alloc_new wA _); rw [← hY]; clear hY; generalize wA.heap.size = ob at *)
            | (obtain ⟨Y, hY⟩ : ∃ Z, Z = ((wB.setCell ⟨W.heap.size, 0, none⟩ (.string y.key)).setCell ⟨W.heap.size, 1, none⟩ (.string y.val)).setCell ⟨W.heap.size, 2, none⟩ (.bool y.gone) := ⟨_, rfl⟩; have XY := Lib.hid (show Below W.heap.size W Y by rw [hY]; exact ((XB.out.setCell (Nat.le_refl _) _).setCell (Nat.le_refl _) _).setCell (Nat.le_refl _) _); have hoy : Y.heap[W.heap.size]? = some (.cells #[.string y.key, .string y.val, .bool y.gone] 99 (0, 0)) := (by rw [hY]; exact heap_setCell_same _ _ _ _ _ _ (heap_setCell_same _ _ _ _ _ _ (heap_setCell_same _ _ _ _ _ _ YB.out))); rw [← hY]; clear hY y0 y1 y2 z0 z1 z2 YB; obtain ⟨ob, hob⟩ : ∃ ob, ob = W.heap.size := ⟨_, rfl⟩; have HOB := Lib.hid hob; rw [← hob] at hoy ⊢; clear hob)
          have hstY : StB Y sb mb db lb nb (sumE N) logged dead := (XY.out.block sb (Array.getElem?_eq_some_iff.1 HST.out).1).trans HST.out
          have y8 : Y.cell? ⟨sb, 8, none⟩ = some (.int .i64 (sumE N : Nat)) := hstY.cell 8
          have fy8 : Y.frozen? ⟨sb, 8, none⟩ = false := hstY.fro 8
          have hne5 : ob ≠ sb := by
            intro e
            rw [e] at hoy
            have := hoy.symm.trans hstY
            simp [stC] at this
          have HSY := Lib.hid hstY
          have HOY := Lib.hid hoy
          have HS5 := Lib.hid (show ∀ W' : World, W'.heap[ob]? = some (.cells #[.string y.key, .string y.val, .bool y.gone] 99 (0, 0)) → (W'.cell? ⟨ob, 0, none⟩ = some (.string y.key) ∧ W'.cell? ⟨ob, 1, none⟩ = some (.string y.val)) from fun W' h2 => ⟨by simp [World.cell?, h2], by simp [World.cell?, h2]⟩)
          clear hstY hoy
          refine wp_region_noPanic ?_
          refine wp_region_held_drew (S := (fun w' => w'.cell? ⟨ob, 0, none⟩ = some (.string y.key) ∧ w'.cell? ⟨ob, 1, none⟩ = some (.string y.val))) (by kernel_rfl) (by (first | exact HS5.out _ HOY.out | exact HS5.out _ ((Below.heap_setCell Y ⟨sb, 8, none⟩ _ _ hne5).trans HOY.out) | assumption)) (fun hHeld => ?_)
          refine wpAnyH_take (i := 0) (oi := { dst := Option.some 26, op := Op.move (Operand.tmp 0), type := 53, pos := _, after := #[], guard := Option.none }) (v := ?_) rfl (by kernel_rfl) (by kernel_rfl) (by kernel_rfl) (fun _ _ _ h => h) (Or.inl ⟨by rfl, ?_⟩) (by assumption) ?_
          rotate_left
          · (intro wS hSw; (try dsimp only at hSw); go_simp; try with_reducible rfl)
          try simp only [Act.put, List.setIfInBounds_toArray, List.set_cons_zero, List.set_cons_succ]
          refine wpAnyH_take (i := 1) (oi := { dst := Option.some 27, op := Op.nilCheck (Operand.tmp 26), type := 0, pos := _, after := #[{ on := 0, ground := Ground.data }], guard := Option.none }) (v := ?_) rfl (by kernel_rfl) (by kernel_rfl) (by kernel_rfl) (fun _ _ _ h => h) (Or.inl ⟨by rfl, ?_⟩) (by assumption) ?_
          rotate_left
          · (intro wS hSw; (try dsimp only at hSw); go_simp; try with_reducible rfl)
          try simp only [Act.put, List.setIfInBounds_toArray, List.set_cons_zero, List.set_cons_succ]
          refine wpAnyH_take (i := 2) (oi := { dst := Option.some 28, op := Op.fieldAddr 106 (Operand.tmp 27) 4, type := 0, pos := _, after := #[{ on := 1, ground := Ground.data }], guard := Option.none }) (v := ?_) rfl (by kernel_rfl) (by kernel_rfl) (by kernel_rfl) (fun _ _ _ h => h) (Or.inl ⟨by rfl, ?_⟩) (by assumption) ?_
          rotate_left
          · (intro wS hSw; (try dsimp only at hSw); go_simp; try with_reducible rfl)
          try simp only [Act.put, List.setIfInBounds_toArray, List.set_cons_zero, List.set_cons_succ]
          refine wpAnyH_take (i := 4) (oi := { dst := Option.some 30, op := Op.fieldAddr 99 (Operand.tmp 6) 0, type := 0, pos := _, after := #[], guard := Option.none }) (v := ?_) rfl (by kernel_rfl) (by kernel_rfl) (by kernel_rfl) (fun _ _ _ h => h) (Or.inl ⟨by rfl, ?_⟩) (by assumption) ?_
          rotate_left
          · (intro wS hSw; (try dsimp only at hSw); go_simp; try with_reducible rfl)
          try simp only [Act.put, List.setIfInBounds_toArray, List.set_cons_zero, List.set_cons_succ]
          refine wpAnyH_take (i := 5) (oi := { dst := Option.some 31, op := Op.load 9 (Operand.tmp 30), type := 9, pos := _, after := #[{ on := 4, ground := Ground.data }], guard := Option.none }) (v := ?_) rfl (by kernel_rfl) (by kernel_rfl) (by kernel_rfl) (fun _ _ _ h => h) (Or.inl ⟨by rfl, ?_⟩) (by assumption) ?_
          rotate_left
          · (intro wS hSw; (try dsimp only at hSw); go_simp; try with_reducible rfl)
          try simp only [Act.put, List.setIfInBounds_toArray, List.set_cons_zero, List.set_cons_succ]
          refine wpAnyH_take (i := 6) (oi := { dst := Option.some 32, op := Op.call { callee := Callee.builtin Builtin.len, args := #[Operand.tmp 31], argTypes := #[9] }, type := 3, pos := _, after := #[{ on := 5, ground := Ground.data }], guard := Option.none }) (v := ?_) rfl (by kernel_rfl) (by kernel_rfl) (by kernel_rfl) (fun _ _ _ h => h) (Or.inl ⟨by rfl, ?_⟩) (by assumption) ?_
          rotate_left
          · (intro wS hSw; (try dsimp only at hSw); go_simp; try with_reducible rfl)
          try simp only [Act.put, List.setIfInBounds_toArray, List.set_cons_zero, List.set_cons_succ]
          refine wpAnyH_take (i := 7) (oi := { dst := Option.some 33, op := Op.fieldAddr 99 (Operand.tmp 6) 1, type := 0, pos := _, after := #[], guard := Option.none }) (v := ?_) rfl (by kernel_rfl) (by kernel_rfl) (by kernel_rfl) (fun _ _ _ h => h) (Or.inl ⟨by rfl, ?_⟩) (by assumption) ?_
          rotate_left
          · (intro wS hSw; (try dsimp only at hSw); go_simp; try with_reducible rfl)
          try simp only [Act.put, List.setIfInBounds_toArray, List.set_cons_zero, List.set_cons_succ]
          refine wpAnyH_take (i := 8) (oi := { dst := Option.some 34, op := Op.load 9 (Operand.tmp 33), type := 9, pos := _, after := #[{ on := 7, ground := Ground.data }], guard := Option.none }) (v := ?_) rfl (by kernel_rfl) (by kernel_rfl) (by kernel_rfl) (fun _ _ _ h => h) (Or.inl ⟨by rfl, ?_⟩) (by assumption) ?_
          rotate_left
          · (intro wS hSw; (try dsimp only at hSw); go_simp; try with_reducible rfl)
          try simp only [Act.put, List.setIfInBounds_toArray, List.set_cons_zero, List.set_cons_succ]
          refine wpAnyH_take (i := 9) (oi := { dst := Option.some 35, op := Op.call { callee := Callee.builtin Builtin.len, args := #[Operand.tmp 34], argTypes := #[9] }, type := 3, pos := _, after := #[{ on := 8, ground := Ground.data }], guard := Option.none }) (v := ?_) rfl (by kernel_rfl) (by kernel_rfl) (by kernel_rfl) (fun _ _ _ h => h) (Or.inl ⟨by rfl, ?_⟩) (by assumption) ?_
          rotate_left
          · (intro wS hSw; (try dsimp only at hSw); go_simp; try with_reducible rfl)
          try simp only [Act.put, List.setIfInBounds_toArray, List.set_cons_zero, List.set_cons_succ]
          refine wpAnyH_take (i := 10) (oi := { dst := Option.some 36, op := Op.binOp BinOp.add 3 (Operand.tmp 32) (Operand.tmp 35) 3, type := 3, pos := _, after := #[{ on := 6, ground := Ground.data }, { on := 9, ground := Ground.data }], guard := Option.none }) (v := ?_) rfl (by kernel_rfl) (by kernel_rfl) (by kernel_rfl) (fun _ _ _ h => h) (Or.inl ⟨by rfl, ?_⟩) (by assumption) ?_
          rotate_left
          · (intro wS hSw; (try dsimp only at hSw); go_simp; try with_reducible rfl)
          try simp only [Act.put, List.setIfInBounds_toArray, List.set_cons_zero, List.set_cons_succ]
          refine wpAnyH_ready (rs := [3]) (by kernel_rfl) (by simp) ?_
          refine AllReadyH.cons (o := { dst := Option.some 29, op := Op.load 3 (Operand.tmp 28), type := 3, pos := _, after := #[{ on := 2, ground := Ground.data }], guard := Option.none }) rfl (fun K hK => ?_) ?_
          · go_simp
            refine hK.out _ _ (by (first | exact HS5.out _ HOY.out | exact HS5.out _ ((Below.heap_setCell Y ⟨sb, 8, none⟩ _ _ hne5).trans HOY.out) | assumption)) (fun hHeld => ?_)
            clear hK K
            try simp only [Act.put, List.setIfInBounds_toArray, List.set_cons_zero, List.set_cons_succ]
            refine wpAnyH_take (i := 11) (oi := { dst := Option.some 37, op := Op.binOp BinOp.sub 3 (Operand.tmp 29) (Operand.tmp 36) 3, type := 3, pos := _, after := #[{ on := 3, ground := Ground.data }, { on := 10, ground := Ground.data }], guard := Option.none }) (v := ?_) rfl (by kernel_rfl) (by kernel_rfl) (by kernel_rfl) (fun _ _ _ h => h) (Or.inl ⟨by rfl, ?_⟩) (by assumption) ?_
            rotate_left
            · (intro wS hSw; (try dsimp only at hSw); go_simp; try with_reducible rfl)
            try simp only [Act.put, List.setIfInBounds_toArray, List.set_cons_zero, List.set_cons_succ]
            refine wpAnyH_take (i := 12) (oi := { dst := Option.some 38, op := Op.nilCheck (Operand.tmp 26), type := 0, pos := _, after := #[{ on := 0, ground := Ground.data }, { on := 0, ground := Ground.phase }, { on := 1, ground := Ground.phase }, { on := 2, ground := Ground.phase }, { on := 3, ground := Ground.phase }, { on := 4, ground := Ground.phase }, { on := 5, ground := Ground.phase }, { on := 6, ground := Ground.phase }, { on := 7, ground := Ground.phase }, { on := 8, ground := Ground.phase }, { on := 9, ground := Ground.phase }, { on := 10, ground := Ground.phase }, { on := 11, ground := Ground.phase }], guard := Option.none }) (v := ?_) rfl (by kernel_rfl) (by kernel_rfl) (by kernel_rfl) (fun _ _ _ h => h) (Or.inl ⟨by rfl, ?_⟩) (by assumption) ?_
            rotate_left
            · (intro wS hSw; (try dsimp only at hSw); go_simp; try with_reducible rfl)
            try simp only [Act.put, List.setIfInBounds_toArray, List.set_cons_zero, List.set_cons_succ]
            refine wpAnyH_take (i := 13) (oi := { dst := Option.some 39, op := Op.fieldAddr 106 (Operand.tmp 38) 4, type := 0, pos := _, after := #[{ on := 12, ground := Ground.data }, { on := 0, ground := Ground.phase }, { on := 1, ground := Ground.phase }, { on := 2, ground := Ground.phase }, { on := 3, ground := Ground.phase }, { on := 4, ground := Ground.phase }, { on := 5, ground := Ground.phase }, { on := 6, ground := Ground.phase }, { on := 7, ground := Ground.phase }, { on := 8, ground := Ground.phase }, { on := 9, ground := Ground.phase }, { on := 10, ground := Ground.phase }, { on := 11, ground := Ground.phase }], guard := Option.none }) (v := ?_) rfl (by kernel_rfl) (by kernel_rfl) (by kernel_rfl) (fun _ _ _ h => h) (Or.inl ⟨by rfl, ?_⟩) (by assumption) ?_
            rotate_left
            · (intro wS hSw; (try dsimp only at hSw); go_simp; try with_reducible rfl)
            try simp only [Act.put, List.setIfInBounds_toArray, List.set_cons_zero, List.set_cons_succ]
            refine wpAnyH_ready (rs := [14]) (by kernel_rfl) (by simp) ?_
            refine AllReadyH.cons (o := { dst := Option.none, op := Op.store 3 (Operand.tmp 39) (Operand.tmp 37), type := 0, pos := _, after := #[{ on := 13, ground := Ground.data }, { on := 11, ground := Ground.data }, { on := 0, ground := Ground.phase }, { on := 1, ground := Ground.phase }, { on := 2, ground := Ground.phase }, { on := 3, ground := Ground.phase }, { on := 4, ground := Ground.phase }, { on := 5, ground := Ground.phase }, { on := 6, ground := Ground.phase }, { on := 7, ground := Ground.phase }, { on := 8, ground := Ground.phase }, { on := 9, ground := Ground.phase }, { on := 10, ground := Ground.phase }, { on := 11, ground := Ground.phase }], guard := Option.none }) rfl (fun K hK => ?_) ?_
            · go_simp
              refine hK.out _ _ (by (first | exact HS5.out _ HOY.out | exact HS5.out _ ((Below.heap_setCell Y ⟨sb, 8, none⟩ _ _ hne5).trans HOY.out) | assumption)) (fun hHeld => ?_)
              clear hK K
              try simp only [Act.put, List.setIfInBounds_toArray, List.set_cons_zero, List.set_cons_succ]
              refine wpAnyH_done (by kernel_rfl) ?_ _
              refine NoPanic.normal ?_
              go_wp2_with fail
              obtain ⟨Z, hZ⟩ : ∃ Z, Z = (Y.setCell ⟨sb, 8, none⟩ (.int .i64 (T : Nat))).drew := ⟨_, rfl⟩
              have hmY : MemAt Y mb u false := ⟨(XY.out.block mb HMM.out.lt).trans HMM.out.blk⟩
              have hoY : OwnI Y B u N := own_below HOW.out XY.out
              have hqY := (XY.out.block wr.heap.size (Array.getElem?_eq_some_iff.1 HQ.out).1).trans HQ.out
              have hk5 : Kp B tsM Y Z := by rw [hZ]; exact ((Kp.refl B tsM Y).setCell HSY.out (by decide) hsb _ _).drew
              have hkZ : Kp B tsM w Z := (HKW.out.trans (.of_below XY.out)).trans hk5
              have hBZ : B ≤ Z.heap.size := by have h1 := hkZ.size; omega
              have hother : ∀ k, k ≠ sb → Z.heap[k]? = Y.heap[k]? := fun k hk => by rw [hZ]; exact Below.heap_setCell Y ⟨sb, 8, none⟩ _ k hk
              have hmZ : MemAt Z mb u false := ⟨(hother mb (fun e => hmY.far HSY.out (by decide) e.symm)).trans hmY.blk⟩
              have hoZ : OwnI Z B u N := own_keep hoY (fun g cs _ e => (hother g (fun e2 => by
                rw [e2] at e
                have := e.symm.trans HSY.out
                simp [stC] at this)).trans e)
              have hstZ : StB Z sb mb db lb nb T logged dead := by rw [hZ]; exact heap_setCell_same _ _ _ _ _ _ HSY.out
              have hqZ := (hother wr.heap.size (fun e2 => by
                have h9 := hqY
                rw [e2] at h9
                have := h9.symm.trans HSY.out
                simp [stC] at this)).trans hqY
              rw [← hZ]
              clear hZ hmY hoY hqY hk5 hother
              have HSE := Lib.hid (set_any Z.drew B mb u N x (by show B ≤ Z.heap.size; exact hBZ) ⟨hmZ.blk⟩ (own_keep hoZ (fun _ _ _ e => e)) HI.out.up (by omega))
              have e0 : Z.cell? ⟨sb, 0, none⟩ = some (.pointer (some ⟨mb, 0, none⟩)) := hstZ.cell 0
              have e1 : Z.cell? ⟨wr.heap.size, 0, none⟩ = some (.string x.key) := by simp [World.cell?, hqZ]
              have e2 : Z.cell? ⟨wr.heap.size, 1, none⟩ = some (.string x.val) := by simp [World.cell?, hqZ]
              have e3 : Z.cell? ⟨wr.heap.size, 2, none⟩ = some (.bool x.gone) := by simp [World.cell?, hqZ]
              have HSZ := Lib.hid hstZ
              have HQZ := Lib.hid hqZ
              have HMZ := Lib.hid hmZ
              have HOZ := Lib.hid hoZ
              have HKZ := Lib.hid hkZ
              clear hstZ hqZ hmZ hoZ hkZ hBZ
              unfold entv at HSE
              have HS6 := Lib.hid (show ∀ W' : World, StB W' sb mb db lb nb T logged dead → W'.heap[wr.heap.size]? = some (.cells #[.string x.key, .string x.val, .bool x.gone] 99 (0, 0)) → (W'.cell? ⟨sb, 0, none⟩ = some (.pointer (some ⟨mb, 0, none⟩)) ∧ W'.cell? ⟨wr.heap.size, 0, none⟩ = some (.string x.key) ∧ W'.cell? ⟨wr.heap.size, 1, none⟩ = some (.string x.val) ∧ W'.cell? ⟨wr.heap.size, 2, none⟩ = some (.bool x.gone)) from fun W' h1 h2 => ⟨h1.cell 0, by simp [World.cell?, h2], by simp [World.cell?, h2], by simp [World.cell?, h2]⟩)
              go_region_held3 (fun w' => w'.cell? ⟨sb, 0, none⟩ = some (.pointer (some ⟨mb, 0, none⟩)) ∧ w'.cell? ⟨wr.heap.size, 0, none⟩ = some (.string x.key) ∧ w'.cell? ⟨wr.heap.size, 1, none⟩ = some (.string x.val) ∧ w'.cell? ⟨wr.heap.size, 2, none⟩ = some (.bool x.gone))
                (first | exact HS6.out _ HSZ.out HQZ.out | exact HS6.out _ HT3.out HU3.out | assumption)
                (first
                  | (go_at_call 45; refine HSE.out.mono ?_; rintro e w3 ⟨rfl, hset⟩; have HSET := Lib.hid hset; have HT3 := Lib.hid (show StB w3 sb mb db lb nb T logged dead from SetR.far hset ⟨HMZ.out.blk⟩ (own_keep HOZ.out (fun _ _ _ e => e)) (w := Z.drew) HSZ.out (by decide) (by decide)); have HU3 := Lib.hid (SetR.far hset ⟨HMZ.out.blk⟩ (own_keep HOZ.out (fun _ _ _ e => e)) (w := Z.drew) HQZ.out (by decide) (by decide)); clear hset))
              go_wp2_with fail
              have t8 : w3.cell? ⟨sb, 8, none⟩ = some (.int .i64 (T : Nat)) := HT3.out.cell 8
              have f8 : w3.frozen? ⟨sb, 8, none⟩ = false := HT3.out.fro 8
              have hse : szE x = x.key.size + x.val.size := rfl
              have g3 : IntKind.i64.wrap ((x.key.size : Int) + (x.val.size : Int)) = (x.key.size : Int) + (x.val.size : Int) := by rw [IntKind.wrap_i64]; omega
              have g4 : IntKind.i64.wrap ((T : Int) + ((x.key.size : Int) + (x.val.size : Int))) = (T : Int) + ((x.key.size : Int) + (x.val.size : Int)) := by rw [IntKind.wrap_i64]; omega
              have hne : wr.heap.size ≠ sb := by
                intro e
                have h5 := HU3.out
                rw [e] at h5
                have := h5.symm.trans HT3.out
                simp [stC] at this
              have HS7 := Lib.hid (show ∀ W' : World, W'.heap[wr.heap.size]? = some (.cells #[.string x.key, .string x.val, .bool x.gone] 99 (0, 0)) → (W'.cell? ⟨wr.heap.size, 0, none⟩ = some (.string x.key) ∧ W'.cell? ⟨wr.heap.size, 1, none⟩ = some (.string x.val)) from fun W' h2 => ⟨by simp [World.cell?, h2], by simp [World.cell?, h2]⟩)
              clear HS6 HSE HGE HSS e0 e1 e2 e3 q0 q1 q2 s0 p0 p1 p2
              refine wp_region_noPanic ?_
              refine wp_region_held_drew (S := (fun w' => w'.cell? ⟨wr.heap.size, 0, none⟩ = some (.string x.key) ∧ w'.cell? ⟨wr.heap.size, 1, none⟩ = some (.string x.val))) (by kernel_rfl) (by (first | exact HS7.out _ HU3.out | exact HS7.out _ ((Below.heap_setCell w3 ⟨sb, 8, none⟩ _ _ hne).trans HU3.out) | assumption)) (fun hHeld => ?_)
              refine wpAnyH_take (i := 0) (oi := { dst := Option.some 49, op := Op.move (Operand.tmp 0), type := 53, pos := _, after := #[], guard := Option.none }) (v := ?_) rfl (by kernel_rfl) (by kernel_rfl) (by kernel_rfl) (fun _ _ _ h => h) (Or.inl ⟨by rfl, ?_⟩) (by assumption) ?_
              rotate_left
              · (intro wS hSw; (try dsimp only at hSw); go_simp; try with_reducible rfl)
              try simp only [Act.put, List.setIfInBounds_toArray, List.set_cons_zero, List.set_cons_succ]
              refine wpAnyH_take (i := 1) (oi := { dst := Option.some 50, op := Op.nilCheck (Operand.tmp 49), type := 0, pos := _, after := #[{ on := 0, ground := Ground.data }], guard := Option.none }) (v := ?_) rfl (by kernel_rfl) (by kernel_rfl) (by kernel_rfl) (fun _ _ _ h => h) (Or.inl ⟨by rfl, ?_⟩) (by assumption) ?_
              rotate_left
              · (intro wS hSw; (try dsimp only at hSw); go_simp; try with_reducible rfl)
              try simp only [Act.put, List.setIfInBounds_toArray, List.set_cons_zero, List.set_cons_succ]
              refine wpAnyH_take (i := 2) (oi := { dst := Option.some 51, op := Op.fieldAddr 106 (Operand.tmp 50) 4, type := 0, pos := _, after := #[{ on := 1, ground := Ground.data }], guard := Option.none }) (v := ?_) rfl (by kernel_rfl) (by kernel_rfl) (by kernel_rfl) (fun _ _ _ h => h) (Or.inl ⟨by rfl, ?_⟩) (by assumption) ?_
              rotate_left
              · (intro wS hSw; (try dsimp only at hSw); go_simp; try with_reducible rfl)
              try simp only [Act.put, List.setIfInBounds_toArray, List.set_cons_zero, List.set_cons_succ]
              refine wpAnyH_take (i := 4) (oi := { dst := Option.some 53, op := Op.fieldAddr 99 (Operand.tmp 5) 0, type := 0, pos := _, after := #[], guard := Option.none }) (v := ?_) rfl (by kernel_rfl) (by kernel_rfl) (by kernel_rfl) (fun _ _ _ h => h) (Or.inl ⟨by rfl, ?_⟩) (by assumption) ?_
              rotate_left
              · (intro wS hSw; (try dsimp only at hSw); go_simp; try with_reducible rfl)
              try simp only [Act.put, List.setIfInBounds_toArray, List.set_cons_zero, List.set_cons_succ]
              refine wpAnyH_take (i := 5) (oi := { dst := Option.some 54, op := Op.load 9 (Operand.tmp 53), type := 9, pos := _, after := #[{ on := 4, ground := Ground.data }], guard := Option.none }) (v := ?_) rfl (by kernel_rfl) (by kernel_rfl) (by kernel_rfl) (fun _ _ _ h => h) (Or.inl ⟨by rfl, ?_⟩) (by assumption) ?_
              rotate_left
              · (intro wS hSw; (try dsimp only at hSw); go_simp; try with_reducible rfl)
              try simp only [Act.put, List.setIfInBounds_toArray, List.set_cons_zero, List.set_cons_succ]
              refine wpAnyH_take (i := 6) (oi := { dst := Option.some 55, op := Op.call { callee := Callee.builtin Builtin.len, args := #[Operand.tmp 54], argTypes := #[9] }, type := 3, pos := _, after := #[{ on := 5, ground := Ground.data }], guard := Option.none }) (v := ?_) rfl (by kernel_rfl) (by kernel_rfl) (by kernel_rfl) (fun _ _ _ h => h) (Or.inl ⟨by rfl, ?_⟩) (by assumption) ?_
              rotate_left
              · (intro wS hSw; (try dsimp only at hSw); go_simp; try with_reducible rfl)
              try simp only [Act.put, List.setIfInBounds_toArray, List.set_cons_zero, List.set_cons_succ]
              refine wpAnyH_take (i := 7) (oi := { dst := Option.some 56, op := Op.fieldAddr 99 (Operand.tmp 5) 1, type := 0, pos := _, after := #[], guard := Option.none }) (v := ?_) rfl (by kernel_rfl) (by kernel_rfl) (by kernel_rfl) (fun _ _ _ h => h) (Or.inl ⟨by rfl, ?_⟩) (by assumption) ?_
              rotate_left
              · (intro wS hSw; (try dsimp only at hSw); go_simp; try with_reducible rfl)
              try simp only [Act.put, List.setIfInBounds_toArray, List.set_cons_zero, List.set_cons_succ]
              refine wpAnyH_take (i := 8) (oi := { dst := Option.some 57, op := Op.load 9 (Operand.tmp 56), type := 9, pos := _, after := #[{ on := 7, ground := Ground.data }], guard := Option.none }) (v := ?_) rfl (by kernel_rfl) (by kernel_rfl) (by kernel_rfl) (fun _ _ _ h => h) (Or.inl ⟨by rfl, ?_⟩) (by assumption) ?_
              rotate_left
              · (intro wS hSw; (try dsimp only at hSw); go_simp; try with_reducible rfl)
              try simp only [Act.put, List.setIfInBounds_toArray, List.set_cons_zero, List.set_cons_succ]
              refine wpAnyH_take (i := 9) (oi := { dst := Option.some 58, op := Op.call { callee := Callee.builtin Builtin.len, args := #[Operand.tmp 57], argTypes := #[9] }, type := 3, pos := _, after := #[{ on := 8, ground := Ground.data }], guard := Option.none }) (v := ?_) rfl (by kernel_rfl) (by kernel_rfl) (by kernel_rfl) (fun _ _ _ h => h) (Or.inl ⟨by rfl, ?_⟩) (by assumption) ?_
              rotate_left
              · (intro wS hSw; (try dsimp only at hSw); go_simp; try with_reducible rfl)
              try simp only [Act.put, List.setIfInBounds_toArray, List.set_cons_zero, List.set_cons_succ]
              refine wpAnyH_take (i := 10) (oi := { dst := Option.some 59, op := Op.binOp BinOp.add 3 (Operand.tmp 55) (Operand.tmp 58) 3, type := 3, pos := _, after := #[{ on := 6, ground := Ground.data }, { on := 9, ground := Ground.data }], guard := Option.none }) (v := ?_) rfl (by kernel_rfl) (by kernel_rfl) (by kernel_rfl) (fun _ _ _ h => h) (Or.inl ⟨by rfl, ?_⟩) (by assumption) ?_
              rotate_left
              · (intro wS hSw; (try dsimp only at hSw); go_simp; try with_reducible rfl)
              try simp only [Act.put, List.setIfInBounds_toArray, List.set_cons_zero, List.set_cons_succ]
              refine wpAnyH_ready (rs := [3]) (by kernel_rfl) (by simp) ?_
              refine AllReadyH.cons (o := { dst := Option.some 52, op := Op.load 3 (Operand.tmp 51), type := 3, pos := _, after := #[{ on := 2, ground := Ground.data }], guard := Option.none }) rfl (fun K hK => ?_) ?_
              · go_simp
                refine hK.out _ _ (by (first | exact HS7.out _ HU3.out | exact HS7.out _ ((Below.heap_setCell w3 ⟨sb, 8, none⟩ _ _ hne).trans HU3.out) | assumption)) (fun hHeld => ?_)
                clear hK K
                try simp only [Act.put, List.setIfInBounds_toArray, List.set_cons_zero, List.set_cons_succ]
                refine wpAnyH_take (i := 11) (oi := { dst := Option.some 60, op := Op.binOp BinOp.add 3 (Operand.tmp 52) (Operand.tmp 59) 3, type := 3, pos := _, after := #[{ on := 3, ground := Ground.data }, { on := 10, ground := Ground.data }], guard := Option.none }) (v := ?_) rfl (by kernel_rfl) (by kernel_rfl) (by kernel_rfl) (fun _ _ _ h => h) (Or.inl ⟨by rfl, ?_⟩) (by assumption) ?_
                rotate_left
                · (intro wS hSw; (try dsimp only at hSw); go_simp; try with_reducible rfl)
                try simp only [Act.put, List.setIfInBounds_toArray, List.set_cons_zero, List.set_cons_succ]
                refine wpAnyH_take (i := 12) (oi := { dst := Option.some 61, op := Op.nilCheck (Operand.tmp 49), type := 0, pos := _, after := #[{ on := 0, ground := Ground.data }, { on := 0, ground := Ground.phase }, { on := 1, ground := Ground.phase }, { on := 2, ground := Ground.phase }, { on := 3, ground := Ground.phase }, { on := 4, ground := Ground.phase }, { on := 5, ground := Ground.phase }, { on := 6, ground := Ground.phase }, { on := 7, ground := Ground.phase }, { on := 8, ground := Ground.phase }, { on := 9, ground := Ground.phase }, { on := 10, ground := Ground.phase }, { on := 11, ground := Ground.phase }], guard := Option.none }) (v := ?_) rfl (by kernel_rfl) (by kernel_rfl) (by kernel_rfl) (fun _ _ _ h => h) (Or.inl ⟨by rfl, ?_⟩) (by assumption) ?_
                rotate_left
                · (intro wS hSw; (try dsimp only at hSw); go_simp; try with_reducible rfl)
                try simp only [Act.put, List.setIfInBounds_toArray, List.set_cons_zero, List.set_cons_succ]
                refine wpAnyH_take (i := 13) (oi := { dst := Option.some 62, op := Op.fieldAddr 106 (Operand.tmp 61) 4, type := 0, pos := _, after := #[{ on := 12, ground := Ground.data }, { on := 0, ground := Ground.phase }, { on := 1, ground := Ground.phase }, { on := 2, ground := Ground.phase }, { on := 3, ground := Ground.phase }, { on := 4, ground := Ground.phase }, { on := 5, ground := Ground.phase }, { on := 6, ground := Ground.phase }, { on := 7, ground := Ground.phase }, { on := 8, ground := Ground.phase }, { on := 9, ground := Ground.phase }, { on := 10, ground := Ground.phase }, { on := 11, ground := Ground.phase }], guard := Option.none }) (v := ?_) rfl (by kernel_rfl) (by kernel_rfl) (by kernel_rfl) (fun _ _ _ h => h) (Or.inl ⟨by rfl, ?_⟩) (by assumption) ?_
                rotate_left
                · (intro wS hSw; (try dsimp only at hSw); go_simp; try with_reducible rfl)
                try simp only [Act.put, List.setIfInBounds_toArray, List.set_cons_zero, List.set_cons_succ]
                refine wpAnyH_ready (rs := [14]) (by kernel_rfl) (by simp) ?_
                refine AllReadyH.cons (o := { dst := Option.none, op := Op.store 3 (Operand.tmp 62) (Operand.tmp 60), type := 0, pos := _, after := #[{ on := 13, ground := Ground.data }, { on := 11, ground := Ground.data }, { on := 0, ground := Ground.phase }, { on := 1, ground := Ground.phase }, { on := 2, ground := Ground.phase }, { on := 3, ground := Ground.phase }, { on := 4, ground := Ground.phase }, { on := 5, ground := Ground.phase }, { on := 6, ground := Ground.phase }, { on := 7, ground := Ground.phase }, { on := 8, ground := Ground.phase }, { on := 9, ground := Ground.phase }, { on := 10, ground := Ground.phase }, { on := 11, ground := Ground.phase }], guard := Option.none }) rfl (fun K hK => ?_) ?_
                · go_simp
                  refine hK.out _ _ (by (first | exact HS7.out _ HU3.out | exact HS7.out _ ((Below.heap_setCell w3 ⟨sb, 8, none⟩ _ _ hne).trans HU3.out) | assumption)) (fun hHeld => ?_)
                  clear hK K
                  try simp only [Act.put, List.setIfInBounds_toArray, List.set_cons_zero, List.set_cons_succ]
                  refine wpAnyH_done (by kernel_rfl) ?_ _
                  refine NoPanic.normal ?_
                  go_wp2_with fail
                  obtain ⟨u3, hm3, ho3, hb3⟩ := HSET.out
                  have hks : Kp B tsM Z.drew w3 := .of_but hb3 (fun k hk => by
                    rcases List.mem_cons.1 hk with rfl | hk
                    · exact ⟨hmb, _, _, _, HMZ.out.blk, by decide⟩
                    · have hk' : u.ownBlock = some k := by simpa using hk
                      obtain ⟨cs, e2⟩ := own_block HOZ.out hk'
                      exact ⟨(HOZ.out.lt k hk').1, cs, _, _, e2, by decide⟩)
                  have hkp : Kp B tsM w w3 := HKZ.out.trans ⟨hks.os, hks.tape, hks.output, hks.size, hks.blk⟩
                  refine ⟨⟨i + 1, u3, hlt, by go_num, ?_, ?_, ?_⟩, by simp [intOf]; omega⟩
                  · rw [HS.out, hNl]; split <;> omega
                  · rw [HS.out, HSUM.out]; omega
                  · rw [HS.out]
                    refine ⟨?_, ⟨?_⟩, ?_, putL_up x HI.out.up, (hkp.setCell HT3.out (by decide) hsb _ _).drew⟩
                    · unfold StB
                      rw [HSUM.out, hse]
                      exact heap_setCell_same _ _ _ _ _ _ HT3.out
                    · exact (Below.heap_setCell w3 ⟨sb, 8, none⟩ _ mb (fun e => hm3.far HT3.out (by decide) e.symm)).trans hm3.blk
                    · refine own_keep ho3 (fun g cs _ e => (Below.heap_setCell w3 ⟨sb, 8, none⟩ _ g (fun e2 => ?_)).trans e)
                      have e3 : g = sb := e2
                      rw [e3] at e
                      have := e.symm.trans HT3.out
                      simp [stC] at this
                exact AllReadyH.nil
              exact AllReadyH.nil
            exact AllReadyH.nil
          exact AllReadyH.nil
    · have hin : i = L.length := by omega
      subst hin
      go_wp2_with fail
      go_end0
      exact ⟨rfl, u, by rw [List.take_length] at HI; exact HI.out⟩
end Go.Proofs.YtcohbfabcdjefaaGreatDoor
