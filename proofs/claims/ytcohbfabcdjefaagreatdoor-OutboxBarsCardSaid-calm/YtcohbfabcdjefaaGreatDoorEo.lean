/-
  package store: off, told, record.
-/
import Derived.Test.YtcohbfabcdjefaaGreatDoorEm
namespace Go.Proofs.YtcohbfabcdjefaaGreatDoor
open Go.RowKit Go.Maps

variable {A B : Nat} {w : World} {sb mb db m lb nb : Nat} {M : List It} {logged n z : Nat}
theorem soff_ok (h : SD A B w sb mb db m lb nb M logged n z) : Calls Tryz.prog 48 #[.pointer (some ⟨sb, 0, none⟩)] w fun e w' => e = .returned (.int .i64 0) ∧ w = w' := by
  have s5 : w.cell? ⟨sb, 5, none⟩ = some (.pointer (some ⟨db, 0, none⟩)) := h.st.cell 5
  have s10 : w.cell? ⟨sb, 10, none⟩ = some (.bool false) := h.st.cell 10
  have HD := Lib.hid h.log.down
  clear h
  go_enter Tryz.func48, Tryz.ntmps48
  go_wp2_with fail
  refine HD.out.mono ?_
  rintro e w1 ⟨rfl, rfl⟩
  go_wp2_with fail
  go_ret
  exact ⟨rfl, rfl⟩
theorem stold_zero (w : World) (p : Addr) : Calls Tryz.prog 103 #[.pointer (some p), .int .i64 0] w fun e w' => e = .returned (.int .i64 0) ∧ w = w' := by
  go_enter Tryz.func103, Tryz.ntmps103
  go_wp2_with fail
  go_ret
  exact ⟨rfl, rfl⟩
/-- the log's size is set -/
theorem SD.logAt {w : World} (h : SD A B w sb mb db m lb nb M logged n z) (k : Nat) (v : Int) (hv : v = (k : Nat)) : SD A B (w.setCell ⟨sb, 9, none⟩ (.int .i64 v)) sb mb db m lb nb M k n z ∧ Below A w (w.setCell ⟨sb, 9, none⟩ (.int .i64 v)) ∧ Kx [db] tsW w (w.setCell ⟨sb, 9, none⟩ (.int .i64 v)) := by
  subst hv
  have hst := h.st
  obtain ⟨u, h1, h2⟩ := h.mem
  have hA := h.hA
  have hsb := h.hsb
  have hAw : A ≤ w.heap.size := by have := h.st.lt; omega
  have hk : Kp B [106] w (w.setCell ⟨sb, 9, none⟩ (.int .i64 k)) := (Kp.refl B _ w).setCell hst (by simp) h.hsb _ _
  have hk2 : Kp B tsM w (w.setCell ⟨sb, 9, none⟩ (.int .i64 k)) := (Kp.refl B _ w).setCell hst (by simp) h.hsb _ _
  refine ⟨⟨heap_setCell_same _ _ _ _ _ _ hst, ⟨u, ⟨hk.blk mb _ h1.blk (.inr (fun _ _ _ e => by injection e with _ e2; rw [← e2]; decide))⟩, hk.own h2 (by decide)⟩, h.up, h.log.kp hk2, h.hA, h.hsb, h.hmb⟩, hk.below hA hAw, Kx.of_kp hk (by decide)⟩

theorem conv3 (W' : World) (b : Nat) (hc : W'.cell? ⟨b, 0, none⟩ = some (.int .u8 3)) : (convert 179 9 (.slice (some ⟨b, 0, none⟩) 1 1)).run Tryz.prog W' = .ok (.string (⟨#[3]⟩ : ByteArray)) W' :=
  run_convert_bytes_back W' 179 9 5 ⟨b, 0, none⟩ 1 [3] Tryz.underlying179 Tryz.underlying5 Tryz.underlying9 (fun j hj => by
    have : j = 0 := by simpa using hj
    subst this
    rw [Addr.add_lit]
    exact hc)
set_option maxRecDepth 100000 in
set_option maxHeartbeats 2000000 in
theorem record_any (h : SD A B w sb mb db m lb nb M logged n z) (text : ByteArray) (ht : text.size ≤ 60000) (hn : n < 98) (hz : z < 16384) (hlg : logged ≤ 1000000) :
    Calls Tryz.prog 49 #[.pointer (some ⟨sb, 0, none⟩), .string text] w fun e w' => e = .returned (.int .i64 0) ∧ SD A B w' sb mb db m lb nb M (logged + (1 + text.size)) (n + 1) (z + (8 + (1 + text.size))) ∧ Below A w w' ∧ Kx [db] tsW w w' := by
  have s6 : w.cell? ⟨sb, 6, none⟩ = some (.pointer (some ⟨lb, 0, none⟩)) := h.st.cell 6
  have hsl := h.st.lt
  have H0 := Lib.hid h
  have hAw := Lib.hid (show A ≤ w.heap.size by have h1 := h.hA; have h2 := h.hsb; omega)
  have g1 : min (text.size : Int) 65535 = (text.size : Int) := by omega
  have hsz : ((⟨#[3]⟩ : ByteArray) ++ text).size = 1 + text.size := by rw [ByteArray.size_append]; rfl
  have HP := Lib.hid (fun W' (hb : Below w.heap.size w W') => (h.log.below hb).put hn hz ((⟨#[3]⟩ : ByteArray) ++ text) (by omega))
  have HC := Lib.hid (fun W' (hb : Below w.heap.size w W') => (hb.cell (p := ⟨sb, 6, none⟩) hsl).trans s6)
  have HA := Lib.hid (show bits BinOp.and IntKind.u8 3 2 = 2 by kernel_rfl)
  have H3 := Lib.hid (show bits BinOp.or IntKind.u8 1 2 = 3 by kernel_rfl)
  have g5 : wrap64 (1 + (text.size : Int)) = 1 + (text.size : Int) := IntWalk.wrap64_in _ (by omega)
  obtain ⟨lk, hlk⟩ : ∃ lk, lk = logged + (1 + text.size) := ⟨_, rfl⟩
  have G6 := Lib.hid (show (logged : Int) + (1 + (text.size : Int)) = (lk : Nat) by rw [hlk]; rfl)
  have g4 : ¬ 9223372036854775807 < 1 + text.size := by omega
  rw [← hlk]
  have G5 := Lib.hid g5; have G4 := Lib.hid g4
  clear h hlk g5 g4
  go_enter Tryz.func49, Tryz.ntmps49
  go_wp2_with fail
  go_loopw [1, 5] (fun t k wr => t = .string text ∧ k = .int .u8 1 ∧ wr = w) (fun _ _ _ => 0)
  case atStart => exact ⟨rfl, rfl, rfl⟩
  case round =>
    obtain ⟨rfl, rfl, rfl⟩ := hrel
    go_wp2_with fail
    have ha := HA.out; have h3 := H3.out; have g5 := G5.out; have g4 := G4.out
    have hcv := fun W' => conv3 W' wr.heap.size
    have X0 := Lib.hid ((Below.refl wr.heap.size wr).drew)
    have X1 := Lib.hid ((((Below.refl wr.heap.size wr).alloc (Nat.le_refl _) (.cells #[.int .u8 3] 5)).drew))
    refine wp_region_noPanic ?_
    refine wp_region_held_drew (S := (fun w' => w'.cell? ⟨sb, 6, none⟩ = some (.pointer (some ⟨lb, 0, none⟩)))) (by kernel_rfl) (by (first | with_reducible exact HC.out _ X0.out | with_reducible exact HC.out _ X1.out | with_reducible exact HSC.out | assumption)) (fun hHeld => ?_)
    refine wpAnyH_take (i := 0) (oi := { dst := Option.some 19, op := Op.move (Operand.tmp 0), type := 53, pos := _, after := #[], guard := Option.none }) (v := ?_) rfl (by kernel_rfl) (by kernel_rfl) (by kernel_rfl) (fun _ _ _ h => h) (Or.inl ⟨by rfl, ?_⟩) (by assumption) ?_
    rotate_left
    · (intro wS hSw; (try dsimp only at hSw); go_simp; try with_reducible rfl)
    try simp only [Act.put, List.setIfInBounds_toArray, List.set_cons_zero, List.set_cons_succ]
    refine wpAnyH_take (i := 1) (oi := { dst := Option.some 20, op := Op.nilCheck (Operand.tmp 19), type := 0, pos := _, after := #[{ on := 0, ground := Ground.data }], guard := Option.none }) (v := ?_) rfl (by kernel_rfl) (by kernel_rfl) (by kernel_rfl) (fun _ _ _ h => h) (Or.inl ⟨by rfl, ?_⟩) (by assumption) ?_
    rotate_left
    · (intro wS hSw; (try dsimp only at hSw); go_simp; try with_reducible rfl)
    try simp only [Act.put, List.setIfInBounds_toArray, List.set_cons_zero, List.set_cons_succ]
    refine wpAnyH_take (i := 2) (oi := { dst := Option.some 21, op := Op.fieldAddr 106 (Operand.tmp 20) 2, type := 0, pos := _, after := #[{ on := 1, ground := Ground.data }], guard := Option.none }) (v := ?_) rfl (by kernel_rfl) (by kernel_rfl) (by kernel_rfl) (fun _ _ _ h => h) (Or.inl ⟨by rfl, ?_⟩) (by assumption) ?_
    rotate_left
    · (intro wS hSw; (try dsimp only at hSw); go_simp; try with_reducible rfl)
    try simp only [Act.put, List.setIfInBounds_toArray, List.set_cons_zero, List.set_cons_succ]
    refine wpAnyH_take (i := 3) (oi := { dst := Option.some 22, op := Op.load 104 (Operand.tmp 21), type := 104, pos := _, after := #[{ on := 2, ground := Ground.data }], guard := Option.none }) (v := ?_) rfl (by kernel_rfl) (by kernel_rfl) (by kernel_rfl) (fun _ _ _ h => h) (Or.inl ⟨by rfl, ?_⟩) (by assumption) ?_
    rotate_left
    · (intro wS hSw; (try dsimp only at hSw); go_simp; try with_reducible rfl)
    try simp only [Act.put, List.setIfInBounds_toArray, List.set_cons_zero, List.set_cons_succ]
    refine wpAnyH_take (i := 4) (oi := { dst := Option.some 23, op := Op.move (Operand.tmp 5), type := 5, pos := _, after := #[], guard := Option.none }) (v := ?_) rfl (by kernel_rfl) (by kernel_rfl) (by kernel_rfl) (fun _ _ _ h => h) (Or.inl ⟨by rfl, ?_⟩) (by assumption) ?_
    rotate_left
    · (intro wS hSw; (try dsimp only at hSw); go_simp; try with_reducible rfl)
    try simp only [Act.put, List.setIfInBounds_toArray, List.set_cons_zero, List.set_cons_succ]
    refine wpAnyH_take (i := 7) (oi := { dst := Option.some 26, op := Op.move (Operand.tmp 1), type := 9, pos := _, after := #[], guard := Option.none }) (v := ?_) rfl (by kernel_rfl) (by kernel_rfl) (by kernel_rfl) (fun _ _ _ h => h) (Or.inl ⟨by rfl, ?_⟩) (by assumption) ?_
    rotate_left
    · (intro wS hSw; (try dsimp only at hSw); go_simp; try with_reducible rfl)
    try simp only [Act.put, List.setIfInBounds_toArray, List.set_cons_zero, List.set_cons_succ]
    refine wpAnyH_take (i := 8) (oi := { dst := Option.some 27, op := Op.move (Operand.tmp 6), type := 3, pos := _, after := #[], guard := Option.none }) (v := ?_) rfl (by kernel_rfl) (by kernel_rfl) (by kernel_rfl) (fun _ _ _ h => h) (Or.inl ⟨by rfl, ?_⟩) (by assumption) ?_
    rotate_left
    · (intro wS hSw; (try dsimp only at hSw); go_simp; try with_reducible rfl)
    try simp only [Act.put, List.setIfInBounds_toArray, List.set_cons_zero, List.set_cons_succ]
    refine wpAnyH_take (i := 9) (oi := { dst := Option.some 28, op := Op.slice 9 (Operand.tmp 26) Option.none (Option.some (Operand.tmp 27)) Option.none, type := 9, pos := _, after := #[{ on := 7, ground := Ground.data }, { on := 8, ground := Ground.data }], guard := Option.none }) (v := ?_) rfl (by kernel_rfl) (by kernel_rfl) (by kernel_rfl) (fun _ _ _ h => h) (Or.inl ⟨by rfl, ?_⟩) (by assumption) ?_
    rotate_left
    · (intro wS hSw; (try dsimp only at hSw); go_simp; try with_reducible rfl)
    try simp only [Act.put, List.setIfInBounds_toArray, List.set_cons_zero, List.set_cons_succ]
    refine wpAnyH_ready (rs := [5]) (by kernel_rfl) (by simp) ?_
    refine AllReadyH.cons (o := { dst := Option.some 24, op := Op.buildSlice 179 1 #[(0, Operand.tmp 23)], type := 179, pos := _, after := #[{ on := 4, ground := Ground.data }], guard := Option.none }) rfl (fun K hK => ?_) ?_
    · go_simp
      refine hK.out _ _ (by (first | with_reducible exact HC.out _ X0.out | with_reducible exact HC.out _ X1.out | with_reducible exact HSC.out | assumption)) (fun hHeld => ?_)
      clear hK K
      try simp only [Act.put, List.setIfInBounds_toArray, List.set_cons_zero, List.set_cons_succ]
      refine wpAnyH_ready (rs := [6]) (by kernel_rfl) (by simp) ?_
      refine AllReadyH.cons (o := { dst := Option.some 25, op := Op.convert 179 9 (Operand.tmp 24), type := 9, pos := _, after := #[{ on := 5, ground := Ground.data }], guard := Option.none }) rfl (fun K hK => ?_) ?_
      · go_simp
        refine hK.out _ _ (by (first | with_reducible exact HC.out _ X0.out | with_reducible exact HC.out _ X1.out | with_reducible exact HSC.out | assumption)) (fun hHeld => ?_)
        clear hK K
        try simp only [Act.put, List.setIfInBounds_toArray, List.set_cons_zero, List.set_cons_succ]
        refine wpAnyH_take (i := 10) (oi := { dst := Option.some 29, op := Op.binOp BinOp.add 9 (Operand.tmp 25) (Operand.tmp 28) 9, type := 9, pos := _, after := #[{ on := 6, ground := Ground.data }, { on := 9, ground := Ground.data }], guard := Option.none }) (v := ?_) rfl (by kernel_rfl) (by kernel_rfl) (by kernel_rfl) (fun _ _ _ h => h) (Or.inl ⟨by rfl, ?_⟩) (by assumption) ?_
        rotate_left
        · (intro wS hSw; (try dsimp only at hSw); go_simp; try with_reducible rfl)
        try simp only [Act.put, List.setIfInBounds_toArray, List.set_cons_zero, List.set_cons_succ]
        refine wpAnyH_ready (rs := [11]) (by kernel_rfl) (by simp) ?_
        refine AllReadyH.cons (o := { dst := Option.some 30, op := Op.call { callee := Callee.value (Operand.func 102), args := #[Operand.tmp 22, Operand.tmp 29], argTypes := #[104, 9] }, type := 184, pos := _, after := #[{ on := 3, ground := Ground.data }, { on := 10, ground := Ground.data }], guard := Option.none }) rfl (fun K hK => ?_) ?_
        · go_simp
          (first | (go_at_call 102; ((with_reducible refine (HP.out _ X1.out).mono ?_); rintro e w1 ⟨rfl, hl1, hb1, hk1⟩; have HL1 := Lib.hid hl1; have HB1 := Lib.hid hb1; have HK1 := Lib.hid hk1; have HSC := Lib.hid (show w1.cell? ⟨sb, 6, none⟩ = some (.pointer (some ⟨lb, 0, none⟩)) from ((H0.out.below X1.out).loged hl1 hk1).st.cell 6); clear hl1 hb1 hk1)))
          refine hK.out _ _ (by (first | with_reducible exact HC.out _ X0.out | with_reducible exact HC.out _ X1.out | with_reducible exact HSC.out | assumption)) (fun hHeld => ?_)
          clear hK K
          try simp only [Act.put, List.setIfInBounds_toArray, List.set_cons_zero, List.set_cons_succ]
          refine wpAnyH_take (i := 12) (oi := { dst := Option.some 18, op := Op.move (Operand.tmp 30), type := 184, pos := _, after := #[{ on := 11, ground := Ground.data }], guard := Option.none }) (v := ?_) rfl (by kernel_rfl) (by kernel_rfl) (by kernel_rfl) (fun _ _ _ h => h) (Or.inl ⟨by rfl, ?_⟩) (by assumption) ?_
          rotate_left
          · (intro wS hSw; (try dsimp only at hSw); go_simp; try with_reducible rfl)
          try simp only [Act.put, List.setIfInBounds_toArray, List.set_cons_zero, List.set_cons_succ]
          refine wpAnyH_take (i := 13) (oi := { dst := Option.some 31, op := Op.extract (Operand.tmp 18) 0, type := 3, pos := _, after := #[{ on := 12, ground := Ground.data }], guard := Option.none }) (v := ?_) rfl (by kernel_rfl) (by kernel_rfl) (by kernel_rfl) (fun _ _ _ h => h) (Or.inl ⟨by rfl, ?_⟩) (by assumption) ?_
          rotate_left
          · (intro wS hSw; (try dsimp only at hSw); go_simp; try with_reducible rfl)
          try simp only [Act.put, List.setIfInBounds_toArray, List.set_cons_zero, List.set_cons_succ]
          refine wpAnyH_take (i := 14) (oi := { dst := Option.some 32, op := Op.extract (Operand.tmp 18) 1, type := 24, pos := _, after := #[{ on := 12, ground := Ground.data }, { on := 15, ground := Ground.gcOnly Departure.lateStores }], guard := Option.none }) (v := ?_) rfl (by kernel_rfl) (by kernel_rfl) (by kernel_rfl) (fun _ _ _ h => h) (Or.inl ⟨by rfl, ?_⟩) (by assumption) ?_
          rotate_left
          · (intro wS hSw; (try dsimp only at hSw); go_simp; try with_reducible rfl)
          try simp only [Act.put, List.setIfInBounds_toArray, List.set_cons_zero, List.set_cons_succ]
          refine wpAnyH_take (i := 15) (oi := { dst := Option.some 7, op := Op.assign (Operand.tmp 31), type := 3, pos := _, after := #[{ on := 13, ground := Ground.data }, { on := 11, ground := Ground.chain }, { on := 0, ground := Ground.phase }, { on := 1, ground := Ground.phase }, { on := 2, ground := Ground.phase }, { on := 3, ground := Ground.phase }, { on := 4, ground := Ground.phase }, { on := 5, ground := Ground.phase }, { on := 6, ground := Ground.phase }, { on := 7, ground := Ground.phase }, { on := 8, ground := Ground.phase }, { on := 9, ground := Ground.phase }, { on := 10, ground := Ground.phase }, { on := 11, ground := Ground.phase }, { on := 12, ground := Ground.phase }, { on := 13, ground := Ground.phase }, { on := 14, ground := Ground.textOnly Departure.lateStores }], guard := Option.none }) (v := ?_) rfl (by kernel_rfl) (by kernel_rfl) (by kernel_rfl) (fun _ _ _ h => h) (Or.inl ⟨by rfl, ?_⟩) (by assumption) ?_
          rotate_left
          · (intro wS hSw; (try dsimp only at hSw); go_simp; try with_reducible rfl)
          try simp only [Act.put, List.setIfInBounds_toArray, List.set_cons_zero, List.set_cons_succ]
          refine wpAnyH_take (i := 16) (oi := { dst := Option.some 8, op := Op.assign (Operand.tmp 32), type := 24, pos := _, after := #[{ on := 14, ground := Ground.data }, { on := 15, ground := Ground.chain }, { on := 0, ground := Ground.phase }, { on := 1, ground := Ground.phase }, { on := 2, ground := Ground.phase }, { on := 3, ground := Ground.phase }, { on := 4, ground := Ground.phase }, { on := 5, ground := Ground.phase }, { on := 6, ground := Ground.phase }, { on := 7, ground := Ground.phase }, { on := 8, ground := Ground.phase }, { on := 9, ground := Ground.phase }, { on := 10, ground := Ground.phase }, { on := 11, ground := Ground.phase }, { on := 12, ground := Ground.phase }, { on := 13, ground := Ground.phase }, { on := 14, ground := Ground.phase }, { on := 15, ground := Ground.phase }], guard := Option.none }) (v := ?_) rfl (by kernel_rfl) (by kernel_rfl) (by kernel_rfl) (fun _ _ _ h => h) (Or.inl ⟨by rfl, ?_⟩) (by assumption) ?_
          rotate_left
          · (intro wS hSw; (try dsimp only at hSw); go_simp; try with_reducible rfl)
          try simp only [Act.put, List.setIfInBounds_toArray, List.set_cons_zero, List.set_cons_succ]
          refine wpAnyH_done (by kernel_rfl) ?_ _
          refine NoPanic.normal ?_
          have HS1 := Lib.hid ((H0.out.below X1.out).loged HL1.out HK1.out)
          have c9 : w1.cell? ⟨sb, 9, none⟩ = some (.int .i64 (logged : Nat)) := HS1.out.st.cell 9
          have f9 : w1.frozen? ⟨sb, 9, none⟩ = false := HS1.out.st.fro 9
          have HS2 := Lib.hid (HS1.out.logAt lk _ G6.out)
          have d6 : (w1.setCell ⟨sb, 9, none⟩ (.int .i64 ((logged : Int) + (1 + (text.size : Int))))).cell? ⟨sb, 6, none⟩ = some (.pointer (some ⟨lb, 0, none⟩)) := HS2.out.1.st.cell 6
          clear HP HC hcv h3 g4 g1
          go_wp2_with fail
          clear ha g5
          refine HS2.out.1.log.sync.mono ?_
          rintro e w2 ⟨rfl, hl2, hb2, hk2⟩
          have HF := Lib.hid (show SD A B w2 sb mb db m lb nb M lk (n + 1) (z + (8 + (1 + text.size))) ∧ Below A wr w2 ∧ Kx [db] tsW wr w2 from by
            have e1 := HS2.out.1.loged hl2 hk2
            rw [hsz] at e1
            exact ⟨e1, ((((X1.out.mono hAw.out).trans HB1.out).trans HS2.out.2.1).trans hb2), (((Kx.of_below X1.out).trans (HK1.out.wide (by decide))).trans HS2.out.2.2).trans (hk2.wide (by decide))⟩)
          clear hl2 hb2 hk2
          go_wp2_with fail
          refine (stold_zero w2 ⟨sb, 0, none⟩).mono ?_
          rintro e w3 ⟨rfl, rfl⟩
          go_wp2_with fail
          go_ret
          exact ⟨rfl, HF.out⟩
        exact AllReadyH.nil
      exact AllReadyH.nil
    exact AllReadyH.nil
end Go.Proofs.YtcohbfabcdjefaaGreatDoor
