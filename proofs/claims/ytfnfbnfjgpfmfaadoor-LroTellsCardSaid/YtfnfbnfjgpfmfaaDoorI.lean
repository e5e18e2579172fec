/-
  What is proved here: The walk of 'LroTells', for every argument, under 'RulesAt'.
-/
import Derived.Test.YtfnfbnfjgpfmfaaDoorH
import Derived.Deep.RegionHeld3
namespace Go.Proofs.YtfnfbnfjgpfmfaaDoor
open Go.RowKit

theorem keepS {st c : Int} {v : ByteArray} {d : Int} {w wa wb : World} {b1 o1 b2 o2 : Nat} (hO : Hid (Own4 wa w.heap.size (.int .i64 st) (.int .i64 c) (.string v) (.int .i64 d))) (hR : Hid (RulesAt wa b1 o1 b2 o2)) (hB : Hid (Below w.heap.size w wa)) (hb : Below wa.heap.size wa wb) :
    (wb.cell? ⟨w.heap.size, 0, none⟩ = some (.int .i64 st) ∧ wb.cell? ⟨w.heap.size, 1, none⟩ = some (.int .i64 c) ∧ wb.cell? ⟨w.heap.size, 2, none⟩ = some (.string v) ∧ wb.cell? ⟨w.heap.size, 3, none⟩ = some (.int .i64 d)) ∧ Hid (Own4 wb w.heap.size (.int .i64 st) (.int .i64 c) (.string v) (.int .i64 d)) ∧ Hid (RulesAt wb b1 o1 b2 o2) ∧ Hid (Below w.heap.size w wb) := by
  have hO' := hO.out.below hb
  exact ⟨⟨hO'.c0, hO'.c1, hO'.c2, hO'.c3⟩, hO', hR.out.below hb, hB.out.trans (hb.mono hB.out.size)⟩

theorem keepT {st c : Int} {v : ByteArray} {d : Int} {w wa wb : World} {b1 o1 b2 o2 : Nat} (hb : Below wa.heap.size wa wb)
    (hS : (wa.cell? ⟨w.heap.size, 0, none⟩ = some (.int .i64 st) ∧ wa.cell? ⟨w.heap.size, 1, none⟩ = some (.int .i64 c) ∧ wa.cell? ⟨w.heap.size, 2, none⟩ = some (.string v) ∧ wa.cell? ⟨w.heap.size, 3, none⟩ = some (.int .i64 d)) ∧ Hid (Own4 wa w.heap.size (.int .i64 st) (.int .i64 c) (.string v) (.int .i64 d)) ∧ Hid (RulesAt wa b1 o1 b2 o2) ∧ Hid (Below w.heap.size w wa)) :
    (wb.cell? ⟨w.heap.size, 0, none⟩ = some (.int .i64 st) ∧ wb.cell? ⟨w.heap.size, 1, none⟩ = some (.int .i64 c) ∧ wb.cell? ⟨w.heap.size, 2, none⟩ = some (.string v) ∧ wb.cell? ⟨w.heap.size, 3, none⟩ = some (.int .i64 d)) ∧ Hid (Own4 wb w.heap.size (.int .i64 st) (.int .i64 c) (.string v) (.int .i64 d)) ∧ Hid (RulesAt wb b1 o1 b2 o2) ∧ Hid (Below w.heap.size w wb) :=
  keepS hS.2.1 hS.2.2.1 hS.2.2.2 hb
theorem rulesOf {st c : Int} {v : ByteArray} {d : Int} {w wa : World} {b1 o1 b2 o2 : Nat}
    (hS : (wa.cell? ⟨w.heap.size, 0, none⟩ = some (.int .i64 st) ∧ wa.cell? ⟨w.heap.size, 1, none⟩ = some (.int .i64 c) ∧ wa.cell? ⟨w.heap.size, 2, none⟩ = some (.string v) ∧ wa.cell? ⟨w.heap.size, 3, none⟩ = some (.int .i64 d)) ∧ Hid (Own4 wa w.heap.size (.int .i64 st) (.int .i64 c) (.string v) (.int .i64 d)) ∧ Hid (RulesAt wa b1 o1 b2 o2) ∧ Hid (Below w.heap.size w wa)) : RulesAt wa b1 o1 b2 o2 := hS.2.2.1.out

theorem belowOf {st c : Int} {v : ByteArray} {d : Int} {w wa : World} {b1 o1 b2 o2 : Nat}
    (hS : (wa.cell? ⟨w.heap.size, 0, none⟩ = some (.int .i64 st) ∧ wa.cell? ⟨w.heap.size, 1, none⟩ = some (.int .i64 c) ∧ wa.cell? ⟨w.heap.size, 2, none⟩ = some (.string v) ∧ wa.cell? ⟨w.heap.size, 3, none⟩ = some (.int .i64 d)) ∧ Hid (Own4 wa w.heap.size (.int .i64 st) (.int .i64 c) (.string v) (.int .i64 d)) ∧ Hid (RulesAt wa b1 o1 b2 o2) ∧ Hid (Below w.heap.size w wa)) : Below w.heap.size w wa := hS.2.2.2.out

set_option maxHeartbeats 2000000 in
theorem tells_core0 (st c : Int) (v : ByteArray) (d st' c' : Int) (v' : ByteArray) (d' now : Int) (xs xc : Int) (xv : ByteArray) (xd : Int) (w : World) (b1 o1 b2 o2 : Nat) (h : RulesAt w b1 o1 b2 o2)
    (hk : chk st c v d = 0) (hr : rightB st c v d = true)
    (hx : setV st c v d st' c' v' d' = opV xs xc xv xd) :
    Calls Tryd.prog 4 #[opV st c v d, .int .i64 st', .int .i64 c', .string v', .int .i64 d', .int .i64 now] w fun e w' => e = .returned (.bool true) ∧ Below w.heap.size w w' := by
  have C2 : ∀ W, RulesAt W b1 o1 b2 o2 → Calls Tryd.prog 9 #[opV st c v d, .int .i64 st', .int .i64 c', .string v', .int .i64 d'] W fun e w' => e = .returned (.tuple #[opV xs xc xv xd, .int .i64 (setE st c v d st' c' v' d')]) ∧ Below W.heap.size W w' := by
    intro W hW
    have := settle_any st c v d st' c' v' d' W b1 o1 b2 o2 hW
    rwa [hx] at this
  have C3 : ∀ W, Calls Tryd.prog 12 #[opV st c v d, .int .i64 st', .int .i64 c', .string v', .int .i64 d'] W fun e w' => e = .returned (.tuple #[opV xs xc xv xd, .int .i64 (setE st c v d st' c' v' d')]) ∧ Below W.heap.size W w' := by
    intro W
    have := rsettle_any st c v d st' c' v' d' W
    rwa [hx] at this
  have C4 : ∀ W, RulesAt W b1 o1 b2 o2 → Calls Tryd.prog 7 #[opV st c v d] W fun e w' => e = .returned (.int .i64 0) ∧ Below W.heap.size W w' := by
    intro W hW
    have := check_any st c v d W b1 o1 b2 o2 hW
    rwa [hk] at this
  have C5 : ∀ W, Calls Tryd.prog 13 #[opV st c v d] W fun e w' => e = .returned (.bool true) ∧ Below W.heap.size W w' := by
    intro W
    have := right_any st c v d W
    rwa [hr] at this
  clear hx hk hr
  have H := Lib.hid h
  clear h
  have H2 := Lib.hid C2
  have H3 := Lib.hid C3
  have H4 := Lib.hid C4
  have H5 := Lib.hid C5
  clear C2 C3 C4 C5
  go_enter Tryd.func4, Tryd.ntmps4
  go_wp2_with fail
  refine (awake_any _ b1 o1 b2 o2 (H.out.below (bl1 _ _))).mono ?_
  rintro e w1 ⟨rfl, hb⟩
  have O1 := Lib.hid ((Own4.new w _ _ _ _ _).below hb)
  have HR1 := Lib.hid ((H.out.below (bl1 _ _)).below hb)
  have HB1 := Lib.hid ((bl1 w _).trans (hb.mono (bl1 w _).size))
  clear hb
  obtain ⟨p10, p11, p12, p13, g10, g11, g12, g13, y1⟩ := O1.out
  go_wp2_with fail
  refine (cancel_any st c v d _ b1 o1 b2 o2 HR1.out).mono ?_
  rintro e w2 ⟨rfl, hb⟩
  have O2 := Lib.hid (O1.out.below hb)
  have HR2 := Lib.hid (HR1.out.below hb)
  have HB2 := Lib.hid (HB1.out.trans (hb.mono HB1.out.size))
  clear hb
  obtain ⟨p20, p21, p22, p23, g20, g21, g22, g23, y2⟩ := O2.out
  go_wp2_with fail
  refine (rcancel_any st c v d _).mono ?_
  rintro e w3 ⟨rfl, hb⟩
  have O3 := Lib.hid ((O2.out.alloc _).below hb)
  have O3a := Lib.hid ((Own4.new w2 _ _ _ _ _).below hb)
  have HR3 := Lib.hid ((HR2.out.below (bl1 _ _)).below hb)
  have HB3 := Lib.hid ((HB2.out.trans ((bl1 w2 _).mono HB2.out.size)).trans (hb.mono (Nat.le_trans HB2.out.size (bl1 w2 _).size)))
  clear hb
  obtain ⟨p30, p31, p32, p33, g30, g31, g32, g33, y3⟩ := O3.out
  go_wp2_with fail
  refine (H2.out _ (HR3.out.below (bl1 _ _))).mono ?_
  rintro e w4 ⟨rfl, hb⟩
  have O4 := Lib.hid ((O3.out.alloc _).below hb)
  have O4a := Lib.hid ((O3a.out.alloc _).below hb)
  have O4b := Lib.hid ((Own4.new w3 _ _ _ _ _).below hb)
  have HR4 := Lib.hid ((HR3.out.below (bl1 _ _)).below hb)
  have HB4 := Lib.hid ((HB3.out.trans ((bl1 w3 _).mono HB3.out.size)).trans (hb.mono (Nat.le_trans HB3.out.size (bl1 w3 _).size)))
  clear hb
  obtain ⟨p40, p41, p42, p43, g40, g41, g42, g43, y4⟩ := O4.out
  go_wp2_with fail
  refine (H3.out _).mono ?_
  rintro e w5 ⟨rfl, hb⟩
  have O5 := Lib.hid ((O4.out.alloc _).below hb)
  have O5a := Lib.hid ((O4a.out.alloc _).below hb)
  have O5b := Lib.hid ((O4b.out.alloc _).below hb)
  have O5c := Lib.hid ((Own4.new w4 _ _ _ _ _).below hb)
  have HR5 := Lib.hid ((HR4.out.below (bl1 _ _)).below hb)
  have HB5 := Lib.hid ((HB4.out.trans ((bl1 w4 _).mono HB4.out.size)).trans (hb.mono (Nat.le_trans HB4.out.size (bl1 w4 _).size)))
  clear hb
  clear p10 p11 p12 p13 g10 g11 g12 g13 y1 p20 p21 p22 p23 g20 g21 g22 g23 y2 p30 p31 p32 p33 g30 g31 g32 g33 y3 p40 p41 p42 p43 g40 g41 g42 g43 y4
  obtain ⟨p0, p1, p2, p3, g0, g1, g2, g3, y⟩ := O5.out
  obtain ⟨pa0, pa1, pa2, pa3, ga0, ga1, ga2, ga3, ya⟩ := O5a.out
  obtain ⟨pb0, pb1, pb2, pb3, gb0, gb1, gb2, gb3, yb⟩ := O5b.out
  obtain ⟨pc0, pc1, pc2, pc3, gc0, gc1, gc2, gc3, yc⟩ := O5c.out
  go_wp2_with fail
  refine (H4.out _ (HR5.out.below (bl1 _ _))).mono ?_
  rintro e w6 ⟨rfl, hb⟩
  have O6 := Lib.hid ((O5.out.alloc _).below hb)
  have HR6 := Lib.hid ((HR5.out.below (bl1 _ _)).below hb)
  have HB6 := Lib.hid ((HB5.out.trans ((bl1 w5 _).mono HB5.out.size)).trans (hb.mono (Nat.le_trans HB5.out.size (bl1 w5 _).size)))
  clear hb
  clear p0 p1 p2 p3 g0 g1 g2 g3 y pa0 pa1 pa2 pa3 ga0 ga1 ga2 ga3 ya pb0 pb1 pb2 pb3 gb0 gb1 gb2 gb3 yb pc0 pc1 pc2 pc3 gc0 gc1 gc2 gc3 yc
  obtain ⟨p0, p1, p2, p3, g0, g1, g2, g3, y⟩ := O6.out
  go_wp2_with fail
  refine wp_region_noPanic ?_
  refine wp_region_held_drew (S := (fun w' => (w'.cell? ⟨w.heap.size, 0, none⟩ = some (.int .i64 st) ∧ w'.cell? ⟨w.heap.size, 1, none⟩ = some (.int .i64 c) ∧ w'.cell? ⟨w.heap.size, 2, none⟩ = some (.string v) ∧ w'.cell? ⟨w.heap.size, 3, none⟩ = some (.int .i64 d)) ∧ Hid (Own4 w' w.heap.size (.int .i64 st) (.int .i64 c) (.string v) (.int .i64 d)) ∧ Hid (RulesAt w' b1 o1 b2 o2) ∧ Hid (Below w.heap.size w w'))) (by kernel_rfl) (by exact keepS O6 HR6 HB6 ((Below.refl _ _).drew)) (fun hHeld => ?_)
  refine wpAnyH_take (i := 0) (oi := { dst := Option.some 72, op := Op.move (Operand.tmp 21), type := 27, pos := _, after := #[], guard := Option.none }) (v := ?_) rfl (by kernel_rfl) (by kernel_rfl) (by kernel_rfl) (fun _ _ _ h => h) (Or.inl ⟨by rfl, ?_⟩) (by assumption) ?_
  rotate_left
  · (intro wS hSw; (try dsimp only at hSw); go_simp; try with_reducible rfl)
  try simp only [Act.put, List.setIfInBounds_toArray, List.set_cons_zero, List.set_cons_succ]
  refine wpAnyH_take (i := 1) (oi := { dst := Option.some 73, op := Op.binOp BinOp.eql 27 (Operand.tmp 72) (Operand.const (Value.int IntKind.i64 0)) 27, type := 4, pos := _, after := #[{ on := 0, ground := Ground.data }], guard := Option.none }) (v := ?_) rfl (by kernel_rfl) (by kernel_rfl) (by kernel_rfl) (fun _ _ _ h => h) (Or.inl ⟨by rfl, ?_⟩) (by assumption) ?_
  rotate_left
  · (intro wS hSw; (try dsimp only at hSw); go_simp; try with_reducible rfl)
  try simp only [Act.put, List.setIfInBounds_toArray, List.set_cons_zero, List.set_cons_succ]
  refine wpAnyH_take (i := 2) (oi := { dst := Option.some 74, op := Op.load 25 (Operand.tmp 6), type := 25, pos := _, after := #[], guard := Option.none }) (v := ?_) rfl (by kernel_rfl) (by kernel_rfl) (by kernel_rfl) (fun _ _ _ h => h) (Or.inl ⟨by rfl, ?_⟩) (by assumption) ?_
  rotate_left
  · (intro wS hSw; (try dsimp only at hSw); go_simp; try with_reducible rfl)
  try simp only [Act.put, List.setIfInBounds_toArray, List.set_cons_zero, List.set_cons_succ]
  refine wpAnyH_ready (rs := [3]) (by kernel_rfl) (by simp) ?_
  refine AllReadyH.cons (o := { dst := Option.some 75, op := Op.call { callee := Callee.value (Operand.func 13), args := #[Operand.tmp 74], argTypes := #[25] }, type := 4, pos := _, after := #[{ on := 2, ground := Ground.data }], guard := Option.none }) rfl (fun K hK => ?_) AllReadyH.nil
  go_simp
  (first | (go_at_call 13; refine (H5.out _).mono ?_; rintro e w' ⟨rfl, hb'⟩) | (go_at_call 10; refine (term_any st c v d _ b1 o1 b2 o2 (rulesOf (by assumption))).mono ?_; rintro e w' ⟨rfl, hb'⟩) | (go_at_call 14; refine (rterm_any st _).mono ?_; rintro e w' ⟨rfl, hb'⟩) | (go_at_call 15; refine (exp_any st c v d now _ b1 o1 b2 o2 (rulesOf (by assumption))).mono ?_; rintro e w' ⟨rfl, hb'⟩) | (go_at_call 16; refine (rexp_any st c v d now _).mono ?_; rintro e w' ⟨rfl, hb'⟩) | (go_at_call 6; refine (new_any d' _).mono ?_; rintro e w' ⟨rfl, hb'⟩))
  refine hK.out _ _ (by exact keepT hb' (by assumption)) (fun hHeld => ?_)
  clear hK K
  try simp only [Act.put, List.setIfInBounds_toArray, List.set_cons_zero, List.set_cons_succ]
  refine wpAnyH_take (i := 4) (oi := { dst := Option.some 76, op := Op.binOp BinOp.eql 4 (Operand.tmp 73) (Operand.tmp 75) 4, type := 4, pos := _, after := #[{ on := 1, ground := Ground.data }, { on := 3, ground := Ground.data }], guard := Option.none }) (v := ?_) rfl (by kernel_rfl) (by kernel_rfl) (by kernel_rfl) (fun _ _ _ h => h) (Or.inl ⟨by rfl, ?_⟩) (by assumption) ?_
  rotate_left
  · (intro wS hSw; (try dsimp only at hSw); go_simp; try with_reducible rfl)
  try simp only [Act.put, List.setIfInBounds_toArray, List.set_cons_zero, List.set_cons_succ]
  refine wpAnyH_take (i := 5) (oi := { dst := Option.some 77, op := Op.move (Operand.tmp 76), type := 4, pos := _, after := #[{ on := 4, ground := Ground.data }, { on := 3, ground := Ground.chain }], guard := Option.none }) (v := ?_) rfl (by kernel_rfl) (by kernel_rfl) (by kernel_rfl) (fun _ _ _ h => h) (Or.inl ⟨by rfl, ?_⟩) (by assumption) ?_
  rotate_left
  · (intro wS hSw; (try dsimp only at hSw); go_simp; try with_reducible rfl)
  try simp only [Act.put, List.setIfInBounds_toArray, List.set_cons_zero, List.set_cons_succ]
  refine wpAnyH_take (i := 6) (oi := { dst := Option.some 78, op := Op.move (Operand.tmp 21), type := 27, pos := _, after := #[{ on := 5, ground := Ground.guard }], guard := Option.some (5, Bool.true) }) (v := ?_) rfl (by kernel_rfl) (by kernel_rfl) (by kernel_rfl) (fun _ _ _ h => h) (Or.inl ⟨by rfl, ?_⟩) (by assumption) ?_
  rotate_left
  · (intro wS hSw; (try dsimp only at hSw); go_simp; try with_reducible rfl)
  try simp only [Act.put, List.setIfInBounds_toArray, List.set_cons_zero, List.set_cons_succ]
  refine wpAnyH_take (i := 7) (oi := { dst := Option.some 79, op := Op.binOp BinOp.eql 27 (Operand.tmp 78) (Operand.const (Value.int IntKind.i64 0)) 27, type := 4, pos := _, after := #[{ on := 6, ground := Ground.data }, { on := 5, ground := Ground.guard }], guard := Option.some (5, Bool.true) }) (v := ?_) rfl (by kernel_rfl) (by kernel_rfl) (by kernel_rfl) (fun _ _ _ h => h) (Or.inl ⟨by rfl, ?_⟩) (by assumption) ?_
  rotate_left
  · (intro wS hSw; (try dsimp only at hSw); go_simp; try with_reducible rfl)
  try simp only [Act.put, List.setIfInBounds_toArray, List.set_cons_zero, List.set_cons_succ]
  refine wpAnyH_take (i := 8) (oi := { dst := Option.some 80, op := Op.move (Operand.tmp 79), type := 4, pos := _, after := #[{ on := 7, ground := Ground.data }, { on := 5, ground := Ground.chain }, { on := 5, ground := Ground.guard }], guard := Option.some (5, Bool.true) }) (v := ?_) rfl (by kernel_rfl) (by kernel_rfl) (by kernel_rfl) (fun _ _ _ h => h) (Or.inl ⟨by rfl, ?_⟩) (by assumption) ?_
  rotate_left
  · (intro wS hSw; (try dsimp only at hSw); go_simp; try with_reducible rfl)
  try simp only [Act.put, List.setIfInBounds_toArray, List.set_cons_zero, List.set_cons_succ]
  refine wpAnyH_take (i := 9) (oi := { dst := Option.some 81, op := Op.move (Operand.tmp 21), type := 27, pos := _, after := #[{ on := 8, ground := Ground.guard }], guard := Option.some (8, Bool.false) }) (v := undef) rfl (by kernel_rfl) (by kernel_rfl) (by kernel_rfl) (fun _ _ _ h => h) (Or.inr ⟨by rfl, rfl⟩) (by assumption) ?_
  try simp only [Act.put, List.setIfInBounds_toArray, List.set_cons_zero, List.set_cons_succ]
  refine wpAnyH_take (i := 10) (oi := { dst := Option.some 82, op := Op.binOp BinOp.eql 27 (Operand.tmp 81) (Operand.const (Value.int IntKind.i64 1)) 27, type := 4, pos := _, after := #[{ on := 9, ground := Ground.data }, { on := 8, ground := Ground.guard }], guard := Option.some (8, Bool.false) }) (v := undef) rfl (by kernel_rfl) (by kernel_rfl) (by kernel_rfl) (fun _ _ _ h => h) (Or.inr ⟨by rfl, rfl⟩) (by assumption) ?_
  try simp only [Act.put, List.setIfInBounds_toArray, List.set_cons_zero, List.set_cons_succ]
  refine wpAnyH_take (i := 11) (oi := { dst := Option.some 83, op := Op.pick (Operand.tmp 80) (Operand.const (Value.bool Bool.true)) (Operand.tmp 82), type := 4, pos := _, after := #[{ on := 8, ground := Ground.data }, { on := 10, ground := Ground.data }, { on := 5, ground := Ground.guard }], guard := Option.some (5, Bool.true) }) (v := ?_) rfl (by kernel_rfl) (by kernel_rfl) (by kernel_rfl) (fun _ _ _ h => h) (Or.inl ⟨by rfl, ?_⟩) (by assumption) ?_
  rotate_left
  · (intro wS hSw; (try dsimp only at hSw); go_simp; try with_reducible rfl)
  try simp only [Act.put, List.setIfInBounds_toArray, List.set_cons_zero, List.set_cons_succ]
  refine wpAnyH_take (i := 12) (oi := { dst := Option.some 84, op := Op.pick (Operand.tmp 77) (Operand.tmp 83) (Operand.const (Value.bool Bool.false)), type := 4, pos := _, after := #[{ on := 5, ground := Ground.data }, { on := 11, ground := Ground.data }], guard := Option.none }) (v := ?_) rfl (by kernel_rfl) (by kernel_rfl) (by kernel_rfl) (fun _ _ _ h => h) (Or.inl ⟨by rfl, ?_⟩) (by assumption) ?_
  rotate_left
  · (intro wS hSw; (try dsimp only at hSw); go_simp; try with_reducible rfl)
  try simp only [Act.put, List.setIfInBounds_toArray, List.set_cons_zero, List.set_cons_succ]
  refine wpAnyH_take (i := 13) (oi := { dst := Option.some 85, op := Op.move (Operand.tmp 84), type := 4, pos := _, after := #[{ on := 12, ground := Ground.data }, { on := 8, ground := Ground.chain }], guard := Option.none }) (v := ?_) rfl (by kernel_rfl) (by kernel_rfl) (by kernel_rfl) (fun _ _ _ h => h) (Or.inl ⟨by rfl, ?_⟩) (by assumption) ?_
  rotate_left
  · (intro wS hSw; (try dsimp only at hSw); go_simp; try with_reducible rfl)
  try simp only [Act.put, List.setIfInBounds_toArray, List.set_cons_zero, List.set_cons_succ]
  refine wpAnyH_take (i := 14) (oi := { dst := Option.some 86, op := Op.load 25 (Operand.tmp 6), type := 25, pos := _, after := #[{ on := 13, ground := Ground.guard }], guard := Option.some (13, Bool.true) }) (v := ?_) rfl (by kernel_rfl) (by kernel_rfl) (by kernel_rfl) (fun _ _ _ h => h) (Or.inl ⟨by rfl, ?_⟩) (by assumption) ?_
  rotate_left
  · (intro wS hSw; (try dsimp only at hSw); go_simp; try with_reducible rfl)
  try simp only [Act.put, List.setIfInBounds_toArray, List.set_cons_zero, List.set_cons_succ]
  refine wpAnyH_take (i := 16) (oi := { dst := Option.some 88, op := Op.fieldAddr 25 (Operand.tmp 6) 0, type := 0, pos := _, after := #[{ on := 13, ground := Ground.guard }], guard := Option.some (13, Bool.true) }) (v := ?_) rfl (by kernel_rfl) (by kernel_rfl) (by kernel_rfl) (fun _ _ _ h => h) (Or.inl ⟨by rfl, ?_⟩) (by assumption) ?_
  rotate_left
  · (intro wS hSw; (try dsimp only at hSw); go_simp; try with_reducible rfl)
  try simp only [Act.put, List.setIfInBounds_toArray, List.set_cons_zero, List.set_cons_succ]
  refine wpAnyH_take (i := 17) (oi := { dst := Option.some 89, op := Op.load 3 (Operand.tmp 88), type := 3, pos := _, after := #[{ on := 16, ground := Ground.data }, { on := 13, ground := Ground.guard }], guard := Option.some (13, Bool.true) }) (v := ?_) rfl (by kernel_rfl) (by kernel_rfl) (by kernel_rfl) (fun _ _ _ h => h) (Or.inl ⟨by rfl, ?_⟩) (by assumption) ?_
  rotate_left
  · (intro wS hSw; (try dsimp only at hSw); go_simp; try with_reducible rfl)
  try simp only [Act.put, List.setIfInBounds_toArray, List.set_cons_zero, List.set_cons_succ]
  refine wpAnyH_ready (rs := [15]) (by kernel_rfl) (by simp) ?_
  refine AllReadyH.cons (o := { dst := Option.some 87, op := Op.call { callee := Callee.value (Operand.func 10), args := #[Operand.tmp 86], argTypes := #[25] }, type := 4, pos := _, after := #[{ on := 14, ground := Ground.data }, { on := 13, ground := Ground.chain }, { on := 13, ground := Ground.guard }], guard := Option.some (13, Bool.true) }) rfl (fun K hK => ?_) AllReadyH.nil
  go_simp
  (first | (go_at_call 13; refine (H5.out _).mono ?_; rintro e w' ⟨rfl, hb'⟩) | (go_at_call 10; refine (term_any st c v d _ b1 o1 b2 o2 (rulesOf (by assumption))).mono ?_; rintro e w' ⟨rfl, hb'⟩) | (go_at_call 14; refine (rterm_any st _).mono ?_; rintro e w' ⟨rfl, hb'⟩) | (go_at_call 15; refine (exp_any st c v d now _ b1 o1 b2 o2 (rulesOf (by assumption))).mono ?_; rintro e w' ⟨rfl, hb'⟩) | (go_at_call 16; refine (rexp_any st c v d now _).mono ?_; rintro e w' ⟨rfl, hb'⟩) | (go_at_call 6; refine (new_any d' _).mono ?_; rintro e w' ⟨rfl, hb'⟩))
  refine hK.out _ _ (by exact keepT hb' (by assumption)) (fun hHeld => ?_)
  clear hK K
  try simp only [Act.put, List.setIfInBounds_toArray, List.set_cons_zero, List.set_cons_succ]
  refine wpAnyH_ready (rs := [18]) (by kernel_rfl) (by simp) ?_
  refine AllReadyH.cons (o := { dst := Option.some 90, op := Op.call { callee := Callee.value (Operand.func 14), args := #[Operand.tmp 89], argTypes := #[3] }, type := 4, pos := _, after := #[{ on := 17, ground := Ground.data }, { on := 15, ground := Ground.chain }, { on := 13, ground := Ground.guard }], guard := Option.some (13, Bool.true) }) rfl (fun K hK => ?_) AllReadyH.nil
  go_simp
  (first | (go_at_call 13; refine (H5.out _).mono ?_; rintro e w' ⟨rfl, hb'⟩) | (go_at_call 10; refine (term_any st c v d _ b1 o1 b2 o2 (rulesOf (by assumption))).mono ?_; rintro e w' ⟨rfl, hb'⟩) | (go_at_call 14; refine (rterm_any st _).mono ?_; rintro e w' ⟨rfl, hb'⟩) | (go_at_call 15; refine (exp_any st c v d now _ b1 o1 b2 o2 (rulesOf (by assumption))).mono ?_; rintro e w' ⟨rfl, hb'⟩) | (go_at_call 16; refine (rexp_any st c v d now _).mono ?_; rintro e w' ⟨rfl, hb'⟩) | (go_at_call 6; refine (new_any d' _).mono ?_; rintro e w' ⟨rfl, hb'⟩))
  refine hK.out _ _ (by exact keepT hb' (by assumption)) (fun hHeld => ?_)
  clear hK K
  try simp only [Act.put, List.setIfInBounds_toArray, List.set_cons_zero, List.set_cons_succ]
  refine wpAnyH_take (i := 19) (oi := { dst := Option.some 91, op := Op.binOp BinOp.eql 4 (Operand.tmp 87) (Operand.tmp 90) 4, type := 4, pos := _, after := #[{ on := 15, ground := Ground.data }, { on := 18, ground := Ground.data }, { on := 13, ground := Ground.guard }], guard := Option.some (13, Bool.true) }) (v := ?_) rfl (by kernel_rfl) (by kernel_rfl) (by kernel_rfl) (fun _ _ _ h => h) (Or.inl ⟨by rfl, ?_⟩) (by assumption) ?_
  rotate_left
  · (intro wS hSw; (try dsimp only at hSw); go_simp; try with_reducible rfl)
  try simp only [Act.put, List.setIfInBounds_toArray, List.set_cons_zero, List.set_cons_succ]
  refine wpAnyH_take (i := 20) (oi := { dst := Option.some 92, op := Op.pick (Operand.tmp 85) (Operand.tmp 91) (Operand.const (Value.bool Bool.false)), type := 4, pos := _, after := #[{ on := 13, ground := Ground.data }, { on := 19, ground := Ground.data }], guard := Option.none }) (v := ?_) rfl (by kernel_rfl) (by kernel_rfl) (by kernel_rfl) (fun _ _ _ h => h) (Or.inl ⟨by rfl, ?_⟩) (by assumption) ?_
  rotate_left
  · (intro wS hSw; (try dsimp only at hSw); go_simp; try with_reducible rfl)
  try simp only [Act.put, List.setIfInBounds_toArray, List.set_cons_zero, List.set_cons_succ]
  refine wpAnyH_take (i := 21) (oi := { dst := Option.some 93, op := Op.move (Operand.tmp 92), type := 4, pos := _, after := #[{ on := 20, ground := Ground.data }, { on := 18, ground := Ground.chain }], guard := Option.none }) (v := ?_) rfl (by kernel_rfl) (by kernel_rfl) (by kernel_rfl) (fun _ _ _ h => h) (Or.inl ⟨by rfl, ?_⟩) (by assumption) ?_
  rotate_left
  · (intro wS hSw; (try dsimp only at hSw); go_simp; try with_reducible rfl)
  try simp only [Act.put, List.setIfInBounds_toArray, List.set_cons_zero, List.set_cons_succ]
  refine wpAnyH_take (i := 22) (oi := { dst := Option.some 94, op := Op.load 25 (Operand.tmp 6), type := 25, pos := _, after := #[{ on := 21, ground := Ground.guard }], guard := Option.some (21, Bool.true) }) (v := ?_) rfl (by kernel_rfl) (by kernel_rfl) (by kernel_rfl) (fun _ _ _ h => h) (Or.inl ⟨by rfl, ?_⟩) (by assumption) ?_
  rotate_left
  · (intro wS hSw; (try dsimp only at hSw); go_simp; try with_reducible rfl)
  try simp only [Act.put, List.setIfInBounds_toArray, List.set_cons_zero, List.set_cons_succ]
  refine wpAnyH_take (i := 23) (oi := { dst := Option.some 95, op := Op.move (Operand.tmp 5), type := 2, pos := _, after := #[{ on := 21, ground := Ground.guard }], guard := Option.some (21, Bool.true) }) (v := ?_) rfl (by kernel_rfl) (by kernel_rfl) (by kernel_rfl) (fun _ _ _ h => h) (Or.inl ⟨by rfl, ?_⟩) (by assumption) ?_
  rotate_left
  · (intro wS hSw; (try dsimp only at hSw); go_simp; try with_reducible rfl)
  try simp only [Act.put, List.setIfInBounds_toArray, List.set_cons_zero, List.set_cons_succ]
  refine wpAnyH_take (i := 25) (oi := { dst := Option.some 97, op := Op.load 25 (Operand.tmp 6), type := 25, pos := _, after := #[{ on := 21, ground := Ground.guard }], guard := Option.some (21, Bool.true) }) (v := ?_) rfl (by kernel_rfl) (by kernel_rfl) (by kernel_rfl) (fun _ _ _ h => h) (Or.inl ⟨by rfl, ?_⟩) (by assumption) ?_
  rotate_left
  · (intro wS hSw; (try dsimp only at hSw); go_simp; try with_reducible rfl)
  try simp only [Act.put, List.setIfInBounds_toArray, List.set_cons_zero, List.set_cons_succ]
  refine wpAnyH_take (i := 26) (oi := { dst := Option.some 98, op := Op.move (Operand.tmp 5), type := 2, pos := _, after := #[{ on := 21, ground := Ground.guard }], guard := Option.some (21, Bool.true) }) (v := ?_) rfl (by kernel_rfl) (by kernel_rfl) (by kernel_rfl) (fun _ _ _ h => h) (Or.inl ⟨by rfl, ?_⟩) (by assumption) ?_
  rotate_left
  · (intro wS hSw; (try dsimp only at hSw); go_simp; try with_reducible rfl)
  try simp only [Act.put, List.setIfInBounds_toArray, List.set_cons_zero, List.set_cons_succ]
  refine wpAnyH_ready (rs := [24]) (by kernel_rfl) (by simp) ?_
  refine AllReadyH.cons (o := { dst := Option.some 96, op := Op.call { callee := Callee.value (Operand.func 15), args := #[Operand.tmp 94, Operand.tmp 95], argTypes := #[25, 2] }, type := 4, pos := _, after := #[{ on := 22, ground := Ground.data }, { on := 23, ground := Ground.data }, { on := 21, ground := Ground.chain }, { on := 21, ground := Ground.guard }], guard := Option.some (21, Bool.true) }) rfl (fun K hK => ?_) AllReadyH.nil
  go_simp
  (first | (go_at_call 13; refine (H5.out _).mono ?_; rintro e w' ⟨rfl, hb'⟩) | (go_at_call 10; refine (term_any st c v d _ b1 o1 b2 o2 (rulesOf (by assumption))).mono ?_; rintro e w' ⟨rfl, hb'⟩) | (go_at_call 14; refine (rterm_any st _).mono ?_; rintro e w' ⟨rfl, hb'⟩) | (go_at_call 15; refine (exp_any st c v d now _ b1 o1 b2 o2 (rulesOf (by assumption))).mono ?_; rintro e w' ⟨rfl, hb'⟩) | (go_at_call 16; refine (rexp_any st c v d now _).mono ?_; rintro e w' ⟨rfl, hb'⟩) | (go_at_call 6; refine (new_any d' _).mono ?_; rintro e w' ⟨rfl, hb'⟩))
  refine hK.out _ _ (by exact keepT hb' (by assumption)) (fun hHeld => ?_)
  clear hK K
  try simp only [Act.put, List.setIfInBounds_toArray, List.set_cons_zero, List.set_cons_succ]
  refine wpAnyH_ready (rs := [27]) (by kernel_rfl) (by simp) ?_
  refine AllReadyH.cons (o := { dst := Option.some 99, op := Op.call { callee := Callee.value (Operand.func 16), args := #[Operand.tmp 97, Operand.tmp 98], argTypes := #[25, 2] }, type := 4, pos := _, after := #[{ on := 25, ground := Ground.data }, { on := 26, ground := Ground.data }, { on := 24, ground := Ground.chain }, { on := 21, ground := Ground.guard }], guard := Option.some (21, Bool.true) }) rfl (fun K hK => ?_) AllReadyH.nil
  go_simp
  (first | (go_at_call 13; refine (H5.out _).mono ?_; rintro e w' ⟨rfl, hb'⟩) | (go_at_call 10; refine (term_any st c v d _ b1 o1 b2 o2 (rulesOf (by assumption))).mono ?_; rintro e w' ⟨rfl, hb'⟩) | (go_at_call 14; refine (rterm_any st _).mono ?_; rintro e w' ⟨rfl, hb'⟩) | (go_at_call 15; refine (exp_any st c v d now _ b1 o1 b2 o2 (rulesOf (by assumption))).mono ?_; rintro e w' ⟨rfl, hb'⟩) | (go_at_call 16; refine (rexp_any st c v d now _).mono ?_; rintro e w' ⟨rfl, hb'⟩) | (go_at_call 6; refine (new_any d' _).mono ?_; rintro e w' ⟨rfl, hb'⟩))
  refine hK.out _ _ (by exact keepT hb' (by assumption)) (fun hHeld => ?_)
  clear hK K
  try simp only [Act.put, List.setIfInBounds_toArray, List.set_cons_zero, List.set_cons_succ]
  refine wpAnyH_take (i := 28) (oi := { dst := Option.some 100, op := Op.binOp BinOp.eql 4 (Operand.tmp 96) (Operand.tmp 99) 4, type := 4, pos := _, after := #[{ on := 24, ground := Ground.data }, { on := 27, ground := Ground.data }, { on := 21, ground := Ground.guard }], guard := Option.some (21, Bool.true) }) (v := ?_) rfl (by kernel_rfl) (by kernel_rfl) (by kernel_rfl) (fun _ _ _ h => h) (Or.inl ⟨by rfl, ?_⟩) (by assumption) ?_
  rotate_left
  · (intro wS hSw; (try dsimp only at hSw); go_simp; try with_reducible rfl)
  try simp only [Act.put, List.setIfInBounds_toArray, List.set_cons_zero, List.set_cons_succ]
  refine wpAnyH_take (i := 29) (oi := { dst := Option.some 101, op := Op.pick (Operand.tmp 93) (Operand.tmp 100) (Operand.const (Value.bool Bool.false)), type := 4, pos := _, after := #[{ on := 21, ground := Ground.data }, { on := 28, ground := Ground.data }], guard := Option.none }) (v := ?_) rfl (by kernel_rfl) (by kernel_rfl) (by kernel_rfl) (fun _ _ _ h => h) (Or.inl ⟨by rfl, ?_⟩) (by assumption) ?_
  rotate_left
  · (intro wS hSw; (try dsimp only at hSw); go_simp; try with_reducible rfl)
  try simp only [Act.put, List.setIfInBounds_toArray, List.set_cons_zero, List.set_cons_succ]
  refine wpAnyH_take (i := 30) (oi := { dst := Option.some 102, op := Op.move (Operand.tmp 101), type := 4, pos := _, after := #[{ on := 29, ground := Ground.data }, { on := 27, ground := Ground.chain }], guard := Option.none }) (v := ?_) rfl (by kernel_rfl) (by kernel_rfl) (by kernel_rfl) (fun _ _ _ h => h) (Or.inl ⟨by rfl, ?_⟩) (by assumption) ?_
  rotate_left
  · (intro wS hSw; (try dsimp only at hSw); go_simp; try with_reducible rfl)
  try simp only [Act.put, List.setIfInBounds_toArray, List.set_cons_zero, List.set_cons_succ]
  refine wpAnyH_take (i := 31) (oi := { dst := Option.some 103, op := Op.move (Operand.tmp 4), type := 2, pos := _, after := #[{ on := 30, ground := Ground.guard }], guard := Option.some (30, Bool.true) }) (v := ?_) rfl (by kernel_rfl) (by kernel_rfl) (by kernel_rfl) (fun _ _ _ h => h) (Or.inl ⟨by rfl, ?_⟩) (by assumption) ?_
  rotate_left
  · (intro wS hSw; (try dsimp only at hSw); go_simp; try with_reducible rfl)
  try simp only [Act.put, List.setIfInBounds_toArray, List.set_cons_zero, List.set_cons_succ]
  refine wpAnyH_take (i := 33) (oi := { dst := Option.some 105, op := Op.move (Operand.tmp 4), type := 2, pos := _, after := #[{ on := 30, ground := Ground.guard }], guard := Option.some (30, Bool.true) }) (v := ?_) rfl (by kernel_rfl) (by kernel_rfl) (by kernel_rfl) (fun _ _ _ h => h) (Or.inl ⟨by rfl, ?_⟩) (by assumption) ?_
  rotate_left
  · (intro wS hSw; (try dsimp only at hSw); go_simp; try with_reducible rfl)
  try simp only [Act.put, List.setIfInBounds_toArray, List.set_cons_zero, List.set_cons_succ]
  refine wpAnyH_take (i := 34) (oi := { dst := Option.some 106, op := Op.build 25 #[(0, Operand.const (Value.int IntKind.i64 1)), (3, Operand.tmp 105)], type := 25, pos := _, after := #[{ on := 33, ground := Ground.data }, { on := 30, ground := Ground.guard }], guard := Option.some (30, Bool.true) }) (v := ?_) rfl (by kernel_rfl) (by kernel_rfl) (by kernel_rfl) (fun _ _ _ h => h) (Or.inl ⟨by rfl, ?_⟩) (by assumption) ?_
  rotate_left
  · (intro wS hSw; (try dsimp only at hSw); go_simp; try with_reducible rfl)
  try simp only [Act.put, List.setIfInBounds_toArray, List.set_cons_zero, List.set_cons_succ]
  refine wpAnyH_ready (rs := [32]) (by kernel_rfl) (by simp) ?_
  refine AllReadyH.cons (o := { dst := Option.some 104, op := Op.call { callee := Callee.value (Operand.func 6), args := #[Operand.tmp 103], argTypes := #[2] }, type := 25, pos := _, after := #[{ on := 31, ground := Ground.data }, { on := 30, ground := Ground.chain }, { on := 30, ground := Ground.guard }], guard := Option.some (30, Bool.true) }) rfl (fun K hK => ?_) AllReadyH.nil
  go_simp
  (first | (go_at_call 13; refine (H5.out _).mono ?_; rintro e w' ⟨rfl, hb'⟩) | (go_at_call 10; refine (term_any st c v d _ b1 o1 b2 o2 (rulesOf (by assumption))).mono ?_; rintro e w' ⟨rfl, hb'⟩) | (go_at_call 14; refine (rterm_any st _).mono ?_; rintro e w' ⟨rfl, hb'⟩) | (go_at_call 15; refine (exp_any st c v d now _ b1 o1 b2 o2 (rulesOf (by assumption))).mono ?_; rintro e w' ⟨rfl, hb'⟩) | (go_at_call 16; refine (rexp_any st c v d now _).mono ?_; rintro e w' ⟨rfl, hb'⟩) | (go_at_call 6; refine (new_any d' _).mono ?_; rintro e w' ⟨rfl, hb'⟩))
  refine hK.out _ _ (by exact keepT hb' (by assumption)) (fun hHeld => ?_)
  clear hK K
  try simp only [Act.put, List.setIfInBounds_toArray, List.set_cons_zero, List.set_cons_succ]
  refine wpAnyH_take (i := 35) (oi := { dst := Option.some 107, op := Op.binOp BinOp.eql 25 (Operand.tmp 104) (Operand.tmp 106) 25, type := 4, pos := _, after := #[{ on := 32, ground := Ground.data }, { on := 34, ground := Ground.data }, { on := 30, ground := Ground.guard }], guard := Option.some (30, Bool.true) }) (v := ?_) rfl (by kernel_rfl) (by kernel_rfl) (by kernel_rfl) (fun _ _ _ h => h) (Or.inl ⟨by rfl, ?_⟩) (by assumption) ?_
  rotate_left
  · (intro wS hSw; (try dsimp only at hSw); go_simp; try with_reducible rfl)
  try simp only [Act.put, List.setIfInBounds_toArray, List.set_cons_zero, List.set_cons_succ]
  refine wpAnyH_take (i := 36) (oi := { dst := Option.some 108, op := Op.pick (Operand.tmp 102) (Operand.tmp 107) (Operand.const (Value.bool Bool.false)), type := 4, pos := _, after := #[{ on := 30, ground := Ground.data }, { on := 35, ground := Ground.data }], guard := Option.none }) (v := ?_) rfl (by kernel_rfl) (by kernel_rfl) (by kernel_rfl) (fun _ _ _ h => h) (Or.inl ⟨by rfl, ?_⟩) (by assumption) ?_
  rotate_left
  · (intro wS hSw; (try dsimp only at hSw); go_simp; try with_reducible rfl)
  try simp only [Act.put, List.setIfInBounds_toArray, List.set_cons_zero, List.set_cons_succ]
  refine wpAnyH_take (i := 37) (oi := { dst := Option.some 12, op := Op.assign (Operand.tmp 108), type := 4, pos := _, after := #[{ on := 36, ground := Ground.data }, { on := 32, ground := Ground.chain }, { on := 0, ground := Ground.phase }, { on := 1, ground := Ground.phase }, { on := 2, ground := Ground.phase }, { on := 3, ground := Ground.phase }, { on := 4, ground := Ground.phase }, { on := 5, ground := Ground.phase }, { on := 6, ground := Ground.phase }, { on := 7, ground := Ground.phase }, { on := 8, ground := Ground.phase }, { on := 9, ground := Ground.phase }, { on := 10, ground := Ground.phase }, { on := 11, ground := Ground.phase }, { on := 12, ground := Ground.phase }, { on := 13, ground := Ground.phase }, { on := 14, ground := Ground.phase }, { on := 15, ground := Ground.phase }, { on := 16, ground := Ground.phase }, { on := 17, ground := Ground.phase }, { on := 18, ground := Ground.phase }, { on := 19, ground := Ground.phase }, { on := 20, ground := Ground.phase }, { on := 21, ground := Ground.phase }, { on := 22, ground := Ground.phase }, { on := 23, ground := Ground.phase }, { on := 24, ground := Ground.phase }, { on := 25, ground := Ground.phase }, { on := 26, ground := Ground.phase }, { on := 27, ground := Ground.phase }, { on := 28, ground := Ground.phase }, { on := 29, ground := Ground.phase }, { on := 30, ground := Ground.phase }, { on := 31, ground := Ground.phase }, { on := 32, ground := Ground.phase }, { on := 33, ground := Ground.phase }, { on := 34, ground := Ground.phase }, { on := 35, ground := Ground.phase }, { on := 36, ground := Ground.phase }], guard := Option.none }) (v := ?_) rfl (by kernel_rfl) (by kernel_rfl) (by kernel_rfl) (fun _ _ _ h => h) (Or.inl ⟨by rfl, ?_⟩) (by assumption) ?_
  rotate_left
  · (intro wS hSw; (try dsimp only at hSw); go_simp; try with_reducible rfl)
  try simp only [Act.put, List.setIfInBounds_toArray, List.set_cons_zero, List.set_cons_succ]
  refine wpAnyH_done (by kernel_rfl) ?_ _
  refine NoPanic.normal ?_

  go_wp2
  go_ret
  exact ⟨rfl, belowOf (by assumption)⟩
set_option maxHeartbeats 2000000 in
theorem tells_core1 (st c : Int) (v : ByteArray) (d st' c' : Int) (v' : ByteArray) (d' now : Int) (xs xc : Int) (xv : ByteArray) (xd : Int) (w : World) (b1 o1 b2 o2 : Nat) (h : RulesAt w b1 o1 b2 o2)
    (hk : chk st c v d = 1) (hr : rightB st c v d = false)
    (hx : setV st c v d st' c' v' d' = opV xs xc xv xd) :
    Calls Tryd.prog 4 #[opV st c v d, .int .i64 st', .int .i64 c', .string v', .int .i64 d', .int .i64 now] w fun e w' => e = .returned (.bool true) ∧ Below w.heap.size w w' := by
  have C2 : ∀ W, RulesAt W b1 o1 b2 o2 → Calls Tryd.prog 9 #[opV st c v d, .int .i64 st', .int .i64 c', .string v', .int .i64 d'] W fun e w' => e = .returned (.tuple #[opV xs xc xv xd, .int .i64 (setE st c v d st' c' v' d')]) ∧ Below W.heap.size W w' := by
    intro W hW
    have := settle_any st c v d st' c' v' d' W b1 o1 b2 o2 hW
    rwa [hx] at this
  have C3 : ∀ W, Calls Tryd.prog 12 #[opV st c v d, .int .i64 st', .int .i64 c', .string v', .int .i64 d'] W fun e w' => e = .returned (.tuple #[opV xs xc xv xd, .int .i64 (setE st c v d st' c' v' d')]) ∧ Below W.heap.size W w' := by
    intro W
    have := rsettle_any st c v d st' c' v' d' W
    rwa [hx] at this
  have C4 : ∀ W, RulesAt W b1 o1 b2 o2 → Calls Tryd.prog 7 #[opV st c v d] W fun e w' => e = .returned (.int .i64 1) ∧ Below W.heap.size W w' := by
    intro W hW
    have := check_any st c v d W b1 o1 b2 o2 hW
    rwa [hk] at this
  have C5 : ∀ W, Calls Tryd.prog 13 #[opV st c v d] W fun e w' => e = .returned (.bool false) ∧ Below W.heap.size W w' := by
    intro W
    have := right_any st c v d W
    rwa [hr] at this
  clear hx hk hr
  have H := Lib.hid h
  clear h
  have H2 := Lib.hid C2
  have H3 := Lib.hid C3
  have H4 := Lib.hid C4
  have H5 := Lib.hid C5
  clear C2 C3 C4 C5
  go_enter Tryd.func4, Tryd.ntmps4
  go_wp2_with fail
  refine (awake_any _ b1 o1 b2 o2 (H.out.below (bl1 _ _))).mono ?_
  rintro e w1 ⟨rfl, hb⟩
  have O1 := Lib.hid ((Own4.new w _ _ _ _ _).below hb)
  have HR1 := Lib.hid ((H.out.below (bl1 _ _)).below hb)
  have HB1 := Lib.hid ((bl1 w _).trans (hb.mono (bl1 w _).size))
  clear hb
  obtain ⟨p10, p11, p12, p13, g10, g11, g12, g13, y1⟩ := O1.out
  go_wp2_with fail
  refine (cancel_any st c v d _ b1 o1 b2 o2 HR1.out).mono ?_
  rintro e w2 ⟨rfl, hb⟩
  have O2 := Lib.hid (O1.out.below hb)
  have HR2 := Lib.hid (HR1.out.below hb)
  have HB2 := Lib.hid (HB1.out.trans (hb.mono HB1.out.size))
  clear hb
  obtain ⟨p20, p21, p22, p23, g20, g21, g22, g23, y2⟩ := O2.out
  go_wp2_with fail
  refine (rcancel_any st c v d _).mono ?_
  rintro e w3 ⟨rfl, hb⟩
  have O3 := Lib.hid ((O2.out.alloc _).below hb)
  have O3a := Lib.hid ((Own4.new w2 _ _ _ _ _).below hb)
  have HR3 := Lib.hid ((HR2.out.below (bl1 _ _)).below hb)
  have HB3 := Lib.hid ((HB2.out.trans ((bl1 w2 _).mono HB2.out.size)).trans (hb.mono (Nat.le_trans HB2.out.size (bl1 w2 _).size)))
  clear hb
  obtain ⟨p30, p31, p32, p33, g30, g31, g32, g33, y3⟩ := O3.out
  go_wp2_with fail
  refine (H2.out _ (HR3.out.below (bl1 _ _))).mono ?_
  rintro e w4 ⟨rfl, hb⟩
  have O4 := Lib.hid ((O3.out.alloc _).below hb)
  have O4a := Lib.hid ((O3a.out.alloc _).below hb)
  have O4b := Lib.hid ((Own4.new w3 _ _ _ _ _).below hb)
  have HR4 := Lib.hid ((HR3.out.below (bl1 _ _)).below hb)
  have HB4 := Lib.hid ((HB3.out.trans ((bl1 w3 _).mono HB3.out.size)).trans (hb.mono (Nat.le_trans HB3.out.size (bl1 w3 _).size)))
  clear hb
  obtain ⟨p40, p41, p42, p43, g40, g41, g42, g43, y4⟩ := O4.out
  go_wp2_with fail
  refine (H3.out _).mono ?_
  rintro e w5 ⟨rfl, hb⟩
  have O5 := Lib.hid ((O4.out.alloc _).below hb)
  have O5a := Lib.hid ((O4a.out.alloc _).below hb)
  have O5b := Lib.hid ((O4b.out.alloc _).below hb)
  have O5c := Lib.hid ((Own4.new w4 _ _ _ _ _).below hb)
  have HR5 := Lib.hid ((HR4.out.below (bl1 _ _)).below hb)
  have HB5 := Lib.hid ((HB4.out.trans ((bl1 w4 _).mono HB4.out.size)).trans (hb.mono (Nat.le_trans HB4.out.size (bl1 w4 _).size)))
  clear hb
  clear p10 p11 p12 p13 g10 g11 g12 g13 y1 p20 p21 p22 p23 g20 g21 g22 g23 y2 p30 p31 p32 p33 g30 g31 g32 g33 y3 p40 p41 p42 p43 g40 g41 g42 g43 y4
  obtain ⟨p0, p1, p2, p3, g0, g1, g2, g3, y⟩ := O5.out
  obtain ⟨pa0, pa1, pa2, pa3, ga0, ga1, ga2, ga3, ya⟩ := O5a.out
  obtain ⟨pb0, pb1, pb2, pb3, gb0, gb1, gb2, gb3, yb⟩ := O5b.out
  obtain ⟨pc0, pc1, pc2, pc3, gc0, gc1, gc2, gc3, yc⟩ := O5c.out
  go_wp2_with fail
  refine (H4.out _ (HR5.out.below (bl1 _ _))).mono ?_
  rintro e w6 ⟨rfl, hb⟩
  have O6 := Lib.hid ((O5.out.alloc _).below hb)
  have HR6 := Lib.hid ((HR5.out.below (bl1 _ _)).below hb)
  have HB6 := Lib.hid ((HB5.out.trans ((bl1 w5 _).mono HB5.out.size)).trans (hb.mono (Nat.le_trans HB5.out.size (bl1 w5 _).size)))
  clear hb
  clear p0 p1 p2 p3 g0 g1 g2 g3 y pa0 pa1 pa2 pa3 ga0 ga1 ga2 ga3 ya pb0 pb1 pb2 pb3 gb0 gb1 gb2 gb3 yb pc0 pc1 pc2 pc3 gc0 gc1 gc2 gc3 yc
  obtain ⟨p0, p1, p2, p3, g0, g1, g2, g3, y⟩ := O6.out
  go_wp2_with fail
  go_region_held3 (fun w' => (w'.cell? ⟨w.heap.size, 0, none⟩ = some (.int .i64 st) ∧ w'.cell? ⟨w.heap.size, 1, none⟩ = some (.int .i64 c) ∧ w'.cell? ⟨w.heap.size, 2, none⟩ = some (.string v) ∧ w'.cell? ⟨w.heap.size, 3, none⟩ = some (.int .i64 d)) ∧ Hid (Own4 w' w.heap.size (.int .i64 st) (.int .i64 c) (.string v) (.int .i64 d)) ∧ Hid (RulesAt w' b1 o1 b2 o2) ∧ Hid (Below w.heap.size w w'))
    (first | exact keepS O6 HR6 HB6 ((Below.refl _ _).drew) | exact keepT hb' (by assumption))
    ((first | (go_at_call 13; refine (H5.out _).mono ?_; rintro e w' ⟨rfl, hb'⟩) | (go_at_call 10; refine (term_any st c v d _ b1 o1 b2 o2 (rulesOf (by assumption))).mono ?_; rintro e w' ⟨rfl, hb'⟩) | (go_at_call 14; refine (rterm_any st _).mono ?_; rintro e w' ⟨rfl, hb'⟩) | (go_at_call 15; refine (exp_any st c v d now _ b1 o1 b2 o2 (rulesOf (by assumption))).mono ?_; rintro e w' ⟨rfl, hb'⟩) | (go_at_call 16; refine (rexp_any st c v d now _).mono ?_; rintro e w' ⟨rfl, hb'⟩) | (go_at_call 6; refine (new_any d' _).mono ?_; rintro e w' ⟨rfl, hb'⟩)))

  go_wp2
  go_ret
  exact ⟨rfl, belowOf (by assumption)⟩

theorem tells_any (st c : Int) (v : ByteArray) (d st' c' : Int) (v' : ByteArray) (d' now : Int) (w : World) (b1 o1 b2 o2 : Nat) (h : RulesAt w b1 o1 b2 o2) :
    Calls Tryd.prog 4 #[opV st c v d, .int .i64 st', .int .i64 c', .string v', .int .i64 d', .int .i64 now] w fun e w' => e = .returned (.bool true) ∧ Below w.heap.size w w' := by
  have hx : ∃ xs xc xv xd, setV st c v d st' c' v' d' = opV xs xc xv xd := by
    unfold setV
    split
    · exact ⟨_, _, _, _, rfl⟩
    · exact ⟨_, _, _, _, rfl⟩
  obtain ⟨xs, xc, xv, xd, hx⟩ := hx
  rcases chk_01 st c v d with hk | hk
  · exact tells_core0 st c v d st' c' v' d' now xs xc xv xd w b1 o1 b2 o2 h hk (chk_0 hk) hx
  · exact tells_core1 st c v d st' c' v' d' now xs xc xv xd w b1 o1 b2 o2 h hk (chk_1 hk) hx
end Go.Proofs.YtfnfbnfjgpfmfaaDoor
