/-
  'WalApart' (the walk).
-/
import Derived.Test.YtkpoecofblhggaaGreatDoorRy
import Derived.Deep.QuietTactic
import Derived.Deep.RegionHeld3
namespace Go.Proofs.YtkpoecofblhggaaGreatDoor
open Go.RowKit Go.Maps

theorem held_rc : Tryz.prog.stoodInHeld 38 = false := by kernel_rfl
theorem guard_rc : Tryz.prog.eqGuardType Tryz.prog.depth 38 = false := by kernel_rfl
theorem und_rc : Tryz.prog.underlying 38 = some (.struct (Tryz.prog.fieldsOf 38)) := by kernel_rfl
theorem rec_neq (n : Int) (y : ByteArray) (W : World) : (binOp .neq 38 (.agg #[.int .i64 n, .string y]) (.agg #[.int .i64 n, .string y])).run Tryz.prog W = .ok (.bool false) W := by
  rw [run_neq_struct, run_equalIn_agg W 9999 _ _ _ und_rc held_rc]
  simp [go_sem]
theorem rec_guard (n : Int) (y : ByteArray) (X Y : Operand) (W : World) : (eqGuard .neq 38 X Y (.agg #[.int .i64 n, .string y]) (.agg #[.int .i64 n, .string y])).run Tryz.prog W = .ok () W := run_eqGuard_agg W _ _ _ _ _ _ guard_rc
theorem bool_no {b : Bool} (h : ¬ b = true) : b = false := by simpa using h
set_option maxRecDepth 100000 in
set_option maxHeartbeats 8000000 in
theorem walApart_any (w : World) (la : Option Addr) (lc : Nat) (l : List Act) (hl : l.length ≤ 9223372036854775807) (hla : ActsAt w la l) (ka : Option Addr) (kc : Nat) (k : List Act) (hk : k.length ≤ 9223372036854775807) (hka : ActsAt w ka k) :
    Calls Tryz.prog 6 #[.slice la l.length lc, .slice ka k.length kc] w fun e w' => e = .returned (.bool true) ∧ Below w.heap.size w w' := by
  have HL := Lib.hid hla
  have HK := Lib.hid hka
  clear hla hka
  have HGL := Lib.hid (fun (V : World) (h : Below w.heap.size w V) => great_any V la lc l hl (HL.out.below h))
  have HGK := Lib.hid (fun (V : World) (h : Below w.heap.size w V) => great_any V ka kc k hk (HK.out.below h))
  go_enter Tryz.func6, Tryz.ntmps6
  go_wp2_with fail
  refine (awake_any _).mono ?_
  rintro e w0 ⟨rfl, hb0⟩
  have HB0 := Lib.hid hb0
  clear hb0
  by_cases hg1 : greatB l = true
  · have HGL' := Lib.hid (HGL.out w0 HB0.out)
    rw [hg1] at HGL'
    go_wp2_with fail
    refine HGL'.out.mono ?_
    rintro e w1 ⟨rfl, hb1⟩
    have HB1 := Lib.hid (HB0.out.trans (hb1.mono HB0.out.size))
    clear hb1 HGL'
    go_wp2_with fail
    go_ret
    exact ⟨rfl, HB1.out⟩
  have HGL' := Lib.hid (HGL.out w0 HB0.out)
  rw [bool_no hg1] at HGL'
  go_wp2_with fail
  refine HGL'.out.mono ?_
  rintro e w1 ⟨rfl, hb1⟩
  have HB1 := Lib.hid (HB0.out.trans (hb1.mono HB0.out.size))
  clear hb1 HGL'
  by_cases hg2 : greatB k = true
  · have HGK' := Lib.hid (HGK.out w1 HB1.out)
    rw [hg2] at HGK'
    go_wp2_with fail
    refine HGK'.out.mono ?_
    rintro e w2 ⟨rfl, hb2⟩
    have HB2 := Lib.hid (HB1.out.trans (hb2.mono HB1.out.size))
    clear hb2 HGK'
    go_wp2_with fail
    go_ret
    exact ⟨rfl, HB2.out⟩
  have HGK' := Lib.hid (HGK.out w1 HB1.out)
  rw [bool_no hg2] at HGK'
  go_wp2_with fail
  refine HGK'.out.mono ?_
  rintro e w2 ⟨rfl, hb2⟩
  have HB2 := Lib.hid (HB1.out.trans (hb2.mono HB1.out.size))
  clear hb2 HGK' HGL HGK
  by_cases hl1 : 20 < l.length
  · go_wp2_with fail
    go_ret
    exact ⟨rfl, HB2.out⟩
  by_cases hk1 : 20 < k.length
  · go_wp2_with fail
    go_ret
    exact ⟨rfl, HB2.out⟩
  have HSL := Lib.hid (show Small l from ⟨by omega, fun a ha => ⟨((great_no (bool_no hg1)).2.1 a ha).1, (HL.out.ok a ha).tm⟩, (great_no (bool_no hg1)).2.2⟩)
  have HSK := Lib.hid (show Small k from ⟨by omega, fun a ha => ⟨((great_no (bool_no hg2)).2.1 a ha).1, (HK.out.ok a ha).tm⟩, (great_no (bool_no hg2)).2.2⟩)
  clear hg1 hg2
  have H3 := Lib.hid (fun (V : World) (h : Below w2.heap.size w2 V) => In.new (w0 := w) (w := V) (HB2.out.trans (h.mono HB2.out.size)))
  go_wp2_with fail
  refine (H3.out _ (Below.refl _ _)).mono ?_
  rintro e w3 ⟨rfl, h3⟩
  have H4 := Lib.hid h3.two
  clear h3 H3
  go_wp2_with fail
  refine H4.out.mono ?_
  rintro e w4 ⟨rfl, h4⟩
  have H5 := Lib.hid (h4.create (s := bsA) (by decide) mine_create.1 mine_create.2)
  clear h4 H4
  generalize w3.heap.size + 1 = dc at *
  generalize w3.heap.size = mc at *
  generalize w2.heap.size + 1 = db at *
  generalize w2.heap.size = m at *
  go_wp2_with fail
  refine H5.out.mono ?_
  rintro e w5 ⟨rfl, h5⟩
  have H6 := Lib.hid (h5.append (s := bsA) (x := bsMine) (by decide) (by decide) mine_append.1 mine_append.2)
  clear h5 H5
  go_wp2_with fail
  refine H6.out.mono ?_
  rintro e w6 ⟨rfl, h6⟩
  have H7 := Lib.hid (h6.open1 (log := bsA) (sim_mine apart_ab.na) apart_ab.oa (by decide) (by decide))
  clear h6 H6
  go_wp2_with fail
  refine H7.out.mono ?_
  rintro e w7 ⟨b1, ⟨v7, rfl, a7, n7, k7, rfl⟩, h7⟩
  have H8 := Lib.hid (h7.open2 (log := bsAb) sim_ab_A apart_ab.ob (Nat.le_trans len_dA (by decide)) (by decide))
  clear h7 H7
  go_wp2_with fail
  refine H8.out.mono ?_
  rintro e w8 ⟨b2, ⟨v8, rfl, a8, n8, k8, rfl⟩, h8⟩
  have H9 := Lib.hid (h8.open3 (log := bsA) sim_d0 apart_ab.oa (by decide) (by decide))
  clear h8 H8
  go_wp2_with fail
  refine H9.out.mono ?_
  rintro e w9 ⟨b3, ⟨v9, rfl, a9, n9, k9, rfl⟩, h9⟩
  have HI0 := Lib.hid (show WaS w w9 b1 b2 b3 db m dc mc l k 0 0 from ⟨_, _, _, _, _, (cOf_eq ▸ h9), duo_start⟩)
  clear h9 H9
  go_wp2_with fail
  go_loopw [16] (fun vi wr => ∃ i : Nat, i ≤ max l.length k.length ∧ vi = .int .i64 i ∧ Hid (WaS w wr b1 b2 b3 db m dc mc l k (min i l.length) (min i k.length))) (fun vi _ => max l.length k.length - (intOf vi).toNat)
  case atStart => exact ⟨0, Nat.zero_le _, rfl, by rw [Nat.zero_min, Nat.zero_min]; exact HI0⟩
  case round =>
    clear HI0
    obtain ⟨i, hi, rfl, HI⟩ := hrel
    by_cases hik : i < k.length
    · rw [Nat.min_eq_left (Nat.le_of_lt hik)] at HI
      have HW := Lib.hid (HI.out.two HSL.out HSK.out (Nat.min_le_right _ _) hik)
      obtain ⟨lb, lo, rfl, hc⟩ := HK.out.cells (by omega)
      have hcc : ∀ j v, k[i].vals[j]? = some v → wr.cell? ⟨lb, lo + i * 5 + j, none⟩ = some v := fun j v h => (HI.out.bel.cell (p := ⟨lb, lo + i * 5 + j, none⟩) (cell_lt (hc i hik j v h))).trans (hc i hik j v h)
      have q0 : wr.cell? ⟨lb, lo + i * 5, none⟩ = _ := hcc 0 _ rfl
      have q1 := hcc 1 _ rfl
      have q2 := hcc 2 _ rfl
      have q3 := hcc 3 _ rfl
      have q4 := hcc 4 _ rfl
      clear hc hcc
      unfold actV at HW
      generalize k[i] = a at *
      by_cases hil : i < l.length
      · go_wp2_with fail
        refine HW.out.mono ?_
        rintro e wa ⟨⟨E0, rfl⟩, hs⟩
        have HS := Lib.hid hs
        clear hs HW HI q0 q1 q2 q3 q4
        obtain ⟨lb2, lo2, rfl, hc2⟩ := HL.out.cells (by omega)
        have HCC := Lib.hid (show ∀ V, Below w.heap.size w V → V.cell? ⟨lb2, lo2 + i * 5, none⟩ = some (.int .i64 l[i].dw) ∧ V.cell? ⟨lb2, lo2 + i * 5 + 1, none⟩ = some (.string l[i].body) ∧ V.cell? ⟨lb2, lo2 + i * 5 + 2, none⟩ = some (.int .u8 l[i].tm) ∧ V.cell? ⟨lb2, lo2 + i * 5 + 3, none⟩ = some (.int .i64 l[i].n) ∧ V.cell? ⟨lb2, lo2 + i * 5 + 4, none⟩ = some (.slice l[i].ka l[i].kn l[i].kc) from fun V hV => by
          have hcc : ∀ j v, l[i].vals[j]? = some v → V.cell? ⟨lb2, lo2 + i * 5 + j, none⟩ = some v := fun j v h => (hV.cell (p := ⟨lb2, lo2 + i * 5 + j, none⟩) (cell_lt (hc2 i hil j v h))).trans (hc2 i hil j v h)
          exact ⟨hcc 0 _ rfl, hcc 1 _ rfl, hcc 2 _ rfl, hcc 3 _ rfl, hcc 4 _ rfl⟩)
        clear hc2
        rw [Nat.min_eq_left (Nat.le_of_lt hil)] at HS
        have HV := Lib.hid (fun (V : World) (h : Below wa.heap.size wa V) => (HS.out.quiet h).one HSL.out HSK.out hil hik)
        have HX := Lib.hid (fun (V : World) (E : Int) (h : WaH w V b1 b2 b3 db m dc mc l k i (i + 1) l[i] E) => WaH.twin hil h HSL.out HSK.out hik)
        have HT := Lib.hid (fun (V : World) (h : WaS w V b1 b2 b3 db m dc mc l k (i + 1) (i + 1)) => h.tells HSL.out hil)
        have HB := Lib.hid HS.out.bel
        obtain ⟨r0, r1, r2, r3, r4⟩ := HCC.out _ HS.out.bel
        unfold actV at HV HX
        generalize l[i] = a2 at *
        have HD := Lib.hid (show Below w.heap.size w wa.drew from HB.out.drew)
        have HV' := Lib.hid (HV.out wa.drew (Below.refl _ _).drew)
        clear HV r0 r1 r2 r3 r4
        go_wp2_with fail
        go_region_held3 (fun w' => w'.cell? ⟨lb2, lo2 + i * 5, none⟩ = some (.int .i64 a2.dw) ∧ w'.cell? ⟨lb2, lo2 + i * 5 + 1, none⟩ = some (.string a2.body) ∧ w'.cell? ⟨lb2, lo2 + i * 5 + 2, none⟩ = some (.int .u8 a2.tm) ∧ w'.cell? ⟨lb2, lo2 + i * 5 + 3, none⟩ = some (.int .i64 a2.n) ∧ w'.cell? ⟨lb2, lo2 + i * 5 + 4, none⟩ = some (.slice a2.ka a2.kn a2.kc))
          (first | exact HCC.out _ HD.out | exact HCC.out _ hh1.bel | exact HCC.out _ hs2.bel | assumption)
          (first
            | (go_at_call 23; ((with_reducible refine HV'.out.mono ?_); rintro e w1 ⟨E, rfl, hh1⟩))
            | (go_at_call 23; ((with_reducible refine (HX.out _ _ hh1).mono ?_); rintro e w2 ⟨rfl, hs2⟩; obtain ⟨n, p, t1, t2, t3, t4⟩ := HT.out _ hs2))
            | (go_at_call 17; ((with_reducible refine t3.mono ?_); rintro e w3 ⟨rfl, rfl⟩))
            | (go_at_call 17; ((with_reducible refine t4.mono ?_); rintro e w3 ⟨rfl, rfl⟩))
            | (go_at_call 16; ((with_reducible refine t1.mono ?_); rintro e w3 ⟨rfl, rfl⟩))
            | (go_at_call 16; ((with_reducible refine t2.mono ?_); rintro e w3 ⟨rfl, rfl⟩)))
        all_goals
          have HN := Lib.hid (show WaS w w2 b1 b2 b3 db m dc mc l k (min (i + 1) l.length) (min (i + 1) k.length) from by rw [show min (i + 1) l.length = i + 1 by omega, show min (i + 1) k.length = (i + 1) by omega]; exact hs2)
          have hi2 : i + 1 ≤ max l.length k.length := by omega
          clear hs2 hh1 t1 t2 t3 t4
          go_wp2_with fail
          go_roundw
          case rel => exact ⟨i + 1, hi2, by go_num, HN⟩
          case measure => simp [intOf]; omega
      · go_wp2_with fail
        refine HW.out.mono ?_
        rintro e wa ⟨⟨E0, rfl⟩, hs⟩
        have HN := Lib.hid (show WaS w wa b1 b2 b3 db m dc mc l k (min (i + 1) l.length) (min (i + 1) k.length) from by rw [show min (i + 1) l.length = min i l.length by omega, show min (i + 1) k.length = i + 1 by omega]; exact hs)
        clear hs HW HI q0 q1 q2 q3 q4
        have hnil : decide ((i : Int) < (l.length : Int)) = false := by rw [decide_eq_false_iff_not]; omega
        have hi2 : i + 1 ≤ max l.length k.length := by omega
        go_wp2_with fail
        refine wp_region_noPanic ?_
        refine wp_region_held_drew (S := (fun _ => True)) (by kernel_rfl) (by exact trivial) (fun hHeld => ?_)
        refine wpAnyH_take (i := 0) (oi := { dst := Option.some 101, op := Op.move (Operand.tmp 16), type := 3, pos := _, after := #[], guard := Option.none }) (v := ?_) rfl (by kernel_rfl) (by kernel_rfl) (by kernel_rfl) (fun _ _ _ h => h) (Or.inl ⟨by rfl, ?_⟩) (by assumption) ?_
        rotate_left
        · (intro wS hSw; (try dsimp only at hSw); go_simp; try with_reducible rfl)
        try simp only [Act.put, List.setIfInBounds_toArray, List.set_cons_zero, List.set_cons_succ]
        refine wpAnyH_take (i := 1) (oi := { dst := Option.some 102, op := Op.move (Operand.tmp 0), type := 48, pos := _, after := #[], guard := Option.none }) (v := ?_) rfl (by kernel_rfl) (by kernel_rfl) (by kernel_rfl) (fun _ _ _ h => h) (Or.inl ⟨by rfl, ?_⟩) (by assumption) ?_
        rotate_left
        · (intro wS hSw; (try dsimp only at hSw); go_simp; try with_reducible rfl)
        try simp only [Act.put, List.setIfInBounds_toArray, List.set_cons_zero, List.set_cons_succ]
        refine wpAnyH_take (i := 2) (oi := { dst := Option.some 103, op := Op.call { callee := Callee.builtin Builtin.len, args := #[Operand.tmp 102], argTypes := #[48] }, type := 3, pos := _, after := #[{ on := 1, ground := Ground.data }], guard := Option.none }) (v := ?_) rfl (by kernel_rfl) (by kernel_rfl) (by kernel_rfl) (fun _ _ _ h => h) (Or.inl ⟨by rfl, ?_⟩) (by assumption) ?_
        rotate_left
        · (intro wS hSw; (try dsimp only at hSw); go_simp; try with_reducible rfl)
        try simp only [Act.put, List.setIfInBounds_toArray, List.set_cons_zero, List.set_cons_succ]
        refine wpAnyH_take (i := 3) (oi := { dst := Option.some 104, op := Op.binOp BinOp.lss 3 (Operand.tmp 101) (Operand.tmp 103) 3, type := 4, pos := _, after := #[{ on := 0, ground := Ground.data }, { on := 2, ground := Ground.data }], guard := Option.none }) (v := ?_) rfl (by kernel_rfl) (by kernel_rfl) (by kernel_rfl) (fun _ _ _ h => h) (Or.inl ⟨by rfl, ?_⟩) (by assumption) ?_
        rotate_left
        · (intro wS hSw; (try dsimp only at hSw); go_simp; try with_reducible rfl)
        try simp only [Act.put, List.setIfInBounds_toArray, List.set_cons_zero, List.set_cons_succ]
        refine wpAnyH_take (i := 4) (oi := { dst := Option.some 105, op := Op.move (Operand.tmp 104), type := 4, pos := _, after := #[{ on := 3, ground := Ground.data }], guard := Option.none }) (v := ?_) rfl (by kernel_rfl) (by kernel_rfl) (by kernel_rfl) (fun _ _ _ h => h) (Or.inl ⟨by rfl, ?_⟩) (by assumption) ?_
        rotate_left
        · (intro wS hSw; (try dsimp only at hSw); go_simp; try with_reducible rfl)
        try simp only [Act.put, List.setIfInBounds_toArray, List.set_cons_zero, List.set_cons_succ]
        refine wpAnyH_take (i := 5) (oi := { dst := Option.some 106, op := Op.move (Operand.tmp 7), type := 27, pos := _, after := #[{ on := 4, ground := Ground.guard }], guard := Option.some (4, Bool.true) }) (v := undef) rfl (by kernel_rfl) (by kernel_rfl) (by kernel_rfl) (fun _ _ _ h => h) (Or.inr ⟨by rfl, rfl⟩) (by assumption) ?_
        try simp only [Act.put, List.setIfInBounds_toArray, List.set_cons_zero, List.set_cons_succ]
        refine wpAnyH_take (i := 6) (oi := { dst := Option.some 107, op := Op.move (Operand.tmp 0), type := 48, pos := _, after := #[{ on := 4, ground := Ground.guard }], guard := Option.some (4, Bool.true) }) (v := undef) rfl (by kernel_rfl) (by kernel_rfl) (by kernel_rfl) (fun _ _ _ h => h) (Or.inr ⟨by rfl, rfl⟩) (by assumption) ?_
        try simp only [Act.put, List.setIfInBounds_toArray, List.set_cons_zero, List.set_cons_succ]
        refine wpAnyH_take (i := 7) (oi := { dst := Option.some 108, op := Op.move (Operand.tmp 16), type := 3, pos := _, after := #[{ on := 4, ground := Ground.guard }], guard := Option.some (4, Bool.true) }) (v := undef) rfl (by kernel_rfl) (by kernel_rfl) (by kernel_rfl) (fun _ _ _ h => h) (Or.inr ⟨by rfl, rfl⟩) (by assumption) ?_
        try simp only [Act.put, List.setIfInBounds_toArray, List.set_cons_zero, List.set_cons_succ]
        refine wpAnyH_take (i := 8) (oi := { dst := Option.some 109, op := Op.indexAddr 48 (Operand.tmp 107) (Operand.tmp 108), type := 0, pos := _, after := #[{ on := 6, ground := Ground.data }, { on := 7, ground := Ground.data }, { on := 4, ground := Ground.guard }], guard := Option.some (4, Bool.true) }) (v := undef) rfl (by kernel_rfl) (by kernel_rfl) (by kernel_rfl) (fun _ _ _ h => h) (Or.inr ⟨by rfl, rfl⟩) (by assumption) ?_
        try simp only [Act.put, List.setIfInBounds_toArray, List.set_cons_zero, List.set_cons_succ]
        refine wpAnyH_take (i := 9) (oi := { dst := Option.some 110, op := Op.load 54 (Operand.tmp 109), type := 54, pos := _, after := #[{ on := 8, ground := Ground.data }, { on := 4, ground := Ground.guard }], guard := Option.some (4, Bool.true) }) (v := undef) rfl (by kernel_rfl) (by kernel_rfl) (by kernel_rfl) (fun _ _ _ h => h) (Or.inr ⟨by rfl, rfl⟩) (by assumption) ?_
        try simp only [Act.put, List.setIfInBounds_toArray, List.set_cons_zero, List.set_cons_succ]
        refine wpAnyH_take (i := 10) (oi := { dst := Option.some 111, op := Op.call { callee := Callee.value (Operand.func 23), args := #[Operand.tmp 106, Operand.tmp 110], argTypes := #[27, 54] }, type := 29, pos := _, after := #[{ on := 5, ground := Ground.data }, { on := 9, ground := Ground.data }, { on := 4, ground := Ground.chain }, { on := 4, ground := Ground.guard }], guard := Option.some (4, Bool.true) }) (v := undef) rfl (by kernel_rfl) (by kernel_rfl) (by kernel_rfl) (fun _ _ _ h => h) (Or.inr ⟨by rfl, rfl⟩) (by assumption) ?_
        try simp only [Act.put, List.setIfInBounds_toArray, List.set_cons_zero, List.set_cons_succ]
        refine wpAnyH_take (i := 11) (oi := { dst := Option.some 112, op := Op.move (Operand.tmp 13), type := 27, pos := _, after := #[{ on := 4, ground := Ground.guard }], guard := Option.some (4, Bool.true) }) (v := undef) rfl (by kernel_rfl) (by kernel_rfl) (by kernel_rfl) (fun _ _ _ h => h) (Or.inr ⟨by rfl, rfl⟩) (by assumption) ?_
        try simp only [Act.put, List.setIfInBounds_toArray, List.set_cons_zero, List.set_cons_succ]
        refine wpAnyH_take (i := 12) (oi := { dst := Option.some 113, op := Op.move (Operand.tmp 0), type := 48, pos := _, after := #[{ on := 4, ground := Ground.guard }], guard := Option.some (4, Bool.true) }) (v := undef) rfl (by kernel_rfl) (by kernel_rfl) (by kernel_rfl) (fun _ _ _ h => h) (Or.inr ⟨by rfl, rfl⟩) (by assumption) ?_
        try simp only [Act.put, List.setIfInBounds_toArray, List.set_cons_zero, List.set_cons_succ]
        refine wpAnyH_take (i := 13) (oi := { dst := Option.some 114, op := Op.move (Operand.tmp 16), type := 3, pos := _, after := #[{ on := 4, ground := Ground.guard }], guard := Option.some (4, Bool.true) }) (v := undef) rfl (by kernel_rfl) (by kernel_rfl) (by kernel_rfl) (fun _ _ _ h => h) (Or.inr ⟨by rfl, rfl⟩) (by assumption) ?_
        try simp only [Act.put, List.setIfInBounds_toArray, List.set_cons_zero, List.set_cons_succ]
        refine wpAnyH_take (i := 14) (oi := { dst := Option.some 115, op := Op.indexAddr 48 (Operand.tmp 113) (Operand.tmp 114), type := 0, pos := _, after := #[{ on := 12, ground := Ground.data }, { on := 13, ground := Ground.data }, { on := 4, ground := Ground.guard }], guard := Option.some (4, Bool.true) }) (v := undef) rfl (by kernel_rfl) (by kernel_rfl) (by kernel_rfl) (fun _ _ _ h => h) (Or.inr ⟨by rfl, rfl⟩) (by assumption) ?_
        try simp only [Act.put, List.setIfInBounds_toArray, List.set_cons_zero, List.set_cons_succ]
        refine wpAnyH_take (i := 15) (oi := { dst := Option.some 116, op := Op.load 54 (Operand.tmp 115), type := 54, pos := _, after := #[{ on := 14, ground := Ground.data }, { on := 4, ground := Ground.guard }], guard := Option.some (4, Bool.true) }) (v := undef) rfl (by kernel_rfl) (by kernel_rfl) (by kernel_rfl) (fun _ _ _ h => h) (Or.inr ⟨by rfl, rfl⟩) (by assumption) ?_
        try simp only [Act.put, List.setIfInBounds_toArray, List.set_cons_zero, List.set_cons_succ]
        refine wpAnyH_take (i := 16) (oi := { dst := Option.some 117, op := Op.call { callee := Callee.value (Operand.func 23), args := #[Operand.tmp 112, Operand.tmp 116], argTypes := #[27, 54] }, type := 29, pos := _, after := #[{ on := 11, ground := Ground.data }, { on := 15, ground := Ground.data }, { on := 10, ground := Ground.chain }, { on := 4, ground := Ground.guard }], guard := Option.some (4, Bool.true) }) (v := undef) rfl (by kernel_rfl) (by kernel_rfl) (by kernel_rfl) (fun _ _ _ h => h) (Or.inr ⟨by rfl, rfl⟩) (by assumption) ?_
        try simp only [Act.put, List.setIfInBounds_toArray, List.set_cons_zero, List.set_cons_succ]
        refine wpAnyH_take (i := 17) (oi := { dst := Option.some 118, op := Op.binOp BinOp.neq 29 (Operand.tmp 111) (Operand.tmp 117) 29, type := 4, pos := _, after := #[{ on := 10, ground := Ground.data }, { on := 16, ground := Ground.data }, { on := 4, ground := Ground.guard }], guard := Option.some (4, Bool.true) }) (v := undef) rfl (by kernel_rfl) (by kernel_rfl) (by kernel_rfl) (fun _ _ _ h => h) (Or.inr ⟨by rfl, rfl⟩) (by assumption) ?_
        try simp only [Act.put, List.setIfInBounds_toArray, List.set_cons_zero, List.set_cons_succ]
        refine wpAnyH_take (i := 18) (oi := { dst := Option.some 119, op := Op.move (Operand.tmp 118), type := 4, pos := _, after := #[{ on := 17, ground := Ground.data }, { on := 16, ground := Ground.chain }, { on := 4, ground := Ground.guard }], guard := Option.some (4, Bool.true) }) (v := undef) rfl (by kernel_rfl) (by kernel_rfl) (by kernel_rfl) (fun _ _ _ h => h) (Or.inr ⟨by rfl, rfl⟩) (by assumption) ?_
        try simp only [Act.put, List.setIfInBounds_toArray, List.set_cons_zero, List.set_cons_succ]
        refine wpAnyH_take (i := 19) (oi := { dst := Option.some 120, op := Op.move (Operand.tmp 7), type := 27, pos := _, after := #[{ on := 18, ground := Ground.guard }], guard := Option.some (18, Bool.false) }) (v := undef) rfl (by kernel_rfl) (by kernel_rfl) (by kernel_rfl) (fun _ _ _ h => h) (Or.inr ⟨by rfl, rfl⟩) (by assumption) ?_
        try simp only [Act.put, List.setIfInBounds_toArray, List.set_cons_zero, List.set_cons_succ]
        refine wpAnyH_take (i := 20) (oi := { dst := Option.some 121, op := Op.call { callee := Callee.value (Operand.func 17), args := #[Operand.tmp 120], argTypes := #[27] }, type := 3, pos := _, after := #[{ on := 19, ground := Ground.data }, { on := 18, ground := Ground.chain }, { on := 18, ground := Ground.guard }], guard := Option.some (18, Bool.false) }) (v := undef) rfl (by kernel_rfl) (by kernel_rfl) (by kernel_rfl) (fun _ _ _ h => h) (Or.inr ⟨by rfl, rfl⟩) (by assumption) ?_
        try simp only [Act.put, List.setIfInBounds_toArray, List.set_cons_zero, List.set_cons_succ]
        refine wpAnyH_take (i := 21) (oi := { dst := Option.some 122, op := Op.move (Operand.tmp 13), type := 27, pos := _, after := #[{ on := 18, ground := Ground.guard }], guard := Option.some (18, Bool.false) }) (v := undef) rfl (by kernel_rfl) (by kernel_rfl) (by kernel_rfl) (fun _ _ _ h => h) (Or.inr ⟨by rfl, rfl⟩) (by assumption) ?_
        try simp only [Act.put, List.setIfInBounds_toArray, List.set_cons_zero, List.set_cons_succ]
        refine wpAnyH_take (i := 22) (oi := { dst := Option.some 123, op := Op.call { callee := Callee.value (Operand.func 17), args := #[Operand.tmp 122], argTypes := #[27] }, type := 3, pos := _, after := #[{ on := 21, ground := Ground.data }, { on := 20, ground := Ground.chain }, { on := 18, ground := Ground.guard }], guard := Option.some (18, Bool.false) }) (v := undef) rfl (by kernel_rfl) (by kernel_rfl) (by kernel_rfl) (fun _ _ _ h => h) (Or.inr ⟨by rfl, rfl⟩) (by assumption) ?_
        try simp only [Act.put, List.setIfInBounds_toArray, List.set_cons_zero, List.set_cons_succ]
        refine wpAnyH_take (i := 23) (oi := { dst := Option.some 124, op := Op.binOp BinOp.neq 3 (Operand.tmp 121) (Operand.tmp 123) 3, type := 4, pos := _, after := #[{ on := 20, ground := Ground.data }, { on := 22, ground := Ground.data }, { on := 18, ground := Ground.guard }], guard := Option.some (18, Bool.false) }) (v := undef) rfl (by kernel_rfl) (by kernel_rfl) (by kernel_rfl) (fun _ _ _ h => h) (Or.inr ⟨by rfl, rfl⟩) (by assumption) ?_
        try simp only [Act.put, List.setIfInBounds_toArray, List.set_cons_zero, List.set_cons_succ]
        refine wpAnyH_take (i := 24) (oi := { dst := Option.some 125, op := Op.pick (Operand.tmp 119) (Operand.const (Value.bool Bool.true)) (Operand.tmp 124), type := 4, pos := _, after := #[{ on := 18, ground := Ground.data }, { on := 23, ground := Ground.data }, { on := 4, ground := Ground.guard }], guard := Option.some (4, Bool.true) }) (v := undef) rfl (by kernel_rfl) (by kernel_rfl) (by kernel_rfl) (fun _ _ _ h => h) (Or.inr ⟨by rfl, rfl⟩) (by assumption) ?_
        try simp only [Act.put, List.setIfInBounds_toArray, List.set_cons_zero, List.set_cons_succ]
        refine wpAnyH_take (i := 25) (oi := { dst := Option.some 126, op := Op.move (Operand.tmp 125), type := 4, pos := _, after := #[{ on := 24, ground := Ground.data }, { on := 22, ground := Ground.chain }, { on := 4, ground := Ground.guard }], guard := Option.some (4, Bool.true) }) (v := undef) rfl (by kernel_rfl) (by kernel_rfl) (by kernel_rfl) (fun _ _ _ h => h) (Or.inr ⟨by rfl, rfl⟩) (by assumption) ?_
        try simp only [Act.put, List.setIfInBounds_toArray, List.set_cons_zero, List.set_cons_succ]
        refine wpAnyH_take (i := 26) (oi := { dst := Option.some 127, op := Op.move (Operand.tmp 7), type := 27, pos := _, after := #[{ on := 25, ground := Ground.guard }], guard := Option.some (25, Bool.false) }) (v := undef) rfl (by kernel_rfl) (by kernel_rfl) (by kernel_rfl) (fun _ _ _ h => h) (Or.inr ⟨by rfl, rfl⟩) (by assumption) ?_
        try simp only [Act.put, List.setIfInBounds_toArray, List.set_cons_zero, List.set_cons_succ]
        refine wpAnyH_take (i := 27) (oi := { dst := Option.some 128, op := Op.call { callee := Callee.value (Operand.func 16), args := #[Operand.tmp 127], argTypes := #[27] }, type := 3, pos := _, after := #[{ on := 26, ground := Ground.data }, { on := 25, ground := Ground.chain }, { on := 25, ground := Ground.guard }], guard := Option.some (25, Bool.false) }) (v := undef) rfl (by kernel_rfl) (by kernel_rfl) (by kernel_rfl) (fun _ _ _ h => h) (Or.inr ⟨by rfl, rfl⟩) (by assumption) ?_
        try simp only [Act.put, List.setIfInBounds_toArray, List.set_cons_zero, List.set_cons_succ]
        refine wpAnyH_take (i := 28) (oi := { dst := Option.some 129, op := Op.move (Operand.tmp 13), type := 27, pos := _, after := #[{ on := 25, ground := Ground.guard }], guard := Option.some (25, Bool.false) }) (v := undef) rfl (by kernel_rfl) (by kernel_rfl) (by kernel_rfl) (fun _ _ _ h => h) (Or.inr ⟨by rfl, rfl⟩) (by assumption) ?_
        try simp only [Act.put, List.setIfInBounds_toArray, List.set_cons_zero, List.set_cons_succ]
        refine wpAnyH_take (i := 29) (oi := { dst := Option.some 130, op := Op.call { callee := Callee.value (Operand.func 16), args := #[Operand.tmp 129], argTypes := #[27] }, type := 3, pos := _, after := #[{ on := 28, ground := Ground.data }, { on := 27, ground := Ground.chain }, { on := 25, ground := Ground.guard }], guard := Option.some (25, Bool.false) }) (v := undef) rfl (by kernel_rfl) (by kernel_rfl) (by kernel_rfl) (fun _ _ _ h => h) (Or.inr ⟨by rfl, rfl⟩) (by assumption) ?_
        try simp only [Act.put, List.setIfInBounds_toArray, List.set_cons_zero, List.set_cons_succ]
        refine wpAnyH_take (i := 30) (oi := { dst := Option.some 131, op := Op.binOp BinOp.neq 3 (Operand.tmp 128) (Operand.tmp 130) 3, type := 4, pos := _, after := #[{ on := 27, ground := Ground.data }, { on := 29, ground := Ground.data }, { on := 25, ground := Ground.guard }], guard := Option.some (25, Bool.false) }) (v := undef) rfl (by kernel_rfl) (by kernel_rfl) (by kernel_rfl) (fun _ _ _ h => h) (Or.inr ⟨by rfl, rfl⟩) (by assumption) ?_
        try simp only [Act.put, List.setIfInBounds_toArray, List.set_cons_zero, List.set_cons_succ]
        refine wpAnyH_take (i := 31) (oi := { dst := Option.some 132, op := Op.pick (Operand.tmp 126) (Operand.const (Value.bool Bool.true)) (Operand.tmp 131), type := 4, pos := _, after := #[{ on := 25, ground := Ground.data }, { on := 30, ground := Ground.data }, { on := 4, ground := Ground.guard }], guard := Option.some (4, Bool.true) }) (v := undef) rfl (by kernel_rfl) (by kernel_rfl) (by kernel_rfl) (fun _ _ _ h => h) (Or.inr ⟨by rfl, rfl⟩) (by assumption) ?_
        try simp only [Act.put, List.setIfInBounds_toArray, List.set_cons_zero, List.set_cons_succ]
        refine wpAnyH_take (i := 32) (oi := { dst := Option.some 133, op := Op.pick (Operand.tmp 105) (Operand.tmp 132) (Operand.const (Value.bool Bool.false)), type := 4, pos := _, after := #[{ on := 4, ground := Ground.data }, { on := 31, ground := Ground.data }], guard := Option.none }) (v := ?_) rfl (by kernel_rfl) (by kernel_rfl) (by kernel_rfl) (fun _ _ _ h => h) (Or.inl ⟨by rfl, ?_⟩) (by assumption) ?_
        rotate_left
        · (intro wS hSw; (try dsimp only at hSw); go_simp; try with_reducible rfl)
        try simp only [Act.put, List.setIfInBounds_toArray, List.set_cons_zero, List.set_cons_succ]
        refine wpAnyH_done (by kernel_rfl) ?_ _
        refine NoPanic.normal ?_
        go_wp2_with fail
        go_roundw
        case rel => exact ⟨i + 1, hi2, by go_num, Lib.hid HN.out.drew⟩
        case measure => simp [intOf]; omega
    · by_cases hil : i < l.length
      · obtain ⟨lb2, lo2, rfl, hc2⟩ := HL.out.cells (by omega)
        have HCC := Lib.hid (show ∀ V, Below w.heap.size w V → V.cell? ⟨lb2, lo2 + i * 5, none⟩ = some (.int .i64 l[i].dw) ∧ V.cell? ⟨lb2, lo2 + i * 5 + 1, none⟩ = some (.string l[i].body) ∧ V.cell? ⟨lb2, lo2 + i * 5 + 2, none⟩ = some (.int .u8 l[i].tm) ∧ V.cell? ⟨lb2, lo2 + i * 5 + 3, none⟩ = some (.int .i64 l[i].n) ∧ V.cell? ⟨lb2, lo2 + i * 5 + 4, none⟩ = some (.slice l[i].ka l[i].kn l[i].kc) from fun V hV => by
          have hcc : ∀ j v, l[i].vals[j]? = some v → V.cell? ⟨lb2, lo2 + i * 5 + j, none⟩ = some v := fun j v h => (hV.cell (p := ⟨lb2, lo2 + i * 5 + j, none⟩) (cell_lt (hc2 i hil j v h))).trans (hc2 i hil j v h)
          exact ⟨hcc 0 _ rfl, hcc 1 _ rfl, hcc 2 _ rfl, hcc 3 _ rfl, hcc 4 _ rfl⟩)
        clear hc2
        rw [Nat.min_eq_left (Nat.le_of_lt hil)] at HI
        have HV := Lib.hid (fun (V : World) (h : Below wr.heap.size wr V) => (HI.out.quiet h).one HSL.out HSK.out hil (Nat.min_le_right _ _))
        have HX := Lib.hid (fun (V : World) (E : Int) (h : WaH w V b1 b2 b3 db m dc mc l k i (min i k.length) l[i] E) => WaH.twin hil h HSL.out HSK.out (Nat.min_le_right _ _))
        have HT := Lib.hid (fun (V : World) (h : WaS w V b1 b2 b3 db m dc mc l k (i + 1) (min i k.length)) => h.tells HSL.out hil)
        have HB := Lib.hid HI.out.bel
        obtain ⟨r0, r1, r2, r3, r4⟩ := HCC.out _ HI.out.bel
        unfold actV at HV HX
        generalize l[i] = a2 at *
        have HD := Lib.hid (show Below w.heap.size w wr.drew from HB.out.drew)
        have HV' := Lib.hid (HV.out wr.drew (Below.refl _ _).drew)
        clear HV r0 r1 r2 r3 r4
        go_wp2_with fail
        go_region_held3 (fun w' => w'.cell? ⟨lb2, lo2 + i * 5, none⟩ = some (.int .i64 a2.dw) ∧ w'.cell? ⟨lb2, lo2 + i * 5 + 1, none⟩ = some (.string a2.body) ∧ w'.cell? ⟨lb2, lo2 + i * 5 + 2, none⟩ = some (.int .u8 a2.tm) ∧ w'.cell? ⟨lb2, lo2 + i * 5 + 3, none⟩ = some (.int .i64 a2.n) ∧ w'.cell? ⟨lb2, lo2 + i * 5 + 4, none⟩ = some (.slice a2.ka a2.kn a2.kc))
          (first | exact HCC.out _ HD.out | exact HCC.out _ hh1.bel | exact HCC.out _ hs2.bel | assumption)
          (first
            | (go_at_call 23; ((with_reducible refine HV'.out.mono ?_); rintro e w1 ⟨E, rfl, hh1⟩))
            | (go_at_call 23; ((with_reducible refine (HX.out _ _ hh1).mono ?_); rintro e w2 ⟨rfl, hs2⟩; obtain ⟨n, p, t1, t2, t3, t4⟩ := HT.out _ hs2))
            | (go_at_call 17; ((with_reducible refine t3.mono ?_); rintro e w3 ⟨rfl, rfl⟩))
            | (go_at_call 17; ((with_reducible refine t4.mono ?_); rintro e w3 ⟨rfl, rfl⟩))
            | (go_at_call 16; ((with_reducible refine t1.mono ?_); rintro e w3 ⟨rfl, rfl⟩))
            | (go_at_call 16; ((with_reducible refine t2.mono ?_); rintro e w3 ⟨rfl, rfl⟩)))
        all_goals
          have HN := Lib.hid (show WaS w w2 b1 b2 b3 db m dc mc l k (min (i + 1) l.length) (min (i + 1) k.length) from by rw [show min (i + 1) l.length = i + 1 by omega, show min (i + 1) k.length = (min i k.length) by omega]; exact hs2)
          have hi2 : i + 1 ≤ max l.length k.length := by omega
          clear hs2 hh1 t1 t2 t3 t4
          go_wp2_with fail
          go_roundw
          case rel => exact ⟨i + 1, hi2, by go_num, HN⟩
          case measure => simp [intOf]; omega
      · have HDR := Lib.hid (HI.out.drop HSL.out HSK.out (Nat.min_le_right i _) (Nat.min_le_right i _))
        clear HI
        obtain ⟨n, t1, t2⟩ := HDR.out
        clear HDR
        have hnil : decide ((i : Int) < (l.length : Int)) = false := by rw [decide_eq_false_iff_not]; omega
        have hnil2 : decide ((i : Int) < (k.length : Int)) = false := by rw [decide_eq_false_iff_not]; omega
        have T1 := Lib.hid t1
        have T2 := Lib.hid t2
        clear t1 t2
        go_wp2_with fail
        refine T1.out.mono ?_
        rintro e wx ⟨rfl, rfl⟩
        go_wp2_with fail
        refine (T2.out _ (Below.refl _ _)).mono ?_
        rintro e w10 ⟨⟨E1, rfl⟩, d10, c10, x10, h10⟩
        have H10 := Lib.hid h10.open1
        clear h10 T1 T2
        go_wp2_with fail
        refine H10.out.mono ?_
        rintro e w11 ⟨b10, n0, P, pa, pc, hP, rfl, h11⟩
        have H11 := Lib.hid h11.open2
        clear h11 H10
        go_wp2_with fail
        refine H11.out.mono ?_
        rintro e w12 ⟨b11, ua, uc, rfl, h12⟩
        have HG := Lib.hid h12
        clear h12 H11
        go_wp2_with fail
        go_loopw [21] (fun vi wz => ∃ j : Nat, j ≤ P.length ∧ vi = .int .i64 j ∧ Hid (Below w12.heap.size w12 wz)) (fun vi _ => P.length - (intOf vi).toNat)
        case atStart => exact ⟨0, Nat.zero_le _, rfl, Below.refl _ _⟩
        case round =>
          obtain ⟨j, hj, rfl, HBL⟩ := hrel
          have HGW := Lib.hid (HG.out.quiet HBL.out)
          by_cases hlt : j < P.length
          · obtain ⟨g6, cap6, hv6, hc6, hc6', hg6, hN6, hB6⟩ := HGW.out.r1.cells (k := j) (by rw [numb_len]; exact hlt)
            rw [numb_at n0 hlt] at hN6 hB6
            rw [numb_len] at hv6 hc6
            injection hv6 with hv6 _ hv7
            subst hv6 hv7
            obtain ⟨g7, cap7, hv8, hc8, hc8', hg8, hN8, hB8⟩ := HGW.out.r2.cells (k := j) (by rw [numb_len]; exact hlt)
            rw [numb_at n0 hlt] at hN8 hB8
            rw [numb_len] at hv8 hc8
            injection hv8 with hv8 _ hv9
            subst hv8 hv9
            dsimp only at hN6 hB6 hN8 hB8
            clear HGW
            generalize P[j] = y at *
            have hne := fun W => rec_neq ((n0 + j : Nat) : Int) y W
            have hgd := fun X Y W => rec_guard ((n0 + j : Nat) : Int) y X Y W
            go_wp2_with fail
            go_quiet (fail)
            go_wp2_with fail
            go_roundw
            case rel => exact ⟨j + 1, by omega, by go_num, Lib.hid (below_drewN' HBL.out _)⟩
            case measure => simp [intOf]; omega
          · have HRD := Lib.hid HGW.out.read
            have hmm : bsMine.toList = [109, 105, 110, 101] := by rw [ByteArray.toList_eq]; rfl
            go_wp2_with fail
            refine HRD.out.mono ?_
            rintro e wf ⟨rfl, hbf⟩
            have HBF := Lib.hid hbf
            clear hbf HRD HGW
            go_wp2_with fail
            go_ret
            exact ⟨rfl, HBF.out⟩
end Go.Proofs.YtkpoecofblhggaaGreatDoor

