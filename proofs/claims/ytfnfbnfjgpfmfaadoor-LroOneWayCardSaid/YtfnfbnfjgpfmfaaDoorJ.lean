/-
  What is proved here: The walk of 'LroOneWay', for every argument, under 'RulesAt'.
-/
import Derived.Test.YtfnfbnfjgpfmfaaDoorH
namespace Go.Proofs.YtfnfbnfjgpfmfaaDoor
open Go.RowKit

theorem chk_due (d : Int) (h0 : 0 ≤ d) (h1 : d ≤ 1099511627776) : rightB 1 0 ⟨#[]⟩ d = true := by
  have l0 : ByteArray.toList ⟨#[]⟩ = [] := by unfold ByteArray.toList; unfold ByteArray.toList.loop; rfl
  have z0 : ByteArray.size ⟨#[]⟩ = 0 := rfl
  simp [rightB, l0, z0, h0, h1]
theorem chk_due_no (d : Int) (h : d < 0 ∨ 1099511627776 < d) : rightB 1 0 ⟨#[]⟩ d = false := by
  simp only [rightB, decide_eq_false_iff_not]
  omega

set_option maxRecDepth 100000 in
set_option maxHeartbeats 400000 in
/-- a due that is none: before the loop -/
theorem one_bad (d : Int) (lv : Option Addr) (n cp : Nat) (hn : (n : Int) ≤ 60) (w : World) (b1 o1 b2 o2 : Nat) (h : RulesAt w b1 o1 b2 o2) (hd : d < 0 ∨ 1099511627776 < d) :
    Calls Tryd.prog 3 #[.int .i64 d, .slice lv n cp] w fun e w' => e = .returned (.bool true) ∧ Below w.heap.size w w' := by
  have hr := chk_due_no d hd
  have hk : chk 1 0 ⟨#[]⟩ d = 1 := by simp [chk, hr]
  have hc : canSt 1 0 ⟨#[]⟩ d = 1 ∧ canE 1 0 ⟨#[]⟩ d = 1 := by simp [canSt, canE, hr]
  have C1 : ∀ W, RulesAt W b1 o1 b2 o2 → Calls Tryd.prog 7 #[opV 1 0 ⟨#[]⟩ d] W fun e w' => e = .returned (.int .i64 1) ∧ Below W.heap.size W w' := by
    intro W hW
    have := check_any 1 0 ⟨#[]⟩ d W b1 o1 b2 o2 hW
    rwa [hk] at this
  have C2 : ∀ W, RulesAt W b1 o1 b2 o2 → Calls Tryd.prog 8 #[opV 1 0 ⟨#[]⟩ d] W fun e w' => e = .returned (.tuple #[opV 1 0 ⟨#[]⟩ d, .int .i64 1]) ∧ Below W.heap.size W w' := by
    intro W hW
    have := cancel_any 1 0 ⟨#[]⟩ d W b1 o1 b2 o2 hW
    rwa [hc.1, hc.2] at this
  clear hr hk hc
  have H1 := Lib.hid C1
  have H2 := Lib.hid C2
  have H := Lib.hid h
  clear C1 C2 h
  have key : ∀ (x : Bool), x = (decide (d < 0) || decide (1099511627776 < d)) → x = true := by
    rintro x rfl; simp [hd]
  have HK := Lib.hid key
  clear key
  go_enter Tryd.func3, Tryd.ntmps3
  go_wp2_with fail
  refine (awake_any _ b1 o1 b2 o2 H.out).mono ?_
  rintro e w1 ⟨rfl, hb⟩
  have HR1 := Lib.hid (H.out.below hb)
  have HB1 := Lib.hid hb
  clear hb
  go_wp2_with fail
  refine (new_any d _).mono ?_
  rintro e w2 ⟨rfl, hb⟩
  have HR2 := Lib.hid (HR1.out.below hb)
  have HB2 := Lib.hid (HB1.out.trans (hb.mono HB1.out.size))
  clear hb
  go_wp2_with fail
  refine (H1.out _ (HR2.out.below (bl1 _ _))).mono ?_
  rintro e w3 ⟨rfl, hb⟩
  have HR3 := Lib.hid ((HR2.out.below (bl1 _ _)).below hb)
  have O3 := Lib.hid ((Own4.new w2 _ _ _ _ _).below hb)
  have HB3 := Lib.hid ((HB2.out.trans ((bl1 w2 _).mono HB2.out.size)).trans (hb.mono (Nat.le_trans HB2.out.size (bl1 w2 _).size)))
  clear hb
  obtain ⟨p0, p1, p2, p3, g0, g1, g2, g3, y⟩ := O3.out
  go_wp2_with fail
  refine (H2.out _ HR3.out).mono ?_
  rintro e w4 ⟨rfl, hb⟩
  have HB4 := Lib.hid (HB3.out.trans (hb.mono HB3.out.size))
  clear hb
  clear p0 p1 p2 p3 g0 g1 g2 g3 y
  go_wp2_with fail
  all_goals
    go_ret
    exact ⟨ret_bool (HK.out _ (by simp [*])), HB4.out.alloc HB4.out.size _⟩

set_option maxRecDepth 100000 in
/-- too long -/
theorem one_long (d : Int) (lv : Option Addr) (n cp : Nat) (hn : 60 < (n : Int)) (w : World) (b1 o1 b2 o2 : Nat) (h : RulesAt w b1 o1 b2 o2) :
    Calls Tryd.prog 3 #[.int .i64 d, .slice lv n cp] w fun e w' => e = .returned (.bool true) ∧ Below w.heap.size w w' := by
  have H := Lib.hid h
  clear h
  go_enter Tryd.func3, Tryd.ntmps3
  go_wp2_with fail
  refine (awake_any _ b1 o1 b2 o2 H.out).mono ?_
  rintro e w1 ⟨rfl, hb⟩
  have HB1 := Lib.hid hb
  clear hb
  go_wp2_with fail
  go_ret
  exact ⟨rfl, HB1.out⟩

theorem Own4.store {w : World} {b : Nat} {x0 x1 x2 x3 : Value} (h : Own4 w b x0 x1 x2 x3) (y0 y1 y2 y3 : Value) :
    Own4 ((((w.setCell ⟨b, 0, none⟩ y0).setCell ⟨b, 1, none⟩ y1).setCell ⟨b, 2, none⟩ y2).setCell ⟨b, 3, none⟩ y3) b y0 y1 y2 y3 := by
  obtain ⟨a0, a1, a2, a3, g0, g1, g2, g3, lt⟩ := h
  constructor <;> simp [go_sem, *]
theorem Own4.store_far {w : World} {b b' : Nat} {x0 x1 x2 x3 : Value} (h : Own4 w b x0 x1 x2 x3) (hne : b' ≠ b) (y0 y1 y2 y3 : Value) :
    Own4 ((((w.setCell ⟨b', 0, none⟩ y0).setCell ⟨b', 1, none⟩ y1).setCell ⟨b', 2, none⟩ y2).setCell ⟨b', 3, none⟩ y3) b x0 x1 x2 x3 := by
  have e : ∀ (W : World) (i j : Nat) (y : Value), (W.setCell ⟨b', i, none⟩ y).cell? ⟨b, j, none⟩ = W.cell? ⟨b, j, none⟩ := fun W i j y =>
    World.cell?_setCell_other _ _ _ _ (fun e => hne (by injection e))
  obtain ⟨a0, a1, a2, a3, g0, g1, g2, g3, lt⟩ := h
  constructor <;> simp only [e, World.frozen?_setCell, World.size_setCell] <;> assumption
theorem below_store {W w : World} {b : Nat} (h : Below W.heap.size W w) (hb : W.heap.size ≤ b) (y0 y1 y2 y3 : Value) :
    Below W.heap.size W ((((w.setCell ⟨b, 0, none⟩ y0).setCell ⟨b, 1, none⟩ y1).setCell ⟨b, 2, none⟩ y2).setCell ⟨b, 3, none⟩ y3) :=
  (((h.setCell hb _).setCell hb _).setCell hb _).setCell hb _
theorem can_right {st c : Int} {v : ByteArray} {d : Int} (h : rightB st c v d = true) (hm : mayB st 2 = true) : rightB 2 c v d = true ∧ (st = 1 ∨ st = 2) := by
  have hs : st = 1 ∨ st = 2 := by
    have hr := right_range h
    have : st = 1 ∨ st = 2 ∨ st = 3 ∨ st = 4 ∨ st = 5 := by omega
    rcases this with rfl | rfl | rfl | rfl | rfl <;> first | omega | (exact absurd hm (by decide))
  refine ⟨?_, hs⟩
  simp only [rightB, decide_eq_true_eq] at h ⊢
  rcases hs with rfl | rfl <;> simpa using h


theorem set_cases (st c : Int) (v : ByteArray) (d xs xc : Int) (xv : ByteArray) (xd : Int) (h : rightB st c v d = true) :
    (setE st c v d xs xc xv xd = 0 ∧ rightB xs xc xv xd = true ∧ termB st = false ∧ (xs == 5) = true ∧ xs = 5 ∧ st = 2) ∨
    (setE st c v d xs xc xv xd = 0 ∧ rightB xs xc xv xd = true ∧ termB st = false ∧ (xs == 5) = false ∧ xs ≠ 5 ∧ True) ∨
    (setE st c v d xs xc xv xd = 202 ∧ termB st = true) ∨ (setE st c v d xs xc xv xd = 1 ∧ termB st = true) ∨ (setE st c v d xs xc xv xd = 1 ∧ termB st = false) := by
  have hr := right_range h
  cases hr2 : rightB xs xc xv xd
  · cases ht : termB st <;> simp [setE, h, hr2]
  cases ht' : termB xs
  · cases ht : termB st <;> simp [setE, h, hr2, ht']
  cases ht : termB st
  · have hm := may_t hr ht ht'
    by_cases h5 : xs = 5
    · by_cases h1 : st = 1
      · refine .inr (.inr (.inr (.inr ⟨?_, rfl⟩)))
        simp only [setE, h, hr2, ht', ht, hm]; simp [h5, h1]
      · refine .inl ⟨?_, rfl, rfl, by simpa using h5, h5, ?_⟩
        · simp [setE, h, hr2, ht', ht, hm, h1]
        · have : st = 1 ∨ st = 2 ∨ st = 3 ∨ st = 4 ∨ st = 5 := by omega
          rcases this with rfl | rfl | rfl | rfl | rfl <;> first | omega | rfl | (exact absurd ht (by decide))
    · refine .inr (.inl ⟨?_, rfl, rfl, by simpa using h5, h5, trivial⟩)
      simp [setE, h, hr2, ht', ht, hm, h5]
  · simp [setE, h, hr2, ht', ht]

def Round (w : World) (bo b1 o1 b2 o2 : Nat) (wr : World) : Prop :=
  RulesAt wr b1 o1 b2 o2 ∧ Below w.heap.size w wr ∧ w.heap.size ≤ bo ∧ ∃ (st c : Int) (v : ByteArray) (d : Int), rightB st c v d = true ∧ Own4 wr bo (.int .i64 st) (.int .i64 c) (.string v) (.int .i64 d)

set_option maxRecDepth 100000 in
set_option maxHeartbeats 4000000 in
theorem one_loop (d : Int) (lv : Option Addr) (n cp : Nat) (hn : (n : Int) ≤ 60) (S C : Nat → Int) (V : Nat → ByteArray) (D : Nat → Int) (w : World) (b1 o1 b2 o2 : Nat) (h : RulesAt w b1 o1 b2 o2) (h0 : 0 ≤ d) (h1 : d ≤ 1099511627776)
    (hl : 0 < n → ∃ bl ol, lv = some ⟨bl, ol, none⟩ ∧ bl < w.heap.size ∧ ∀ i, i < n → w.cell? ⟨bl, ol + i * 4, none⟩ = some (.int .i64 (S i)) ∧ w.cell? ⟨bl, ol + i * 4 + 1, none⟩ = some (.int .i64 (C i)) ∧ w.cell? ⟨bl, ol + i * 4 + 2, none⟩ = some (.string (V i)) ∧ w.cell? ⟨bl, ol + i * 4 + 3, none⟩ = some (.int .i64 (D i))) :
    Calls Tryd.prog 3 #[.int .i64 d, .slice lv n cp] w fun e w' => e = .returned (.bool true) ∧ Below w.heap.size w w' := by
  have hr := chk_due d h0 h1
  have hk : chk 1 0 ⟨#[]⟩ d = 0 := by simp [chk, hr]
  have C1 : ∀ W, RulesAt W b1 o1 b2 o2 → Calls Tryd.prog 7 #[opV 1 0 ⟨#[]⟩ d] W fun e w' => e = .returned (.int .i64 0) ∧ Below W.heap.size W w' := by
    intro W hW
    have := check_any 1 0 ⟨#[]⟩ d W b1 o1 b2 o2 hW
    rwa [hk] at this
  have HR := Lib.hid hr
  clear hk hr
  have H1 := Lib.hid C1
  have H := Lib.hid h
  have HL := Lib.hid hl
  clear C1 h hl h0 h1
  go_enter Tryd.func3, Tryd.ntmps3
  go_wp2_with fail
  refine (awake_any _ b1 o1 b2 o2 H.out).mono ?_
  rintro e w1 ⟨rfl, hb⟩
  have HR1 := Lib.hid (H.out.below hb)
  have HB1 := Lib.hid hb
  clear hb
  go_wp2_with fail
  refine (new_any d _).mono ?_
  rintro e w2 ⟨rfl, hb⟩
  have HR2 := Lib.hid (HR1.out.below hb)
  have HB2 := Lib.hid (HB1.out.trans (hb.mono HB1.out.size))
  clear hb
  go_wp2_with fail
  refine (H1.out _ (HR2.out.below (bl1 _ _))).mono ?_
  rintro e w3 ⟨rfl, hb⟩
  have HR3 := Lib.hid ((HR2.out.below (bl1 _ _)).below hb)
  have O3 := Lib.hid ((Own4.new w2 _ _ _ _ _).below hb)
  have HB3 := Lib.hid ((HB2.out.trans ((bl1 w2 _).mono HB2.out.size)).trans (hb.mono (Nat.le_trans HB2.out.size (bl1 w2 _).size)))
  clear hb
  go_wp2_with fail
  have hR : Round w w2.heap.size b1 o1 b2 o2 w3 := ⟨HR3.out, HB3.out, HB2.out.size, 1, 0, ⟨#[]⟩, d, HR.out, O3.out⟩
  have HRd := Lib.hid hR
  clear hR
  generalize w2.heap.size = bo at *
  go_loopw [8] (fun i wr => ∃ k : Nat, k ≤ n ∧ i = .int .i64 k ∧ Hid (Round w bo b1 o1 b2 o2 wr)) (fun i _ => n - (intOf i).toNat)
  case atStart => exact ⟨0, Nat.zero_le _, rfl, HRd⟩
  case round =>
    obtain ⟨k, hk, rfl, hrd⟩ := hrel
    by_cases hlt : k < n
    · obtain ⟨bl, ol, rfl, hbl, hcells⟩ := HL.out (by omega)
      obtain ⟨hRr, hBr, hbo, st, c, v, d', hright, OO⟩ := hrd.out
      clear hrd
      have HBr := Lib.hid hBr
      have hcl := hcells k hlt
      have q0 : wr.cell? ⟨bl, ol + k * 4, none⟩ = some (.int .i64 (S k)) := (hBr.cell (p := ⟨bl, ol + k * 4, none⟩) hbl).trans hcl.1
      have q1 : wr.cell? ⟨bl, ol + k * 4 + 1, none⟩ = some (.int .i64 (C k)) := (hBr.cell (p := ⟨bl, ol + k * 4 + 1, none⟩) hbl).trans hcl.2.1
      have q2 : wr.cell? ⟨bl, ol + k * 4 + 2, none⟩ = some (.string (V k)) := (hBr.cell (p := ⟨bl, ol + k * 4 + 2, none⟩) hbl).trans hcl.2.2.1
      have q3 : wr.cell? ⟨bl, ol + k * 4 + 3, none⟩ = some (.int .i64 (D k)) := (hBr.cell (p := ⟨bl, ol + k * 4 + 3, none⟩) hbl).trans hcl.2.2.2
      have hblr : bl < wr.heap.size := Nat.lt_of_lt_of_le hbl hBr.size
      have hox : bo ≠ wr.heap.size := Nat.ne_of_lt OO.lt
      have how : bo ≠ wr.heap.size + 1 := by have := OO.lt; omega
      have hbor := OO.lt
      have po0 := OO.c0
      have po1 := OO.c1
      have po2 := OO.c2
      have po3 := OO.c3
      clear hcells hcl hBr
      generalize S k = xs at *
      generalize C k = xc at *
      generalize V k = xv at *
      generalize D k = xd at *
      have HRr := Lib.hid hRr
      have HRt := Lib.hid hright
      have HOO := Lib.hid OO
      clear hRr hright OO
      by_cases hx2 : xs = 2
      · subst hx2
        cases hm : mayB st 2
        · have hmt := may_2 (right_range HRt.out)
          rw [hm] at hmt
          have htt : termB st = true := by simpa using hmt
          clear hmt
          have hE : canSt st c v d' = st ∧ canE st c v d' = 202 := by simp [canSt, canE, HRt.out, hm]
          have C8 : ∀ W, RulesAt W b1 o1 b2 o2 → Calls Tryd.prog 8 #[opV st c v d'] W fun e w' => e = .returned (.tuple #[opV st c v d', .int .i64 202]) ∧ Below W.heap.size W w' := by
            intro W hW
            have := cancel_any st c v d' W b1 o1 b2 o2 hW
            rwa [hE.1, hE.2] at this
          have H8 := Lib.hid C8
          have HN := Lib.hid (show rightB st c v d' = true from HRt.out)
          have HK := Lib.hid (show chk st c v d' = 0 by simp [chk, HN.out])
          have HT := Lib.hid (show termB st = true from htt)
          clear htt
          clear hE C8 hm
          go_wp2_with fail
          refine (H8.out _ (H.out.below ((HBr.out.trans ((bl2 wr _ _).mono HBr.out.size))))).mono ?_
          rintro e wa ⟨rfl, hb⟩
          have OO1 := Lib.hid (((HOO.out.alloc _).alloc _).below hb)
          have OX1 := Lib.hid (((Own4.new wr _ _ _ _ _).alloc _).below hb)
          have OW1 := Lib.hid ((Own4.new1 wr _ _ _ _ _ _).below hb)
          have HBa := Lib.hid ((HBr.out.trans ((bl2 wr _ _).mono HBr.out.size)).trans (hb.mono (Nat.le_trans HBr.out.size (bl2 wr _ _).size)))
          clear hb
          clear po0 po1 po2 po3
          obtain ⟨po10, po11, po12, po13, pof10, pof11, pof12, pof13, poz1⟩ := OO1.out
          obtain ⟨px10, px11, px12, px13, pxf10, pxf11, pxf12, pxf13, pxz1⟩ := OX1.out
          obtain ⟨pw10, pw11, pw12, pw13, pwf10, pwf11, pwf12, pwf13, pwz1⟩ := OW1.out
          go_wp2_with fail
          refine (check_any st c v d' _ b1 o1 b2 o2 (H.out.below (below_store HBa.out hbo _ _ _ _))).mono ?_
          rw [HK.out]
          rintro e wb ⟨rfl, hb⟩
          have OO2 := Lib.hid ((OO1.out.store (.int .i64 st) (.int .i64 c) (.string v) (.int .i64 d')).below hb)
          have OX2 := Lib.hid ((OX1.out.store_far hox (.int .i64 st) (.int .i64 c) (.string v) (.int .i64 d')).below hb)
          have OW2 := Lib.hid ((OW1.out.store_far how (.int .i64 st) (.int .i64 c) (.string v) (.int .i64 d')).below hb)
          have HBb := Lib.hid ((below_store HBa.out hbo (.int .i64 st) (.int .i64 c) (.string v) (.int .i64 d')).trans (hb.mono (below_store HBa.out hbo (.int .i64 st) (.int .i64 c) (.string v) (.int .i64 d')).size))
          clear hb
          clear po10 po11 po12 po13 pof10 pof11 pof12 pof13 poz1
          clear px10 px11 px12 px13 pxf10 pxf11 pxf12 pxf13 pxz1
          clear pw10 pw11 pw12 pw13 pwf10 pwf11 pwf12 pwf13 pwz1
          obtain ⟨po20, po21, po22, po23, pof20, pof21, pof22, pof23, poz2⟩ := OO2.out
          obtain ⟨px20, px21, px22, px23, pxf20, pxf21, pxf22, pxf23, pxz2⟩ := OX2.out
          obtain ⟨pw20, pw21, pw22, pw23, pwf20, pwf21, pwf22, pwf23, pwz2⟩ := OW2.out
          go_wp2_with fail
          refine (term_any st c v d' _ b1 o1 b2 o2 (H.out.below HBb.out)).mono ?_
          rw [HT.out]
          rintro e wc ⟨rfl, hb⟩
          have OO3 := Lib.hid (OO2.out.below hb)
          have OX3 := Lib.hid (OX2.out.below hb)
          have OW3 := Lib.hid (OW2.out.below hb)
          have HBc := Lib.hid (HBb.out.trans (hb.mono HBb.out.size))
          clear hb
          clear po20 po21 po22 po23 pof20 pof21 pof22 pof23 poz2
          clear px20 px21 px22 px23 pxf20 pxf21 pxf22 pxf23 pxz2
          clear pw20 pw21 pw22 pw23 pwf20 pwf21 pwf22 pwf23 pwz2
          obtain ⟨po30, po31, po32, po33, pof30, pof31, pof32, pof33, poz3⟩ := OO3.out
          obtain ⟨px30, px31, px32, px33, pxf30, pxf31, pxf32, pxf33, pxz3⟩ := OX3.out
          obtain ⟨pw30, pw31, pw32, pw33, pwf30, pwf31, pwf32, pwf33, pwz3⟩ := OW3.out
          go_wp2_with fail
          all_goals
            refine ⟨⟨k + 1, by omega, by go_num, ?_⟩, by simp [intOf]; omega⟩
            exact ⟨H.out.below HBc.out, HBc.out, hbo, _, _, _, _, HN.out, OO3.out⟩
        · have hn2 := can_right HRt.out hm
          have hE : canSt st c v d' = 2 ∧ canE st c v d' = 0 := by simp [canSt, canE, HRt.out, hm]
          have C8 : ∀ W, RulesAt W b1 o1 b2 o2 → Calls Tryd.prog 8 #[opV st c v d'] W fun e w' => e = .returned (.tuple #[opV 2 c v d', .int .i64 0]) ∧ Below W.heap.size W w' := by
            intro W hW
            have := cancel_any st c v d' W b1 o1 b2 o2 hW
            rwa [hE.1, hE.2] at this
          have H8 := Lib.hid C8
          have HN := Lib.hid (show rightB 2 c v d' = true from hn2.1)
          have HK := Lib.hid (show chk 2 c v d' = 0 by simp [chk, HN.out])
          have HT := Lib.hid (show termB st = false from by rcases hn2.2 with rfl | rfl <;> decide)
          have hst : (st != 1 && st != 2) = false := by rcases hn2.2 with rfl | rfl <;> decide
          clear hn2
          clear hE C8 hm
          go_wp2_with fail
          refine (H8.out _ (H.out.below ((HBr.out.trans ((bl2 wr _ _).mono HBr.out.size))))).mono ?_
          rintro e wa ⟨rfl, hb⟩
          have OO1 := Lib.hid (((HOO.out.alloc _).alloc _).below hb)
          have OX1 := Lib.hid (((Own4.new wr _ _ _ _ _).alloc _).below hb)
          have OW1 := Lib.hid ((Own4.new1 wr _ _ _ _ _ _).below hb)
          have HBa := Lib.hid ((HBr.out.trans ((bl2 wr _ _).mono HBr.out.size)).trans (hb.mono (Nat.le_trans HBr.out.size (bl2 wr _ _).size)))
          clear hb
          clear po0 po1 po2 po3
          obtain ⟨po10, po11, po12, po13, pof10, pof11, pof12, pof13, poz1⟩ := OO1.out
          obtain ⟨px10, px11, px12, px13, pxf10, pxf11, pxf12, pxf13, pxz1⟩ := OX1.out
          obtain ⟨pw10, pw11, pw12, pw13, pwf10, pwf11, pwf12, pwf13, pwz1⟩ := OW1.out
          go_wp2_with fail
          refine (check_any 2 c v d' _ b1 o1 b2 o2 (H.out.below (below_store HBa.out hbo _ _ _ _))).mono ?_
          rw [HK.out]
          rintro e wb ⟨rfl, hb⟩
          have OO2 := Lib.hid ((OO1.out.store (.int .i64 2) (.int .i64 c) (.string v) (.int .i64 d')).below hb)
          have OX2 := Lib.hid ((OX1.out.store_far hox (.int .i64 2) (.int .i64 c) (.string v) (.int .i64 d')).below hb)
          have OW2 := Lib.hid ((OW1.out.store_far how (.int .i64 2) (.int .i64 c) (.string v) (.int .i64 d')).below hb)
          have HBb := Lib.hid ((below_store HBa.out hbo (.int .i64 2) (.int .i64 c) (.string v) (.int .i64 d')).trans (hb.mono (below_store HBa.out hbo (.int .i64 2) (.int .i64 c) (.string v) (.int .i64 d')).size))
          clear hb
          clear po10 po11 po12 po13 pof10 pof11 pof12 pof13 poz1
          clear px10 px11 px12 px13 pxf10 pxf11 pxf12 pxf13 pxz1
          clear pw10 pw11 pw12 pw13 pwf10 pwf11 pwf12 pwf13 pwz1
          obtain ⟨po20, po21, po22, po23, pof20, pof21, pof22, pof23, poz2⟩ := OO2.out
          obtain ⟨px20, px21, px22, px23, pxf20, pxf21, pxf22, pxf23, pxz2⟩ := OX2.out
          obtain ⟨pw20, pw21, pw22, pw23, pwf20, pwf21, pwf22, pwf23, pwz2⟩ := OW2.out
          go_wp2_with fail
          refine (term_any st c v d' _ b1 o1 b2 o2 (H.out.below HBb.out)).mono ?_
          rw [HT.out]
          rintro e wc ⟨rfl, hb⟩
          have OO3 := Lib.hid (OO2.out.below hb)
          have OX3 := Lib.hid (OX2.out.below hb)
          have OW3 := Lib.hid (OW2.out.below hb)
          have HBc := Lib.hid (HBb.out.trans (hb.mono HBb.out.size))
          clear hb
          clear po20 po21 po22 po23 pof20 pof21 pof22 pof23 poz2
          clear px20 px21 px22 px23 pxf20 pxf21 pxf22 pxf23 pxz2
          clear pw20 pw21 pw22 pw23 pwf20 pwf21 pwf22 pwf23 pwz2
          obtain ⟨po30, po31, po32, po33, pof30, pof31, pof32, pof33, poz3⟩ := OO3.out
          obtain ⟨px30, px31, px32, px33, pxf30, pxf31, pxf32, pxf33, pxz3⟩ := OX3.out
          obtain ⟨pw30, pw31, pw32, pw33, pwf30, pwf31, pwf32, pwf33, pwz3⟩ := OW3.out
          go_wp2_with fail
          all_goals
            refine ⟨⟨k + 1, by omega, by go_num, ?_⟩, by simp [intOf]; omega⟩
            exact ⟨H.out.below HBc.out, HBc.out, hbo, _, _, _, _, HN.out, OO3.out⟩
      · have bx2 : (xs == 2) = false := by simpa using hx2
        clear hx2
        rcases set_cases st c v d' xs xc xv xd HRt.out with ⟨hE, hright2, ht, h5, h5', hs⟩ | ⟨hE, hright2, ht, h5, h5', hs⟩ | ⟨hE, ht⟩ | ⟨hE, ht⟩ | ⟨hE, ht⟩
        · have hs2 : (st != 2) = false := by rw [hs]; decide
          clear hs h5'
          have C9 : ∀ W, RulesAt W b1 o1 b2 o2 → Calls Tryd.prog 9 #[opV st c v d', .int .i64 xs, .int .i64 xc, .string xv, .int .i64 xd] W fun e w' => e = .returned (.tuple #[opV xs xc xv xd, .int .i64 0]) ∧ Below W.heap.size W w' := by
            intro W hW
            have := settle_any st c v d' xs xc xv xd W b1 o1 b2 o2 hW
            rwa [setV, hE, if_pos rfl] at this
          have H9 := Lib.hid C9
          have HN := Lib.hid (show rightB xs xc xv xd = true from hright2)
          have HK := Lib.hid (show chk xs xc xv xd = 0 by simp [chk, HN.out])
          have HT := Lib.hid (show termB st = false from ht)
          clear hright2
          clear hE C9 ht
          go_wp2_with fail
          refine (H9.out _ (H.out.below ((HBr.out.trans ((bl2 wr _ _).mono HBr.out.size))))).mono ?_
          rintro e wa ⟨rfl, hb⟩
          have OO1 := Lib.hid (((HOO.out.alloc _).alloc _).below hb)
          have OX1 := Lib.hid (((Own4.new wr _ _ _ _ _).alloc _).below hb)
          have OW1 := Lib.hid ((Own4.new1 wr _ _ _ _ _ _).below hb)
          have HBa := Lib.hid ((HBr.out.trans ((bl2 wr _ _).mono HBr.out.size)).trans (hb.mono (Nat.le_trans HBr.out.size (bl2 wr _ _).size)))
          clear hb
          clear po0 po1 po2 po3
          obtain ⟨po10, po11, po12, po13, pof10, pof11, pof12, pof13, poz1⟩ := OO1.out
          obtain ⟨px10, px11, px12, px13, pxf10, pxf11, pxf12, pxf13, pxz1⟩ := OX1.out
          obtain ⟨pw10, pw11, pw12, pw13, pwf10, pwf11, pwf12, pwf13, pwz1⟩ := OW1.out
          go_wp2_with fail
          refine (check_any xs xc xv xd _ b1 o1 b2 o2 (H.out.below (below_store HBa.out hbo _ _ _ _))).mono ?_
          rw [HK.out]
          rintro e wb ⟨rfl, hb⟩
          have OO2 := Lib.hid ((OO1.out.store (.int .i64 xs) (.int .i64 xc) (.string xv) (.int .i64 xd)).below hb)
          have OX2 := Lib.hid ((OX1.out.store_far hox (.int .i64 xs) (.int .i64 xc) (.string xv) (.int .i64 xd)).below hb)
          have OW2 := Lib.hid ((OW1.out.store_far how (.int .i64 xs) (.int .i64 xc) (.string xv) (.int .i64 xd)).below hb)
          have HBb := Lib.hid ((below_store HBa.out hbo (.int .i64 xs) (.int .i64 xc) (.string xv) (.int .i64 xd)).trans (hb.mono (below_store HBa.out hbo (.int .i64 xs) (.int .i64 xc) (.string xv) (.int .i64 xd)).size))
          clear hb
          clear po10 po11 po12 po13 pof10 pof11 pof12 pof13 poz1
          clear px10 px11 px12 px13 pxf10 pxf11 pxf12 pxf13 pxz1
          clear pw10 pw11 pw12 pw13 pwf10 pwf11 pwf12 pwf13 pwz1
          obtain ⟨po20, po21, po22, po23, pof20, pof21, pof22, pof23, poz2⟩ := OO2.out
          obtain ⟨px20, px21, px22, px23, pxf20, pxf21, pxf22, pxf23, pxz2⟩ := OX2.out
          obtain ⟨pw20, pw21, pw22, pw23, pwf20, pwf21, pwf22, pwf23, pwz2⟩ := OW2.out
          go_wp2_with fail
          refine (term_any st c v d' _ b1 o1 b2 o2 (H.out.below HBb.out)).mono ?_
          rw [HT.out]
          rintro e wc ⟨rfl, hb⟩
          have OO3 := Lib.hid (OO2.out.below hb)
          have OX3 := Lib.hid (OX2.out.below hb)
          have OW3 := Lib.hid (OW2.out.below hb)
          have HBc := Lib.hid (HBb.out.trans (hb.mono HBb.out.size))
          clear hb
          clear po20 po21 po22 po23 pof20 pof21 pof22 pof23 poz2
          clear px20 px21 px22 px23 pxf20 pxf21 pxf22 pxf23 pxz2
          clear pw20 pw21 pw22 pw23 pwf20 pwf21 pwf22 pwf23 pwz2
          obtain ⟨po30, po31, po32, po33, pof30, pof31, pof32, pof33, poz3⟩ := OO3.out
          obtain ⟨px30, px31, px32, px33, pxf30, pxf31, pxf32, pxf33, pxz3⟩ := OX3.out
          obtain ⟨pw30, pw31, pw32, pw33, pwf30, pwf31, pwf32, pwf33, pwz3⟩ := OW3.out
          go_wp2_with fail
          all_goals
            refine ⟨⟨k + 1, by omega, by go_num, ?_⟩, by simp [intOf]; omega⟩
            exact ⟨H.out.below HBc.out, HBc.out, hbo, _, _, _, _, HN.out, OO3.out⟩
        · clear hs h5'
          have C9 : ∀ W, RulesAt W b1 o1 b2 o2 → Calls Tryd.prog 9 #[opV st c v d', .int .i64 xs, .int .i64 xc, .string xv, .int .i64 xd] W fun e w' => e = .returned (.tuple #[opV xs xc xv xd, .int .i64 0]) ∧ Below W.heap.size W w' := by
            intro W hW
            have := settle_any st c v d' xs xc xv xd W b1 o1 b2 o2 hW
            rwa [setV, hE, if_pos rfl] at this
          have H9 := Lib.hid C9
          have HN := Lib.hid (show rightB xs xc xv xd = true from hright2)
          have HK := Lib.hid (show chk xs xc xv xd = 0 by simp [chk, HN.out])
          have HT := Lib.hid (show termB st = false from ht)
          clear hright2
          clear hE C9 ht
          go_wp2_with fail
          refine (H9.out _ (H.out.below ((HBr.out.trans ((bl2 wr _ _).mono HBr.out.size))))).mono ?_
          rintro e wa ⟨rfl, hb⟩
          have OO1 := Lib.hid (((HOO.out.alloc _).alloc _).below hb)
          have OX1 := Lib.hid (((Own4.new wr _ _ _ _ _).alloc _).below hb)
          have OW1 := Lib.hid ((Own4.new1 wr _ _ _ _ _ _).below hb)
          have HBa := Lib.hid ((HBr.out.trans ((bl2 wr _ _).mono HBr.out.size)).trans (hb.mono (Nat.le_trans HBr.out.size (bl2 wr _ _).size)))
          clear hb
          clear po0 po1 po2 po3
          obtain ⟨po10, po11, po12, po13, pof10, pof11, pof12, pof13, poz1⟩ := OO1.out
          obtain ⟨px10, px11, px12, px13, pxf10, pxf11, pxf12, pxf13, pxz1⟩ := OX1.out
          obtain ⟨pw10, pw11, pw12, pw13, pwf10, pwf11, pwf12, pwf13, pwz1⟩ := OW1.out
          go_wp2_with fail
          refine (check_any xs xc xv xd _ b1 o1 b2 o2 (H.out.below (below_store HBa.out hbo _ _ _ _))).mono ?_
          rw [HK.out]
          rintro e wb ⟨rfl, hb⟩
          have OO2 := Lib.hid ((OO1.out.store (.int .i64 xs) (.int .i64 xc) (.string xv) (.int .i64 xd)).below hb)
          have OX2 := Lib.hid ((OX1.out.store_far hox (.int .i64 xs) (.int .i64 xc) (.string xv) (.int .i64 xd)).below hb)
          have OW2 := Lib.hid ((OW1.out.store_far how (.int .i64 xs) (.int .i64 xc) (.string xv) (.int .i64 xd)).below hb)
          have HBb := Lib.hid ((below_store HBa.out hbo (.int .i64 xs) (.int .i64 xc) (.string xv) (.int .i64 xd)).trans (hb.mono (below_store HBa.out hbo (.int .i64 xs) (.int .i64 xc) (.string xv) (.int .i64 xd)).size))
          clear hb
          clear po10 po11 po12 po13 pof10 pof11 pof12 pof13 poz1
          clear px10 px11 px12 px13 pxf10 pxf11 pxf12 pxf13 pxz1
          clear pw10 pw11 pw12 pw13 pwf10 pwf11 pwf12 pwf13 pwz1
          obtain ⟨po20, po21, po22, po23, pof20, pof21, pof22, pof23, poz2⟩ := OO2.out
          obtain ⟨px20, px21, px22, px23, pxf20, pxf21, pxf22, pxf23, pxz2⟩ := OX2.out
          obtain ⟨pw20, pw21, pw22, pw23, pwf20, pwf21, pwf22, pwf23, pwz2⟩ := OW2.out
          go_wp2_with fail
          refine (term_any st c v d' _ b1 o1 b2 o2 (H.out.below HBb.out)).mono ?_
          rw [HT.out]
          rintro e wc ⟨rfl, hb⟩
          have OO3 := Lib.hid (OO2.out.below hb)
          have OX3 := Lib.hid (OX2.out.below hb)
          have OW3 := Lib.hid (OW2.out.below hb)
          have HBc := Lib.hid (HBb.out.trans (hb.mono HBb.out.size))
          clear hb
          clear po20 po21 po22 po23 pof20 pof21 pof22 pof23 poz2
          clear px20 px21 px22 px23 pxf20 pxf21 pxf22 pxf23 pxz2
          clear pw20 pw21 pw22 pw23 pwf20 pwf21 pwf22 pwf23 pwz2
          obtain ⟨po30, po31, po32, po33, pof30, pof31, pof32, pof33, poz3⟩ := OO3.out
          obtain ⟨px30, px31, px32, px33, pxf30, pxf31, pxf32, pxf33, pxz3⟩ := OX3.out
          obtain ⟨pw30, pw31, pw32, pw33, pwf30, pwf31, pwf32, pwf33, pwz3⟩ := OW3.out
          go_wp2_with fail
          all_goals
            refine ⟨⟨k + 1, by omega, by go_num, ?_⟩, by simp [intOf]; omega⟩
            exact ⟨H.out.below HBc.out, HBc.out, hbo, _, _, _, _, HN.out, OO3.out⟩
        · skip
          have C9 : ∀ W, RulesAt W b1 o1 b2 o2 → Calls Tryd.prog 9 #[opV st c v d', .int .i64 xs, .int .i64 xc, .string xv, .int .i64 xd] W fun e w' => e = .returned (.tuple #[opV st c v d', .int .i64 202]) ∧ Below W.heap.size W w' := by
            intro W hW
            have := settle_any st c v d' xs xc xv xd W b1 o1 b2 o2 hW
            rwa [setV, hE, if_neg (by decide)] at this
          have H9 := Lib.hid C9
          have HN := Lib.hid (show rightB st c v d' = true from HRt.out)
          have HK := Lib.hid (show chk st c v d' = 0 by simp [chk, HN.out])
          have HT := Lib.hid (show termB st = true from ht)
          clear hE C9 ht
          go_wp2_with fail
          refine (H9.out _ (H.out.below ((HBr.out.trans ((bl2 wr _ _).mono HBr.out.size))))).mono ?_
          rintro e wa ⟨rfl, hb⟩
          have OO1 := Lib.hid (((HOO.out.alloc _).alloc _).below hb)
          have OX1 := Lib.hid (((Own4.new wr _ _ _ _ _).alloc _).below hb)
          have OW1 := Lib.hid ((Own4.new1 wr _ _ _ _ _ _).below hb)
          have HBa := Lib.hid ((HBr.out.trans ((bl2 wr _ _).mono HBr.out.size)).trans (hb.mono (Nat.le_trans HBr.out.size (bl2 wr _ _).size)))
          clear hb
          clear po0 po1 po2 po3
          obtain ⟨po10, po11, po12, po13, pof10, pof11, pof12, pof13, poz1⟩ := OO1.out
          obtain ⟨px10, px11, px12, px13, pxf10, pxf11, pxf12, pxf13, pxz1⟩ := OX1.out
          obtain ⟨pw10, pw11, pw12, pw13, pwf10, pwf11, pwf12, pwf13, pwz1⟩ := OW1.out
          go_wp2_with fail
          refine (check_any st c v d' _ b1 o1 b2 o2 (H.out.below (below_store HBa.out hbo _ _ _ _))).mono ?_
          rw [HK.out]
          rintro e wb ⟨rfl, hb⟩
          have OO2 := Lib.hid ((OO1.out.store (.int .i64 st) (.int .i64 c) (.string v) (.int .i64 d')).below hb)
          have OX2 := Lib.hid ((OX1.out.store_far hox (.int .i64 st) (.int .i64 c) (.string v) (.int .i64 d')).below hb)
          have OW2 := Lib.hid ((OW1.out.store_far how (.int .i64 st) (.int .i64 c) (.string v) (.int .i64 d')).below hb)
          have HBb := Lib.hid ((below_store HBa.out hbo (.int .i64 st) (.int .i64 c) (.string v) (.int .i64 d')).trans (hb.mono (below_store HBa.out hbo (.int .i64 st) (.int .i64 c) (.string v) (.int .i64 d')).size))
          clear hb
          clear po10 po11 po12 po13 pof10 pof11 pof12 pof13 poz1
          clear px10 px11 px12 px13 pxf10 pxf11 pxf12 pxf13 pxz1
          clear pw10 pw11 pw12 pw13 pwf10 pwf11 pwf12 pwf13 pwz1
          obtain ⟨po20, po21, po22, po23, pof20, pof21, pof22, pof23, poz2⟩ := OO2.out
          obtain ⟨px20, px21, px22, px23, pxf20, pxf21, pxf22, pxf23, pxz2⟩ := OX2.out
          obtain ⟨pw20, pw21, pw22, pw23, pwf20, pwf21, pwf22, pwf23, pwz2⟩ := OW2.out
          go_wp2_with fail
          refine (term_any st c v d' _ b1 o1 b2 o2 (H.out.below HBb.out)).mono ?_
          rw [HT.out]
          rintro e wc ⟨rfl, hb⟩
          have OO3 := Lib.hid (OO2.out.below hb)
          have OX3 := Lib.hid (OX2.out.below hb)
          have OW3 := Lib.hid (OW2.out.below hb)
          have HBc := Lib.hid (HBb.out.trans (hb.mono HBb.out.size))
          clear hb
          clear po20 po21 po22 po23 pof20 pof21 pof22 pof23 poz2
          clear px20 px21 px22 px23 pxf20 pxf21 pxf22 pxf23 pxz2
          clear pw20 pw21 pw22 pw23 pwf20 pwf21 pwf22 pwf23 pwz2
          obtain ⟨po30, po31, po32, po33, pof30, pof31, pof32, pof33, poz3⟩ := OO3.out
          obtain ⟨px30, px31, px32, px33, pxf30, pxf31, pxf32, pxf33, pxz3⟩ := OX3.out
          obtain ⟨pw30, pw31, pw32, pw33, pwf30, pwf31, pwf32, pwf33, pwz3⟩ := OW3.out
          go_wp2_with fail
          all_goals
            refine ⟨⟨k + 1, by omega, by go_num, ?_⟩, by simp [intOf]; omega⟩
            exact ⟨H.out.below HBc.out, HBc.out, hbo, _, _, _, _, HN.out, OO3.out⟩
        · skip
          have C9 : ∀ W, RulesAt W b1 o1 b2 o2 → Calls Tryd.prog 9 #[opV st c v d', .int .i64 xs, .int .i64 xc, .string xv, .int .i64 xd] W fun e w' => e = .returned (.tuple #[opV st c v d', .int .i64 1]) ∧ Below W.heap.size W w' := by
            intro W hW
            have := settle_any st c v d' xs xc xv xd W b1 o1 b2 o2 hW
            rwa [setV, hE, if_neg (by decide)] at this
          have H9 := Lib.hid C9
          have HN := Lib.hid (show rightB st c v d' = true from HRt.out)
          have HK := Lib.hid (show chk st c v d' = 0 by simp [chk, HN.out])
          have HT := Lib.hid (show termB st = true from ht)
          clear hE C9 ht
          go_wp2_with fail
          refine (H9.out _ (H.out.below ((HBr.out.trans ((bl2 wr _ _).mono HBr.out.size))))).mono ?_
          rintro e wa ⟨rfl, hb⟩
          have OO1 := Lib.hid (((HOO.out.alloc _).alloc _).below hb)
          have OX1 := Lib.hid (((Own4.new wr _ _ _ _ _).alloc _).below hb)
          have OW1 := Lib.hid ((Own4.new1 wr _ _ _ _ _ _).below hb)
          have HBa := Lib.hid ((HBr.out.trans ((bl2 wr _ _).mono HBr.out.size)).trans (hb.mono (Nat.le_trans HBr.out.size (bl2 wr _ _).size)))
          clear hb
          clear po0 po1 po2 po3
          obtain ⟨po10, po11, po12, po13, pof10, pof11, pof12, pof13, poz1⟩ := OO1.out
          obtain ⟨px10, px11, px12, px13, pxf10, pxf11, pxf12, pxf13, pxz1⟩ := OX1.out
          obtain ⟨pw10, pw11, pw12, pw13, pwf10, pwf11, pwf12, pwf13, pwz1⟩ := OW1.out
          go_wp2_with fail
          refine (check_any st c v d' _ b1 o1 b2 o2 (H.out.below (below_store HBa.out hbo _ _ _ _))).mono ?_
          rw [HK.out]
          rintro e wb ⟨rfl, hb⟩
          have OO2 := Lib.hid ((OO1.out.store (.int .i64 st) (.int .i64 c) (.string v) (.int .i64 d')).below hb)
          have OX2 := Lib.hid ((OX1.out.store_far hox (.int .i64 st) (.int .i64 c) (.string v) (.int .i64 d')).below hb)
          have OW2 := Lib.hid ((OW1.out.store_far how (.int .i64 st) (.int .i64 c) (.string v) (.int .i64 d')).below hb)
          have HBb := Lib.hid ((below_store HBa.out hbo (.int .i64 st) (.int .i64 c) (.string v) (.int .i64 d')).trans (hb.mono (below_store HBa.out hbo (.int .i64 st) (.int .i64 c) (.string v) (.int .i64 d')).size))
          clear hb
          clear po10 po11 po12 po13 pof10 pof11 pof12 pof13 poz1
          clear px10 px11 px12 px13 pxf10 pxf11 pxf12 pxf13 pxz1
          clear pw10 pw11 pw12 pw13 pwf10 pwf11 pwf12 pwf13 pwz1
          obtain ⟨po20, po21, po22, po23, pof20, pof21, pof22, pof23, poz2⟩ := OO2.out
          obtain ⟨px20, px21, px22, px23, pxf20, pxf21, pxf22, pxf23, pxz2⟩ := OX2.out
          obtain ⟨pw20, pw21, pw22, pw23, pwf20, pwf21, pwf22, pwf23, pwz2⟩ := OW2.out
          go_wp2_with fail
          refine (term_any st c v d' _ b1 o1 b2 o2 (H.out.below HBb.out)).mono ?_
          rw [HT.out]
          rintro e wc ⟨rfl, hb⟩
          have OO3 := Lib.hid (OO2.out.below hb)
          have OX3 := Lib.hid (OX2.out.below hb)
          have OW3 := Lib.hid (OW2.out.below hb)
          have HBc := Lib.hid (HBb.out.trans (hb.mono HBb.out.size))
          clear hb
          clear po20 po21 po22 po23 pof20 pof21 pof22 pof23 poz2
          clear px20 px21 px22 px23 pxf20 pxf21 pxf22 pxf23 pxz2
          clear pw20 pw21 pw22 pw23 pwf20 pwf21 pwf22 pwf23 pwz2
          obtain ⟨po30, po31, po32, po33, pof30, pof31, pof32, pof33, poz3⟩ := OO3.out
          obtain ⟨px30, px31, px32, px33, pxf30, pxf31, pxf32, pxf33, pxz3⟩ := OX3.out
          obtain ⟨pw30, pw31, pw32, pw33, pwf30, pwf31, pwf32, pwf33, pwz3⟩ := OW3.out
          go_wp2_with fail
          all_goals
            refine ⟨⟨k + 1, by omega, by go_num, ?_⟩, by simp [intOf]; omega⟩
            exact ⟨H.out.below HBc.out, HBc.out, hbo, _, _, _, _, HN.out, OO3.out⟩
        · skip
          have C9 : ∀ W, RulesAt W b1 o1 b2 o2 → Calls Tryd.prog 9 #[opV st c v d', .int .i64 xs, .int .i64 xc, .string xv, .int .i64 xd] W fun e w' => e = .returned (.tuple #[opV st c v d', .int .i64 1]) ∧ Below W.heap.size W w' := by
            intro W hW
            have := settle_any st c v d' xs xc xv xd W b1 o1 b2 o2 hW
            rwa [setV, hE, if_neg (by decide)] at this
          have H9 := Lib.hid C9
          have HN := Lib.hid (show rightB st c v d' = true from HRt.out)
          have HK := Lib.hid (show chk st c v d' = 0 by simp [chk, HN.out])
          have HT := Lib.hid (show termB st = false from ht)
          clear hE C9 ht
          go_wp2_with fail
          refine (H9.out _ (H.out.below ((HBr.out.trans ((bl2 wr _ _).mono HBr.out.size))))).mono ?_
          rintro e wa ⟨rfl, hb⟩
          have OO1 := Lib.hid (((HOO.out.alloc _).alloc _).below hb)
          have OX1 := Lib.hid (((Own4.new wr _ _ _ _ _).alloc _).below hb)
          have OW1 := Lib.hid ((Own4.new1 wr _ _ _ _ _ _).below hb)
          have HBa := Lib.hid ((HBr.out.trans ((bl2 wr _ _).mono HBr.out.size)).trans (hb.mono (Nat.le_trans HBr.out.size (bl2 wr _ _).size)))
          clear hb
          clear po0 po1 po2 po3
          obtain ⟨po10, po11, po12, po13, pof10, pof11, pof12, pof13, poz1⟩ := OO1.out
          obtain ⟨px10, px11, px12, px13, pxf10, pxf11, pxf12, pxf13, pxz1⟩ := OX1.out
          obtain ⟨pw10, pw11, pw12, pw13, pwf10, pwf11, pwf12, pwf13, pwz1⟩ := OW1.out
          go_wp2_with fail
          refine (check_any st c v d' _ b1 o1 b2 o2 (H.out.below (below_store HBa.out hbo _ _ _ _))).mono ?_
          rw [HK.out]
          rintro e wb ⟨rfl, hb⟩
          have OO2 := Lib.hid ((OO1.out.store (.int .i64 st) (.int .i64 c) (.string v) (.int .i64 d')).below hb)
          have OX2 := Lib.hid ((OX1.out.store_far hox (.int .i64 st) (.int .i64 c) (.string v) (.int .i64 d')).below hb)
          have OW2 := Lib.hid ((OW1.out.store_far how (.int .i64 st) (.int .i64 c) (.string v) (.int .i64 d')).below hb)
          have HBb := Lib.hid ((below_store HBa.out hbo (.int .i64 st) (.int .i64 c) (.string v) (.int .i64 d')).trans (hb.mono (below_store HBa.out hbo (.int .i64 st) (.int .i64 c) (.string v) (.int .i64 d')).size))
          clear hb
          clear po10 po11 po12 po13 pof10 pof11 pof12 pof13 poz1
          clear px10 px11 px12 px13 pxf10 pxf11 pxf12 pxf13 pxz1
          clear pw10 pw11 pw12 pw13 pwf10 pwf11 pwf12 pwf13 pwz1
          obtain ⟨po20, po21, po22, po23, pof20, pof21, pof22, pof23, poz2⟩ := OO2.out
          obtain ⟨px20, px21, px22, px23, pxf20, pxf21, pxf22, pxf23, pxz2⟩ := OX2.out
          obtain ⟨pw20, pw21, pw22, pw23, pwf20, pwf21, pwf22, pwf23, pwz2⟩ := OW2.out
          go_wp2_with fail
          refine (term_any st c v d' _ b1 o1 b2 o2 (H.out.below HBb.out)).mono ?_
          rw [HT.out]
          rintro e wc ⟨rfl, hb⟩
          have OO3 := Lib.hid (OO2.out.below hb)
          have OX3 := Lib.hid (OX2.out.below hb)
          have OW3 := Lib.hid (OW2.out.below hb)
          have HBc := Lib.hid (HBb.out.trans (hb.mono HBb.out.size))
          clear hb
          clear po20 po21 po22 po23 pof20 pof21 pof22 pof23 poz2
          clear px20 px21 px22 px23 pxf20 pxf21 pxf22 pxf23 pxz2
          clear pw20 pw21 pw22 pw23 pwf20 pwf21 pwf22 pwf23 pwz2
          obtain ⟨po30, po31, po32, po33, pof30, pof31, pof32, pof33, poz3⟩ := OO3.out
          obtain ⟨px30, px31, px32, px33, pxf30, pxf31, pxf32, pxf33, pxz3⟩ := OX3.out
          obtain ⟨pw30, pw31, pw32, pw33, pwf30, pwf31, pwf32, pwf33, pwz3⟩ := OW3.out
          go_wp2_with fail
          all_goals
            refine ⟨⟨k + 1, by omega, by go_num, ?_⟩, by simp [intOf]; omega⟩
            exact ⟨H.out.below HBc.out, HBc.out, hbo, _, _, _, _, HN.out, OO3.out⟩
    · go_wp2
      go_ret
      exact ⟨rfl, hrd.out.2.1⟩
end Go.Proofs.YtfnfbnfjgpfmfaaDoor
