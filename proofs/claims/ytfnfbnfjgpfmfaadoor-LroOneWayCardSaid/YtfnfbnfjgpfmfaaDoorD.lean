/-
  What is proved here: 'lro.Terminal', 'lro.New', 'lro.Cancel', for every operation, under 'RulesAt'.
-/
import Derived.Test.YtfnfbnfjgpfmfaaDoorC
namespace Go.Proofs.YtfnfbnfjgpfmfaaDoor
open Go.RowKit

theorem check_any (st c : Int) (v : ByteArray) (d : Int) (w : World) (b1 o1 b2 o2 : Nat) (h : RulesAt w b1 o1 b2 o2) :
    Calls Tryd.prog 7 #[opV st c v d] w fun e w' => e = .returned (.int .i64 (chk st c v d)) ∧ Below w.heap.size w w' := by
  by_cases hlo : st < 1
  · exact check_lo st c v d w hlo
  by_cases hhi : 5 < st
  · exact check_hi st c v d w hhi
  have hs : st = 1 ∨ st = 2 ∨ st = 3 ∨ st = 4 ∨ st = 5 := by omega
  rcases hs with rfl | rfl | rfl | rfl | rfl
  · exact check_1 c v d w b1 o1 b2 o2 h
  · exact check_2 c v d w b1 o1 b2 o2 h
  · exact check_3 c v d w b1 o1 b2 o2 h
  · exact check_4 c v d w b1 o1 b2 o2 h
  · exact check_5 c v d w b1 o1 b2 o2 h

def termB (st : Int) : Bool := decide (st = 3 ∨ st = 4 ∨ st = 5)
theorem bl1 (w : World) (x : Obj) : Below w.heap.size w (w.alloc x) := (Below.refl _ _).alloc (Nat.le_refl _) _
theorem bl2 (w : World) (x y : Obj) : Below w.heap.size w ((w.alloc x).alloc y) := (bl1 w x).alloc (by simp) _
theorem bl3 (w : World) (x y z : Obj) : Below w.heap.size w (((w.alloc x).alloc y).alloc z) := (bl2 w x y).alloc (by simp; omega) _
theorem chk_01 (st c : Int) (v : ByteArray) (d : Int) : chk st c v d = 0 ∨ chk st c v d = 1 := by unfold chk; split <;> simp
theorem chk_0 {st c : Int} {v : ByteArray} {d : Int} (h : chk st c v d = 0) : rightB st c v d = true := by unfold chk at h; revert h; split <;> simp_all
theorem chk_1 {st c : Int} {v : ByteArray} {d : Int} (h : chk st c v d = 1) : rightB st c v d = false := by unfold chk at h; revert h; split <;> simp_all

theorem term_lo (st : Int) (c : Int) (v : ByteArray) (d : Int) (w : World) (hst : st < 1) :
    Calls Tryd.prog 10 #[opV st c v d] w fun e w' => e = .returned (.bool false) ∧ Below w.heap.size w w' := by
  go_enter Tryd.func10, Tryd.ntmps10
  go_wp2_with (go_at_call 17; refine (of_lo _ _ hst).mono ?_; rintro e w1 ⟨rfl, hb⟩; obtain ⟨hc1, hf1⟩ := bcell hb; have hz1 : w.heap.size < w1.heap.size := by (have := hb.size; simp at this; omega))
  go_ret
  exact ⟨rfl, ((((Below.refl _ _).alloc (Nat.le_refl _) _).trans (hb.mono (by simp))).alloc (by omega) _)⟩
theorem term_hi (st : Int) (c : Int) (v : ByteArray) (d : Int) (w : World) (hst : 5 < st) :
    Calls Tryd.prog 10 #[opV st c v d] w fun e w' => e = .returned (.bool false) ∧ Below w.heap.size w w' := by
  go_enter Tryd.func10, Tryd.ntmps10
  go_wp2_with (go_at_call 17; refine (of_hi _ _ hst).mono ?_; rintro e w1 ⟨rfl, hb⟩; obtain ⟨hc1, hf1⟩ := bcell hb; have hz1 : w.heap.size < w1.heap.size := by (have := hb.size; simp at this; omega))
  go_ret
  exact ⟨rfl, ((((Below.refl _ _).alloc (Nat.le_refl _) _).trans (hb.mono (by simp))).alloc (by omega) _)⟩
theorem term_1 (c : Int) (v : ByteArray) (d : Int) (w : World) (b1 o1 b2 o2 : Nat) (h : RulesAt w b1 o1 b2 o2) :
    Calls Tryd.prog 10 #[opV 1 c v d] w fun e w' => e = .returned (.bool false) ∧ Below w.heap.size w w' := by
  have H := Lib.hid h
  clear h
  go_enter Tryd.func10, Tryd.ntmps10
  go_wp2_with (go_at_call 17; refine (of_1 _ b1 o1 b2 o2 (H.out.below ((Below.refl _ _).alloc (Nat.le_refl _) _))).mono ?_; rintro e w1 ⟨rfl, hb⟩; obtain ⟨hc1, hf1⟩ := bcell hb; have hz1 : w.heap.size < w1.heap.size := by (have := hb.size; simp at this; omega))
  go_ret
  exact ⟨rfl, ((((Below.refl _ _).alloc (Nat.le_refl _) _).trans (hb.mono (by simp))).alloc (by omega) _)⟩
theorem term_2 (c : Int) (v : ByteArray) (d : Int) (w : World) (b1 o1 b2 o2 : Nat) (h : RulesAt w b1 o1 b2 o2) :
    Calls Tryd.prog 10 #[opV 2 c v d] w fun e w' => e = .returned (.bool false) ∧ Below w.heap.size w w' := by
  have H := Lib.hid h
  clear h
  go_enter Tryd.func10, Tryd.ntmps10
  go_wp2_with (go_at_call 17; refine (of_2 _ b1 o1 b2 o2 (H.out.below ((Below.refl _ _).alloc (Nat.le_refl _) _))).mono ?_; rintro e w1 ⟨rfl, hb⟩; obtain ⟨hc1, hf1⟩ := bcell hb; have hz1 : w.heap.size < w1.heap.size := by (have := hb.size; simp at this; omega))
  go_ret
  exact ⟨rfl, ((((Below.refl _ _).alloc (Nat.le_refl _) _).trans (hb.mono (by simp))).alloc (by omega) _)⟩
theorem term_3 (c : Int) (v : ByteArray) (d : Int) (w : World) (b1 o1 b2 o2 : Nat) (h : RulesAt w b1 o1 b2 o2) :
    Calls Tryd.prog 10 #[opV 3 c v d] w fun e w' => e = .returned (.bool true) ∧ Below w.heap.size w w' := by
  have H := Lib.hid h
  clear h
  go_enter Tryd.func10, Tryd.ntmps10
  go_wp2_with (go_at_call 17; refine (of_3 _ b1 o1 b2 o2 (H.out.below ((Below.refl _ _).alloc (Nat.le_refl _) _))).mono ?_; rintro e w1 ⟨rfl, hb⟩; obtain ⟨hc1, hf1⟩ := bcell hb; have hz1 : w.heap.size < w1.heap.size := by (have := hb.size; simp at this; omega))
  go_ret
  exact ⟨rfl, ((((Below.refl _ _).alloc (Nat.le_refl _) _).trans (hb.mono (by simp))).alloc (by omega) _)⟩
theorem term_4 (c : Int) (v : ByteArray) (d : Int) (w : World) (b1 o1 b2 o2 : Nat) (h : RulesAt w b1 o1 b2 o2) :
    Calls Tryd.prog 10 #[opV 4 c v d] w fun e w' => e = .returned (.bool true) ∧ Below w.heap.size w w' := by
  have H := Lib.hid h
  clear h
  go_enter Tryd.func10, Tryd.ntmps10
  go_wp2_with (go_at_call 17; refine (of_4 _ b1 o1 b2 o2 (H.out.below ((Below.refl _ _).alloc (Nat.le_refl _) _))).mono ?_; rintro e w1 ⟨rfl, hb⟩; obtain ⟨hc1, hf1⟩ := bcell hb; have hz1 : w.heap.size < w1.heap.size := by (have := hb.size; simp at this; omega))
  go_ret
  exact ⟨rfl, ((((Below.refl _ _).alloc (Nat.le_refl _) _).trans (hb.mono (by simp))).alloc (by omega) _)⟩
theorem term_5 (c : Int) (v : ByteArray) (d : Int) (w : World) (b1 o1 b2 o2 : Nat) (h : RulesAt w b1 o1 b2 o2) :
    Calls Tryd.prog 10 #[opV 5 c v d] w fun e w' => e = .returned (.bool true) ∧ Below w.heap.size w w' := by
  have H := Lib.hid h
  clear h
  go_enter Tryd.func10, Tryd.ntmps10
  go_wp2_with (go_at_call 17; refine (of_5 _ b1 o1 b2 o2 (H.out.below ((Below.refl _ _).alloc (Nat.le_refl _) _))).mono ?_; rintro e w1 ⟨rfl, hb⟩; obtain ⟨hc1, hf1⟩ := bcell hb; have hz1 : w.heap.size < w1.heap.size := by (have := hb.size; simp at this; omega))
  go_ret
  exact ⟨rfl, ((((Below.refl _ _).alloc (Nat.le_refl _) _).trans (hb.mono (by simp))).alloc (by omega) _)⟩

theorem term_any (st c : Int) (v : ByteArray) (d : Int) (w : World) (b1 o1 b2 o2 : Nat) (h : RulesAt w b1 o1 b2 o2) :
    Calls Tryd.prog 10 #[opV st c v d] w fun e w' => e = .returned (.bool (termB st)) ∧ Below w.heap.size w w' := by
  by_cases hlo : st < 1
  · rw [show termB st = false by unfold termB; simp; omega]; exact term_lo st c v d w hlo
  by_cases hhi : 5 < st
  · rw [show termB st = false by unfold termB; simp; omega]; exact term_hi st c v d w hhi
  have hs : st = 1 ∨ st = 2 ∨ st = 3 ∨ st = 4 ∨ st = 5 := by omega
  rcases hs with rfl | rfl | rfl | rfl | rfl
  · exact term_1 c v d w b1 o1 b2 o2 h
  · exact term_2 c v d w b1 o1 b2 o2 h
  · exact term_3 c v d w b1 o1 b2 o2 h
  · exact term_4 c v d w b1 o1 b2 o2 h
  · exact term_5 c v d w b1 o1 b2 o2 h

theorem new_any (d : Int) (w : World) :
    Calls Tryd.prog 6 #[.int .i64 d] w fun e w' => e = .returned (opV 1 0 ⟨#[]⟩ d) ∧ Below w.heap.size w w' := by
  go_enter Tryd.func6, Tryd.ntmps6
  go_wp2
  exact bodyPost_ret (v := opV 1 0 ⟨#[]⟩ d) (by simp [results, Tryd.results6, go_sem]) rfl ⟨rfl, bl1 _ _⟩

/-- Cancel: the state and the error behind it -/
def canSt (st c : Int) (v : ByteArray) (d : Int) : Int := if rightB st c v d && mayB st 2 then 2 else st
def canE (st c : Int) (v : ByteArray) (d : Int) : Int := if rightB st c v d then (if mayB st 2 then 0 else 202) else 1

structure Own4 (w : World) (b : Nat) (x0 x1 x2 x3 : Value) : Prop where
  c0 : w.cell? ⟨b, 0, none⟩ = some x0
  c1 : w.cell? ⟨b, 1, none⟩ = some x1
  c2 : w.cell? ⟨b, 2, none⟩ = some x2
  c3 : w.cell? ⟨b, 3, none⟩ = some x3
  f0 : w.frozen? ⟨b, 0, none⟩ = false
  f1 : w.frozen? ⟨b, 1, none⟩ = false
  f2 : w.frozen? ⟨b, 2, none⟩ = false
  f3 : w.frozen? ⟨b, 3, none⟩ = false
  lt : b < w.heap.size
theorem Own4.new (w : World) (x0 x1 x2 x3 : Value) (T : TypeId) : Own4 (w.alloc (.cells #[x0, x1, x2, x3] T)) w.heap.size x0 x1 x2 x3 := by
  constructor <;> simp [go_sem]
theorem Own4.new1 (w : World) (o : Obj) (x0 x1 x2 x3 : Value) (T : TypeId) : Own4 ((w.alloc o).alloc (.cells #[x0, x1, x2, x3] T)) (w.heap.size + 1) x0 x1 x2 x3 := by
  have h := Own4.new (w.alloc o) x0 x1 x2 x3 T
  rwa [show (w.alloc o).heap.size = w.heap.size + 1 by simp] at h
theorem Own4.alloc {w : World} {b : Nat} {x0 x1 x2 x3 : Value} (h : Own4 w b x0 x1 x2 x3) (o : Obj) : Own4 (w.alloc o) b x0 x1 x2 x3 := by
  have hb := bl1 w o
  obtain ⟨a0, a1, a2, a3, g0, g1, g2, g3, lt⟩ := h
  exact ⟨(hb.cell (p := ⟨b, 0, none⟩) lt).trans a0, (hb.cell (p := ⟨b, 1, none⟩) lt).trans a1, (hb.cell (p := ⟨b, 2, none⟩) lt).trans a2, (hb.cell (p := ⟨b, 3, none⟩) lt).trans a3,
    (hb.frozen (p := ⟨b, 0, none⟩) lt).trans g0, (hb.frozen (p := ⟨b, 1, none⟩) lt).trans g1, (hb.frozen (p := ⟨b, 2, none⟩) lt).trans g2, (hb.frozen (p := ⟨b, 3, none⟩) lt).trans g3, Nat.lt_of_lt_of_le lt hb.size⟩
theorem Own4.below {w w' : World} {b : Nat} {x0 x1 x2 x3 : Value} (h : Own4 w b x0 x1 x2 x3) (hb : Below w.heap.size w w') : Own4 w' b x0 x1 x2 x3 := by
  obtain ⟨a0, a1, a2, a3, g0, g1, g2, g3, lt⟩ := h
  exact ⟨(hb.cell (p := ⟨b, 0, none⟩) lt).trans a0, (hb.cell (p := ⟨b, 1, none⟩) lt).trans a1, (hb.cell (p := ⟨b, 2, none⟩) lt).trans a2, (hb.cell (p := ⟨b, 3, none⟩) lt).trans a3,
    (hb.frozen (p := ⟨b, 0, none⟩) lt).trans g0, (hb.frozen (p := ⟨b, 1, none⟩) lt).trans g1, (hb.frozen (p := ⟨b, 2, none⟩) lt).trans g2, (hb.frozen (p := ⟨b, 3, none⟩) lt).trans g3, Nat.lt_of_lt_of_le lt hb.size⟩

theorem cancel_any (st c : Int) (v : ByteArray) (d : Int) (w : World) (b1 o1 b2 o2 : Nat) (h : RulesAt w b1 o1 b2 o2) :
    Calls Tryd.prog 8 #[opV st c v d] w fun e w' => e = .returned (.tuple #[opV (canSt st c v d) c v d, .int .i64 (canE st c v d)]) ∧ Below w.heap.size w w' := by
  have H := Lib.hid h
  clear h
  rcases chk_01 st c v d with hk | hk
  · have hr := Lib.hid (chk_0 hk)
    cases hm : mayB st 2
    · have hfin : canSt st c v d = st ∧ canE st c v d = 202 := by unfold canSt canE; rw [hr.out, hm]; simp
      rw [hfin.1, hfin.2]
      clear hfin
      go_enter Tryd.func8, Tryd.ntmps8
      go_wp2_with fail
      refine (check_any _ _ _ _ _ b1 o1 b2 o2 (H.out.below (bl2 _ _ _))).mono ?_
      rintro e w1 ⟨rfl, hb1⟩
      have O1_0 := Lib.hid (((Own4.new w _ _ _ _ _).alloc _).below hb1)
      obtain ⟨q100, q101, q102, q103, f100, f101, f102, f103, z10⟩ := O1_0.out
      have O1_1 := Lib.hid ((Own4.new1 w _ _ _ _ _ _).below hb1)
      obtain ⟨q110, q111, q112, q113, f110, f111, f112, f113, z11⟩ := O1_1.out
      have HB1 := Lib.hid hb1
      clear hb1
      go_wp2_with fail
      refine (may_any _ _ _ b1 o1 b2 o2 ((H.out.below (bl2 _ _ _)).below HB1.out)).mono ?_
      rintro e w2 ⟨rfl, hb2⟩
      have O2_0 := Lib.hid ((O1_0.out).below hb2)
      obtain ⟨q200, q201, q202, q203, f200, f201, f202, f203, z20⟩ := O2_0.out
      have O2_1 := Lib.hid ((O1_1.out).below hb2)
      obtain ⟨q210, q211, q212, q213, f210, f211, f212, f213, z21⟩ := O2_1.out
      have HB2 := Lib.hid hb2
      clear hb2
      go_wp2_with fail

      exact bodyPost_ret (v := .tuple #[opV st c v d, .int .i64 202]) (by simp [results, Tryd.results8, go_sem, *]) rfl ⟨rfl, ((((((bl2 _ _ _).trans ((HB1.out.trans (HB2.out.mono HB1.out.size)).mono (by simp; omega))).setCell (by simp) _).setCell (by simp) _).setCell (by simp) _).setCell (by simp) _)⟩
    · have hfin : canSt st c v d = 2 ∧ canE st c v d = 0 := by unfold canSt canE; rw [hr.out, hm]; simp
      rw [hfin.1, hfin.2]
      clear hfin
      go_enter Tryd.func8, Tryd.ntmps8
      go_wp2_with fail
      refine (check_any _ _ _ _ _ b1 o1 b2 o2 (H.out.below (bl2 _ _ _))).mono ?_
      rintro e w1 ⟨rfl, hb1⟩
      have O1_0 := Lib.hid (((Own4.new w _ _ _ _ _).alloc _).below hb1)
      obtain ⟨q100, q101, q102, q103, f100, f101, f102, f103, z10⟩ := O1_0.out
      have O1_1 := Lib.hid ((Own4.new1 w _ _ _ _ _ _).below hb1)
      obtain ⟨q110, q111, q112, q113, f110, f111, f112, f113, z11⟩ := O1_1.out
      have HB1 := Lib.hid hb1
      clear hb1
      go_wp2_with fail
      refine (may_any _ _ _ b1 o1 b2 o2 ((H.out.below (bl2 _ _ _)).below HB1.out)).mono ?_
      rintro e w2 ⟨rfl, hb2⟩
      have O2_0 := Lib.hid ((O1_0.out).below hb2)
      obtain ⟨q200, q201, q202, q203, f200, f201, f202, f203, z20⟩ := O2_0.out
      have O2_1 := Lib.hid ((O1_1.out).below hb2)
      obtain ⟨q210, q211, q212, q213, f210, f211, f212, f213, z21⟩ := O2_1.out
      have HB2 := Lib.hid hb2
      clear hb2
      go_wp2_with fail

      exact bodyPost_ret (v := .tuple #[opV 2 c v d, .int .i64 0]) (by simp [results, Tryd.results8, go_sem, *]) rfl ⟨rfl, (((((((bl2 _ _ _).trans ((HB1.out.trans (HB2.out.mono HB1.out.size)).mono (by simp; omega))).setCell (by simp) _).setCell (by simp) _).setCell (by simp) _).setCell (by simp) _).setCell (by simp) _)⟩
  · have hr := Lib.hid (chk_1 hk)
    have hfin : canSt st c v d = st ∧ canE st c v d = 1 := by unfold canSt canE; rw [hr.out]; simp
    rw [hfin.1, hfin.2]
    clear hfin
    go_enter Tryd.func8, Tryd.ntmps8
    go_wp2_with fail
    refine (check_any _ _ _ _ _ b1 o1 b2 o2 (H.out.below (bl2 _ _ _))).mono ?_
    rintro e w1 ⟨rfl, hb1⟩
    have O1_0 := Lib.hid (((Own4.new w _ _ _ _ _).alloc _).below hb1)
    obtain ⟨q100, q101, q102, q103, f100, f101, f102, f103, z10⟩ := O1_0.out
    have O1_1 := Lib.hid ((Own4.new1 w _ _ _ _ _ _).below hb1)
    obtain ⟨q110, q111, q112, q113, f110, f111, f112, f113, z11⟩ := O1_1.out
    have HB1 := Lib.hid hb1
    clear hb1
    go_wp2_with fail

    exact bodyPost_ret (v := .tuple #[opV st c v d, .int .i64 1]) (by simp [results, Tryd.results8, go_sem, *]) rfl ⟨rfl, ((((((bl2 _ _ _).trans (HB1.out.mono (by simp; omega))).setCell (by simp) _).setCell (by simp) _).setCell (by simp) _).setCell (by simp) _)⟩
end Go.Proofs.YtfnfbnfjgpfmfaaDoor
