/-
  What is proved here: 'Expired' of both, and the laws' own 'awake', for every argument, under 'RulesAt'.
-/
import Derived.Test.YtfnfbnfjgpfmfaaDoorG
namespace Go.Proofs.YtfnfbnfjgpfmfaaDoor
open Go.RowKit

theorem rsettle_any (st c : Int) (v : ByteArray) (d : Int) (st' c' : Int) (v' : ByteArray) (d' : Int) (w : World) :
    Calls Tryd.prog 12 #[opV st c v d, .int .i64 st', .int .i64 c', .string v', .int .i64 d'] w fun e w' => e = .returned (.tuple #[setV st c v d st' c' v' d', .int .i64 (setE st c v d st' c' v' d')]) ∧ Below w.heap.size w w' := by
  have fin : ∀ (E : Int) (V : Value), (setE st c v d st' c' v' d' = E) → (V = if E = 0 then opV st' c' v' d' else opV st c v d) → Calls Tryd.prog 12 #[opV st c v d, .int .i64 st', .int .i64 c', .string v', .int .i64 d'] w (fun e w' => e = .returned (.tuple #[V, .int .i64 E]) ∧ Below w.heap.size w w') → Calls Tryd.prog 12 #[opV st c v d, .int .i64 st', .int .i64 c', .string v', .int .i64 d'] w (fun e w' => e = .returned (.tuple #[setV st c v d st' c' v' d', .int .i64 (setE st c v d st' c' v' d')]) ∧ Below w.heap.size w w') := by
    intro E V h1 h2 h3
    rw [setV, h1, ← h2]; exact h3
  cases hr : rightB st c v d
  · exact fin 1 _ (by simp [setE, hr]) (by simp) (rsettle_1 st c v d st' c' v' d' w hr)
  cases ht' : termB st'
  · exact fin 1 _ (by simp [setE, hr, ht']) (by simp) (rsettle_2 st c v d st' c' v' d' w hr ht')
  cases hr' : rightB st' c' v' d'
  · exact fin 1 _ (by simp [setE, hr, ht', hr']) (by simp) (rsettle_3 st c v d st' c' v' d' w hr ht' hr')
  cases ht : termB st
  · have hm := may_t (right_range hr) ht ht'
    by_cases h5 : st' = 5
    · by_cases h1 : st = 1
      · exact fin 1 _ (by simp only [setE, hr, ht', hr', ht, hm]; simp [h5, h1]) (by simp) (rsettle_5 st c v d st' c' v' d' w hr ht' hr' ht (by simpa using h5) (by simpa using h1))
      · exact fin 0 _ (by simp [setE, hr, ht', hr', ht, hm, h1]) (by simp) (rsettle_6 st c v d st' c' v' d' w hr ht' hr' ht (by simpa using h5) (by simpa using h1))
    · exact fin 0 _ (by simp [setE, hr, ht', hr', ht, hm, h5]) (by simp) (rsettle_7 st c v d st' c' v' d' w hr ht' hr' ht (by simpa using h5))
  · exact fin 202 _ (by simp [setE, hr, ht', hr', ht]) (by simp) (rsettle_4 st c v d st' c' v' d' w hr ht' hr' ht)

def expB (st c : Int) (v : ByteArray) (d now : Int) : Bool := rightB st c v d && (termB st && decide (d ≤ now))
theorem exp_any (st c : Int) (v : ByteArray) (d now : Int) (w : World) (b1 o1 b2 o2 : Nat) (h : RulesAt w b1 o1 b2 o2) :
    Calls Tryd.prog 15 #[opV st c v d, .int .i64 now] w fun e w' => e = .returned (.bool (expB st c v d now)) ∧ Below w.heap.size w w' := by
  have H := Lib.hid h
  clear h
  rcases chk_01 st c v d with hk | hk
  · have hr := chk_0 hk
    cases ht : termB st
    · go_enter Tryd.func15, Tryd.ntmps15
      go_wp2_with fail
      refine (check_any st c v d _ b1 o1 b2 o2 (H.out.below (bl1 _ _))).mono ?_
      rintro e w1 ⟨rfl, hb1⟩
      have O1_0 := Lib.hid ((Own4.new w _ _ _ _ _).below hb1)
      obtain ⟨q100, q101, q102, q103, f100, f101, f102, f103, z10⟩ := O1_0.out
      have HB1 := Lib.hid hb1
      clear hb1
      have HR1 := Lib.hid ((H.out.below (bl1 _ _)).below HB1.out)
      go_wp2_with fail
      refine (term_any st c v d _ b1 o1 b2 o2 HR1.out).mono ?_
      rintro e w2 ⟨rfl, hb2⟩
      have O2_0 := Lib.hid ((O1_0.out).below hb2)
      obtain ⟨q200, q201, q202, q203, f200, f201, f202, f203, z20⟩ := O2_0.out
      have HB2 := Lib.hid hb2
      clear hb2
      go_wp2_with fail
      all_goals (go_ret; exact ⟨ret_bool (by simp [expB, *]), ((bl1 _ _).trans ((HB1.out.trans (HB2.out.mono HB1.out.size)).mono (by simp)))⟩)
    · go_enter Tryd.func15, Tryd.ntmps15
      go_wp2_with fail
      refine (check_any st c v d _ b1 o1 b2 o2 (H.out.below (bl1 _ _))).mono ?_
      rintro e w1 ⟨rfl, hb1⟩
      have O1_0 := Lib.hid ((Own4.new w _ _ _ _ _).below hb1)
      obtain ⟨q100, q101, q102, q103, f100, f101, f102, f103, z10⟩ := O1_0.out
      have HB1 := Lib.hid hb1
      clear hb1
      have HR1 := Lib.hid ((H.out.below (bl1 _ _)).below HB1.out)
      go_wp2_with fail
      refine (term_any st c v d _ b1 o1 b2 o2 HR1.out).mono ?_
      rintro e w2 ⟨rfl, hb2⟩
      have O2_0 := Lib.hid ((O1_0.out).below hb2)
      obtain ⟨q200, q201, q202, q203, f200, f201, f202, f203, z20⟩ := O2_0.out
      have HB2 := Lib.hid hb2
      clear hb2
      go_wp2_with fail
      all_goals (go_ret; exact ⟨ret_bool (by simp [expB, *]), ((bl1 _ _).trans ((HB1.out.trans (HB2.out.mono HB1.out.size)).mono (by simp)))⟩)
  · have hr := chk_1 hk
    go_enter Tryd.func15, Tryd.ntmps15
    go_wp2_with fail
    refine (check_any st c v d _ b1 o1 b2 o2 (H.out.below (bl1 _ _))).mono ?_
    rintro e w1 ⟨rfl, hb1⟩
    have O1_0 := Lib.hid ((Own4.new w _ _ _ _ _).below hb1)
    obtain ⟨q100, q101, q102, q103, f100, f101, f102, f103, z10⟩ := O1_0.out
    have HB1 := Lib.hid hb1
    clear hb1
    have HR1 := Lib.hid ((H.out.below (bl1 _ _)).below HB1.out)
    go_wp2_with fail
    all_goals (go_ret; exact ⟨ret_bool (by simp [expB, *]), ((bl1 _ _).trans (HB1.out.mono (by simp)))⟩)
theorem rexp_any (st c : Int) (v : ByteArray) (d now : Int) (w : World) :
    Calls Tryd.prog 16 #[opV st c v d, .int .i64 now] w fun e w' => e = .returned (.bool (expB st c v d now)) ∧ Below w.heap.size w w' := by
  cases hr : rightB st c v d
  · go_enter Tryd.func16, Tryd.ntmps16
    go_wp2_with fail
    refine (right_any st c v d _).mono ?_
    rintro e w1 ⟨rfl, hb1⟩
    have O1_0 := Lib.hid ((Own4.new w _ _ _ _ _).below hb1)
    obtain ⟨q100, q101, q102, q103, f100, f101, f102, f103, z10⟩ := O1_0.out
    have HB1 := Lib.hid hb1
    clear hb1
    go_wp2_with fail
    all_goals (go_ret; exact ⟨ret_bool (by simp [expB, *]), ((bl1 _ _).trans (HB1.out.mono (by simp)))⟩)
  · cases ht : termB st
    · go_enter Tryd.func16, Tryd.ntmps16
      go_wp2_with fail
      refine (right_any st c v d _).mono ?_
      rintro e w1 ⟨rfl, hb1⟩
      have O1_0 := Lib.hid ((Own4.new w _ _ _ _ _).below hb1)
      obtain ⟨q100, q101, q102, q103, f100, f101, f102, f103, z10⟩ := O1_0.out
      have HB1 := Lib.hid hb1
      clear hb1
      go_wp2_with fail
      refine (rterm_any st _).mono ?_
      rintro e w2 ⟨rfl, hb2⟩
      have O2_0 := Lib.hid ((O1_0.out).below hb2)
      obtain ⟨q200, q201, q202, q203, f200, f201, f202, f203, z20⟩ := O2_0.out
      have HB2 := Lib.hid hb2
      clear hb2
      go_wp2_with fail
      all_goals (go_ret; exact ⟨ret_bool (by simp [expB, *]), ((bl1 _ _).trans ((HB1.out.trans (HB2.out.mono HB1.out.size)).mono (by simp)))⟩)
    · go_enter Tryd.func16, Tryd.ntmps16
      go_wp2_with fail
      refine (right_any st c v d _).mono ?_
      rintro e w1 ⟨rfl, hb1⟩
      have O1_0 := Lib.hid ((Own4.new w _ _ _ _ _).below hb1)
      obtain ⟨q100, q101, q102, q103, f100, f101, f102, f103, z10⟩ := O1_0.out
      have HB1 := Lib.hid hb1
      clear hb1
      go_wp2_with fail
      refine (rterm_any st _).mono ?_
      rintro e w2 ⟨rfl, hb2⟩
      have O2_0 := Lib.hid ((O1_0.out).below hb2)
      obtain ⟨q200, q201, q202, q203, f200, f201, f202, f203, z20⟩ := O2_0.out
      have HB2 := Lib.hid hb2
      clear hb2
      go_wp2_with fail
      all_goals (go_ret; exact ⟨ret_bool (by simp [expB, *]), ((bl1 _ _).trans ((HB1.out.trans (HB2.out.mono HB1.out.size)).mono (by simp)))⟩)

theorem awake_any (w : World) (b1 o1 b2 o2 : Nat) (h : RulesAt w b1 o1 b2 o2) :
    Calls Tryd.prog 5 #[] w fun e w' => e = .returned (.bool true) ∧ Below w.heap.size w w' := by
  have H := Lib.hid h
  clear h
  have l0 : ByteArray.toList ⟨#[]⟩ = [] := by unfold ByteArray.toList; unfold ByteArray.toList.loop; rfl
  have z0 : ByteArray.size ⟨#[]⟩ = 0 := rfl
  have zx : ByteArray.size ⟨#[120]⟩ = 1 := rfl
  have r1 : rightB 1 0 ⟨#[]⟩ 0 = true := by simp [rightB, l0, z0]
  have r2 : rightB 2 0 ⟨#[]⟩ 0 = true := by simp [rightB, l0, z0]
  have r3 : rightB 3 0 ⟨#[120]⟩ 9 = true := by simp [rightB, zx]
  have m1 : mayB 1 2 = true := by decide
  have m2 : mayB 2 3 = true := by decide
  have m3 : mayB 3 2 = false := by decide
  have t2 : termB 2 = false := by decide
  have t3 : termB 3 = true := by decide
  have a1 : canSt 1 0 ⟨#[]⟩ 0 = 2 ∧ canE 1 0 ⟨#[]⟩ 0 = 0 := by simp [canSt, canE, r1, m1]
  have a2 : setE 2 0 ⟨#[]⟩ 0 3 0 ⟨#[120]⟩ 9 = 0 := by simp [setE, r2, r3, t2, t3, m2]
  have a2' : setV 2 0 ⟨#[]⟩ 0 3 0 ⟨#[120]⟩ 9 = opV 3 0 ⟨#[120]⟩ 9 := by rw [setV, a2]; simp
  have a3 : canSt 3 0 ⟨#[120]⟩ 9 = 3 ∧ canE 3 0 ⟨#[120]⟩ 9 = 202 := by simp [canSt, canE, r3, m3]
  have C1 : ∀ W, RulesAt W b1 o1 b2 o2 → Calls Tryd.prog 8 #[opV 1 0 ⟨#[]⟩ 0] W fun e w' => e = .returned (.tuple #[opV 2 0 ⟨#[]⟩ 0, .int .i64 0]) ∧ Below W.heap.size W w' := by
    intro W hW
    have := cancel_any 1 0 ⟨#[]⟩ 0 W b1 o1 b2 o2 hW
    rwa [a1.1, a1.2] at this
  have C2 : ∀ W, RulesAt W b1 o1 b2 o2 → Calls Tryd.prog 9 #[opV 2 0 ⟨#[]⟩ 0, .int .i64 3, .int .i64 0, .string ⟨#[120]⟩, .int .i64 9] W fun e w' => e = .returned (.tuple #[opV 3 0 ⟨#[120]⟩ 9, .int .i64 0]) ∧ Below W.heap.size W w' := by
    intro W hW
    have := settle_any 2 0 ⟨#[]⟩ 0 3 0 ⟨#[120]⟩ 9 W b1 o1 b2 o2 hW
    rwa [a2, a2'] at this
  have C3 : ∀ W, RulesAt W b1 o1 b2 o2 → Calls Tryd.prog 8 #[opV 3 0 ⟨#[120]⟩ 9] W fun e w' => e = .returned (.tuple #[opV 3 0 ⟨#[120]⟩ 9, .int .i64 202]) ∧ Below W.heap.size W w' := by
    intro W hW
    have := cancel_any 3 0 ⟨#[120]⟩ 9 W b1 o1 b2 o2 hW
    rwa [a3.1, a3.2] at this
  clear l0 z0 zx r1 r2 r3 m1 m2 m3 t2 t3 a1 a2 a2' a3
  have H1 := Lib.hid C1
  have H2 := Lib.hid C2
  have H3 := Lib.hid C3
  clear C1 C2 C3
  go_enter Tryd.func5, Tryd.ntmps5
  go_wp2_with fail
  refine (new_any 0 _).mono ?_
  rintro e w1 ⟨rfl, hb1⟩
  have HR1 := Lib.hid (H.out.below hb1)
  have HB1 := Lib.hid hb1
  clear hb1
  go_wp2_with fail
  refine (H1.out _ HR1.out).mono ?_
  rintro e w2 ⟨rfl, hb2⟩
  have HR2 := Lib.hid (HR1.out.below hb2)
  have HB2 := Lib.hid (HB1.out.trans (hb2.mono HB1.out.size))
  clear hb2
  go_wp2_with fail
  refine (H2.out _ (HR2.out.below (bl1 _ _))).mono ?_
  rintro e w3 ⟨rfl, hb3⟩
  have HR3 := Lib.hid ((HR2.out.below (bl1 _ _)).below hb3)
  have O3_0 := Lib.hid ((Own4.new w2 _ _ _ _ _).below hb3)
  have HB3 := Lib.hid ((HB2.out.trans ((bl1 w2 _).mono HB2.out.size)).trans (hb3.mono (Nat.le_trans HB2.out.size (bl1 w2 _).size)))
  have Z3 := Lib.hid hb3.size
  clear hb3
  obtain ⟨q300, q301, q302, q303, f300, f301, f302, f303, z30⟩ := O3_0.out
  go_wp2_with fail
  refine (H3.out _ (HR3.out.below (bl1 _ _))).mono ?_
  rintro e w4 ⟨rfl, hb4⟩
  have O4_0 := Lib.hid ((O3_0.out.alloc _).below hb4)
  have O4_1 := Lib.hid ((Own4.new w3 _ _ _ _ _).below hb4)
  have HB4 := Lib.hid ((HB3.out.trans ((bl1 w3 _).mono HB3.out.size)).trans (hb4.mono (Nat.le_trans HB3.out.size (bl1 w3 _).size)))
  clear hb4
  obtain ⟨q400, q401, q402, q403, f400, f401, f402, f403, z40⟩ := O4_0.out
  obtain ⟨q410, q411, q412, q413, f410, f411, f412, f413, z41⟩ := O4_1.out
  go_wp2_with fail
  go_ret
  exact ⟨rfl, HB4.out.alloc HB4.out.size _⟩
end Go.Proofs.YtfnfbnfjgpfmfaaDoor
