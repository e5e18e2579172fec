/-
  The law's helpers: 'one', 'other', 'Same', 'alike', 'great'.
-/
import Derived.Test.YtiiafpbonkcokaaGreatQa
namespace Go.Proofs.YtiiafpbonkcokaaGreat
open Go.RowKit Go.Maps

def f1 : Fi := ⟨1, 0, 2, ⟨#[97]⟩, ⟨#[99]⟩⟩
def f2 : Fi := ⟨2, 1, 1, ⟨#[98]⟩, ⟨#[98]⟩⟩
theorem one_any (w : World) : Calls Tryz.prog 8 #[] w fun e w' => e = .returned (.agg #[.int .i64 1, .int .i64 0, .int .i64 2, .string ⟨#[97]⟩, .string ⟨#[99]⟩]) ∧ Below w.heap.size w w' := by
  go_enter Tryz.func8, Tryz.ntmps8
  go_wp2_with fail
  exact bodyPost_ret (v := .agg #[.int .i64 1, .int .i64 0, .int .i64 2, .string ⟨#[97]⟩, .string ⟨#[99]⟩]) (by simp [results, Tryz.results8, go_sem]) rfl ⟨rfl, bl1 _ _⟩
theorem other_any (w : World) : Calls Tryz.prog 9 #[] w fun e w' => e = .returned (.agg #[.int .i64 2, .int .i64 1, .int .i64 1, .string ⟨#[98]⟩, .string ⟨#[98]⟩]) ∧ Below w.heap.size w w' := by
  go_enter Tryz.func9, Tryz.ntmps9
  go_wp2_with fail
  exact bodyPost_ret (v := .agg #[.int .i64 2, .int .i64 1, .int .i64 1, .string ⟨#[98]⟩, .string ⟨#[98]⟩]) (by simp [results, Tryz.results9, go_sem]) rfl ⟨rfl, bl1 _ _⟩
theorem great_any (w : World) (n1 l1 n2 l2 : Int) (a1 a2 a3 : Option Addr) (k1 c1 k2 c2 k3 c3 : Nat) : Calls Tryz.prog 18 #[stv n1 l1 (.slice a1 k1 c1), edv (.slice a2 k2 c2) (.slice a3 k3 c3) n2 l2] w fun e w' => e = .returned (.bool (decide (300 < k1) || decide (300 < k3) || decide (300 < k2))) ∧ Below w.heap.size w w' := by
  unfold stv edv
  have hB := Lib.hid (bl2 w (.cells #[.int .i64 n1, .int .i64 l1, .slice a1 k1 c1] 24) (.cells #[.slice a2 k2 c2, .slice a3 k3 c3, .int .i64 n2, .int .i64 l2] 33))
  go_enter Tryz.func18, Tryz.ntmps18
  by_cases h1 : 300 < k1
  · have e1 : ((300 : Int) < (k1 : Int)) = True := by simp; omega
    go_wp2_with fail
    go_ret
    exact ⟨by simp [h1], hB.out⟩
  · by_cases h3 : 300 < k3
    · go_wp2_with fail
      go_ret
      exact ⟨by simp [h1, h3]; try omega, hB.out⟩
    · by_cases h2 : 300 < k2
      · go_wp2_with fail
        go_ret
        exact ⟨by simp [h1, h3, h2]; try omega, hB.out⟩
      · go_wp2_with fail
        go_ret
        exact ⟨by simp [h1, h3, h2]; try omega, hB.out⟩

set_option maxRecDepth 100000 in
set_option maxHeartbeats 4000000 in
theorem lsame_any (S T : Nat → Prop) (w : World) (s t : St) (v u : Value) (h1 : FRow S w v s.fs) (h2 : FRow T w u t.fs) (hL : s.fs.length ≤ 1000000) :
    Calls Tryz.prog 10 #[stv s.next s.log v, stv t.next t.log u] w fun e w' => e = .returned (.bool (stEq s t)) ∧ Below w.heap.size w w' := by
  have H1 := Lib.hid h1
  have H2 := Lib.hid h2
  obtain ⟨⟨a, c, rfl, q1, q2, q3, q4⟩, qk⟩ := h1
  obtain ⟨⟨a2, c2, rfl, p1, p2, p3, p4⟩, pk⟩ := h2
  clear q3 q4 qk p3 p4 pk
  unfold stv
  obtain ⟨W0, hW0⟩ : ∃ W0, (w.alloc (.cells #[.int .i64 s.next, .int .i64 s.log, .slice a s.fs.length c] 24)).alloc (.cells #[.int .i64 t.next, .int .i64 t.log, .slice a2 t.fs.length c2] 38) = W0 := ⟨_, rfl⟩
  have hB0 : Below w.heap.size w W0 := by rw [← hW0]; exact bl2 _ _ _
  have hz : w.heap.size + 1 < W0.heap.size := by rw [← hW0]; simp
  have d0 : W0.cell? ⟨w.heap.size, 0, none⟩ = some (.int .i64 s.next) ∧ W0.cell? ⟨w.heap.size, 1, none⟩ = some (.int .i64 s.log) ∧ W0.cell? ⟨w.heap.size, 2, none⟩ = some (.slice a s.fs.length c) ∧ W0.cell? ⟨w.heap.size + 1, 0, none⟩ = some (.int .i64 t.next) ∧ W0.cell? ⟨w.heap.size + 1, 1, none⟩ = some (.int .i64 t.log) ∧ W0.cell? ⟨w.heap.size + 1, 2, none⟩ = some (.slice a2 t.fs.length c2) := by
    rw [← hW0]; refine ⟨?_, ?_, ?_, ?_, ?_, ?_⟩ <;> simp [go_sem]
  have HCs := Lib.hid (show ∀ w', Below W0.heap.size W0 w' → (w'.cell? ⟨w.heap.size, 0, none⟩ = some (.int .i64 s.next) ∧ w'.cell? ⟨w.heap.size, 1, none⟩ = some (.int .i64 s.log) ∧ w'.cell? ⟨w.heap.size, 2, none⟩ = some (.slice a s.fs.length c)) ∧ (w'.cell? ⟨w.heap.size + 1, 0, none⟩ = some (.int .i64 t.next) ∧ w'.cell? ⟨w.heap.size + 1, 1, none⟩ = some (.int .i64 t.log) ∧ w'.cell? ⟨w.heap.size + 1, 2, none⟩ = some (.slice a2 t.fs.length c2)) from fun w' X =>
    have hz0 : w.heap.size < W0.heap.size := Nat.lt_trans (Nat.lt_succ_self _) hz
    ⟨⟨(X.cell (p := ⟨w.heap.size, 0, none⟩) hz0).trans d0.1, (X.cell (p := ⟨w.heap.size, 1, none⟩) hz0).trans d0.2.1, (X.cell (p := ⟨w.heap.size, 2, none⟩) hz0).trans d0.2.2.1⟩, (X.cell (p := ⟨w.heap.size + 1, 0, none⟩) hz).trans d0.2.2.2.1, (X.cell (p := ⟨w.heap.size + 1, 1, none⟩) hz).trans d0.2.2.2.2.1, (X.cell (p := ⟨w.heap.size + 1, 2, none⟩) hz).trans d0.2.2.2.2.2⟩)
  have HA1 := Lib.hid (show ∀ w', Below W0.heap.size W0 w' → Calls Tryz.prog 21 #[.agg #[.int .i64 s.next, .int .i64 s.log, .slice a s.fs.length c]] w' (fun e w'' => ∃ u, e = .returned (.agg #[.int .i64 s.next, .int .i64 s.log, u]) ∧ w''.ownsRow w'.heap.size 35 5 u s.fs.length (rcells s.fs) ∧ Below w'.heap.size w' w'') from fun w' X => lstate_any _ w' s _ ((H1.out.below hB0).below X) hL)
  have HA2 := Lib.hid (show ∀ w' u, Below W0.heap.size W0 w' → (∃ B, w'.ownsRow B 35 5 u s.fs.length (rcells s.fs)) → Calls Tryz.prog 24 #[.agg #[.int .i64 s.next, .int .i64 s.log, u], .agg #[.int .i64 t.next, .int .i64 t.log, .slice a2 t.fs.length c2]] w' (fun e w'' => e = .returned (.bool (stEq s t)) ∧ Below w'.heap.size w' w'') from fun w' u X hr => same_any _ _ w' _ _ _ _ _ _ _ _ (FRow.own hr.choose_spec H1.out.ok) ((H2.out.below hB0).below X))
  have HX0 := Lib.hid (show Below W0.heap.size W0 W0.drew from (Below.refl _ _).drew)
  have HB0 := Lib.hid hB0
  have HW0 := Lib.hid hW0
  clear hB0 hW0 d0
  go_enter Tryz.func10, Tryz.ntmps10
  go_upto_region 1 with (fail)
  rw [HW0.out]
  go_region_held3 (fun w' => (w'.cell? ⟨w.heap.size, 0, none⟩ = some (.int .i64 s.next) ∧ w'.cell? ⟨w.heap.size, 1, none⟩ = some (.int .i64 s.log) ∧ w'.cell? ⟨w.heap.size, 2, none⟩ = some (.slice a s.fs.length c)) ∧ (w'.cell? ⟨w.heap.size + 1, 0, none⟩ = some (.int .i64 t.next) ∧ w'.cell? ⟨w.heap.size + 1, 1, none⟩ = some (.int .i64 t.log) ∧ w'.cell? ⟨w.heap.size + 1, 2, none⟩ = some (.slice a2 t.fs.length c2)))
    (first | exact HCs.out _ HX0.out | exact HCs.out _ X3 | exact HCs.out _ X4 | assumption)
    (first
      | (go_at_call 21; ((with_reducible refine (HA1.out _ HX0.out).mono ?_); rintro e w3 ⟨u3, rfl, hr3, hb3⟩; have X3 := HX0.out.trans (hb3.mono HX0.out.size); obtain ⟨ua, uc, rfl⟩ := own_slice hr3))
      | (go_at_call 24; ((with_reducible refine (HA2.out _ _ X3 ⟨_, hr3⟩).mono ?_); rintro e w4 ⟨rfl, hb4⟩; have X4 := X3.trans (hb4.mono X3.size))))
  all_goals
    go_wp2_with fail
    go_ret
    exact ⟨rfl, HB0.out.trans (X4.mono HB0.out.size)⟩

set_option maxRecDepth 100000 in
set_option maxHeartbeats 4000000 in
theorem alike_any (S T : Nat → Prop) (w : World) (s t : St) (v u : Value) (h1 : FRow S w v s.fs) (h2 : FRow T w u t.fs) (hL : s.fs.length ≤ 1000000) (hL2 : t.fs.length ≤ 1000000) :
    Calls Tryz.prog 26 #[stv s.next s.log v, stv t.next t.log u] w fun e w' => e = .returned (.bool (stEq s t)) ∧ Below w.heap.size w w' := by
  have H1 := Lib.hid h1
  have H2 := Lib.hid h2
  obtain ⟨⟨a, c, rfl, q1, q2, q3, q4⟩, qk⟩ := h1
  obtain ⟨⟨a2, c2, rfl, p1, p2, p3, p4⟩, pk⟩ := h2
  clear q3 q4 qk p3 p4 pk
  unfold stv
  obtain ⟨W0, hW0⟩ : ∃ W0, (w.alloc (.cells #[.int .i64 s.next, .int .i64 s.log, .slice a s.fs.length c] 24)).alloc (.cells #[.int .i64 t.next, .int .i64 t.log, .slice a2 t.fs.length c2] 24) = W0 := ⟨_, rfl⟩
  have hB0 : Below w.heap.size w W0 := by rw [← hW0]; exact bl2 _ _ _
  have hz : w.heap.size + 1 < W0.heap.size := by rw [← hW0]; simp
  have d0 : W0.cell? ⟨w.heap.size, 0, none⟩ = some (.int .i64 s.next) ∧ W0.cell? ⟨w.heap.size, 1, none⟩ = some (.int .i64 s.log) ∧ W0.cell? ⟨w.heap.size, 2, none⟩ = some (.slice a s.fs.length c) ∧ W0.cell? ⟨w.heap.size + 1, 0, none⟩ = some (.int .i64 t.next) ∧ W0.cell? ⟨w.heap.size + 1, 1, none⟩ = some (.int .i64 t.log) ∧ W0.cell? ⟨w.heap.size + 1, 2, none⟩ = some (.slice a2 t.fs.length c2) := by
    rw [← hW0]; refine ⟨?_, ?_, ?_, ?_, ?_, ?_⟩ <;> simp [go_sem]
  have HCs := Lib.hid (show ∀ w', Below W0.heap.size W0 w' → (w'.cell? ⟨w.heap.size, 0, none⟩ = some (.int .i64 s.next) ∧ w'.cell? ⟨w.heap.size, 1, none⟩ = some (.int .i64 s.log) ∧ w'.cell? ⟨w.heap.size, 2, none⟩ = some (.slice a s.fs.length c)) ∧ (w'.cell? ⟨w.heap.size + 1, 0, none⟩ = some (.int .i64 t.next) ∧ w'.cell? ⟨w.heap.size + 1, 1, none⟩ = some (.int .i64 t.log) ∧ w'.cell? ⟨w.heap.size + 1, 2, none⟩ = some (.slice a2 t.fs.length c2)) from fun w' X =>
    have hz0 : w.heap.size < W0.heap.size := Nat.lt_trans (Nat.lt_succ_self _) hz
    ⟨⟨(X.cell (p := ⟨w.heap.size, 0, none⟩) hz0).trans d0.1, (X.cell (p := ⟨w.heap.size, 1, none⟩) hz0).trans d0.2.1, (X.cell (p := ⟨w.heap.size, 2, none⟩) hz0).trans d0.2.2.1⟩, (X.cell (p := ⟨w.heap.size + 1, 0, none⟩) hz).trans d0.2.2.2.1, (X.cell (p := ⟨w.heap.size + 1, 1, none⟩) hz).trans d0.2.2.2.2.1, (X.cell (p := ⟨w.heap.size + 1, 2, none⟩) hz).trans d0.2.2.2.2.2⟩)
  have HA1 := Lib.hid (show ∀ w', Below W0.heap.size W0 w' → Calls Tryz.prog 21 #[.agg #[.int .i64 t.next, .int .i64 t.log, .slice a2 t.fs.length c2]] w' (fun e w'' => ∃ u, e = .returned (.agg #[.int .i64 t.next, .int .i64 t.log, u]) ∧ w''.ownsRow w'.heap.size 35 5 u t.fs.length (rcells t.fs) ∧ Below w'.heap.size w' w'') from fun w' X => lstate_any _ w' t _ ((H2.out.below hB0).below X) hL2)
  have HA2 := Lib.hid (show ∀ w' u, Below W0.heap.size W0 w' → (∃ B, w'.ownsRow B 35 5 u t.fs.length (rcells t.fs)) → Calls Tryz.prog 10 #[.agg #[.int .i64 s.next, .int .i64 s.log, .slice a s.fs.length c], .agg #[.int .i64 t.next, .int .i64 t.log, u]] w' (fun e w'' => e = .returned (.bool (stEq s t)) ∧ Below w'.heap.size w' w'') from fun w' u X hr => lsame_any _ _ w' s t _ _ ((H1.out.below hB0).below X) (FRow.own hr.choose_spec H2.out.ok) hL)
  have HX0 := Lib.hid (show Below W0.heap.size W0 W0.drew from (Below.refl _ _).drew)
  have HB0 := Lib.hid hB0
  have HW0 := Lib.hid hW0
  clear hB0 hW0 d0
  go_enter Tryz.func26, Tryz.ntmps26
  go_upto_region 1 with (fail)
  rw [HW0.out]
  go_region_held3 (fun w' => (w'.cell? ⟨w.heap.size, 0, none⟩ = some (.int .i64 s.next) ∧ w'.cell? ⟨w.heap.size, 1, none⟩ = some (.int .i64 s.log) ∧ w'.cell? ⟨w.heap.size, 2, none⟩ = some (.slice a s.fs.length c)) ∧ (w'.cell? ⟨w.heap.size + 1, 0, none⟩ = some (.int .i64 t.next) ∧ w'.cell? ⟨w.heap.size + 1, 1, none⟩ = some (.int .i64 t.log) ∧ w'.cell? ⟨w.heap.size + 1, 2, none⟩ = some (.slice a2 t.fs.length c2)))
    (first | exact HCs.out _ HX0.out | exact HCs.out _ X3 | exact HCs.out _ X4 | assumption)
    (first
      | (go_at_call 21; ((with_reducible refine (HA1.out _ HX0.out).mono ?_); rintro e w3 ⟨u3, rfl, hr3, hb3⟩; have X3 := HX0.out.trans (hb3.mono HX0.out.size); obtain ⟨ua, uc, rfl⟩ := own_slice hr3))
      | (go_at_call 10; ((with_reducible refine (HA2.out _ _ X3 ⟨_, hr3⟩).mono ?_); rintro e w4 ⟨rfl, hb4⟩; have X4 := X3.trans (hb4.mono X3.size))))
  all_goals
    go_wp2_with fail
    go_ret
    exact ⟨rfl, HB0.out.trans (X4.mono HB0.out.size)⟩
end Go.Proofs.YtiiafpbonkcokaaGreat
