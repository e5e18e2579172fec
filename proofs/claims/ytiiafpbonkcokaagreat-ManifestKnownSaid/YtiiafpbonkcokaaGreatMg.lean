/-
  'Check', whole.
-/
import Derived.Test.YtiiafpbonkcokaaGreatMf
namespace Go.Proofs.YtiiafpbonkcokaaGreat
open Go.RowKit Go.Maps

def lastN (L : List Fi) (i : Nat) : Int := if i = 0 then 0 else L[i - 1]!.n
def wrongB (next : Int) (L : List Fi) : Bool := (List.range L.length).any fun i => wrongF (lastN L i) next L[i]!
def numB (s : St) : Bool := decide (1 ≤ s.next) && decide (s.next ≤ 1099511627776) && decide (0 ≤ s.log) && decide (s.log ≤ 1099511627776) && decide (s.fs.length ≤ 200)
/-- is a state right? (as the program says) -/
def checkB (s : St) : Bool := numB s && !wrongB s.next s.fs && !s.fs.any (meetF s.fs)
def checkE (s : St) : Int := if checkB s then 0 else 1

set_option maxRecDepth 100000 in
set_option maxHeartbeats 2000000 in
theorem check_any (S : Nat → Prop) (w : World) (s : St) (v : Value) (h : FRow S w v s.fs) : Calls Tryz.prog 11 #[stv s.next s.log v] w fun e w' => e = .returned (.int .i64 (checkE s)) ∧ Below w.heap.size w w' := by
  obtain ⟨next, log, L⟩ := s
  have HE := Lib.hid (show checkE ⟨next, log, L⟩ = if (numB ⟨next, log, L⟩ && !wrongB next L && !L.any (meetF L)) then 1 - 1 else 1 from rfl)
  have HN := Lib.hid (show numB ⟨next, log, L⟩ = (decide (1 ≤ next) && decide (next ≤ 1099511627776) && decide (0 ≤ log) && decide (log ≤ 1099511627776) && decide (L.length ≤ 200)) from rfl)
  obtain ⟨⟨va, vc, rfl, q1, q2, q3, q4⟩, qk⟩ := h
  have HR := Lib.hid (show FRow S w (.slice va L.length vc) L from ⟨⟨va, vc, rfl, q1, q2, q3, q4⟩, qk⟩)
  clear q3 q4 qk
  generalize checkE ⟨next, log, L⟩ = E at *
  unfold stv
  dsimp only
  by_cases h1 : 1 ≤ next
  · by_cases h2 : next ≤ 1099511627776
    · by_cases h3 : 0 ≤ log
      · by_cases h4 : log ≤ 1099511627776
        · by_cases h5 : L.length ≤ 200
          · have HNT := Lib.hid (show numB ⟨next, log, L⟩ = true by rw [HN.out]; simp [h1, h2, h3, h4, h5])
            obtain ⟨W0, hW0⟩ : ∃ W0, W0 = (w.alloc (.cells #[.int .i64 next, .int .i64 log, .slice va L.length vc] 24)).alloc (.cells #[.int .i64 0] 3) := ⟨_, rfl⟩
            have HB0 := Lib.hid (show Below w.heap.size w W0 by rw [hW0]; exact bl2 _ _ _)
            have hz0 : W0.heap.size = w.heap.size + 2 := by rw [hW0]; simp
            have k0 : W0.cell? ⟨w.heap.size, 0, none⟩ = some (.int .i64 next) := by rw [hW0]; simp [go_sem]
            have k2 : W0.cell? ⟨w.heap.size, 2, none⟩ = some (.slice va L.length vc) := by rw [hW0]; simp [go_sem]
            have kl : W0.cell? ⟨w.heap.size + 1, 0, none⟩ = some (.int .i64 0) := by rw [hW0]; simp [go_sem]
            have kf : W0.frozen? ⟨w.heap.size + 1, 0, none⟩ = false := by rw [hW0]; simp [go_sem]
            have HZ := Lib.hid hz0
            have HC1 := Lib.hid (show Calls Tryz.prog 43 #[.slice va L.length vc, .func (.func 44) #[] #[.pointer (some ⟨w.heap.size + 1, 0, none⟩), .pointer (some ⟨w.heap.size, 0, none⟩)]] W0 (fun e w' => e = .returned (.bool (wrongB next L)) ∧ But [w.heap.size + 1] W0 w') from by
              refine (contains_any 44 _ enters_c1 va L.length vc L rfl (by omega) (fun i => wrongF (lastN L i) next L[i]!) (fun i W => W.cell? ⟨w.heap.size + 1, 0, none⟩ = some (.int .i64 (lastN L i)) ∧ W.frozen? ⟨w.heap.size + 1, 0, none⟩ = false ∧ But [w.heap.size + 1] W0 W) (fun hl => ?_) (fun i hi W hI => ?_) W0 ⟨kl, kf, But.refl _ _⟩).mono ?_
              · obtain ⟨⟨a', c', he, _, _, _, h3⟩, _⟩ := HR.out
                obtain ⟨rfl, rfl⟩ : va = a' ∧ vc = c' := by injection he with e1 e2 e3; exact ⟨e1, e3⟩
                obtain ⟨b, o, rfl, _, hb, hc⟩ := h3 hl
                have hbz := HZ.out
                refine ⟨b, o, rfl, fun i W hI j hj => (hc j hj).block ?_⟩
                exact (hI.2.2.block b (by omega) (by simp; omega)).trans (HB0.out.block b hb)
              · have hbz := HZ.out
                rw [getElem!_pos L i hi]
                refine (c1_any W L[i] (w.heap.size + 1) w.heap.size (lastN L i) next (by have := hI.2.2.size; omega) (by omega) hI.1 hI.2.1 ((hI.2.2.cell (by omega) (by simp)).trans k0)).mono ?_
                rintro e w' ⟨rfl, g1, g2, g3⟩
                refine ⟨rfl, ?_, g2, hI.2.2.trans g3⟩
                rw [g1]; unfold lastN; rw [if_neg (by omega), Nat.add_sub_cancel, getElem!_pos L i hi]
              · rintro e w' ⟨rfl, i, hI⟩
                exact ⟨rfl, hI.2.2⟩)
            have HW := Lib.hid hW0.symm
            clear hW0 hz0 kl kf
            generalize hwr : wrongB next L = wr at *
            have HWR := Lib.hid hwr
            clear hwr
            cases wr with
            | true =>
              go_enter Tryz.func11, Tryz.ntmps11
              go_wp2_with fail
              rw [HW.out]
              refine HC1.out.mono ?_
              rintro e w1 ⟨rfl, hb⟩
              have HB1 := Lib.hid (HB0.out.trans (hb.below (by rw [HZ.out]; omega) (by simp) : Below w.heap.size W0 w1))
              clear hb
              go_wp2_with fail
              go_ret
              exact ⟨ret_int (by rw [HE.out]; simp), HB1.out⟩
            | false =>
              go_enter Tryz.func11, Tryz.ntmps11
              go_wp2_with fail
              rw [HW.out]
              refine HC1.out.mono ?_
              rintro e w1 ⟨rfl, hb⟩
              have HB1 := Lib.hid (HB0.out.trans (hb.below (by rw [HZ.out]; omega) (by simp) : Below w.heap.size W0 w1))
              have m2 : w1.cell? ⟨w.heap.size, 2, none⟩ = some (.slice va L.length vc) := (hb.cell (by rw [HZ.out]; omega) (by simp)).trans k2
              have hz1 : w.heap.size < w1.heap.size := by have := hb.size; have := HZ.out; omega
              have HC2 := Lib.hid (contains_below 46 #[.pointer (some ⟨w.heap.size, 0, none⟩)] enters_c2 S w1 _ L (HR.out.below HB1.out) (meetF L) (fun x _ W hW =>
                (c2_any S W x w.heap.size _ L ((HR.out.below HB1.out).below hW) ((hW.cell (p := ⟨w.heap.size, 2, none⟩) hz1).trans m2) (Nat.lt_of_lt_of_le hz1 hW.size)).mono fun _ _ ⟨he, hb⟩ => ⟨he, hW.trans (hb.mono hW.size)⟩))
              clear hb
              generalize hme : L.any (meetF L) = me at *
              clear hme
              cases me with
              | true =>
                go_wp2_with fail
                refine HC2.out.mono ?_
                rintro e w2 ⟨rfl, hb⟩
                have HB2 := Lib.hid (HB1.out.trans (hb.mono HB1.out.size))
                clear hb
                go_wp2_with fail
                go_ret
                exact ⟨ret_int (by rw [HE.out]; simp), HB2.out⟩
              | false =>
                go_wp2_with fail
                refine HC2.out.mono ?_
                rintro e w2 ⟨rfl, hb⟩
                have HB2 := Lib.hid (HB1.out.trans (hb.mono HB1.out.size))
                clear hb
                go_wp2_with fail
                go_ret
                exact ⟨ret_int (by rw [HE.out, HNT.out]; simp), HB2.out⟩
          · have HNF := Lib.hid (show numB ⟨next, log, L⟩ = false by rw [HN.out]; simp [h1, h2, h3, h4, h5])
            go_enter Tryz.func11, Tryz.ntmps11
            go_wp2_with fail
            go_ret
            exact ⟨ret_int (by rw [HE.out, HNF.out]; rfl), bl1 _ _⟩
        · have HNF := Lib.hid (show numB ⟨next, log, L⟩ = false by rw [HN.out]; simp [h1, h2, h3, h4])
          go_enter Tryz.func11, Tryz.ntmps11
          go_wp2_with fail
          go_ret
          exact ⟨ret_int (by rw [HE.out, HNF.out]; rfl), bl1 _ _⟩
      · have HNF := Lib.hid (show numB ⟨next, log, L⟩ = false by rw [HN.out]; simp [h1, h2, h3])
        go_enter Tryz.func11, Tryz.ntmps11
        go_wp2_with fail
        go_ret
        exact ⟨ret_int (by rw [HE.out, HNF.out]; rfl), bl1 _ _⟩
    · have HNF := Lib.hid (show numB ⟨next, log, L⟩ = false by rw [HN.out]; simp [h1, h2])
      go_enter Tryz.func11, Tryz.ntmps11
      go_wp2_with fail
      go_ret
      exact ⟨ret_int (by rw [HE.out, HNF.out]; rfl), bl1 _ _⟩
  · have HNF := Lib.hid (show numB ⟨next, log, L⟩ = false by rw [HN.out]; simp [h1])
    go_enter Tryz.func11, Tryz.ntmps11
    go_wp2_with fail
    go_ret
    exact ⟨ret_int (by rw [HE.out, HNF.out]; rfl), bl1 _ _⟩
end Go.Proofs.YtiiafpbonkcokaaGreat
