/-
  ManifestApplies: the walk.
-/
import Derived.Test.YtiiafpbonkcokaaGreatCp
import Derived.Test.YtiiafpbonkcokaaGreatMw
import Derived.Test.YtiiafpbonkcokaaGreatQe
import Derived.Deep.DeepCutAuto
namespace Go.Proofs.YtiiafpbonkcokaaGreat
open Go.RowKit Go.Maps

theorem own_below {w w' : World} {B : Nat} {T : TypeId} {k n : Nat} {v : Value} {xs : List Value} (h : w.ownsRow B T k v n xs) (hb : Below w.heap.size w w') : w'.ownsRow B T k v n xs :=
  h.kept (row := none) ⟨hb.os, hb.tape, hb.output, hb.size, fun j hj _ => hb.block j hj⟩ (by cases hv : v.ownBlock <;> simp)
theorem stEq_same (S : St) : stEq S S = true := by
  have h : (List.zipWith fiEq S.fs S.fs).all id = true := (zip_all rfl).2 rfl
  unfold stEq
  rw [h]
  simp
/-- the document's answer, laid into a variable -/
structure CoR (W0 wx : World) (q : Nat) (s2 : St) (v3 : Value) : Prop where
  below : Below W0.heap.size W0 wx
  blk : wx.heap[q]? = some (.cells #[.int .i64 s2.next, .int .i64 s2.log, v3] 38 (0, 0))
  row : FRow (W0.heap.size ≤ ·) wx v3 s2.fs
  lo : W0.heap.size ≤ q
theorem cor_set {S : Nat → Prop} {W0 wB : World} {q : Nat} {s2 : St} {v : Value} {a b c : Value} (YB : Below W0.heap.size W0 wB) (y3 : wB.heap[q]? = some (.cells #[a, b, c] 38 (0, 0))) (hr : FRow S wB v s2.fs) (hq : ∀ k, S k → k < wB.heap.size → k ≠ q ∧ W0.heap.size ≤ k) (hlo : W0.heap.size ≤ q) :
    CoR W0 (((wB.setCell ⟨q, 0, none⟩ (.int .i64 s2.next)).setCell ⟨q, 1, none⟩ (.int .i64 s2.log)).setCell ⟨q, 2, none⟩ v) q s2 v :=
  ⟨((YB.setCell hlo _).setCell hlo _).setCell hlo _, heap_setCell_same _ q 2 _ _ _ (heap_setCell_same _ q 1 _ _ _ (heap_setCell_same _ q 0 _ _ _ y3)),
   hr.keep (fun k hk hlt => by have hne := (hq k hk hlt).1; rw [Below.heap_setCell _ _ _ _ hne, Below.heap_setCell _ _ _ _ hne, Below.heap_setCell _ _ _ _ hne]) (by simp) (fun k hk hlt => (hq k hk hlt).2), hlo⟩
theorem stzR {w : World} {q : Nat} {a b c : Value} {ty : TypeId} (h : w.heap[q]? = some (.cells #[a, b, c] ty (0, 0))) : w.cell? ⟨q, 0, none⟩ = some a ∧ w.cell? ⟨q, 1, none⟩ = some b ∧ w.cell? ⟨q, 2, none⟩ = some c ∧ ∀ o, w.frozen? ⟨q, o, none⟩ = false :=
  ⟨by simp [World.cell?, h], by simp [World.cell?, h], by simp [World.cell?, h], fun o => by simp [World.frozen?, h]⟩
theorem edz {w : World} {q : Nat} {a b c d : Value} {ty : TypeId} (h : w.heap[q]? = some (.cells #[a, b, c, d] ty (0, 0))) : w.cell? ⟨q, 0, none⟩ = some a ∧ w.cell? ⟨q, 1, none⟩ = some b ∧ w.cell? ⟨q, 2, none⟩ = some c ∧ w.cell? ⟨q, 3, none⟩ = some d :=
  ⟨by simp [World.cell?, h], by simp [World.cell?, h], by simp [World.cell?, h], by simp [World.cell?, h]⟩

theorem apply_len2 (S : St) (ed : Ed) : (applyS S ed).2.fs.length ≤ 1000 := by
  by_cases h : (applyS S ed).1 = 0
  · have := (check_fit (apply_check h)).2.2.2.2.1; omega
  · have : (applyS S ed).2 = s0 := by
      unfold applyS at h ⊢
      split at h
      · split at h
        · simp [*]
        · split at h
          · simp [*]
          · split at h
            · exact absurd rfl h
            · simp [*]
      · simp [*]
    rw [this]
    decide
set_option maxRecDepth 100000 in
set_option maxHeartbeats 16000000 in
theorem applies_walk (W : World) (s : St) (vs : Value) (h1 : FRow (· < W.heap.size) W vs s.fs) (vd va : Value) (ed : Ed) (he : EdAt W vd va ed) :
    Calls Tryz.prog 4 #[stv s.next s.log vs, edv vd va ed.next ed.log] W fun e w' => e = .returned (.bool true) ∧ Below W.heap.size W w' := by
  have HR := Lib.hid h1
  have HE := Lib.hid he
  obtain ⟨a0, c0, rfl⟩ : ∃ a c, vs = .slice a s.fs.length c := by obtain ⟨⟨a, c, e, _⟩, _⟩ := h1; exact ⟨a, c, e⟩
  obtain ⟨a1, c1, a2, c2, rfl, rfl⟩ : ∃ a1 c1 a2 c2, vd = .slice a1 ed.drop.length c1 ∧ va = .slice a2 ed.add.length c2 := by
    obtain ⟨a1, c1, e1, _⟩ := he.drop.ex
    obtain ⟨a2, c2, e2, _⟩ := he.add.ex
    exact ⟨a1, c1, a2, c2, e1, e2⟩
  unfold stv edv
  obtain ⟨W1, hW1⟩ : ∃ W1, (W.alloc (.cells #[.int .i64 s.next, .int .i64 s.log, .slice a0 s.fs.length c0] 24)).alloc (.cells #[.slice a1 ed.drop.length c1, .slice a2 ed.add.length c2, .int .i64 ed.next, .int .i64 ed.log] 33) = W1 := ⟨_, rfl⟩
  have hb1 : Below W.heap.size W W1 := by rw [← hW1]; exact bl2 _ _ _
  have hz1 : W1.heap.size = W.heap.size + 2 := by rw [← hW1]; simp
  have k0 : W1.heap[W.heap.size]? = some (.cells #[.int .i64 s.next, .int .i64 s.log, .slice a0 s.fs.length c0] 24 (0, 0)) := by rw [← hW1, Below.heap_alloc _ _ _ (by simp)]; exact heap_alloc_new _ _
  have k1 : W1.heap[W.heap.size + 1]? = some (.cells #[.slice a1 ed.drop.length c1, .slice a2 ed.add.length c2, .int .i64 ed.next, .int .i64 ed.log] 33 (0, 0)) := by
    rw [← hW1]
    have := heap_alloc_new (W.alloc (.cells #[.int .i64 s.next, .int .i64 s.log, .slice a0 s.fs.length c0] 24)) (.cells #[.slice a1 ed.drop.length c1, .slice a2 ed.add.length c2, .int .i64 ed.next, .int .i64 ed.log] 33)
    rwa [World.size_alloc] at this
  have hl0 : W.heap.size < W1.heap.size := by omega
  have hl1 : W.heap.size + 1 < W1.heap.size := by omega
  have HSE := Lib.hid (show ∀ w', Below W1.heap.size W1 w' → (w'.cell? ⟨W.heap.size, 0, none⟩ = some (.int .i64 s.next) ∧ w'.cell? ⟨W.heap.size, 1, none⟩ = some (.int .i64 s.log) ∧ w'.cell? ⟨W.heap.size, 2, none⟩ = some (.slice a0 s.fs.length c0)) ∧ (w'.cell? ⟨W.heap.size + 1, 0, none⟩ = some (.slice a1 ed.drop.length c1) ∧ w'.cell? ⟨W.heap.size + 1, 1, none⟩ = some (.slice a2 ed.add.length c2) ∧ w'.cell? ⟨W.heap.size + 1, 2, none⟩ = some (.int .i64 ed.next) ∧ w'.cell? ⟨W.heap.size + 1, 3, none⟩ = some (.int .i64 ed.log)) from fun w' Y => by
    obtain ⟨g0, g1, g2, -⟩ := stzR ((Y.block _ hl0).trans k0)
    exact ⟨⟨g0, g1, g2⟩, edz ((Y.block _ hl1).trans k1)⟩)
  have HB1 := Lib.hid hb1
  have HW1 := Lib.hid hW1
  have HZ1 := Lib.hid hz1
  clear hW1 hb1 k0 k1 h1 he hz1
  obtain ⟨⟨s0', s1, s2⟩, e0, e1, e2, e3⟩ := HSE.out W1 (Below.refl _ _)
  go_enter Tryz.func4, Tryz.ntmps4
  go_upto_region 1 with (fail)
  rw [HW1.out]
  clear s0' s1 s2 e0 e1 e2 e3
  go_wp2_with fail
  refine (awake_any W1).mono ?_
  rintro e w2 ⟨rfl, hb2⟩
  have HB2 := Lib.hid hb2
  obtain ⟨⟨s0', s1, s2⟩, e0, e1, e2, e3⟩ := HSE.out w2 hb2
  clear hb2
  go_wp2_with fail
  refine (great_any w2 s.next s.log ed.next ed.log a0 a1 a2 s.fs.length c0 ed.drop.length c1 ed.add.length c2).mono ?_
  rintro e w3 ⟨rfl, hb3⟩
  have HB3 := Lib.hid (HB2.out.trans (hb3.mono HB2.out.size))
  clear hb3 s0' s1 s2 e0 e1 e2 e3
  generalize hg : (decide (300 < s.fs.length) || decide (300 < ed.add.length) || decide (300 < ed.drop.length)) = g at *
  cases g with
  | true =>
    go_wp2_with fail
    go_ret
    exact ⟨rfl, HB1.out.trans (HB3.out.mono HB1.out.size)⟩
  | false =>
    have hlen : s.fs.length ≤ 300 ∧ ed.add.length ≤ 300 ∧ ed.drop.length ≤ 300 := by simp at hg; omega
    clear hg
    obtain ⟨ln0, ln1, ln2⟩ := hlen
    obtain ⟨⟨s0', s1, s2⟩, e0, e1, e2, e3⟩ := HSE.out w3 HB3.out
    go_wp2_with fail
    refine (copied_any _ _ _ w3 s ed _ _ _ (HR.out.below (HB1.out.trans (HB3.out.mono HB1.out.size))) (HE.out.below (HB1.out.trans (HB3.out.mono HB1.out.size))).drop (HE.out.below (HB1.out.trans (HB3.out.mono HB1.out.size))).add (by omega) (by omega) (by omega)).mono ?_
    rintro e w4 ⟨b0, d0, b1, d1, b2, d2, rfl, hro, hrd, hra, hb4⟩
    have HB4 := Lib.hid (HB3.out.trans (hb4.mono HB3.out.size))
    have HRO := Lib.hid hro
    have HRD := Lib.hid hrd
    have HRM := Lib.hid hra
    clear hro hrd hra hb4 s0' s1 s2 e0 e1 e2 e3
    go_upto_region 6 with (fail)
    obtain ⟨w5, hw5⟩ : ∃ w5, (w4.alloc (.cells #[.int .i64 s.next, .int .i64 s.log, .slice b0 s.fs.length d0] 24)).alloc (.cells #[.slice b1 ed.drop.length d1, .slice b2 ed.add.length d2, .int .i64 ed.next, .int .i64 ed.log] 33) = w5 := ⟨_, rfl⟩
    have hb5 : Below w4.heap.size w4 w5 := by rw [← hw5]; exact bl2 _ _ _
    have k0 : w5.heap[w4.heap.size]? = some (.cells #[.int .i64 s.next, .int .i64 s.log, .slice b0 s.fs.length d0] 24 (0, 0)) := by rw [← hw5, Below.heap_alloc _ _ _ (by simp)]; exact heap_alloc_new _ _
    have k1 : w5.heap[w4.heap.size + 1]? = some (.cells #[.slice b1 ed.drop.length d1, .slice b2 ed.add.length d2, .int .i64 ed.next, .int .i64 ed.log] 33 (0, 0)) := by
      rw [← hw5]
      have := heap_alloc_new (w4.alloc (.cells #[.int .i64 s.next, .int .i64 s.log, .slice b0 s.fs.length d0] 24)) (.cells #[.slice b1 ed.drop.length d1, .slice b2 ed.add.length d2, .int .i64 ed.next, .int .i64 ed.log] 33)
      rwa [World.size_alloc] at this
    have hz5 : w5.heap.size = w4.heap.size + 2 := by rw [← hw5]; simp
    have hm0 : w4.heap.size < w5.heap.size := by omega
    have hm1 : w4.heap.size + 1 < w5.heap.size := by omega
    have HOM := Lib.hid (show ∀ w', Below w5.heap.size w5 w' → (w'.cell? ⟨w4.heap.size, 0, none⟩ = some (.int .i64 s.next) ∧ w'.cell? ⟨w4.heap.size, 1, none⟩ = some (.int .i64 s.log) ∧ w'.cell? ⟨w4.heap.size, 2, none⟩ = some (.slice b0 s.fs.length d0)) ∧ (w'.cell? ⟨w4.heap.size + 1, 0, none⟩ = some (.slice b1 ed.drop.length d1) ∧ w'.cell? ⟨w4.heap.size + 1, 1, none⟩ = some (.slice b2 ed.add.length d2) ∧ w'.cell? ⟨w4.heap.size + 1, 2, none⟩ = some (.int .i64 ed.next) ∧ w'.cell? ⟨w4.heap.size + 1, 3, none⟩ = some (.int .i64 ed.log)) from fun w' Y => by
      obtain ⟨g0, g1, g2, -⟩ := stzR ((Y.block _ hm0).trans k0)
      exact ⟨⟨g0, g1, g2⟩, edz ((Y.block _ hm1).trans k1)⟩)
    have HRO5 := Lib.hid (HRO.out.below hb5)
    have HRD5 := Lib.hid (HRD.out.below hb5)
    have HRM5 := Lib.hid (HRM.out.below hb5)
    have HB5 := Lib.hid (HB4.out.trans (hb5.mono HB4.out.size))
    have HW5 := Lib.hid hw5
    generalize hap : applyS s ed = ap
    have HAPE := Lib.hid hap
    have HSL := Lib.hid (show ap.2.fs.length ≤ 1000 by rw [← hap]; exact apply_len2 s ed)
    clear hap hw5 hb5 k0 k1 hz5
    obtain ⟨why, s2⟩ := ap
    obtain ⟨⟨m0, m1, m2⟩, n0, n1, n2, n3⟩ := HOM.out w5 (Below.refl _ _)
    rw [HW5.out]
    go_wp2_with fail
    refine (apply_own _ _ _ w5 s ed _ _ _ HRO5.out HRD5.out HRM5.out (by omega) (by omega)).mono ?_
    rw [HAPE.out]
    rintro e w6 ⟨vt, rfl, ⟨hot, hokt⟩, hb6⟩
    obtain ⟨ta, tc, rfl⟩ := own_slice hot
    have HOT := Lib.hid hot
    have HKT := Lib.hid hokt
    have HB6 := Lib.hid hb6
    clear hot hokt hb6 m0 m1 m2 n0 n1 n2 n3
    go_upto_region 7 with (fail)
    obtain ⟨w7, hw7⟩ : ∃ w7, w6.alloc (.cells #[.int .i64 s2.next, .int .i64 s2.log, .slice ta s2.fs.length tc] 24) = w7 := ⟨_, rfl⟩
    have hb7 : Below w6.heap.size w6 w7 := by rw [← hw7]; exact bl1 _ _
    have htb : w7.heap[w6.heap.size]? = some (.cells #[.int .i64 s2.next, .int .i64 s2.log, .slice ta s2.fs.length tc] 24 (0, 0)) := by rw [← hw7]; exact heap_alloc_new _ _
    have HOT7 := Lib.hid (show w7.ownsRow w5.heap.size 29 5 (.slice ta s2.fs.length tc) s2.fs.length (rcells s2.fs) by rw [← hw7]; exact HOT.out.alloc _)
    have HTB := Lib.hid htb
    have HB57 := Lib.hid (HB6.out.trans (hb7.mono HB6.out.size))
    have HB7 := Lib.hid (show Below W1.heap.size W1 w7 from HB5.out.trans (HB57.out.mono HB5.out.size))
    have HW7 := Lib.hid hw7
    clear hw7 hb7 htb
    rw [HW7.out]
    have HBW := Lib.hid (show ∀ w', Below w7.heap.size w7 w' → Below W1.heap.size W1 w' from fun w' Y => HB7.out.trans (Y.mono HB7.out.size))
    have HLS := Lib.hid (show ∀ w', Below w7.heap.size w7 w' → Calls Tryz.prog 21 #[.agg #[.int .i64 s.next, .int .i64 s.log, .slice a0 s.fs.length c0]] w' (fun e w'' => ∃ ua uc, e = .returned (.agg #[.int .i64 s.next, .int .i64 s.log, .slice ua s.fs.length uc]) ∧ FRow (w'.heap.size ≤ ·) w'' (.slice ua s.fs.length uc) s.fs ∧ Below w'.heap.size w' w'') from fun w' Y => by
      refine (lstate_any _ w' s _ (HR.out.below (HB1.out.trans ((HBW.out w' Y).mono HB1.out.size))) (by omega)).mono ?_
      rintro e w'' ⟨u, rfl, hown, hb⟩
      obtain ⟨ua, uc, rfl⟩ := own_slice hown
      exact ⟨ua, uc, rfl, FRow.own hown HR.out.ok, hb⟩)
    have HLE := Lib.hid (show ∀ w', Below w7.heap.size w7 w' → Calls Tryz.prog 22 #[.agg #[.slice a1 ed.drop.length c1, .slice a2 ed.add.length c2, .int .i64 ed.next, .int .i64 ed.log]] w' (fun e w'' => ∃ ua uc, e = .returned (.agg #[.slice a1 ed.drop.length c1, .slice ua ed.add.length uc, .int .i64 ed.next, .int .i64 ed.log]) ∧ FRow (w'.heap.size ≤ ·) w'' (.slice ua ed.add.length uc) ed.add ∧ Below w'.heap.size w' w'') from fun w' Y => by
      have he' := HE.out.below (HB1.out.trans ((HBW.out w' Y).mono HB1.out.size))
      refine (ledit_any _ _ w' ed _ _ he'.add he'.drop (by omega)).mono ?_
      rintro e w'' ⟨u, rfl, hown, hb⟩
      obtain ⟨ua, uc, rfl⟩ := own_slice hown
      exact ⟨ua, uc, rfl, FRow.own hown HE.out.add.ok, hb⟩)
    have HRA := Lib.hid (show ∀ w' xa xc ua uc (SP SS : Nat → Prop), Below w7.heap.size w7 w' → FRow SP w' (.slice xa s.fs.length xc) s.fs → FRow SS w' (.slice ua ed.add.length uc) ed.add → Calls Tryz.prog 20 #[.agg #[.int .i64 s.next, .int .i64 s.log, .slice xa s.fs.length xc], .agg #[.slice a1 ed.drop.length c1, .slice ua ed.add.length uc, .int .i64 ed.next, .int .i64 ed.log]] w' (fun e w'' => ∃ va' vc', e = .returned (.tuple #[.agg #[.int .i64 s2.next, .int .i64 s2.log, .slice va' s2.fs.length vc'], .int .i64 why]) ∧ FRow (w'.heap.size ≤ ·) w'' (.slice va' s2.fs.length vc') s2.fs ∧ Below w'.heap.size w' w'') from fun w' xa xc ua uc SP SS Y hp hr => by
      refine (rapply_any _ _ _ w' s ed _ _ _ hp (HE.out.below (HB1.out.trans ((HBW.out w' Y).mono HB1.out.size))).drop hr (by omega) (by omega) (by omega)).mono ?_
      rw [HAPE.out]
      rintro e w'' ⟨v, rfl, hr2, hb2⟩
      obtain ⟨va', vc', rfl⟩ : ∃ a c, v = .slice a s2.fs.length c := by obtain ⟨⟨a, c, e, _⟩, _⟩ := hr2; exact ⟨a, c, e⟩
      exact ⟨va', vc', rfl, hr2, hb2⟩)
    have HX0 := Lib.hid (show Below w7.heap.size w7 w7.drew from (Below.refl _ _).drew)
    have HX1 := Lib.hid ((bl1 w7 (.cells #[.int .i64 0, .int .i64 0, .slice none 0 0] 38)).drew)
    have HZD := Lib.hid (show (w7.alloc (.cells #[.int .i64 0, .int .i64 0, .slice none 0 0] 38)).drew.heap[w7.heap.size]? = some (.cells #[.int .i64 0, .int .i64 0, .slice none 0 0] 38 (0, 0)) from heap_alloc_new _ _)
    have HCS := Lib.hid (show ∀ w', Below w7.heap.size w7 w' → ((w'.cell? ⟨W.heap.size, 0, none⟩ = some (.int .i64 s.next) ∧ w'.cell? ⟨W.heap.size, 1, none⟩ = some (.int .i64 s.log) ∧ w'.cell? ⟨W.heap.size, 2, none⟩ = some (.slice a0 s.fs.length c0)) ∧ (w'.cell? ⟨W.heap.size + 1, 0, none⟩ = some (.slice a1 ed.drop.length c1) ∧ w'.cell? ⟨W.heap.size + 1, 1, none⟩ = some (.slice a2 ed.add.length c2) ∧ w'.cell? ⟨W.heap.size + 1, 2, none⟩ = some (.int .i64 ed.next) ∧ w'.cell? ⟨W.heap.size + 1, 3, none⟩ = some (.int .i64 ed.log))) from fun w' Y => HSE.out w' (HBW.out w' Y))
    go_cut [9, 10] (fun s9 s10 wx => s10 = .int .i64 why ∧ ∃ q va' vc', s9 = .pointer (some ⟨q, 0, none⟩) ∧ Hid (CoR w7 wx q s2 (.slice va' s2.fs.length vc')))
    case first =>
      go_region_held3 (fun w' => ((w'.cell? ⟨W.heap.size, 0, none⟩ = some (.int .i64 s.next) ∧ w'.cell? ⟨W.heap.size, 1, none⟩ = some (.int .i64 s.log) ∧ w'.cell? ⟨W.heap.size, 2, none⟩ = some (.slice a0 s.fs.length c0)) ∧ (w'.cell? ⟨W.heap.size + 1, 0, none⟩ = some (.slice a1 ed.drop.length c1) ∧ w'.cell? ⟨W.heap.size + 1, 1, none⟩ = some (.slice a2 ed.add.length c2) ∧ w'.cell? ⟨W.heap.size + 1, 2, none⟩ = some (.int .i64 ed.next) ∧ w'.cell? ⟨W.heap.size + 1, 3, none⟩ = some (.int .i64 ed.log))))
        (first | with_reducible exact HCS.out _ HX0.out | with_reducible exact HCS.out _ HX1.out | with_reducible exact HCS.out _ YA | with_reducible exact HCS.out _ YB | with_reducible exact HCS.out _ YC | with_reducible exact HCS.out _ (YA.alloc YA.size _) | with_reducible exact HCS.out _ (YB.alloc YB.size _) | with_reducible exact HCS.out _ (YC.alloc YC.size _) | with_reducible exact HCS.out _ (((YC.setCell (Nat.le_refl _) _).setCell (Nat.le_refl _) _).setCell (Nat.le_refl _) _) | with_reducible exact HCS.out _ (((YC.setCell YA.size _).setCell YA.size _).setCell YA.size _) | with_reducible exact HCS.out _ (((YC.setCell YB.size _).setCell YB.size _).setCell YB.size _) | assumption)
        (first
          | (go_at_call 21; ((with_reducible refine (HLS.out _ HX0.out).mono ?_); rintro e wA ⟨xa, xc, rfl, hrA, hbA⟩; have YA := HX0.out.trans (hbA.mono HX0.out.size)))
          | (go_at_call 21; ((with_reducible refine (HLS.out _ HX1.out).mono ?_); rintro e wA ⟨xa, xc, rfl, hrA, hbA⟩; have YA := HX1.out.trans (hbA.mono HX1.out.size); have yz := (hbA.block _ (heap_lt HZD.out)).trans HZD.out))
          | (go_at_call 22; ((with_reducible refine (HLE.out _ YA).mono ?_); rintro e wB ⟨ua, uc, rfl, hrB, hbB⟩; have YB := YA.trans (hbB.mono YA.size); have hrA2 := hrA.below hbB; have y2 := (hbB.block _ (heap_lt yz)).trans yz))
          | (go_at_call 22; ((with_reducible refine (HLE.out _ YA).mono ?_); rintro e wB ⟨ua, uc, rfl, hrB, hbB⟩; have YB := YA.trans (hbB.mono YA.size); have hrA2 := hrA.below hbB))
          | (go_at_call 22; ((with_reducible refine (HLE.out _ (YA.alloc YA.size _)).mono ?_); rintro e wB ⟨ua, uc, rfl, hrB, hbB⟩; have YB := (YA.alloc YA.size _).trans (hbB.mono (YA.alloc YA.size _).size); have hrA2 := (hrA.below (bl1 _ _)).below hbB; have y2 := (hbB.block wA.heap.size (heap_lt (heap_alloc_new wA _))).trans (heap_alloc_new wA _)))
          | (go_at_call 20; ((with_reducible refine (HRA.out _ _ _ _ _ _ _ YB hrA2 hrB).mono ?_); rintro e wC ⟨va', vc', rfl, hrC, hbC⟩; have YC := YB.trans (hbC.mono YB.size); have y3 := (hbC.block _ (heap_lt y2)).trans y2; obtain ⟨q0, q1, q2, q3⟩ := stzR y3; have q4 := heap_lt y3))
          | (go_at_call 20; ((with_reducible refine (HRA.out _ _ _ _ _ _ _ YB hrA2 hrB).mono ?_); rintro e wC ⟨va', vc', rfl, hrC, hbC⟩; have YC := YB.trans (hbC.mono YB.size)))
          | (go_at_call 20; ((with_reducible refine (HRA.out _ _ _ _ _ _ _ (YB.alloc YB.size _) (hrA2.below (bl1 _ _)) (hrB.below (bl1 _ _))).mono ?_); rintro e wC ⟨va', vc', rfl, hrC, hbC⟩; have YC := (YB.alloc YB.size _).trans (hbC.mono (YB.alloc YB.size _).size); have y3 := (hbC.block wB.heap.size (heap_lt (heap_alloc_new wB _))).trans (heap_alloc_new wB _); obtain ⟨q0, q1, q2, q3⟩ := stzR y3; have q4 := heap_lt y3)))
      all_goals
        go_wp2_with fail
        go_meet
        first
          | exact ⟨rfl, _, _, _, rfl, ⟨YC.alloc YC.size _, heap_alloc_new _ _, (hrC.wider (fun k hk _ => Nat.le_trans YB.size hk)).below (bl1 _ _), YC.size⟩⟩
          | exact ⟨rfl, _, _, _, rfl, cor_set YC y3 hrC (fun k hk _ => by have := YB.size; simp at hk; omega) YB.size⟩
          | exact ⟨rfl, _, _, _, rfl, cor_set YC y3 hrC (fun k hk _ => by have := YA.size; have := heap_lt y2; omega) YA.size⟩
          | exact ⟨rfl, _, _, _, rfl, cor_set YC y3 hrC (fun k hk _ => by have := heap_lt y2; omega) (Nat.le_refl _)⟩
    case rest =>
      obtain ⟨rfl, q, va', vc', rfl, HCO⟩ := hcut
      have htb := (HCO.out.below.block _ (heap_lt HTB.out)).trans HTB.out
      have hww : (why != why) = false := by simp
      have hqb := HCO.out.blk
      have HC8 := Lib.hid (show ∀ w', Below wc.heap.size wc w' → (((w'.cell? ⟨w6.heap.size, 0, none⟩ = some (.int .i64 s2.next) ∧ w'.cell? ⟨w6.heap.size, 1, none⟩ = some (.int .i64 s2.log) ∧ w'.cell? ⟨w6.heap.size, 2, none⟩ = some (.slice ta s2.fs.length tc)) ∧ (w'.cell? ⟨q, 0, none⟩ = some (.int .i64 s2.next) ∧ w'.cell? ⟨q, 1, none⟩ = some (.int .i64 s2.log) ∧ w'.cell? ⟨q, 2, none⟩ = some (.slice va' s2.fs.length vc'))) ∧ (w'.cell? ⟨W.heap.size, 0, none⟩ = some (.int .i64 s.next) ∧ w'.cell? ⟨W.heap.size, 1, none⟩ = some (.int .i64 s.log) ∧ w'.cell? ⟨W.heap.size, 2, none⟩ = some (.slice a0 s.fs.length c0))) from fun w' Y => by
        obtain ⟨g0, g1, g2, -⟩ := stzR ((Y.block _ (heap_lt htb)).trans htb)
        obtain ⟨g3, g4, g5, -⟩ := stzR ((Y.block _ (heap_lt hqb)).trans hqb)
        exact ⟨⟨⟨g0, g1, g2⟩, g3, g4, g5⟩, (HSE.out w' (HBW.out w' (HCO.out.below.trans (Y.mono HCO.out.below.size)))).1⟩)
      have HOTc := Lib.hid (own_below HOT7.out HCO.out.below)
      have HTR := Lib.hid (FRow.own HOTc.out HKT.out)
      have HSA8 := Lib.hid (show ∀ w', Below wc.heap.size wc w' → Calls Tryz.prog 10 #[.agg #[.int .i64 s2.next, .int .i64 s2.log, .slice ta s2.fs.length tc], .agg #[.int .i64 s2.next, .int .i64 s2.log, .slice va' s2.fs.length vc']] w' (fun e w'' => e = .returned (.bool true) ∧ Below w'.heap.size w' w'') from fun w' Y => by
        have := lsame_any _ _ w' s2 s2 _ _ (HTR.out.below Y) (HCO.out.row.below Y) (by have := HSL.out; omega)
        rw [stEq_same] at this
        exact this)
      have HCK8 := Lib.hid (show ∀ w', Below wc.heap.size wc w' → Calls Tryz.prog 11 #[.agg #[.int .i64 s.next, .int .i64 s.log, .slice a0 s.fs.length c0]] w' (fun e w'' => e = .returned (.int .i64 (checkE s)) ∧ Below w'.heap.size w' w'') from fun w' Y =>
        check_any _ w' s _ (HR.out.below (HB1.out.trans ((HBW.out w' (HCO.out.below.trans (Y.mono HCO.out.below.size))).mono HB1.out.size))))
      have HLS8 := Lib.hid (show ∀ w', Below wc.heap.size wc w' → Calls Tryz.prog 21 #[.agg #[.int .i64 s.next, .int .i64 s.log, .slice a0 s.fs.length c0]] w' (fun e w'' => ∃ ua uc, e = .returned (.agg #[.int .i64 s.next, .int .i64 s.log, .slice ua s.fs.length uc]) ∧ FRow (w'.heap.size ≤ ·) w'' (.slice ua s.fs.length uc) s.fs ∧ Below w'.heap.size w' w'') from fun w' Y => HLS.out w' (HCO.out.below.trans (Y.mono HCO.out.below.size)))
      have HRR8 := Lib.hid (show ∀ w' xa xc (SS : Nat → Prop), FRow SS w' (.slice xa s.fs.length xc) s.fs → Calls Tryz.prog 23 #[.agg #[.int .i64 s.next, .int .i64 s.log, .slice xa s.fs.length xc]] w' (fun e w'' => e = .returned (.bool (checkB s)) ∧ Below w'.heap.size w' w'') from fun w' xa xc SS hr => rright_any SS w' s _ hr)
      have HY0 := Lib.hid (show Below wc.heap.size wc wc.drew from (Below.refl _ _).drew)
      have HEC := Lib.hid (show checkE s = if checkB s then 0 else 1 from rfl)
      clear htb hqb
      generalize checkE s = ce at *
      generalize checkB s = cb at *
      obtain ⟨⟨⟨t0, t1, t2⟩, u0, u1, u2⟩, s0', s1, s2'⟩ := HC8.out wc (Below.refl _ _)
      go_upto_region 8 with (fail)
      obtain ⟨wc0, rfl⟩ : ∃ w0 : World, w0 = wc := ⟨_, rfl⟩
      go_cut [65] (fun s65 wx => s65 = .bool false ∧ Hid (Below wc0.heap.size wc0 wx))
      case first =>
        cases cb with
        | true =>
          obtain rfl : ce = 0 := HEC.out
          refine wp_region_noPanic ?_
          refine wp_region_held_drew (S := (fun w' => (((w'.cell? ⟨w6.heap.size, 0, none⟩ = some (.int .i64 s2.next) ∧ w'.cell? ⟨w6.heap.size, 1, none⟩ = some (.int .i64 s2.log) ∧ w'.cell? ⟨w6.heap.size, 2, none⟩ = some (.slice ta s2.fs.length tc)) ∧ (w'.cell? ⟨q, 0, none⟩ = some (.int .i64 s2.next) ∧ w'.cell? ⟨q, 1, none⟩ = some (.int .i64 s2.log) ∧ w'.cell? ⟨q, 2, none⟩ = some (.slice va' s2.fs.length vc'))) ∧ (w'.cell? ⟨W.heap.size, 0, none⟩ = some (.int .i64 s.next) ∧ w'.cell? ⟨W.heap.size, 1, none⟩ = some (.int .i64 s.log) ∧ w'.cell? ⟨W.heap.size, 2, none⟩ = some (.slice a0 s.fs.length c0))))) (by kernel_rfl) (by (first | with_reducible exact HC8.out _ HY0.out | with_reducible exact HC8.out _ YA | with_reducible exact HC8.out _ YB | with_reducible exact HC8.out _ YC | with_reducible exact HC8.out _ YD | with_reducible exact HC8.out _ YE | assumption)) (fun hHeld => ?_)
          refine wpAnyH_take (i := 0) (oi := { dst := Option.some 38, op := Op.move (Operand.tmp 8), type := 25, pos := _, after := #[], guard := Option.none }) (v := ?_) rfl (by kernel_rfl) (by kernel_rfl) (by kernel_rfl) (fun _ _ _ h => h) (Or.inl ⟨by rfl, ?_⟩) (by assumption) ?_
          rotate_left
          · (intro wS hSw; (try dsimp only at hSw); go_simp; try with_reducible rfl)
          try simp only [Act.put, List.setIfInBounds_toArray, List.set_cons_zero, List.set_cons_succ]
          refine wpAnyH_take (i := 1) (oi := { dst := Option.some 39, op := Op.move (Operand.tmp 10), type := 3, pos := _, after := #[], guard := Option.none }) (v := ?_) rfl (by kernel_rfl) (by kernel_rfl) (by kernel_rfl) (fun _ _ _ h => h) (Or.inl ⟨by rfl, ?_⟩) (by assumption) ?_
          rotate_left
          · (intro wS hSw; (try dsimp only at hSw); go_simp; try with_reducible rfl)
          try simp only [Act.put, List.setIfInBounds_toArray, List.set_cons_zero, List.set_cons_succ]
          refine wpAnyH_take (i := 2) (oi := { dst := Option.some 40, op := Op.binOp BinOp.neq 3 (Operand.tmp 38) (Operand.tmp 39) 3, type := 4, pos := _, after := #[{ on := 0, ground := Ground.data }, { on := 1, ground := Ground.data }], guard := Option.none }) (v := ?_) rfl (by kernel_rfl) (by kernel_rfl) (by kernel_rfl) (fun _ _ _ h => h) (Or.inl ⟨by rfl, ?_⟩) (by assumption) ?_
          rotate_left
          · (intro wS hSw; (try dsimp only at hSw); go_simp; try with_reducible rfl)
          try simp only [Act.put, List.setIfInBounds_toArray, List.set_cons_zero, List.set_cons_succ]
          refine wpAnyH_take (i := 3) (oi := { dst := Option.some 41, op := Op.move (Operand.tmp 40), type := 4, pos := _, after := #[{ on := 2, ground := Ground.data }], guard := Option.none }) (v := ?_) rfl (by kernel_rfl) (by kernel_rfl) (by kernel_rfl) (fun _ _ _ h => h) (Or.inl ⟨by rfl, ?_⟩) (by assumption) ?_
          rotate_left
          · (intro wS hSw; (try dsimp only at hSw); go_simp; try with_reducible rfl)
          try simp only [Act.put, List.setIfInBounds_toArray, List.set_cons_zero, List.set_cons_succ]
          refine wpAnyH_take (i := 4) (oi := { dst := Option.some 42, op := Op.load 24 (Operand.tmp 7), type := 24, pos := _, after := #[{ on := 3, ground := Ground.guard }], guard := Option.some (3, Bool.false) }) (v := ?_) rfl (by kernel_rfl) (by kernel_rfl) (by kernel_rfl) (fun _ _ _ h => h) (Or.inl ⟨by rfl, ?_⟩) (by assumption) ?_
          rotate_left
          · (intro wS hSw; (try dsimp only at hSw); go_simp; try with_reducible rfl)
          try simp only [Act.put, List.setIfInBounds_toArray, List.set_cons_zero, List.set_cons_succ]
          refine wpAnyH_take (i := 5) (oi := { dst := Option.some 43, op := Op.load 38 (Operand.tmp 9), type := 38, pos := _, after := #[{ on := 3, ground := Ground.guard }], guard := Option.some (3, Bool.false) }) (v := ?_) rfl (by kernel_rfl) (by kernel_rfl) (by kernel_rfl) (fun _ _ _ h => h) (Or.inl ⟨by rfl, ?_⟩) (by assumption) ?_
          rotate_left
          · (intro wS hSw; (try dsimp only at hSw); go_simp; try with_reducible rfl)
          try simp only [Act.put, List.setIfInBounds_toArray, List.set_cons_zero, List.set_cons_succ]
          refine wpAnyH_ready (rs := [6]) (by kernel_rfl) (by simp) ?_
          refine AllReadyH.cons (o := { dst := Option.some 44, op := Op.call { callee := Callee.value (Operand.func 10), args := #[Operand.tmp 42, Operand.tmp 43], argTypes := #[24, 38] }, type := 4, pos := _, after := #[{ on := 4, ground := Ground.data }, { on := 5, ground := Ground.data }, { on := 3, ground := Ground.chain }, { on := 3, ground := Ground.guard }], guard := Option.some (3, Bool.false) }) rfl (fun K hK => ?_) ?_
          · go_simp
            (first | (go_at_call 10; ((with_reducible refine (HSA8.out _ HY0.out).mono ?_); rintro e wA ⟨rfl, hbA⟩; have YA := HY0.out.trans (hbA.mono HY0.out.size))) | (go_at_call 21; ((with_reducible refine (HLS8.out _ YB).mono ?_); rintro e wC ⟨xa, xc, rfl, hrC, hbC⟩; have YC := YB.trans (hbC.mono YB.size))) | (go_at_call 23; ((with_reducible refine (HRR8.out _ _ _ _ hrC).mono ?_); rintro e wD ⟨rfl, hbD⟩; have YD := YC.trans (hbD.mono YC.size))) | (go_at_call 11; ((with_reducible refine (HCK8.out _ YD).mono ?_); rintro e wE ⟨rfl, hbE⟩; have YE := YD.trans (hbE.mono YD.size))) | (go_at_call 11; ((with_reducible refine (HCK8.out _ YA).mono ?_); rintro e wB ⟨rfl, hbB⟩; have YB := YA.trans (hbB.mono YA.size))))
            refine hK.out _ _ (by (first | with_reducible exact HC8.out _ HY0.out | with_reducible exact HC8.out _ YA | with_reducible exact HC8.out _ YB | with_reducible exact HC8.out _ YC | with_reducible exact HC8.out _ YD | with_reducible exact HC8.out _ YE | assumption)) (fun hHeld => ?_)
            clear hK K
            try simp only [Act.put, List.setIfInBounds_toArray, List.set_cons_zero, List.set_cons_succ]
            refine wpAnyH_take (i := 7) (oi := { dst := Option.some 45, op := Op.unOp UnOp.not 4 (Operand.tmp 44), type := 4, pos := _, after := #[{ on := 6, ground := Ground.data }, { on := 3, ground := Ground.guard }], guard := Option.some (3, Bool.false) }) (v := ?_) rfl (by kernel_rfl) (by kernel_rfl) (by kernel_rfl) (fun _ _ _ h => h) (Or.inl ⟨by rfl, ?_⟩) (by assumption) ?_
            rotate_left
            · (intro wS hSw; (try dsimp only at hSw); go_simp; try with_reducible rfl)
            try simp only [Act.put, List.setIfInBounds_toArray, List.set_cons_zero, List.set_cons_succ]
            refine wpAnyH_take (i := 8) (oi := { dst := Option.some 46, op := Op.pick (Operand.tmp 41) (Operand.const (Value.bool Bool.true)) (Operand.tmp 45), type := 4, pos := _, after := #[{ on := 3, ground := Ground.data }, { on := 7, ground := Ground.data }], guard := Option.none }) (v := ?_) rfl (by kernel_rfl) (by kernel_rfl) (by kernel_rfl) (fun _ _ _ h => h) (Or.inl ⟨by rfl, ?_⟩) (by assumption) ?_
            rotate_left
            · (intro wS hSw; (try dsimp only at hSw); go_simp; try with_reducible rfl)
            try simp only [Act.put, List.setIfInBounds_toArray, List.set_cons_zero, List.set_cons_succ]
            refine wpAnyH_take (i := 9) (oi := { dst := Option.some 47, op := Op.move (Operand.tmp 46), type := 4, pos := _, after := #[{ on := 8, ground := Ground.data }, { on := 6, ground := Ground.chain }], guard := Option.none }) (v := ?_) rfl (by kernel_rfl) (by kernel_rfl) (by kernel_rfl) (fun _ _ _ h => h) (Or.inl ⟨by rfl, ?_⟩) (by assumption) ?_
            rotate_left
            · (intro wS hSw; (try dsimp only at hSw); go_simp; try with_reducible rfl)
            try simp only [Act.put, List.setIfInBounds_toArray, List.set_cons_zero, List.set_cons_succ]
            refine wpAnyH_take (i := 10) (oi := { dst := Option.some 48, op := Op.load 24 (Operand.tmp 2), type := 24, pos := _, after := #[{ on := 9, ground := Ground.guard }], guard := Option.some (9, Bool.false) }) (v := ?_) rfl (by kernel_rfl) (by kernel_rfl) (by kernel_rfl) (fun _ _ _ h => h) (Or.inl ⟨by rfl, ?_⟩) (by assumption) ?_
            rotate_left
            · (intro wS hSw; (try dsimp only at hSw); go_simp; try with_reducible rfl)
            try simp only [Act.put, List.setIfInBounds_toArray, List.set_cons_zero, List.set_cons_succ]
            refine wpAnyH_take (i := 13) (oi := { dst := Option.some 51, op := Op.load 24 (Operand.tmp 2), type := 24, pos := _, after := #[{ on := 9, ground := Ground.guard }], guard := Option.some (9, Bool.false) }) (v := ?_) rfl (by kernel_rfl) (by kernel_rfl) (by kernel_rfl) (fun _ _ _ h => h) (Or.inl ⟨by rfl, ?_⟩) (by assumption) ?_
            rotate_left
            · (intro wS hSw; (try dsimp only at hSw); go_simp; try with_reducible rfl)
            try simp only [Act.put, List.setIfInBounds_toArray, List.set_cons_zero, List.set_cons_succ]
            refine wpAnyH_ready (rs := [11]) (by kernel_rfl) (by simp) ?_
            refine AllReadyH.cons (o := { dst := Option.some 49, op := Op.call { callee := Callee.value (Operand.func 11), args := #[Operand.tmp 48], argTypes := #[24] }, type := 25, pos := _, after := #[{ on := 10, ground := Ground.data }, { on := 9, ground := Ground.chain }, { on := 9, ground := Ground.guard }], guard := Option.some (9, Bool.false) }) rfl (fun K hK => ?_) ?_
            · go_simp
              (first | (go_at_call 10; ((with_reducible refine (HSA8.out _ HY0.out).mono ?_); rintro e wA ⟨rfl, hbA⟩; have YA := HY0.out.trans (hbA.mono HY0.out.size))) | (go_at_call 21; ((with_reducible refine (HLS8.out _ YB).mono ?_); rintro e wC ⟨xa, xc, rfl, hrC, hbC⟩; have YC := YB.trans (hbC.mono YB.size))) | (go_at_call 23; ((with_reducible refine (HRR8.out _ _ _ _ hrC).mono ?_); rintro e wD ⟨rfl, hbD⟩; have YD := YC.trans (hbD.mono YC.size))) | (go_at_call 11; ((with_reducible refine (HCK8.out _ YD).mono ?_); rintro e wE ⟨rfl, hbE⟩; have YE := YD.trans (hbE.mono YD.size))) | (go_at_call 11; ((with_reducible refine (HCK8.out _ YA).mono ?_); rintro e wB ⟨rfl, hbB⟩; have YB := YA.trans (hbB.mono YA.size))))
              refine hK.out _ _ (by (first | with_reducible exact HC8.out _ HY0.out | with_reducible exact HC8.out _ YA | with_reducible exact HC8.out _ YB | with_reducible exact HC8.out _ YC | with_reducible exact HC8.out _ YD | with_reducible exact HC8.out _ YE | assumption)) (fun hHeld => ?_)
              clear hK K
              try simp only [Act.put, List.setIfInBounds_toArray, List.set_cons_zero, List.set_cons_succ]
              refine wpAnyH_take (i := 12) (oi := { dst := Option.some 50, op := Op.binOp BinOp.eql 25 (Operand.tmp 49) (Operand.const (Value.int IntKind.i64 0)) 25, type := 4, pos := _, after := #[{ on := 11, ground := Ground.data }, { on := 9, ground := Ground.guard }], guard := Option.some (9, Bool.false) }) (v := ?_) rfl (by kernel_rfl) (by kernel_rfl) (by kernel_rfl) (fun _ _ _ h => h) (Or.inl ⟨by rfl, ?_⟩) (by assumption) ?_
              rotate_left
              · (intro wS hSw; (try dsimp only at hSw); go_simp; try with_reducible rfl)
              try simp only [Act.put, List.setIfInBounds_toArray, List.set_cons_zero, List.set_cons_succ]
              refine wpAnyH_ready (rs := [14]) (by kernel_rfl) (by simp) ?_
              refine AllReadyH.cons (o := { dst := Option.some 52, op := Op.call { callee := Callee.value (Operand.func 21), args := #[Operand.tmp 51], argTypes := #[24] }, type := 38, pos := _, after := #[{ on := 13, ground := Ground.data }, { on := 11, ground := Ground.chain }, { on := 9, ground := Ground.guard }], guard := Option.some (9, Bool.false) }) rfl (fun K hK => ?_) ?_
              · go_simp
                (first | (go_at_call 10; ((with_reducible refine (HSA8.out _ HY0.out).mono ?_); rintro e wA ⟨rfl, hbA⟩; have YA := HY0.out.trans (hbA.mono HY0.out.size))) | (go_at_call 21; ((with_reducible refine (HLS8.out _ YB).mono ?_); rintro e wC ⟨xa, xc, rfl, hrC, hbC⟩; have YC := YB.trans (hbC.mono YB.size))) | (go_at_call 23; ((with_reducible refine (HRR8.out _ _ _ _ hrC).mono ?_); rintro e wD ⟨rfl, hbD⟩; have YD := YC.trans (hbD.mono YC.size))) | (go_at_call 11; ((with_reducible refine (HCK8.out _ YD).mono ?_); rintro e wE ⟨rfl, hbE⟩; have YE := YD.trans (hbE.mono YD.size))) | (go_at_call 11; ((with_reducible refine (HCK8.out _ YA).mono ?_); rintro e wB ⟨rfl, hbB⟩; have YB := YA.trans (hbB.mono YA.size))))
                refine hK.out _ _ (by (first | with_reducible exact HC8.out _ HY0.out | with_reducible exact HC8.out _ YA | with_reducible exact HC8.out _ YB | with_reducible exact HC8.out _ YC | with_reducible exact HC8.out _ YD | with_reducible exact HC8.out _ YE | assumption)) (fun hHeld => ?_)
                clear hK K
                try simp only [Act.put, List.setIfInBounds_toArray, List.set_cons_zero, List.set_cons_succ]
                refine wpAnyH_ready (rs := [15]) (by kernel_rfl) (by simp) ?_
                refine AllReadyH.cons (o := { dst := Option.some 53, op := Op.call { callee := Callee.value (Operand.func 23), args := #[Operand.tmp 52], argTypes := #[38] }, type := 4, pos := _, after := #[{ on := 14, ground := Ground.data }, { on := 14, ground := Ground.chain }, { on := 9, ground := Ground.guard }], guard := Option.some (9, Bool.false) }) rfl (fun K hK => ?_) ?_
                · go_simp
                  (first | (go_at_call 10; ((with_reducible refine (HSA8.out _ HY0.out).mono ?_); rintro e wA ⟨rfl, hbA⟩; have YA := HY0.out.trans (hbA.mono HY0.out.size))) | (go_at_call 21; ((with_reducible refine (HLS8.out _ YB).mono ?_); rintro e wC ⟨xa, xc, rfl, hrC, hbC⟩; have YC := YB.trans (hbC.mono YB.size))) | (go_at_call 23; ((with_reducible refine (HRR8.out _ _ _ _ hrC).mono ?_); rintro e wD ⟨rfl, hbD⟩; have YD := YC.trans (hbD.mono YC.size))) | (go_at_call 11; ((with_reducible refine (HCK8.out _ YD).mono ?_); rintro e wE ⟨rfl, hbE⟩; have YE := YD.trans (hbE.mono YD.size))) | (go_at_call 11; ((with_reducible refine (HCK8.out _ YA).mono ?_); rintro e wB ⟨rfl, hbB⟩; have YB := YA.trans (hbB.mono YA.size))))
                  refine hK.out _ _ (by (first | with_reducible exact HC8.out _ HY0.out | with_reducible exact HC8.out _ YA | with_reducible exact HC8.out _ YB | with_reducible exact HC8.out _ YC | with_reducible exact HC8.out _ YD | with_reducible exact HC8.out _ YE | assumption)) (fun hHeld => ?_)
                  clear hK K
                  try simp only [Act.put, List.setIfInBounds_toArray, List.set_cons_zero, List.set_cons_succ]
                  refine wpAnyH_take (i := 16) (oi := { dst := Option.some 54, op := Op.binOp BinOp.neq 4 (Operand.tmp 50) (Operand.tmp 53) 4, type := 4, pos := _, after := #[{ on := 12, ground := Ground.data }, { on := 15, ground := Ground.data }, { on := 9, ground := Ground.guard }], guard := Option.some (9, Bool.false) }) (v := ?_) rfl (by kernel_rfl) (by kernel_rfl) (by kernel_rfl) (fun _ _ _ h => h) (Or.inl ⟨by rfl, ?_⟩) (by assumption) ?_
                  rotate_left
                  · (intro wS hSw; (try dsimp only at hSw); go_simp; try with_reducible rfl)
                  try simp only [Act.put, List.setIfInBounds_toArray, List.set_cons_zero, List.set_cons_succ]
                  refine wpAnyH_take (i := 17) (oi := { dst := Option.some 55, op := Op.pick (Operand.tmp 47) (Operand.const (Value.bool Bool.true)) (Operand.tmp 54), type := 4, pos := _, after := #[{ on := 9, ground := Ground.data }, { on := 16, ground := Ground.data }], guard := Option.none }) (v := ?_) rfl (by kernel_rfl) (by kernel_rfl) (by kernel_rfl) (fun _ _ _ h => h) (Or.inl ⟨by rfl, ?_⟩) (by assumption) ?_
                  rotate_left
                  · (intro wS hSw; (try dsimp only at hSw); go_simp; try with_reducible rfl)
                  try simp only [Act.put, List.setIfInBounds_toArray, List.set_cons_zero, List.set_cons_succ]
                  refine wpAnyH_take (i := 18) (oi := { dst := Option.some 56, op := Op.move (Operand.tmp 55), type := 4, pos := _, after := #[{ on := 17, ground := Ground.data }, { on := 15, ground := Ground.chain }], guard := Option.none }) (v := ?_) rfl (by kernel_rfl) (by kernel_rfl) (by kernel_rfl) (fun _ _ _ h => h) (Or.inl ⟨by rfl, ?_⟩) (by assumption) ?_
                  rotate_left
                  · (intro wS hSw; (try dsimp only at hSw); go_simp; try with_reducible rfl)
                  try simp only [Act.put, List.setIfInBounds_toArray, List.set_cons_zero, List.set_cons_succ]
                  refine wpAnyH_take (i := 19) (oi := { dst := Option.some 57, op := Op.load 24 (Operand.tmp 2), type := 24, pos := _, after := #[{ on := 18, ground := Ground.guard }], guard := Option.some (18, Bool.false) }) (v := ?_) rfl (by kernel_rfl) (by kernel_rfl) (by kernel_rfl) (fun _ _ _ h => h) (Or.inl ⟨by rfl, ?_⟩) (by assumption) ?_
                  rotate_left
                  · (intro wS hSw; (try dsimp only at hSw); go_simp; try with_reducible rfl)
                  try simp only [Act.put, List.setIfInBounds_toArray, List.set_cons_zero, List.set_cons_succ]
                  refine wpAnyH_ready (rs := [20]) (by kernel_rfl) (by simp) ?_
                  refine AllReadyH.cons (o := { dst := Option.some 58, op := Op.call { callee := Callee.value (Operand.func 11), args := #[Operand.tmp 57], argTypes := #[24] }, type := 25, pos := _, after := #[{ on := 19, ground := Ground.data }, { on := 18, ground := Ground.chain }, { on := 18, ground := Ground.guard }], guard := Option.some (18, Bool.false) }) rfl (fun K hK => ?_) ?_
                  · go_simp
                    (first | (go_at_call 10; ((with_reducible refine (HSA8.out _ HY0.out).mono ?_); rintro e wA ⟨rfl, hbA⟩; have YA := HY0.out.trans (hbA.mono HY0.out.size))) | (go_at_call 21; ((with_reducible refine (HLS8.out _ YB).mono ?_); rintro e wC ⟨xa, xc, rfl, hrC, hbC⟩; have YC := YB.trans (hbC.mono YB.size))) | (go_at_call 23; ((with_reducible refine (HRR8.out _ _ _ _ hrC).mono ?_); rintro e wD ⟨rfl, hbD⟩; have YD := YC.trans (hbD.mono YC.size))) | (go_at_call 11; ((with_reducible refine (HCK8.out _ YD).mono ?_); rintro e wE ⟨rfl, hbE⟩; have YE := YD.trans (hbE.mono YD.size))) | (go_at_call 11; ((with_reducible refine (HCK8.out _ YA).mono ?_); rintro e wB ⟨rfl, hbB⟩; have YB := YA.trans (hbB.mono YA.size))))
                    refine hK.out _ _ (by (first | with_reducible exact HC8.out _ HY0.out | with_reducible exact HC8.out _ YA | with_reducible exact HC8.out _ YB | with_reducible exact HC8.out _ YC | with_reducible exact HC8.out _ YD | with_reducible exact HC8.out _ YE | assumption)) (fun hHeld => ?_)
                    clear hK K
                    try simp only [Act.put, List.setIfInBounds_toArray, List.set_cons_zero, List.set_cons_succ]
                    refine wpAnyH_take (i := 21) (oi := { dst := Option.some 59, op := Op.binOp BinOp.neq 25 (Operand.tmp 58) (Operand.const (Value.int IntKind.i64 0)) 25, type := 4, pos := _, after := #[{ on := 20, ground := Ground.data }, { on := 18, ground := Ground.guard }], guard := Option.some (18, Bool.false) }) (v := ?_) rfl (by kernel_rfl) (by kernel_rfl) (by kernel_rfl) (fun _ _ _ h => h) (Or.inl ⟨by rfl, ?_⟩) (by assumption) ?_
                    rotate_left
                    · (intro wS hSw; (try dsimp only at hSw); go_simp; try with_reducible rfl)
                    try simp only [Act.put, List.setIfInBounds_toArray, List.set_cons_zero, List.set_cons_succ]
                    refine wpAnyH_take (i := 22) (oi := { dst := Option.some 60, op := Op.move (Operand.tmp 59), type := 4, pos := _, after := #[{ on := 21, ground := Ground.data }, { on := 20, ground := Ground.chain }, { on := 18, ground := Ground.guard }], guard := Option.some (18, Bool.false) }) (v := ?_) rfl (by kernel_rfl) (by kernel_rfl) (by kernel_rfl) (fun _ _ _ h => h) (Or.inl ⟨by rfl, ?_⟩) (by assumption) ?_
                    rotate_left
                    · (intro wS hSw; (try dsimp only at hSw); go_simp; try with_reducible rfl)
                    try simp only [Act.put, List.setIfInBounds_toArray, List.set_cons_zero, List.set_cons_succ]
                    refine wpAnyH_take (i := 23) (oi := { dst := Option.some 61, op := Op.load 24 (Operand.tmp 2), type := 24, pos := _, after := #[{ on := 22, ground := Ground.guard }], guard := Option.some (22, Bool.true) }) (v := undef) rfl (by kernel_rfl) (by kernel_rfl) (by kernel_rfl) (fun _ _ _ h => h) (Or.inr ⟨by rfl, rfl⟩) (by assumption) ?_
                    try simp only [Act.put, List.setIfInBounds_toArray, List.set_cons_zero, List.set_cons_succ]
                    refine wpAnyH_take (i := 24) (oi := { dst := Option.some 62, op := Op.call { callee := Callee.value (Operand.func 11), args := #[Operand.tmp 61], argTypes := #[24] }, type := 25, pos := _, after := #[{ on := 23, ground := Ground.data }, { on := 22, ground := Ground.chain }, { on := 22, ground := Ground.guard }], guard := Option.some (22, Bool.true) }) (v := undef) rfl (by kernel_rfl) (by kernel_rfl) (by kernel_rfl) (fun _ _ _ h => h) (Or.inr ⟨by rfl, rfl⟩) (by assumption) ?_
                    try simp only [Act.put, List.setIfInBounds_toArray, List.set_cons_zero, List.set_cons_succ]
                    refine wpAnyH_take (i := 25) (oi := { dst := Option.some 63, op := Op.binOp BinOp.neq 25 (Operand.tmp 62) (Operand.const (Value.int IntKind.i64 1)) 25, type := 4, pos := _, after := #[{ on := 24, ground := Ground.data }, { on := 22, ground := Ground.guard }], guard := Option.some (22, Bool.true) }) (v := undef) rfl (by kernel_rfl) (by kernel_rfl) (by kernel_rfl) (fun _ _ _ h => h) (Or.inr ⟨by rfl, rfl⟩) (by assumption) ?_
                    try simp only [Act.put, List.setIfInBounds_toArray, List.set_cons_zero, List.set_cons_succ]
                    refine wpAnyH_take (i := 26) (oi := { dst := Option.some 64, op := Op.pick (Operand.tmp 60) (Operand.tmp 63) (Operand.const (Value.bool Bool.false)), type := 4, pos := _, after := #[{ on := 22, ground := Ground.data }, { on := 25, ground := Ground.data }, { on := 18, ground := Ground.guard }], guard := Option.some (18, Bool.false) }) (v := ?_) rfl (by kernel_rfl) (by kernel_rfl) (by kernel_rfl) (fun _ _ _ h => h) (Or.inl ⟨by rfl, ?_⟩) (by assumption) ?_
                    rotate_left
                    · (intro wS hSw; (try dsimp only at hSw); go_simp; try with_reducible rfl)
                    try simp only [Act.put, List.setIfInBounds_toArray, List.set_cons_zero, List.set_cons_succ]
                    refine wpAnyH_take (i := 27) (oi := { dst := Option.some 65, op := Op.pick (Operand.tmp 56) (Operand.const (Value.bool Bool.true)) (Operand.tmp 64), type := 4, pos := _, after := #[{ on := 18, ground := Ground.data }, { on := 26, ground := Ground.data }], guard := Option.none }) (v := ?_) rfl (by kernel_rfl) (by kernel_rfl) (by kernel_rfl) (fun _ _ _ h => h) (Or.inl ⟨by rfl, ?_⟩) (by assumption) ?_
                    rotate_left
                    · (intro wS hSw; (try dsimp only at hSw); go_simp; try with_reducible rfl)
                    try simp only [Act.put, List.setIfInBounds_toArray, List.set_cons_zero, List.set_cons_succ]
                    refine wpAnyH_done (by kernel_rfl) ?_ _
                    refine NoPanic.normal ?_
                    have HYE := Lib.hid YE
                    go_wp2_with fail
                    go_meet
                    exact ⟨rfl, HYE.out⟩
                  exact AllReadyH.nil
                exact AllReadyH.nil
              exact AllReadyH.nil
            exact AllReadyH.nil
          exact AllReadyH.nil
        | false =>
          obtain rfl : ce = 1 := HEC.out
          go_region_held3 (fun w' => (((w'.cell? ⟨w6.heap.size, 0, none⟩ = some (.int .i64 s2.next) ∧ w'.cell? ⟨w6.heap.size, 1, none⟩ = some (.int .i64 s2.log) ∧ w'.cell? ⟨w6.heap.size, 2, none⟩ = some (.slice ta s2.fs.length tc)) ∧ (w'.cell? ⟨q, 0, none⟩ = some (.int .i64 s2.next) ∧ w'.cell? ⟨q, 1, none⟩ = some (.int .i64 s2.log) ∧ w'.cell? ⟨q, 2, none⟩ = some (.slice va' s2.fs.length vc'))) ∧ (w'.cell? ⟨W.heap.size, 0, none⟩ = some (.int .i64 s.next) ∧ w'.cell? ⟨W.heap.size, 1, none⟩ = some (.int .i64 s.log) ∧ w'.cell? ⟨W.heap.size, 2, none⟩ = some (.slice a0 s.fs.length c0))))
            (first | with_reducible exact HC8.out _ HY0.out | with_reducible exact HC8.out _ YA | with_reducible exact HC8.out _ YB | with_reducible exact HC8.out _ YC | with_reducible exact HC8.out _ YD | with_reducible exact HC8.out _ YE | with_reducible exact HC8.out _ YF | assumption)
            (first
              | (go_at_call 10; ((with_reducible refine (HSA8.out _ HY0.out).mono ?_); rintro e wA ⟨rfl, hbA⟩; have YA := HY0.out.trans (hbA.mono HY0.out.size)))
              | (go_at_call 21; ((with_reducible refine (HLS8.out _ YB).mono ?_); rintro e wC ⟨xa, xc, rfl, hrC, hbC⟩; have YC := YB.trans (hbC.mono YB.size)))
              | (go_at_call 23; ((with_reducible refine (HRR8.out _ _ _ _ hrC).mono ?_); rintro e wD ⟨rfl, hbD⟩; have YD := YC.trans (hbD.mono YC.size)))
              | (go_at_call 11; ((with_reducible refine (HCK8.out _ YE).mono ?_); rintro e wF ⟨rfl, hbF⟩; have YF := YE.trans (hbF.mono YE.size)))
              | (go_at_call 11; ((with_reducible refine (HCK8.out _ YD).mono ?_); rintro e wE ⟨rfl, hbE⟩; have YE := YD.trans (hbE.mono YD.size)))
              | (go_at_call 11; ((with_reducible refine (HCK8.out _ YA).mono ?_); rintro e wB ⟨rfl, hbB⟩; have YB := YA.trans (hbB.mono YA.size))))
          all_goals
            have HYF := Lib.hid YF
            go_wp2_with fail
            go_meet
            exact ⟨rfl, HYF.out⟩
      case rest =>
        obtain ⟨rfl, HCD⟩ := hcut
        have HBD := Lib.hid (show Below w5.heap.size w5 wc from HB57.out.trans ((HCO.out.below.trans (HCD.out.mono HCO.out.below.size)).mono HB57.out.size))
        have HOTd := Lib.hid (own_below HOTc.out HCD.out)
        have HTBd := Lib.hid ((HCD.out.block _ (heap_lt ((HCO.out.below.block _ (heap_lt HTB.out)).trans HTB.out))).trans ((HCO.out.below.block _ (heap_lt HTB.out)).trans HTB.out))
        have hsl2 : s2.fs.length ≤ 1000 := HSL.out
        clear t0 t1 t2 u0 u1 u2 s0' s1 s2'
        go_wp2_with fail
        go_loopw [11] (fun i wx => ∃ k2 : Nat, k2 ≤ s2.fs.length ∧ i = .int .i64 k2 ∧ Hid (∃ xs, wx.ownsRow w5.heap.size 29 5 (.slice ta s2.fs.length tc) s2.fs.length xs) ∧ Hid (wx.heap[w6.heap.size]? = some (.cells #[.int .i64 s2.next, .int .i64 s2.log, .slice ta s2.fs.length tc] 24 (0, 0))) ∧ Hid (Below w5.heap.size w5 wx)) (fun i _ => s2.fs.length - (intOf i).toNat)
        case atStart => exact ⟨0, by omega, rfl, ⟨_, HOTd.out⟩, HTBd.out, HBD.out⟩
        case round =>
          obtain ⟨k2, hk2, rfl, HXS, HSX, HBX⟩ := hrel
          obtain ⟨xs, hxs⟩ := HXS.out
          obtain ⟨t0, t1, t2, -⟩ := stzR HSX.out
          have hsx := heap_lt HSX.out
          by_cases hk2l : k2 < s2.fs.length
          · obtain ⟨g, rfl⟩ : ∃ g, ta = some ⟨g, 0, none⟩ := by
              rcases hxs.2 with ⟨e, hn⟩ | ⟨g, cap, cur, e, _⟩
              · omega
              · injection e with e1; exact ⟨g, e1⟩
            have hxl2 : xs.length = s2.fs.length * 5 := hxs.1
            have hcell : wr.cell? ⟨g, k2 * 5, none⟩ = some xs[k2 * 5] := by
              rw [hxs.cellAt (k2 * 5) (by omega)]; exact List.getElem?_eq_getElem (by omega)
            have hfr := hxs.frozenAt (k2 * 5)
            have hgb : w5.heap.size ≤ g := (hxs.lt g rfl).1
            have hgl : g < wr.heap.size := (hxs.lt g rfl).2
            obtain ⟨hst, hgr⟩ := hxs.stored (k2 * 5) (.int .i64 (-1))
            have hne : g ≠ w6.heap.size := fun e => own_type (T' := 24) hxs HSX.out (by decide) (by rw [e]; rfl)
            have HN1 := Lib.hid (show ∃ ys, (wr.setCell ⟨g, k2 * 5, none⟩ (.int .i64 (-1))).ownsRow w5.heap.size 29 5 (.slice (some ⟨g, 0, none⟩) s2.fs.length tc) s2.fs.length ys from ⟨_, hst⟩)
            have HN2 := Lib.hid (show (wr.setCell ⟨g, k2 * 5, none⟩ (.int .i64 (-1))).heap[w6.heap.size]? = some (.cells #[.int .i64 s2.next, .int .i64 s2.log, .slice (some ⟨g, 0, none⟩) s2.fs.length tc] 24 (0, 0)) from (Below.heap_setCell _ _ _ _ hne.symm).trans HSX.out)
            have HN3 := Lib.hid (show Below w5.heap.size w5 (wr.setCell ⟨g, k2 * 5, none⟩ (.int .i64 (-1))) from HBX.out.setCell hgb _)
            generalize xs[k2 * 5] = u at *
            clear hxs hst hgr HXS hxl2
            go_wp2_with fail
            exact ⟨⟨k2 + 1, by omega, by go_num, HN1, HN2, HN3⟩, by simp [intOf]; omega⟩
          · clear hxs
            obtain ⟨wo, rfl⟩ : ∃ wo : World, wo = wr := ⟨_, rfl⟩
            go_wp2_with fail
            clear t0 t1 t2
            go_loopw [12] (fun i wx => ∃ k3 : Nat, k3 ≤ ed.drop.length ∧ i = .int .i64 k3 ∧ Hid (Below w5.heap.size w5 wx)) (fun i _ => ed.drop.length - (intOf i).toNat)
            case atStart => exact ⟨0, by omega, rfl, HBX.out⟩
            case round =>
              obtain ⟨k3, hk3, rfl, HBY⟩ := hrel
              have HBZ := Lib.hid (show Below W1.heap.size W1 wr from HB5.out.trans (HBY.out.mono HB5.out.size))
              have HBV := Lib.hid (show Below W.heap.size W wr from HB1.out.trans (HBZ.out.mono HB1.out.size))
              obtain ⟨⟨m0, m1, m2⟩, n0, n1, n2, n3⟩ := HOM.out wr HBY.out
              obtain ⟨⟨s0', s1, s2'⟩, e0, e1, e2, e3⟩ := HSE.out wr HBZ.out
              by_cases hk3l : k3 < ed.drop.length
              · obtain ⟨⟨xa, xc, ex, x1, x2, x3, x4⟩⟩ := HRD5.out.below HBY.out
                obtain ⟨rfl, rfl⟩ : b1 = xa ∧ d1 = xc := by injection ex with e1 e2 e3; exact ⟨e1, e3⟩
                obtain ⟨xb, xo, rfl, -, -, xcell⟩ := x4 (by omega)
                obtain ⟨⟨ya, yc, ey, y1, y2, y3, y4⟩⟩ := (HE.out.drop).below HBV.out
                obtain ⟨rfl, rfl⟩ : a1 = ya ∧ c1 = yc := by injection ey with e1 e2 e3; exact ⟨e1, e3⟩
                obtain ⟨yb, yo, rfl, -, -, ycell⟩ := y4 (by omega)
                have hx := xcell k3 hk3l
                have hy := ycell k3 hk3l
                have hdd : (ed.drop[k3] != ed.drop[k3]) = false := by simp
                clear xcell ycell x3 x4 y3 y4 ex ey
                generalize ed.drop[k3] = dk at *
                go_wp2_with fail
                go_quiet (fail)
                generalize hwq : wr.drewN _ = wq
                have HF := Lib.hid (HBY.out.trans (show Below w5.heap.size wr wq by rw [← hwq]; exact (below_drewN (Below.refl _ _) _).mono HBY.out.size))
                clear hwq
                go_wp2_with fail
                exact ⟨⟨k3 + 1, by omega, by go_num, HF⟩, by simp [intOf]; omega⟩
              · have HC19 := Lib.hid (show ∀ w', Below wr.heap.size wr w' → (((w'.cell? ⟨w4.heap.size, 0, none⟩ = some (.int .i64 s.next) ∧ w'.cell? ⟨w4.heap.size, 1, none⟩ = some (.int .i64 s.log) ∧ w'.cell? ⟨w4.heap.size, 2, none⟩ = some (.slice b0 s.fs.length d0)) ∧ (w'.cell? ⟨W.heap.size, 0, none⟩ = some (.int .i64 s.next) ∧ w'.cell? ⟨W.heap.size, 1, none⟩ = some (.int .i64 s.log) ∧ w'.cell? ⟨W.heap.size, 2, none⟩ = some (.slice a0 s.fs.length c0))) ∧ w'.cell? ⟨w4.heap.size + 1, 1, none⟩ = some (.slice b2 ed.add.length d2) ∧ w'.cell? ⟨W.heap.size + 1, 1, none⟩ = some (.slice a2 ed.add.length c2)) from fun w' Y => by
                  have g1 := HOM.out w' (HBY.out.trans (Y.mono HBY.out.size))
                  have g2 := HSE.out w' (HBZ.out.trans (Y.mono HBZ.out.size))
                  exact ⟨⟨g1.1, g2.1⟩, g1.2.2.1, g2.2.2.1⟩)
                have HL1 := Lib.hid (show ∀ w', Below wr.heap.size wr w' → Calls Tryz.prog 21 #[.agg #[.int .i64 s.next, .int .i64 s.log, .slice a0 s.fs.length c0]] w' (fun e w'' => ∃ ua uc, e = .returned (.agg #[.int .i64 s.next, .int .i64 s.log, .slice ua s.fs.length uc]) ∧ FRow (w'.heap.size ≤ ·) w'' (.slice ua s.fs.length uc) s.fs ∧ Below w'.heap.size w' w'') from fun w' Y => by
                  refine (lstate_any _ w' s _ (HR.out.below (HBV.out.trans (Y.mono HBV.out.size))) (by omega)).mono ?_
                  rintro e w'' ⟨u, rfl, hown, hb⟩
                  obtain ⟨ua, uc, rfl⟩ := own_slice hown
                  exact ⟨ua, uc, rfl, FRow.own hown HR.out.ok, hb⟩)
                have HL2 := Lib.hid (show ∀ w', Below wr.heap.size wr w' → Calls Tryz.prog 21 #[.agg #[.int .i64 0, .int .i64 0, .slice b2 ed.add.length d2]] w' (fun e w'' => ∃ ua uc, e = .returned (.agg #[.int .i64 0, .int .i64 0, .slice ua ed.add.length uc]) ∧ FRow (w'.heap.size ≤ ·) w'' (.slice ua ed.add.length uc) ed.add ∧ Below w'.heap.size w' w'') from fun w' Y => by
                  refine (lstate_any _ w' ⟨0, 0, ed.add⟩ _ (HRM5.out.below (HBY.out.trans (Y.mono HBY.out.size))) (by show ed.add.length ≤ _; omega)).mono ?_
                  rintro e w'' ⟨u, rfl, hown, hb⟩
                  obtain ⟨ua, uc, rfl⟩ := own_slice hown
                  exact ⟨ua, uc, rfl, FRow.own hown HE.out.add.ok, hb⟩)
                have HL3 := Lib.hid (show ∀ w', Below wr.heap.size wr w' → Calls Tryz.prog 21 #[.agg #[.int .i64 0, .int .i64 0, .slice a2 ed.add.length c2]] w' (fun e w'' => ∃ ua uc, e = .returned (.agg #[.int .i64 0, .int .i64 0, .slice ua ed.add.length uc]) ∧ FRow (w'.heap.size ≤ ·) w'' (.slice ua ed.add.length uc) ed.add ∧ Below w'.heap.size w' w'') from fun w' Y => by
                  refine (lstate_any _ w' ⟨0, 0, ed.add⟩ _ (HE.out.add.below (HBV.out.trans (Y.mono HBV.out.size))) (by show ed.add.length ≤ _; omega)).mono ?_
                  rintro e w'' ⟨u, rfl, hown, hb⟩
                  obtain ⟨ua, uc, rfl⟩ := own_slice hown
                  exact ⟨ua, uc, rfl, FRow.own hown HE.out.add.ok, hb⟩)
                have HS1 := Lib.hid (show ∀ w' xa xc (SS : Nat → Prop), Below wr.heap.size wr w' → FRow SS w' (.slice xa s.fs.length xc) s.fs → Calls Tryz.prog 10 #[.agg #[.int .i64 s.next, .int .i64 s.log, .slice b0 s.fs.length d0], .agg #[.int .i64 s.next, .int .i64 s.log, .slice xa s.fs.length xc]] w' (fun e w'' => e = .returned (.bool true) ∧ Below w'.heap.size w' w'') from fun w' xa xc SS Y hr => by
                  have := lsame_any _ _ w' s s _ _ (HRO5.out.below (HBY.out.trans (Y.mono HBY.out.size))) hr (by omega)
                  rw [stEq_same] at this
                  exact this)
                have HS2 := Lib.hid (show ∀ w' xa xc ya yc (SS SP : Nat → Prop), FRow SS w' (.slice xa ed.add.length xc) ed.add → FRow SP w' (.slice ya ed.add.length yc) ed.add → Calls Tryz.prog 24 #[.agg #[.int .i64 0, .int .i64 0, .slice xa ed.add.length xc], .agg #[.int .i64 0, .int .i64 0, .slice ya ed.add.length yc]] w' (fun e w'' => e = .returned (.bool true) ∧ Below w'.heap.size w' w'') from fun w' xa xc ya yc SS SP h1 h2 => by
                  have := same_any _ _ w' 0 0 0 0 _ _ ed.add ed.add h1 h2
                  rw [stEq_same] at this
                  exact this)
                have HV0 := Lib.hid (show Below wr.heap.size wr wr.drew from (Below.refl _ _).drew)
                go_upto_region 19 with (fail)
                go_region_held3 (fun w' => (((w'.cell? ⟨w4.heap.size, 0, none⟩ = some (.int .i64 s.next) ∧ w'.cell? ⟨w4.heap.size, 1, none⟩ = some (.int .i64 s.log) ∧ w'.cell? ⟨w4.heap.size, 2, none⟩ = some (.slice b0 s.fs.length d0)) ∧ (w'.cell? ⟨W.heap.size, 0, none⟩ = some (.int .i64 s.next) ∧ w'.cell? ⟨W.heap.size, 1, none⟩ = some (.int .i64 s.log) ∧ w'.cell? ⟨W.heap.size, 2, none⟩ = some (.slice a0 s.fs.length c0))) ∧ w'.cell? ⟨w4.heap.size + 1, 1, none⟩ = some (.slice b2 ed.add.length d2) ∧ w'.cell? ⟨W.heap.size + 1, 1, none⟩ = some (.slice a2 ed.add.length c2)))
                  (first | with_reducible exact HC19.out _ HV0.out | with_reducible exact HC19.out _ VA | with_reducible exact HC19.out _ VB | with_reducible exact HC19.out _ VC | with_reducible exact HC19.out _ VD | with_reducible exact HC19.out _ VE | assumption)
                  (first
                    | (go_at_call 21; ((with_reducible refine (HL1.out _ HV0.out).mono ?_); rintro e wA ⟨xa, xc, rfl, hrA, hbA⟩; have VA := HV0.out.trans (hbA.mono HV0.out.size)))
                    | (go_at_call 10; ((with_reducible refine (HS1.out _ _ _ _ VA hrA).mono ?_); rintro e wB ⟨rfl, hbB⟩; have VB := VA.trans (hbB.mono VA.size)))
                    | (go_at_call 21; ((with_reducible refine (HL2.out _ VB).mono ?_); rintro e wC ⟨ya, yc, rfl, hrC, hbC⟩; have VC := VB.trans (hbC.mono VB.size)))
                    | (go_at_call 21; ((with_reducible refine (HL3.out _ VC).mono ?_); rintro e wD ⟨za, zc, rfl, hrD, hbD⟩; have VD := VC.trans (hbD.mono VC.size); have hrC2 := hrC.below hbD))
                    | (go_at_call 24; ((with_reducible refine (HS2.out _ _ _ _ _ _ _ hrC2 hrD).mono ?_); rintro e wE ⟨rfl, hbE⟩; have VE := VD.trans (hbE.mono VD.size))))
                all_goals
                  have HF := Lib.hid (HBV.out.trans (VE.mono HBV.out.size))
                  go_wp2_with fail
                  go_ret
                  exact ⟨rfl, HF.out⟩
end Go.Proofs.YtiiafpbonkcokaaGreat
