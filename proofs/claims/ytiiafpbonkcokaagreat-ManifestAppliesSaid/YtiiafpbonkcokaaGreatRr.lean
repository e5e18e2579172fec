/-
  The document's 'Right': the walk.
-/
import Derived.Test.YtiiafpbonkcokaaGreatRp
import Derived.Deep.DeepCutAuto
namespace Go.Proofs.YtiiafpbonkcokaaGreat
open Go.RowKit Go.Maps

set_option maxRecDepth 100000 in
set_option maxHeartbeats 8000000 in
theorem rright_any (S : Nat → Prop) (w : World) (s : St) (v : Value) (h : FRow S w v s.fs) : Calls Tryz.prog 23 #[stv s.next s.log v] w fun e w' => e = .returned (.bool (checkB s)) ∧ Below w.heap.size w w' := by
  obtain ⟨next, log, L⟩ := s
  have HN := Lib.hid (show numB ⟨next, log, L⟩ = (decide (1 ≤ next) && decide (next ≤ 1099511627776) && decide (0 ≤ log) && decide (log ≤ 1099511627776) && decide (L.length ≤ 200)) from rfl)
  generalize hr : checkB ⟨next, log, L⟩ = r
  have HNO := Lib.hid (show ∀ i (hi : i < L.length), ¬ RF next L i hi → false = r from fun i hi h => by rw [← hr]; exact (check_no (s := ⟨next, log, L⟩) hi h).symm)
  have HNU := Lib.hid (show numB ⟨next, log, L⟩ = false → false = r from fun h => by rw [← hr]; exact (check_num h).symm)
  have HYES := Lib.hid (show numB ⟨next, log, L⟩ = true → (∀ i (hi : i < L.length), RF next L i hi) → true = r from fun h h2 => by rw [← hr]; exact (check_iff.2 ⟨h, h2⟩).symm)
  clear hr
  obtain ⟨⟨va, vc, rfl, q1, q2, q3, q4⟩, qk⟩ := h
  have HQ := Lib.hid q4
  have HOK := Lib.hid qk
  clear q3 q4 qk
  unfold stv
  dsimp only at *
  by_cases h1 : 1 ≤ next
  rotate_left
  · have HF := Lib.hid (HNU.out (by rw [HN.out]; simp [h1]))
    go_enter Tryz.func23, Tryz.ntmps23
    go_wp2_with fail
    go_ret
    exact ⟨ret_bool HF.out, bl1 _ _⟩
  by_cases h2 : next ≤ 1099511627776
  rotate_left
  · have HF := Lib.hid (HNU.out (by rw [HN.out]; simp [h1, h2]))
    go_enter Tryz.func23, Tryz.ntmps23
    go_wp2_with fail
    go_ret
    exact ⟨ret_bool HF.out, bl1 _ _⟩
  by_cases h3 : 0 ≤ log
  rotate_left
  · have HF := Lib.hid (HNU.out (by rw [HN.out]; simp [h1, h2, h3]))
    go_enter Tryz.func23, Tryz.ntmps23
    go_wp2_with fail
    go_ret
    exact ⟨ret_bool HF.out, bl1 _ _⟩
  by_cases h4 : log ≤ 1099511627776
  rotate_left
  · have HF := Lib.hid (HNU.out (by rw [HN.out]; simp [h1, h2, h3, h4]))
    go_enter Tryz.func23, Tryz.ntmps23
    go_wp2_with fail
    go_ret
    exact ⟨ret_bool HF.out, bl1 _ _⟩
  by_cases h5 : L.length ≤ 200
  rotate_left
  · have HF := Lib.hid (HNU.out (by rw [HN.out]; simp [h1, h2, h3, h4, h5]))
    go_enter Tryz.func23, Tryz.ntmps23
    go_wp2_with fail
    go_ret
    exact ⟨ret_bool HF.out, bl1 _ _⟩
  have HNT := Lib.hid (show numB ⟨next, log, L⟩ = true by rw [HN.out]; simp [h1, h2, h3, h4, h5])
  obtain ⟨W0, hW0⟩ : ∃ W0, w.alloc (.cells #[.int .i64 next, .int .i64 log, .slice va L.length vc] 38) = W0 := ⟨_, rfl⟩
  have HB0 := Lib.hid (show Below w.heap.size w W0 by rw [← hW0]; exact bl1 _ _)
  have hz0 : W0.heap.size = w.heap.size + 1 := by rw [← hW0]; simp
  have hst : W0.heap[w.heap.size]? = some (.cells #[.int .i64 next, .int .i64 log, .slice va L.length vc] 38 (0, 0)) := by rw [← hW0]; exact heap_alloc_new _ _
  have HST := Lib.hid hst
  have hsl : w.heap.size < W0.heap.size := by omega
  have HSC := Lib.hid (show ∀ w', Below W0.heap.size W0 w' → (w'.cell? ⟨w.heap.size, 0, none⟩ = some (.int .i64 next) ∧ w'.cell? ⟨w.heap.size, 2, none⟩ = some (.slice va L.length vc)) from fun w' X => by
    have e := (X.block _ hsl).trans hst
    exact ⟨by simp [World.cell?, e], by simp [World.cell?, e]⟩)
  have HW := Lib.hid hW0
  obtain ⟨k0, k2⟩ := HSC.out W0 (Below.refl _ _)
  have k1 : W0.cell? ⟨w.heap.size, 1, none⟩ = some (.int .i64 log) := by simp [World.cell?, hst]
  clear hW0 hst hz0
  go_enter Tryz.func23, Tryz.ntmps23
  go_upto_region 1 with (fail)
  rw [HW.out]
  go_wp2_with fail
  clear k0 k1 k2
  go_loopw [3] (fun i wr => ∃ k : Nat, k ≤ L.length ∧ i = .int .i64 k ∧ Hid (∀ j (hj : j < L.length), j < k → RF next L j hj) ∧ Hid (Below W0.heap.size W0 wr)) (fun i _ => L.length - (intOf i).toNat)
  case atStart => exact ⟨0, by omega, rfl, fun j _ h => by omega, Below.refl _ _⟩
  case round =>
    obtain ⟨k, hk, rfl, HA, HB⟩ := hrel
    obtain ⟨k0, k2⟩ := HSC.out wr HB.out
    by_cases hlt : k < L.length
    rotate_left
    · have HF := Lib.hid (HYES.out HNT.out (fun i hi => HA.out i hi (by omega)))
      go_wp2_with fail
      go_ret
      exact ⟨ret_bool HF.out, HB0.out.trans (HB.out.mono HB0.out.size)⟩
    obtain ⟨bb, oo, rfl, _, hbl, hcc⟩ := HQ.out (by omega)
    have HFI := Lib.hid (show ∀ w', Below W0.heap.size W0 w' → ∀ i (hi : i < L.length), FiAt w' bb (oo + i * 5) L[i] from fun w' X i hi => (hcc i hi).block ((X.block bb (by omega)).trans (HB0.out.block bb hbl)))
    clear hcc
    have hfi := HFI.out wr HB.out k hlt
    have hok := HOK.out _ (List.getElem_mem hlt)
    have HN1 := Lib.hid (HNO.out k hlt)
    have HLAST := Lib.hid (show ∀ k', k = k' + 1 → ∃ pn, lastN L k = pn ∧ wr.cell? ⟨bb, oo + k' * 5, none⟩ = some (.int .i64 pn) from fun k' e => by
      subst e
      exact ⟨_, last_at L k' (by omega), (HFI.out wr HB.out k' (by omega)).c0⟩)
    have HNEXT := Lib.hid (show RF next L k hlt → ∀ j (hj : j < L.length), j < k + 1 → RF next L j hj from fun h j hj g => by
      by_cases e : j = k
      · subst e; exact h
      · exact HA.out j hj (by omega))
    have HMK := Lib.hid (show 1 ≤ L[k].n → L[k].n < next → lastN L k < L[k].n → rightB L[k] = true → (∀ q (hq : q < k), rcl L[k] L[q] = false) → RF next L k hlt from fun a1 a2 a3 a4 a5 => ⟨a1, a2, a3, a4, a5⟩)
    have HOF := Lib.hid (show RF next L k hlt → (1 ≤ L[k].n ∧ L[k].n < next ∧ lastN L k < L[k].n) ∧ rightB L[k] = true ∧ ∀ q (hq : q < k), rcl L[k] L[q] = false from fun h => ⟨⟨h.a1, h.a2, h.a3⟩, h.a4, h.a5⟩)
    generalize L[k] = f at *
    generalize RF next L k hlt = RFk at *
    have HRI := Lib.hid (right_iff (f := f))
    obtain ⟨fn, fl, fc, ff, fe⟩ := f
    obtain ⟨p0, p1, p2, p3, p4⟩ := hfi
    have hs1 := hok.s1
    have hs2 := hok.s2
    have hn0 := hok.n0
    have hn1 := hok.n1
    clear hok
    dsimp only at *
    have hwl : wr.heap.size ≠ w.heap.size := by have := HB.out.size; omega
    have hbb : bb < wr.heap.size := World.block_lt_of_cell? wr _ p0
    have hsw : w.heap.size < wr.heap.size := World.block_lt_of_cell? wr _ k0
    obtain ⟨wf, hwf⟩ : ∃ wf, wr.alloc (.cells #[.int .i64 fn, .int .i64 fl, .int .i64 fc, .string ff, .string fe] 35) = wf := ⟨_, rfl⟩
    have hbf : Below wr.heap.size wr wf := by rw [← hwf]; exact bl1 _ _
    have hff : wf.heap[wr.heap.size]? = some (.cells #[.int .i64 fn, .int .i64 fl, .int .i64 fc, .string ff, .string fe] 35 (0, 0)) := by rw [← hwf]; exact heap_alloc_new _ _
    have hwlt : wr.heap.size < wf.heap.size := heap_ltR hff
    have HBF := Lib.hid (HB.out.trans (hbf.mono HB.out.size))
    have HWF := Lib.hid hwf
    have HFC := Lib.hid (show ∀ w', Below wf.heap.size wf w' → (w'.cell? ⟨wr.heap.size, 0, none⟩ = some (.int .i64 fn) ∧ w'.cell? ⟨wr.heap.size, 1, none⟩ = some (.int .i64 fl) ∧ w'.cell? ⟨wr.heap.size, 2, none⟩ = some (.int .i64 fc) ∧ w'.cell? ⟨wr.heap.size, 3, none⟩ = some (.string ff) ∧ w'.cell? ⟨wr.heap.size, 4, none⟩ = some (.string fe)) ∧ w'.cell? ⟨w.heap.size, 0, none⟩ = some (.int .i64 next) ∧ w'.cell? ⟨w.heap.size, 2, none⟩ = some (.slice (some ⟨bb, oo, none⟩) L.length vc) from fun w' X => by
      have e := (X.block _ hwlt).trans hff
      exact ⟨⟨by simp [World.cell?, e], by simp [World.cell?, e], by simp [World.cell?, e], by simp [World.cell?, e], by simp [World.cell?, e]⟩, HSC.out _ (HBF.out.trans (X.mono HBF.out.size))⟩)
    have HLAST2 := Lib.hid (show ∀ k', k = k' + 1 → ∃ pn, lastN L k = pn ∧ ∀ w', Below wf.heap.size wf w' → w'.cell? ⟨bb, oo + k' * 5, none⟩ = some (.int .i64 pn) from fun k' e => by
      subst e
      exact ⟨_, last_at L k' (by omega), fun w' X => (HFI.out w' (HBF.out.trans (X.mono HBF.out.size)) k' (by omega)).c0⟩)
    have HEND := Lib.hid (show ∀ w', Below wf.heap.size wf w' → Below w.heap.size w w' from fun w' X => HB0.out.trans ((HBF.out.trans (X.mono HBF.out.size)).mono HB0.out.size))
    clear hwf hbf hff HLAST
    go_upto_region 7 with (fail)
    rw [HWF.out]
    clear p0 p1 p2 p3 p4 k0 k2
    obtain ⟨⟨p0, p1, p2, p3, p4⟩, k0, k2⟩ := HFC.out wf (Below.refl _ _)
    have HKK := Lib.hid (show lastN L k = lastN L k from rfl)
    generalize hlast : lastN L k = la at *
    have HLA0 := Lib.hid (show k = 0 → la = 0 from fun e => by rw [← hlast, e]; rfl)
    clear hlast
    go_cut [68] (fun c wc => c = .bool (t7 k fn next la) ∧ Hid (Below wf.heap.size wf wc))
    case first =>
      by_cases c1 : fn < 1
      · go_quiet (fail)
        go_wp2_with fail
        go_meet
        exact ⟨ret_boolv (by simp [t7, c1]), below_drewN (Below.refl _ _) _⟩
      · by_cases c2 : next ≤ fn
        · go_quiet (fail)
          go_wp2_with fail
          go_meet
          exact ⟨ret_boolv (by simp [t7, c2]), below_drewN (Below.refl _ _) _⟩
        · obtain rfl | ⟨k', rfl⟩ : k = 0 ∨ ∃ k', k = k' + 1 := by cases k with | zero => exact .inl rfl | succ k' => exact .inr ⟨k', rfl⟩
          · go_quiet (fail)
            go_wp2_with fail
            go_meet
            exact ⟨ret_boolv (by unfold t7; rw [decide_eq_false (show ¬ fn < 1 by omega), decide_eq_false (show ¬ next ≤ fn by omega)]; simp), below_drewN (Below.refl _ _) _⟩
          · obtain ⟨pn, rfl, hp⟩ := HLAST2.out k' rfl
            have p5 := hp wf (Below.refl _ _)
            clear hp HLAST2 HKK
            have ek : ((k' + 1 : Nat) : Int) - 1 = (k' : Int) := by omega
            have e1 : IntKind.i64.wrap (((k' + 1 : Nat) : Int) - 1) = (k' : Int) := by rw [ek]; exact IntWalk.i64_in _ (by omega)
            have e2 : ((k' : Int)).toNat = k' := by omega
            go_quiet (fail)
            go_wp2_with fail
            go_meet
            exact ⟨ret_boolv (by unfold t7; rw [decide_eq_false (show ¬ fn < 1 by omega), decide_eq_false (show ¬ next ≤ fn by omega)]; simp), below_drewN (Below.refl _ _) _⟩
    case rest =>
      obtain ⟨rfl, HC7⟩ := hcut
      have HX7 := Lib.hid (show t7 k fn next la = true → false = r from fun h => HN1.out (fun g => by
        have g := (HOF.out g).1
        unfold t7 at h
        simp only [Bool.or_eq_true, Bool.and_eq_true, decide_eq_true_eq] at h
        omega))
      have HY7 := Lib.hid (show t7 k fn next la = false → 1 ≤ fn ∧ fn < next ∧ la < fn from fun h => by
        unfold t7 at h
        simp only [Bool.or_eq_false_iff, Bool.and_eq_false_iff, decide_eq_false_iff_not] at h
        obtain ⟨⟨a1, a2⟩, a3⟩ := h
        refine ⟨by omega, by omega, ?_⟩
        by_cases e : k = 0
        · have := HLA0.out e; omega
        · rcases a3 with a3 | a3
          · omega
          · omega)
      generalize t7 k fn next la = b7 at *
      cases b7 with
      | true =>
        have HF := Lib.hid (HX7.out rfl)
        go_wp2_with fail
        go_ret
        exact ⟨ret_bool HF.out, HEND.out _ HC7.out⟩
      | false =>
        have H7 := Lib.hid (HY7.out rfl)
        clear HX7 HY7 p0 p1 p2 p3 p4 k0 k2
        obtain ⟨⟨p0, p1, p2, p3, p4⟩, k0, k2⟩ := HFC.out wc HC7.out
        go_upto_region 9 with (fail)
        go_cut [98] (fun c wx => c = .bool (t9 fl fc ff fe) ∧ Hid (Below wf.heap.size wf wx))
        case first =>
          go_wp2_with (go_at_call 52; refine (key_any _ _).mono ?_; rintro e w' ⟨rfl, rfl⟩)
          all_goals
            go_meet
            refine ⟨ret_boolv ?_, HC7.out⟩
            unfold t9
            go_tidy
            first | (simp [*]; done) | (simp [*]; omega)
        case rest =>
          obtain ⟨rfl, HC9⟩ := hcut
          have HX9 := Lib.hid (show t9 fl fc ff fe = true → false = r from fun h => HN1.out (fun g => by
            have g := (HOF.out g).2.1
            rw [right_no] at g
            dsimp only at g
            rw [h] at g
            cases g))
          have HY9 := Lib.hid (show t9 fl fc ff fe = false → t11 fc ff fe = false → rightB ⟨fn, fl, fc, ff, fe⟩ = true from fun h h2 => by
            rw [right_no]
            dsimp only
            rw [h, h2]
            rfl)
          generalize t9 fl fc ff fe = b9 at *
          cases b9 with
          | true =>
            have HF := Lib.hid (HX9.out rfl)
            go_wp2_with fail
            go_ret
            exact ⟨ret_bool HF.out, HEND.out _ HC9.out⟩
          | false =>
            have H9 := Lib.hid (HY9.out rfl)
            clear HX9 HY9 p0 p1 p2 p3 p4 k0 k2
            obtain ⟨⟨p0, p1, p2, p3, p4⟩, k0, k2⟩ := HFC.out _ HC9.out
            go_upto_region 11 with (fail)
            go_cut [127] (fun c wx => c = .bool (t11 fc ff fe) ∧ Hid (Below wf.heap.size wf wx))
            case first =>
              go_wp2_with fail
              refine (less_any _ fe ff hs2 hs1).mono ?_
              rintro e w2 ⟨rfl, hb2⟩
              have HC2 := Lib.hid (HC9.out.trans (hb2.mono HC9.out.size))
              clear hb2 p0 p1 p2 p3 p4 k0 k2
              obtain ⟨⟨p0, p1, p2, p3, p4⟩, k0, k2⟩ := HFC.out w2 HC2.out
              have HT := Lib.hid (show t11 fc ff fe = (sLt fe ff || ((fc == 1) && !sEq ff fe) || (decide (1 < fc) && sEq ff fe)) from rfl)
              generalize sLt fe ff = q at *
              cases q with
              | true =>
                go_wp2_with fail
                go_meet
                exact ⟨ret_boolv (by rw [HT.out]; rfl), HC2.out⟩
              | false =>
                go_wp2_with fail
                all_goals
                  go_meet
                  refine ⟨ret_boolv ?_, HC2.out⟩
                  rw [HT.out]
                  clear HT
                  go_tidy
                  simp only [sEq]
                  first | (simp [*]; done) | (simp [*]; omega) | go_goals
            case rest =>
              obtain ⟨rfl, HC11⟩ := hcut
              have HX11 := Lib.hid (show t11 fc ff fe = true → false = r from fun h => HN1.out (fun g => by
                have g := (HOF.out g).2.1
                rw [right_no] at g
                dsimp only at g
                rw [h] at g
                simp at g))
              generalize t11 fc ff fe = b11 at *
              cases b11 with
              | true =>
                have HF := Lib.hid (HX11.out rfl)
                go_wp2_with fail
                go_ret
                exact ⟨ret_bool HF.out, HEND.out _ HC11.out⟩
              | false =>
                have H11 := Lib.hid (H9.out rfl)
                clear HX11 H9 p0 p1 p2 p3 p4 k0 k2
                obtain ⟨wo, rfl⟩ : ∃ wo : World, wo = wr := ⟨_, rfl⟩
                go_wp2_with fail
                go_loopw [5] (fun i wr => ∃ j : Nat, j ≤ k ∧ i = .int .i64 j ∧ Hid (∀ q (hq : q < j) (hqL : q < L.length), rcl ⟨fn, fl, fc, ff, fe⟩ L[q] = false) ∧ Hid (Below wf.heap.size wf wr)) (fun i _ => k - (intOf i).toNat)
                case atStart => exact ⟨0, by omega, rfl, fun q hq => absurd hq (by omega), HC11.out⟩
                case round =>
                  obtain ⟨j, hj, rfl, HAJ, HBJ⟩ := hrel
                  have hjk := HBJ.out.size
                  have HBW := Lib.hid (HBF.out.trans (HBJ.out.mono HBF.out.size))
                  obtain ⟨⟨p0, p1, p2, p3, p4⟩, k0, k2⟩ := HFC.out _ HBJ.out
                  by_cases hjl : j < k
                  · have hjL : j < L.length := by omega
                    have hgi := HFI.out _ HBW.out j hjL
                    have hgok := HOK.out _ (List.getElem_mem hjL)
                    have HNJ := Lib.hid (show rcl ⟨fn, fl, fc, ff, fe⟩ L[j] = true → false = r from fun h => HN1.out (fun g => by
                      have g := (HOF.out g).2.2 j hjl
                      rw [h] at g
                      cases g))
                    have HYJ := Lib.hid (show rcl ⟨fn, fl, fc, ff, fe⟩ L[j] = false → ∀ q (hq : q < j + 1) (hqL : q < L.length), rcl ⟨fn, fl, fc, ff, fe⟩ L[q] = false from fun h q hq hqL => by
                      by_cases e : q = j
                      · subst e; exact h
                      · exact HAJ.out q (by omega) hqL)
                    generalize L[j] = g at *
                    have HRC := Lib.hid (show rcl ⟨fn, fl, fc, ff, fe⟩ g = (decide (0 < fl) && (g.level == fl) && !sLt fe g.first && !sLt g.last ff) from rfl)
                    generalize rcl ⟨fn, fl, fc, ff, fe⟩ g = br at *
                    obtain ⟨gn, gl, gc, gf, ge⟩ := g
                    obtain ⟨m0, m1, m2, m3, m4⟩ := hgi
                    have gs1 := hgok.s1
                    have gs2 := hgok.s2
                    clear hgok
                    dsimp only at *
                    have hbb2 : bb < wr.heap.size := World.block_lt_of_cell? wr _ m0
                    obtain ⟨wg, hwg⟩ : ∃ wg, wr.alloc (.cells #[.int .i64 gn, .int .i64 gl, .int .i64 gc, .string gf, .string ge] 35) = wg := ⟨_, rfl⟩
                    have hbg : Below wr.heap.size wr wg := by rw [← hwg]; exact bl1 _ _
                    have hgg : wg.heap[wr.heap.size]? = some (.cells #[.int .i64 gn, .int .i64 gl, .int .i64 gc, .string gf, .string ge] 35 (0, 0)) := by rw [← hwg]; exact heap_alloc_new _ _
                    have hglt : wr.heap.size < wg.heap.size := heap_ltR hgg
                    have HGF := Lib.hid (HBJ.out.trans (hbg.mono HBJ.out.size))
                    have HGC := Lib.hid (show ∀ w', Below wg.heap.size wg w' → w'.cell? ⟨wr.heap.size, 1, none⟩ = some (.int .i64 gl) ∧ w'.cell? ⟨wr.heap.size, 3, none⟩ = some (.string gf) ∧ w'.cell? ⟨wr.heap.size, 4, none⟩ = some (.string ge) from fun w' X => by
                      have e := (X.block _ hglt).trans hgg
                      exact ⟨by simp [World.cell?, e], by simp [World.cell?, e], by simp [World.cell?, e]⟩)
                    have HWG := Lib.hid hwg
                    clear hwg hbg hgg
                    go_upto_region 17 with (fail)
                    rw [HWG.out]
                    clear m0 m1 m2 m3 m4 p0 p1 p2 p3 p4 k0 k2
                    obtain ⟨⟨p0, p1, p2, p3, p4⟩, k0, k2⟩ := HFC.out _ HGF.out
                    obtain ⟨m1, m3, m4⟩ := HGC.out wg (Below.refl _ _)
                    go_cut [163] (fun c wx => c = .bool br ∧ Hid (Below wf.heap.size wf wx))
                    case first =>
                      by_cases d1 : 0 < fl
                      rotate_left
                      · go_wp2_with fail
                        go_meet
                        exact ⟨ret_boolv (by rw [HRC.out, decide_eq_false (show ¬ 0 < fl by omega)]; rfl), HGF.out⟩
                      by_cases d2 : gl = fl
                      rotate_left
                      · have d3 : (gl == fl) = false := by simpa using d2
                        go_wp2_with fail
                        go_meet
                        exact ⟨ret_boolv (by rw [HRC.out, d3]; simp), HGF.out⟩
                      have d3 : (gl == fl) = true := by simpa using d2
                      have HD2 := Lib.hid d2
                      have HD3 := Lib.hid d3
                      clear d2
                      go_wp2_with fail
                      refine (less_any _ fe gf hs2 gs1).mono ?_
                      rintro e w2 ⟨rfl, hb2⟩
                      have HC2 := Lib.hid (HGF.out.trans (hb2.mono HGF.out.size))
                      have hgc2 := HGC.out w2 hb2
                      have HB2 := Lib.hid hb2
                      clear hb2 p0 p1 p2 p3 p4 k0 k2 m1 m3 m4
                      obtain ⟨⟨p0, p1, p2, p3, p4⟩, k0, k2⟩ := HFC.out w2 HC2.out
                      obtain ⟨m1, m3, m4⟩ := hgc2
                      generalize sLt fe gf = q1 at *
                      cases q1 with
                      | true =>
                        go_wp2_with fail
                        go_meet
                        exact ⟨ret_boolv (by rw [HRC.out]; simp), HC2.out⟩
                      | false =>
                        go_wp2_with fail
                        refine (less_any _ ge ff gs2 hs1).mono ?_
                        rintro e w3 ⟨rfl, hb3⟩
                        have HC3 := Lib.hid (HC2.out.trans (hb3.mono HC2.out.size))
                        clear hb3
                        generalize sLt ge ff = q2 at *
                        go_wp2_with fail
                        go_meet
                        exact ⟨ret_boolv (by rw [HRC.out, HD3.out, decide_eq_true d1]; rfl), HC3.out⟩
                    case rest =>
                      obtain ⟨rfl, HC17⟩ := hcut
                      cases br with
                      | true =>
                        have HF := Lib.hid (HNJ.out rfl)
                        go_wp2_with fail
                        go_ret
                        exact ⟨ret_bool HF.out, HEND.out _ HC17.out⟩
                      | false =>
                        have HF := Lib.hid (HYJ.out rfl)
                        go_wp2_with fail
                        exact ⟨⟨j + 1, by omega, by go_num, HF, HC17⟩, by simp [intOf]; omega⟩
                  · have HF := Lib.hid (HNEXT.out (HMK.out H7.out.1 H7.out.2.1 H7.out.2.2 H11.out (fun q hq => HAJ.out q (by omega) (by omega))))
                    go_wp2_with fail
                    exact ⟨⟨k + 1, by omega, by go_num, HF, HBW⟩, by simp [intOf]; omega⟩
end Go.Proofs.YtiiafpbonkcokaaGreat
