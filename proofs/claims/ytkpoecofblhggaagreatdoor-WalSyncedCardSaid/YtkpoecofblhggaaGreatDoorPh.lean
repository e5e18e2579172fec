/-
  'WalSynced' (printed by mkPh.py).
-/
import Derived.Test.YtkpoecofblhggaaGreatDoorPg
import Derived.Maps.AppendAt
import Derived.Deep.QuietTactic
namespace Go.Proofs.YtkpoecofblhggaaGreatDoor
open Go.RowKit Go.Maps

def bsL : ByteArray := ⟨#[108, 111, 103]⟩
def bsN : ByteArray := ⟨#[110, 101, 120, 116]⟩
/-- the loop's state ahead of body k -/
structure WsI (w : World) (b db m B : Nat) (S : Nat → ByteArray) (at_ : Int) (k : Nat) (vs vp : Value) (wr : World) : Prop where
  ex : ∃ P sure L p f sb ob, vs = .int .i64 (sure : Nat) ∧ PutsAt wr B vp P ∧ LW w wr b sb ob db m (DU (fsL bsL L p) f) (xOf bsL P L p) ∧ Live bsL P sure L p ∧ 0 ≤ f ∧ (f = 0 ∨ at_ < k) ∧ P.length ≤ k ∧ flen P ≤ 8 * k + totTo S k
set_option maxRecDepth 100000 in
set_option maxHeartbeats 8000000 in
theorem walSynced_any (w : World) (la : Option Addr) (ln lc : Nat) (S : Nat → ByteArray) (hla : 0 < ln → ∃ lb lo, la = some ⟨lb, lo, none⟩ ∧ lb < w.heap.size ∧ ∀ i, i < ln → w.cell? ⟨lb, lo + i, none⟩ = some (.string (S i))) (hS : ∀ i, i < ln → (S i).size ≤ maxLen) (hln : ln ≤ 9223372036854775807)
    (at_ fuse : Int) (hfu : fuse ≤ 9223372036854775807) (ka : Option Addr) (kn kc : Nat) (ks : List Int) (hkl : ks.length = kn) (hkn : kn ≤ 9223372036854775807) (hk : 0 < kn → ∃ kb ko, ka = some ⟨kb, ko, none⟩ ∧ kb < w.heap.size ∧ ∀ i, i < kn → w.cell? ⟨kb, ko + i, none⟩ = some (.int .i64 (ks.getD i 0))) :
    Calls Tryz.prog 3 #[.slice la ln lc, .int .i64 at_, .int .i64 fuse, .slice ka kn kc] w fun e w' => e = .returned (.bool true) ∧ Below w.heap.size w w' := by
  have HLA := Lib.hid hla
  have HSZ := Lib.hid hS
  have HK := Lib.hid hk
  have HFU := Lib.hid hfu
  have HKL := Lib.hid hkl
  clear hla hS hk hkl hfu
  go_enter Tryz.func3, Tryz.ntmps3
  go_wp2_with fail
  refine (awake_any _).mono ?_
  rintro e w0 ⟨rfl, hb0⟩
  have HB0 := Lib.hid hb0
  clear hb0
  go_wp2_with fail
  go_loop [9, 10] (fun n i => ∃ k z : Nat, k ≤ ln ∧ k ≤ 41 ∧ i = .int .i64 k ∧ n = .int .i64 z ∧ Hid (z = sumTo S k) ∧ z ≤ k * 100001) (fun _ i => 42 - (intOf i).toNat)
  case atStart => exact ⟨0, 0, Nat.zero_le _, by omega, rfl, rfl, rfl, by omega⟩
  case round =>
    obtain ⟨k, z, hkn1, hk41, rfl, rfl, HZ, hz⟩ := hrel
    by_cases hlt : k < ln ∧ k ≤ 40
    · obtain ⟨hlt, h40⟩ := hlt
      obtain ⟨lb, lo, rfl, hlb, hcl⟩ := HLA.out (by omega)
      have hcell : w0.cell? ⟨lb, lo + k, none⟩ = some (.string (S k)) := (HB0.out.cell (p := ⟨lb, lo + k, none⟩) hlb).trans (hcl k hlt)
      have HST := Lib.hid (show sumTo S (k + 1) = z + min (S k).size 100001 by rw [sumTo, HZ.out])
      clear hcl
      generalize S k = sk at *
      go_wp2_with fail
      refine ⟨⟨k + 1, z + min sk.size 100001, by omega, by omega, by go_num, ?_, HST.out.symm, by omega⟩, by simp [intOf]; omega⟩
      congr 1; omega
    · have hlt' : ¬ (k < ln) ∨ ¬ (k ≤ 40) := by omega
      clear hlt
      by_cases h40 : 40 < ln
      · by_cases hq : k < ln
        · have hq2 : ¬ k ≤ 40 := by omega
          go_wp2_with fail
          go_ret
          exact ⟨rfl, HB0.out⟩
        · go_wp2_with fail
          go_ret
          exact ⟨rfl, HB0.out⟩
      · have hkq : k = ln := by omega
        subst hkq
        clear hlt'
        by_cases hz1 : 100000 < z
        · go_wp2_with fail
          go_ret
          exact ⟨rfl, HB0.out⟩
        by_cases hk1 : 1000 < kn
        · go_wp2_with fail
          go_ret
          exact ⟨rfl, HB0.out⟩
        have HTOT := Lib.hid (show ∀ j, j ≤ k → totTo S j ≤ 100000 from fun j hj => by
          have h1 := HZ.out
          have h2 := tot_sum (S := S) k (by omega)
          have h3 := tot_mono (S := S) k hj
          omega)
        have HNEW := Lib.hid (fun (V : World) (h : Below w0.heap.size w0 V) => (In.new (w0 := w) (HB0.out.trans (h.mono HB0.out.size))))
        go_wp2_with fail
        refine (HNEW.out _ (Below.refl _ _)).mono ?_
        rintro e w1 ⟨rfl, h1⟩
        have H2 := Lib.hid (h1.openL (log := bsL) (by decide) (by decide))
        clear h1
        go_wp2_with fail
        refine H2.out.mono ?_
        rintro e w2 ⟨b, sb, ob, ra, rc, rfl, h2⟩
        obtain ⟨i0, hi, hz0, hz1', hz2⟩ := info_parts info_str
        obtain ⟨B, hBe⟩ : ∃ B, B = max b (w0.heap.size + 1) + 1 := ⟨_, rfl⟩
        have HWB := Lib.hid (show w.heap.size ≤ B by have := h2.lb; omega)
        have HB := Lib.hid (show b < B ∧ (w0.heap.size + 1) < B ∧ w0.heap.size < B by omega)
        have HBZ := Lib.hid (show ∀ V : World, b < V.heap.size → w0.heap.size + 1 < V.heap.size → B ≤ V.heap.size from fun V h1 h2 => by omega)
        clear hBe
        have HI0 := Lib.hid (show WsI w b (w0.heap.size + 1) w0.heap.size B S at_ 0 (.int .i64 0) (.slice none 0 0) w2 from ⟨[], 0, [], fresh 1, 0, sb, ob, rfl, World.ownsRow_nil _ _ _ _, h2, live_new, Int.le_refl _, .inl rfl, Nat.le_refl _, Nat.le_refl _⟩)
        clear h2
        go_wp2_with fail
        go_loopw [15, 16, 17, 18, 19] (fun vs vp vi _ _ wr => ∃ j : Nat, j ≤ k ∧ vi = .int .i64 j ∧ Hid (WsI w b (w0.heap.size + 1) w0.heap.size B S at_ j vs vp wr)) (fun _ _ vi _ _ _ => k - (intOf vi).toNat)
        case atStart => exact ⟨0, Nat.zero_le _, rfl, HI0⟩
        case round =>
          clear HI0
          obtain ⟨j, hj, rfl, HI⟩ := hrel
          obtain ⟨P, sure, L, p, f, sb, ob, rfl, hput, hlw, hlive, hf0, hfat, hPl, hPf⟩ := HI.out.ex
          have HLIVE := Lib.hid hlive
          have HLW := Lib.hid hlw
          have HPUT := Lib.hid hput
          have HTJ := Lib.hid (HTOT.out j hj)
          have hsP := hlive.count
          obtain ⟨va, vc, rfl⟩ := own_slice hput
          clear hlive hlw hput HI
          by_cases hlt : j < k
          · obtain ⟨lb, lo, rfl, hlb, hcl⟩ := HLA.out (by omega)
            have hcell0 : w.cell? ⟨lb, lo + j, none⟩ = some (.string (S j)) := hcl j hlt
            have hcell : wr.cell? ⟨lb, lo + j, none⟩ = some (.string (S j)) := (HLW.out.bel.cell (p := ⟨lb, lo + j, none⟩) hlb).trans hcell0
            have HCL := Lib.hid (show ∀ V, Below w.heap.size w V → V.cell? ⟨lb, lo + j, none⟩ = some (.string (S j)) from fun V h => (h.cell (p := ⟨lb, lo + j, none⟩) hlb).trans hcell0)
            have HTS := Lib.hid (show totTo S (j + 1) = totTo S j + (S j).size from rfl)
            have HSJ := Lib.hid (HSZ.out j hlt)
            have HT1 := Lib.hid (HTOT.out (j + 1) hlt)
            clear hcl hcell0
            generalize S j = s at *
            by_cases hbig : 65536 < s.size
            · have HC := Lib.hid (HLW.out.longL HB.out HSJ.out hbig)
              go_wp2_with fail
              refine HC.out.mono ?_
              rintro e w3 ⟨rfl, hp3, sb3, ob3, h3⟩
              have hcell3 := HCL.out _ h3.bel
              have HI3 := Lib.hid (show WsI w b (w0.heap.size + 1) w0.heap.size B S at_ (j + 1) (.int .i64 (sure : Nat)) (.slice va P.length vc) w3 from ⟨P, sure, L, p, f, sb3, ob3, rfl, hp3 _ _ HPUT.out, h3, HLIVE.out, hf0, hfat.imp id (fun h => by omega), by omega, by rw [HTS.out]; omega⟩)
              clear h3 hp3
              go_wp2_with fail
              go_roundw
              case rel => exact ⟨j + 1, by omega, by go_num, HI3⟩
              case measure => simp [intOf]; omega
            · have hsm : s.size ≤ 65536 := by omega
              have HC := Lib.hid (HLW.out.appendL HLIVE.out HB.out (by decide) (by decide) hf0 hsm (by rw [frame_size]; have := HTJ.out; have := HT1.out; rw [HTS.out] at this; omega) (by omega))
              go_wp2_with fail
              refine HC.out.mono ?_
              rintro e w3 ⟨hp3, (⟨rfl, hok3⟩ | ⟨rfl, hno3⟩)⟩
              · obtain ⟨L3, p3, f3, sb3, ob3, h3, hl3, hf3, hf30⟩ := hok3
                have hcell3 := HCL.out _ h3.bel
                have H3 := Lib.hid h3
                have HL3 := Lib.hid hl3
                have HP3 := Lib.hid (hp3 _ _ HPUT.out)
                clear h3 hl3 hp3
                have H9 := Lib.hid (show ∀ v' w5, w5.ownsRow B 9 1 v' (P.length + 1) (P.map Value.string ++ [.string s]) → (w3.alloc (.cells #[.string s] 9)).grownBy w5 (Value.slice va P.length vc).ownBlock → PutsAt w5 B v' (P ++ [s]) ∧ LW w w5 b sb3 ob3 (w0.heap.size + 1) w0.heap.size (DU (fsL bsL L3 p3) f3) (xOf bsL (P ++ [s]) L3 p3) from fun v' w5 ho hg => by
                  refine ⟨?_, (H3.out.quiet (bl1 w3 _)).grown HB.out HWB.out (World.ownsRow.alloc HP3.out _) hg⟩
                  unfold PutsAt
                  rw [List.length_append, List.map_append]
                  exact ho)
                have hPk : P.length ≤ 40 := by omega
                have hzB : B ≤ w3.heap.size := HBZ.out _ H3.out.wd.wal.lt.1 H3.out.wd.dat.lt
                have HFL := Lib.hid (show flen (P ++ [s]) ≤ 8 * (j + 1) + totTo S (j + 1) from by rw [flen_snoc, HTS.out]; omega)
                by_cases hat : (j : Int) = at_
                · have hat1 : ((j : Int) == at_) = true := by simpa using hat
                  have hf0' : f3 = 0 := hf30 (by rcases hfat with h | h; exact h; omega)
                  subst hf0'
                  have HAT := Lib.hid (show at_ < ((j + 1 : Nat) : Int) by omega)
                  clear hat
                  go_wp2_with (at_builtin; refine wpList_append_own_at _ rfl _ _ 22 rfl B 9 i0 (.string ⟨#[]⟩) 1 16 Tryz.underlying22 hi hz0 hz1' hz2 rfl (by decide) _ _ _ rfl (World.ownsRow.alloc HP3.out _) ⟨w3.heap.size, 0, none⟩ 1 1 [.string s] rfl rfl (World.news_of_block (heap_alloc_new w3 _)) (by simp [Value.oneCell']) (by unfold maxLen; omega) (by omega) (by simp; omega) ?_; intro v5 w5 ho5 hg5 _ _; obtain ⟨h51, h52⟩ := H9.out v5 w5 ho5 hg5; obtain ⟨qa, qc, rfl⟩ := own_slice ho5)
                  have H5 := Lib.hid (h52.syncL HL3.out HB.out (by decide))
                  have HP5 := Lib.hid h51
                  clear h51 h52 ho5 hg5
                  go_wp2_with fail
                  refine H5.out.mono ?_
                  rintro e w6 ⟨rfl, hp6, sb6, ob6, h6, hl6⟩
                  have H6 := Lib.hid (h6.fuseL HB.out fuse HFU.out)
                  have HL6 := Lib.hid hl6
                  have HP6 := Lib.hid (hp6 _ _ HP5.out)
                  clear h6 hl6 hp6
                  go_wp2_with fail
                  refine H6.out.mono ?_
                  rintro e w7 ⟨rfl, hp7, h7⟩
                  have HI7 := Lib.hid (show WsI w b (w0.heap.size + 1) w0.heap.size B S at_ (j + 1) (.int .i64 ((P ++ [s]).length : Nat)) (.slice qa (P ++ [s]).length qc) w7 from ⟨P ++ [s], (P ++ [s]).length, L3, synced p3, max fuse 0, sb6, ob6, rfl, by rw [List.length_append]; exact hp7 _ _ HP6.out, h7, HL6.out, by omega, .inr HAT.out, by rw [List.length_append]; simp; omega, HFL.out⟩)
                  clear h7 hp7
                  rw [List.length_append] at HI7
                  go_wp2_with fail
                  go_roundw
                  case rel => exact ⟨j + 1, by omega, by go_num, HI7⟩
                  case measure => simp [intOf]; omega
                · have hat1 : ((j : Int) == at_) = false := by simpa using hat
                  go_wp2_with (at_builtin; refine wpList_append_own_at _ rfl _ _ 22 rfl B 9 i0 (.string ⟨#[]⟩) 1 16 Tryz.underlying22 hi hz0 hz1' hz2 rfl (by decide) _ _ _ rfl (World.ownsRow.alloc HP3.out _) ⟨w3.heap.size, 0, none⟩ 1 1 [.string s] rfl rfl (World.news_of_block (heap_alloc_new w3 _)) (by simp [Value.oneCell']) (by unfold maxLen; omega) (by omega) (by simp; omega) ?_; intro v5 w5 ho5 hg5 _ _; obtain ⟨h51, h52⟩ := H9.out v5 w5 ho5 hg5; obtain ⟨qa, qc, rfl⟩ := own_slice ho5)
                  have HI7 := Lib.hid (show WsI w b (w0.heap.size + 1) w0.heap.size B S at_ (j + 1) (.int .i64 (sure : Nat)) (.slice qa (P ++ [s]).length qc) w5 from ⟨P ++ [s], sure, L3, p3, f3, sb3, ob3, rfl, by rw [List.length_append]; exact h51, h52, HL3.out, hf3, (hfat.imp hf30 (fun h => by omega)), by rw [List.length_append]; simp; omega, HFL.out⟩)
                  clear h51 h52 ho5 hg5
                  rw [List.length_append] at HI7
                  go_wp2_with fail
                  go_roundw
                  case rel => exact ⟨j + 1, by omega, by go_num, HI7⟩
                  case measure => simp [intOf]; omega
              · obtain ⟨L3, p3, P3, x3, sb3, ob3, h3, hl3, hP3⟩ := hno3
                have hcell3 := HCL.out _ h3.bel
                have H3 := Lib.hid h3
                have HL3 := Lib.hid hl3
                have HP3 := Lib.hid (hp3 _ _ HPUT.out)
                have HPQ := Lib.hid (show P3 <+: P ++ [s] from by rcases hP3 with rfl | rfl; exact List.prefix_append _ _; exact List.prefix_refl _)
                clear h3 hl3 hp3 hP3
                have H9 := Lib.hid (show ∀ v' w5, w5.ownsRow B 9 1 v' (P.length + 1) (P.map Value.string ++ [.string s]) → (w3.alloc (.cells #[.string s] 9)).grownBy w5 (Value.slice va P.length vc).ownBlock → PutsAt w5 B v' (P ++ [s]) ∧ LW w w5 b sb3 ob3 (w0.heap.size + 1) w0.heap.size (DW (fsL bsL L3 p3)) x3 from fun v' w5 ho hg => by
                  refine ⟨?_, (H3.out.quiet (bl1 w3 _)).grown HB.out HWB.out (World.ownsRow.alloc HP3.out _) hg⟩
                  unfold PutsAt
                  rw [List.length_append, List.map_append]
                  exact ho)
                have hPk : P.length ≤ 40 := by omega
                have hzB : B ≤ w3.heap.size := HBZ.out _ H3.out.wd.wal.lt.1 H3.out.wd.dat.lt
                have HFL := Lib.hid (show flen (P ++ [s]) ≤ 200000 from by rw [flen_snoc]; have := HT1.out; rw [HTS.out] at this; omega)
                have HDN := Lib.hid (show Calls Tryz.prog 11 #[.pointer (some ⟨w0.heap.size + 1, 0, none⟩)] w3 fun e w' => e = .returned (.bool true) ∧ w3 = w' from down_any w3 _ _ _ H3.out.wd.dat)
                go_wp2_with fail
                refine HDN.out.mono ?_
                rintro e w4 ⟨rfl, rfl⟩
                go_wp2_with (at_builtin; refine wpList_append_own_at _ rfl _ _ 22 rfl B 9 i0 (.string ⟨#[]⟩) 1 16 Tryz.underlying22 hi hz0 hz1' hz2 rfl (by decide) _ _ _ rfl (World.ownsRow.alloc HP3.out _) ⟨w3.heap.size, 0, none⟩ 1 1 [.string s] rfl rfl (World.news_of_block (heap_alloc_new w3 _)) (by simp [Value.oneCell']) (by unfold maxLen; omega) (by omega) (by simp; omega) ?_; intro v5 w5 ho5 hg5 _ _; obtain ⟨h51, h52⟩ := H9.out v5 w5 ho5 hg5; obtain ⟨qa, qc, rfl⟩ := own_slice ho5)
                have HIN := Lib.hid h52.inn
                have HDD := Lib.hid (show DW (fsL bsL L3 p3) = DU (fsL bsL L3 p3) 0 ∨ DW (fsL bsL L3 p3) = DW (fsL bsL L3 p3) from .inr rfl)
                have HPT := Lib.hid h51
                have hQl : (P ++ [s]).length = P.length + 1 := by rw [List.length_append]; rfl
                rw [← hQl]
                have hQ41 : (P ++ [s]).length ≤ 41 := by omega
                clear h51 h52 ho5 hg5 H9
                generalize P ++ [s] = Q at *
                clear hQl
                have hkn2 : kn ≤ 1000 := by omega
                have HKC := Lib.hid (show 0 < kn → ∃ kb ko, ka = some ⟨kb, ko, none⟩ ∧ kb ≠ w0.heap.size + 1 ∧ ∀ i, i < kn → w5.cell? ⟨kb, ko + i, none⟩ = some (.int .i64 (ks.getD i 0)) from fun h0 => by
                  obtain ⟨kb, ko, e, hlt2, hc⟩ := HK.out h0
                  have := HB0.out.size
                  exact ⟨kb, ko, e, by omega, fun i hi => (HIN.out.bel.cell (p := ⟨kb, ko + i, none⟩) hlt2).trans (hc i hi)⟩)
                have hf3 := flen_prefix HPQ.out
                have hl3' := HPQ.out.length_le
                have hF3 := HFL.out
                have H4 := Lib.hid (HIN.out.crashL (F := []) (log := bsL) (L := L3) (p := p3) (f := 0) HDD.out HL3.out (by omega) ⟨HB.out.2.1, HB.out.2.2⟩ ka kn kc ks HKL.out (by omega) HKC.out)
                clear hf3 hl3' hF3
                go_wp2_with fail
                refine H4.out.mono ?_
                rintro e w4' ⟨rfl, hp4, A, q, hi4, hst4, hA4, hs4⟩
                have hAQ : A <+: Q := hA4.trans HPQ.out
                have hAl := hAQ.length_le
                have HAP := Lib.hid hAQ
                have HFA := Lib.hid (show flen A ≤ 200000 from by have := flen_prefix hAQ; have := HFL.out; omega)
                have HP4 := Lib.hid (hp4 _ _ HPT.out)
                have HST4 := Lib.hid hst4
                have H5 := Lib.hid (hi4.startP (B := B) hst4 ⟨HB.out.2.1, HB.out.2.2⟩)
                clear hp4 hi4 hst4 hA4 hAQ H4 HKC HPT HIN HDD
                go_wp2_with fail
                refine H5.out.mono ?_
                rintro e w5' ⟨rfl, hp5, hi5, _⟩
                have HP5 := Lib.hid (hp5 _ _ HP4.out)
                have H6 := Lib.hid (hi5.reopen HST4.out (by decide) (by decide) (by omega) (B := B) ⟨HB.out.2.1, HB.out.2.2⟩)
                clear hp5 hi5 H5 HP4
                go_wp2_with fail
                refine H6.out.mono ?_
                rintro e w6' ⟨hp6, b6, sb6, ob6, a6, c6, L6, p6, rfl, h6, hst6, ht6, hr6, _⟩
                have HP6 := Lib.hid (hp6 _ _ HP5.out)
                have HL6' := Lib.hid h6
                have HR6 := Lib.hid hr6
                have HST6 := Lib.hid hst6
                have HT6 := Lib.hid ht6
                clear hp6 h6 hst6 ht6 hr6 H6 HP5 HST4
                have hd1 : decide (A.length < sure) = false := by rw [decide_eq_false_iff_not]; omega
                have hd2 : decide (Q.length < A.length) = false := by rw [decide_eq_false_iff_not]; omega
                have hd3 : ¬ ((A.length : Int) < (sure : Nat)) := by omega
                have hd4 : ¬ ((Q.length : Int) < A.length) := by omega
                go_wp2_with fail
                go_loopw [22] (fun vi wz => ∃ i : Nat, i ≤ A.length ∧ vi = .int .i64 i ∧ Hid (Below w6'.heap.size w6' wz)) (fun vi _ => A.length - (intOf vi).toNat)
                case atStart => exact ⟨0, Nat.zero_le _, rfl, Below.refl _ _⟩
                case round =>
                  obtain ⟨i, hi3, rfl, HBL⟩ := hrel
                  by_cases hlt3 : i < A.length
                  · obtain ⟨g6, cap6, hv6, hc6, hc6', hg6, hN6, hB6⟩ := (HR6.out.below HBL.out).cells (k := i) (by rw [numb_len]; exact hlt3)
                    rw [numb_at 1 hlt3] at hN6 hB6
                    rw [numb_len] at hv6 hc6
                    injection hv6 with hv6 _ hv7
                    subst hv6 hv7
                    obtain ⟨g7, cap7, hv8, hc8, hc8', hg8, hB8⟩ := (HP6.out.below HBL.out).cell (k := i) (by omega)
                    injection hv8 with hv8 _ hv9
                    subst hv8 hv9
                    have HEQ : A[i] = Q[i]'(by omega) := by
                      obtain ⟨r, hr⟩ := HAP.out
                      have : (A ++ r)[i]'(by rw [List.length_append]; omega) = A[i] := List.getElem_append_left hlt3
                      rw [← this]; congr 1
                    rw [← HEQ] at hB8
                    have hN6' : wr.cell? ⟨g6, i * 2, none⟩ = some (.int .i64 ((i : Int) + 1)) := by rw [hN6]; congr 2; simp; omega
                    clear hN6 HEQ
                    generalize A[i] = y at *
                    have hyy : (y.toList == y.toList) = true := by simp
                    have hyn : (! (y.toList == y.toList)) = false := by simp
                    have hii : ((i : Int) + 1 != (i : Int) + 1) = false := by simp
                    go_wp2_with fail
                    go_quiet (fail)
                    go_wp2_with fail
                    go_roundw
                    case rel => exact ⟨i + 1, by omega, by go_num, Lib.hid (below_drewN' HBL.out _)⟩
                    case measure => simp [intOf]; omega
                  · have hie : i = A.length := by omega
                    subst hie
                    clear hlt3 hi3
                    have HLQ := Lib.hid (HL6'.out.quiet HBL.out)
                    have H7 := Lib.hid (HLQ.out.inn.crashS (B := B) HST6.out ⟨HB.out.2.1, HB.out.2.2⟩)
                    go_wp2_with fail
                    refine H7.out.mono ?_
                    rintro e w7' ⟨rfl, hi7⟩
                    have H8 := Lib.hid (hi7.startP (B := B) HST6.out ⟨HB.out.2.1, HB.out.2.2⟩)
                    clear hi7 H7
                    go_wp2_with fail
                    refine H8.out.mono ?_
                    rintro e w8' ⟨rfl, _, hi8, _⟩
                    have H9' := Lib.hid (hi8.reopen HST6.out (by decide) (by decide) (by omega) (B := B) ⟨HB.out.2.1, HB.out.2.2⟩)
                    clear hi8 H8
                    go_wp2_with fail
                    refine H9'.out.mono ?_
                    rintro e w9' ⟨_, b9, sb9, ob9, a9, c9, L9, p9, rfl, h9, hst9, ht9, _, _⟩
                    have H10 := Lib.hid (h9.last (n := A.length) rfl)
                    have H11 := Lib.hid (h9.appendSt hst9 ht9 (s := bsN) (by decide) (by decide) (by decide) (by have := HFA.out; omega) (by omega))
                    clear h9 hst9 ht9 H9'
                    go_wp2_with fail
                    refine H10.out.mono ?_
                    rintro e w10' ⟨rfl, rfl⟩
                    go_wp2_with fail
                    refine H11.out.mono ?_
                    rintro e w11' ⟨rfl, hb11⟩
                    have HBW := Lib.hid hb11
                    clear hb11
                    go_wp2_with fail
                    go_ret
                    exact ⟨rfl, HBW.out⟩
          · have HIN := Lib.hid HLW.out.inn
            have HDD := Lib.hid True.intro
            have HPT := Lib.hid HPUT.out
            have HPQ := Lib.hid (List.prefix_refl P)
            have HL3 := HLIVE
            have hQ41 : P.length ≤ 41 := by omega
            have HFL := Lib.hid (show flen P ≤ 200000 from by have := HTJ.out; omega)
            go_wp2_with fail
            have hkn2 : kn ≤ 1000 := by omega
            have HKC := Lib.hid (show 0 < kn → ∃ kb ko, ka = some ⟨kb, ko, none⟩ ∧ kb ≠ w0.heap.size + 1 ∧ ∀ i, i < kn → wr.cell? ⟨kb, ko + i, none⟩ = some (.int .i64 (ks.getD i 0)) from fun h0 => by
              obtain ⟨kb, ko, e, hlt2, hc⟩ := HK.out h0
              have := HB0.out.size
              exact ⟨kb, ko, e, by omega, fun i hi => (HIN.out.bel.cell (p := ⟨kb, ko + i, none⟩) hlt2).trans (hc i hi)⟩)
            have hf3 := flen_prefix HPQ.out
            have hl3' := HPQ.out.length_le
            have hF3 := HFL.out
            have H4 := Lib.hid (HIN.out.crashL (F := []) (log := bsL) (L := L) (p := p) (f := f) (.inl rfl) HL3.out (by omega) ⟨HB.out.2.1, HB.out.2.2⟩ ka kn kc ks HKL.out (by omega) HKC.out)
            clear hf3 hl3' hF3
            skip
            refine H4.out.mono ?_
            rintro e w4' ⟨rfl, hp4, A, q, hi4, hst4, hA4, hs4⟩
            have hAQ : A <+: P := hA4.trans HPQ.out
            have hAl := hAQ.length_le
            have HAP := Lib.hid hAQ
            have HFA := Lib.hid (show flen A ≤ 200000 from by have := flen_prefix hAQ; have := HFL.out; omega)
            have HP4 := Lib.hid (hp4 _ _ HPT.out)
            have HST4 := Lib.hid hst4
            have H5 := Lib.hid (hi4.startP (B := B) hst4 ⟨HB.out.2.1, HB.out.2.2⟩)
            clear hp4 hi4 hst4 hA4 hAQ H4 HKC HPT HIN HDD
            go_wp2_with fail
            refine H5.out.mono ?_
            rintro e w5' ⟨rfl, hp5, hi5, _⟩
            have HP5 := Lib.hid (hp5 _ _ HP4.out)
            have H6 := Lib.hid (hi5.reopen HST4.out (by decide) (by decide) (by omega) (B := B) ⟨HB.out.2.1, HB.out.2.2⟩)
            clear hp5 hi5 H5 HP4
            go_wp2_with fail
            refine H6.out.mono ?_
            rintro e w6' ⟨hp6, b6, sb6, ob6, a6, c6, L6, p6, rfl, h6, hst6, ht6, hr6, _⟩
            have HP6 := Lib.hid (hp6 _ _ HP5.out)
            have HL6' := Lib.hid h6
            have HR6 := Lib.hid hr6
            have HST6 := Lib.hid hst6
            have HT6 := Lib.hid ht6
            clear hp6 h6 hst6 ht6 hr6 H6 HP5 HST4
            have hd1 : decide (A.length < sure) = false := by rw [decide_eq_false_iff_not]; omega
            have hd2 : decide (P.length < A.length) = false := by rw [decide_eq_false_iff_not]; omega
            have hd3 : ¬ ((A.length : Int) < (sure : Nat)) := by omega
            have hd4 : ¬ ((P.length : Int) < A.length) := by omega
            go_wp2_with fail
            go_loopw [22] (fun vi wz => ∃ i : Nat, i ≤ A.length ∧ vi = .int .i64 i ∧ Hid (Below w6'.heap.size w6' wz)) (fun vi _ => A.length - (intOf vi).toNat)
            case atStart => exact ⟨0, Nat.zero_le _, rfl, Below.refl _ _⟩
            case round =>
              obtain ⟨i, hi3, rfl, HBL⟩ := hrel
              by_cases hlt3 : i < A.length
              · obtain ⟨g6, cap6, hv6, hc6, hc6', hg6, hN6, hB6⟩ := (HR6.out.below HBL.out).cells (k := i) (by rw [numb_len]; exact hlt3)
                rw [numb_at 1 hlt3] at hN6 hB6
                rw [numb_len] at hv6 hc6
                injection hv6 with hv6 _ hv7
                subst hv6 hv7
                obtain ⟨g7, cap7, hv8, hc8, hc8', hg8, hB8⟩ := (HP6.out.below HBL.out).cell (k := i) (by omega)
                injection hv8 with hv8 _ hv9
                subst hv8 hv9
                have HEQ : A[i] = P[i]'(by omega) := by
                  obtain ⟨r, hr⟩ := HAP.out
                  have : (A ++ r)[i]'(by rw [List.length_append]; omega) = A[i] := List.getElem_append_left hlt3
                  rw [← this]; congr 1
                rw [← HEQ] at hB8
                have hN6' : wr.cell? ⟨g6, i * 2, none⟩ = some (.int .i64 ((i : Int) + 1)) := by rw [hN6]; congr 2; simp; omega
                clear hN6 HEQ
                generalize A[i] = y at *
                have hyy : (y.toList == y.toList) = true := by simp
                have hyn : (! (y.toList == y.toList)) = false := by simp
                have hii : ((i : Int) + 1 != (i : Int) + 1) = false := by simp
                go_wp2_with fail
                go_quiet (fail)
                go_wp2_with fail
                go_roundw
                case rel => exact ⟨i + 1, by omega, by go_num, Lib.hid (below_drewN' HBL.out _)⟩
                case measure => simp [intOf]; omega
              · have hie : i = A.length := by omega
                subst hie
                clear hlt3 hi3
                have HLQ := Lib.hid (HL6'.out.quiet HBL.out)
                have H7 := Lib.hid (HLQ.out.inn.crashS (B := B) HST6.out ⟨HB.out.2.1, HB.out.2.2⟩)
                go_wp2_with fail
                refine H7.out.mono ?_
                rintro e w7' ⟨rfl, hi7⟩
                have H8 := Lib.hid (hi7.startP (B := B) HST6.out ⟨HB.out.2.1, HB.out.2.2⟩)
                clear hi7 H7
                go_wp2_with fail
                refine H8.out.mono ?_
                rintro e w8' ⟨rfl, _, hi8, _⟩
                have H9' := Lib.hid (hi8.reopen HST6.out (by decide) (by decide) (by omega) (B := B) ⟨HB.out.2.1, HB.out.2.2⟩)
                clear hi8 H8
                go_wp2_with fail
                refine H9'.out.mono ?_
                rintro e w9' ⟨_, b9, sb9, ob9, a9, c9, L9, p9, rfl, h9, hst9, ht9, _, _⟩
                have H10 := Lib.hid (h9.last (n := A.length) rfl)
                have H11 := Lib.hid (h9.appendSt hst9 ht9 (s := bsN) (by decide) (by decide) (by decide) (by have := HFA.out; omega) (by omega))
                clear h9 hst9 ht9 H9'
                go_wp2_with fail
                refine H10.out.mono ?_
                rintro e w10' ⟨rfl, rfl⟩
                go_wp2_with fail
                refine H11.out.mono ?_
                rintro e w11' ⟨rfl, hb11⟩
                have HBW := Lib.hid hb11
                clear hb11
                go_wp2_with fail
                go_ret
                exact ⟨rfl, HBW.out⟩
end Go.Proofs.YtkpoecofblhggaaGreatDoor
