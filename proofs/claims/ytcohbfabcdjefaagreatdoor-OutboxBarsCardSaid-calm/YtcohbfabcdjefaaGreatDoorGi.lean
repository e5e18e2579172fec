/-
  redresslaw19.OutboxBars.
-/
import Derived.Test.YtcohbfabcdjefaaGreatDoorGh
namespace Go.Proofs.YtcohbfabcdjefaaGreatDoor
open Go.RowKit Go.Maps

def f0 : Nat → Value := fun i => if i < 8 then .slice none 0 0 else if i < 16 then .int .u64 0 else .slice none 0 0
theorem f0_shape : BxS f0 := ⟨fun i hi => ⟨none, 0, 0, by unfold f0; rw [if_pos hi]⟩, fun i hi => ⟨0, by unfold f0; rw [if_neg (by omega), if_pos (by omega)]⟩, none, 0, 0, rfl⟩
theorem inv_start {A B tb db : Nat} {w : World} (q : Int) (hd : DbB A B w tb db [] 0) : Inv A B tb db w.heap.size q 0 (w.alloc (.cells (bxA f0) 35)) f0 := by
  obtain ⟨l, n, z, h, _⟩ := id hd
  obtain ⟨h1, h2, h3, h4⟩ := h.lt
  refine ⟨heap_alloc_new w _, f0_shape, h2, by omega, fun hq => ?_⟩
  obtain ⟨Q, e, hQ⟩ := vq_nat hq
  refine ⟨Q, e, hQ, by omega, by omega, ⟨[], hd.below (bl1 w _), Had.zero Q⟩, ?_, ?_, ?_⟩
  · unfold f0; rw [if_neg (by omega), if_pos (by omega)]; rfl
  · unfold f0; rw [if_pos hQ]; exact Rw.nil _
  · unfold f0; rw [if_pos hQ]; intro g a c e; cases e
set_option maxRecDepth 100000 in
set_option maxHeartbeats 2000000 in
theorem law_any (w : World) (q now : Int) (t : Nat) (ht : t < 256) (txt : ByteArray) (hs : txt.size ≤ 20000) :
    Calls Tryz.prog 3 #[.int .i64 q, .string txt, .int .i64 now, .int .u8 t] w fun e w' => e = .returned (.bool true) ∧ Below w.heap.size w w' := by
  go_enter Tryz.func3, Tryz.ntmps3
  go_wp2_with fail
  refine (awake_any w).mono ?_
  rintro e w0 ⟨rfl, hb0⟩
  have HB0 := Lib.hid hb0
  clear hb0
  go_wp2_with fail
  refine (new_any w0).mono ?_
  rintro e w1 ⟨rfl, hd1, hb1⟩
  have HO := Lib.hid (topen_fresh w0.heap.size w1 (w0.heap.size + 1) w0.heap.size hd1 ⟨by omega, Nat.le_refl _⟩)
  have HB1 := Lib.hid (HB0.out.trans (hb1.mono HB0.out.size))
  have h0 := HB0.out.size
  obtain ⟨db, hdb⟩ : ∃ db, db = w0.heap.size + 1 := ⟨_, rfl⟩
  obtain ⟨A, hA⟩ : ∃ A, A = w0.heap.size := ⟨_, rfl⟩
  rw [← hdb, ← hA] at HO
  rw [← hdb]
  have HA := Lib.hid (show w.heap.size ≤ A by omega)
  clear hd1 hb1 hdb hA h0
  go_wp2_with fail
  refine HO.out.mono ?_
  rintro e w2 ⟨tb, rfl, hdb2, hb2, _⟩
  have HD := Lib.hid (show DbB A w1.heap.size w2 tb db [] 0 from ⟨0, 0, 0, hdb2, by omega, by omega, by omega⟩)
  have HB2 := Lib.hid (HB1.out.trans (hb2.mono HA.out))
  clear hdb2 hb2 HO
  go_wp2_with fail
  have HI0 := Lib.hid (inv_start q HD.out)
  have HB3 := Lib.hid (HB2.out.alloc HB2.out.size (.cells (bxA f0) 35))
  obtain ⟨W3, hW3⟩ : ∃ W3, W3 = w2.alloc (.cells (bxA f0) 35) := ⟨_, rfl⟩
  rw [← hW3] at HI0 HB3
  change Code.wp _ _ _ _ (w2.alloc (.cells (bxA f0) 35))
  rw [← hW3]
  obtain ⟨xb, hxb⟩ : ∃ xb, xb = w2.heap.size := ⟨_, rfl⟩
  obtain ⟨B, hB⟩ : ∃ B, B = w1.heap.size := ⟨_, rfl⟩
  rw [← hxb, ← hB] at HI0
  rw [← hxb]
  have HXB := Lib.hid (show w.heap.size ≤ xb by rw [hxb]; exact HB2.out.size)
  clear hW3 hxb hB HD HB2 HB1 HB0
  go_loopw [12] (fun x wr => ∃ (i : Nat) (f : Nat → Value), i ≤ t % 66 ∧ x = .int .i64 i ∧ Hid (Inv A B tb db xb q i wr f) ∧ Hid (Below w.heap.size w wr)) (fun x _ => t % 66 - (intOf x).toNat)
  case atStart => exact ⟨0, f0, Nat.zero_le _, rfl, HI0, HB3⟩
  case round =>
    obtain ⟨i, f, hi, rfl, HI, HB⟩ := hrel
    by_cases hlt : i < t % 66
    · by_cases hE : Ei q i = 0
      · go_wp2_with fail
        refine (HI.out.add_ok hE now).mono ?_
        rintro e wa ⟨bk, rfl, hr, hba⟩
        have HIa := Lib.hid (HI.out.below hba)
        have HRa := Lib.hid hr
        have HXa := Lib.hid HIa.out.bx
        have HBa := Lib.hid (HB.out.trans (hba.mono HB.out.size))
        clear hr hba HB HI
        go_wp2_with (first | (refine wpList_load_row rfl 35 (.tmp 11) rfl xb rfl 35 (bxA f) (0, 0) _ HXa.out und_box rfl sz_box ?_) | fail)
        refine (HIa.out.bars wa).mono ?_
        rw [hE]
        rintro e wb ⟨rfl, hbb⟩
        have HIb := Lib.hid (HIa.out.below hbb)
        have HRb := Lib.hid (HRa.out.below hbb)
        have HBb := Lib.hid (HBa.out.trans (hbb.mono HBa.out.size))
        clear hbb HIa HRa HXa HBa
        go_wp2_with fail
        refine (HIb.out.commit hE now _ HRb.out).mono ?_
        rintro e wc ⟨rfl, hic, hbc⟩
        have HIc := Lib.hid hic
        have HXc := Lib.hid hic.bx
        have HBc := Lib.hid (HBb.out.trans (hbc.mono HA.out))
        clear hic hbc HIb HRb HBb
        go_wp2_with (first | (refine wpList_load_row rfl 35 (.tmp 11) rfl xb rfl 35 (bxA f) (0, 0) _ HXc.out und_box rfl sz_box ?_) | fail)
        refine (HIc.out.add now).mono ?_
        rintro e wd ⟨f', rfl, hsf, hx, hinv, hbd⟩
        have HId := Lib.hid hinv
        have HXd := Lib.hid hx
        have HSd := Lib.hid (bxA_one hsf)
        have HBd := Lib.hid (HBc.out.trans (hbd.mono HBc.out.size))
        clear hsf hx hinv hbd HIc HXc HBc
        go_wp2_with (first | (refine wpList_store_row rfl 35 (.tmp 11) (.tmp 71) rfl xb (bxA f') rfl rfl 35 (bxA f) HXd.out sz_box rfl HSd.out ?_) | fail)
        exact ⟨⟨i + 1, f', hlt, by go_num, HId, Lib.hid (below_setRow HBd.out HXB.out _)⟩, by simp [intOf]; omega⟩
      · have HS := Lib.hid (fun W (hb : Below wr.heap.size wr W) => (HI.out.same hE).below hb)
        have HAd := Lib.hid (HI.out.add_no hE now)
        have HBr := Lib.hid (HI.out.bars)
        have HX := Lib.hid HI.out.bx
        generalize Ei q i = E at *
        have e0 : (E == 0) = false := by simpa using hE
        go_wp2_with fail
        refine HAd.out.mono ?_
        rintro e wa ⟨rfl, hba⟩
        have HXa := Lib.hid (HX.out.below hba)
        have HBa := Lib.hid hba
        clear hba
        go_wp2_with (first | (refine wpList_load_row rfl 35 (.tmp 11) rfl xb rfl 35 (bxA f) (0, 0) _ HXa.out und_box rfl sz_box ?_) | fail)
        refine (HBr.out wa).mono ?_
        rintro e wb ⟨rfl, hbb⟩
        have HBb := Lib.hid (HBa.out.trans (hbb.mono HBa.out.size))
        clear hbb
        go_wp2_with fail
        exact ⟨⟨i + 1, f, hlt, by go_num, Lib.hid (HS.out _ HBb.out), Lib.hid (HB.out.trans (HBb.out.mono HB.out.size))⟩, by simp [intOf]; omega⟩
    · have hin : i = t % 66 := by omega
      have hc : ¬ (i : Int) < (t : Int) % 66 := by omega
      clear hi hlt
      have HX := Lib.hid HI.out.bx
      have HAd := Lib.hid (HI.out.add_t now txt hs)
      have HBr := Lib.hid (HI.out.bars_t txt)
      have HNx := Lib.hid (fun W (hb : Below wr.heap.size wr W) => (HI.out.below hb).next_t now txt hs)
      have HRs := Lib.hid (HI.out.rest_t txt)
      have h1 : (Et q i txt.size = 0 ∧ (if Et q i txt.size = 0 then 2 else 0) = 2) ∨ (Et q i txt.size ≠ 0 ∧ (if Et q i txt.size = 0 then 2 else 0) = 0) := by split <;> simp_all
      have h2 : (Er q txt.size = 0 ∧ (if Er q txt.size = 0 then 2 else 0) = 2) ∨ (Er q txt.size ≠ 0 ∧ (if Er q txt.size = 0 then 2 else 0) = 0) := by split <;> simp_all
      generalize (if Et q i txt.size = 0 then 2 else 0) = n1 at *
      generalize (if Er q txt.size = 0 then 2 else 0) = n2 at *
      generalize Et q i txt.size = E1 at *
      generalize Er q txt.size = E2 at *
      rcases h1 with ⟨rfl, rfl⟩ | ⟨he1, rfl⟩ <;> rcases h2 with ⟨rfl, rfl⟩ | ⟨he2, rfl⟩
      all_goals
        try have e1 : (E1 == 0) = false := by simpa using he1
        try have e2 : (E2 == 0) = false := by simpa using he2
        go_wp2_with fail
        refine HAd.out.mono ?_
        rintro e wa ⟨a1, c1, rfl, hba⟩
        have HXa := Lib.hid (HX.out.below hba)
        have HBa := Lib.hid hba
        clear hba
        go_wp2_with (first | (refine wpList_load_row rfl 35 (.tmp 11) rfl xb rfl 35 (bxA f) (0, 0) _ HXa.out und_box rfl sz_box ?_) | fail)
        refine (HBr.out wa).mono ?_
        rintro e wb ⟨rfl, hbb⟩
        have HBb := Lib.hid (HBa.out.trans (hbb.mono HBa.out.size))
        clear hbb
        go_wp2_with fail
        refine (HNx.out wb HBb.out).mono ?_
        rintro e wc ⟨a2, c2, rfl, hbc⟩
        have HXc := Lib.hid (HX.out.below (HBb.out.trans (hbc.mono HBb.out.size)))
        have HBc := Lib.hid (HB.out.trans ((HBb.out.trans (hbc.mono HBb.out.size)).mono HB.out.size))
        clear hbc
        go_wp2_with (first | (refine wpList_load_row rfl 35 (.tmp 11) rfl xb rfl 35 (bxA f) (0, 0) _ HXc.out und_box rfl sz_box ?_) | fail)
        refine (HRs.out wc).mono ?_
        rintro e wd ⟨rfl, hbd⟩
        have HBd := Lib.hid (HBc.out.trans (hbd.mono HBc.out.size))
        clear hbd
        go_wp2_with fail
        refine (add_nil wd q now txt).mono ?_
        rintro e we ⟨rfl, rfl⟩
        go_wp2_with fail
        refine (head_nil wd q).mono ?_
        unfold noItem
        rintro e we ⟨rfl, hbe⟩
        have HBe := Lib.hid ((HBd.out.trans (hbe.mono HBd.out.size)).alloc (HBd.out.trans (hbe.mono HBd.out.size)).size (.cells #[.string ⟨#[]⟩, .int .u64 0, .int .i64 0, .int .i64 0] 43))
        clear hbe
        go_wp2_with fail
        refine (tried_nil _ q now).mono ?_
        rintro e wf ⟨rfl, hbf⟩
        have HBf := Lib.hid (HBe.out.trans (hbf.mono HBe.out.size))
        clear hbf
        go_wp2_with fail
        refine (done_nil _ q 1).mono ?_
        rintro e wg ⟨rfl, hbg⟩
        have HBg := Lib.hid (HBf.out.trans (hbg.mono HBf.out.size))
        clear hbg
        go_wp2_with fail
        refine (dead_nil _ q).mono ?_
        rintro e wh ⟨rfl, hbh⟩
        have HBh := Lib.hid (HBg.out.trans (hbh.mono HBg.out.size))
        clear hbh
        go_wp2_with fail
        refine (count_nil _ q).mono ?_
        rintro e wi ⟨rfl, rfl⟩
        go_wp2_with fail
        refine (letters_nil _).mono ?_
        rintro e wj ⟨rfl, hbj⟩
        have HBj := Lib.hid (HBh.out.trans (hbj.mono HBh.out.size))
        clear hbj
        go_wp2_with fail
        go_ret
        exact ⟨rfl, HBj.out⟩
set_option maxRecDepth 100000 in
theorem law_long (w : World) (q now t : Int) (txt : ByteArray) (hs : 20000 < txt.size) (hs2 : txt.size ≤ maxLen) :
    Calls Tryz.prog 3 #[.int .i64 q, .string txt, .int .i64 now, .int .u8 t] w fun e w' => e = .returned (.bool true) ∧ Below w.heap.size w w' := by
  have g1 : (20000 : Int) < (txt.size : Int) := by omega
  go_enter Tryz.func3, Tryz.ntmps3
  go_wp2_with fail
  refine (awake_any w).mono ?_
  rintro e w0 ⟨rfl, hb0⟩
  have HB0 := Lib.hid hb0
  clear hb0
  go_wp2_with fail
  go_ret
  exact ⟨rfl, HB0.out⟩
/-- the law -/
theorem law_whole (w : World) (q now t : Int) (ht : 0 ≤ t) (ht2 : t < 256) (txt : ByteArray) (hs : txt.size ≤ maxLen) :
    Calls Tryz.prog 3 #[.int .i64 q, .string txt, .int .i64 now, .int .u8 t] w fun e w' => e = .returned (.bool true) ∧ Below w.heap.size w w' := by
  rcases Nat.lt_or_ge 20000 txt.size with h | h
  · exact law_long w q now t txt h hs
  · have := law_any w q now t.toNat (by omega) txt h
    rwa [show ((t.toNat : Nat) : Int) = t by omega] at this
end Go.Proofs.YtcohbfabcdjefaaGreatDoor
