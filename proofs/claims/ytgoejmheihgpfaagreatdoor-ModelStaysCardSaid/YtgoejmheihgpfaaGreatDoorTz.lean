/- Lemmas for ModelStays' proof. -/
import Derived.Test.YtgoejmheihgpfaaGreatDoorTt
import Derived.Test.YtgoejmheihgpfaaGreatDoorTu
import Derived.Test.YtgoejmheihgpfaaGreatDoorTw
import Derived.Deep.DeepCutAuto
import Derived.Deep.CutBlock
import Derived.BigGuardPart
import Derived.Test.YtgoejmheihgpfaaGreatDoorSo
import Derived.Test.YtgoejmheihgpfaaGreatDoorFr
namespace Go.Proofs.YtgoejmheihgpfaaGreatDoor
set_option maxRecDepth 100000
set_option maxHeartbeats 16000000
open Go.RowKit
theorem step28_any (w : World) (hK : KwIn w) (s : Sch) (ra sa ga la ma lb mb : Option Addr) (rv sv gv lc mc le me : Nat) (pf pc pn pd ps pm kp nn th nw da db : Int) (L R : List Ent) (M N : List Mrk) (hS : SchR w s (.slice ra s.records.length rv) (.slice sa s.services.length sv) (.slice ga s.sagas.length gv)) (hM : Small s) (hA : Slc w 6 (.slice la L.length lc) L.length (ecells L)) (hB : Slc w 6 (.slice lb R.length le) R.length (ecells R)) (hC : Slc w 14 (.slice ma M.length mc) M.length (mkcells M)) (hD : Slc w 14 (.slice mb N.length me) N.length (mkcells N)) (h1 : StOk L M) (h2 : StOk R N) :
  Calls Tryz.prog 13 #[.agg (sV s ra sa ga rv sv gv), .agg #[iV pf, iV pc, iV pn, iV pd, iV ps, iV pm], iV kp, iV nn, iV th, iV nw, .agg #[.slice la L.length lc, .slice ma M.length mc, iV da], .agg #[.slice lb R.length le, .slice mb N.length me, iV db]] w fun x w' => StepR (entsEq L R && decide (da = db) && othersA nw (-1) M N) ((textA' s).2 = 0 ∧ 0 ≤ nn ∧ nn < 4) M N x ∧ Below w.heap.size w w' := by
 have hn : M.length ≤ 1000 := by have := h1.2.1; omega
 have hR : ∀ m ∈ M, RunSmall m.run := fun m h => (h1.2.2.1 m h).1
 have hR2 : ∀ m ∈ N, RunSmall m.run := fun m h => (h2.2.2.1 m h).1
 exact step_gen w hK s ra sa ga la ma lb mb rv sv gv lc mc le me pf pc pn pd ps pm kp nn th nw da db L R M N hS hM hA hB hC hD hn
  (fun W X => (begin_any W (hK.below X) s ra sa ga la ma lb mb rv sv gv lc mc le me pf pc pn pd ps pm kp nn th nw da db L R M N (hS.below X) hM (hA.below X) (hB.below X) (hC.below X) (hD.below X) hn hR hR2).mono fun x w' h => h)
  (fun W X => (serve_any W s ra sa ga la ma lb mb rv sv gv lc mc le me pf pc pn pd ps pm kp nn th nw da db L R M N (hS.below X) hM (hA.below X) (hB.below X) (hC.below X) (hD.below X) (by have := h1.1; omega) (by have := h2.1; omega) hn (fun e h => by have := (h2.2.2.2 e h).2.2.2; omega)).mono fun x w' h => ⟨⟨_, h.1⟩, h.2⟩)
  (fun W X => wish_any W (hK.below X) s ra sa ga la ma lb mb rv sv gv lc mc le me pf pc pn pd ps pm kp nn th nw da db L R M N (hS.below X) hM (hA.below X) (hB.below X) (hC.below X) (hD.below X) hn hR)
  (fun W X => answer_any W (hK.below X) s ra sa ga la ma lb mb rv sv gv lc mc le me pf pc pn pd ps pm kp nn th nw da db L R M N (hS.below X) hM (hA.below X) (hB.below X) (hC.below X) (hD.below X) hn hR hR2)
theorem entsEq_refl (L : List Ent) : entsEq L L = true := (entsEq_iff L L).2 rfl
theorem passed_refl (nw : Int) (m : Mrk) : passedA nw m m = true := by
 unfold passedA
 rw [(mrkEq_iff m m).2 rfl]
 rfl
theorem othersF_refl (nw one : Int) : ∀ (i : Nat) (M : List Mrk), othersF nw one i M M = true
 | _, [] => rfl
 | i, m :: M => by
  show ((decide ((i : Int) = one) || passedA nw m m) && othersF nw one (i + 1) M M) = true
  rw [passed_refl, othersF_refl nw one (i + 1) M, Bool.or_true]
  rfl
theorem stay_refl (nw da : Int) (L : List Ent) (M : List Mrk) : (entsEq L L && decide (da = da) && othersA nw (-1) M M) = true := by
 unfold othersA
 rw [entsEq_refl, othersF_refl, zt rfl, zt rfl]
 rfl
theorem check_of_text {s : Sch} (h : (textA' s).2 = 0) : (checkA s).2 = 0 := by
 unfold textA' at h
 by_cases hc : (checkA s).2 = 0
 ·exact hc
 ·rw [if_neg hc] at h
  exact h
theorem run_loadcell {P : Program} {w : World} {ty : TypeId} {p : Addr} {v : Value} (hag : ∀ W, (isAgg ty).run P W = .ok false W) (h : w.cell? p = some v) : (loadVar ty p).run P w = .ok v w := by
 simp [loadVar, hag, run_load, h]
theorem cnt_same {n i0 k : Nat} (h : n = if i0 < k then 1 else 0) (hk : k ≠ i0) : n = if i0 < k + 1 then 1 else 0 := by
 split at h <;> split <;> omega
theorem stays_walk (w : World) (hK : KwIn w) (s : Sch) (ra sa ga la ma lb mb : Option Addr) (rv sv gv lc mc le me : Nat) (pf pc pn pd ps pm kp nn th nw da db : Int) (L R : List Ent) (M N : List Mrk) (hS : SchR w s (.slice ra s.records.length rv) (.slice sa s.services.length sv) (.slice ga s.sagas.length gv)) (hA : Slc w 6 (.slice la L.length lc) L.length (ecells L)) (hB : Slc w 6 (.slice lb R.length le) R.length (ecells R)) (hC : Slc w 14 (.slice ma M.length mc) M.length (mkcells M)) (hD : Slc w 14 (.slice mb N.length me) N.length (mkcells N)) :
  Calls Tryz.prog 4 #[.agg (sV s ra sa ga rv sv gv), .agg #[iV pf, iV pc, iV pn, iV pd, iV ps, iV pm], iV kp, iV nn, iV th, iV nw, .agg #[.slice la L.length lc, .slice ma M.length mc, iV da], .agg #[.slice lb R.length le, .slice mb N.length me, iV db]] w fun x w' => x = .returned (.bool true) ∧ Below w.heap.size w w' := by
 have HW := zD (fun W (X : Below w.heap.size w W) => wakes_any W (hK.below X))
 have HG := zD (fun W (X : Below w.heap.size w W) => great13_any W s _ _ _ (hS.below X))
 have HGA := zD (fun W (X : Below w.heap.size w W) => great28_any W la ma lc mc da L M (hA.below X) (hC.below X))
 have HGB := zD (fun W (X : Below w.heap.size w W) => great28_any W lb mb le me db R N (hB.below X) (hD.below X))
 have HCK := zD (fun (hM : Small s) W (X : Below w.heap.size w W) => check_any W (hK.below X) s _ _ _ (hS.below X) hM)
 have HSA := zD (fun (hM : Small s) (h1 : StOk L M) W (X : Below w.heap.size w W) => step28_any W (hK.below X) s ra sa ga la ma la ma rv sv gv lc mc lc mc pf pc pn pd ps pm kp nn th nw da da L L M M (hS.below X) hM (hA.below X) (hA.below X) (hC.below X) (hC.below X) h1 h1)
 have HSB := zD (fun (hM : Small s) (h1 : StOk L M) (h2 : StOk R N) W (X : Below w.heap.size w W) => step28_any W (hK.below X) s ra sa ga la ma lb mb rv sv gv lc mc le me pf pc pn pd ps pm kp nn th nw da db L R M N (hS.below X) hM (hA.below X) (hB.below X) (hC.below X) (hD.below X) h1 h2)
 have HCC := zD hC
 have HDD := zD hD
 have HB0 := zD (Below.refl w.heap.size w)
 clear hK hS hA hB hC hD
 go_enter Tryz.func4, Tryz.ntmps4
 go_upto_region 1 with (go_big_may; first | ((with_reducible refine zc 8 ?_); refine zO 26 0 rfl ?_; intro W1 g1 hg1 hx1; have Hb11 := zD hx1.blk; have db1 := zM HB0 hg1; have HB1 := zE hx1 HB0 db1; clear HB0 hg1 hx1) | ((with_reducible refine zc 9 ?_); refine zO 42 1 rfl ?_; intro W2 g2 hg2 hx2; have Hb22 := zD hx2.blk; have db2 := zM HB1 hg2; have Hb12 := zN hx2 hg2 Hb11; have HB2 := zE hx2 HB1 db2; clear Hb11 HB1 hg2 hx2) | ((with_reducible refine zc 14 ?_); refine zO 45 6 rfl ?_; intro W3 g3 hg3 hx3; have Hb33 := zD hx3.blk; have db3 := zM HB2 hg3; have Hb13 := zN hx3 hg3 Hb12; have Hb23 := zN hx3 hg3 Hb22; have HB3 := zE hx3 HB2 db3; clear Hb12 Hb22 HB2 hg3 hx3) | ((with_reducible refine zc 15 ?_); refine zO 45 7 rfl ?_; intro W4 g4 hg4 hx4; have Hb44 := zD hx4.blk; have db4 := zM HB3 hg4; have Hb14 := zN hx4 hg4 Hb13; have Hb24 := zN hx4 hg4 Hb23; have Hb34 := zN hx4 hg4 Hb33; have HB4 := zE hx4 HB3 db4; clear Hb13 Hb23 Hb33 HB3 hg4 hx4))
 go_wp2_with (go_big_may; first | ((with_reducible refine zc 23 ?_); refine zS 26 8 0 (load_f26 Hb14.out (by rfl)) ?_))
 refine (HG.out _ HB4.out).mono ?_
 rintro e w2 ⟨⟨q, rfl, hq⟩, hb⟩
 have Hb15 := zB hb Hb14
 clear Hb14
 have Hb25 := zB hb Hb24
 clear Hb24
 have Hb35 := zB hb Hb34
 clear Hb34
 have Hb45 := zB hb Hb44
 clear Hb44
 have HB5 := zT HB4 hb
 clear HB4 hb
 cases q with
 | true =>
  as_aux_lemma =>
   go_wp2_with (fail); refine (HW.out _ HB5.out).mono ?_; rintro e wz ⟨rfl, hb⟩; have HBz := zT HB5 hb; go_wp2_with fail; exact zR (v := .bool true) ⟨rfl, HBz.out⟩
 | false =>
  have HSM := zD (hq rfl); clear hq HG; go_wp2_with (go_big_may; first | ((with_reducible refine zc 26 ?_); refine zS 45 14 0 (load_f45 Hb35.out (by rfl)) ?_)); refine (HGA.out _ HB5.out).mono ?_; rintro e w3 ⟨⟨q, rfl, hq⟩, hb⟩; have Hb16 := zB hb Hb15; clear Hb15; have Hb26 := zB hb Hb25; clear Hb25; have Hb36 := zB hb Hb35; clear Hb35; have Hb46 := zB hb Hb45; clear Hb45; have HB6 := zT HB5 hb; clear HB5 hb; cases q with
  | true =>
   as_aux_lemma =>
    go_wp2_with (fail); refine (HW.out _ HB6.out).mono ?_; rintro e wz ⟨rfl, hb⟩; have HBz := zT HB6 hb; go_wp2_with fail; exact zR (v := .bool true) ⟨rfl, HBz.out⟩
  | false =>
   have HOA := zD (hq rfl); clear hq HGA; go_wp2_with (go_big_may; first | ((with_reducible refine zc 30 ?_); refine zS 45 15 0 (load_f45 Hb46.out (by rfl)) ?_)); refine (HGB.out _ HB6.out).mono ?_; rintro e w4 ⟨⟨q, rfl, hq⟩, hb⟩; have Hb17 := zB hb Hb16; clear Hb16; have Hb27 := zB hb Hb26; clear Hb26; have Hb37 := zB hb Hb36; clear Hb36; have Hb47 := zB hb Hb46; clear Hb46; have HB7 := zT HB6 hb; clear HB6 hb; cases q with
   | true =>
    as_aux_lemma =>
     go_wp2_with (fail); refine (HW.out _ HB7.out).mono ?_; rintro e wz ⟨rfl, hb⟩; have HBz := zT HB7 hb; go_wp2_with fail; exact zR (v := .bool true) ⟨rfl, HBz.out⟩
   | false =>
    have HOB := zD (hq rfl); clear hq HGB; go_wp2_with (go_big_may; first | ((with_reducible refine zc 35 ?_); refine zS 26 8 0 (load_f26 Hb17.out (by rfl)) ?_)); refine (HCK.out HSM.out _ HB7.out).mono ?_; rintro e w5 ⟨rfl, hb⟩; have Hb18 := zB hb Hb17; clear Hb17; have Hb28 := zB hb Hb27; clear Hb27; have Hb38 := zB hb Hb37; clear Hb37; have Hb48 := zB hb Hb47; clear Hb47; have HB8 := zT HB7 hb; clear HB7 hb; have HCT := zD (fun h => check_of_text (s := s) h); clear HCK; generalize checkA s = CK at *; go_wp2_with (go_big_may; first | ((with_reducible refine zc 40 ?_); refine zS 26 8 0 (load_f26 Hb18.out (by rfl)) ?_) | ((with_reducible refine zc 41 ?_); refine zS 42 9 0 (load_f42 Hb28.out (by rfl)) ?_) | ((with_reducible refine zc 46 ?_); refine zS 45 14 0 (load_f45 Hb38.out (by rfl)) ?_) | ((with_reducible refine zc 47 ?_); refine zS 45 14 0 (load_f45 Hb38.out (by rfl)) ?_)); refine (HSA.out HSM.out HOA.out _ HB8.out).mono ?_; rintro e w6 ⟨⟨k0, ok, rfl, hrt, -, hst⟩, hb⟩; have Hb19 := zB hb Hb18; clear Hb18; have Hb29 := zB hb Hb28; clear Hb28; have Hb39 := zB hb Hb38; clear Hb38; have Hb49 := zB hb Hb48; clear Hb48; have HB9 := zT HB8 hb; clear HB8 hb; obtain rfl : k0 = 0 := hst (by simpa using stay_refl nw da L M); have HRT := zD hrt; clear hrt hst HSA; go_upto_region 5 with (fail); go_cut [67] from 51 to 66 (fun vt wd => vt = .bool false ∧ w6 = wd)
    case first =>
     cases ok with
     | false =>
      go_wp2_with fail; go_meet
      case rel => exact ⟨rfl, rfl⟩
     | true =>
      have hr := HRT.out rfl; have hck := HCT.out hr.1; have d1 : (((CK.2 : Nat) : Int) != 0) = false := by rw [bne_eq_false_iff_eq]; omega
      have d2 : decide (nn < 0) = false := zf (by omega); have d3 : decide (4 ≤ nn) = false := zf (by omega); have d4 : decide (nn ≥ 4) = false := zf (by omega); clear hr hck; go_wp2_with fail; go_meet
      case rel => exact ⟨rfl, rfl⟩
    case rest =>
     obtain ⟨rfl, rfl⟩ := hcut; clear HRT HCT; go_wp2_with (go_big_may; first | ((with_reducible refine zc 69 ?_); refine zS 26 8 0 (load_f26 Hb19.out (by rfl)) ?_) | ((with_reducible refine zc 70 ?_); refine zS 42 9 0 (load_f42 Hb29.out (by rfl)) ?_) | ((with_reducible refine zc 75 ?_); refine zS 45 14 0 (load_f45 Hb39.out (by rfl)) ?_) | ((with_reducible refine zc 76 ?_); refine zS 45 15 0 (load_f45 Hb49.out (by rfl)) ?_)); refine (HSB.out HSM.out HOA.out HOB.out _ HB9.out).mono ?_; rintro e w7 ⟨⟨k1, ok1, rfl, -, halt, -⟩, hb⟩; clear Hb19; clear Hb29; have Hb310 := zB hb Hb39; clear Hb39; have Hb410 := zB hb Hb49; clear Hb49; have HB10 := zT HB9 hb; clear HB9 hb; have HAL := zD halt; clear halt HSB HSM HOA HOB; cases ok1 with
     | false =>
      as_aux_lemma =>
       go_wp2_with (fail); refine (HW.out _ HB10.out).mono ?_; rintro e wz ⟨rfl, hb⟩; have HBz := zT HB10 hb; go_wp2_with fail; exact zR (v := .bool true) ⟨rfl, HBz.out⟩
     | true =>
      by_cases hk : k1 < 3
      case pos =>
       have dk : decide (k1 < 3) = true := zt hk
       as_aux_lemma =>
        go_wp2_with (fail); refine (HW.out _ HB10.out).mono ?_; rintro e wz ⟨rfl, hb⟩; have HBz := zT HB10 hb; go_wp2_with fail; exact zR (v := .bool true) ⟨rfl, HBz.out⟩
      have dk : decide (k1 < 3) = false := zf hk; obtain ⟨i0, hone, hov⟩ := HAL.out (by omega); have HONE := zD hone; have HOV := zD hov; have HLN := zD hone.1; clear hone hov HAL hk; have dl : ((M.length : Int) != (N.length : Int)) = false := by rw [bne_eq_false_iff_eq, HLN.out]
      go_wp2_with (go_big_may; first | ((with_reducible refine zc 88 ?_); refine zV 43 87 1 agg_t43 Hb310 rfl ?_) | ((with_reducible refine zc 91 ?_); refine zV 43 90 1 agg_t43 Hb410 rfl ?_)); clear dk dl; go_loopw [21, 22] (fun vo vi wr => ∃ (n k : Nat), k ≤ M.length ∧ vo = iV (n : Nat) ∧ vi = iV (k : Nat) ∧ Hid (wr.heap[g3]? = some (.cells #[.slice la L.length lc, .slice ma M.length mc, iV da] 45 (0, 0))) ∧ Hid (wr.heap[g4]? = some (.cells #[.slice lb R.length le, .slice mb N.length me, iV db] 45 (0, 0))) ∧ Hid (Below w.heap.size w wr) ∧ Hid (n = if i0 < k then 1 else 0)) (fun _ vi _ => M.length - (intOf vi).toNat)
      case atStart => exact ⟨0, 0, by omega, rfl, rfl, Hb310, Hb410, HB10, zD rfl⟩
      case round =>
       clear Hb310 Hb410; clear HB10; rename World => wr
       obtain ⟨n, k, hk, rfl, rfl, HA, HB, HBw, HN⟩ := hrel; by_cases hlt : k < M.length
       case neg =>
        as_aux_lemma =>
         have dk : decide ((k : Int) < (M.length : Int)) = false := by simp; omega
         have dk2 : decide (k < M.length) = false := by simp; omega
         have hn : n = 1 := by have := HN.out; rw [if_pos (by have := HONE.out.2.choose; omega)] at this; exact this
         subst hn; clear hlt; go_wp2_with (go_big_may; first | ((with_reducible refine zc 96 ?_); refine zV 43 95 1 agg_t43 HA rfl ?_)); refine (HW.out _ HBw.out).mono ?_; rintro e wz ⟨rfl, hb⟩; have HBz := zT HBw hb; go_wp2_with fail; exact zR (v := .bool true) ⟨rfl, HBz.out⟩
       have dk : decide ((k : Int) < (M.length : Int)) = true := by simp; omega
       have dk2 : decide (k < M.length) = true := by simp; omega
       have hlt2 : k < N.length := by rw [← HLN.out]; exact hlt
       obtain ⟨b1, o1, rfl, hp⟩ := mrk_there (w := w) HCC.out hlt; obtain ⟨b2, o2, rfl, hq⟩ := mrk_there (w := w) HDD.out hlt2; have HP := zD hp; have HQ := zD hq; clear hp hq; have hi1 : (0 : Int) ≤ (k : Int) := by omega
       have hi2 : (k : Int) < (M.length : Int) := by omega
       have hi3 : (k : Int) < (N.length : Int) := by omega
       have hwk : wrap64 ((k : Int) + 1) = (k : Int) + 1 := IntWalk.wrap64_in _ (by obtain ⟨⟨_, _, e, q1, q2, _⟩, _⟩ := HCC.out; omega); have HKE := zD (show k ≠ i0 → runEq M[k].run N[k].run = true from fun h => HONE.out.2.choose_spec.choose_spec.2 k hlt hlt2 h); have HKN := zD (show k = i0 → runEq M[k].run N[k].run = false ∧ overA M[k].run = false ∧ N[k].run.id = M[k].run.id from fun h => by subst h; exact ⟨HONE.out.2.choose_spec.choose_spec.1, HOV.out hlt hlt2⟩); generalize M[k] = x at *; generalize N[k] = y at *; have HLT := zD hlt; clear hlt hlt2; obtain ⟨⟨xi, xs, xa, xat, xph, xtr, xst, xwh, xvl⟩, ⟨xos, xoc, xov, xod⟩, xg⟩ := x; obtain ⟨⟨yi, ys, ya, yat, yph, ytr, yst, ywh, yvl⟩, ⟨yos, yoc, yov, yod⟩, yg⟩ := y; by_cases hki : k = i0
       case neg =>
        as_aux_lemma =>
         have he := HKE.out hki; have hne := fun W => run_neq ⟨xi, xs, xa, xat, xph, xtr, xst, xwh, xvl⟩ ⟨yi, ys, ya, yat, yph, ytr, yst, ywh, yvl⟩ W
         have hng := fun X Y W => run_neqg ⟨xi, xs, xa, xat, xph, xtr, xst, xwh, xvl⟩ ⟨yi, ys, ya, yat, yph, ytr, yst, ywh, yvl⟩ X Y W
         unfold runC at hne hng; dsimp only at hne hng; rw [he] at hne; clear he HKE HKN; have HKI := zD hki; clear hki; go_upto_region 16 with (go_big_may; first | ((with_reducible refine zc 96 ?_); refine zV 43 95 1 agg_t43 HA rfl ?_)); refine wp_region_noPanic ?_; have HAd := zD (show wr.drew.heap[g3]? = _ from HA.out); clear HA; have HBd := zD (show wr.drew.heap[g4]? = _ from HB.out); clear HB; have HBwd := zD (show Below w.heap.size w wr.drew from HBw.out.trans ⟨rfl, rfl, rfl, zn, fun _ _ => rfl⟩); clear HBw; refine wp_region_held_drew (S := fun w' => w'.heap[g3]? = some (.cells #[.slice la L.length lc, .slice (some ⟨b1, o1, none⟩) M.length mc, iV da] 45 (0, 0)) ∧ w'.heap[g4]? = some (.cells #[.slice lb R.length le, .slice (some ⟨b2, o2, none⟩) N.length me, iV db] 45 (0, 0)) ∧ Below w.heap.size w w') (by kernel_rfl) (⟨HAd.out, HBd.out, HBwd.out⟩) (fun hHeld => ?_); generalize wr.drew = W61 at *; refine zJ 0 101 rfl ?_; refine zI 1 102 rfl (fun wS hS => run_loadC_op 43 (.tmp 101) (by rfl) _ 1 (by rfl) (.slice (some ⟨b1, o1, none⟩) M.length mc) agg_t43 hS.1 (by rfl)) ?_; refine zJ 2 103 rfl ?_; refine zJ 3 104 rfl ?_; refine zJ 4 105 rfl ?_; refine zI 5 106 rfl (fun wS hS => run_load_op 53 (.tmp 105) (by rfl) _ _ (by rfl) (.agg #[sT xi, sT xs, sT xa, iV xat, .int .u8 (xph : Nat), iV xtr, .bool xst, iV xwh, sT xvl]) (load_mrun (x := ⟨⟨xi, xs, xa, xat, xph, xtr, xst, xwh, xvl⟩, ⟨xos, xoc, xov, xod⟩, xg⟩) (HP.out _ hS.2.2))) ?_; refine zJ 6 107 rfl ?_; refine zI 7 108 rfl (fun wS hS => run_loadC_op 43 (.tmp 107) (by rfl) _ 1 (by rfl) (.slice (some ⟨b2, o2, none⟩) N.length me) agg_t43 hS.2.1 (by rfl)) ?_; refine zJ 8 109 rfl ?_; refine zJ 9 110 rfl ?_; refine zJ 10 111 rfl ?_; refine zI 11 112 rfl (fun wS hS => run_load_op 53 (.tmp 111) (by rfl) _ _ (by rfl) (.agg #[sT yi, sT ys, sT ya, iV yat, .int .u8 (yph : Nat), iV ytr, .bool yst, iV ywh, sT yvl]) (load_mrun (x := ⟨⟨yi, ys, ya, yat, yph, ytr, yst, ywh, yvl⟩, ⟨yos, yoc, yov, yod⟩, yg⟩) (HQ.out _ hS.2.2))) ?_; refine zJ 12 113 rfl ?_; refine wpAnyH_done (by kernel_rfl) ?_ _; refine NoPanic.normal ?_; go_wp2_with fail; exact ⟨⟨n, k + 1, by have := HLT.out; omega, rfl, by go_num, HAd, HBd, HBwd, zD (cnt_same HN.out HKI.out)⟩, by rw [hwk]; simp only [intOf]; have := HLT.out; omega⟩
       obtain ⟨he, hov, hid⟩ := HKN.out hki; simp only at hid; have hse : ((bT xi).toList == (bT yi).toList) = true := by rw [hid]; simp
       clear hid; have hne := fun W => run_neq ⟨xi, xs, xa, xat, xph, xtr, xst, xwh, xvl⟩ ⟨yi, ys, ya, yat, yph, ytr, yst, ywh, yvl⟩ W
       have hng := fun X Y W => run_neqg ⟨xi, xs, xa, xat, xph, xtr, xst, xwh, xvl⟩ ⟨yi, ys, ya, yat, yph, ytr, yst, ywh, yvl⟩ X Y W
       unfold runC at hne hng; dsimp only at hne hng; rw [he] at hne; have HOX := zD hov; have hn : n = 0 := by have h0 := HN.out; rw [if_neg (by omega)] at h0; exact h0
       subst hn; have HKI := zD hki; clear he hov HKE HKN HN hki; go_upto_region 16 with (go_big_may; first | ((with_reducible refine zc 96 ?_); refine zV 43 95 1 agg_t43 HA rfl ?_)); refine wp_region_noPanic ?_; have HAd := zD (show wr.drew.heap[g3]? = _ from HA.out); clear HA; have HBd := zD (show wr.drew.heap[g4]? = _ from HB.out); clear HB; have HBwd := zD (show Below w.heap.size w wr.drew from HBw.out.trans ⟨rfl, rfl, rfl, zn, fun _ _ => rfl⟩); clear HBw; refine wp_region_held_drew (S := fun w' => w'.heap[g3]? = some (.cells #[.slice la L.length lc, .slice (some ⟨b1, o1, none⟩) M.length mc, iV da] 45 (0, 0)) ∧ w'.heap[g4]? = some (.cells #[.slice lb R.length le, .slice (some ⟨b2, o2, none⟩) N.length me, iV db] 45 (0, 0)) ∧ Below w.heap.size w w') (by kernel_rfl) (⟨HAd.out, HBd.out, HBwd.out⟩) (fun hHeld => ?_); generalize wr.drew = W61 at *; refine zJ 0 101 rfl ?_; refine zI 1 102 rfl (fun wS hS => run_loadC_op 43 (.tmp 101) (by rfl) _ 1 (by rfl) (.slice (some ⟨b1, o1, none⟩) M.length mc) agg_t43 hS.1 (by rfl)) ?_; refine zJ 2 103 rfl ?_; refine zJ 3 104 rfl ?_; refine zJ 4 105 rfl ?_; refine zI 5 106 rfl (fun wS hS => run_load_op 53 (.tmp 105) (by rfl) _ _ (by rfl) (.agg #[sT xi, sT xs, sT xa, iV xat, .int .u8 (xph : Nat), iV xtr, .bool xst, iV xwh, sT xvl]) (load_mrun (x := ⟨⟨xi, xs, xa, xat, xph, xtr, xst, xwh, xvl⟩, ⟨xos, xoc, xov, xod⟩, xg⟩) (HP.out _ hS.2.2))) ?_; refine zJ 6 107 rfl ?_; refine zI 7 108 rfl (fun wS hS => run_loadC_op 43 (.tmp 107) (by rfl) _ 1 (by rfl) (.slice (some ⟨b2, o2, none⟩) N.length me) agg_t43 hS.2.1 (by rfl)) ?_; refine zJ 8 109 rfl ?_; refine zJ 9 110 rfl ?_; refine zJ 10 111 rfl ?_; refine zI 11 112 rfl (fun wS hS => run_load_op 53 (.tmp 111) (by rfl) _ _ (by rfl) (.agg #[sT yi, sT ys, sT ya, iV yat, .int .u8 (yph : Nat), iV ytr, .bool yst, iV ywh, sT yvl]) (load_mrun (x := ⟨⟨yi, ys, ya, yat, yph, ytr, yst, ywh, yvl⟩, ⟨yos, yoc, yov, yod⟩, yg⟩) (HQ.out _ hS.2.2))) ?_; refine zJ 12 113 rfl ?_; refine wpAnyH_done (by kernel_rfl) ?_ _; refine NoPanic.normal ?_; go_upto_region 18 with (fail); refine wp_region_noPanic ?_; have HAdd := zD (show W61.drew.heap[g3]? = _ from HAd.out); clear HAd; have HBdd := zD (show W61.drew.heap[g4]? = _ from HBd.out); clear HBd; have HBwdd := zD (show Below w.heap.size w W61.drew from HBwd.out.trans ⟨rfl, rfl, rfl, zn, fun _ _ => rfl⟩); clear HBwd; refine wp_region_held_drew (S := fun w' => w'.heap[g3]? = some (.cells #[.slice la L.length lc, .slice (some ⟨b1, o1, none⟩) M.length mc, iV da] 45 (0, 0)) ∧ w'.heap[g4]? = some (.cells #[.slice lb R.length le, .slice (some ⟨b2, o2, none⟩) N.length me, iV db] 45 (0, 0)) ∧ Below w.heap.size w w') (by kernel_rfl) (⟨HAdd.out, HBdd.out, HBwdd.out⟩) (fun hHeld => ?_); generalize W61.drew = W62 at *; refine zJ 0 116 rfl ?_; refine zI 1 117 rfl (fun wS hS => run_loadC_op 43 (.tmp 116) (by rfl) _ 1 (by rfl) (.slice (some ⟨b1, o1, none⟩) M.length mc) agg_t43 hS.1 (by rfl)) ?_; refine zJ 2 118 rfl ?_; refine zJ 3 119 rfl ?_; refine zJ 4 120 rfl ?_; refine zI 5 121 rfl (fun wS hS => run_load_op 53 (.tmp 120) (by rfl) _ _ (by rfl) (.agg #[sT xi, sT xs, sT xa, iV xat, .int .u8 (xph : Nat), iV xtr, .bool xst, iV xwh, sT xvl]) (load_mrun (x := ⟨⟨xi, xs, xa, xat, xph, xtr, xst, xwh, xvl⟩, ⟨xos, xoc, xov, xod⟩, xg⟩) (HP.out _ hS.2.2))) ?_; refine zy [6] ?_; refine zg (some 122) rfl (fun K hK => ?_) ?_
       ·go_simp
        refine (over_any _ ⟨xi, xs, xa, xat, xph, xtr, xst, xwh, xvl⟩).mono ?_; rintro e w3 ⟨rfl, hb⟩; rw [HOX.out]; have Hb363 := zB hb HAdd; clear HAdd; have Hb463 := zB hb HBdd; clear HBdd; have HB63 := zT HBwdd hb; clear HBwdd hb; refine hK.out _ _ (⟨Hb363.out, Hb463.out, HB63.out⟩) (fun hHeld => ?_); clear hK K; try simp only [Act.put, zX, zY, zZ]
        refine zJ 7 123 rfl ?_; refine zJ 8 124 rfl ?_; refine zI 9 125 rfl (fun wS hS => run_loadC_op 43 (.tmp 124) (by rfl) _ 1 (by rfl) (.slice (some ⟨b1, o1, none⟩) M.length mc) agg_t43 hS.1 (by rfl)) ?_; refine zJ 10 126 rfl ?_; refine zJ 11 127 rfl ?_; refine zJ 12 128 rfl ?_; refine zJ 13 129 rfl ?_; refine zI 14 130 rfl (fun wS hS => run_load_op 9 (.tmp 129) (by rfl) _ _ (by rfl) (sT xi) (run_loadcell agg_t9 (HP.out _ hS.2.2 0 _ rfl))) ?_; refine zJ 15 131 rfl ?_; refine zI 16 132 rfl (fun wS hS => run_loadC_op 43 (.tmp 131) (by rfl) _ 1 (by rfl) (.slice (some ⟨b2, o2, none⟩) N.length me) agg_t43 hS.2.1 (by rfl)) ?_; refine zJ 17 133 rfl ?_; refine zJ 18 134 rfl ?_; refine zJ 19 135 rfl ?_; refine zJ 20 136 rfl ?_; refine zI 21 137 rfl (fun wS hS => run_load_op 9 (.tmp 136) (by rfl) _ _ (by rfl) (sT yi) (run_loadcell agg_t9 (HQ.out _ hS.2.2 0 _ rfl))) ?_; refine zJ 22 138 rfl ?_; refine zJ 23 139 rfl ?_; refine wpAnyH_done (by kernel_rfl) ?_ _; refine NoPanic.normal ?_; go_wp2_with fail; exact ⟨⟨1, k + 1, by have := HLT.out; omega, by go_num, by go_num, Hb363, Hb463, HB63, zD (by have := HKI.out; rw [if_pos (by omega)])⟩, by rw [hwk]; simp only [intOf]; have := HLT.out; omega⟩
       exact zh
section
open Go.ChangeShapes Go.WideShapes Go.ChangeAt Go.RowKit Go.Deep
theorem slc_ofK {H : Type} {enc : TypeId × Value → H} {P : Program} {w : World} {t e : TypeId} {k : Nat} {n0 : Nat} {v : Value} {y : DataW H × List MemPlace} {α : Type} {E : World → α → List Value → Prop}
  (ht : P.underlying t = some (.slice e)) (hC : P.cellsOf e = k) (hpos : 0 < k)
  (h : DataW.trod enc P w 0 (fun _ => true) true n0 t [v] = some y) (hrow : ∀ q n y, q.length = k → DataW.trod enc P w 0 (fun _ => true) true n e q = some y → ∃ a, E w a q) :
  ∃ (L : List α) (xs : List Value), Slc w k v L.length xs ∧ Rows E w L xs := by
 obtain ⟨d, ps⟩ := y
 rcases open_slice ht h with ⟨hcs, _⟩ | ⟨a, len, cap, m, n, D, Pl, hcs, _, hl, hm, hmm, hxx, hi⟩
 ·simp only [List.cons.injEq, and_true] at hcs
  rw [hcs]; exact ⟨[], [], Slc.nil _ _, rfl⟩
 ·simp only [List.cons.injEq, and_true] at hcs
  rw [hcs]; simp only [if_true] at hmm; unfold maxLen at hm
  have hall : ∀ j, j ≤ len → ∃ (L : List α) (xs : List Value), L.length = j ∧ xs.length = j * k ∧ Rows E w L xs ∧ ∀ i u, xs[i]? = some u → w.cell? (a.add i) = some u := by
   intro j; induction j with
   | zero => exact fun _ => ⟨[], [], rfl, by simp, rfl, fun i u h => by simp at h⟩
   | succ j ih =>
    intro hj; obtain ⟨L, xs, h1, h2, h3, h4⟩ := ih (by omega); obtain ⟨cs', c1, c2⟩ := hi j (by omega); rw [hC] at c1; obtain ⟨_, c3, c4⟩ := World.cells?_some c1; obtain ⟨b, hb⟩ := hrow cs' _ _ c3 c2; refine ⟨L ++ [b], xs ++ cs', by simp [h1], by rw [List.length_append, h2, c3, Nat.succ_mul], h3.add hb, fun i u hu => ?_⟩; by_cases hix : i < xs.length
    ·rw [List.getElem?_append_left hix] at hu
     exact h4 i u hu
    ·rw [List.getElem?_append_right (by omega)] at hu
     have hlt := (List.getElem?_eq_some_iff.1 hu).1; have h5 := c4 (i - xs.length) (by omega); rw [hu] at h5; rw [← h5]; congr 1; have e1 : i = j * k + (i - xs.length) := by rw [h2] at hix ⊢; omega
     conv => lhs; rw [e1]
     simp only [Addr.add]; cases a with
     | mk b o s =>
      by_cases z1 : j * k = 0
      ·by_cases z2 : i - xs.length = 0
       ·simp [z1, z2]
       ·simp [z1, z2]
      ·by_cases z2 : i - xs.length = 0
       ·simp [z1, z2]
       ·simp [z1, z2, Nat.add_assoc]
  obtain ⟨L, xs, h1, h2, h3, h4⟩ := hall len zn; subst h1; refine ⟨L, xs, ⟨⟨some a, cap, rfl, by omega, by omega, (fun e => by cases e), fun h0 => ?_⟩, h2⟩, h3⟩; have hx0 : 0 < xs.length := by rw [h2]; exact Nat.mul_pos h0 hpos
  obtain ⟨b, o, s⟩ := a
  have hs : s = none := by
   have := h4 0 _ (List.getElem?_eq_getElem hx0); simpa [Addr.add] using World.cell?_spot this
  subst hs
  have hc : ∀ i u, xs[i]? = some u → w.cell? ⟨b, o + i, none⟩ = some u := fun i u hu => by
   have := h4 i u hu; rwa [Go.WideShapes.add_plain] at this
  exact ⟨b, o, rfl, World.block_lt_of_cell? w _ (hc 0 _ (List.getElem?_eq_getElem hx0)), hc⟩
theorem row9_of' {q : List Value} (h : q.length = 9) : ∃ v0 v1 v2 v3 v4 v5 v6 v7 v8, q = [v0, v1, v2, v3, v4, v5, v6, v7, v8] := by
 match q, h with
 | [v0, v1, v2, v3, v4, v5, v6, v7, v8], _ => exact ⟨v0, v1, v2, v3, v4, v5, v6, v7, v8, rfl⟩
theorem run_fldsU {fs : Array Field} (h : Tryz.prog.underlying 53 = some (.struct fs)) : oneCellFields Tryz.prog fs = true ∧ fs.size = 9 ∧ (fs.map (·.type)).toList = [9, 9, 9, 3, 5, 3, 4, 3, 9] := by
 rw [Tryz.underlying53] at h
 cases h
 exact ⟨by kernel_rfl, rfl, by simp⟩
theorem run_cellsU : Tryz.prog.cellsOf 53 = 9 := by kernel_rfl
theorem opr_fldsU {fs : Array Field} (h : Tryz.prog.underlying 55 = some (.struct fs)) : oneCellFields Tryz.prog fs = true ∧ fs.size = 4 ∧ (fs.map (·.type)).toList = [3, 3, 9, 2] := by
 rw [Tryz.underlying55] at h
 cases h
 exact ⟨by kernel_rfl, rfl, by simp⟩
theorem opr_cellsU : Tryz.prog.cellsOf 55 = 4 := by kernel_rfl
theorem state_fldsU {fs : Array Field} (h : Tryz.prog.underlying 45 = some (.struct fs)) : oneCellFields Tryz.prog fs = true ∧ fs.size = 3 ∧ (fs.map (·.type)).toList = [27, 43, 3] := by
 rw [Tryz.underlying45] at h
 cases h
 exact ⟨by kernel_rfl, rfl, by simp⟩
theorem state_cellsU : Tryz.prog.cellsOf 45 = 3 := by kernel_rfl
theorem policy_fldsU {fs : Array Field} (h : Tryz.prog.underlying 42 = some (.struct fs)) : oneCellFields Tryz.prog fs = true ∧ fs.size = 6 ∧ (fs.map (·.type)).toList = [2, 2, 2, 2, 2, 3] := by
 rw [Tryz.underlying42] at h
 cases h
 exact ⟨by kernel_rfl, rfl, by simp⟩
theorem policy_cellsU : Tryz.prog.cellsOf 42 = 6 := by kernel_rfl
theorem run_rowU {H : Type} {enc : TypeId × Value → H} {w : World} {fs : Array Field} (hfs : Tryz.prog.underlying 53 = some (.struct fs)) {q : List Value} (h : RowT enc Tryz.prog w fs q) : ∃ a : Run, q = (runC a).toList := by
 obtain ⟨hone, hsz, hty⟩ := run_fldsU hfs
 obtain ⟨v0, v1, v2, v3, v4, v5, v6, v7, v8, rfl⟩ := row9_of' (h.1.trans hsz)
 obtain ⟨n0, y0, t0⟩ := h.at hty 0 _ _ rfl rfl
 obtain ⟨s0, rfl, m0⟩ := string_one Tryz.underlying9 t0
 obtain ⟨n1, y1, t1⟩ := h.at hty 1 _ _ rfl rfl
 obtain ⟨s1, rfl, m1⟩ := string_one Tryz.underlying9 t1
 obtain ⟨n2, y2, t2⟩ := h.at hty 2 _ _ rfl rfl
 obtain ⟨s2, rfl, m2⟩ := string_one Tryz.underlying9 t2
 obtain ⟨n3, y3, t3⟩ := h.at hty 3 _ _ rfl rfl
 obtain ⟨z3, rfl, w3⟩ := int_one Tryz.underlying3 t3
 obtain ⟨n4, y4, t4⟩ := h.at hty 4 _ _ rfl rfl
 obtain ⟨z4, rfl, w4⟩ := int_one Tryz.underlying5 t4
 obtain ⟨n5, y5, t5⟩ := h.at hty 5 _ _ rfl rfl
 obtain ⟨z5, rfl, w5⟩ := int_one Tryz.underlying3 t5
 obtain ⟨n6, y6, t6⟩ := h.at hty 6 _ _ rfl rfl
 obtain ⟨b6, rfl⟩ := bool_one Tryz.underlying4 t6
 obtain ⟨n7, y7, t7⟩ := h.at hty 7 _ _ rfl rfl
 obtain ⟨z7, rfl, w7⟩ := int_one Tryz.underlying3 t7
 obtain ⟨n8, y8, t8⟩ := h.at hty 8 _ _ rfl rfl
 obtain ⟨s8, rfl, m8⟩ := string_one Tryz.underlying9 t8
 exact ⟨⟨s0, s1, s2, z3, z4.toNat, z5, b6, z7, s8⟩, by unfold runC; simp only [u8_nat w4]⟩
theorem opr_rowU {H : Type} {enc : TypeId × Value → H} {w : World} {fs : Array Field} (hfs : Tryz.prog.underlying 55 = some (.struct fs)) {q : List Value} (h : RowT enc Tryz.prog w fs q) : ∃ a : Opr, q = (oprC a).toList := by
 obtain ⟨hone, hsz, hty⟩ := opr_fldsU hfs
 obtain ⟨v0, v1, v2, v3, rfl⟩ := row4_of (h.1.trans hsz)
 obtain ⟨n0, y0, t0⟩ := h.at hty 0 _ _ rfl rfl
 obtain ⟨z0, rfl, w0⟩ := int_one Tryz.underlying3 t0
 obtain ⟨n1, y1, t1⟩ := h.at hty 1 _ _ rfl rfl
 obtain ⟨z1, rfl, w1⟩ := int_one Tryz.underlying3 t1
 obtain ⟨n2, y2, t2⟩ := h.at hty 2 _ _ rfl rfl
 obtain ⟨s2, rfl, m2⟩ := string_one Tryz.underlying9 t2
 obtain ⟨n3, y3, t3⟩ := h.at hty 3 _ _ rfl rfl
 obtain ⟨z3, rfl, w3⟩ := int_one Tryz.underlying2 t3
 exact ⟨⟨z0, z1, s2, z3⟩, rfl⟩
theorem mrk_flds {fs : Array Field} (h : Tryz.prog.underlying 57 = some (.struct fs)) : fs.size = 3 ∧ (fs.map (fun f => (f.type, f.offset))).toList = [(53, 0), (55, 9), (4, 13)] := by
 rw [Tryz.underlying57] at h
 cases h
 exact ⟨rfl, by simp⟩
theorem mrk_cells : Tryz.prog.cellsOf 57 = 14 := by kernel_rfl
theorem bool_cellsU : Tryz.prog.cellsOf 4 = 1 := by kernel_rfl
theorem mrk_row {H : Type} {enc : TypeId × Value → H} {w : World} (q : List Value) (n : Nat) (y : DataW H × List MemPlace) (hq : q.length = 14) (h : DataW.trod enc Tryz.prog w 0 (fun _ => true) true n 57 q = some y) : ∃ a : Mrk, q = (mrkC a).toList := by
 obtain ⟨fs, hfs⟩ : ∃ fs, Tryz.prog.underlying 57 = some (.struct fs) := ⟨_, Tryz.underlying57⟩
 obtain ⟨hsz, hty⟩ := mrk_flds hfs
 obtain ⟨xs, n', _, _, _, hlen, hg⟩ := DataW.trod_struct hfs h
 have part : ∀ (j : Nat) (t : TypeId) (f : Nat), [(53, 0), (55, 9), (4, 13)][j]? = some (t, f) → ∃ y, DataW.trod enc Tryz.prog w 0 (fun _ => true) true n' t ((q.drop f).take (Tryz.prog.cellsOf t)) = some y := by
  intro j t f hj; rw [← hty] at hj; simp only [Array.getElem?_toList, Array.getElem?_map] at hj; cases hfj : fs[j]? with
  | none => rw [hfj] at hj; cases hj
  | some fd =>
   rw [hfj] at hj; have e : fd.type = t ∧ fd.offset = f := by simpa using hj
   have h4 := hg j fd hfj; rw [e.1, e.2] at h4; have hj2 : j < fs.size := (zq hfj).1; rw [List.getElem?_eq_getElem (by omega)] at h4; exact ⟨_, h4⟩
 obtain ⟨y0, t0⟩ := part 0 _ _ rfl
 obtain ⟨y1, t1⟩ := part 1 _ _ rfl
 obtain ⟨y2, t2⟩ := part 2 _ _ rfl
 rw [run_cellsU] at t0
 rw [opr_cellsU] at t1
 rw [bool_cellsU] at t2
 obtain ⟨f0, hf0⟩ : ∃ fs, Tryz.prog.underlying 53 = some (.struct fs) := ⟨_, Tryz.underlying53⟩
 obtain ⟨f1, hf1⟩ : ∃ fs, Tryz.prog.underlying 55 = some (.struct fs) := ⟨_, Tryz.underlying55⟩
 have r0 := row_of hf0 (run_fldsU hf0).1 (by rw [(run_fldsU hf0).2.1]; exact run_cellsU) (by rw [(run_fldsU hf0).2.1]; simp; omega) t0
 have r1 := row_of hf1 (opr_fldsU hf1).1 (by rw [(opr_fldsU hf1).2.1]; exact opr_cellsU) (by rw [(opr_fldsU hf1).2.1]; simp; omega) t1
 obtain ⟨a0, e0⟩ := run_rowU hf0 r0
 obtain ⟨a1, e1⟩ := opr_rowU hf1 r1
 obtain ⟨x, hx⟩ : ∃ x, (q.drop 13).take 1 = [x] := by
  have h1 : ((q.drop 13).take 1).length = 1 := by simp; omega
  match hm : (q.drop 13).take 1, h1 with
  | [x], _ => exact ⟨x, rfl⟩
 rw [hx] at t2
 obtain ⟨g, rfl⟩ := bool_one Tryz.underlying4 t2
 refine ⟨⟨a0, a1, g⟩, ?_⟩
 have hsplit : q = (q.drop 0).take 9 ++ ((q.drop 9).take 4 ++ (q.drop 13).take 1) := by
  have h1 : (q.drop 13).take 1 = q.drop 13 := List.take_of_length_le (by simp; omega); rw [h1, List.drop_zero]; have h2 : q.drop 13 = (q.drop 9).drop 4 := by rw [List.drop_drop]
  rw [h2, List.take_append_drop, List.take_append_drop]
 rw [hsplit, e0, e1, hx]
 rfl
def markE (_ : World) (m : Mrk) (c : List Value) : Prop := c = (mrkC m).toList
theorem mkcells_rows {w : World} : ∀ {L : List Mrk} {xs : List Value}, Rows markE w L xs → xs = mkcells L
 | [], _, e => e
 | _ :: _, _, ⟨c, ys, e, h1, h2⟩ => by
  have := mkcells_rows h2
  subst e this
  obtain rfl := h1
  rfl
theorem marks_slc {H : Type} {enc : TypeId × Value → H} {w : World} {n : Nat} {v : Value} {y : DataW H × List MemPlace} (h : DataW.trod enc Tryz.prog w 0 (fun _ => true) true n 43 [v] = some y) : ∃ L : List Mrk, Slc w 14 v L.length (mkcells L) := by
 obtain ⟨L, xs, h1, h2⟩ := slc_ofK (E := markE) Tryz.underlying43 mrk_cells (by omega) h (fun q n y hq hy => mrk_row q n y hq hy)
 rw [mkcells_rows h2] at h1
 exact ⟨L, h1⟩
theorem state28_open {H : Type} {enc : TypeId × Value → H} {w : World} {r : Reach} {b0 : Nat} {v : Value} {d : DataW H} {ps : List MemPlace}
  (hval : Value.okWide Tryz.prog w r b0 45 v) (h : DataW.Trod enc Tryz.prog w 0 (fun _ => true) true 45 v d ps) : ∃ (vl vm : Value) (da : Int) (L : List Ent) (M : List Mrk), v = .agg #[vl, vm, iV da] ∧ Slc w 6 vl L.length (ecells L) ∧ Slc w 14 vm M.length (mkcells M) := by
 obtain ⟨fs, hfs⟩ : ∃ fs, Tryz.prog.underlying 45 = some (.struct fs) := ⟨_, Tryz.underlying45⟩
 obtain ⟨hone, hsz, hty⟩ := state_fldsU hfs
 obtain ⟨cs, rfl, hcs⟩ := okWide_struct hfs hval
 obtain ⟨fuel, hf⟩ := h
 obtain ⟨xs, n', _, _, hl0, hlen, hg⟩ := DataW.trod_struct hfs hf
 rw [state_cellsU] at hl0
 have hR := row_of hfs hone (by rw [hsz]; exact state_cellsU) (hl0.trans hsz.symm) hf
 obtain ⟨v0, v1, v2, he⟩ := row3_of hl0
 rw [he] at hR
 obtain ⟨n0, y0, t0⟩ := hR.at hty 0 _ _ rfl rfl
 obtain ⟨n1, y1, t1⟩ := hR.at hty 1 _ _ rfl rfl
 obtain ⟨n2, y2, t2⟩ := hR.at hty 2 _ _ rfl rfl
 obtain ⟨L, xs0, a0, b0⟩ := Entry_slc t0
 obtain ⟨M, a1⟩ := marks_slc t1
 obtain ⟨z2, rfl, w2⟩ := int_one Tryz.underlying3 t2
 subst b0
 refine ⟨v0, v1, z2, L, M, ?_, a0, a1⟩
 have h6 : cs.toList = [v0, v1, iV z2] := he
 rw [show cs = #[v0, v1, iV z2] from by rw [← h6]]
theorem policy_open {H : Type} {enc : TypeId × Value → H} {w : World} {r : Reach} {b0 : Nat} {v : Value} {d : DataW H} {ps : List MemPlace}
  (hval : Value.okWide Tryz.prog w r b0 42 v) (h : DataW.Trod enc Tryz.prog w 0 (fun _ => true) true 42 v d ps) : ∃ z0 z1 z2 z3 z4 z5 : Int, v = .agg #[iV z0, iV z1, iV z2, iV z3, iV z4, iV z5] := by
 obtain ⟨fs, hfs⟩ : ∃ fs, Tryz.prog.underlying 42 = some (.struct fs) := ⟨_, Tryz.underlying42⟩
 obtain ⟨hone, hsz, hty⟩ := policy_fldsU hfs
 obtain ⟨cs, rfl, hcs⟩ := okWide_struct hfs hval
 obtain ⟨fuel, hf⟩ := h
 obtain ⟨xs, n', _, _, hl0, hlen, hg⟩ := DataW.trod_struct hfs hf
 rw [policy_cellsU] at hl0
 have hR := row_of hfs hone (by rw [hsz]; exact policy_cellsU) (hl0.trans hsz.symm) hf
 obtain ⟨v0, v1, v2, v3, v4, v5, he⟩ := row6_of hl0
 rw [he] at hR
 obtain ⟨n0, y0, t0⟩ := hR.at hty 0 _ _ rfl rfl
 obtain ⟨z0, rfl, w0⟩ := int_one Tryz.underlying2 t0
 obtain ⟨n1, y1, t1⟩ := hR.at hty 1 _ _ rfl rfl
 obtain ⟨z1, rfl, w1⟩ := int_one Tryz.underlying2 t1
 obtain ⟨n2, y2, t2⟩ := hR.at hty 2 _ _ rfl rfl
 obtain ⟨z2, rfl, w2⟩ := int_one Tryz.underlying2 t2
 obtain ⟨n3, y3, t3⟩ := hR.at hty 3 _ _ rfl rfl
 obtain ⟨z3, rfl, w3⟩ := int_one Tryz.underlying2 t3
 obtain ⟨n4, y4, t4⟩ := hR.at hty 4 _ _ rfl rfl
 obtain ⟨z4, rfl, w4⟩ := int_one Tryz.underlying2 t4
 obtain ⟨n5, y5, t5⟩ := hR.at hty 5 _ _ rfl rfl
 obtain ⟨z5, rfl, w5⟩ := int_one Tryz.underlying3 t5
 refine ⟨z0, z1, z2, z3, z4, z5, ?_⟩
 have h6 : cs.toList = [iV z0, iV z1, iV z2, iV z3, iV z4, iV z5] := he
 rw [show cs = #[iV z0, iV z1, iV z2, iV z3, iV z4, iV z5] from by rw [← h6]]
theorem modelStays_any (w : World) (hK : KwIn w) (s : Sch) (ur us ug : Value) (hS : SchR w s ur us ug) (pf pc pn pd ps pm kp nn th nw da db : Int) (va vb vc vd : Value) (L R : List Ent) (M N : List Mrk) (hA : Slc w 6 va L.length (ecells L)) (hB : Slc w 6 vb R.length (ecells R)) (hC : Slc w 14 vc M.length (mkcells M)) (hD : Slc w 14 vd N.length (mkcells N)) :
  Calls Tryz.prog 4 #[.agg #[sT s.name, ur, us, ug], .agg #[iV pf, iV pc, iV pn, iV pd, iV ps, iV pm], iV kp, iV nn, iV th, iV nw, .agg #[va, vc, iV da], .agg #[vb, vd, iV db]] w fun x w' => x = .returned (.bool true) ∧ Below w.heap.size w w' := by
 obtain ⟨⟨ra, rv, rfl⟩, ⟨sa, sv, rfl⟩, ⟨ga, gv, rfl⟩⟩ := hS.shape
 obtain ⟨la, lc, rfl⟩ := hA.shape
 obtain ⟨lb, le, rfl⟩ := hB.shape
 obtain ⟨ma, mc, rfl⟩ := hC.shape
 obtain ⟨mb, me, rfl⟩ := hD.shape
 exact stays_walk w hK s ra sa ga la ma lb mb rv sv gv lc mc le me pf pc pn pd ps pm kp nn th nw da db L R M N hS hA hB hC hD
end
end Go.Proofs.YtgoejmheihgpfaaGreatDoor
