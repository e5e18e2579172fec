/- Lemmas for ModelStays' proof. -/
import Derived.Deep.DeepCutAuto
import Derived.Test.YtgoejmheihgpfaaGreatDoorTp
namespace Go.Proofs.YtgoejmheihgpfaaGreatDoor
set_option maxRecDepth 100000
set_option maxHeartbeats 16000000
open Go.RowKit
def AltP (M N : List Mrk) : Prop := ∃ i, OneP M N i ∧ ∀ (h1 : i < M.length) (h2 : i < N.length), overA M[i].run = false ∧ N[i].run.id = M[i].run.id
def AltR (M N : List Mrk) (x : Ending) : Prop := ∃ q : Bool, x = .returned (.bool q) ∧ (q = true → AltP M N)
def TwoR (w0 w : World) (cs : Array Value) (gs : Nat) (x y : Mrk) (va vb : Value) (wc : World) : Prop :=
 ∃ A B, va = .pointer (some ⟨A, 0, none⟩) ∧ vb = .pointer (some ⟨B, 0, none⟩) ∧ w0.heap.size ≤ A ∧ w0.heap.size ≤ B ∧ A ≠ B ∧ A ≠ gs ∧ B ≠ gs ∧ wc.heap[A]? = some (.cells (mrkC x) 57 (0, 0)) ∧ wc.heap[B]? = some (.cells (mrkC y) 57 (0, 0)) ∧ wc.heap[gs]? = some (.cells cs 102 (0, 0)) ∧ Below w0.heap.size w0 wc
theorem mrk_there {w : World} {c : Nat} {a : Option Addr} {L : List Mrk} (h : Slc w 14 (.slice a L.length c) L.length (mkcells L)) {k : Nat} (hk : k < L.length) :
  ∃ b o, a = some ⟨b, o, none⟩ ∧ ∀ W, Below w.heap.size w W → ∀ j u, (mrkC L[k])[j]? = some u → W.cell? ⟨b, o + k * 14 + j, none⟩ = some u := by
 obtain ⟨b, o, rfl, hb, hp⟩ := mrk_at h hk
 exact ⟨b, o, rfl, fun W X j u hu => (X.cell (p := ⟨b, o + k * 14 + j, none⟩) hb).trans (hp j u hu)⟩
theorem wish_any (w : World) (hK : KwIn w) (s : Sch) (ra sa ga la ma lb mb : Option Addr) (rv sv gv lc mc le me : Nat) (pf pc pn pd ps pm kp nn th nw da db : Int) (L R : List Ent) (M N : List Mrk) (hS : SchR w s (.slice ra s.records.length rv) (.slice sa s.services.length sv) (.slice ga s.sagas.length gv)) (hM : Small s) (hA : Slc w 6 (.slice la L.length lc) L.length (ecells L)) (hB : Slc w 6 (.slice lb R.length le) R.length (ecells R)) (hC : Slc w 14 (.slice ma M.length mc) M.length (mkcells M)) (hD : Slc w 14 (.slice mb N.length me) N.length (mkcells N)) (hn : M.length ≤ 1000) (hR : ∀ m ∈ M, RunSmall m.run) :
  Calls Tryz.prog 41 #[.agg (sW s ra sa ga la ma lb mb rv sv gv lc mc le me pf pc pn pd ps pm kp nn th nw da db L R M N)] w fun x w' => AltR M N x ∧ Below w.heap.size w w' := by
 have HFA := zD (show AltR M N (.returned (.bool false)) from ⟨false, rfl, fun h => by cases h⟩)
 have HCH := zD (fun W (X : Below w.heap.size w W) => changed_any W s ra sa ga la ma lb mb rv sv gv lc mc le me pf pc pn pd ps pm kp nn th nw da db L R M N (hC.below X) (hD.below X) hn)
 have HSL := zD (fun W (X : Below w.heap.size w W) => still_any W s ra sa ga la ma lb mb rv sv gv lc mc le me pf pc pn pd ps pm kp nn th nw da db L R M N (hA.below X) (hB.below X))
 have HOT := zD (fun W (X : Below w.heap.size w W) one => others_any W s ra sa ga la ma lb mb rv sv gv lc mc le me pf pc pn pd ps pm kp nn th nw da db L R M N one (hC.below X) (hD.below X) hn)
 have HSS := zD (fun W (X : Below w.heap.size w W) r (hr : RunSmall r) => sstop_any W (hK.below X) s _ _ _ (hS.below X) hM r hr nn)
 have HCC := zD hC
 have HDD := zD hD
 have HRR := zD hR
 have HB0 := zD (Below.refl w.heap.size w)
 clear hK hS hM hA hB hC hD hn hR
 go_enter Tryz.func41, Tryz.ntmps41
 go_upto_region 1 with (first | (refine zO 102 0 rfl ?_; intro W1 g1 hg1 hx1; have Hb11 := zD hx1.blk; have db1 := zM HB0 hg1; have HB1 := zE hx1 HB0 db1; clear HB0 hg1 hx1))
 go_wp2_with (first | (refine zS 102 1 0 (load_f102 Hb11.out (by rfl)) ?_))
 refine (HCH.out _ HB1.out).mono ?_
 rintro e w2 ⟨⟨i, rfl, hi⟩, hb⟩
 have Hb12 := zB hb Hb11
 clear Hb11
 have HB2 := zT HB1 hb
 clear HB1 hb
 have HI := zD hi
 clear hi
 go_upto_region 2 with (fail)
 by_cases h0 : i < 0
 case pos =>
  have d0 : decide (i < 0) = true := by simp [h0]
  go_wp2_with fail; exact zR (v := .bool false) ⟨HFA.out, HB2.out⟩
 have d0 : decide (i < 0) = false := by simp; omega
 obtain ⟨k, rfl, hone⟩ := HI.out.resolve_left (by omega)
 have HONE := zD hone
 clear HI h0 hone
 have HSL2 := zD (HSL.out w2 HB2.out)
 generalize entsEq L R = q at *
 go_wp2_with (first | (refine zS 102 1 0 (load_f102 Hb12.out (by rfl)) ?_))
 refine HSL2.out.mono ?_
 rintro e w3 ⟨rfl, hb⟩
 have Hb13 := zB hb Hb12
 clear Hb12
 have HB3 := zT HB2 hb
 clear HB2 hb
 clear HSL2
 cases q with
 | false =>
  go_wp2_with fail; exact zR (v := .bool false) ⟨HFA.out, HB3.out⟩
 | true =>
  by_cases c2 : da = db
  case neg =>
   have d4 : (da != db) = true := by rw [bne_iff_ne]; exact c2
   go_wp2_with (first | (refine zV 3 21 16 agg_t3 Hb13 rfl ?_) | (refine zV 3 24 19 agg_t3 Hb13 rfl ?_)); exact zR (v := .bool false) ⟨HFA.out, HB3.out⟩
  have d4 : (da != db) = false := by rw [bne_eq_false_iff_eq]; exact c2
  clear c2; have HOT3 := zD (HOT.out w3 HB3.out (k : Nat)); generalize othersA nw (k : Nat) M N = q at *; go_wp2_with (first | (refine zV 3 21 16 agg_t3 Hb13 rfl ?_) | (refine zV 3 24 19 agg_t3 Hb13 rfl ?_) | (refine zS 102 1 0 (load_f102 Hb13.out (by rfl)) ?_)); refine HOT3.out.mono ?_; rintro e w4 ⟨rfl, hb⟩; have Hb14 := zB hb Hb13; clear Hb13; have HB4 := zT HB3 hb; clear HB3 hb; clear HOT3 d4; cases q with
  | false =>
   go_wp2_with fail; exact zR (v := .bool false) ⟨HFA.out, HB4.out⟩
  | true =>
   go_upto_region 4 with (fail); have HK1 := zD (show k < M.length from HONE.out.2.choose); have HK2 := zD (show k < N.length from HONE.out.2.choose_spec.choose); obtain ⟨b1, o1, rfl, hp⟩ := mrk_there (w := w) HCC.out HK1.out; obtain ⟨b2, o2, rfl, hq⟩ := mrk_there (w := w) HDD.out HK2.out; have HP := zD hp; have HQ := zD hq; clear hp hq; generalize hmx : M[k]'HK1.out = x at *; generalize hmy : N[k]'HK2.out = y at *; have HMX := zD hmx; have HMY := zD hmy; clear hmx hmy; have hi1 : (0 : Int) ≤ (k : Int) := by omega
   have hi2 : (k : Int) < (M.length : Int) := by have := HK1.out; omega
   have hi3 : (k : Int) < (N.length : Int) := by have := HK2.out; omega
   obtain ⟨⟨xi, xs, xa, xat, xph, xtr, xst, xwh, xvl⟩, ⟨xos, xoc, xov, xod⟩, xg⟩ := x; obtain ⟨⟨yi, ys, ya, yat, yph, ytr, yst, ywh, yvl⟩, ⟨yos, yoc, yov, yod⟩, yg⟩ := y; go_cut [4, 5] (fun va vb wc => TwoR w w4 (sW s ra sa ga la (some ⟨b1, o1, none⟩) lb (some ⟨b2, o2, none⟩) rv sv gv lc mc le me pf pc pn pd ps pm kp nn th nw da db L R M N) g1 ⟨⟨xi, xs, xa, xat, xph, xtr, xst, xwh, xvl⟩, ⟨xos, xoc, xov, xod⟩, xg⟩ ⟨⟨yi, ys, ya, yat, yph, ytr, yst, ywh, yvl⟩, ⟨yos, yoc, yov, yod⟩, yg⟩ va vb wc)
   case first =>
    refine wp_region_noPanic ?_; have Hb14d := zD (show w4.drew.heap[g1]? = _ from Hb14.out); clear Hb14; have HB4d := zD (show Below w.heap.size w w4.drew from HB4.out.trans ⟨rfl, rfl, rfl, zn, fun _ _ => rfl⟩); clear HB4; refine wp_region_held_drew (S := fun w' => w'.heap[g1]? = some (.cells (sW s ra sa ga la (some ⟨b1, o1, none⟩) lb (some ⟨b2, o2, none⟩) rv sv gv lc mc le me pf pc pn pd ps pm kp nn th nw da db L R M N) 102 (0, 0)) ∧ Below w.heap.size w w') (by kernel_rfl) (⟨Hb14d.out, HB4d.out⟩) (fun hHeld => ?_); generalize w4.drew = W5 at *; refine zJ 0 34 rfl ?_; refine zJ 1 35 rfl ?_; refine zI 2 36 rfl (fun wS hS => run_loadC_op 43 (.tmp 35) (by rfl) _ 15 (by rfl) (.slice (some ⟨b1, o1, none⟩) M.length mc) agg_t43 hS.1 (by rfl)) ?_; refine zJ 3 37 rfl ?_; refine zJ 4 38 rfl ?_; refine zI 5 39 rfl (fun wS hS => run_load_op 57 (.tmp 38) (by rfl) _ _ (by rfl) (.agg #[sT xi, sT xs, sT xa, iV xat, .int .u8 (xph : Nat), iV xtr, .bool xst, iV xwh, sT xvl, iV xos, iV xoc, sT xov, iV xod, .bool xg]) (load_mrk (x := ⟨⟨xi, xs, xa, xat, xph, xtr, xst, xwh, xvl⟩, ⟨xos, xoc, xov, xod⟩, xg⟩) (HP.out _ hS.2))) ?_; refine zJ 6 40 rfl ?_; refine zJ 7 41 rfl ?_; refine zI 8 42 rfl (fun wS hS => run_loadC_op 43 (.tmp 41) (by rfl) _ 18 (by rfl) (.slice (some ⟨b2, o2, none⟩) N.length me) agg_t43 hS.1 (by rfl)) ?_; refine zJ 9 43 rfl ?_; refine zJ 10 44 rfl ?_; refine zI 11 45 rfl (fun wS hS => run_load_op 57 (.tmp 44) (by rfl) _ _ (by rfl) (.agg #[sT yi, sT ys, sT ya, iV yat, .int .u8 (yph : Nat), iV ytr, .bool yst, iV ywh, sT yvl, iV yos, iV yoc, sT yov, iV yod, .bool yg]) (load_mrk (x := ⟨⟨yi, ys, ya, yat, yph, ytr, yst, ywh, yvl⟩, ⟨yos, yoc, yov, yod⟩, yg⟩) (HQ.out _ hS.2))) ?_; refine zy [12, 13] ?_; refine zg (some 4) rfl (fun K hK => ?_) ?_
    ·refine zQ 57 zero_t57 ?_
     intro W6 g6 hg6 hx6; have Hb66 := zD hx6.blk; have db6 := zM HB4d hg6; have Hb16 := zN hx6 hg6 Hb14d; have nb6b1 := newer hg6 Hb14d.out; have HB6 := zE hx6 HB4d db6; clear Hb14d HB4d hg6 hx6; refine hK.out _ _ (⟨Hb16.out, HB6.out⟩) (fun hHeld => ?_); clear hK K; try simp only [Act.put, zX, zY, zZ]
     refine zy [13] ?_; refine zg (some 5) rfl (fun K hK => ?_) ?_
     ·refine zQ 57 zero_t57 ?_
      intro W7 g7 hg7 hx7; have Hb77 := zD hx7.blk; have db7 := zM HB6 hg7; have Hb17 := zN hx7 hg7 Hb16; have nb7b1 := newer hg7 Hb16.out; have Hb67 := zN hx7 hg7 Hb66; have nb7b6 := newer hg7 Hb66.out; have HB7 := zE hx7 HB6 db7; clear Hb16 Hb66 HB6 hg7 hx7; refine hK.out _ _ (⟨Hb17.out, HB7.out⟩) (fun hHeld => ?_); clear hK K; try simp only [Act.put, zX, zY, zZ]
      refine zy [14] ?_; refine zg none rfl (fun K hK => ?_) ?_
      ·refine zP 57 4 39 rfl Hb67 ?_
       intro W8 hx8; have Hb68 := zD hx8.blk; have Hb18 := zH hx8 nb6b1.symm Hb17; have Hb78 := zH hx8 nb7b6 Hb77; have HB8 := zE hx8 HB7 db6; clear hx8 Hb17 Hb77 HB7 Hb67; refine hK.out _ _ (⟨Hb18.out, HB8.out⟩) (fun hHeld => ?_); clear hK K; try simp only [Act.put, zX, zY, zZ]
       refine zy [15] ?_; refine zg none rfl (fun K hK => ?_) ?_
       ·refine zP 57 5 45 rfl Hb78 ?_
        intro W9 hx9; have Hb79 := zD hx9.blk; have Hb19 := zH hx9 nb7b1.symm Hb18; have Hb69 := zH hx9 nb7b6.symm Hb68; have HB9 := zE hx9 HB8 db7; clear hx9 Hb18 Hb68 HB8 Hb78; refine hK.out _ _ (⟨Hb19.out, HB9.out⟩) (fun hHeld => ?_); clear hK K; try simp only [Act.put, zX, zY, zZ]
        refine wpAnyH_done (by kernel_rfl) ?_ _; refine NoPanic.normal ?_; go_wp2_with fail; go_meet
        case rel => exact ⟨_, _, rfl, rfl, db6, db7, nb7b6.symm, nb6b1, nb7b1, Hb69.out, Hb79.out, Hb19.out, HB9.out⟩
       exact zh
      exact zh
     exact zh
    refine zg (some 5) rfl (fun K hK => ?_) ?_
    ·refine zQ 57 zero_t57 ?_
     intro W6 g6 hg6 hx6; have Hb66 := zD hx6.blk; have db6 := zM HB4d hg6; have Hb16 := zN hx6 hg6 Hb14d; have nb6b1 := newer hg6 Hb14d.out; have HB6 := zE hx6 HB4d db6; clear Hb14d HB4d hg6 hx6; refine hK.out _ _ (⟨Hb16.out, HB6.out⟩) (fun hHeld => ?_); clear hK K; try simp only [Act.put, zX, zY, zZ]
     refine zy [12] ?_; refine zg (some 4) rfl (fun K hK => ?_) ?_
     ·refine zQ 57 zero_t57 ?_
      intro W7 g7 hg7 hx7; have Hb77 := zD hx7.blk; have db7 := zM HB6 hg7; have Hb17 := zN hx7 hg7 Hb16; have nb7b1 := newer hg7 Hb16.out; have Hb67 := zN hx7 hg7 Hb66; have nb7b6 := newer hg7 Hb66.out; have HB7 := zE hx7 HB6 db7; clear Hb16 Hb66 HB6 hg7 hx7; refine hK.out _ _ (⟨Hb17.out, HB7.out⟩) (fun hHeld => ?_); clear hK K; try simp only [Act.put, zX, zY, zZ]
      refine zy [14] ?_; refine zg none rfl (fun K hK => ?_) ?_
      ·refine zP 57 4 39 rfl Hb77 ?_
       intro W8 hx8; have Hb78 := zD hx8.blk; have Hb18 := zH hx8 nb7b1.symm Hb17; have Hb68 := zH hx8 nb7b6.symm Hb67; have HB8 := zE hx8 HB7 db7; clear hx8 Hb17 Hb67 HB7 Hb77; refine hK.out _ _ (⟨Hb18.out, HB8.out⟩) (fun hHeld => ?_); clear hK K; try simp only [Act.put, zX, zY, zZ]
       refine zy [15] ?_; refine zg none rfl (fun K hK => ?_) ?_
       ·refine zP 57 5 45 rfl Hb68 ?_
        intro W9 hx9; have Hb69 := zD hx9.blk; have Hb19 := zH hx9 nb6b1.symm Hb18; have Hb79 := zH hx9 nb7b6 Hb78; have HB9 := zE hx9 HB8 db6; clear hx9 Hb18 Hb78 HB8 Hb68; refine hK.out _ _ (⟨Hb19.out, HB9.out⟩) (fun hHeld => ?_); clear hK K; try simp only [Act.put, zX, zY, zZ]
        refine wpAnyH_done (by kernel_rfl) ?_ _; refine NoPanic.normal ?_; go_wp2_with fail; go_meet
        case rel => exact ⟨_, _, rfl, rfl, db7, db6, nb7b6, nb7b1, nb6b1, Hb79.out, Hb69.out, Hb19.out, HB9.out⟩
       exact zh
      exact zh
     exact zh
    exact zh
   case rest =>
    obtain ⟨A, B, rfl, rfl, dA, dB, nAB, nAS, nBS, hA, hB, hX, hW⟩ := hcut; unfold mrkC at hA hB; have HXc := zD hX; have HAc := zD hA; have HBc := zD hB; have HWc := zD hW; clear hX hA hB hW; have HSP := zD (fun W (X : Below w.heap.size w W) => HSS.out W X ⟨xi, xs, xa, xat, xph, xtr, xst, xwh, xvl⟩ (by have := HRR.out _ (List.getElem_mem HK1.out); rw [HMX.out] at this; exact this))
    have HVQ := zD (fun (q : Run) (e : Nat) (ho : StopR ⟨xi, xs, xa, xat, xph, xtr, xst, xwh, xvl⟩ q e) (he : e = 0) (hr : runEq q ⟨yi, ys, ya, yat, yph, ytr, yst, ywh, yvl⟩ = true) => show AltR M N (.returned (.bool true)) from ⟨true, rfl, fun _ => ⟨k, HONE.out, fun h1 h2 => by
        rw [HMX.out, HMY.out]; obtain ⟨p1, p2⟩ := ho he; have := (runEq_iff _ _).1 hr; subst this; exact ⟨by simp at p1; simp [overA, p1], p2⟩⟩⟩)
    unfold runC at HSP; dsimp only at HSP; go_wp2_with (first | (refine zS 26 47 0 (load_t26 HXc.out 0 (sV s ra sa ga rv sv gv) (by rfl) (by kernel_rfl)) ?_) | (refine zS 53 49 0 (load_t53 HAc.out 0 #[sT xi, sT xs, sT xa, iV xat, .int .u8 (xph : Nat), iV xtr, .bool xst, iV xwh, sT xvl] (by rfl) (by kernel_rfl)) ?_) | (refine zV 3 51 11 agg_t3 HXc rfl ?_)); refine (HSP.out _ HWc.out).mono ?_; rintro e5 w5 ⟨⟨⟨qi, qs, qa, qat, qph, qtr, qst, qwh, qvl⟩, l, e, ⟨l0, l1, l2, l3, l5, l8, l4, l6, l7, l9, rfl⟩, rfl, hst⟩, hb⟩; have Hb15 := zB hb HXc; clear HXc; have HbA5 := zB hb HAc; clear HAc; have HbB5 := zB hb HBc; clear HBc; have HB5 := zT HWc hb; clear HWc hb; have HST := zD hst; clear hst HSP; go_upto_region 6 with (first | (refine zA 53 zero_t53 ?_; intro W6 g6 hg6 hx6; have Hb66 := zD hx6.blk; have db6 := zM HB5 hg6; have Hb16 := zN hx6 hg6 Hb15; have nb6b1 := newer hg6 Hb15.out; have HbA6 := zN hx6 hg6 HbA5; have nb6bA := newer hg6 HbA5.out; have HbB6 := zN hx6 hg6 HbB5; have nb6bB := newer hg6 HbB5.out; have HB6 := zE hx6 HB5 db6; clear Hb15 HbA5 HbB5 HB5 hg6 hx6) | (refine zA 63 zero_t63 ?_; intro W7 g7 hg7 hx7; have Hb77 := zD hx7.blk; have db7 := zM HB6 hg7; have Hb17 := zN hx7 hg7 Hb16; have nb7b1 := newer hg7 Hb16.out; have HbA7 := zN hx7 hg7 HbA6; have nb7bA := newer hg7 HbA6.out; have HbB7 := zN hx7 hg7 HbB6; have nb7bB := newer hg7 HbB6.out; have Hb67 := zN hx7 hg7 Hb66; have nb7b6 := newer hg7 Hb66.out; have HB7 := zE hx7 HB6 db7; clear Hb16 HbA6 HbB6 Hb66 HB6 hg7 hx7) | (refine zW 53 6 54 rfl Hb67 ?_; intro W8 hx8; have Hb68 := zD hx8.blk; have Hb18 := zH hx8 nb6b1.symm Hb17; have HbA8 := zH hx8 nb6bA.symm HbA7; have HbB8 := zH hx8 nb6bB.symm HbB7; have Hb78 := zH hx8 nb7b6 Hb77; have HB8 := zE hx8 HB7 db6; clear hx8 Hb17 HbA7 HbB7 Hb77 HB7 Hb67) | (refine zW 63 7 55 rfl Hb78 ?_; intro W9 hx9; have Hb79 := zD hx9.blk; have Hb19 := zH hx9 nb7b1.symm Hb18; have HbA9 := zH hx9 nb7bA.symm HbA8; have HbB9 := zH hx9 nb7bB.symm HbB8; have Hb69 := zH hx9 nb7b6.symm Hb68; have HB9 := zE hx9 HB8 db7; clear hx9 Hb18 HbA8 HbB8 Hb68 HB8 Hb78)); go_upto_region 7 with (first | (refine zS 55 57 9 (load_t55 HbA9.out 9 #[iV xos, iV xoc, sT xov, iV xod] (by rfl) (by kernel_rfl)) ?_) | (refine zA 55 zero_t55 ?_; intro W10 g10 hg10 hx10; have Hb1010 := zD hx10.blk; have db10 := zM HB9 hg10; have Hb110 := zN hx10 hg10 Hb19; have nb10b1 := newer hg10 Hb19.out; have HbA10 := zN hx10 hg10 HbA9; have nb10bA := newer hg10 HbA9.out; have HbB10 := zN hx10 hg10 HbB9; have nb10bB := newer hg10 HbB9.out; have Hb610 := zN hx10 hg10 Hb69; have nb10b6 := newer hg10 Hb69.out; have Hb710 := zN hx10 hg10 Hb79; have nb10b7 := newer hg10 Hb79.out; have HB10 := zE hx10 HB9 db10; clear Hb19 HbA9 HbB9 Hb69 Hb79 HB9 hg10 hx10) | (refine zW 55 9 58 rfl Hb1010 ?_; intro W11 hx11; have Hb1011 := zD hx11.blk; have Hb111 := zH hx11 nb10b1.symm Hb110; have HbA11 := zH hx11 nb10bA.symm HbA10; have HbB11 := zH hx11 nb10bB.symm HbB10; have Hb611 := zH hx11 nb10b6.symm Hb610; have Hb711 := zH hx11 nb10b7.symm Hb710; have HB11 := zE hx11 HB10 db10; clear hx11 Hb110 HbA10 HbB10 Hb610 Hb710 HB10 Hb1010)); cases xg with
    | true =>
     go_upto_region 9 with (first | (refine zV 4 59 13 agg_t4 HbA11 rfl ?_)); have hro := fun W => run_eql ⟨qi, qs, qa, qat, qph, qtr, qst, qwh, qvl⟩ ⟨yi, ys, ya, yat, yph, ytr, yst, ywh, yvl⟩ W
     have hrg := fun X Y W => run_eqlg ⟨qi, qs, qa, qat, qph, qtr, qst, qwh, qvl⟩ ⟨yi, ys, ya, yat, yph, ytr, yst, ywh, yvl⟩ X Y W
     have hoo := fun W => opr_eql ⟨xos, xoc, xov, xod⟩ ⟨yos, yoc, yov, yod⟩ W
     have hog := fun X Y W => opr_eqlg ⟨xos, xoc, xov, xod⟩ ⟨yos, yoc, yov, yod⟩ X Y W
     unfold runC at hro hrg; unfold oprC at hoo hog; dsimp only at hro hrg hoo hog; have HVR := zD (fun he hr => HVQ.out ⟨qi, qs, qa, qat, qph, qtr, qst, qwh, qvl⟩ e HST.out he hr); generalize runEq ⟨qi, qs, qa, qat, qph, qtr, qst, qwh, qvl⟩ ⟨yi, ys, ya, yat, yph, ytr, yst, ywh, yvl⟩ = RQ at *; generalize oprEq ⟨xos, xoc, xov, xod⟩ ⟨yos, yoc, yov, yod⟩ = OQ at *; by_cases he : e = 0
     case neg =>
      have d5 : (((e : Nat) : Int) == 0) = false := by rw [zb]; omega
      clear he; go_wp2_with fail; exact zR (v := .bool false) ⟨HFA.out, HB11.out⟩
     have d5 : (((e : Nat) : Int) == 0) = true := by rw [beq_iff_eq]; omega
     have HE := zD he; clear he; cases RQ with
     | false =>
      go_wp2_with (first | (refine zS 53 6 0 (load_f53 Hb611.out (by rfl)) ?_) | (refine zS 53 67 0 (load_t53 HbB11.out 0 #[sT yi, sT ys, sT ya, iV yat, .int .u8 (yph : Nat), iV ytr, .bool yst, iV ywh, sT yvl] (by rfl) (by kernel_rfl)) ?_) | (refine zV 4 72 13 agg_t4 HbA11 rfl ?_) | (refine zV 4 74 13 agg_t4 HbB11 rfl ?_) | (refine zS 55 9 0 (load_f55 Hb1011.out (by rfl)) ?_) | (refine zS 55 80 9 (load_t55 HbB11.out 9 #[iV yos, iV yoc, sT yov, iV yod] (by rfl) (by kernel_rfl)) ?_)); exact zR (v := .bool false) ⟨HFA.out, HB11.out⟩
     | true =>
      cases yg with
      | true =>
       cases OQ with
       | false =>
        go_wp2_with (first | (refine zS 53 6 0 (load_f53 Hb611.out (by rfl)) ?_) | (refine zS 53 67 0 (load_t53 HbB11.out 0 #[sT yi, sT ys, sT ya, iV yat, .int .u8 (yph : Nat), iV ytr, .bool yst, iV ywh, sT yvl] (by rfl) (by kernel_rfl)) ?_) | (refine zV 4 72 13 agg_t4 HbA11 rfl ?_) | (refine zV 4 74 13 agg_t4 HbB11 rfl ?_) | (refine zS 55 9 0 (load_f55 Hb1011.out (by rfl)) ?_) | (refine zS 55 80 9 (load_t55 HbB11.out 9 #[iV yos, iV yoc, sT yov, iV yod] (by rfl) (by kernel_rfl)) ?_)); exact zR (v := .bool false) ⟨HFA.out, HB11.out⟩
       | true =>
        go_wp2_with (first | (refine zS 53 6 0 (load_f53 Hb611.out (by rfl)) ?_) | (refine zS 53 67 0 (load_t53 HbB11.out 0 #[sT yi, sT ys, sT ya, iV yat, .int .u8 (yph : Nat), iV ytr, .bool yst, iV ywh, sT yvl] (by rfl) (by kernel_rfl)) ?_) | (refine zV 4 72 13 agg_t4 HbA11 rfl ?_) | (refine zV 4 74 13 agg_t4 HbB11 rfl ?_) | (refine zS 55 9 0 (load_f55 Hb1011.out (by rfl)) ?_) | (refine zS 55 80 9 (load_t55 HbB11.out 9 #[iV yos, iV yoc, sT yov, iV yod] (by rfl) (by kernel_rfl)) ?_)); exact zR (v := .bool true) ⟨HVR.out HE.out (by simp), HB11.out⟩
      | false =>
       go_wp2_with (first | (refine zS 53 6 0 (load_f53 Hb611.out (by rfl)) ?_) | (refine zS 53 67 0 (load_t53 HbB11.out 0 #[sT yi, sT ys, sT ya, iV yat, .int .u8 (yph : Nat), iV ytr, .bool yst, iV ywh, sT yvl] (by rfl) (by kernel_rfl)) ?_) | (refine zV 4 72 13 agg_t4 HbA11 rfl ?_) | (refine zV 4 74 13 agg_t4 HbB11 rfl ?_) | (refine zS 55 9 0 (load_f55 Hb1011.out (by rfl)) ?_) | (refine zS 55 80 9 (load_t55 HbB11.out 9 #[iV yos, iV yoc, sT yov, iV yod] (by rfl) (by kernel_rfl)) ?_)); exact zR (v := .bool false) ⟨HFA.out, HB11.out⟩
    | false =>
     go_upto_region 8 with (first | (refine zV 4 59 13 agg_t4 HbA11 rfl ?_)); go_upto_region 9 with (first | (refine zC 3 62 (.const (iV 2)) 0 (iV 2) Hb1011 ?_; intro W12 hx12; have Hb1012 := zD hx12.blk; have Hb112 := zH hx12 nb10b1.symm Hb111; have HbA12 := zH hx12 nb10bA.symm HbA11; have HbB12 := zH hx12 nb10bB.symm HbB11; have Hb612 := zH hx12 nb10b6.symm Hb611; have Hb712 := zH hx12 nb10b7.symm Hb711; have HB12 := zE hx12 HB11 db10; clear hx12 Hb111 HbA11 HbB11 Hb611 Hb711 HB11 Hb1011)); have hro := fun W => run_eql ⟨qi, qs, qa, qat, qph, qtr, qst, qwh, qvl⟩ ⟨yi, ys, ya, yat, yph, ytr, yst, ywh, yvl⟩ W
     have hrg := fun X Y W => run_eqlg ⟨qi, qs, qa, qat, qph, qtr, qst, qwh, qvl⟩ ⟨yi, ys, ya, yat, yph, ytr, yst, ywh, yvl⟩ X Y W
     have hoo := fun W => opr_eql ⟨2, xoc, xov, xod⟩ ⟨yos, yoc, yov, yod⟩ W
     have hog := fun X Y W => opr_eqlg ⟨2, xoc, xov, xod⟩ ⟨yos, yoc, yov, yod⟩ X Y W
     unfold runC at hro hrg; unfold oprC at hoo hog; dsimp only at hro hrg hoo hog; have HVR := zD (fun he hr => HVQ.out ⟨qi, qs, qa, qat, qph, qtr, qst, qwh, qvl⟩ e HST.out he hr); generalize runEq ⟨qi, qs, qa, qat, qph, qtr, qst, qwh, qvl⟩ ⟨yi, ys, ya, yat, yph, ytr, yst, ywh, yvl⟩ = RQ at *; generalize oprEq ⟨2, xoc, xov, xod⟩ ⟨yos, yoc, yov, yod⟩ = OQ at *; by_cases he : e = 0
     case neg =>
      have d5 : (((e : Nat) : Int) == 0) = false := by rw [zb]; omega
      clear he; go_wp2_with fail; exact zR (v := .bool false) ⟨HFA.out, HB12.out⟩
     have d5 : (((e : Nat) : Int) == 0) = true := by rw [beq_iff_eq]; omega
     have HE := zD he; clear he; cases RQ with
     | false =>
      go_wp2_with (first | (refine zS 53 6 0 (load_f53 Hb612.out (by rfl)) ?_) | (refine zS 53 67 0 (load_t53 HbB12.out 0 #[sT yi, sT ys, sT ya, iV yat, .int .u8 (yph : Nat), iV ytr, .bool yst, iV ywh, sT yvl] (by rfl) (by kernel_rfl)) ?_) | (refine zV 4 72 13 agg_t4 HbA12 rfl ?_) | (refine zV 4 74 13 agg_t4 HbB12 rfl ?_) | (refine zS 55 9 0 (load_f55 Hb1012.out (by rfl)) ?_) | (refine zS 55 80 9 (load_t55 HbB12.out 9 #[iV yos, iV yoc, sT yov, iV yod] (by rfl) (by kernel_rfl)) ?_)); exact zR (v := .bool false) ⟨HFA.out, HB12.out⟩
     | true =>
      cases yg with
      | true =>
       go_wp2_with (first | (refine zS 53 6 0 (load_f53 Hb612.out (by rfl)) ?_) | (refine zS 53 67 0 (load_t53 HbB12.out 0 #[sT yi, sT ys, sT ya, iV yat, .int .u8 (yph : Nat), iV ytr, .bool yst, iV ywh, sT yvl] (by rfl) (by kernel_rfl)) ?_) | (refine zV 4 72 13 agg_t4 HbA12 rfl ?_) | (refine zV 4 74 13 agg_t4 HbB12 rfl ?_) | (refine zS 55 9 0 (load_f55 Hb1012.out (by rfl)) ?_) | (refine zS 55 80 9 (load_t55 HbB12.out 9 #[iV yos, iV yoc, sT yov, iV yod] (by rfl) (by kernel_rfl)) ?_)); exact zR (v := .bool false) ⟨HFA.out, HB12.out⟩
      | false =>
       cases OQ with
       | false =>
        go_wp2_with (first | (refine zS 53 6 0 (load_f53 Hb612.out (by rfl)) ?_) | (refine zS 53 67 0 (load_t53 HbB12.out 0 #[sT yi, sT ys, sT ya, iV yat, .int .u8 (yph : Nat), iV ytr, .bool yst, iV ywh, sT yvl] (by rfl) (by kernel_rfl)) ?_) | (refine zV 4 72 13 agg_t4 HbA12 rfl ?_) | (refine zV 4 74 13 agg_t4 HbB12 rfl ?_) | (refine zS 55 9 0 (load_f55 Hb1012.out (by rfl)) ?_) | (refine zS 55 80 9 (load_t55 HbB12.out 9 #[iV yos, iV yoc, sT yov, iV yod] (by rfl) (by kernel_rfl)) ?_)); exact zR (v := .bool false) ⟨HFA.out, HB12.out⟩
       | true =>
        go_wp2_with (first | (refine zS 53 6 0 (load_f53 Hb612.out (by rfl)) ?_) | (refine zS 53 67 0 (load_t53 HbB12.out 0 #[sT yi, sT ys, sT ya, iV yat, .int .u8 (yph : Nat), iV ytr, .bool yst, iV ywh, sT yvl] (by rfl) (by kernel_rfl)) ?_) | (refine zV 4 72 13 agg_t4 HbA12 rfl ?_) | (refine zV 4 74 13 agg_t4 HbB12 rfl ?_) | (refine zS 55 9 0 (load_f55 Hb1012.out (by rfl)) ?_) | (refine zS 55 80 9 (load_t55 HbB12.out 9 #[iV yos, iV yoc, sT yov, iV yod] (by rfl) (by kernel_rfl)) ?_)); exact zR (v := .bool true) ⟨HVR.out HE.out (by simp), HB12.out⟩
end Go.Proofs.YtgoejmheihgpfaaGreatDoor
