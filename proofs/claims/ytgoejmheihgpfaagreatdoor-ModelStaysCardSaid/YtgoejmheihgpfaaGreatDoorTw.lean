/- Lemmas for ModelStays' proof. -/
import Derived.Deep.DeepCutAuto
import Derived.Deep.CutBlock
import Derived.BigGuardPart
import Derived.BigQuiet
import Derived.Test.YtgoejmheihgpfaaGreatDoorTq
import Derived.Test.YtgoejmheihgpfaaGreatDoorTy
namespace Go.Proofs.YtgoejmheihgpfaaGreatDoor
set_option maxRecDepth 100000
set_option maxHeartbeats 16000000
open Go.RowKit
def AnyB (x : Ending) : Prop := ∃ q : Bool, x = .returned (.bool q)
theorem begin_any (w : World) (hK : KwIn w) (s : Sch) (ra sa ga la ma lb mb : Option Addr) (rv sv gv lc mc le me : Nat) (pf pc pn pd ps pm kp nn th nw da db : Int) (L R : List Ent) (M N : List Mrk) (hS : SchR w s (.slice ra s.records.length rv) (.slice sa s.services.length sv) (.slice ga s.sagas.length gv)) (hM : Small s) (hA : Slc w 6 (.slice la L.length lc) L.length (ecells L)) (hB : Slc w 6 (.slice lb R.length le) R.length (ecells R)) (hC : Slc w 14 (.slice ma M.length mc) M.length (mkcells M)) (hD : Slc w 14 (.slice mb N.length me) N.length (mkcells N)) (hn : M.length ≤ 1000) (hR : ∀ m ∈ M, RunSmall m.run) (hR2 : ∀ m ∈ N, RunSmall m.run) :
  Calls Tryz.prog 39 #[.agg (sW s ra sa ga la ma lb mb rv sv gv lc mc le me pf pc pn pd ps pm kp nn th nw da db L R M N)] w fun x w' => AnyB x ∧ Below w.heap.size w w' := by
 have HAB := zD (fun q => show AnyB (.returned (.bool q)) from ⟨q, rfl⟩)
 have HSL := zD (fun W (X : Below w.heap.size w W) => still_any W s ra sa ga la ma lb mb rv sv gv lc mc le me pf pc pn pd ps pm kp nn th nw da db L R M N (hA.below X) (hB.below X))
 have HSG := zD (fun W (X : Below w.heap.size w W) a id bd (hx : id.length ≤ 1000000) (hb : bd.length ≤ 1000000) => sbegin_any W (hK.below X) s _ _ _ (hS.below X) hM a id bd hx hb nn)
 have HCC := zD hC
 have HDD := zD hD
 have HRR := zD hR2
 have HNN := zD hn
 have HB0 := zD (Below.refl w.heap.size w)
 clear hK hS hM hA hB hC hD hn hR hR2
 go_enter Tryz.func39, Tryz.ntmps39
 go_upto_region 1 with (go_big_may; first | ((with_reducible refine zc 1 ?_); refine zO 102 0 rfl ?_; intro W1 g1 hg1 hx1; have Hb11 := zD hx1.blk; have db1 := zM HB0 hg1; have HB1 := zE hx1 HB0 db1; clear HB0 hg1 hx1))
 go_wp2_with (go_big_may; first | ((with_reducible refine zc 8 ?_); refine zS 102 1 0 (load_f102 Hb11.out (by rfl)) ?_))
 refine (HSL.out _ HB1.out).mono ?_
 rintro e w2 ⟨rfl, hb⟩
 have Hb12 := zB hb Hb11
 clear Hb11
 have HB2 := zT HB1 hb
 clear HB1 hb
 generalize entsEq L R = q at *
 cases q with
 | false =>
  go_wp2_with fail; exact zR (v := .bool false) ⟨HAB.out _, HB2.out⟩
 | true =>
  by_cases c2 : da = db
  case neg =>
   have d4 : (da != db) = true := by rw [bne_iff_ne]; exact c2
   clear c2; go_wp2_with (go_big_may; first | ((with_reducible refine zc 14 ?_); refine zV 3 13 16 agg_t3 Hb12 rfl ?_) | ((with_reducible refine zc 17 ?_); refine zV 3 16 19 agg_t3 Hb12 rfl ?_) | ((with_reducible refine zc 23 ?_); refine zV 43 22 18 agg_t43 Hb12 rfl ?_) | ((with_reducible refine zc 27 ?_); refine zV 43 26 15 agg_t43 Hb12 rfl ?_)); exact zR (v := .bool false) ⟨HAB.out _, HB2.out⟩
  have d4 : (da != db) = false := by rw [bne_eq_false_iff_eq]; exact c2
  clear c2; have hw1 : wrap64 ((M.length : Int) + 1) = (M.length : Int) + 1 := IntWalk.wrap64_in _ (by have := HNN.out; omega); by_cases c3 : N.length = M.length + 1
  case neg =>
   have d5 : ((N.length : Int) != (M.length : Int) + 1) = true := by rw [bne_iff_ne]; omega
   clear c3; go_wp2_with (go_big_may; first | ((with_reducible refine zc 14 ?_); refine zV 3 13 16 agg_t3 Hb12 rfl ?_) | ((with_reducible refine zc 17 ?_); refine zV 3 16 19 agg_t3 Hb12 rfl ?_) | ((with_reducible refine zc 23 ?_); refine zV 43 22 18 agg_t43 Hb12 rfl ?_) | ((with_reducible refine zc 27 ?_); refine zV 43 26 15 agg_t43 Hb12 rfl ?_)); exact zR (v := .bool false) ⟨HAB.out _, HB2.out⟩
  have d5 : ((N.length : Int) != (M.length : Int) + 1) = false := by rw [bne_eq_false_iff_eq]; omega
  have HLN := zD c3; clear c3; go_wp2_with (go_big_may; first | ((with_reducible refine zc 14 ?_); refine zV 3 13 16 agg_t3 Hb12 rfl ?_) | ((with_reducible refine zc 17 ?_); refine zV 3 16 19 agg_t3 Hb12 rfl ?_) | ((with_reducible refine zc 23 ?_); refine zV 43 22 18 agg_t43 Hb12 rfl ?_) | ((with_reducible refine zc 27 ?_); refine zV 43 26 15 agg_t43 Hb12 rfl ?_)); clear d4 d5 hw1; go_loopw [3] (fun vi wr => ∃ k : Nat, k ≤ M.length ∧ vi = iV (k : Nat) ∧ Hid (wr.heap[g1]? = some (.cells (sW s ra sa ga la ma lb mb rv sv gv lc mc le me pf pc pn pd ps pm kp nn th nw da db L R M N) 102 (0, 0))) ∧ Hid (Below w.heap.size w wr)) (fun vi _ => M.length - (intOf vi).toNat)
  case atStart => exact ⟨0, by omega, rfl, Hb12, HB2⟩
  case round =>
   clear Hb12 HB2; rename World => wr
   obtain ⟨k, hk, rfl, HX, HB⟩ := hrel; have HK := zD hk; clear hk; go_upto_region 4 with (fail); go_cut [56] from 32 to 55 (fun vt wc => ∃ t : Bool, vt = .bool t ∧ (t = true → k < M.length) ∧ wc.heap[g1]? = some (.cells (sW s ra sa ga la ma lb mb rv sv gv lc mc le me pf pc pn pd ps pm kp nn th nw da db L R M N) 102 (0, 0)) ∧ Below w.heap.size w wc)
   case first =>
    have HBn := zD (fun n => show Below w.heap.size w (wr.drewN n) from ⟨HB.out.os, HB.out.tape, HB.out.output, HB.out.size, HB.out.block⟩); have HXn := zD (fun n => show (wr.drewN n).heap[g1]? = some (.cells (sW s ra sa ga la ma lb mb rv sv gv lc mc le me pf pc pn pd ps pm kp nn th nw da db L R M N) 102 (0, 0)) from HX.out); by_cases hlt : k < M.length
    case neg =>
     as_aux_lemma =>
      have c15 := zF HX 15 rfl; have dlt : decide ((k : Int) < (M.length : Int)) = false := by simp; omega
      go_big_quiet (fail); go_wp2_with fail; go_meet
      case rel => exact ⟨_, rfl, (fun h => by cases h), HXn.out _, HBn.out _⟩
    have hlt2 : k < N.length := by have := HLN.out; omega
    obtain ⟨b1, o1, rfl, hp⟩ := mrk_there (w := w) HCC.out hlt; obtain ⟨b2, o2, rfl, hq⟩ := mrk_there (w := w) HDD.out hlt2; have c15 := zF HX 15 rfl; have c18 := zF HX 18 rfl; have p0 : wr.cell? ⟨b1, o1 + k * 14, none⟩ = some (sT (M[k]).run.id) := hp wr HB.out 0 _ rfl; have q0 : wr.cell? ⟨b2, o2 + k * 14, none⟩ = some (sT (N[k]).run.id) := hq wr HB.out 0 _ rfl; generalize (M[k]).run.id = ia at *; generalize (N[k]).run.id = ib at *; clear hp hq; have HLT := zD hlt; have dlt : decide ((k : Int) < (M.length : Int)) = true := by simp; omega
    have i0 : (0 : Int) ≤ (k : Int) := by omega
    have i1 : (k : Int) < (M.length : Int) := by omega
    have i2 : (k : Int) < (N.length : Int) := by omega
    clear hlt hlt2; cases hid : (bT ia).toList == (bT ib).toList with
    | false =>
     as_aux_lemma =>
      go_big_quiet (fail); go_wp2_with fail; go_meet
      case rel => exact ⟨_, rfl, (fun _ => HLT.out), HXn.out _, HBn.out _⟩
    | true =>
     as_aux_lemma =>
      go_big_quiet (fail); go_wp2_with fail; go_meet
      case rel => exact ⟨_, rfl, (fun _ => HLT.out), HXn.out _, HBn.out _⟩
   case rest =>
    obtain ⟨t, rfl, hlt, hx, hb⟩ := hcut; have HXc := zD hx; have HBc := zD hb; clear hx hb HX HB; cases t with
    | true =>
     as_aux_lemma =>
      have hlt := hlt rfl; have hwk : wrap64 ((k : Int) + 1) = (k : Int) + 1 := IntWalk.wrap64_in _ (by have := HNN.out; omega); go_wp2_with fail; exact ⟨⟨k + 1, by omega, by go_num, HXc, HBc⟩, by rw [hwk]; simp only [intOf]; omega⟩
    | false =>
     have hk : k < N.length := by have := HLN.out; have := HK.out; omega
     obtain ⟨b2, o2, rfl, hq⟩ := mrk_there (w := w) HDD.out hk; have HQ := zD (show ∀ W, Below w.heap.size w W → ∀ (j : Nat) (h : j < N.length) u, (mrkC N[j])[0]? = some u → W.cell? ⟨b2, o2 + j * 14, none⟩ = some u from fun W X j h u hu => by obtain ⟨b3, o3, e, hq3⟩ := mrk_there (w := w) HDD.out h; injection e with e; injection e with e4 e5; subst e4 e5; exact hq3 W X 0 u hu); have HQK := zD hq; have HRS := zD (HRR.out _ (List.getElem_mem hk)); clear hq HRR hlt; generalize N[k]'hk = y at *; obtain ⟨⟨yi, ys, ya, yat, yph, ytr, yst, ywh, yvl⟩, ⟨yos, yoc, yov, yod⟩, yg⟩ := y; have HKN := zD hk; clear hk; have i0 : (0 : Int) ≤ (k : Int) := by omega
     have i2 : (k : Int) < (N.length : Int) := by have := HKN.out; omega
     go_upto_region 7 with (go_big_may; first | ((with_reducible refine zc 61 ?_); refine zV 43 60 18 agg_t43 HXc rfl ?_) | ((with_reducible refine zc 64 ?_); refine wpList_loadS 57 (.tmp 63) (by rfl) (by rfl) _ _ (by rfl) (.agg #[sT yi, sT ys, sT ya, iV yat, .int .u8 (yph : Nat), iV ytr, .bool yst, iV ywh, sT yvl, iV yos, iV yoc, sT yov, iV yod, .bool yg]) (load_mrk (x := ⟨⟨yi, ys, ya, yat, yph, ytr, yst, ywh, yvl⟩, ⟨yos, yoc, yov, yod⟩, yg⟩) (HQK.out wc HBc.out)) ?_) | ((with_reducible refine zc 4 ?_); refine zA 57 zero_t57 ?_; intro W3 g3 hg3 hx3; have Hb33 := zD hx3.blk; have db3 := zM HBc hg3; have Hb13 := zN hx3 hg3 HXc; have nb3b1 := newer hg3 HXc.out; have HB3 := zE hx3 HBc db3; clear HXc HBc hg3 hx3) | ((with_reducible refine zd 57 4 ?_); refine zW 57 4 64 rfl Hb33 ?_; intro W4 hx4; have Hb34 := zD hx4.blk; have Hb14 := zH hx4 nb3b1.symm Hb13; have HB4 := zE hx4 HB3 db3; clear hx4 Hb13 HB3 Hb33)); clear i0 i2; go_wp2_with (go_big_may; first | ((with_reducible refine zc 67 ?_); refine zS 26 66 0 (load_t26 Hb14.out 0 (sV s ra sa ga rv sv gv) (by rfl) (by kernel_rfl)) ?_) | ((with_reducible refine zc 70 ?_); refine zV 9 69 1 agg_t9 Hb34 rfl ?_) | ((with_reducible refine zc 73 ?_); refine zV 9 72 0 agg_t9 Hb34 rfl ?_) | ((with_reducible refine zc 75 ?_); refine zV 3 74 11 agg_t3 Hb14 rfl ?_) | ((with_reducible refine zc 78 ?_); refine zV 9 77 2 agg_t9 Hb34 rfl ?_)); refine (HSG.out _ HB4.out ys yi ya (Nat.le_trans HRS.out.id (by decide)) (Nat.le_trans HRS.out.arg (by decide))).mono ?_; rintro e5 w5 ⟨⟨⟨qi, qs, qa, qat, qph, qtr, qst, qwh, qvl⟩, l, e, ⟨l0, l1, l2, l3, l5, l8, l4, l6, l7, l9, rfl⟩, rfl⟩, hb⟩; have Hb15 := zB hb Hb14; clear Hb14; have Hb35 := zB hb Hb34; clear Hb34; have HB5 := zT HB4 hb; clear HB4 hb; clear HSG; go_upto_region 8 with (go_big_may; first | ((with_reducible refine zc 5 ?_); refine zA 53 zero_t53 ?_; intro W6 g6 hg6 hx6; have Hb66 := zD hx6.blk; have db6 := zM HB5 hg6; have Hb16 := zN hx6 hg6 Hb15; have nb6b1 := newer hg6 Hb15.out; have Hb36 := zN hx6 hg6 Hb35; have nb6b3 := newer hg6 Hb35.out; have HB6 := zE hx6 HB5 db6; clear Hb15 Hb35 HB5 hg6 hx6) | ((with_reducible refine zc 6 ?_); refine zA 63 zero_t63 ?_; intro W7 g7 hg7 hx7; have Hb77 := zD hx7.blk; have db7 := zM HB6 hg7; have Hb17 := zN hx7 hg7 Hb16; have nb7b1 := newer hg7 Hb16.out; have Hb37 := zN hx7 hg7 Hb36; have nb7b3 := newer hg7 Hb36.out; have Hb67 := zN hx7 hg7 Hb66; have nb7b6 := newer hg7 Hb66.out; have HB7 := zE hx7 HB6 db7; clear Hb16 Hb36 Hb66 HB6 hg7 hx7) | ((with_reducible refine zd 53 5 ?_); refine zW 53 5 80 rfl Hb67 ?_; intro W8 hx8; have Hb68 := zD hx8.blk; have Hb18 := zH hx8 nb6b1.symm Hb17; have Hb38 := zH hx8 nb6b3.symm Hb37; have Hb78 := zH hx8 nb7b6 Hb77; have HB8 := zE hx8 HB7 db6; clear hx8 Hb17 Hb37 Hb77 HB7 Hb67) | ((with_reducible refine zd 63 6 ?_); refine zW 63 6 81 rfl Hb78 ?_; intro W9 hx9; have Hb19 := zH hx9 nb7b1.symm Hb18; have Hb39 := zH hx9 nb7b3.symm Hb38; have Hb69 := zH hx9 nb7b6.symm Hb68; have HB9 := zE hx9 HB8 db7; clear hx9 Hb18 Hb38 Hb68 HB8 Hb78)); go_cut [100] from 83 to 99 (fun vt wd => ∃ t : Bool, vt = .bool t ∧ W9 = wd)
     case first =>
      by_cases he : e = 0
      case neg =>
       as_aux_lemma =>
        have d1 : (((e : Nat) : Int) != 0) = true := by rw [bne_iff_ne]; omega
        clear he; go_wp2_with (fail); go_meet
        case rel => exact ⟨_, rfl, rfl⟩
      have d1 : (((e : Nat) : Int) != 0) = false := by rw [bne_eq_false_iff_eq]; omega
      clear he; have hro := fun W => run_neq ⟨qi, qs, qa, qat, qph, qtr, qst, qwh, qvl⟩ ⟨yi, ys, ya, yat, yph, ytr, yst, ywh, yvl⟩ W
      have hrg := fun X Y W => run_neqg ⟨qi, qs, qa, qat, qph, qtr, qst, qwh, qvl⟩ ⟨yi, ys, ya, yat, yph, ytr, yst, ywh, yvl⟩ X Y W
      have hoo := fun W => opr_neq ⟨yos, yoc, yov, yod⟩ ⟨1, 0, [], 0⟩ W
      have hog := fun X Y W => opr_neqg ⟨yos, yoc, yov, yod⟩ ⟨1, 0, [], 0⟩ X Y W
      unfold runC at hro hrg; unfold oprC at hoo hog; dsimp only at hro hrg hoo hog; have eb0 : bT [] = ⟨#[]⟩ := rfl; simp only [eb0] at hoo hog; clear eb0; generalize (!runEq ⟨qi, qs, qa, qat, qph, qtr, qst, qwh, qvl⟩ ⟨yi, ys, ya, yat, yph, ytr, yst, ywh, yvl⟩) = RQ at *; generalize (!oprEq ⟨yos, yoc, yov, yod⟩ ⟨1, 0, [], 0⟩) = OQ at *; cases RQ with
      | true =>
       as_aux_lemma =>
        go_wp2_with (go_big_may; first | ((with_reducible refine zc 86 ?_); refine zS 53 5 0 (load_f53 Hb69.out (by rfl)) ?_) | ((with_reducible refine zc 88 ?_); refine zS 53 87 0 (load_t53 Hb39.out 0 #[sT yi, sT ys, sT ya, iV yat, .int .u8 (yph : Nat), iV ytr, .bool yst, iV ywh, sT yvl] (by rfl) (by kernel_rfl)) ?_) | ((with_reducible refine zc 93 ?_); refine zV 4 92 13 agg_t4 Hb39 rfl ?_) | ((with_reducible refine zc 97 ?_); refine zS 55 96 9 (load_t55 Hb39.out 9 #[iV yos, iV yoc, sT yov, iV yod] (by rfl) (by kernel_rfl)) ?_) | ((with_reducible refine zc 98 ?_); refine wpList_buildS 55 #[(0, (.const (iV 1)))] (by rfl) (by rfl) #[(0, iV 1)] (by kernel_rfl) #[iV 1, iV 0, eS, iV 0] (by kernel_rfl) ?_)); go_meet
        case rel => exact ⟨_, rfl, rfl⟩
      | false =>
       cases yg with
       | true =>
        as_aux_lemma =>
         go_wp2_with (go_big_may; first | ((with_reducible refine zc 86 ?_); refine zS 53 5 0 (load_f53 Hb69.out (by rfl)) ?_) | ((with_reducible refine zc 88 ?_); refine zS 53 87 0 (load_t53 Hb39.out 0 #[sT yi, sT ys, sT ya, iV yat, .int .u8 (yph : Nat), iV ytr, .bool yst, iV ywh, sT yvl] (by rfl) (by kernel_rfl)) ?_) | ((with_reducible refine zc 93 ?_); refine zV 4 92 13 agg_t4 Hb39 rfl ?_) | ((with_reducible refine zc 97 ?_); refine zS 55 96 9 (load_t55 Hb39.out 9 #[iV yos, iV yoc, sT yov, iV yod] (by rfl) (by kernel_rfl)) ?_) | ((with_reducible refine zc 98 ?_); refine wpList_buildS 55 #[(0, (.const (iV 1)))] (by rfl) (by rfl) #[(0, iV 1)] (by kernel_rfl) #[iV 1, iV 0, eS, iV 0] (by kernel_rfl) ?_)); go_meet
         case rel => exact ⟨_, rfl, rfl⟩
       | false =>
        as_aux_lemma =>
         go_wp2_with (go_big_may; first | ((with_reducible refine zc 86 ?_); refine zS 53 5 0 (load_f53 Hb69.out (by rfl)) ?_) | ((with_reducible refine zc 88 ?_); refine zS 53 87 0 (load_t53 Hb39.out 0 #[sT yi, sT ys, sT ya, iV yat, .int .u8 (yph : Nat), iV ytr, .bool yst, iV ywh, sT yvl] (by rfl) (by kernel_rfl)) ?_) | ((with_reducible refine zc 93 ?_); refine zV 4 92 13 agg_t4 Hb39 rfl ?_) | ((with_reducible refine zc 97 ?_); refine zS 55 96 9 (load_t55 Hb39.out 9 #[iV yos, iV yoc, sT yov, iV yod] (by rfl) (by kernel_rfl)) ?_) | ((with_reducible refine zc 98 ?_); refine wpList_buildS 55 #[(0, (.const (iV 1)))] (by rfl) (by rfl) #[(0, iV 1)] (by kernel_rfl) #[iV 1, iV 0, eS, iV 0] (by kernel_rfl) ?_)); go_meet
         case rel => exact ⟨_, rfl, rfl⟩
     case rest =>
      obtain ⟨t, rfl, rfl⟩ := hcut; cases t with
      | true =>
       go_wp2_with fail; exact zR (v := .bool false) ⟨HAB.out _, HB9.out⟩
      | false =>
       go_upto_region 10 with (fail); go_cut [139] from 101 to 138 (fun vt wd => ∃ t : Bool, vt = .bool t ∧ wd.heap[g1]? = some (.cells (sW s ra sa ga la ma lb (some ⟨b2, o2, none⟩) rv sv gv lc mc le me pf pc pn pd ps pm kp nn th nw da db L R M N) 102 (0, 0)) ∧ Below w.heap.size w wd)
       case first =>
        have HBn := zD (fun n => show Below w.heap.size w (W9.drewN n) from ⟨HB9.out.os, HB9.out.tape, HB9.out.output, HB9.out.size, HB9.out.block⟩); have HXn := zD (fun n => show (W9.drewN n).heap[g1]? = some (.cells (sW s ra sa ga la ma lb (some ⟨b2, o2, none⟩) rv sv gv lc mc le me pf pc pn pd ps pm kp nn th nw da db L R M N) 102 (0, 0)) from Hb19.out); have c18 := zF Hb19 18 rfl; have r0 := zF Hb69 0 rfl; have hwk : wrap64 ((k : Int) + 1) = (k : Int) + 1 := IntWalk.wrap64_in _ (by have := HNN.out; have := HK.out; omega); by_cases h1 : 0 < k
        case neg =>
         have d1 : decide ((k : Int) > 0) = false := by simp; omega
         have d1b : decide (0 < (k : Int)) = false := by simp; omega
         have d1c : decide (0 < k) = false := by simp; omega
         clear h1; by_cases h2 : k + 1 < N.length
         case neg =>
          as_aux_lemma =>
           have d2 : decide ((k : Int) + 1 < (N.length : Int)) = false := by simp; omega
           clear h2; go_big_quiet (fail); go_wp2_with fail; go_meet
           case rel => exact ⟨_, rfl, HXn.out _, HBn.out _⟩
         as_aux_lemma =>
          have t0 : W9.cell? ⟨b2, o2 + (k + 1) * 14, none⟩ = some (sT (N[k + 1]).run.id) := HQ.out _ HB9.out _ h2 _ rfl; generalize (N[k + 1]).run.id = ic at *; have hwi : ((k : Int) + 1) = ((k + 1 : Nat) : Int) := by omega
          have d2 : decide ((k : Int) + 1 < (N.length : Int)) = true := by simp; omega
          have i2 : (0 : Int) ≤ (k : Int) + 1 := by omega
          have i3 : (k : Int) + 1 < (N.length : Int) := by omega
          have i4 : ((k : Int) + 1).toNat = k + 1 := by omega
          generalize k + 1 = m at *; clear h2 hwi; go_big_quiet (fail); go_wp2_with fail; go_meet
          case rel => exact ⟨_, rfl, HXn.out _, HBn.out _⟩
        obtain ⟨j, hj⟩ : ∃ j, k = j + 1 := ⟨k - 1, by omega⟩; have p0 : W9.cell? ⟨b2, o2 + j * 14, none⟩ = some (sT (N[j]'(by have := HKN.out; omega)).run.id) := HQ.out _ HB9.out _ (by have := HKN.out; omega) _ rfl; generalize (N[j]'(by have := HKN.out; omega)).run.id = ip at *; have hwj : wrap64 ((k : Int) - 1) = (j : Int) := (IntWalk.wrap64_in _ (by have := HNN.out; have := HK.out; omega)).trans (by omega); have j0 : (0 : Int) ≤ (j : Int) := by omega
        have j1 : (j : Int) < (N.length : Int) := by have := HKN.out; omega
        have d1 : decide ((k : Int) > 0) = true := by simp; omega
        have d1b : decide (0 < (k : Int)) = true := by simp; omega
        have d1c : decide (0 < k) = true := by simp; omega
        clear hj h1; cases hl : Go.Op.bytesLess (bT ip).toList (bT qi).toList with
        | false =>
         as_aux_lemma =>
          go_big_quiet (fail); go_wp2_with fail; go_meet
          case rel => exact ⟨_, rfl, HXn.out _, HBn.out _⟩
        | true =>
         by_cases h2 : k + 1 < N.length
         case neg =>
          as_aux_lemma =>
           have d2 : decide ((k : Int) + 1 < (N.length : Int)) = false := by simp; omega
           clear h2; go_big_quiet (fail); go_wp2_with fail; go_meet
           case rel => exact ⟨_, rfl, HXn.out _, HBn.out _⟩
         as_aux_lemma =>
          have t0 : W9.cell? ⟨b2, o2 + (k + 1) * 14, none⟩ = some (sT (N[k + 1]).run.id) := HQ.out _ HB9.out _ h2 _ rfl; generalize (N[k + 1]).run.id = ic at *; have hwi : ((k : Int) + 1) = ((k + 1 : Nat) : Int) := by omega
          have d2 : decide ((k : Int) + 1 < (N.length : Int)) = true := by simp; omega
          have i2 : (0 : Int) ≤ (k : Int) + 1 := by omega
          have i3 : (k : Int) + 1 < (N.length : Int) := by omega
          have i4 : ((k : Int) + 1).toNat = k + 1 := by omega
          generalize k + 1 = m at *; clear h2 hwi; go_big_quiet (fail); go_wp2_with fail; go_meet
          case rel => exact ⟨_, rfl, HXn.out _, HBn.out _⟩
       case rest =>
        obtain ⟨t, rfl, hx, hb⟩ := hcut; have HXd := zD hx; have HBd := zD hb; clear hx hb HB9 Hb19 Hb39 Hb69; cases t with
        | true =>
         go_wp2_with fail; exact zR (v := .bool false) ⟨HAB.out _, HBd.out⟩
        | false =>
         go_upto_region 12 with (fail); obtain ⟨m, hm⟩ : ∃ m, m = k + 1 := ⟨_, rfl⟩; have hwm : wrap64 ((k : Int) + 1) = (m : Int) := (IntWalk.wrap64_in _ (by have := HNN.out; have := HK.out; omega)).trans (by omega); have hwi : IntKind.i64.wrap ((k : Int) + 1) = (m : Int) := by rw [IntKind.wrap_i64]; have := HNN.out; have := HK.out; omega
         have HM := zD hm; clear hm; have hme : N.length ≤ me := by obtain ⟨⟨_, _, e, q1, _⟩, _⟩ := HDD.out; injection e with _ _ e3; subst e3; exact q1
         have s0 : (0 : Int) ≤ (k : Int) := by omega
         have s1 : (k : Int) ≤ (me : Int) := by have := HKN.out; omega
         have s2 : (0 : Int) ≤ (m : Int) := by omega
         have s3 : (m : Int) ≤ (N.length : Int) := by have := HKN.out; have := HM.out; omega
         have s4 : (m : Int) ≤ (me : Int) := by omega
         have s5 : (N.length : Int) ≤ (me : Int) := by omega
         have HMN := zD (show m ≤ N.length by omega); have HHN := zD (show N.length ≤ 1001 by have := HLN.out; have := HNN.out; omega); have HFR := zD (slc_frontM HDD.out k (by have := HKN.out; omega)); clear hme; have HBK := zD (slc_backM HDD.out m HMN.out _ rfl); have hA : ∃ A, A = (if me = m then some (⟨b2, o2, none⟩ : Addr) else some ⟨b2, o2 + m * 14, none⟩) := ⟨_, rfl⟩; obtain ⟨A, hA⟩ := hA; rw [← hA] at HBK; subst hA; refine wp_region_noPanic ?_; have HXdd := zD (show wc.drew.heap[g1]? = _ from HXd.out); clear HXd; have HBdd := zD (show Below w.heap.size w wc.drew from HBd.out.trans ⟨rfl, rfl, rfl, zn, fun _ _ => rfl⟩); clear HBd; refine wp_region_held_drew (S := fun w' => Below w.heap.size w w') (by kernel_rfl) (HBdd.out) (fun hHeld => ?_); generalize wc.drew = W41 at *; refine zJ 0 140 rfl ?_; refine zJ 1 141 rfl ?_; refine zJ 3 143 rfl ?_; refine zJ 5 145 rfl ?_; refine zJ 6 146 rfl ?_; refine zJ 8 148 rfl ?_; refine zJ 9 149 rfl ?_; refine zy [2, 7] ?_; refine zg (some 142) rfl (fun K hK => ?_) ?_
         ·refine op_loadC 43 (.tmp 141) (by rfl) (by rfl) _ 18 (by rfl) (.slice (some ⟨b2, o2, none⟩) N.length me) agg_t43 HXdd.out (by rfl) ?_
          refine hK.out _ _ (HBdd.out) (fun hHeld => ?_); clear hK K; try simp only [Act.put, zX, zY, zZ]
          refine zJ 4 144 rfl ?_; refine zy [7] ?_; refine zg (some 147) rfl (fun K hK => ?_) ?_
          ·refine op_loadC 43 (.tmp 146) (by rfl) (by rfl) _ 18 (by rfl) (.slice (some ⟨b2, o2, none⟩) N.length me) agg_t43 HXdd.out (by rfl) ?_
           refine hK.out _ _ (HBdd.out) (fun hHeld => ?_); clear hK K; try simp only [Act.put, zX, zY, zZ]
           refine zJ 10 150 rfl ?_; refine zy [11] ?_; refine zg (some 151) rfl (fun K hK => ?_) ?_
           ·refine op_build2 144 150 (by rfl) (by rfl) (some ⟨b2, o2, none⟩) (if me = m then some ⟨b2, o2, none⟩ else some ⟨b2, o2 + m * 14, none⟩) k (N.length - m) me (me - m) (by rfl) (by rfl) ?_
            intro W42 g42 hg42 hx42; have Hb4242 := zD hx42.blk; have db42 := zM HBdd hg42; have Hb142 := zN hx42 hg42 HXdd; have nb42b1 := newer hg42 HXdd.out; have HB42 := zE hx42 HBdd db42; clear HXdd HBdd hg42 hx42; refine hK.out _ _ (HB42.out) (fun hHeld => ?_); clear hK K; try simp only [Act.put, zX, zY, zZ]
            refine zy [12] ?_; refine zg (some 152) rfl (fun K hK => ?_) ?_
            ·have HCN := zD (concat_any W42 g42 2 _ _ Hb4242.out (N.take k) (N.drop m) (by have := HFR.out.below HB42.out; simpa using this) (by have := HBK.out.below HB42.out; simpa using this) (by rw [List.length_take, List.length_drop]; have := HHN.out; have := HM.out; have := HKN.out; omega))
             have HLT := zD (blk_lt Hb142.out); go_simp; refine HCN.out.mono ?_; rintro e w3 ⟨vv, rfl, hown, hb⟩; rw [← List.length_append] at hown; generalize N.take k ++ N.drop m = NN at *; obtain ⟨ar, cr, rfl⟩ := (Slc.own hown).shape; have HOWN := zD hown; clear hown HCN; have Hb143 := zB hb Hb142; clear Hb142; have Hb4243 := zB hb Hb4242; clear Hb4242; have HB43 := zT HB42 hb; clear HB42 hb; refine hK.out _ _ (HB43.out) (fun hHeld => ?_); clear hK K; try simp only [Act.put, zX, zY, zZ]
             refine zJ 13 153 rfl ?_; refine zJ 14 154 rfl ?_; refine zy [15] ?_; refine zg none rfl (fun K hK => ?_) ?_
             ·refine op_cellG 43 (.tmp 154) (.tmp 152) (by rfl) (by rfl) _ 18 (sW s ra sa ga la ma lb (some ⟨b2, o2, none⟩) rv sv gv lc mc le me pf pc pn pd ps pm kp nn th nw da db L R M N) (.slice ar NN.length cr) (by rfl) (by rfl) Hb143.out (by simp) (by kernel_rfl) (by rfl) (by rfl) ?_
              intro W44 hx; have Hb144 := zD (show W44.heap[g1]? = some (.cells (sW s ra sa ga la ma lb ar rv sv gv lc mc le cr pf pc pn pd ps pm kp nn th nw da db L R M NN) 102 (0, 0)) from hx.blk); have HSL := zD (Slc.own (owns_nx HOWN.out hx HLT.out)); have Hb4244 := zD (hx.keep nb42b1 Hb4243.out); have HB44 := zD (hx.bel _ _ HB43.out HB43.out.size db1); clear hx HOWN HLT Hb4243 HB43 Hb143; refine hK.out _ _ (HB44.out) (fun hHeld => ?_); clear hK K; try simp only [Act.put, zX, zY, zZ]
              refine wpAnyH_done (by kernel_rfl) ?_ _; refine NoPanic.normal ?_; generalize (if me = m then some ⟨b2, o2, none⟩ else some ⟨b2, o2 + m * 14, none⟩ : Option Addr) = AA at *; go_wp2_with (go_big_may; first | ((with_reducible refine zc 155 ?_); refine zS 102 1 0 (load_f102 Hb144.out (by rfl)) ?_)); refine (others_any W44 s ra sa ga la ma lb ar rv sv gv lc mc le cr pf pc pn pd ps pm kp nn th nw da db L R M NN (-1) (HCC.out.below HB44.out) HSL.out HNN.out).mono ?_; rintro e w9 ⟨rfl, hb⟩; have HBz := zT HB44 hb; go_wp2_with fail; exact zR (v := .bool (othersA nw (-1) M NN)) ⟨HAB.out _, HBz.out⟩
             exact zh
            exact zh
           exact zh
          exact zh
         refine zg (some 147) rfl (fun K hK => ?_) ?_
         ·refine op_loadC 43 (.tmp 146) (by rfl) (by rfl) _ 18 (by rfl) (.slice (some ⟨b2, o2, none⟩) N.length me) agg_t43 HXdd.out (by rfl) ?_
          refine hK.out _ _ (HBdd.out) (fun hHeld => ?_); clear hK K; try simp only [Act.put, zX, zY, zZ]
          refine zJ 10 150 rfl ?_; refine zy [2] ?_; refine zg (some 142) rfl (fun K hK => ?_) ?_
          ·refine op_loadC 43 (.tmp 141) (by rfl) (by rfl) _ 18 (by rfl) (.slice (some ⟨b2, o2, none⟩) N.length me) agg_t43 HXdd.out (by rfl) ?_
           refine hK.out _ _ (HBdd.out) (fun hHeld => ?_); clear hK K; try simp only [Act.put, zX, zY, zZ]
           refine zJ 4 144 rfl ?_; refine zy [11] ?_; refine zg (some 151) rfl (fun K hK => ?_) ?_
           ·refine op_build2 144 150 (by rfl) (by rfl) (some ⟨b2, o2, none⟩) (if me = m then some ⟨b2, o2, none⟩ else some ⟨b2, o2 + m * 14, none⟩) k (N.length - m) me (me - m) (by rfl) (by rfl) ?_
            intro W42 g42 hg42 hx42; have Hb4242 := zD hx42.blk; have db42 := zM HBdd hg42; have Hb142 := zN hx42 hg42 HXdd; have nb42b1 := newer hg42 HXdd.out; have HB42 := zE hx42 HBdd db42; clear HXdd HBdd hg42 hx42; refine hK.out _ _ (HB42.out) (fun hHeld => ?_); clear hK K; try simp only [Act.put, zX, zY, zZ]
            refine zy [12] ?_; refine zg (some 152) rfl (fun K hK => ?_) ?_
            ·have HCN := zD (concat_any W42 g42 2 _ _ Hb4242.out (N.take k) (N.drop m) (by have := HFR.out.below HB42.out; simpa using this) (by have := HBK.out.below HB42.out; simpa using this) (by rw [List.length_take, List.length_drop]; have := HHN.out; have := HM.out; have := HKN.out; omega))
             have HLT := zD (blk_lt Hb142.out); go_simp; refine HCN.out.mono ?_; rintro e w3 ⟨vv, rfl, hown, hb⟩; rw [← List.length_append] at hown; generalize N.take k ++ N.drop m = NN at *; obtain ⟨ar, cr, rfl⟩ := (Slc.own hown).shape; have HOWN := zD hown; clear hown HCN; have Hb143 := zB hb Hb142; clear Hb142; have Hb4243 := zB hb Hb4242; clear Hb4242; have HB43 := zT HB42 hb; clear HB42 hb; refine hK.out _ _ (HB43.out) (fun hHeld => ?_); clear hK K; try simp only [Act.put, zX, zY, zZ]
             refine zJ 13 153 rfl ?_; refine zJ 14 154 rfl ?_; refine zy [15] ?_; refine zg none rfl (fun K hK => ?_) ?_
             ·refine op_cellG 43 (.tmp 154) (.tmp 152) (by rfl) (by rfl) _ 18 (sW s ra sa ga la ma lb (some ⟨b2, o2, none⟩) rv sv gv lc mc le me pf pc pn pd ps pm kp nn th nw da db L R M N) (.slice ar NN.length cr) (by rfl) (by rfl) Hb143.out (by simp) (by kernel_rfl) (by rfl) (by rfl) ?_
              intro W44 hx; have Hb144 := zD (show W44.heap[g1]? = some (.cells (sW s ra sa ga la ma lb ar rv sv gv lc mc le cr pf pc pn pd ps pm kp nn th nw da db L R M NN) 102 (0, 0)) from hx.blk); have HSL := zD (Slc.own (owns_nx HOWN.out hx HLT.out)); have Hb4244 := zD (hx.keep nb42b1 Hb4243.out); have HB44 := zD (hx.bel _ _ HB43.out HB43.out.size db1); clear hx HOWN HLT Hb4243 HB43 Hb143; refine hK.out _ _ (HB44.out) (fun hHeld => ?_); clear hK K; try simp only [Act.put, zX, zY, zZ]
              refine wpAnyH_done (by kernel_rfl) ?_ _; refine NoPanic.normal ?_; generalize (if me = m then some ⟨b2, o2, none⟩ else some ⟨b2, o2 + m * 14, none⟩ : Option Addr) = AA at *; go_wp2_with (go_big_may; first | ((with_reducible refine zc 155 ?_); refine zS 102 1 0 (load_f102 Hb144.out (by rfl)) ?_)); refine (others_any W44 s ra sa ga la ma lb ar rv sv gv lc mc le cr pf pc pn pd ps pm kp nn th nw da db L R M NN (-1) (HCC.out.below HB44.out) HSL.out HNN.out).mono ?_; rintro e w9 ⟨rfl, hb⟩; have HBz := zT HB44 hb; go_wp2_with fail; exact zR (v := .bool (othersA nw (-1) M NN)) ⟨HAB.out _, HBz.out⟩
             exact zh
            exact zh
           exact zh
          exact zh
         exact zh
end Go.Proofs.YtgoejmheihgpfaaGreatDoor
