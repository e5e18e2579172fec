/- Lemmas for ModelStays' proof. -/
import Derived.Test.YtgoejmheihgpfaaGreatDoorTq
import Derived.Test.YtgoejmheihgpfaaGreatDoorTd
import Derived.Deep.DeepCutAuto
import Derived.Deep.CutBlock
namespace Go.Proofs.YtgoejmheihgpfaaGreatDoor
set_option maxRecDepth 100000
set_option maxHeartbeats 16000000
open Go.RowKit
theorem agg_t27 (W : World) : (isAgg 27).run Tryz.prog W = .ok false W := by simp [isAgg, run_underlying Tryz.underlying27]
theorem load_mrun {W : World} {b o : Nat} {x : Mrk} (h : ∀ j u, (mrkC x)[j]? = some u → W.cell? ⟨b, o + j, none⟩ = some u) : (loadVar 53 ⟨b, o, none⟩).run Tryz.prog W = .ok (.agg (runC x.run)) W :=
 run_loadVar_mid W b o _ (runC x.run).toList _ (fun j v hv => h j v (by
  have hj : j < 9 := (List.getElem?_eq_some_iff.1 hv).1
  have : ∀ j, j < 9 → (mrkC x)[j]? = (runC x.run).toList[j]? := by
   intro j hj
   rcases j with _ | _ | _ | _ | _ | _ | _ | _ | _ | j <;> first | rfl | omega
  rw [this j hj]; exact hv)) Tryz.underlying53 rfl (by kernel_rfl)
def sch0 : Sch := ⟨[], [], [], []⟩
theorem schR0 (w : World) : SchR w sch0 (.slice none 0 0) (.slice none 0 0) (.slice none 0 0) := ⟨⟨[], Slc.nil w 3, rfl⟩, ⟨[], Slc.nil w 2, rfl⟩, ⟨[], Slc.nil w 3, rfl⟩⟩
def MrkOk (m : Mrk) : Prop := RunSmall m.run ∧ m.op.vl.length ≤ 5000
def StOk (L : List Ent) (M : List Mrk) : Prop := L.length ≤ 60 ∧ M.length ≤ 40 ∧ (∀ m ∈ M, MrkOk m) ∧ ∀ e ∈ L, EntOk e
theorem great28_any (w : World) (la ma : Option Addr) (lc mc : Nat) (da : Int) (L : List Ent) (M : List Mrk) (hA : Slc w 6 (.slice la L.length lc) L.length (ecells L)) (hC : Slc w 14 (.slice ma M.length mc) M.length (mkcells M)) :
  Calls Tryz.prog 11 #[.agg #[.slice la L.length lc, .slice ma M.length mc, iV da]] w fun x w' => GrB (StOk L M) x ∧ Below w.heap.size w w' := by
 have HTR := zD (show GrB (StOk L M) (.returned (.bool true)) from ⟨true, rfl, fun h => by cases h⟩)
 have HG := zD (fun W r => great25_any W sch0 none none none 0 0 0 (schR0 W) r)
 have HE := zD (fun W (X : Below w.heap.size w W) => greatEntries_any W _ L (hA.below X))
 have HC := zD hC
 have HB0 := zD (Below.refl w.heap.size w)
 clear hA hC
 go_enter Tryz.func11, Tryz.ntmps11
 go_upto_region 1 with (first | (refine zO 45 0 rfl ?_; intro W1 g1 hg1 hx1; have Hb11 := zD hx1.blk; have db1 := zM HB0 hg1; have HB1 := zE hx1 HB0 db1; clear HB0 hg1 hx1))
 by_cases h1 : 60 < L.length
 case pos =>
  have d1 : decide ((60 : Int) < (L.length : Int)) = true := by simp; omega
  clear h1; go_wp2_with (first | (refine zV 27 4 0 agg_t27 Hb11 rfl ?_) | (refine zV 43 9 1 agg_t43 Hb11 rfl ?_)); exact zR (v := .bool true) ⟨HTR.out, HB1.out⟩
 have d1 : decide ((60 : Int) < (L.length : Int)) = false := by simp; omega
 by_cases h2 : 40 < M.length
 case pos =>
  have d2 : decide ((40 : Int) < (M.length : Int)) = true := by simp; omega
  clear h1 h2; go_wp2_with (first | (refine zV 27 4 0 agg_t27 Hb11 rfl ?_) | (refine zV 43 9 1 agg_t43 Hb11 rfl ?_)); exact zR (v := .bool true) ⟨HTR.out, HB1.out⟩
 have d2 : decide ((40 : Int) < (M.length : Int)) = false := by simp; omega
 have HL1 := zD (show L.length ≤ 60 by omega)
 have HM1 := zD (show M.length ≤ 40 by omega)
 clear h1 h2
 go_wp2_with (first | (refine zV 27 4 0 agg_t27 Hb11 rfl ?_) | (refine zV 43 9 1 agg_t43 Hb11 rfl ?_))
 go_loopw [3] (fun p wr => ∃ k : Nat, k ≤ M.length ∧ p = iV k ∧ Hid (wr.heap[g1]? = some (.cells #[.slice la L.length lc, .slice ma M.length mc, iV da] 45 (0, 0))) ∧ Hid (Below w.heap.size w wr) ∧ Hid (∀ j (h : j < M.length), j < k → MrkOk M[j])) (fun p _ => M.length - (intOf p).toNat)
 case atStart => exact ⟨0, Nat.zero_le _, rfl, Hb11, HB1, zD (fun j _ h => by omega)⟩
 case round =>
  as_aux_lemma =>
   obtain ⟨k, hk, rfl, Hb1r, HBr, HOK⟩ := hrel; by_cases hlt : k < M.length
   case neg =>
    have dk : decide ((k : Int) < (M.length : Int)) = false := by simp; omega
    have HALL := zD (show ∀ m ∈ M, MrkOk m from fun m hm => by
     obtain ⟨j, hj, rfl⟩ := List.getElem_of_mem hm; exact HOK.out j hj (by omega))
    clear HOK; go_wp2_with (first | (refine zV 43 15 1 agg_t43 Hb1r rfl ?_) | (refine zV 27 41 0 agg_t27 Hb1r rfl ?_)); refine (HE.out _ HBr.out).mono ?_; rintro e w6 ⟨⟨t, rfl, ht⟩, hb⟩; have HX := zD (show GrB (StOk L M) (.returned (.bool t)) from ⟨t, rfl, fun h => ⟨HL1.out, HM1.out, HALL.out, (ht h).2⟩⟩); clear ht; have Hb12 := zB hb Hb1r; clear Hb1r; have HB2 := zT HBr hb; clear HBr hb; go_wp2_with fail; exact zR (v := .bool t) ⟨HX.out, HB2.out⟩
   have dk : decide ((k : Int) < (M.length : Int)) = true := by simp; omega
   obtain ⟨b1, o1, rfl, hp⟩ := mrk_there (w := w) HC.out hlt
   have HOK2 := zD (fun (hx : MrkOk (M[k]'hlt)) => show ∀ j (h : j < M.length), j < k + 1 → MrkOk M[j] from fun j hj hjk => by
    by_cases e : j = k
    ·subst e; exact hx
    ·exact HOK.out j hj (by omega))
   generalize M[k]'hlt = x at *; have hcl := hp _ HBr.out; have HP := zD hp; have hi1 : (0 : Int) ≤ (k : Int) := by omega
   have hi2 : (k : Int) < (M.length : Int) := by omega
   have HKM := zD hlt; clear hp HOK; have HLR := zD (load_mrun (W := wr) hcl); unfold runC at HLR; clear hcl; go_wp2_with (first | (refine zV 43 15 1 agg_t43 Hb1r rfl ?_) | (refine wpList_buildS 26 #[] (by rfl) (by rfl) #[] (by rfl) #[eS, .slice none 0 0, .slice none 0 0, .slice none 0 0] (by kernel_rfl) ?_) | (refine zV 43 22 1 agg_t43 Hb1r rfl ?_) | (refine wpList_buildS 63 #[] (by rfl) (by rfl) #[] (by rfl) #[.int .u8 0, iV 0, iV 0, .int .u64 0, eS, .int .u64 0, eS, eS, iV 0, eS] (by kernel_rfl) ?_) | (refine wpList_loadS 53 (.tmp 26) (by rfl) (by rfl) _ _ (by rfl) (.agg #[sT x.run.id, sT x.run.sg, sT x.run.arg, iV x.run.at_, .int .u8 (x.run.ph : Nat), iV x.run.tr, .bool x.run.st, iV x.run.wh, sT x.run.vl]) HLR.out ?_)); refine (HG.out _ x.run).mono ?_; rintro e w5 ⟨⟨t, rfl, ht⟩, hb⟩; have Hb12 := zB hb Hb1r; clear Hb1r; have HB2 := zT HBr hb; clear HBr hb; have HT := zD ht; clear ht HLR; cases t with
   | true =>
    go_wp2_with fail; exact zR (v := .bool true) ⟨HTR.out, HB2.out⟩
   | false =>
    as_aux_lemma =>
     have hcl := HP.out _ HB2.out; have x11 : w5.cell? ⟨b1, o1 + k * 14 + 11, none⟩ = some (sT x.op.vl) := hcl 11 _ rfl; clear hcl; have hsz := bT_size x.op.vl; by_cases hv : 5000 < x.op.vl.length
     case pos =>
      have dv : decide ((5000 : Int) < ((bT x.op.vl).size : Int)) = true := by rw [hsz]; simp; omega
      have dv2 : decide ((5000 : Int) < (x.op.vl.length : Int)) = true := by simp; omega
      clear hv; go_wp2_with (first | (refine zV 43 31 1 agg_t43 Hb12 rfl ?_)); exact zR (v := .bool true) ⟨HTR.out, HB2.out⟩
     have dv : decide ((5000 : Int) < ((bT x.op.vl).size : Int)) = false := by rw [hsz]; simp; omega
     have dv2 : decide ((5000 : Int) < (x.op.vl.length : Int)) = false := by simp; omega
     have HN := zD (HOK2.out ⟨(HT.out rfl).2, by omega⟩); clear hv; go_wp2_with (first | (refine zV 43 31 1 agg_t43 Hb12 rfl ?_)); have hm40 := HM1.out; have hkm := HKM.out; have hwk : wrap64 ((k : Int) + 1) = (k : Int) + 1 := IntWalk.wrap64_in _ (by omega); generalize wrap64 ((k : Int) + 1) = z at *; subst hwk; go_roundw
     case rel => exact ⟨k + 1, HKM.out, rfl, Hb12, HB2, HN⟩
     case measure => simp only [intOf]; omega
theorem load_f42 {W : World} {g : Nat} {cs : Array Value} {T : TypeId} (H : W.heap[g]? = some (.cells cs T (0, 0))) (hs : cs.size = 6) : (loadVar 42 ⟨g, 0, none⟩).run Tryz.prog W = .ok (.agg cs) W :=
 load_full H _ Tryz.underlying42 rfl (by rw [hs]; kernel_rfl)
theorem zinfo_t102 : (Tryz.prog.info? 102).map (·.zero) = some (some (.agg #[eS, .slice none 0 0, .slice none 0 0, .slice none 0 0, iV 0, iV 0, iV 0, iV 0, iV 0, iV 0, iV 0, iV 0, iV 0, iV 0, .slice none 0 0, .slice none 0 0, iV 0, .slice none 0 0, .slice none 0 0, iV 0])) := by kernel_rfl
theorem zero_t102 (W : World) : (zeroValue 102).run Tryz.prog W = .ok (.agg #[eS, .slice none 0 0, .slice none 0 0, .slice none 0 0, iV 0, iV 0, iV 0, iV 0, iV 0, iV 0, iV 0, iV 0, iV 0, iV 0, .slice none 0 0, .slice none 0 0, iV 0, .slice none 0 0, .slice none 0 0, iV 0]) W := zo zinfo_t102 W
def StepR (stay : Bool) (rt : Prop) (M N : List Mrk) (x : Ending) : Prop := ∃ (k : Int) (ok : Bool), x = .returned (.tuple #[iV k, .bool ok]) ∧ (ok = true → rt) ∧ (3 ≤ k → AltP M N) ∧ (stay = true → k = 0)
theorem step_gen (w : World) (hK : KwIn w) (s : Sch) (ra sa ga la ma lb mb : Option Addr) (rv sv gv lc mc le me : Nat) (pf pc pn pd ps pm kp nn th nw da db : Int) (L R : List Ent) (M N : List Mrk) (hS : SchR w s (.slice ra s.records.length rv) (.slice sa s.services.length sv) (.slice ga s.sagas.length gv)) (hM : Small s) (hA : Slc w 6 (.slice la L.length lc) L.length (ecells L)) (hB : Slc w 6 (.slice lb R.length le) R.length (ecells R)) (hC : Slc w 14 (.slice ma M.length mc) M.length (mkcells M)) (hD : Slc w 14 (.slice mb N.length me) N.length (mkcells N)) (hn : M.length ≤ 1000)
  (hbg : ∀ W, Below w.heap.size w W → Calls Tryz.prog 39 #[.agg (sW s ra sa ga la ma lb mb rv sv gv lc mc le me pf pc pn pd ps pm kp nn th nw da db L R M N)] W fun x w' => (∃ q : Bool, x = .returned (.bool q)) ∧ Below W.heap.size W w')
  (hsv : ∀ W, Below w.heap.size w W → Calls Tryz.prog 40 #[.agg (sW s ra sa ga la ma lb mb rv sv gv lc mc le me pf pc pn pd ps pm kp nn th nw da db L R M N)] W fun x w' => (∃ q : Bool, x = .returned (.bool q)) ∧ Below W.heap.size W w')
  (hwi : ∀ W, Below w.heap.size w W → Calls Tryz.prog 41 #[.agg (sW s ra sa ga la ma lb mb rv sv gv lc mc le me pf pc pn pd ps pm kp nn th nw da db L R M N)] W fun x w' => AltR M N x ∧ Below W.heap.size W w')
  (han : ∀ W, Below w.heap.size w W → Calls Tryz.prog 42 #[.agg (sW s ra sa ga la ma lb mb rv sv gv lc mc le me pf pc pn pd ps pm kp nn th nw da db L R M N)] W fun x w' => AltR M N x ∧ Below W.heap.size W w') :
  Calls Tryz.prog 13 #[.agg (sV s ra sa ga rv sv gv), .agg #[iV pf, iV pc, iV pn, iV pd, iV ps, iV pm], iV kp, iV nn, iV th, iV nw, .agg #[.slice la L.length lc, .slice ma M.length mc, iV da], .agg #[.slice lb R.length le, .slice mb N.length me, iV db]] w fun x w' => StepR (entsEq L R && decide (da = db) && othersA nw (-1) M N) ((textA' s).2 = 0 ∧ 0 ≤ nn ∧ nn < 4) M N x ∧ Below w.heap.size w w' := by
 have HTX := zD (fun W (X : Below w.heap.size w W) => ptextS_any W (hK.below X) s _ _ _ (hS.below X) hM)
 have HSL := zD (fun W (X : Below w.heap.size w W) => still_any W s ra sa ga la ma lb mb rv sv gv lc mc le me pf pc pn pd ps pm kp nn th nw da db L R M N (hA.below X) (hB.below X))
 have HOT := zD (fun W (X : Below w.heap.size w W) => others_any W s ra sa ga la ma lb mb rv sv gv lc mc le me pf pc pn pd ps pm kp nn th nw da db L R M N (-1) (hC.below X) (hD.below X) hn)
 have HBG := zD hbg
 have HSV := zD hsv
 have HWI := zD hwi
 have HAN := zD han
 have HAR := zD (fun x (h : AltR M N x) => (show ∃ q : Bool, x = .returned (.bool q) ∧ (q = true → AltP M N) from h))
 have HRE := zD (fun stay rt k ok (h1 : ok = true → rt) (h2 : 3 ≤ k → AltP M N) (h3 : stay = true → k = 0) => show StepR stay rt M N (.returned (.tuple #[iV k, .bool ok])) from ⟨k, ok, rfl, h1, h2, h3⟩)
 have HB0 := zD (Below.refl w.heap.size w)
 clear hK hS hM hA hB hC hD hn hbg hsv hwi han
 generalize textA' s = tx at *
 generalize othersA nw (-1) M N = OT at *
 generalize entsEq L R = EQ at *
 generalize AltR M N = ALR at *
 generalize AltP M N = ALP at *
 go_enter Tryz.func13, Tryz.ntmps13
 go_upto_region 1 with (first | (refine zO 26 0 rfl ?_; intro W1 g1 hg1 hx1; have Hb11 := zD hx1.blk; have db1 := zM HB0 hg1; have HB1 := zE hx1 HB0 db1; clear HB0 hg1 hx1) | (refine zO 42 1 rfl ?_; intro W2 g2 hg2 hx2; have Hb22 := zD hx2.blk; have db2 := zM HB1 hg2; have Hb12 := zN hx2 hg2 Hb11; have HB2 := zE hx2 HB1 db2; clear Hb11 HB1 hg2 hx2) | (refine zO 45 6 rfl ?_; intro W3 g3 hg3 hx3; have Hb33 := zD hx3.blk; have db3 := zM HB2 hg3; have Hb13 := zN hx3 hg3 Hb12; have Hb23 := zN hx3 hg3 Hb22; have HB3 := zE hx3 HB2 db3; clear Hb12 Hb22 HB2 hg3 hx3) | (refine zO 45 7 rfl ?_; intro W4 g4 hg4 hx4; have Hb44 := zD hx4.blk; have db4 := zM HB3 hg4; have Hb14 := zN hx4 hg4 Hb13; have Hb24 := zN hx4 hg4 Hb23; have Hb34 := zN hx4 hg4 Hb33; have HB4 := zE hx4 HB3 db4; clear Hb13 Hb23 Hb33 HB3 hg4 hx4))
 go_wp2_with (first | (refine zS 26 8 0 (load_f26 Hb14.out (by rfl)) ?_))
 refine (HTX.out _ HB4.out).mono ?_
 rintro e w2 ⟨rfl, hb⟩
 have Hb15 := zB hb Hb14
 clear Hb14
 have Hb25 := zB hb Hb24
 clear Hb24
 have Hb35 := zB hb Hb34
 clear Hb34
 have Hb45 := zB hb Hb44
 clear Hb44
 have HB5 := zT HB4 hb
 clear HB4 hb
 by_cases ht : tx.2 = 0
 case neg =>
  have d0 : ((tx.2 : Int) != 0) = true := by rw [bne_iff_ne]; omega
  clear ht; go_wp2_with fail; exact zR (v := .tuple #[iV 0, .bool false]) ⟨HRE.out _ _ 0 false (fun h => by cases h) (fun h => by omega) (fun _ => rfl), HB5.out⟩
 have d0 : ((tx.2 : Int) != 0) = false := by rw [bne_eq_false_iff_eq]; omega
 by_cases h1 : nn < 0
 case pos =>
  have d1 : decide (nn < 0) = true := zt h1; clear ht h1; go_wp2_with fail; exact zR (v := .tuple #[iV 0, .bool false]) ⟨HRE.out _ _ 0 false (fun h => by cases h) (fun h => by omega) (fun _ => rfl), HB5.out⟩
 have d1 : decide (nn < 0) = false := zf h1
 by_cases h2 : 4 ≤ nn
 case pos =>
  have d2 : decide (4 ≤ nn) = true := zt h2; clear ht h1 h2; go_wp2_with fail; exact zR (v := .tuple #[iV 0, .bool false]) ⟨HRE.out _ _ 0 false (fun h => by cases h) (fun h => by omega) (fun _ => rfl), HB5.out⟩
 have d2 : decide (4 ≤ nn) = false := zf h2
 have HRT := zD (show tx.2 = 0 ∧ 0 ≤ nn ∧ nn < 4 from ⟨ht, by omega, by omega⟩)
 clear ht h1 h2
 go_upto_block 0 with (first | (refine zS 26 8 0 (load_f26 Hb15.out (by rfl)) ?_) | (refine zS 42 9 0 (load_f42 Hb25.out (by rfl)) ?_) | (refine zS 45 14 0 (load_f45 Hb35.out (by rfl)) ?_) | (refine zS 45 15 0 (load_f45 Hb45.out (by rfl)) ?_) | (refine wpList_buildS 102 #[(0, (.tmp 36)), (1, (.tmp 37)), (2, (.tmp 38)), (3, (.tmp 39)), (4, (.tmp 40)), (5, (.tmp 41)), (6, (.tmp 42)), (7, (.tmp 43))] (by rfl) (by rfl) #[(0, .agg (sV s ra sa ga rv sv gv)), (1, .agg #[iV pf, iV pc, iV pn, iV pd, iV ps, iV pm]), (2, iV kp), (3, iV nn), (4, iV th), (5, iV nw), (6, .agg #[.slice la L.length lc, .slice ma M.length mc, iV da]), (7, .agg #[.slice lb R.length le, .slice mb N.length me, iV db])] (by kernel_rfl) (sW s ra sa ga la ma lb mb rv sv gv lc mc le me pf pc pn pd ps pm kp nn th nw da db L R M N) (by kernel_rfl) ?_) | (refine zA 102 zero_t102 ?_; intro W6 g6 hg6 hx6; have Hb66 := zD hx6.blk; have db6 := zM HB5 hg6; have Hb16 := zN hx6 hg6 Hb15; have nb6b1 := newer hg6 Hb15.out; have Hb26 := zN hx6 hg6 Hb25; have nb6b2 := newer hg6 Hb25.out; have Hb36 := zN hx6 hg6 Hb35; have nb6b3 := newer hg6 Hb35.out; have Hb46 := zN hx6 hg6 Hb45; have nb6b4 := newer hg6 Hb45.out; have HB6 := zE hx6 HB5 db6; clear Hb15 Hb25 Hb35 Hb45 HB5 hg6 hx6) | (refine zW 102 20 44 rfl Hb66 ?_; intro W7 hx7; have Hb67 := zD hx7.blk; have Hb17 := zH hx7 nb6b1.symm Hb16; have Hb27 := zH hx7 nb6b2.symm Hb26; have Hb37 := zH hx7 nb6b3.symm Hb36; have Hb47 := zH hx7 nb6b4.symm Hb46; have HB7 := zE hx7 HB6 db6; clear hx7 Hb16 Hb26 Hb36 Hb46 HB6 Hb66))
 clear d0 d1 d2
 go_wp2_with (first | (refine zS 102 20 0 (load_f102 Hb67.out (by rfl)) ?_))
 refine (HSL.out _ HB7.out).mono ?_
 rintro e w3 ⟨rfl, hb⟩
 clear Hb17
 clear Hb27
 have Hb38 := zB hb Hb37
 clear Hb37
 have Hb48 := zB hb Hb47
 clear Hb47
 have Hb68 := zB hb Hb67
 clear Hb67
 have HB8 := zT HB7 hb
 clear HB7 hb
 cases EQ with
 | false =>
  go_wp2_with (first | (refine zS 102 20 0 (load_f102 Hb68.out (by rfl)) ?_)); refine (HBG.out _ HB8.out).mono ?_; rintro e v7 ⟨⟨q, rfl⟩, hb⟩; clear Hb38; clear Hb48; have Hb69 := zB hb Hb68; clear Hb68; have HB9 := zT HB8 hb; clear HB8 hb; cases q with
  | true =>
   go_wp2_with fail; exact zR (v := .tuple #[iV 1, .bool true]) ⟨HRE.out _ _ 1 true (fun _ => HRT.out) (fun h => by omega) (fun h => by simp at h), HB9.out⟩
  | false =>
   go_wp2_with (first | (refine zS 102 20 0 (load_f102 Hb69.out (by rfl)) ?_)); refine (HSV.out _ HB9.out).mono ?_; rintro e v9 ⟨⟨q, rfl⟩, hb⟩; have Hb610 := zB hb Hb69; clear Hb69; have HB10 := zT HB9 hb; clear HB9 hb; cases q with
   | true =>
    go_wp2_with fail; exact zR (v := .tuple #[iV 2, .bool true]) ⟨HRE.out _ _ 2 true (fun _ => HRT.out) (fun h => by omega) (fun h => by simp at h), HB10.out⟩
   | false =>
    go_wp2_with (first | (refine zS 102 20 0 (load_f102 Hb610.out (by rfl)) ?_)); refine (HWI.out _ HB10.out).mono ?_; rintro e v11 ⟨hx, hb⟩; obtain ⟨q, rfl, hq⟩ := HAR.out _ hx; clear hx; have Hb611 := zB hb Hb610; clear Hb610; have HB11 := zT HB10 hb; clear HB10 hb; cases q with
    | true =>
     have HQ := zD (hq rfl); clear hq; go_wp2_with fail; exact zR (v := .tuple #[iV 3, .bool true]) ⟨HRE.out _ _ 3 true (fun _ => HRT.out) (fun _ => HQ.out) (fun h => by simp at h), HB11.out⟩
    | false =>
     clear hq; go_wp2_with (first | (refine zS 102 20 0 (load_f102 Hb611.out (by rfl)) ?_)); refine (HAN.out _ HB11.out).mono ?_; rintro e v13 ⟨hx, hb⟩; obtain ⟨q, rfl, hq⟩ := HAR.out _ hx; clear hx; have Hb612 := zB hb Hb611; clear Hb611; have HB12 := zT HB11 hb; clear HB11 hb; cases q with
     | true =>
      have HQ := zD (hq rfl); clear hq; go_wp2_with fail; exact zR (v := .tuple #[iV 4, .bool true]) ⟨HRE.out _ _ 4 true (fun _ => HRT.out) (fun _ => HQ.out) (fun h => by simp at h), HB12.out⟩
     | false =>
      clear hq; go_wp2_with fail; exact zR (v := .tuple #[iV 0, .bool false]) ⟨HRE.out _ _ 0 false (fun h => by cases h) (fun h => by omega) (fun _ => rfl), HB12.out⟩
 | true =>
  by_cases hd : da = db
  case neg =>
   have dd : (da == db) = false := by rw [zb]; exact hd
   have HDD := zD hd; clear hd; go_wp2_with (first | (refine zV 3 49 2 agg_t3 Hb38 rfl ?_) | (refine zV 3 51 2 agg_t3 Hb48 rfl ?_) | (refine zS 102 20 0 (load_f102 Hb68.out (by rfl)) ?_)); refine (HBG.out _ HB8.out).mono ?_; rintro e v7 ⟨⟨q, rfl⟩, hb⟩; clear Hb38; clear Hb48; have Hb69 := zB hb Hb68; clear Hb68; have HB9 := zT HB8 hb; clear HB8 hb; cases q with
   | true =>
    go_wp2_with fail; exact zR (v := .tuple #[iV 1, .bool true]) ⟨HRE.out _ _ 1 true (fun _ => HRT.out) (fun h => by omega) (fun h => by simp [HDD.out] at h), HB9.out⟩
   | false =>
    go_wp2_with (first | (refine zS 102 20 0 (load_f102 Hb69.out (by rfl)) ?_)); refine (HSV.out _ HB9.out).mono ?_; rintro e v9 ⟨⟨q, rfl⟩, hb⟩; have Hb610 := zB hb Hb69; clear Hb69; have HB10 := zT HB9 hb; clear HB9 hb; cases q with
    | true =>
     go_wp2_with fail; exact zR (v := .tuple #[iV 2, .bool true]) ⟨HRE.out _ _ 2 true (fun _ => HRT.out) (fun h => by omega) (fun h => by simp [HDD.out] at h), HB10.out⟩
    | false =>
     go_wp2_with (first | (refine zS 102 20 0 (load_f102 Hb610.out (by rfl)) ?_)); refine (HWI.out _ HB10.out).mono ?_; rintro e v11 ⟨hx, hb⟩; obtain ⟨q, rfl, hq⟩ := HAR.out _ hx; clear hx; have Hb611 := zB hb Hb610; clear Hb610; have HB11 := zT HB10 hb; clear HB10 hb; cases q with
     | true =>
      have HQ := zD (hq rfl); clear hq; go_wp2_with fail; exact zR (v := .tuple #[iV 3, .bool true]) ⟨HRE.out _ _ 3 true (fun _ => HRT.out) (fun _ => HQ.out) (fun h => by simp [HDD.out] at h), HB11.out⟩
     | false =>
      clear hq; go_wp2_with (first | (refine zS 102 20 0 (load_f102 Hb611.out (by rfl)) ?_)); refine (HAN.out _ HB11.out).mono ?_; rintro e v13 ⟨hx, hb⟩; obtain ⟨q, rfl, hq⟩ := HAR.out _ hx; clear hx; have Hb612 := zB hb Hb611; clear Hb611; have HB12 := zT HB11 hb; clear HB11 hb; cases q with
      | true =>
       have HQ := zD (hq rfl); clear hq; go_wp2_with fail; exact zR (v := .tuple #[iV 4, .bool true]) ⟨HRE.out _ _ 4 true (fun _ => HRT.out) (fun _ => HQ.out) (fun h => by simp [HDD.out] at h), HB12.out⟩
      | false =>
       clear hq; go_wp2_with fail; exact zR (v := .tuple #[iV 0, .bool false]) ⟨HRE.out _ _ 0 false (fun h => by cases h) (fun h => by omega) (fun _ => rfl), HB12.out⟩
  have dd : (da == db) = true := by rw [beq_iff_eq]; exact hd
  have HDD := zD hd; clear hd; go_wp2_with (first | (refine zV 3 49 2 agg_t3 Hb38 rfl ?_) | (refine zV 3 51 2 agg_t3 Hb48 rfl ?_) | (refine zS 102 20 0 (load_f102 Hb68.out (by rfl)) ?_)); refine (HOT.out _ HB8.out).mono ?_; rintro e w5 ⟨rfl, hb⟩; clear Hb38; clear Hb48; have Hb69 := zB hb Hb68; clear Hb68; have HB9 := zT HB8 hb; clear HB8 hb; cases OT with
  | true =>
   go_wp2_with fail; exact zR (v := .tuple #[iV 0, .bool true]) ⟨HRE.out _ _ 0 true (fun _ => HRT.out) (fun h => by omega) (fun _ => rfl), HB9.out⟩
  | false =>
   go_wp2_with (first | (refine zS 102 20 0 (load_f102 Hb69.out (by rfl)) ?_)); refine (HBG.out _ HB9.out).mono ?_; rintro e v7 ⟨⟨q, rfl⟩, hb⟩; have Hb610 := zB hb Hb69; clear Hb69; have HB10 := zT HB9 hb; clear HB9 hb; cases q with
   | true =>
    go_wp2_with fail; exact zR (v := .tuple #[iV 1, .bool true]) ⟨HRE.out _ _ 1 true (fun _ => HRT.out) (fun h => by omega) (fun h => by simp at h), HB10.out⟩
   | false =>
    go_wp2_with (first | (refine zS 102 20 0 (load_f102 Hb610.out (by rfl)) ?_)); refine (HSV.out _ HB10.out).mono ?_; rintro e v9 ⟨⟨q, rfl⟩, hb⟩; have Hb611 := zB hb Hb610; clear Hb610; have HB11 := zT HB10 hb; clear HB10 hb; cases q with
    | true =>
     go_wp2_with fail; exact zR (v := .tuple #[iV 2, .bool true]) ⟨HRE.out _ _ 2 true (fun _ => HRT.out) (fun h => by omega) (fun h => by simp at h), HB11.out⟩
    | false =>
     go_wp2_with (first | (refine zS 102 20 0 (load_f102 Hb611.out (by rfl)) ?_)); refine (HWI.out _ HB11.out).mono ?_; rintro e v11 ⟨hx, hb⟩; obtain ⟨q, rfl, hq⟩ := HAR.out _ hx; clear hx; have Hb612 := zB hb Hb611; clear Hb611; have HB12 := zT HB11 hb; clear HB11 hb; cases q with
     | true =>
      have HQ := zD (hq rfl); clear hq; go_wp2_with fail; exact zR (v := .tuple #[iV 3, .bool true]) ⟨HRE.out _ _ 3 true (fun _ => HRT.out) (fun _ => HQ.out) (fun h => by simp at h), HB12.out⟩
     | false =>
      clear hq; go_wp2_with (first | (refine zS 102 20 0 (load_f102 Hb612.out (by rfl)) ?_)); refine (HAN.out _ HB12.out).mono ?_; rintro e v13 ⟨hx, hb⟩; obtain ⟨q, rfl, hq⟩ := HAR.out _ hx; clear hx; clear Hb612; have HB13 := zT HB12 hb; clear HB12 hb; cases q with
      | true =>
       have HQ := zD (hq rfl); clear hq; go_wp2_with fail; exact zR (v := .tuple #[iV 4, .bool true]) ⟨HRE.out _ _ 4 true (fun _ => HRT.out) (fun _ => HQ.out) (fun h => by simp at h), HB13.out⟩
      | false =>
       clear hq; go_wp2_with fail; exact zR (v := .tuple #[iV 0, .bool false]) ⟨HRE.out _ _ 0 false (fun h => by cases h) (fun h => by omega) (fun _ => rfl), HB13.out⟩
end Go.Proofs.YtgoejmheihgpfaaGreatDoor
