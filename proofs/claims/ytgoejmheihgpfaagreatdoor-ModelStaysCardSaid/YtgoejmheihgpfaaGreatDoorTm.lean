/- Lemmas for ModelStays' proof. -/
import Derived.Test.YtgoejmheihgpfaaGreatDoorTl
namespace Go.Proofs.YtgoejmheihgpfaaGreatDoor
set_option maxRecDepth 100000
set_option maxHeartbeats 16000000
open Go.RowKit
def overA (r : Run) : Bool := decide (3 ≤ r.ph) && decide (r.ph ≤ 5)
theorem over_any (w : World) (r : Run) : Calls Tryz.prog 14 #[.agg (runC r)] w fun x w' => x = .returned (.bool (overA r)) ∧ Below w.heap.size w w' := by
 obtain ⟨id, sg, arg, at_, ph, tr, st, wh, vl⟩ := r
 unfold runC overA
 dsimp only
 have HB0 := zD (Below.refl w.heap.size w)
 go_enter Tryz.func14, Tryz.ntmps14
 go_upto_region 1 with (first | (refine zO 53 0 rfl ?_; intro W1 g1 hg1 hx1; have Hb11 := zD hx1.blk; have db1 := zM HB0 hg1; have HB1 := zE hx1 HB0 db1; clear HB0 hg1 hx1))
 by_cases h1 : 3 ≤ ph
 case neg =>
  have d1 : decide ((3 : Int) ≤ (ph : Nat)) = false := by simp; omega
  go_wp2_with (first | (refine zV 5 3 4 agg_t5 Hb11 rfl ?_) | (refine zV 5 7 4 agg_t5 Hb11 rfl ?_)); exact zR (v := .bool false) ⟨by simp; omega, HB1.out⟩
 have d1 : decide ((3 : Int) ≤ (ph : Nat)) = true := by simp; omega
 by_cases h2 : ph ≤ 5
 case neg =>
  have d2 : decide (((ph : Nat) : Int) ≤ 5) = false := by simp; omega
  go_wp2_with (first | (refine zV 5 3 4 agg_t5 Hb11 rfl ?_) | (refine zV 5 7 4 agg_t5 Hb11 rfl ?_)); exact zR (v := .bool false) ⟨by simp; omega, HB1.out⟩
 have d2 : decide (((ph : Nat) : Int) ≤ 5) = true := by simp; omega
 go_wp2_with (first | (refine zV 5 3 4 agg_t5 Hb11 rfl ?_) | (refine zV 5 7 4 agg_t5 Hb11 rfl ?_))
 exact zR (v := .bool true) ⟨by simp; omega, HB1.out⟩
theorem outcome_any (w : World) (r : Run) : Calls Tryz.prog 75 #[.agg (runC r)] w fun x w' => (∃ (p q : Int) (v : Tx), x = .returned (.tuple #[iV p, iV q, sT v])) ∧ Below w.heap.size w w' := by
 obtain ⟨id, sg, arg, at_, ph, tr, st, wh, vl⟩ := r
 unfold runC
 dsimp only
 have HB0 := zD (Below.refl w.heap.size w)
 go_enter Tryz.func75, Tryz.ntmps75
 go_upto_region 1 with (first | (refine zO 53 0 rfl ?_; intro W1 g1 hg1 hx1; have Hb11 := zD hx1.blk; have db1 := zM HB0 hg1; have HB1 := zE hx1 HB0 db1; clear HB0 hg1 hx1))
 have bd := Hb11.out
 have lt1 := blk_lt bd
 have c4 := zG bd 4 rfl
 have c6 := zG bd 6 rfl
 have c7 := zG bd 7 rfl
 have c8 := zG bd 8 rfl
 clear bd
 by_cases h3 : ph = 3
 case pos =>
  have d3 : (((ph : Nat) : Int) == 3) = true := by rw [beq_iff_eq]; omega
  clear h3; go_wp2_with fail; go_quiet (fail); go_wp2_with fail; exact zR (v := .tuple #[iV 3, iV 0, sT vl]) ⟨⟨_, _, vl, rfl⟩, HB1.out.trans ⟨rfl, rfl, rfl, zn, fun _ _ => rfl⟩⟩
 have d3 : (((ph : Nat) : Int) == 3) = false := by rw [zb]; omega
 by_cases h4 : ph = 4
 case pos =>
  have d4 : (((ph : Nat) : Int) == 4) = true := by rw [beq_iff_eq]; omega
  clear h3 h4; by_cases hw : wh = 201
  case pos =>
   have dw : (wh == 201) = true := by rw [beq_iff_eq]; exact hw
   clear hw; go_wp2_with fail; exact zR (v := .tuple #[iV 5, iV 0, eS]) ⟨⟨_, _, [], rfl⟩, HB1.out⟩
  have dw : (wh == 201) = false := by rw [zb]; exact hw
  clear hw; go_wp2_with fail; go_quiet (fail); go_wp2_with fail; exact zR (v := .tuple #[iV 4, iV wh, eS]) ⟨⟨_, _, [], rfl⟩, HB1.out.trans ⟨rfl, rfl, rfl, zn, fun _ _ => rfl⟩⟩
 have d4 : (((ph : Nat) : Int) == 4) = false := by rw [zb]; omega
 by_cases h5 : ph = 5
 case pos =>
  have d5 : (((ph : Nat) : Int) == 5) = true := by rw [beq_iff_eq]; omega
  clear h3 h4 h5; go_wp2_with fail; exact zR (v := .tuple #[iV 4, iV 133, eS]) ⟨⟨_, _, [], rfl⟩, HB1.out⟩
 have d5 : (((ph : Nat) : Int) == 5) = false := by rw [zb]; omega
 clear h3 h4 h5
 cases st with
 | true =>
  go_wp2_with fail; exact zR (v := .tuple #[iV 2, iV 0, eS]) ⟨⟨_, _, [], rfl⟩, HB1.out⟩
 | false =>
  go_wp2_with fail; exact zR (v := .tuple #[iV 1, iV 0, eS]) ⟨⟨_, _, [], rfl⟩, HB1.out⟩
theorem quiet_any (w : World) (s : Sch) (ur us ug : Value) (r : Run) (fr : Int) : Calls Tryz.prog 138 #[.agg #[sT r.id, sT r.sg, sT r.arg, iV r.at_, .int .u8 (r.ph : Nat), iV r.tr, .bool r.st, iV r.wh, sT r.vl, sT s.name, ur, us, ug, iV fr]] w fun x w' => x = .returned (.tuple #[.agg (runC r), .agg #[.int .u8 0, iV 0, iV 0, .int .u64 0, eS, .int .u64 0, eS, eS, iV 0, eS], .bool false, .bool true]) ∧ Below w.heap.size w w' := by
 obtain ⟨id, sg, arg, at_, ph, tr, st, wh, vl⟩ := r
 unfold runC
 dsimp only
 have HB0 := zD (Below.refl w.heap.size w)
 go_enter Tryz.func138, Tryz.ntmps138
 go_upto_region 1 with (first | (refine zO 231 0 rfl ?_; intro W1 g1 hg1 hx1; have Hb11 := zD hx1.blk; have db1 := zM HB0 hg1; have HB1 := zE hx1 HB0 db1; clear HB0 hg1 hx1) | (refine zA 53 zero_t53 ?_; intro W2 g2 hg2 hx2; have Hb22 := zD hx2.blk; have db2 := zM HB1 hg2; have Hb12 := zN hx2 hg2 Hb11; have nb2b1 := newer hg2 Hb11.out; have HB2 := zE hx2 HB1 db2; clear Hb11 HB1 hg2 hx2) | (refine zA 63 zero_t63 ?_; intro W3 g3 hg3 hx3; have Hb33 := zD hx3.blk; have db3 := zM HB2 hg3; have Hb13 := zN hx3 hg3 Hb12; have nb3b1 := newer hg3 Hb12.out; have Hb23 := zN hx3 hg3 Hb22; have nb3b2 := newer hg3 Hb22.out; have HB3 := zE hx3 HB2 db3; clear Hb12 Hb22 HB2 hg3 hx3))
 go_wp2_with (first | (refine zS 53 6 0 (load_t53 Hb13.out 0 #[sT id, sT sg, sT arg, iV at_, .int .u8 (ph : Nat), iV tr, .bool st, iV wh, sT vl] (by rfl) (by kernel_rfl)) ?_) | (refine wpList_buildS 63 #[] (by rfl) (by rfl) #[] (by rfl) #[.int .u8 0, iV 0, iV 0, .int .u64 0, eS, .int .u64 0, eS, eS, iV 0, eS] (by kernel_rfl) ?_) | (refine zW 53 2 7 rfl Hb23 ?_; intro W4 hx4; have Hb24 := zD hx4.blk; have Hb14 := zH hx4 nb2b1.symm Hb13; have Hb34 := zH hx4 nb3b2 Hb33; have HB4 := zE hx4 HB3 db2; clear hx4 Hb13 Hb33 HB3 Hb23) | (refine zW 63 3 8 rfl Hb34 ?_; intro W5 hx5; have Hb35 := zD hx5.blk; have Hb15 := zH hx5 nb3b1.symm Hb14; have Hb25 := zH hx5 nb3b2.symm Hb24; have HB5 := zE hx5 HB4 db3; clear hx5 Hb14 Hb24 HB4 Hb34))
 exact zr Tryz.results138 Hb25 Hb35 ⟨rfl, HB5.out⟩
theorem scall_any (w : World) (hK : KwIn w) (s : Sch) (ur us ug : Value) (hS : SchR w s ur us ug) (hM : Small s) (r : Run) (hx : r.id.length ≤ 1000000) (fr : Int) : Calls Tryz.prog 159 #[.agg #[sT r.id, sT r.sg, sT r.arg, iV r.at_, .int .u8 (r.ph : Nat), iV r.tr, .bool r.st, iV r.wh, sT r.vl, sT s.name, ur, us, ug, iV fr]] w fun x w' => (∃ l, LetV l ∧ x = .returned (.agg l)) ∧ Below w.heap.size w w' := by
 have HC := zD (fun W (h : Below w.heap.size w W) bk => call_any W (hK.below h) s ur us ug (hS.below h) hM r.sg r.id hx r.at_ bk fr (bT r.arg))
 clear hK hS hM hx
 obtain ⟨id, sg, arg, at_, ph, tr, st, wh, vl⟩ := r
 dsimp only at HC ⊢
 have HB0 := zD (Below.refl w.heap.size w)
 go_enter Tryz.func159, Tryz.ntmps159
 go_upto_region 1 with (first | (refine zO 231 0 rfl ?_; intro W1 g1 hg1 hx1; have Hb11 := zD hx1.blk; have db1 := zM HB0 hg1; have HB1 := zE hx1 HB0 db1; clear HB0 hg1 hx1) | (refine zA 63 zero_t63 ?_; intro W2 g2 hg2 hx2; have Hb22 := zD hx2.blk; have db2 := zM HB1 hg2; have Hb12 := zN hx2 hg2 Hb11; have nb2b1 := newer hg2 Hb11.out; have HB2 := zE hx2 HB1 db2; clear Hb11 HB1 hg2 hx2))
 go_wp2_with (first | (refine zS 26 6 9 (load_t26 Hb12.out 9 #[sT s.name, ur, us, ug] (by rfl) (by kernel_rfl)) ?_) | (refine zV 9 9 1 agg_t9 Hb12 rfl ?_) | (refine zV 9 12 0 agg_t9 Hb12 rfl ?_) | (refine zV 3 15 3 agg_t3 Hb12 rfl ?_) | (refine zV 5 18 4 agg_t5 Hb12 rfl ?_) | (refine zV 3 21 13 agg_t3 Hb12 rfl ?_) | (refine zV 9 24 2 agg_t9 Hb12 rfl ?_))
 refine (HC.out _ HB2.out _).mono ?_
 rintro e w4 ⟨⟨kd, f, tt, p, c, k, sv, mt, b, rfl⟩, hb⟩
 have Hb13 := zB hb Hb12
 clear Hb12
 have Hb23 := zB hb Hb22
 clear Hb22
 have HB3 := zT HB2 hb
 clear HB2 hb
 go_upto_region 2 with (first | (refine zA 63 zero_t63 ?_; intro W4 g4 hg4 hx4; have Hb44 := zD hx4.blk; have db4 := zM HB3 hg4; have Hb14 := zN hx4 hg4 Hb13; have nb4b1 := newer hg4 Hb13.out; have Hb24 := zN hx4 hg4 Hb23; have nb4b2 := newer hg4 Hb23.out; have HB4 := zE hx4 HB3 db4; clear Hb13 Hb23 HB3 hg4 hx4) | (refine zW 63 3 27 rfl Hb44 ?_; intro W5 hx5; have Hb45 := zD hx5.blk; have Hb15 := zH hx5 nb4b1.symm Hb14; have Hb25 := zH hx5 nb4b2.symm Hb24; have HB5 := zE hx5 HB4 db4; clear hx5 Hb14 Hb24 HB4 Hb44))
 go_wp2_with (first | (refine zS 63 3 0 (load_f63 Hb45.out (by rfl)) ?_) | (refine zW 63 2 29 rfl Hb25 ?_; intro W6 hx6; have Hb26 := zD hx6.blk; have Hb16 := zH hx6 nb2b1.symm Hb15; have Hb46 := zH hx6 nb4b2 Hb45; have HB6 := zE hx6 HB5 db2; clear hx6 Hb15 Hb45 HB5 Hb25))
 have n0_0 := zF Hb26 0 rfl
 have n0_1 := zF Hb26 1 rfl
 have n0_2 := zF Hb26 2 rfl
 have n0_3 := zF Hb26 3 rfl
 have n0_4 := zF Hb26 4 rfl
 have n0_5 := zF Hb26 5 rfl
 have n0_6 := zF Hb26 6 rfl
 have n0_7 := zF Hb26 7 rfl
 have n0_8 := zF Hb26 8 rfl
 have n0_9 := zF Hb26 9 rfl
 exact bodyPost_ret (v := .agg #[.int .u8 kd, iV f, iV tt, .int .u64 0, .string k, .int .u64 p, .string sv, .string mt, iV c, .string b]) (by simp [results, Tryz.results159, go_sem, n0_0, n0_1, n0_2, n0_3, n0_4, n0_5, n0_6, n0_7, n0_8, n0_9]) rfl ⟨⟨_, ⟨_, _, _, _, _, _, _, _, _, _, rfl⟩, rfl⟩, HB6.out⟩
theorem calling_any (w : World) (hK : KwIn w) (s : Sch) (ur us ug : Value) (hS : SchR w s ur us ug) (hM : Small s) (r : Run) (hx : r.id.length ≤ 1000000) (fr : Int) : Calls Tryz.prog 139 #[.agg #[sT r.id, sT r.sg, sT r.arg, iV r.at_, .int .u8 (r.ph : Nat), iV r.tr, .bool r.st, iV r.wh, sT r.vl, sT s.name, ur, us, ug, iV fr]] w fun x w' => (∃ l, LetV l ∧ x = .returned (.tuple #[.agg (runC r), .agg l, .bool true, .bool true])) ∧ Below w.heap.size w w' := by
 have HC := zD (fun W (h : Below w.heap.size w W) => scall_any W (hK.below h) s ur us ug (hS.below h) hM r hx fr)
 clear hK hS hM hx
 obtain ⟨id, sg, arg, at_, ph, tr, st, wh, vl⟩ := r
 unfold runC
 dsimp only at HC ⊢
 have HB0 := zD (Below.refl w.heap.size w)
 go_enter Tryz.func139, Tryz.ntmps139
 go_upto_region 1 with (first | (refine zO 231 0 rfl ?_; intro W1 g1 hg1 hx1; have Hb11 := zD hx1.blk; have db1 := zM HB0 hg1; have HB1 := zE hx1 HB0 db1; clear HB0 hg1 hx1) | (refine zA 53 zero_t53 ?_; intro W2 g2 hg2 hx2; have Hb22 := zD hx2.blk; have db2 := zM HB1 hg2; have Hb12 := zN hx2 hg2 Hb11; have nb2b1 := newer hg2 Hb11.out; have HB2 := zE hx2 HB1 db2; clear Hb11 HB1 hg2 hx2) | (refine zA 63 zero_t63 ?_; intro W3 g3 hg3 hx3; have Hb33 := zD hx3.blk; have db3 := zM HB2 hg3; have Hb13 := zN hx3 hg3 Hb12; have nb3b1 := newer hg3 Hb12.out; have Hb23 := zN hx3 hg3 Hb22; have nb3b2 := newer hg3 Hb22.out; have HB3 := zE hx3 HB2 db3; clear Hb12 Hb22 HB2 hg3 hx3))
 refine wp_region_noPanic ?_
 have Hb13d := zD (show W3.drew.heap[g1]? = _ from Hb13.out)
 clear Hb13
 have Hb23d := zD (show W3.drew.heap[g2]? = _ from Hb23.out)
 clear Hb23
 have Hb33d := zD (show W3.drew.heap[g3]? = _ from Hb33.out)
 clear Hb33
 have HB3d := zD (show Below w.heap.size w W3.drew from HB3.out.trans ⟨rfl, rfl, rfl, zn, fun _ _ => rfl⟩)
 clear HB3
 refine wp_region_held_drew (S := fun w' => w'.heap[g1]? = some (.cells #[sT id, sT sg, sT arg, iV at_, .int .u8 (ph : Nat), iV tr, .bool st, iV wh, sT vl, sT s.name, ur, us, ug, iV fr] 231 (0, 0))) (by kernel_rfl) (Hb13d.out) (fun hHeld => ?_)
 generalize W3.drew = W4 at *
 refine zJ 0 6 rfl ?_
 refine zI 1 7 rfl (fun wS hS => run_load_op 53 (.tmp 6) (by rfl) _ 0 (by rfl) _ (load_t53 hS 0 #[sT id, sT sg, sT arg, iV at_, .int .u8 (ph : Nat), iV tr, .bool st, iV wh, sT vl] (by rfl) (by kernel_rfl))) ?_
 refine zI 2 8 rfl (fun wS hS => run_load_op 231 (.tmp 1) (by rfl) _ 0 (by rfl) _ (load_f231 hS (by rfl))) ?_
 refine zy [3] ?_
 refine zg (some 9) rfl (fun K hK => ?_) ?_
 ·go_simp
  refine (HC.out _ HB3d.out).mono ?_; rintro e w4 ⟨⟨l, ⟨l0, l1, l2, l3, l5, l8, l4, l6, l7, l9, rfl⟩, rfl⟩, hb⟩; have Hb15 := zB hb Hb13d; clear Hb13d; have Hb25 := zB hb Hb23d; clear Hb23d; have Hb35 := zB hb Hb33d; clear Hb33d; have HB5 := zT HB3d hb; clear HB3d hb; refine hK.out _ _ (Hb15.out) (fun hHeld => ?_); clear hK K; try simp only [Act.put, zX, zY, zZ]
  refine zy [4] ?_; refine zg none rfl (fun K hK => ?_) ?_
  ·refine zP 53 2 7 rfl Hb25 ?_
   intro W6 hx6; have Hb26 := zD hx6.blk; have Hb16 := zH hx6 nb2b1.symm Hb15; have Hb36 := zH hx6 nb3b2 Hb35; have HB6 := zE hx6 HB5 db2; clear hx6 Hb15 Hb35 HB5 Hb25; refine hK.out _ _ (Hb16.out) (fun hHeld => ?_); clear hK K; try simp only [Act.put, zX, zY, zZ]
   refine zy [5] ?_; refine zg none rfl (fun K hK => ?_) ?_
   ·refine zP 63 3 9 rfl Hb36 ?_
    intro W7 hx7; have Hb37 := zD hx7.blk; have Hb17 := zH hx7 nb3b1.symm Hb16; have Hb27 := zH hx7 nb3b2.symm Hb26; have HB7 := zE hx7 HB6 db3; clear hx7 Hb16 Hb26 HB6 Hb36; refine hK.out _ _ (Hb17.out) (fun hHeld => ?_); clear hK K; try simp only [Act.put, zX, zY, zZ]
    refine zJ 6 4 rfl ?_; refine zJ 7 5 rfl ?_; refine wpAnyH_done (by kernel_rfl) ?_ _; refine NoPanic.normal ?_; go_wp2_with fail; exact zr Tryz.results139 Hb27 Hb37 ⟨⟨_, ⟨_, _, _, _, _, _, _, _, _, _, rfl⟩, rfl⟩, HB7.out⟩
   exact zh
  exact zh
 exact zh
def BackR (r : Run) (x : Ending) : Prop := ∃ (q : Run) (l : Array Value) (c : Bool), LetV l ∧ q.id = r.id ∧ x = .returned (.tuple #[.agg (runC q), .agg l, .bool c, .bool true])
theorem sback_any (w : World) (hK : KwIn w) (s : Sch) (ur us ug : Value) (hS : SchR w s ur us ug) (hM : Small s) (r : Run) (hx : r.id.length ≤ 1000000) (fr why : Int) : Calls Tryz.prog 137 #[.agg #[sT r.id, sT r.sg, sT r.arg, iV r.at_, .int .u8 (r.ph : Nat), iV r.tr, .bool r.st, iV r.wh, sT r.vl, sT s.name, ur, us, ug, iV fr], iV why] w fun x w' => BackR r x ∧ Below w.heap.size w w' := by
 have HC := zD (fun W (h : Below w.heap.size w W) n => calling_any W (hK.below h) s ur us ug (hS.below h) hM ⟨r.id, r.sg, r.arg, n, 2, 0, false, why, r.vl⟩ hx fr)
 have HQ := zD (fun W => quiet_any W s ur us ug ⟨r.id, r.sg, r.arg, r.at_, 4, 0, false, why, r.vl⟩ fr)
 clear hK hS hM hx
 obtain ⟨id, sg, arg, at_, ph, tr, st, wh, vl⟩ := r
 dsimp only at HC HQ ⊢
 have HB0 := zD (Below.refl w.heap.size w)
 go_enter Tryz.func137, Tryz.ntmps137
 go_upto_region 1 with (first | (refine zO 231 0 rfl ?_; intro W1 g1 hg1 hx1; have Hb11 := zD hx1.blk; have db1 := zM HB0 hg1; have HB1 := zE hx1 HB0 db1; clear HB0 hg1 hx1) | (refine zA 53 zero_t53 ?_; intro W2 g2 hg2 hx2; have Hb22 := zD hx2.blk; have db2 := zM HB1 hg2; have Hb12 := zN hx2 hg2 Hb11; have nb2b1 := newer hg2 Hb11.out; have HB2 := zE hx2 HB1 db2; clear Hb11 HB1 hg2 hx2) | (refine zA 63 zero_t63 ?_; intro W3 g3 hg3 hx3; have Hb33 := zD hx3.blk; have db3 := zM HB2 hg3; have Hb13 := zN hx3 hg3 Hb12; have nb3b1 := newer hg3 Hb12.out; have Hb23 := zN hx3 hg3 Hb22; have nb3b2 := newer hg3 Hb22.out; have HB3 := zE hx3 HB2 db3; clear Hb12 Hb22 HB2 hg3 hx3))
 go_upto_region 2 with (first | (refine zC 3 10 (.tmp 8) 7 (iV why) Hb13 ?_; intro W4 hx4; have Hb14 := zD hx4.blk; have Hb24 := zH hx4 nb2b1 Hb23; have Hb34 := zH hx4 nb3b1 Hb33; have HB4 := zE hx4 HB3 db1; clear hx4 Hb23 Hb33 HB3 Hb13) | (refine zC 4 12 (.const (.bool false)) 6 (.bool false) Hb14 ?_; intro W5 hx5; have Hb15 := zD hx5.blk; have Hb25 := zH hx5 nb2b1 Hb24; have Hb35 := zH hx5 nb3b1 Hb34; have HB5 := zE hx5 HB4 db1; clear hx5 Hb24 Hb34 HB4 Hb14) | (refine zC 3 14 (.const (iV 0)) 5 (iV 0) Hb15 ?_; intro W6 hx6; have Hb16 := zD hx6.blk; have Hb26 := zH hx6 nb2b1 Hb25; have Hb36 := zH hx6 nb3b1 Hb35; have HB6 := zE hx6 HB5 db1; clear hx6 Hb25 Hb35 HB5 Hb15))
 by_cases h0 : at_ = 0
 case pos =>
  have d0 : (at_ == 0) = true := by rw [beq_iff_eq]; exact h0
  clear h0; go_upto_region 3 with (first | (refine zV 3 16 3 agg_t3 Hb16 rfl ?_)); go_upto_region 4 with (first | (refine zC 5 20 (.const (.int .u8 4)) 4 (.int .u8 4) Hb16 ?_; intro W7 hx7; have Hb17 := zD hx7.blk; have Hb27 := zH hx7 nb2b1 Hb26; have Hb37 := zH hx7 nb3b1 Hb36; have HB7 := zE hx7 HB6 db1; clear hx7 Hb26 Hb36 HB6 Hb16)); go_wp2_with (first | (refine zS 231 2 0 (load_f231 Hb17.out (by rfl)) ?_)); refine (HQ.out _).mono ?_; rintro e w4 ⟨rfl, hb⟩; have Hb18 := zB hb Hb17; clear Hb17; have Hb28 := zB hb Hb27; clear Hb27; have Hb38 := zB hb Hb37; clear Hb37; have HB8 := zT HB7 hb; clear HB7 hb; go_wp2_with (first | (refine zW 53 4 23 rfl Hb28 ?_; intro W9 hx9; have Hb29 := zD hx9.blk; have Hb19 := zH hx9 nb2b1.symm Hb18; have Hb39 := zH hx9 nb3b2 Hb38; have HB9 := zE hx9 HB8 db2; clear hx9 Hb18 Hb38 HB8 Hb28) | (refine zW 63 5 24 rfl Hb39 ?_; intro W10 hx10; have Hb310 := zD hx10.blk; have Hb110 := zH hx10 nb3b1.symm Hb19; have Hb210 := zH hx10 nb3b2.symm Hb29; have HB10 := zE hx10 HB9 db3; clear hx10 Hb19 Hb29 HB9 Hb39)); exact zr Tryz.results137 Hb210 Hb310 ⟨⟨⟨id, sg, arg, at_, 4, 0, false, why, vl⟩, _, _, ⟨_, _, _, _, _, _, _, _, _, _, rfl⟩, rfl, rfl⟩, HB10.out⟩
 case neg =>
  have d0 : (at_ == 0) = false := by rw [zb]; exact h0
  clear h0; go_upto_region 5 with (first | (refine zV 3 16 3 agg_t3 Hb16 rfl ?_)); go_upto_region 6 with (first | (refine zV 3 28 3 agg_t3 Hb16 rfl ?_) | (refine zC 5 32 (.const (.int .u8 2)) 4 (.int .u8 2) Hb16 ?_; intro W7 hx7; have Hb17 := zD hx7.blk; have Hb27 := zH hx7 nb2b1 Hb26; have Hb37 := zH hx7 nb3b1 Hb36; have HB7 := zE hx7 HB6 db1; clear hx7 Hb26 Hb36 HB6 Hb16) | (refine wpList_cellI 3 (.tmp 34) (.tmp 30) (by rfl) (by rfl) _ 3 #[sT id, sT sg, sT arg, iV at_, .int .u8 2, iV 0, .bool false, iV why, sT vl, sT s.name, ur, us, ug, iV fr] (by rfl) ⟨_, by rfl⟩ Hb17.out (by simp) (by kernel_rfl) ?_; intro i8 W8 hx8; have Hb18 := zD (show W8.heap[g1]? = some (.cells #[sT id, sT sg, sT arg, iV i8, .int .u8 2, iV 0, .bool false, iV why, sT vl, sT s.name, ur, us, ug, iV fr] 231 (0, 0)) from hx8.blk); have Hb28 := zH hx8 nb2b1 Hb27; have Hb38 := zH hx8 nb3b1 Hb37; have HB8 := zE hx8 HB7 db1; clear hx8 Hb27 Hb37 HB7 Hb17)); go_wp2_with (first | (refine zS 231 2 0 (load_f231 Hb18.out (by rfl)) ?_)); refine (HC.out _ HB8.out _).mono ?_; rintro e w4 ⟨⟨l, ⟨l0, l1, l2, l3, l5, l8, l4, l6, l7, l9, rfl⟩, rfl⟩, hb⟩; have Hb19 := zB hb Hb18; clear Hb18; have Hb29 := zB hb Hb28; clear Hb28; have Hb39 := zB hb Hb38; clear Hb38; have HB9 := zT HB8 hb; clear HB8 hb; go_wp2_with (first | (refine zW 53 4 37 rfl Hb29 ?_; intro W10 hx10; have Hb210 := zD hx10.blk; have Hb110 := zH hx10 nb2b1.symm Hb19; have Hb310 := zH hx10 nb3b2 Hb39; have HB10 := zE hx10 HB9 db2; clear hx10 Hb19 Hb39 HB9 Hb29) | (refine zW 63 5 38 rfl Hb310 ?_; intro W11 hx11; have Hb311 := zD hx11.blk; have Hb111 := zH hx11 nb3b1.symm Hb110; have Hb211 := zH hx11 nb3b2.symm Hb210; have HB11 := zE hx11 HB10 db3; clear hx11 Hb110 Hb210 HB10 Hb310)); exact zr Tryz.results137 Hb211 Hb311 ⟨⟨⟨id, sg, arg, i8, 2, 0, false, why, vl⟩, _, _, ⟨_, _, _, _, _, _, _, _, _, _, rfl⟩, rfl, rfl⟩, HB11.out⟩
end Go.Proofs.YtgoejmheihgpfaaGreatDoor
