/- Lemmas for ModelStays' proof. -/
import Derived.Test.YtgoejmheihgpfaaGreatDoorRo
namespace Go.Proofs.YtgoejmheihgpfaaGreatDoor
set_option maxRecDepth 100000
set_option maxHeartbeats 16000000
open Go.RowKit
theorem part_next (w0 : World) (s : Sch) (ur us ug : Value) (hS : SchR w0 s ur us ug) (hM : Small s) (hFO : FOk s) (rb : Nat) (hrb : w0.heap.size ≤ rb) (b : Tx) (hl : b.length ≤ 1000000) (d : Nat) (hd : d < 12) (hP : PartAt w0 s rb ⟨sT s.name, ur, us, ug, b⟩ d) : PartAt w0 s rb ⟨sT s.name, ur, us, ug, b⟩ (d + 1) := by
 intro w r L v hb0 H hO hL hT hl40
 cases L with
 | nil => cases hT
 | cons t T =>
 obtain ⟨a, c, rfl⟩ := hL.now.shape
 obtain ⟨b1, o1, rfl, hc1, _⟩ := slc_tail hL.now
 have hlt := H.lt
 have hcc : (t :: T).length ≤ c := by obtain ⟨⟨_, _, e, h, _⟩, _⟩ := hL.now; cases e; exact h
 have HCC := zD (show T.length + 1 ≤ c from hcc)
 clear hcc
 have HSt := zD (fun W (p : PtN rb w W) => show W.cell? ⟨b1, o1, none⟩ = some (.int .u8 (t.kind : Nat)) ∧ W.cell? ⟨b1, o1 + 1, none⟩ = some (sT t.name) from by
  obtain ⟨b', o', e, _, h1, h2⟩ := srt_at (hL W p) (k := 0) (by simp); injection e with e; injection e with e1 e2; subst e1 e2; exact ⟨by simpa using h1, by simpa using h2⟩)
 have HTl := zD hL.tail
 generalize hlT : (t :: T).length = n0 at *
 have HL0 := zD (show n0 = T.length + 1 from hlT.symm)
 have HNm := zD (fun W (p : PtN rb w W) r' (h : RdR rb W ⟨sT s.name, ur, us, ug, b⟩ r') (ho : Ok b r') (hn : r'.n < 4096) => named_any w0 W s ur us ug hS hM hFO rb hrb b hl d hd hP (p.below hb0 hrb (by have := hb0.size; omega)) r' h ho hn r.at_ t.name)
 have HPP := zD (fun W (p : PtN rb w W) r' (h : RdR rb W ⟨sT s.name, ur, us, ug, b⟩ r') (ho : Ok b r') (hT' : TyOk T) => hP W r' T _ (p.below hb0 hrb (by have := hb0.size; omega)) h ho (HTl.out.keep p) hT' (by have := HL0.out; omega))
 have HNU := zD (fun W r (h : RdR rb W ⟨sT s.name, ur, us, ug, b⟩ r) => number_any W rb _ r h hl)
 have HBI := zD (fun W r (h : RdR rb W ⟨sT s.name, ur, us, ug, b⟩ r) => bit_any W rb _ r h hl)
 have HTO := zD (show t.kind = 5 ∨ t.kind = 6 → TyOk T from hT)
 have HNA := zD (show partA s b (d + 1) (t :: T) r = if r.n = 4096 ∨ r.size = 4096 then .inl (r.at_, 3) else kindA s b (partA s b d) r.at_ t T { r with size := r.size + 1 } from rfl)
 show Calls Tryz.prog 143 #[.pointer (some ⟨rb, 0, none⟩), .slice (some ⟨b1, o1, none⟩) n0 c, iV (12 - (d + 1 : Nat))] w fun x w' => PtN rb w w' ∧ ((∃ f, partA s b (d + 1) (t :: T) r = .inl f ∧ x = pan f) ∨ ∃ r', partA s b (d + 1) (t :: T) r = .inr r' ∧ x = .returned (.tuple #[]) ∧ RdR rb w' ⟨sT s.name, ur, us, ug, b⟩ r' ∧ Ok b r')
 generalize partA s b (d + 1) (t :: T) r = NA at *
 have hd12 : ((12 - ((d : Int) + 1)) == 12) = false := by rw [zb]; omega
 have HFa := zD (fun w => fail_any w r.at_ 3 3 rfl)
 have HFf := zD (fun w => fail_any w r.at_ 162 162 rfl)
 have HFs := zD (fun w => fail_any w b.length 160 160 rfl)
 have hsn : (r.size : Int) ≤ 4096 := by have := hO.size; omega
 have hat := hO.at_
 have hnn := hO.n
 have hsz := hO.size
 have HA0 := zD (show RdR rb (w.alloc (.cells #[.pointer (some ⟨rb, 0, none⟩)] 241)) ⟨sT s.name, ur, us, ug, b⟩ r from H.after (bl1 w _))
 have HAP := zD (show PtN rb w (w.alloc (.cells #[.pointer (some ⟨rb, 0, none⟩)] 241)) from PtN.of_below (bl1 w _))
 have HAG := zD (zw w (.cells #[.pointer (some ⟨rb, 0, none⟩)] 241))
 have HAS := zD (show w.heap.size < (w.alloc (.cells #[.pointer (some ⟨rb, 0, none⟩)] 241)).heap.size by simp)
 clear hP hL hT H hS hM hFO hO HTl hlT
 go_enter Tryz.func143, Tryz.ntmps143
 go_upto_region 1 with (fail)
 generalize w.alloc (.cells #[.pointer (some ⟨rb, 0, none⟩)] 241) = wa at *
 have a0 : wa.cell? ⟨w.heap.size, 0, none⟩ = some (.pointer (some ⟨rb, 0, none⟩)) := by simp [World.cell?, HAG.out]
 obtain ⟨a6, c6, _, d4, d5, d6, d7⟩ := HA0.out.cells
 have df := HA0.out.froz
 by_cases hn1 : r.n = 4096
 ·have e1 : ((r.n : Int) == 4096) = true := by rw [beq_iff_eq]; omega
  have HE := zD (show NA = .inl (r.at_, 3) from HNA.out.trans (if_pos (.inl hn1))); go_wp2_with fail; refine (HFa.out _).mono ?_; rintro e w3 ⟨rfl, rfl⟩; exact ⟨rfl, HAP.out, .inl ⟨_, HE.out, rfl⟩⟩
 have e1 : ((r.n : Int) == 4096) = false := by rw [zb]; omega
 by_cases hn2 : r.size = 4096
 ·have e2 : ((r.size : Int) == 4096) = true := by rw [beq_iff_eq]; omega
  have HE := zD (show NA = .inl (r.at_, 3) from HNA.out.trans (if_pos (.inr hn2))); go_wp2_with fail; refine (HFa.out _).mono ?_; rintro e w3 ⟨rfl, rfl⟩; exact ⟨rfl, HAP.out, .inl ⟨_, HE.out, rfl⟩⟩
 have e2 : ((r.size : Int) == 4096) = false := by rw [zb]; omega
 have HN1 := zD (show NA = kindA s b (partA s b d) r.at_ t T { r with size := r.size + 1 } from HNA.out.trans (if_neg (by omega)))
 have hw7 : IntKind.i64.wrap ((r.size : Int) + 1) = (r.size : Int) + 1 := IntWalk.i64_in _ (by omega)
 go_upto_region 8 with (fail)
 have HR1 := zD (HA0.out.setSize (r.size + 1) ((r.size : Int) + 1) rfl)
 have HP1 := zD (HAP.out.set 7 (iV ((r.size : Int) + 1)))
 have HG1 := zD (show (wa.setCell ⟨rb, 7, none⟩ (iV ((r.size : Int) + 1))).heap[w.heap.size]? = some (.cells #[.pointer (some ⟨rb, 0, none⟩)] 241 (0, 0)) from (Below.heap_setCell wa _ _ w.heap.size (by show w.heap.size ≠ rb; omega)).trans HAG.out)
 have HS1 := zD (show w.heap.size < (wa.setCell ⟨rb, 7, none⟩ (iV ((r.size : Int) + 1))).heap.size from by simpa [World.setCell] using HAS.out)
 generalize wa.setCell ⟨rb, 7, none⟩ (iV ((r.size : Int) + 1)) = w1 at *
 have HO1 := zD (show Ok b { r with size := r.size + 1 } from ⟨hat, by show r.size + 1 ≤ 4096; omega, hnn⟩)
 have hk1 : ({ r with size := r.size + 1 } : Rs).n < 4096 := by show r.n < 4096; omega
 clear HA0 HAP HAG HAS HNA a0 d4 d5 d6 d7 df e1 e2 hn1 hn2 hw7
 generalize ({ r with size := r.size + 1 } : Rs) = r1 at *
 generalize hfr : r.at_ = fr at *
 have HBX := zD (fun W (p : PtN rb w1 W) => show W.heap[w.heap.size]? = some (.cells #[.pointer (some ⟨rb, 0, none⟩)] 241 (0, 0)) from p.box HG1.out (by decide) (by omega))
 have HBC := zD (fun W (p : PtN rb w1 W) => show W.cell? ⟨w.heap.size, 0, none⟩ = some (.pointer (some ⟨rb, 0, none⟩)) from by simp [World.cell?, HBX.out W p])
 have HPUT := zD (fun W (p : PtN rb w1 W) r' (h : RdR rb W ⟨sT s.name, ur, us, ug, b⟩ r') (hn : r'.n ≤ 100000) => pput_any W rb _ r' h hn w.heap.size (by omega) (fun cs fz e => by rw [HBX.out W p] at e; cases e) (HBC.out W p))
 have h0 := PtN.refl rb w1
 have b0 := HBC.out w1 h0
 obtain ⟨q0, q1⟩ := HSt.out w1 HP1.out
 have hi0 : 0 < n0 := by have := HL0.out; omega
 go_upto_region 11 with (fail)
 have hwd : IntKind.i64.wrap (12 - ((d + 1 : Nat) : Int) + 1) = 12 - (d : Int) := by rw [show 12 - ((d + 1 : Nat) : Int) + 1 = 12 - (d : Int) by omega]; exact IntWalk.i64_in _ (by omega)
 have hwd2 : IntKind.i64.wrap (12 - ((d : Int) + 1) + 1) = 12 - (d : Int) := by rw [show 12 - ((d : Int) + 1) + 1 = 12 - (d : Int) by omega]; exact IntWalk.i64_in _ (by omega)
 have hka := HN1.out
 unfold kindA at hka
 clear HN1
 by_cases h1 : t.kind = 1
 ·rw [if_pos h1] at hka
  have k1 : ((t.kind : Int) == 1) = true := by rw [beq_iff_eq]; omega
  have HN := zD hka; clear hka; have HQ := zD (show Calls Tryz.prog 163 #[.agg #[.int .u8 1, iV 0, eS, iV 0], .pointer (some ⟨w.heap.size, 0, none⟩)] w1 _ from HPUT.out w1 h0 r1 HR1.out (by omega) 1 0 ⟨#[]⟩ 0); go_wp2_with fail; refine HQ.out.mono ?_; rintro e w2 ⟨rfl, hr, hp⟩; have HRf := zD hr; have HPf := zD (HP1.out.trans hp); clear hr hp; go_wp2_with fail; go_end0; exact ⟨HPf.out, .inr ⟨_, HN.out, rfl, HRf.out, ⟨HO1.out.at_, HO1.out.size, by show r1.n + 1 ≤ _; omega⟩⟩⟩
 by_cases h2 : t.kind = 2
 ·rw [if_neg h1, if_pos h2] at hka
  have k1 : ((t.kind : Int) == 1) = false := by rw [zb]; omega
  have k2 : ((t.kind : Int) == 2) = true := by rw [beq_iff_eq]; omega
  have HN := zD hka; clear hka; go_wp2_with fail; refine (HBI.out w1 r1 HR1.out).mono ?_; rintro e w2 ⟨hp, ⟨f, hf, rfl⟩ | ⟨c2, r2, hu, rfl, hr⟩⟩
  ·exact ⟨rfl, HP1.out.trans hp, .inl ⟨f, by rw [HN.out, hf], rfl⟩⟩
  have hok := bitA_ok hu; have HE := zD (show NA = .inr { r2 with n := r2.n + 1 } from by rw [HN.out, hu]); have HQ := zD (show Calls Tryz.prog 163 #[.agg #[.int .u8 2, iV (c2 : Nat), eS, iV 0], .pointer (some ⟨w.heap.size, 0, none⟩)] w2 _ from HPUT.out w2 hp r2 hr (by omega) 2 (c2 : Nat) ⟨#[]⟩ 0); have HP2 := zD (HP1.out.trans hp); have hO2 := HO1.out; have hwc : IntKind.i64.wrap (c2 : Int) = (c2 : Int) := IntWalk.i64_in _ (by omega); clear hp hr hu HN; go_wp2_with fail; refine HQ.out.mono ?_; rintro e w3 ⟨rfl, hr, hp⟩; have HRf := zD hr; have HPf := zD (HP2.out.trans hp); clear hr hp; go_wp2_with fail; go_end0; exact ⟨HPf.out, .inr ⟨_, HE.out, rfl, HRf.out, ⟨hok.2.2.2.2, by have := hO2.size; show r2.size ≤ _; omega, by show r2.n + 1 ≤ _; omega⟩⟩⟩
 by_cases h3 : t.kind = 3
 ·rw [if_neg h1, if_neg h2, if_pos h3] at hka
  have k1 : ((t.kind : Int) == 1) = false := by rw [zb]; omega
  have k2 : ((t.kind : Int) == 2) = false := by rw [zb]; omega
  have k3 : ((t.kind : Int) == 3) = true := by rw [beq_iff_eq]; omega
  have HN := zD hka; clear hka; go_wp2_with fail; refine (HNU.out w1 r1 HR1.out).mono ?_; rintro e w2 ⟨hp, ⟨f, hf, rfl⟩ | ⟨u, r2, hu, rfl, hr⟩⟩
  ·exact ⟨rfl, HP1.out.trans hp, .inl ⟨f, by rw [HN.out, hf], rfl⟩⟩
  have hok := numberA_ok hu; have HE := zD (show NA = .inr { r2 with n := r2.n + 1 } from by rw [HN.out, hu]); have HQ := zD (fun z => show Calls Tryz.prog 163 #[.agg #[.int .u8 3, iV z, eS, iV 0], .pointer (some ⟨w.heap.size, 0, none⟩)] w2 _ from HPUT.out w2 hp r2 hr (by omega) 3 z ⟨#[]⟩ 0); have HP2 := zD (HP1.out.trans hp); have hO2 := HO1.out; clear hp hr hu HN; go_wp2_with fail; refine (back_any _ _).mono ?_; rintro e w2' ⟨z, rfl, rfl⟩; go_wp2_with fail; refine (HQ.out z).mono ?_; rintro e w3 ⟨rfl, hr, hp⟩; have HRf := zD hr; have HPf := zD (HP2.out.trans hp); clear hr hp; go_wp2_with fail; go_end0; exact ⟨HPf.out, .inr ⟨_, HE.out, rfl, HRf.out, ⟨hok.2.2.2.2, by have := hO2.size; show r2.size ≤ _; omega, by show r2.n + 1 ≤ _; omega⟩⟩⟩
 by_cases h4 : t.kind = 4
 ·rw [if_neg h1, if_neg h2, if_neg h3, if_pos h4] at hka
  have k1 : ((t.kind : Int) == 1) = false := by rw [zb]; omega
  have k2 : ((t.kind : Int) == 2) = false := by rw [zb]; omega
  have k3 : ((t.kind : Int) == 3) = false := by rw [zb]; omega
  have k4 : ((t.kind : Int) == 4) = true := by rw [beq_iff_eq]; omega
  have HN := zD hka; clear hka; go_wp2_with fail; refine (HNU.out w1 r1 HR1.out).mono ?_; rintro e w2 ⟨hp, ⟨f, hf, rfl⟩ | ⟨u, r2, hu, rfl, hr⟩⟩
  ·exact ⟨rfl, HP1.out.trans hp, .inl ⟨f, by rw [HN.out, hf], rfl⟩⟩
  have hok := numberA_ok hu; have HE := zD (show NA = txtA b fr u r2 from by rw [HN.out, hu]); obtain ⟨k, rfl⟩ := Int.eq_ofNat_of_zero_le hok.1; have HP2 := zD (HP1.out.trans hp); have hO2 := HO1.out; have hs2 : r2.size ≤ 4096 := by have := hO2.size; omega
  have ha2 := hok.2.2.2.2; have hn2 : r2.n < 4096 := by omega
  have H12 := zD hp; have HR2 := zD hr; clear hp hr hu HN hok hO2 q0 q1 b0; obtain ⟨a7, c7, _, d4, d5, d6, d7⟩ := HR2.out.cells; dsimp only at d4; have hbs := bT_size b; have y2 := HBC.out w2 H12.out; have w1a : IntKind.i64.wrap (4096 - (r2.size : Int)) = 4096 - (r2.size : Int) := IntWalk.i64_in _ (by omega); have w1b : IntKind.u64.wrap (4096 - (r2.size : Int)) = 4096 - (r2.size : Int) := IntWalk.u64_in _ (by omega); have w1c : IntKind.i64.wrap ((b.length : Int) - (r2.at_ : Int)) = (b.length : Int) - (r2.at_ : Int) := IntWalk.i64_in _ (by omega); have w1d : IntKind.u64.wrap ((b.length : Int) - (r2.at_ : Int)) = (b.length : Int) - (r2.at_ : Int) := IntWalk.u64_in _ (by omega); by_cases hk : (4096 : Int) - (r2.size : Nat) < k
  ·have dk : decide ((4096 : Int) - (r2.size : Int) < (k : Int)) = true := by rw [decide_eq_true_eq]; omega
   have HE1 := zD (show NA = .inl (fr, 3) from HE.out.trans (if_pos hk)); go_wp2_with fail; refine (HFa.out _).mono ?_; rintro e w3 ⟨rfl, rfl⟩; exact ⟨rfl, HP2.out, .inl ⟨_, HE1.out, rfl⟩⟩
  have dk : decide ((4096 : Int) - (r2.size : Int) < (k : Int)) = false := by rw [decide_eq_false_iff_not]; omega
  have HNq := zD (fun n => show RdR rb (w2.drewN n) ⟨sT s.name, ur, us, ug, b⟩ r2 ∧ PtN rb w1 (w2.drewN n) ∧ PtN rb w (w2.drewN n) from
   have hb : Below w2.heap.size w2 (w2.drewN n) := ⟨rfl, rfl, rfl, zn, fun _ _ => rfl⟩
   ⟨HR2.out.after hb, H12.out.trans (PtN.of_below hb), HP2.out.trans (PtN.of_below hb)⟩)
  by_cases hk2 : (b.length : Int) - (r2.at_ : Nat) < k
  ·have dk2 : decide ((b.length : Int) - (r2.at_ : Int) < (k : Int)) = true := by rw [decide_eq_true_eq]; omega
   have HE1 := zD (show NA = .inl (b.length, 160) from HE.out.trans ((if_neg hk).trans (if_pos hk2))); go_wp2_with fail; go_quiet (fail); have HH := zD (HNq.out nq).2.2; have y3 := HBC.out _ (HNq.out nq).2.1; obtain ⟨a8, c8, _, f4, f5, f6, f7⟩ := (HNq.out nq).1.cells; dsimp only at f4; generalize w2.drewN nq = w3 at *; go_wp2_with fail; refine (HFs.out _).mono ?_; rintro e w4 ⟨rfl, rfl⟩; exact ⟨rfl, HH.out, .inl ⟨_, HE1.out, rfl⟩⟩
  have dk2 : decide ((b.length : Int) - (r2.at_ : Int) < (k : Int)) = false := by rw [decide_eq_false_iff_not]; omega
  have HE1 := zD (show NA = .inr ⟨r2.at_ + k, r2.size + k, r2.n + 1⟩ from HE.out.trans ((if_neg hk).trans (if_neg hk2))); have hwk : IntKind.i64.wrap (k : Int) = (k : Int) := IntWalk.i64_in _ (by omega); have hwa : IntKind.i64.wrap ((r2.at_ : Int) + (k : Int)) = (r2.at_ : Int) + (k : Int) := IntWalk.i64_in _ (by omega); have hws : IntKind.i64.wrap ((r2.size : Int) + (k : Int)) = (r2.size : Int) + (k : Int) := IntWalk.i64_in _ (by omega); clear HE; go_wp2_with fail; go_quiet (fail); have HR3 := zD (HNq.out nq).1; have H13 := zD (HNq.out nq).2.1; have HP3 := zD (HNq.out nq).2.2; clear d4 d5 d6 d7 y2 HNq; generalize w2.drewN nq = w3 at *; obtain ⟨a7, c7, _, d4, d5, d6, d7⟩ := HR3.out.cells; dsimp only at d4; have y2 := HBC.out w3 H13.out; go_wp2_with fail; have hsl0 : (0 : Int) ≤ (r2.at_ : Int) := by omega
  have hsl1 : (r2.at_ : Int) ≤ (r2.at_ : Int) + (k : Int) := by omega
  have hsl2 : (r2.at_ : Int) + (k : Int) ≤ (b.length : Int) := by omega
  go_still_tail 18, (by kernel_rfl); change wpList _ _ _ _ _ w3.drew; have HQ := zD (fun tx => show Calls Tryz.prog 163 #[.agg #[.int .u8 4, iV 0, .string tx, iV 0], .pointer (some ⟨w.heap.size, 0, none⟩)] w3.drew _ from HPUT.out w3.drew H13.out.drew r2 (HR3.out.after (Below.refl _ w3).drew) (by omega) 4 0 tx 0); have HPd := zD HP3.out.drew; have H1d := zD H13.out.drew; clear HR3 HP3 H13 d4 d5 d6 d7 y2; generalize w3.drew = wd at *; go_wp2_with fail; refine (HQ.out _).mono ?_; rintro e w4 ⟨rfl, hr, hp⟩; have HR4 := zD hr; have HP4 := zD (HPd.out.trans hp); have H14 := zD (H1d.out.trans hp); have y4 := HBC.out w4 H14.out; clear hr hp HQ HPd H1d; obtain ⟨a7, c7, _, d4, d5, d6, d7⟩ := HR4.out.cells; dsimp only at d4 d5 d6 d7; have df := HR4.out.froz; go_wp2_with fail; go_end0; refine ⟨(HP4.out.set 5 _).set 7 _, .inr ⟨_, HE1.out, rfl, ((HR4.out.setAt (r2.at_ + k) ((r2.at_ : Int) + (k : Int)) (by omega)).setSize (r2.size + k) ((r2.size : Int) + (k : Int)) (by omega)), ⟨by show r2.at_ + k ≤ _; omega, by show r2.size + k ≤ _; omega, by show r2.n + 1 ≤ _; omega⟩⟩⟩
 by_cases h5 : t.kind = 5
 ·rw [if_neg h1, if_neg h2, if_neg h3, if_neg h4, if_pos h5] at hka
  have k1 : ((t.kind : Int) == 1) = false := by rw [zb]; omega
  have k2 : ((t.kind : Int) == 2) = false := by rw [zb]; omega
  have k3 : ((t.kind : Int) == 3) = false := by rw [zb]; omega
  have k4 : ((t.kind : Int) == 4) = false := by rw [zb]; omega
  have k5 : ((t.kind : Int) == 5) = true := by rw [beq_iff_eq]; omega
  have HN := zD hka; clear hka; go_wp2_with fail; refine (HNU.out w1 r1 HR1.out).mono ?_; rintro e w2 ⟨hp, ⟨f, hf, rfl⟩ | ⟨u, r2, hu, rfl, hr⟩⟩
  ·exact ⟨rfl, HP1.out.trans hp, .inl ⟨f, by rw [HN.out, hf], rfl⟩⟩
  have hok := numberA_ok hu; have HE := zD (show NA = lstA (partA s b d T) fr u { r2 with n := r2.n + 1 } from by rw [HN.out, hu]); obtain ⟨k, rfl⟩ := Int.eq_ofNat_of_zero_le hok.1; have HP2 := zD (HP1.out.trans hp); have hO2 := HO1.out; have HO2 := zD (show Ok b { r2 with n := r2.n + 1 } from ⟨hok.2.2.2.2, by have := hO2.size; show r2.size ≤ _; omega, by show r2.n + 1 ≤ _; omega⟩); have H12 := zD hp; have HQ := zD (show Calls Tryz.prog 163 #[.agg #[.int .u8 5, iV 0, eS, iV (k : Nat)], .pointer (some ⟨w.heap.size, 0, none⟩)] w2 _ from HPUT.out w2 hp r2 hr (by omega) 5 0 ⟨#[]⟩ k); clear hp hr hu HN; by_cases hk : 4096 < k
  ·have dk : decide ((4096 : Int) < (k : Int)) = true := by rw [decide_eq_true_eq]; omega
   have HE1 := zD (show NA = .inl (fr, 3) from HE.out.trans (if_pos (by omega))); go_wp2_with fail; refine (HFa.out _).mono ?_; rintro e w3 ⟨rfl, rfl⟩; exact ⟨rfl, HP2.out, .inl ⟨_, HE1.out, rfl⟩⟩
  have dk : decide ((4096 : Int) < (k : Int)) = false := by rw [decide_eq_false_iff_not]; omega
  have HE1 := zD (show repA (partA s b d T) (k - 0) { r2 with n := r2.n + 1 } = NA from (HE.out.trans (if_neg (by omega))).symm); have hwk : IntKind.i64.wrap (k : Int) = (k : Int) := IntWalk.i64_in _ (by omega); clear HE; go_wp2_with fail; refine HQ.out.mono ?_; rintro e w3 ⟨rfl, hr, hp⟩; have HR3 := zD hr; have HP3 := zD (HP2.out.trans hp); have y3 := HBC.out w3 (H12.out.trans hp); have H13 := zD (H12.out.trans hp); clear hr hp HQ; go_wp2_with fail; obtain rfl := HL0.out
  have hcn : ¬ c = 1 := by
   have h1 := HCC.out; have h2 := HTO.out (.inl h5); cases T with
   | nil => cases h2
   | cons a l => simp only [List.length_cons] at h1; omega
  have hcc : (1 : Int) ≤ (T.length : Int) + 1 := by omega
  clear hi0; go_loopw [158] (fun vi wr => ∃ (i : Nat) (r' : Rs), i ≤ k ∧ vi = .int .u64 (i : Nat) ∧ Hid (RdR rb wr ⟨sT s.name, ur, us, ug, b⟩ r') ∧ Hid (PtN rb w3 wr) ∧ Hid (Ok b r') ∧ Hid (repA (partA s b d T) (k - i) r' = NA)) (fun vi _ => k - (match vi with | .int _ z => z.toNat | _ => 0))
  case atStart => exact ⟨0, _, by omega, rfl, HR3, zD (PtN.refl _ _), HO2, HE1⟩
  case round =>
   clear HR3 HO2 HE1 y3; rename World => wo
   obtain ⟨i, r', hi, rfl, HR, HP, HO, HN⟩ := hrel; by_cases hlt9 : i < k
   ·have di : decide ((i : Int) < (k : Int)) = true := by rw [decide_eq_true_eq]; omega
    have y4 := HBC.out wo (H13.out.trans HP.out); have HNk := zD (show NA = match partA s b d T r' with | .inl f => .inl f | .inr r2 => repA (partA s b d T) (k - (i + 1)) r2 from by rw [← HN.out, show k - i = (k - (i + 1)) + 1 by omega]; rfl); have HCP := zD (HPP.out wo.drew (HP3.out.trans HP.out).drew _ (HR.out.after (Below.refl _ wo).drew) HO.out (HTO.out (.inl h5))); have HPw := zD (HP.out.drew); clear HN; go_wp2_with fail; go_still_tail 5, (by kernel_rfl); change wpList _ _ _ _ _ wo.drew; generalize wo.drew = wd at *; go_wp2_with fail; refine HCP.out.mono ?_; rintro e w4 ⟨hp, ⟨f, hf, rfl⟩ | ⟨r3, hu, rfl, hr, ho⟩⟩
    ·exact ⟨rfl, (HP3.out.trans HPw.out).trans hp, .inl ⟨f, by rw [HNk.out, hf], rfl⟩⟩
    have HEf := zD (show repA (partA s b d T) (k - (i + 1)) r3 = NA from by rw [HNk.out, hu]); have HRf := zD hr; have HPf := zD (HPw.out.trans hp); have HOf := zD ho; have hwi : IntKind.u64.wrap ((i : Int) + 1) = (i : Int) + 1 := IntWalk.u64_in _ (by omega); clear hr hp hu ho; go_wp2_with fail; exact ⟨⟨i + 1, r3, by omega, by go_num, HRf, HPf, HOf, HEf⟩, by simp; omega⟩
   ·have di : decide ((i : Int) < (k : Int)) = false := by rw [decide_eq_false_iff_not]; omega
    have HE2 := zD (show NA = .inr r' from by rw [← HN.out, show k - i = 0 by omega]; rfl); go_wp2_with fail; go_end0; exact ⟨HP3.out.trans HP.out, .inr ⟨r', HE2.out, rfl, HR.out, HO.out⟩⟩
 by_cases h6 : t.kind = 6
 ·rw [if_neg h1, if_neg h2, if_neg h3, if_neg h4, if_neg h5, if_pos h6] at hka
  have k1 : ((t.kind : Int) == 1) = false := by rw [zb]; omega
  have k2 : ((t.kind : Int) == 2) = false := by rw [zb]; omega
  have k3 : ((t.kind : Int) == 3) = false := by rw [zb]; omega
  have k4 : ((t.kind : Int) == 4) = false := by rw [zb]; omega
  have k5 : ((t.kind : Int) == 5) = false := by rw [zb]; omega
  have k6 : ((t.kind : Int) == 6) = true := by rw [beq_iff_eq]; omega
  have HN := zD hka; clear hka; go_wp2_with fail; refine (HBI.out w1 r1 HR1.out).mono ?_; rintro e w2 ⟨hp, ⟨f, hf, rfl⟩ | ⟨c2, r2, hu, rfl, hr⟩⟩
  ·exact ⟨rfl, HP1.out.trans hp, .inl ⟨f, by rw [HN.out, hf], rfl⟩⟩
  have hok := bitA_ok hu; have HE := zD (show NA = if c2 = 1 then partA s b d T { r2 with n := r2.n + 1 } else .inr { r2 with n := r2.n + 1 } from by rw [HN.out, hu]); have HQ := zD (show Calls Tryz.prog 163 #[.agg #[.int .u8 6, iV 0, eS, iV (c2 : Nat)], .pointer (some ⟨w.heap.size, 0, none⟩)] w2 _ from HPUT.out w2 hp r2 hr (by omega) 6 0 ⟨#[]⟩ c2); have HP2 := zD (HP1.out.trans hp); have hO2 := HO1.out; have HO2 := zD (show Ok b { r2 with n := r2.n + 1 } from ⟨hok.2.2.2.2, by have := hO2.size; show r2.size ≤ _; omega, by show r2.n + 1 ≤ _; omega⟩); have H12 := zD hp; clear hp hr hu HN; go_wp2_with fail; refine HQ.out.mono ?_; rintro e w3 ⟨rfl, hr, hp⟩; have HR3 := zD hr; have HP3 := zD (HP2.out.trans hp); have y3 := HBC.out w3 (H12.out.trans hp); clear hr hp; by_cases hc : c2 = 1
  ·have dc : ((c2 : Int) == 1) = true := by rw [beq_iff_eq]; omega
   have HE1 := zD (show NA = partA s b d T { r2 with n := r2.n + 1 } from HE.out.trans (if_pos hc)); have HCP := zD (HPP.out w3.drew HP3.out.drew _ (HR3.out.after (Below.refl _ w3).drew) HO2.out (HTO.out (.inr h6))); clear HE; go_wp2_with fail; obtain rfl := HL0.out
   have hcn : ¬ c = 1 := by
    have h1 := HCC.out; have h2 := HTO.out (.inr h6); cases T with
    | nil => cases h2
    | cons a l => simp only [List.length_cons] at h1; omega
   have hcc : (1 : Int) ≤ (T.length : Int) + 1 := by omega
   clear hi0; go_still_tail 5, (by kernel_rfl); change wpList _ _ _ _ _ w3.drew; have HP3 := zD HP3.out.drew; generalize w3.drew = wd at *; go_wp2_with fail; refine HCP.out.mono ?_; rintro e w4 ⟨hp, ⟨f, hf, rfl⟩ | ⟨r3, hu, rfl, hr, ho⟩⟩
   ·exact ⟨rfl, HP3.out.trans hp, .inl ⟨f, HE1.out.trans hf, rfl⟩⟩
   have HEf := zD (HE1.out.trans hu); have HRf := zD hr; have HPf := zD (HP3.out.trans hp); have HOf := zD ho; clear hr hp hu ho; go_wp2_with fail; go_end0; exact ⟨HPf.out, .inr ⟨r3, HEf.out, rfl, HRf.out, HOf.out⟩⟩
  ·have dc : ((c2 : Int) == 1) = false := by rw [zb]; omega
   have HE1 := zD (HE.out.trans (if_neg hc)); clear HE; go_wp2_with fail; go_end0; exact ⟨HP3.out, .inr ⟨_, HE1.out, rfl, HR3.out, HO2.out⟩⟩
 rw [if_neg h1, if_neg h2, if_neg h3, if_neg h4, if_neg h5, if_neg h6] at hka
 have k1 : ((t.kind : Int) == 1) = false := by rw [zb]; omega
 have k2 : ((t.kind : Int) == 2) = false := by rw [zb]; omega
 have k3 : ((t.kind : Int) == 3) = false := by rw [zb]; omega
 have k4 : ((t.kind : Int) == 4) = false := by rw [zb]; omega
 have k5 : ((t.kind : Int) == 5) = false := by rw [zb]; omega
 have k6 : ((t.kind : Int) == 6) = false := by rw [zb]; omega
 have HN := zD hka
 clear hka
 have HCN := zD (HNm.out w1.drew HP1.out.drew r1 (HR1.out.after (Below.refl _ w1).drew) HO1.out (by omega))
 have HE := zD (show NA = namedA s b (partA s b d) fr t.name r1 from HN.out)
 clear HN
 go_wp2_with fail
 go_still_tail 7, (by kernel_rfl)
 change wpList _ _ _ _ _ w1.drew
 have HP1 := zD HP1.out.drew
 generalize w1.drew = wd at *
 go_wp2_with fail
 refine HCN.out.mono ?_
 rintro e w2 ⟨hp, ⟨f, hf, rfl⟩ | ⟨r2, hu, rfl, hr, ho⟩⟩
 ·exact ⟨rfl, HP1.out.trans hp, .inl ⟨f, by rw [HE.out, hf], rfl⟩⟩
 have HEf := zD (HE.out.trans hu)
 have HRf := zD hr
 have HPf := zD (HP1.out.trans hp)
 have HOf := zD ho
 clear hr hp hu ho
 go_wp2_with fail
 go_end0
 exact ⟨HPf.out, .inr ⟨r2, HEf.out, rfl, HRf.out, HOf.out⟩⟩
theorem part_zero (w0 : World) (s : Sch) (rb : Nat) (h : Hd) : PartAt w0 s rb h 0 := by
 intro w r L v hb0 H hO hL hT hl40
 have hlt := H.lt
 obtain ⟨a, c, rfl⟩ := hL.now.shape
 have HFa := zD (fun w => fail_any w r.at_ 151 151 rfl)
 have HNA := zD (show partA s h.b 0 L r = .inl (r.at_, 151) from rfl)
 have HA0 := zD (show RdR rb (w.alloc (.cells #[.pointer (some ⟨rb, 0, none⟩)] 241)) h r from H.after (bl1 w _))
 have HAP := zD (show PtN rb w (w.alloc (.cells #[.pointer (some ⟨rb, 0, none⟩)] 241)) from PtN.of_below (bl1 w _))
 have HAG := zD (zw w (.cells #[.pointer (some ⟨rb, 0, none⟩)] 241))
 generalize partA s h.b 0 L r = NA at *
 show Calls Tryz.prog 143 #[.pointer (some ⟨rb, 0, none⟩), .slice a L.length c, iV 12] w _
 clear hL hT H hO
 go_enter Tryz.func143, Tryz.ntmps143
 go_upto_region 1 with (fail)
 generalize w.alloc (.cells #[.pointer (some ⟨rb, 0, none⟩)] 241) = wa at *
 have a0 : wa.cell? ⟨w.heap.size, 0, none⟩ = some (.pointer (some ⟨rb, 0, none⟩)) := by simp [World.cell?, HAG.out]
 obtain ⟨a6, c6, _, d4, d5, d6, d7⟩ := HA0.out.cells
 have df := HA0.out.froz
 go_wp2_with fail
 refine (HFa.out _).mono ?_
 rintro e w3 ⟨rfl, rfl⟩
 exact ⟨rfl, HAP.out, .inl ⟨_, HNA.out, rfl⟩⟩
theorem part_all (w0 : World) (s : Sch) (ur us ug : Value) (hS : SchR w0 s ur us ug) (hM : Small s) (hFO : FOk s) (rb : Nat) (hrb : w0.heap.size ≤ rb) (b : Tx) (hl : b.length ≤ 1000000) : ∀ d, d ≤ 12 → PartAt w0 s rb ⟨sT s.name, ur, us, ug, b⟩ d
 | 0, _ => part_zero _ _ _ _
 | d + 1, h => part_next w0 s ur us ug hS hM hFO rb hrb b hl d (by omega) (part_all w0 s ur us ug hS hM hFO rb hrb b hl d (by omega))
end Go.Proofs.YtgoejmheihgpfaaGreatDoor
