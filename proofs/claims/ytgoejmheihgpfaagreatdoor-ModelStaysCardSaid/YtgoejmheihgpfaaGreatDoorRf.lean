/- Lemmas for ModelStays' proof. -/
import Derived.Test.YtgoejmheihgpfaaGreatDoorRb
import Derived.Lib.ConvBytes
namespace Go.Proofs.YtgoejmheihgpfaaGreatDoor
set_option maxRecDepth 100000
set_option maxHeartbeats 16000000
open Go.RowKit
theorem ptextS_any (w : World) (hK : KwIn w) (s : Sch) (ur us ug : Value) (hS : SchR w s ur us ug) (hM : Small s) :
  Calls Tryz.prog 36 #[.agg #[sT s.name, ur, us, ug]] w fun x w' => x = .returned (.tuple #[sT (textA' s).1, iV ((textA' s).2 : Nat)]) ∧ Below w.heap.size w w' := by
 have HM := zD hM
 obtain ⟨⟨ra, rv, rfl⟩, ⟨sa, sv, rfl⟩, ⟨ga, gv, rfl⟩⟩ := hS.shape
 have HCK := zD (check_any (w.alloc (.cells (sV s ra sa ga rv sv gv) 26)) (hK.below (bl1 w _)) s _ _ _ (hS.below (bl1 w _)) hM)
 have HS := zD hS
 have HB0 := zD (bl1 w (.cells (sV s ra sa ga rv sv gv) 26))
 have HX := zD (fun (wr : World) (h : Below (w.alloc (.cells (sV s ra sa ga rv sv gv) 26)).heap.size (w.alloc (.cells (sV s ra sa ga rv sv gv) 26)) wr) => show wr.heap[w.heap.size]? = some (.cells (sV s ra sa ga rv sv gv) 26 (0, 0)) from (h.block _ (by simp)).trans (zw _ _))
 have hz0 : (w.alloc (.cells (sV s ra sa ga rv sv gv) 26)).heap.size = w.heap.size + 1 := by simp
 have hn1 := hM.nr
 have hn2 := hM.ns
 have hn3 := hM.ng
 have HT := zD (show textA' s = if (checkA s).2 = 0 then (if 65536 < (textJ s).length then ([], 3) else (textJ s, 0)) else ([], (checkA s).2) from rfl)
 have HN := zD (fun h => nodes_of (s := s) h)
 generalize textA' s = TA at *
 generalize checkA s = C at *
 obtain ⟨cw, cn⟩ := C
 clear hK hS hM
 go_enter Tryz.func36, Tryz.ntmps36
 go_wp2_with fail
 refine HCK.out.mono ?_
 rintro e w2 ⟨rfl, hb2⟩
 have HX2 := zD (HX.out w2 hb2)
 have HB2 := zD (HB0.out.trans (hb2.mono (by omega)))
 have hsz2 := hb2.size
 rw [hz0] at hsz2
 clear hb2 HCK HB0 HX hz0
 by_cases hc : cn = 0
 case neg =>
  have d0 : ((cn : Int) != 0) = true := by simp; omega
  have HTn := zD (show TA = ([], cn) from by rw [HT.out, if_neg hc]); clear HT hc; go_wp2_with fail; exact zR (v := .tuple #[eS, iV (cn : Nat)]) ⟨by rw [HTn.out]; rfl, HB2.out⟩
 subst hc
 have HTy := zD (show TA = if 65536 < (textJ s).length then ([], 3) else (textJ s, 0) from by rw [HT.out, if_pos rfl])
 have HND := zD (HN.out rfl)
 clear HT HN
 have d0 : (((0 : Nat) : Int) != 0) = false := by decide
 have HW3 := zD (show Wr w2.heap.size (w2.alloc (.cells #[.slice none 0 0] 129)) [] from ⟨_, zw _ _, World.ownsRow_nil _ _ _ _⟩)
 have HB3 := zD (HB2.out.alloc HB2.out.size (.cells #[.slice none 0 0] 129))
 have HX3 := zD (show (w2.alloc (.cells #[.slice none 0 0] 129)).heap[w.heap.size]? = some (.cells (sV s ra sa ga rv sv gv) 26 (0, 0)) from (Below.heap_alloc _ _ _ (by omega)).trans HX2.out)
 have y0 : (w2.alloc (.cells #[.slice none 0 0] 129)).cell? ⟨w.heap.size, 0, none⟩ = some (sT s.name) := by simp only [World.cell?, HX3.out]; rfl
 have HPU := zD (put_new (w2.alloc (.cells #[.slice none 0 0] 129)) w2.heap.size [] [[109, 111, 100, 117, 108, 101], s.name, [59]] HW3.out (by simp) (by simp) #[.string ⟨#[109, 111, 100, 117, 108, 101]⟩, sT s.name, .string ⟨#[59]⟩] rfl 3 rfl (w2.heap.size + 1) (by simp))
 rw [List.nil_append] at HPU
 have HTK := zD (show textJ s = Lib.join ([[109, 111, 100, 117, 108, 101], s.name, [59]] ++ s.records.flatMap recTk ++ s.services.flatMap svcTk ++ s.sagas.flatMap sagTk) [32] from rfl)
 have HTL := zD (tokT_small HM.out HND.out)
 have HTQ := zD (show tokT s = [[109, 111, 100, 117, 108, 101], s.name, [59]] ++ s.records.flatMap recTk ++ s.services.flatMap svcTk ++ s.sagas.flatMap sagTk from rfl)
 have HH := zD (show [[109, 111, 100, 117, 108, 101], s.name, [59]].length = 3 from rfl)
 generalize textJ s = TJ at *
 generalize tokT s = TT at *
 go_wp2_with fail
 refine HPU.out.mono ?_
 rintro e w4 ⟨rfl, hw4, hp4⟩
 generalize [[109, 111, 100, 117, 108, 101], s.name, [59]] = L0 at *
 have HW4 := zD hw4
 have HP4 := zD hp4
 generalize hw3 : w2.alloc (.cells #[.slice none 0 0] 129) = w3 at *
 have hsz3 : w3.heap.size = w2.heap.size + 1 := by rw [← hw3]; simp
 clear hw3 hw4 hp4 HPU HW3 HX2 y0
 have HBP := zD (fun W (X : Pt w2.heap.size w3 W) => X.below HB3.out (by omega) (by omega))
 have HXP := zD (fun W (X : Pt w2.heap.size w3 W) => show W.heap[w.heap.size]? = some (.cells (sV s ra sa ga rv sv gv) 26 (0, 0)) from X.box HX3.out (by decide) (by omega))
 clear HX3
 generalize hwb : w2.heap.size = wb at *
 have hl0 : L0.length = 3 := HH.out
 have cbx : w4.cell? ⟨w.heap.size, 1, none⟩ = some (.slice ra s.records.length rv) := by simp [World.cell?, HXP.out _ HP4.out]
 go_wp2_with fail
 go_loopw [32] (fun vi wr => ∃ k : Nat, k ≤ s.records.length ∧ vi = iV (k : Nat) ∧ Hid (Wr wb wr (L0 ++ (s.records.take k).flatMap recTk)) ∧ Hid (Pt wb w3 wr)) (fun vi _ => s.records.length - (intOf vi).toNat)
 case atStart => exact ⟨0, by omega, rfl, zD (by simpa using HW4.out), HP4⟩
 case round =>
  clear HW4 HP4 cbx; rename World => wo
  obtain ⟨k, hk, rfl, HWr, HPr⟩ := hrel; by_cases hlt : k < s.records.length
  ·obtain ⟨xr, hx1, hx2⟩ := HS.out.rc
   have HBo := zD (HBP.out wo HPr.out); obtain ⟨b, o, fa, fc, ys, rfl, hb, q0, q1, q2, hs, hr⟩ := rec_in HBo.out hx1 hx2 hlt; have HTk := zD (flat_take recTk L0 s.records k hlt); have hbd := HM.out.rc _ (List.getElem_mem hlt)
   have hln : (L0 ++ (s.records.take k).flatMap recTk).length ≤ 3 + 100 * 1724 := by
    have h1 := flat_len (g := recTk) (n := 1724) (L := s.records.take k) (fun x hx => by
     have hb := HM.out.rc x (List.mem_of_mem_take hx); exact recTk_len hb.2.1 (fun f hf => (hb.2.2 f hf).2.1))
    have h2 : (s.records.take k).length ≤ 100 := by rw [List.length_take]; omega
    have h3 : (s.records.take k).length * 1724 ≤ 100 * 1724 := Nat.mul_le_mul_right _ h2; rw [List.length_append]; omega
   skip; generalize L0 ++ (s.records.take k).flatMap recTk = Lk at *; generalize s.records[k] = r at *; clear hx1 hx2; have hszo := HBo.out.size; have HPN := zD (HPr.out.newer (.cells #[sT r.name, .bool r.choice, .slice fa r.fields.length fc] 74)); have HRC := zD (precord_any w (wo.alloc (.cells #[sT r.name, .bool r.choice, .slice fa r.fields.length fc] 74)) (HBo.out.alloc HBo.out.size _) wb (by omega) Lk (HWr.out.after (bl1 wo _)) (by omega) r fa fc ys hs hr hbd.2.1 (fun f hf => (hbd.2.2 f hf).2.1)); clear hs hr; go_wp2_with fail; refine HRC.out.mono ?_; rintro e w5 ⟨rfl, hw5, hp5⟩; have HW5 := zD hw5; have HP5 := zD (HPN.out.trans hp5); clear hw5 hp5 HRC; go_wp2_with fail; exact ⟨⟨k + 1, by omega, by go_num, zD (by rw [HTk.out]; exact HW5.out), HP5⟩, by simp [intOf]; omega⟩
  have HWz := zD (show Wr wb wo (L0 ++ s.records.flatMap recTk) from by have h := HWr.out; rw [List.take_of_length_le (by omega)] at h; exact h)
  have hlz : (L0 ++ s.records.flatMap recTk).length ≤ 3 + 100 * 1724 := by
   have h1 := flat_len (g := recTk) (n := 1724) (L := s.records) (fun x hx => by
    have hb := HM.out.rc x hx; exact recTk_len hb.2.1 (fun f hf => (hb.2.2 f hf).2.1))
   have h3 : s.records.length * 1724 ≤ 100 * 1724 := Nat.mul_le_mul_right _ (by omega); rw [List.length_append]; omega
  have HPz := HPr; clear HWr HPr; have HL1 := zD (show 0 < (L0 ++ s.records.flatMap recTk).length from by rw [List.length_append]; omega); generalize hg : L0 ++ s.records.flatMap recTk = L1 at *; clear hg; have cbx : wo.cell? ⟨w.heap.size, 2, none⟩ = some (.slice sa s.services.length sv) := by simp [World.cell?, HXP.out _ HPz.out]
  go_wp2_with fail; go_loopw [43] (fun vi wr => ∃ k : Nat, k ≤ s.services.length ∧ vi = iV (k : Nat) ∧ Hid (Wr wb wr (L1 ++ (s.services.take k).flatMap svcTk)) ∧ Hid (Pt wb w3 wr)) (fun vi _ => s.services.length - (intOf vi).toNat)
  case atStart => exact ⟨0, by omega, rfl, zD (by simpa using HWz.out), HPz⟩
  case round =>
   clear HWz HPz cbx; rename World => wo
   obtain ⟨k, hk, rfl, HWr, HPr⟩ := hrel; by_cases hlt : k < s.services.length
   ·obtain ⟨xr, hx1, hx2⟩ := HS.out.sv
    have HBo := zD (HBP.out wo HPr.out); obtain ⟨b, o, fa, fc, rfl, hb, q0, q1, hs⟩ := svc_in HBo.out hx1 hx2 hlt; have HTk := zD (flat_take svcTk L1 s.services k hlt); have hbd := HM.out.sv _ (List.getElem_mem hlt)
    have hln : (L1 ++ (s.services.take k).flatMap svcTk).length ≤ 172403 + 100 * 404 := by
     have h1 := flat_len (g := svcTk) (n := 404) (L := s.services.take k) (fun x hx => by
      have hb := HM.out.sv x (List.mem_of_mem_take hx); exact svcTk_len hb.2.1)
     have h2 : (s.services.take k).length ≤ 100 := by rw [List.length_take]; omega
     have h3 : (s.services.take k).length * 404 ≤ 100 * 404 := Nat.mul_le_mul_right _ h2; rw [List.length_append]; omega
    skip; generalize L1 ++ (s.services.take k).flatMap svcTk = Lk at *; generalize s.services[k] = r at *; clear hx1 hx2; have hszo := HBo.out.size; have HPN := zD (HPr.out.newer (.cells #[sT r.name, .slice fa r.methods.length fc] 112)); have HRC := zD (pservice_any w (wo.alloc (.cells #[sT r.name, .slice fa r.methods.length fc] 112)) (HBo.out.alloc HBo.out.size _) wb (by omega) Lk (HWr.out.after (bl1 wo _)) (by omega) r fa fc hs hbd.2.1); clear hs; go_wp2_with fail; refine HRC.out.mono ?_; rintro e w5 ⟨rfl, hw5, hp5⟩; have HW5 := zD hw5; have HP5 := zD (HPN.out.trans hp5); clear hw5 hp5 HRC; go_wp2_with fail; exact ⟨⟨k + 1, by omega, by go_num, zD (by rw [HTk.out]; exact HW5.out), HP5⟩, by simp [intOf]; omega⟩
   have HWz := zD (show Wr wb wo (L1 ++ s.services.flatMap svcTk) from by have h := HWr.out; rw [List.take_of_length_le (by omega)] at h; exact h)
   have hlz : (L1 ++ s.services.flatMap svcTk).length ≤ 172403 + 100 * 404 := by
    have h1 := flat_len (g := svcTk) (n := 404) (L := s.services) (fun x hx => by
     have hb := HM.out.sv x hx; exact svcTk_len hb.2.1)
    have h3 : s.services.length * 404 ≤ 100 * 404 := Nat.mul_le_mul_right _ (by omega); rw [List.length_append]; omega
   have HPz := HPr; clear HWr HPr; have HL2 := zD (show 0 < (L1 ++ s.services.flatMap svcTk).length from by rw [List.length_append]; have := HL1.out; omega); generalize hg : L1 ++ s.services.flatMap svcTk = L2 at *; clear hg; have cbx : wo.cell? ⟨w.heap.size, 3, none⟩ = some (.slice ga s.sagas.length gv) := by simp [World.cell?, HXP.out _ HPz.out]
   go_wp2_with fail; go_loopw [54] (fun vi wr => ∃ k : Nat, k ≤ s.sagas.length ∧ vi = iV (k : Nat) ∧ Hid (Wr wb wr (L2 ++ (s.sagas.take k).flatMap sagTk)) ∧ Hid (Pt wb w3 wr)) (fun vi _ => s.sagas.length - (intOf vi).toNat)
   case atStart => exact ⟨0, by omega, rfl, zD (by simpa using HWz.out), HPz⟩
   case round =>
    clear HWz HPz cbx; rename World => wo
    obtain ⟨k, hk, rfl, HWr, HPr⟩ := hrel; by_cases hlt : k < s.sagas.length
    ·obtain ⟨xr, hx1, hx2⟩ := HS.out.sg
     have HBo := zD (HBP.out wo HPr.out); obtain ⟨b, o, fa, fc, rfl, hb, q0, q1, q2, hs⟩ := sga_in HBo.out hx1 hx2 hlt; have HTk := zD (flat_take sagTk L2 s.sagas k hlt); have hbd := HM.out.sg _ (List.getElem_mem hlt)
     have hln : (L2 ++ (s.sagas.take k).flatMap sagTk).length ≤ 212803 + 100 * 287 := by
      have h1 := flat_len (g := sagTk) (n := 287) (L := s.sagas.take k) (fun x hx => by
       have hb := HM.out.sg x (List.mem_of_mem_take hx); exact sagTk_len hb.2.2.1)
      have h2 : (s.sagas.take k).length ≤ 100 := by rw [List.length_take]; omega
      have h3 : (s.sagas.take k).length * 287 ≤ 100 * 287 := Nat.mul_le_mul_right _ h2; rw [List.length_append]; omega
     have hnd := HND.out _ (List.getElem_mem hlt); generalize L2 ++ (s.sagas.take k).flatMap sagTk = Lk at *; generalize s.sagas[k] = r at *; clear hx1 hx2; have hszo := HBo.out.size; have HPN := zD (HPr.out.newer (.cells #[sT r.name, sT r.arg, .slice fa r.steps.length fc] 67)); have HRC := zD (psaga_any w (wo.alloc (.cells #[sT r.name, sT r.arg, .slice fa r.steps.length fc] 67)) (HBo.out.alloc HBo.out.size _) wb (by omega) Lk (HWr.out.after (bl1 wo _)) (by omega) r fa fc hs hbd.2.2.1 (fun x hx => by have := hnd x hx; omega)); clear hs; go_wp2_with fail; refine HRC.out.mono ?_; rintro e w5 ⟨rfl, hw5, hp5⟩; have HW5 := zD hw5; have HP5 := zD (HPN.out.trans hp5); clear hw5 hp5 HRC; go_wp2_with fail; exact ⟨⟨k + 1, by omega, by go_num, zD (by rw [HTk.out]; exact HW5.out), HP5⟩, by simp [intOf]; omega⟩
    have HWz := zD (show Wr wb wo (L2 ++ s.sagas.flatMap sagTk) from by have h := HWr.out; rw [List.take_of_length_le (by omega)] at h; exact h)
    have hlz : (L2 ++ s.sagas.flatMap sagTk).length ≤ 212803 + 100 * 287 := by
     have h1 := flat_len (g := sagTk) (n := 287) (L := s.sagas) (fun x hx => by
      have hb := HM.out.sg x hx; exact sagTk_len hb.2.2.1)
     have h3 : s.sagas.length * 287 ≤ 100 * 287 := Nat.mul_le_mul_right _ (by omega); rw [List.length_append]; omega
    have HPz := HPr; clear HWr HPr; have HL3 := zD (show 0 < (L2 ++ s.sagas.flatMap sagTk).length from by rw [List.length_append]; have := HL2.out; omega); generalize hg : L2 ++ s.sagas.flatMap sagTk = L3 at *; clear hg; have HTX := zD (ptext_any wo wb L3 HWz.out (by have := HL3.out; omega) (by omega) (by rw [← HTQ.out]; exact HTL.out)); have HBz := zD (HBP.out wo HPz.out); rw [← HTK.out] at HTX; have hbT := bT_size TJ; clear HTL HTQ HTK; go_wp2_with fail; refine HTX.out.mono ?_; rintro e w6 ⟨rfl, hb6⟩; have HB6 := zT HBz hb6; clear hb6 HTX; by_cases hlen : 65536 < TJ.length
    ·have dl : decide ((65536 : Int) < (TJ.length : Int)) = true := by rw [decide_eq_true_eq]; omega
     have HTe := zD (show TA = ([], 3) from by rw [HTy.out, if_pos hlen]); clear hlen HTy; go_wp2_with fail; exact zR (v := .tuple #[eS, iV 3]) ⟨by rw [HTe.out]; rfl, HB6.out⟩
    ·have dl : decide ((65536 : Int) < (TJ.length : Int)) = false := by rw [decide_eq_false_iff_not]; omega
     have HTe := zD (show TA = (TJ, 0) from by rw [HTy.out, if_neg hlen]); clear hlen HTy; go_wp2_with fail; exact zR (v := .tuple #[sT TJ, iV 0]) ⟨by rw [HTe.out]; rfl, HB6.out⟩
theorem long_any (w : World) (s : ByteArray) (hs : s.size ≤ 1000000) : Calls Tryz.prog 160 #[.string s] w fun e w' => ∃ n : Int, e = .returned (.int .u64 n) ∧ w = w' := by
 go_enter Tryz.func160, Tryz.ntmps160
 go_wp2_with fail
 go_loopw [3, 7] (fun vh vi wr => ∃ (k : Nat) (n : Int), k ≤ s.size ∧ vi = iV (k : Nat) ∧ vh = .int .u64 n ∧ wr = w) (fun _ vi _ => s.size - (intOf vi).toNat)
 case atStart => exact ⟨0, _, by omega, rfl, rfl, rfl⟩
 case round =>
  obtain ⟨k, n, hk, rfl, rfl, rfl⟩ := hrel; by_cases hlt : k < s.size
  ·have h1 : (0 : Int) ≤ (k : Int) := by omega
   have h2 : (k : Int) < (s.size : Int) := by omega
   go_wp2_with fail; exact ⟨⟨k + 1, _, by omega, by go_num, rfl, trivial⟩, by simp [intOf]; omega⟩
  go_wp2_with fail; exact zR (v := .int .u64 n) ⟨n, rfl, rfl⟩
theorem print_any (w : World) (hK : KwIn w) (s : Sch) (ur us ug : Value) (hS : SchR w s ur us ug) (hM : Small s) :
  Calls Tryz.prog 140 #[.agg #[sT s.name, ur, us, ug]] w fun x w' => ∃ n : Int, x = .returned (.tuple #[.int .u64 n, iV ((textA' s).2 : Nat)]) ∧ Below w.heap.size w w' := by
 obtain ⟨⟨ra, rv, rfl⟩, ⟨sa, sv, rfl⟩, ⟨ga, gv, rfl⟩⟩ := hS.shape
 have HT := zD (ptextS_any (w.alloc (.cells (sV s ra sa ga rv sv gv) 26)) (hK.below (bl1 w _)) s _ _ _ (hS.below (bl1 w _)) hM)
 have HB0 := zD (bl1 w (.cells (sV s ra sa ga rv sv gv) 26))
 have HL := zD (show (textA' s).2 = 0 → (textA' s).1.length ≤ 65536 from fun h => by
  unfold textA' at h ⊢; split at h
  ·rename_i h1
   rw [if_pos h1]; split at h
   ·cases h
   ·rename_i h2
    rw [if_neg h2]; exact Nat.le_of_not_lt h2
  ·rename_i h1
   exact absurd h h1)
 have hz0 : (w.alloc (.cells (sV s ra sa ga rv sv gv) 26)).heap.size = w.heap.size + 1 := by simp
 clear hK hS hM
 generalize textA' s = C at *
 obtain ⟨cw, cn⟩ := C
 go_enter Tryz.func140, Tryz.ntmps140
 go_wp2_with fail
 refine HT.out.mono ?_
 rintro e w2 ⟨rfl, hb2⟩
 have HB2 := zD (HB0.out.trans (hb2.mono (by omega)))
 clear hb2 HT HB0 hz0
 by_cases hc : cn = 0
 ·subst hc
  have d0 : (((0 : Nat) : Int) != 0) = false := by decide
  have HLG := zD (long_any w2 (bT cw) (by rw [bT_size]; have h9 : cw.length ≤ 65536 := HL.out rfl; omega)); go_wp2_with fail; refine HLG.out.mono ?_; rintro e w3 ⟨n, rfl, rfl⟩; go_wp2_with fail; exact zR (v := .tuple #[.int .u64 n, iV 0]) ⟨n, rfl, HB2.out⟩
 ·have d0 : ((cn : Int) != 0) = true := by simp; omega
  clear hc; go_wp2_with fail; exact zR (v := .tuple #[.int .u64 0, iV (cn : Nat)]) ⟨0, rfl, HB2.out⟩
def idB (c : UInt8) : Bool := (decide (97 ≤ c.toNat) && decide (c.toNat ≤ 122)) || (decide (48 ≤ c.toNat) && decide (c.toNat ≤ 57)) || decide (c.toNat = 95)
def idA (x : Tx) : Bool := x.all idB && decide (1 ≤ x.length) && decide (x.length ≤ 24)
theorem id_no {x : Tx} {k : Nat} (hk : k < x.length) (h : idB x[k] = false) : idA x = false := by
 have : x.all idB = false := List.all_eq_false.2 ⟨x[k], List.getElem_mem hk, by rw [h]; simp⟩
 unfold idA
 rw [this]
 rfl
theorem id_yes {x : Tx} (h : ∀ j (hj : j < x.length), idB x[j] = true) : idA x = (decide (1 ≤ x.length) && decide (x.length ≤ 24)) := by
 have : x.all idB = true := List.all_eq_true.2 fun y hy => by
  obtain ⟨j, hj, rfl⟩ := List.getElem_of_mem hy; exact h j hj
 unfold idA
 rw [this]
 rfl
theorem id_any (w : World) (x : Tx) (hx : x.length ≤ 1000000) : Calls Tryz.prog 77 #[sT x] w fun e w' => e = .returned (.bool (idA x)) ∧ Below w.heap.size w w' := by
 have hsz := bT_size x
 have hcv := Lib.run_convert_string_bytes (P := Tryz.prog) w 9 187 5 (bT x) Tryz.underlying9 Tryz.underlying187 Tryz.underlying5
 have hold := Lib.bytesWorld_at_old w 5 (bT x)
 have hcel := Lib.bytesWorld_cell w 5 (bT x)
 have hsz2 := Lib.bytesWorld_size w 5 (bT x)
 have HB := zD (show Below w.heap.size w (Lib.bytesWorld w 5 (bT x)) from ⟨rfl, rfl, rfl, by omega, fun k hk => hold k hk⟩)
 have HC := zD (show ∀ j (hj : j < x.length), (Lib.bytesWorld w 5 (bT x)).cell? ⟨w.heap.size, j, none⟩ = some (.int .u8 (x[j].toNat : Nat)) from fun j hj => by
  have := hcel j (by rw [hsz]; exact hj); rw [this]; simp [bT, hj])
 have hcap : x.length ≤ grownCap w (bT x).size 0 5 := by
  have := grownCap_ge w (bT x).size 0 5; rw [hsz] at this ⊢; exact this
 rw [hsz] at hcv hcap
 generalize Lib.bytesWorld w 5 (bT x) = wb at *
 generalize grownCap w x.length 0 5 = cap at *
 clear hold hcel hsz2
 have HR := zD (show (∀ j (hj : j < x.length), idB x[j] = true) → idA x = (decide (1 ≤ x.length) && decide (x.length ≤ 24)) from id_yes)
 have HN := zD (show ∀ k (hk : k < x.length), idB x[k] = false → idA x = false from fun k hk h => id_no hk h)
 generalize idA x = R at *
 go_enter Tryz.func77, Tryz.ntmps77
 go_wp2_with fail
 go_loopw [8] (fun vi wr => ∃ k : Nat, k ≤ x.length ∧ vi = iV (k : Nat) ∧ wr = wb ∧ Hid (∀ j (hj : j < x.length), j < k → idB x[j] = true)) (fun vi _ => x.length - (intOf vi).toNat)
 case atStart => exact ⟨0, by omega, rfl, rfl, zD (fun j hj h => by omega)⟩
 case round =>
  obtain ⟨k, hk, rfl, rfl, HA⟩ := hrel; by_cases hlt : k < x.length
  ·have q0 := HC.out k hlt
   have HI := zD (show idB x[k] = ((decide (97 ≤ x[k].toNat) && decide (x[k].toNat ≤ 122)) || (decide (48 ≤ x[k].toNat) && decide (x[k].toNat ≤ 57)) || decide (x[k].toNat = 95)) from rfl); have HNk := zD (HN.out k hlt)
   have HAk := zD (show idB x[k] = true → ∀ j (hj : j < x.length), j < k + 1 → idB x[j] = true from fun h j hj hjk => by
    by_cases e : j = k
    ·subst e; exact h
    ·exact HA.out j hj (by omega))
   generalize idB x[k] = ok at *; generalize x[k].toNat = c at *; by_cases a1 : 97 ≤ c
   ·have d1 : decide ((97 : Int) ≤ (c : Int)) = true := by rw [decide_eq_true_eq]; omega
    by_cases a2 : c ≤ 122
    ·have d2 : decide ((c : Int) ≤ 122) = true := by rw [decide_eq_true_eq]; omega
     have HO := zD (show ok = true from by rw [HI.out]; simp; omega); clear HI HNk; go_wp2_with fail; exact ⟨⟨k + 1, by omega, by go_num, trivial, zD (HAk.out HO.out)⟩, by simp [intOf]; omega⟩
    ·have d2 : decide ((c : Int) ≤ 122) = false := by rw [decide_eq_false_iff_not]; omega
     have d3 : decide ((48 : Int) ≤ (c : Int)) = true := by rw [decide_eq_true_eq]; omega
     have d4 : decide ((c : Int) ≤ 57) = false := by rw [decide_eq_false_iff_not]; omega
     have d5 : ((c : Int) == 95) = false := by rw [zb]; omega
     have HO := zD (HNk.out (show ok = false from by rw [HI.out]; simp; omega)); clear HI HNk HAk; go_wp2_with fail; exact zR (v := .bool false) ⟨by rw [HO.out], HB.out⟩
   ·have d1 : decide ((97 : Int) ≤ (c : Int)) = false := by rw [decide_eq_false_iff_not]; omega
    by_cases a3 : 48 ≤ c
    ·have d3 : decide ((48 : Int) ≤ (c : Int)) = true := by rw [decide_eq_true_eq]; omega
     by_cases a4 : c ≤ 57
     ·have d4 : decide ((c : Int) ≤ 57) = true := by rw [decide_eq_true_eq]; omega
      have HO := zD (show ok = true from by rw [HI.out]; simp; omega); clear HI HNk; go_wp2_with fail; exact ⟨⟨k + 1, by omega, by go_num, trivial, zD (HAk.out HO.out)⟩, by simp [intOf]; omega⟩
     ·have d4 : decide ((c : Int) ≤ 57) = false := by rw [decide_eq_false_iff_not]; omega
      by_cases a5 : c = 95
      ·have d5 : ((c : Int) == 95) = true := by rw [beq_iff_eq]; omega
       have HO := zD (show ok = true from by rw [HI.out]; simp; omega); clear HI HNk; go_wp2_with fail; exact ⟨⟨k + 1, by omega, by go_num, trivial, zD (HAk.out HO.out)⟩, by simp [intOf]; omega⟩
      ·have d5 : ((c : Int) == 95) = false := by rw [zb]; omega
       have HO := zD (HNk.out (show ok = false from by rw [HI.out]; simp; omega)); clear HI HNk HAk; go_wp2_with fail; exact zR (v := .bool false) ⟨by rw [HO.out], HB.out⟩
    ·have d3 : decide ((48 : Int) ≤ (c : Int)) = false := by rw [decide_eq_false_iff_not]; omega
     have d5 : ((c : Int) == 95) = false := by rw [zb]; omega
     have HO := zD (HNk.out (show ok = false from by rw [HI.out]; simp; omega)); clear HI HNk HAk; go_wp2_with fail; exact zR (v := .bool false) ⟨by rw [HO.out], HB.out⟩
  have HO := zD (show R = (decide (1 ≤ x.length) && decide (x.length ≤ 24)) from HR.out (fun j hj => HA.out j hj (by omega))); clear HA HR HN; by_cases b1 : 1 ≤ x.length
  ·have d1 : decide ((1 : Int) ≤ (x.length : Int)) = true := by rw [decide_eq_true_eq]; omega
   have d2 : decide ((x.length : Int) ≤ 24) = decide (x.length ≤ 24) := by rw [decide_eq_decide]; omega
   go_wp2_with fail; exact zR (v := .bool (decide (x.length ≤ 24))) ⟨by rw [HO.out, zt b1]; rfl, HB.out⟩
  ·have d1 : decide ((1 : Int) ≤ (x.length : Int)) = false := by rw [decide_eq_false_iff_not]; omega
   go_wp2_with fail; exact zR (v := .bool false) ⟨by rw [HO.out, zf b1]; rfl, HB.out⟩
end Go.Proofs.YtgoejmheihgpfaaGreatDoor
