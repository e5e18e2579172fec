/- Lemmas for ModelStays' proof. -/
import Derived.Test.YtgoejmheihgpfaaGreatDoorRl
namespace Go.Proofs.YtgoejmheihgpfaaGreatDoor
set_option maxRecDepth 100000
set_option maxHeartbeats 16000000
open Go.RowKit
def PartAt (w0 : World) (s : Sch) (rb : Nat) (h : Hd) (d : Nat) : Prop := ∀ (w : World) (r : Rs) (L : List Srt) (v : Value), Below w0.heap.size w0 w → RdR rb w h r → Ok h.b r → SlcP rb w 2 v L.length (scells L) → TyOk L → L.length ≤ 40 →
  Calls Tryz.prog 143 #[.pointer (some ⟨rb, 0, none⟩), v, iV (12 - (d : Nat))] w fun x w' => PtN rb w w' ∧ ((∃ f, partA s h.b d L r = .inl f ∧ x = pan f) ∨ ∃ r', partA s h.b d L r = .inr r' ∧ x = .returned (.tuple #[]) ∧ RdR rb w' h r' ∧ Ok h.b r')
theorem rOr_small {s : Sch} (h : Small s) (nm : Tx) : (rOr (recOf s.records nm)).fields.length ≤ 40 ∧ ∀ f ∈ (rOr (recOf s.records nm)).fields, f.type.length ≤ 40 := by
 unfold rOr recOf
 cases hf : s.records.find? (fun v => decide (v.name = nm)) with
 | none => exact ⟨Nat.zero_le _, fun x hx => by cases hx⟩
 | some r =>
  have := h.rc r (List.mem_of_find?_eq_some hf); exact ⟨this.2.1, fun f hf => (this.2.2 f hf).2.1⟩
theorem named_any (w0 w : World) (s : Sch) (ur us ug : Value) (hS : SchR w0 s ur us ug) (hM : Small s) (hFO : FOk s) (rb : Nat) (hrb : w0.heap.size ≤ rb) (b : Tx) (hl : b.length ≤ 1000000) (d : Nat) (hd : d < 12) (hP : PartAt w0 s rb ⟨sT s.name, ur, us, ug, b⟩ d) (hb0 : Below w0.heap.size w0 w) (r : Rs) (H : RdR rb w ⟨sT s.name, ur, us, ug, b⟩ r) (hO : Ok b r) (hn : r.n < 4096) (fr : Nat) (nm : Tx) :
  Calls Tryz.prog 167 #[.pointer (some ⟨rb, 0, none⟩), iV (fr : Nat), sT nm, iV (12 - (d + 1 : Nat))] w fun x w' => PtN rb w w' ∧ ((∃ f, namedA s b (partA s b d) fr nm r = .inl f ∧ x = pan f) ∨ ∃ r', namedA s b (partA s b d) fr nm r = .inr r' ∧ x = .returned (.tuple #[]) ∧ RdR rb w' ⟨sT s.name, ur, us, ug, b⟩ r' ∧ Ok b r') := by
 obtain ⟨a, c, ⟨c0, c1, c2, c3⟩, d4, d5, d6, d7⟩ := H.cells
 have HF := zD (fun w => fail_any w fr 162 162 rfl)
 have HFI := zD (find_own w0 w hb0 s ur us ug hS hM nm)
 have HFO := zD (rOr_ok hFO nm)
 have HNA := zD (show namedA s b (partA s b d) fr nm r = if (rOr (recOf s.records nm)).choice then
  match numberA b r with
  | .inl f => .inl f
  | .inr (u, r1) => choA (partA s b d) fr (rOr (recOf s.records nm)).fields u { r1 with n := r1.n + 1 }
 else fldsA (partA s b d) (rOr (recOf s.records nm)).fields { r with n := r.n + 1 } from rfl)
 have HSM := zD (rOr_small hM nm)
 generalize namedA s b (partA s b d) fr nm r = NA at *
 generalize rOr (recOf s.records nm) = x at *
 have HH := zD H
 have HHx := zD (fun W r (h : RdR rb W ⟨sT s.name, ur, us, ug, b⟩ r) => number_any W rb _ r h hl)
 have HPP := zD hP
 have hlt := H.lt
 clear hP H hS hM hFO
 dsimp only at c0 c1 c2 c3
 go_enter Tryz.func167, Tryz.ntmps167
 go_wp2_with fail
 refine HFI.out.mono ?_
 rintro e w1 ⟨B, xv, ys, hB, rfl, hown, hrows, hbw⟩
 obtain ⟨xa, xc, rfl⟩ := own_slice hown
 have HFX := zD (FldsP.found (rb := rb) (hb0.trans (hbw.mono hb0.size)) hrb hown hrows (by omega))
 have HR1 := zD (HH.out.after hbw)
 have HP1 := zD (PtN.of_below (rb := rb) hbw)
 clear hown hrows hbw HH HFI c0 c1 c2 c3 d4 d5 d6 d7
 have hx2 := HSM.out.1
 generalize hch : x.choice = ch at *
 generalize hF : x.fields = F at *
 generalize hFn : F.length = Fn at *
 have hwd : IntKind.i64.wrap (12 - ((d : Int) + 1) + 1) = 12 - (d : Int) := by rw [show 12 - ((d : Int) + 1) + 1 = 12 - d by omega]; exact IntWalk.i64_in _ (by omega)
 have hwF : IntKind.u64.wrap (Fn : Int) = (Fn : Int) := IntWalk.u64_in _ (by omega)
 obtain ⟨i9, hi9, hz90, hz91, hz92⟩ := info_parts info_nd
 have HR2 := zD (fun o => show RdR rb (w1.alloc o) ⟨sT s.name, ur, us, ug, b⟩ r from HR1.out.after (bl1 w1 o))
 have HP2 := zD (fun o => show PtN rb w (w1.alloc o) from HP1.out.trans (PtN.of_below (bl1 w1 o)))
 have HFX2 := zD (fun o => show FldsP rb (w1.alloc o) (.slice xa Fn xc) F from HFX.out.keep (PtN.of_below (bl1 w1 o)))
 have HG2 := zD (fun cs => show (w1.alloc (.cells cs 74)).heap[w1.heap.size]? = some (.cells cs 74 (0, 0)) from zw _ _)
 have hz2 : ∀ o, (w1.alloc o).heap.size = w1.heap.size + 1 := fun o => by simp
 have hlt1 := HP1.out.size
 cases ch
 ·have HN1 := zD (show NA = fldsA (partA s b d) F { r with n := r.n + 1 } from HNA.out.trans (if_neg (by simp)))
  clear HNA HR1 HFX; go_upto_region 7 with (fail); have HRn := zD (HR2.out (.cells #[sT x.name, .bool false, .slice xa Fn xc] 74)); have HPn := zD (HP2.out (.cells #[sT x.name, .bool false, .slice xa Fn xc] 74)); have HFXn := zD (HFX2.out (.cells #[sT x.name, .bool false, .slice xa Fn xc] 74)); have HGn := zD (HG2.out #[sT x.name, .bool false, .slice xa Fn xc]); have hzn : w1.heap.size + 1 ≤ (w1.alloc (.cells #[sT x.name, .bool false, .slice xa Fn xc] 74)).heap.size := Nat.le_of_eq (hz2 _).symm; have HOn := zD (show Ok b { r with n := r.n + 1 } from ⟨hO.at_, hO.size, by show r.n + 1 ≤ _; omega⟩); generalize w1.alloc (.cells #[sT x.name, .bool false, .slice xa Fn xc] 74) = w2 at *; clear HR2 HP2 HFX2 HG2 hz2; have b2 : w2.cell? ⟨w1.heap.size, 2, none⟩ = some (.slice xa Fn xc) := by simp [World.cell?, HGn.out]
  have B6 := zD b2
  have HNE2 := zD (show ∀ (u : Nat) (v : Value) xs, w2.ownsRow (rb + 1) 262 4 v r.n xs → some w1.heap.size = v.ownBlock → False from fun _ v xs ho e => by
   obtain ⟨cs, fz, hcs⟩ := own_block_cells ho e.symm; rw [HGn.out] at hcs; cases hcs)
  obtain ⟨v6, xs6, hg6, ho6⟩ := HRn.out.row; obtain ⟨va, vc, rfl⟩ := own_slice ho6; have HG6 := zD hg6; have HO6 := zD ho6; have hlt6 := HRn.out.lt; have H06 := zD (PtN.refl rb w2); clear hg6 ho6; have HS6 := zD (fun (W : World) (f : W.frozen? ⟨rb, 6, none⟩ = false) (e1 : W.heap[w1.heap.size]? = w2.heap[w1.heap.size]?) => show (fun (W : World) => W.frozen? ⟨rb, 6, none⟩ = false ∧ W.cell? ⟨w1.heap.size, 2, none⟩ = some (.slice xa Fn xc)) W from ⟨f, (zk (w := w2) (a := ⟨w1.heap.size, 2, none⟩) e1).trans B6.out⟩); have HNE6 := zD (HNE2.out 0 _ _ HO6.out); have y6 : w2.cell? ⟨rb, 6, none⟩ = some (.slice va r.n vc) := by simp [World.cell?, HG6.out, rdCells]
  have f6 : ∀ o, w2.frozen? ⟨rb, o, none⟩ = false := fun o => by simp [World.frozen?, HG6.out]
  have HX := zD (fun cs => show (w2.alloc (.cells cs 262)).drew.heap[rb]? = some (.cells (rdCells ⟨sT s.name, ur, us, ug, b⟩ r (.slice va r.n vc)) 243 (0, 0)) from (Below.heap_alloc w2 _ rb hlt6).trans HG6.out); have HXO := zD (fun cs => show (w2.alloc (.cells cs 262)).drew.ownsRow (rb + 1) 262 4 (.slice va r.n vc) r.n xs6 from own_below HO6.out (bl1 w2 _).drew); have HXP := zD (fun cs => show PtN rb w2 (w2.alloc (.cells cs 262)).drew from H06.out.trans (PtN.of_below (bl1 w2 _).drew)); have x6 := fun cs => show (w2.alloc (.cells cs 262)).drew.cell? ⟨rb, 6, none⟩ = some (.slice va r.n vc) from by simp only [World.cell?, HX.out cs]; rfl
  have nn1 := World.new_ne w2 _ y6; refine wp_region_noPanic ?_; refine wp_region_held_drew (S := (fun (W : World) => W.frozen? ⟨rb, 6, none⟩ = false ∧ W.cell? ⟨w1.heap.size, 2, none⟩ = some (.slice xa Fn xc))) (by kernel_rfl) (by (first | exact HS6.out _ (f6 6) rfl | exact HS6.out _ (by simp [World.frozen?, HX.out]) (Below.heap_alloc w2 _ _ (by omega)) | exact HS6.out _ hpu.1.1 hk2 | exact HS6.out _ (hpu.2.1.froz 6) ((Below.heap_setCell _ _ _ _ (by show w1.heap.size ≠ rb; omega)).trans hk2) | assumption)) (fun hHeld => ?_); refine zJ 0 56 rfl ?_; refine zJ 1 57 rfl ?_; refine zJ 2 58 rfl ?_; refine zJ 3 59 rfl ?_; refine zJ 5 61 rfl ?_; refine zJ 6 62 rfl ?_; refine zJ 7 63 rfl ?_; refine zJ 8 64 rfl ?_; refine zy [4, 9] ?_; refine zg (some 60) rfl (fun K hK => ?_) ?_
  ·go_simp
   refine hK.out _ _ (by (first | exact HS6.out _ (f6 6) rfl | exact HS6.out _ (by simp [World.frozen?, HX.out]) (Below.heap_alloc w2 _ _ (by omega)) | exact HS6.out _ hpu.1.1 hk2 | exact HS6.out _ (hpu.2.1.froz 6) ((Below.heap_setCell _ _ _ _ (by show w1.heap.size ≠ rb; omega)).trans hk2) | assumption)) (fun hHeld => ?_); clear hK K; try simp only [Act.put, zX, zY, zZ]
   refine zy [9] ?_; refine zg (some 65) rfl (fun K hK => ?_) ?_
   ·go_simp
    refine hK.out _ _ (by (first | exact HS6.out _ (f6 6) rfl | exact HS6.out _ (by simp [World.frozen?, HX.out]) (Below.heap_alloc w2 _ _ (by omega)) | exact HS6.out _ hpu.1.1 hk2 | exact HS6.out _ (hpu.2.1.froz 6) ((Below.heap_setCell _ _ _ _ (by show w1.heap.size ≠ rb; omega)).trans hk2) | assumption)) (fun hHeld => ?_); clear hK K; try simp only [Act.put, zX, zY, zZ]
    refine zy [10] ?_; refine zg (some 66) rfl (fun K hK => ?_) ?_
    ·(first | (refine step_append_lies _ (by rfl) _ _ _ (by rfl) _ 262 i9 (.agg #[.int .u8 0, iV 0, eS, iV 0]) 4 40 Tryz.underlying189 hi9 hz90 hz91 hz92 rfl (by decide) _ r.n xs6 (by rfl) (HXO.out _) ⟨w2.heap.size, 0, none⟩ 1 1 [.int .u8 7, iV 0, eS, iV (Fn : Nat)] (by rfl) (by rfl) (World.news_of_block (cs := #[.int .u8 7, iV 0, eS, iV (Fn : Nat)]) (t := 262) (fr := (0, 0)) (zw w2 _)) (by simp [Value.oneCell']) Nat.one_pos (by unfold maxLen; omega) (by omega) (by simp; omega) _ rfl ?_; intro gg cap3 w10 hown1 hgrow hat hlt9; have hpu := rd_push (HX.out _) (HXO.out _) (HXP.out _) hown1 hgrow (by omega); have hk2 : w10.heap[w1.heap.size]? = w2.heap[w1.heap.size]? := (hgrow.block w1.heap.size (by simp; omega) (fun e => HNE6.out e)).trans (Below.heap_alloc w2 _ _ (by omega))))
     refine hK.out _ _ (by (first | exact HS6.out _ (f6 6) rfl | exact HS6.out _ (by simp [World.frozen?]) (Below.heap_alloc w2 _ _ (by omega)) | exact HS6.out _ hpu.1.1 hk2 | exact HS6.out _ (hpu.2.1.froz 6) ((Below.heap_setCell _ _ _ _ (by show w1.heap.size ≠ rb; omega)).trans hk2) | assumption)) (fun hHeld => ?_); clear hK K; try simp only [Act.put, zX, zY, zZ]
     refine zJ 11 67 rfl ?_; refine zJ 12 68 rfl ?_; refine zy [13] ?_; refine zg none rfl (fun K hK => ?_) ?_
     ·go_simp
      refine hK.out _ _ (by (first | exact HS6.out _ (f6 6) rfl | exact HS6.out _ (by simp [World.frozen?]) (Below.heap_alloc w2 _ _ (by omega)) | exact HS6.out _ hpu.1.1 hk2 | exact HS6.out _ (hpu.2.1.froz 6) ((Below.heap_setCell _ _ _ _ (by show w1.heap.size ≠ rb; omega)).trans hk2) | assumption)) (fun hHeld => ?_); clear hK K; try simp only [Act.put, zX, zY, zZ]
      refine wpAnyH_done (by kernel_rfl) ?_ _; refine NoPanic.normal ?_; have HPU := zD hpu; clear hpu hk2 hown1 hgrow hat hlt9 y6 f6 x6 nn1 HX HXO HXP HG6 HO6 H06; have HR3 := zD HPU.out.2.1; have HP3 := zD HPU.out.2.2.2; clear HPU HS6 HNE6 B6 b2; generalize w10.setCell ⟨rb, 6, none⟩ (.slice (some ⟨gg, 0, none⟩) (r.n + 1) cap3) = w3 at *; have HFX3 := zD (HFXn.out.keep HP3.out); have HG3 := zD (HP3.out.box HGn.out (by decide) (by omega)); have HB3 := zD (HPn.out.below hb0 hrb (by have := hb0.size; omega)); have HP03 := zD (HPn.out.trans HP3.out); clear HFXn HGn HRn HPn HNE2; have b3 : w3.cell? ⟨w1.heap.size, 2, none⟩ = some (.slice xa Fn xc) := by simp [World.cell?, HG3.out]
      have HB03 := zD (HP03.out.below hb0 hrb (by have := hb0.size; omega)); have HN2 := zD (show fldsA (partA s b d) (F.drop 0) { r with n := r.n + 1 } = NA from HN1.out.symm); clear HN1 HG3; go_wp2_with fail; go_loopw [72] (fun vi wr => ∃ (k : Nat) (r' : Rs), k ≤ Fn ∧ vi = iV (k : Nat) ∧ Hid (RdR rb wr ⟨sT s.name, ur, us, ug, b⟩ r') ∧ Hid (PtN rb w3 wr) ∧ Hid (Ok b r') ∧ Hid (fldsA (partA s b d) (F.drop k) r' = NA)) (fun vi _ => Fn - (intOf vi).toNat)
      case atStart => exact ⟨0, _, by omega, rfl, HR3, zD (PtN.refl _ _), HOn, HN2⟩
      case round =>
       clear HR3 HOn HN2 b3; rename World => wo
       obtain ⟨k, r', hk, rfl, HR, HP, HO, HN⟩ := hrel; by_cases hlk : k < Fn
       ·have hkl : k < F.length := by omega
        obtain ⟨b9, o9, fa, fc, rfl, hb9, q0, q1, hsl⟩ := FldsP.at (n := Fn) (HFX3.out.keep HP.out) hkl; have htl := HSM.out.2 _ (List.getElem_mem hkl); have HNk := zD (show NA = match partA s b d F[k].type r' with | .inl f => .inl f | .inr r2 => fldsA (partA s b d) (F.drop (k + 1)) r2 from by rw [← HN.out, List.drop_eq_getElem_cons hkl]; rfl); have HTy := zD (HFO.out _ (List.getElem_mem hkl)); generalize F[k] = f9 at *; have HSL := zD hsl; clear HN hsl; have hi1 : (0 : Int) ≤ (k : Int) := by omega
        have hi2 : (k : Int) < (Fn : Int) := by omega
        have hszo : w.heap.size ≤ wo.heap.size := (HP03.out.trans HP.out).size; have HCA := zD (fun o => HPP.out (wo.alloc o) r' f9.type (.slice fa f9.type.length fc) (((HP.out.trans (PtN.of_below (bl1 wo o)))).below HB03.out hrb (by have := hb0.size; have := HP03.out.size; omega)) (HR.out.after (bl1 wo o)) HO.out (HSL.out.keep (PtN.of_below (bl1 wo o))) HTy.out htl); have HPa := zD (fun o => show PtN rb w3 (wo.alloc o) from HP.out.trans (PtN.of_below (bl1 wo o))); go_wp2_with fail; refine (HCA.out _).mono ?_; rintro e w4 ⟨hp, ⟨f, hf, rfl⟩ | ⟨r2, hu, rfl, hr2, ho2⟩⟩
        ·exact ⟨rfl, (HP03.out.trans (HPa.out _)).trans hp, .inl ⟨f, by rw [HNk.out, hf], rfl⟩⟩
        have HPf := zD ((HPa.out _).trans hp); have HEf := zD (show fldsA (partA s b d) (F.drop (k + 1)) r2 = NA from by rw [HNk.out, hu]); have HRf := zD hr2; have HOf := zD ho2; have hwk : IntKind.i64.wrap ((k : Int) + 1) = (k : Int) + 1 := IntWalk.i64_in _ (by omega); clear hp hu hr2 ho2 HCA HPa HR HP HO HNk; go_wp2_with fail; exact ⟨⟨k + 1, r2, by omega, by go_num, HRf, HPf, HOf, HEf⟩, by simp [intOf]; omega⟩
       ·have HE := zD (show NA = .inr r' from by rw [← HN.out, List.drop_eq_nil_of_le (by omega)]; rfl)
        go_wp2_with fail; go_end0; exact ⟨HP03.out.trans HP.out, .inr ⟨r', HE.out, rfl, HR.out, HO.out⟩⟩
     exact zh
    exact zh
   exact zh
  refine zg (some 65) rfl (fun K hK => ?_) ?_
  ·go_simp
   refine hK.out _ _ (by (first | exact HS6.out _ (f6 6) rfl | exact HS6.out _ (by simp [World.frozen?, HX.out]) (Below.heap_alloc w2 _ _ (by omega)) | exact HS6.out _ hpu.1.1 hk2 | exact HS6.out _ (hpu.2.1.froz 6) ((Below.heap_setCell _ _ _ _ (by show w1.heap.size ≠ rb; omega)).trans hk2) | assumption)) (fun hHeld => ?_); clear hK K; try simp only [Act.put, zX, zY, zZ]
   refine zy [4] ?_; refine zg (some 60) rfl (fun K hK => ?_) ?_
   ·go_simp
    refine hK.out _ _ (by (first | exact HS6.out _ (f6 6) rfl | exact HS6.out _ (by simp [World.frozen?, HX.out]) (Below.heap_alloc w2 _ _ (by omega)) | exact HS6.out _ hpu.1.1 hk2 | exact HS6.out _ (hpu.2.1.froz 6) ((Below.heap_setCell _ _ _ _ (by show w1.heap.size ≠ rb; omega)).trans hk2) | assumption)) (fun hHeld => ?_); clear hK K; try simp only [Act.put, zX, zY, zZ]
    refine zy [10] ?_; refine zg (some 66) rfl (fun K hK => ?_) ?_
    ·(first | (refine step_append_lies _ (by rfl) _ _ _ (by rfl) _ 262 i9 (.agg #[.int .u8 0, iV 0, eS, iV 0]) 4 40 Tryz.underlying189 hi9 hz90 hz91 hz92 rfl (by decide) _ r.n xs6 (by rfl) (HXO.out _) ⟨w2.heap.size, 0, none⟩ 1 1 [.int .u8 7, iV 0, eS, iV (Fn : Nat)] (by rfl) (by rfl) (World.news_of_block (cs := #[.int .u8 7, iV 0, eS, iV (Fn : Nat)]) (t := 262) (fr := (0, 0)) (zw w2 _)) (by simp [Value.oneCell']) Nat.one_pos (by unfold maxLen; omega) (by omega) (by simp; omega) _ rfl ?_; intro gg cap3 w10 hown1 hgrow hat hlt9; have hpu := rd_push (HX.out _) (HXO.out _) (HXP.out _) hown1 hgrow (by omega); have hk2 : w10.heap[w1.heap.size]? = w2.heap[w1.heap.size]? := (hgrow.block w1.heap.size (by simp; omega) (fun e => HNE6.out e)).trans (Below.heap_alloc w2 _ _ (by omega))))
     refine hK.out _ _ (by (first | exact HS6.out _ (f6 6) rfl | exact HS6.out _ (by simp [World.frozen?]) (Below.heap_alloc w2 _ _ (by omega)) | exact HS6.out _ hpu.1.1 hk2 | exact HS6.out _ (hpu.2.1.froz 6) ((Below.heap_setCell _ _ _ _ (by show w1.heap.size ≠ rb; omega)).trans hk2) | assumption)) (fun hHeld => ?_); clear hK K; try simp only [Act.put, zX, zY, zZ]
     refine zJ 11 67 rfl ?_; refine zJ 12 68 rfl ?_; refine zy [13] ?_; refine zg none rfl (fun K hK => ?_) ?_
     ·go_simp
      refine hK.out _ _ (by (first | exact HS6.out _ (f6 6) rfl | exact HS6.out _ (by simp [World.frozen?]) (Below.heap_alloc w2 _ _ (by omega)) | exact HS6.out _ hpu.1.1 hk2 | exact HS6.out _ (hpu.2.1.froz 6) ((Below.heap_setCell _ _ _ _ (by show w1.heap.size ≠ rb; omega)).trans hk2) | assumption)) (fun hHeld => ?_); clear hK K; try simp only [Act.put, zX, zY, zZ]
      refine wpAnyH_done (by kernel_rfl) ?_ _; refine NoPanic.normal ?_; have HPU := zD hpu; clear hpu hk2 hown1 hgrow hat hlt9 y6 f6 x6 nn1 HX HXO HXP HG6 HO6 H06; have HR3 := zD HPU.out.2.1; have HP3 := zD HPU.out.2.2.2; clear HPU HS6 HNE6 B6 b2; generalize w10.setCell ⟨rb, 6, none⟩ (.slice (some ⟨gg, 0, none⟩) (r.n + 1) cap3) = w3 at *; have HFX3 := zD (HFXn.out.keep HP3.out); have HG3 := zD (HP3.out.box HGn.out (by decide) (by omega)); have HB3 := zD (HPn.out.below hb0 hrb (by have := hb0.size; omega)); have HP03 := zD (HPn.out.trans HP3.out); clear HFXn HGn HRn HPn HNE2; have b3 : w3.cell? ⟨w1.heap.size, 2, none⟩ = some (.slice xa Fn xc) := by simp [World.cell?, HG3.out]
      have HB03 := zD (HP03.out.below hb0 hrb (by have := hb0.size; omega)); have HN2 := zD (show fldsA (partA s b d) (F.drop 0) { r with n := r.n + 1 } = NA from HN1.out.symm); clear HN1 HG3; go_wp2_with fail; go_loopw [72] (fun vi wr => ∃ (k : Nat) (r' : Rs), k ≤ Fn ∧ vi = iV (k : Nat) ∧ Hid (RdR rb wr ⟨sT s.name, ur, us, ug, b⟩ r') ∧ Hid (PtN rb w3 wr) ∧ Hid (Ok b r') ∧ Hid (fldsA (partA s b d) (F.drop k) r' = NA)) (fun vi _ => Fn - (intOf vi).toNat)
      case atStart => exact ⟨0, _, by omega, rfl, HR3, zD (PtN.refl _ _), HOn, HN2⟩
      case round =>
       clear HR3 HOn HN2 b3; rename World => wo
       obtain ⟨k, r', hk, rfl, HR, HP, HO, HN⟩ := hrel; by_cases hlk : k < Fn
       ·have hkl : k < F.length := by omega
        obtain ⟨b9, o9, fa, fc, rfl, hb9, q0, q1, hsl⟩ := FldsP.at (n := Fn) (HFX3.out.keep HP.out) hkl; have htl := HSM.out.2 _ (List.getElem_mem hkl); have HNk := zD (show NA = match partA s b d F[k].type r' with | .inl f => .inl f | .inr r2 => fldsA (partA s b d) (F.drop (k + 1)) r2 from by rw [← HN.out, List.drop_eq_getElem_cons hkl]; rfl); have HTy := zD (HFO.out _ (List.getElem_mem hkl)); generalize F[k] = f9 at *; have HSL := zD hsl; clear HN hsl; have hi1 : (0 : Int) ≤ (k : Int) := by omega
        have hi2 : (k : Int) < (Fn : Int) := by omega
        have hszo : w.heap.size ≤ wo.heap.size := (HP03.out.trans HP.out).size; have HCA := zD (fun o => HPP.out (wo.alloc o) r' f9.type (.slice fa f9.type.length fc) (((HP.out.trans (PtN.of_below (bl1 wo o)))).below HB03.out hrb (by have := hb0.size; have := HP03.out.size; omega)) (HR.out.after (bl1 wo o)) HO.out (HSL.out.keep (PtN.of_below (bl1 wo o))) HTy.out htl); have HPa := zD (fun o => show PtN rb w3 (wo.alloc o) from HP.out.trans (PtN.of_below (bl1 wo o))); go_wp2_with fail; refine (HCA.out _).mono ?_; rintro e w4 ⟨hp, ⟨f, hf, rfl⟩ | ⟨r2, hu, rfl, hr2, ho2⟩⟩
        ·exact ⟨rfl, (HP03.out.trans (HPa.out _)).trans hp, .inl ⟨f, by rw [HNk.out, hf], rfl⟩⟩
        have HPf := zD ((HPa.out _).trans hp); have HEf := zD (show fldsA (partA s b d) (F.drop (k + 1)) r2 = NA from by rw [HNk.out, hu]); have HRf := zD hr2; have HOf := zD ho2; have hwk : IntKind.i64.wrap ((k : Int) + 1) = (k : Int) + 1 := IntWalk.i64_in _ (by omega); clear hp hu hr2 ho2 HCA HPa HR HP HO HNk; go_wp2_with fail; exact ⟨⟨k + 1, r2, by omega, by go_num, HRf, HPf, HOf, HEf⟩, by simp [intOf]; omega⟩
       ·have HE := zD (show NA = .inr r' from by rw [← HN.out, List.drop_eq_nil_of_le (by omega)]; rfl)
        go_wp2_with fail; go_end0; exact ⟨HP03.out.trans HP.out, .inr ⟨r', HE.out, rfl, HR.out, HO.out⟩⟩
     exact zh
    exact zh
   exact zh
  exact zh
 ·have HN1 := zD (show NA = match numberA b r with
   | .inl f => .inl f
   | .inr (u, r1) => choA (partA s b d) fr F u { r1 with n := r1.n + 1 } from HNA.out.trans (if_pos (by simp)))
  clear HNA HR1 HFX; go_wp2_with fail; refine (HHx.out _ r (HR2.out _)).mono ?_; rintro e w2 ⟨hp, ⟨f, hf, rfl⟩ | ⟨u, r1, hu, rfl, hr⟩⟩
  ·exact ⟨rfl, (HP2.out _).trans hp, .inl ⟨f, by rw [HN1.out, hf], rfl⟩⟩
  have HN2 := zD (show NA = choA (partA s b d) fr F u { r1 with n := r1.n + 1 } from by rw [HN1.out, hu]); have hok := numberA_ok hu; have HPn := zD ((HP2.out (.cells #[sT x.name, .bool true, .slice xa Fn xc] 74)).trans hp); have HFXn := zD ((HFX2.out (.cells #[sT x.name, .bool true, .slice xa Fn xc] 74)).keep hp); have HGn := zD (hp.box (HG2.out #[sT x.name, .bool true, .slice xa Fn xc]) (by decide) (by omega)); have hzn := hp.size; rw [hz2] at hzn; have HRn := zD hr; have HOn := zD (show Ok b { r1 with n := r1.n + 1 } from ⟨hok.2.2.2.2, by have := hO.size; show r1.size ≤ _; omega, by show r1.n + 1 ≤ _; omega⟩); have hn1 : r1.n < 4096 := by omega
  obtain ⟨k, rfl⟩ := Int.eq_ofNat_of_zero_le hok.1; clear hp hr hu HN1 hok HR2 HP2 HFX2 HG2 hz2; have b2 : w2.cell? ⟨w1.heap.size, 2, none⟩ = some (.slice xa Fn xc) := by simp [World.cell?, HGn.out]
  by_cases hk : Fn ≤ k
  ·have dk : decide ((Fn : Int) ≤ (k : Int)) = true := by rw [decide_eq_true_eq]; omega
   have HE := zD (show NA = .inl (fr, 162) from HN2.out.trans (if_pos (by rw [hFn]; omega))); go_wp2_with fail; refine (HF.out _).mono ?_; rintro e w3 ⟨rfl, rfl⟩; exact ⟨rfl, HPn.out, .inl ⟨_, HE.out, rfl⟩⟩
  ·have dk : decide ((Fn : Int) ≤ (k : Int)) = false := by rw [decide_eq_false_iff_not]; omega
   have hwk : IntKind.i64.wrap (k : Int) = (k : Int) := IntWalk.i64_in _ (by omega); have hkl : k < F.length := by omega
   have HE := zD (show NA = partA s b d F[k].type { r1 with n := r1.n + 1 } from HN2.out.trans ((if_neg (by rw [hFn]; omega)).trans (by rw [Int.toNat_natCast, List.getD_eq_getElem?_getD, List.getElem?_eq_getElem hkl]; rfl))); clear HN2
   have HNE2 := zD (show ∀ (u : Nat) (v : Value) xs, w2.ownsRow (rb + 1) 262 4 v r1.n xs → some w1.heap.size = v.ownBlock → False from fun _ v xs ho e => by
    obtain ⟨cs, fz, hcs⟩ := own_block_cells ho e.symm; rw [HGn.out] at hcs; cases hcs)
   go_upto_region 5 with (fail); obtain ⟨v6, xs6, hg6, ho6⟩ := HRn.out.row; obtain ⟨va, vc, rfl⟩ := own_slice ho6; have HG6 := zD hg6; have HO6 := zD ho6; have hlt6 := HRn.out.lt; have H06 := zD (PtN.refl rb w2); clear hg6 ho6; have y6 : w2.cell? ⟨rb, 6, none⟩ = some (.slice va r1.n vc) := by simp [World.cell?, HG6.out, rdCells]
   have HX := zD (fun cs => show (w2.alloc (.cells cs 262)).heap[rb]? = some (.cells (rdCells ⟨sT s.name, ur, us, ug, b⟩ r1 (.slice va r1.n vc)) 243 (0, 0)) from (Below.heap_alloc w2 _ rb hlt6).trans HG6.out); have HXO := zD (fun cs => show (w2.alloc (.cells cs 262)).ownsRow (rb + 1) 262 4 (.slice va r1.n vc) r1.n xs6 from own_below HO6.out (bl1 w2 _)); have HXP := zD (fun cs => show PtN rb w2 (w2.alloc (.cells cs 262)) from H06.out.trans (PtN.of_below (bl1 w2 _)))
   go_upto_region 6 with (first
    | (at_builtin; refine wpList_append_own _ rfl _ _ 189 rfl (rb + 1) 262 i9 (.agg #[.int .u8 0, iV 0, eS, iV 0]) 4 40 Tryz.underlying189 hi9 hz90 hz91 hz92 rfl (by decide) _ _ _ rfl (HXO.out _) ⟨w2.heap.size, 0, none⟩ 1 1 [.int .u8 8, iV (k : Nat), eS, iV 1] rfl rfl (World.news_of_block (cs := #[.int .u8 8, iV (k : Nat), eS, iV 1]) (t := 262) (fr := (0, 0)) (zw w2 _)) (by simp [Value.oneCell']) (by unfold maxLen; omega) (by omega) (by simp; omega) ?_; intro v10 w10 hown1 hgrow _; obtain ⟨va9, vc9, rfl⟩ := own_slice hown1; have hpu := rd_push (HX.out _) (HXO.out _) (HXP.out _) hown1 hgrow (by omega); have HPU := zD hpu.2; have hpf := hpu.1.1; have hpc := hpu.1.2; clear hpu hown1 hgrow))
   clear y6 HX HXO HXP HG6 HO6 H06 hpf hpc; have HR3 := zD HPU.out.1; have HP3 := zD HPU.out.2.2; clear HPU; generalize w10.setCell ⟨rb, 6, none⟩ (.slice va9 (r1.n + 1) vc9) = w3 at *; have HFX3 := zD (HFXn.out.keep HP3.out); have HG3 := zD (HP3.out.box HGn.out (by decide) (by omega)); have b2 : w3.cell? ⟨w1.heap.size, 2, none⟩ = some (.slice xa Fn xc) := by simp [World.cell?, HG3.out]
   obtain ⟨b9, o9, fa, fc, rfl, hb9, q0, q1, hsl⟩ := FldsP.at (n := Fn) HFX3.out hkl; have htl := HSM.out.2 _ (List.getElem_mem hkl); have HCA := zD (HPP.out w3 { r1 with n := r1.n + 1 } F[k].type (.slice fa F[k].type.length fc) (HP3.out.below ((HPn.out.below hb0 hrb (by have := hb0.size; omega))) hrb (by have := hb0.size; have := HPn.out.size; omega)) HR3.out HOn.out hsl (HFO.out _ (List.getElem_mem hkl)) htl); generalize F[k].type = ty at *; go_wp2_with fail; refine HCA.out.mono ?_; rintro e w4 ⟨hp, ⟨f, hf, rfl⟩ | ⟨r2, hu, rfl, hr2, ho2⟩⟩
   ·exact ⟨rfl, (HPn.out.trans HP3.out).trans hp, .inl ⟨f, HE.out.trans hf, rfl⟩⟩
   have HPf := zD ((HPn.out.trans HP3.out).trans hp); have HEf := zD (HE.out.trans hu); have HRf := zD hr2; have HOf := zD ho2; clear hp hu hr2 ho2; go_wp2_with fail; exact zR (v := .tuple #[]) ⟨HPf.out, .inr ⟨r2, HEf.out, rfl, HRf.out, HOf.out⟩⟩
end Go.Proofs.YtgoejmheihgpfaaGreatDoor
