/- Lemmas for ModelStays' proof. -/
import Derived.Test.YtgoejmheihgpfaaGreatDoorRp
import Derived.Defers
import Derived.Recover
import Derived.Deep.AppendLies
namespace Go.Proofs.YtgoejmheihgpfaaGreatDoor
set_option maxRecDepth 100000
set_option maxHeartbeats 16000000
open Go.RowKit
def typeA (nm : Tx) : Tx := if nameT nm then nm else []
theorem type1_any (w : World) (hK : KwIn w) (b o c : Nat) (nm : Tx) (hn : nm.length ≤ 200) (hS : Slc w 2 (.slice (some ⟨b, o, none⟩) 1 c) 1 (scells [⟨7, nm⟩])) :
  Calls Tryz.prog 161 #[.slice (some ⟨b, o, none⟩) 1 c] w fun x w' => x = .returned (.string (bT (typeA nm))) ∧ Below w.heap.size w w' := by
 have HNM := zD (fun W (h : Below w.heap.size w W) => tname_any W (hK.below h) (bT nm) (by rw [bT_size]; omega))
 have HS := zD (fun W (h : Below w.heap.size w W) => show W.cell? ⟨b, o, none⟩ = some (.int .u8 7) ∧ W.cell? ⟨b, o + 1, none⟩ = some (.string (bT nm)) from by
  obtain ⟨b', o', e, _, h1, h2⟩ := srt_at (L := [⟨7, nm⟩]) (hS.below h) (k := 0) (by simp); injection e with e; injection e with e1 e2; subst e1 e2; exact ⟨by simpa using h1, by simpa using h2⟩)
 have HSL := zD hS
 have HTA := zD (show typeA nm = if nameT nm then nm else [] from rfl)
 generalize typeA nm = TA at *
 clear hS hK
 go_enter Tryz.func161, Tryz.ntmps161
 go_wp2_with fail
 go_loopw [17] (fun vi wr => ∃ k : Nat, k ≤ 1 ∧ vi = .int .i64 (k : Nat) ∧ Hid (Below w.heap.size w wr) ∧ Hid (k = 1 → nameT nm = true)) (fun vi _ => 1 - (intOf vi).toNat)
 case atStart => exact ⟨0, by omega, rfl, zD zl, zD (fun e => by cases e)⟩
 case round =>
  rename World => wo
  obtain ⟨k, hk, rfl, HB, HN⟩ := hrel; by_cases hk0 : k = 0
  ·subst hk0
   have HBa := zD (HB.out.alloc HB.out.size (.cells #[.int .u8 7, .string (bT nm)] 79)); have HNc := zD (HNM.out _ HBa.out); obtain ⟨q0, q1⟩ := HS.out wo HB.out; go_wp2_with fail; refine HNc.out.mono ?_; rintro e w2 ⟨rfl, hb⟩; have HB2 := zT HBa hb; rw [show (bT nm).data.toList = nm from rfl] at *; clear hb HNM HNc; cases hnt : nameT nm with
   | false =>
    go_wp2_with fail; exact zR (v := .string ⟨#[]⟩) ⟨by rw [HTA.out, hnt]; rfl, HB2.out⟩
   | true =>
    go_wp2_with fail; exact ⟨⟨1, by omega, rfl, HB2, zD (fun _ => hnt)⟩, by simp [intOf]⟩
  ·obtain rfl : k = 1 := by omega
   have hnt := HN.out rfl; have HTB := zD (show TA = nm from by rw [HTA.out, hnt]; rfl); have HW3 := zD (show Wr wo.heap.size (wo.alloc (.cells #[.slice none 0 0] 129)) [] from ⟨_, zw _ _, World.ownsRow_nil _ _ _ _⟩); have HB3 := zD (HB.out.alloc HB.out.size (.cells #[.slice none 0 0] 129)); have HPS := zD (psorts_any _ wo.heap.size [] HW3.out _ [⟨7, nm⟩] (fun w' p => HSL.out.below (p.below HB3.out HB.out.size HB3.out.size)) (by simp)); clear HTA HN; go_wp2_with fail; refine HPS.out.mono ?_; rintro e w4 ⟨rfl, hw4, hp4⟩; have HB4 := zD (hp4.below HB3.out HB.out.size HB3.out.size); have HPT := zD (ptext_any w4 _ _ hw4 (by simp) (by simp) (by intro x hx; simp [srtT] at hx; subst hx; omega)); clear hw4 hp4; go_wp2_with fail; refine HPT.out.mono ?_; rintro e w5 ⟨rfl, hb⟩; have HB5 := zT HB4 hb; have HJ := zD (show Lib.join ([] ++ [⟨7, nm⟩].map srtT) [32] = nm from by simp [srtT, Lib.join]); clear hb; go_wp2_with fail; exact zR (v := .string (bT (Lib.join ([] ++ [⟨7, nm⟩].map srtT) [32]))) ⟨by rw [HJ.out, HTB.out], HB5.out⟩
def cRight (s : Sch) (nm : Tx) : Nat := if (checkA s).2 = 0 then (if nameT nm = true ∧ nm ≠ [] ∧ (recOf s.records nm).isSome = true then 0 else 131) else (checkA s).2
theorem cright_any (w : World) (hK : KwIn w) (s : Sch) (ur us ug : Value) (hS : SchR w s ur us ug) (hM : Small s) (b o c : Nat) (nm : Tx) (hn : nm.length ≤ 200) (hT : Slc w 2 (.slice (some ⟨b, o, none⟩) 1 c) 1 (scells [⟨7, nm⟩])) :
  Calls Tryz.prog 141 #[.agg #[.string (bT s.name), ur, us, ug], .slice (some ⟨b, o, none⟩) 1 c] w fun x w' => x = .returned (.int .i64 (cRight s nm : Nat)) ∧ Below w.heap.size w w' := by
 obtain ⟨⟨ra, rv, rfl⟩, ⟨sa, sv, rfl⟩, ⟨ga, gv, rfl⟩⟩ := hS.shape
 have HCK := zD (fun o => check_any (w.alloc o) (hK.below (bl1 w o)) s _ _ _ (hS.below (bl1 w o)) hM)
 have HFI := zD (fun W (h : Below w.heap.size w W) => find_own w W h s _ _ _ hS hM nm)
 have HTY := zD (fun W (h : Below w.heap.size w W) => type1_any W (hK.below h) b o c nm hn (hT.below h))
 have HBO := zD (fun o => show Below w.heap.size w (w.alloc o) from bl1 w o)
 have HS := zD (fun W (h : Below w.heap.size w W) => show W.cell? ⟨b, o, none⟩ = some (.int .u8 7) ∧ W.cell? ⟨b, o + 1, none⟩ = some (.string (bT nm)) from by
  obtain ⟨b', o', e, _, h1, h2⟩ := srt_at (L := [⟨7, nm⟩]) (hT.below h) (k := 0) (by simp); injection e with e; injection e with e1 e2; subst e1 e2; exact ⟨by simpa using h1, by simpa using h2⟩)
 have HCR := zD (show cRight s nm = if (checkA s).2 = 0 then (if nameT nm = true ∧ nm ≠ [] ∧ (recOf s.records nm).isSome = true then 0 else 131) else (checkA s).2 from rfl)
 generalize cRight s nm = CR at *
 generalize checkA s = C at *
 obtain ⟨cw, cn⟩ := C
 clear hK hS hM hT
 go_enter Tryz.func141, Tryz.ntmps141
 go_wp2_with fail
 refine (HCK.out _).mono ?_
 rintro e w2 ⟨rfl, hb2⟩
 have HB2 := zD ((HBO.out (.cells #[.string (bT s.name), .slice ra s.records.length rv, .slice sa s.services.length sv, .slice ga s.sagas.length gv] 26)).trans (hb2.mono (by simp)))
 have HX := zD (fun W (h : Below w2.heap.size w2 W) => show W.heap[w.heap.size]? = some (.cells #[.string (bT s.name), .slice ra s.records.length rv, .slice sa s.services.length sv, .slice ga s.sagas.length gv] 26 (0, 0)) from (h.block _ (by have := hb2.size; simp at this; omega)).trans ((hb2.block _ (by simp)).trans (zw _ _)))
 clear hb2 HCK HBO
 by_cases hc : cn = 0
 case neg =>
  have d0 : ((cn : Int) != 0) = true := by simp; omega
  have HE := zD (HCR.out.trans (if_neg hc)); go_wp2_with fail; exact zR (v := .int .i64 (cn : Nat)) ⟨by rw [HE.out], HB2.out⟩
 subst hc
 have HC2 := zD (HCR.out.trans (if_pos rfl))
 have d0 : (((0 : Nat) : Int) != 0) = false := by decide
 clear HCR
 have HTc := zD (HTY.out w2 HB2.out)
 go_wp2_with fail
 refine HTc.out.mono ?_
 rintro e w3 ⟨rfl, hb3⟩
 have HB3 := zT HB2 hb3
 have HB23 := zD hb3
 have HTA := zD (show typeA nm = if nameT nm then nm else [] from rfl)
 have HTe := zD (show (bT (typeA nm)).toList.isEmpty = decide (typeA nm = []) from by rw [bT_list]; cases typeA nm <;> rfl)
 generalize typeA nm = TA at *
 by_cases ht : TA = []
 ·have e1 := HTe.out
  rw [zt ht] at e1
  have HE := zD (show CR = 131 from by
   rw [HC2.out, if_neg]; rintro ⟨h1, h2, _⟩; rw [HTA.out, if_pos h1] at ht; exact h2 ht)
  clear ht; go_wp2_with fail; exact zR (v := .int .i64 131) ⟨by rw [HE.out]; rfl, HB3.out⟩
 have e1 := HTe.out
 rw [zf ht] at e1
 have HNT := zD (show nameT nm = true ∧ nm ≠ [] from by
  have := HTA.out; cases h : nameT nm with
  | false => rw [h] at this; exact absurd this ht
  | true => rw [h] at this; exact ⟨rfl, fun e => ht (this.trans e)⟩)
 clear ht
 obtain ⟨q0, q1⟩ := HS.out w3 HB3.out
 have hXX := HX.out (w3.alloc (.cells #[.int .u8 7, .string (bT nm)] 79)) (HB23.out.alloc HB23.out.size _)
 have x0 : (w3.alloc (.cells #[.int .u8 7, .string (bT nm)] 79)).cell? ⟨w.heap.size, 0, none⟩ = some (.string (bT s.name)) := by simp [World.cell?, hXX]
 have x1 : (w3.alloc (.cells #[.int .u8 7, .string (bT nm)] 79)).cell? ⟨w.heap.size, 1, none⟩ = some (.slice ra s.records.length rv) := by simp [World.cell?, hXX]
 have x2 : (w3.alloc (.cells #[.int .u8 7, .string (bT nm)] 79)).cell? ⟨w.heap.size, 2, none⟩ = some (.slice sa s.services.length sv) := by simp [World.cell?, hXX]
 have x3 : (w3.alloc (.cells #[.int .u8 7, .string (bT nm)] 79)).cell? ⟨w.heap.size, 3, none⟩ = some (.slice ga s.sagas.length gv) := by simp [World.cell?, hXX]
 have HB4 := zD (fun o => HB3.out.alloc HB3.out.size o)
 clear hXX hb3
 go_wp2_with fail
 refine (HFI.out _ (HB4.out _)).mono ?_
 rintro e w5 ⟨B, u, ys, hB, rfl, hown, _, hb5⟩
 obtain ⟨ua, uc, rfl⟩ := own_slice hown
 have HB5 := zD ((HB4.out _).trans (hb5.mono (HB4.out _).size))
 have HB6 := zD (fun o => HB5.out.alloc HB5.out.size o)
 clear hb5 hown
 cases hf : (recOf s.records nm).isSome with
 | true =>
  have HE := zD (show CR = 0 from by rw [HC2.out, if_pos ⟨HNT.out.1, HNT.out.2, hf⟩]); go_wp2_with fail; exact zR (v := .int .i64 0) ⟨by rw [HE.out]; rfl, HB6.out _⟩
 | false =>
  have HE := zD (show CR = 131 from by rw [HC2.out, if_neg (fun h => by rw [hf] at h; exact absurd h.2.2 (by simp))]); go_wp2_with fail; exact zR (v := .int .i64 131) ⟨by rw [HE.out]; rfl, HB6.out _⟩
structure Bx (k : Nat) (w : World) (v : Value) (a e : Nat) : Prop where
 bv : w.heap[k]? = some (.cells #[v] 189 (0, 0))
 ba : w.heap[k + 1]? = some (.cells #[.int .i64 (a : Nat)] 3 (0, 0))
 be : w.heap[k + 2]? = some (.cells #[.int .i64 (e : Nat)] 47 (0, 0))
theorem Bx.cells {k : Nat} {w : World} {v : Value} {a e : Nat} (h : Bx k w v a e) : w.cell? ⟨k, 0, none⟩ = some v ∧ w.cell? ⟨k + 1, 0, none⟩ = some (.int .i64 (a : Nat)) ∧ w.cell? ⟨k + 2, 0, none⟩ = some (.int .i64 (e : Nat)) := by
 simp [World.cell?, h.bv, h.ba, h.be]
theorem Bx.froz {k : Nat} {w : World} {v : Value} {a e : Nat} (h : Bx k w v a e) : w.frozen? ⟨k, 0, none⟩ = false ∧ w.frozen? ⟨k + 1, 0, none⟩ = false ∧ w.frozen? ⟨k + 2, 0, none⟩ = false := by
 simp [World.frozen?, h.bv, h.ba, h.be]
theorem catch_idle (k : Nat) (w : World) : CallsD Tryz.prog 142 #[.pointer (some ⟨k, 0, none⟩), .pointer (some ⟨k + 1, 0, none⟩), .pointer (some ⟨k + 2, 0, none⟩)] .returning w fun x u' w' => x = .returned (.tuple #[]) ∧ u' = .returning ∧ w' = w := by
 refine callsD_of_wpS Tryz.func142 rfl fun c₀ cs hu => ?_
 simp only [Tryz.ntmps142, List.size_toArray, List.length_cons, List.length_nil, Nat.reduceAdd, Nat.reduceSub, Array.replicate_succ, Array.replicate_zero, List.push_toArray, List.append_toArray, List.nil_append, List.cons_append]
 apply wpS_seq
 apply wpS_region
 generalize hK : Exit.thenS _ _ = K
 simp [wpOpsS, go_sem, recoverD, hu]
 subst hK
 simp only [Exit.thenS]
 refine wpS_of_wp ?_
 go_wp2_with fail
 exact ⟨rfl, _, rfl, _, by simp [results, Tryz.results142, go_sem], rfl, hu, rfl⟩
theorem catch_panic (k : Nat) (w : World) (v : Value) (a0 e0 a e : Nat) (h : Bx k w v a0 e0) : CallsD Tryz.prog 142 #[.pointer (some ⟨k, 0, none⟩), .pointer (some ⟨k + 1, 0, none⟩), .pointer (some ⟨k + 2, 0, none⟩)] (.panicking [{ v := faultV a e, recovered := false }]) w fun x u' w' => x = .returned (.tuple #[]) ∧ u' = .panicking [{ v := faultV a e, recovered := true }] ∧ Bx k w' (.slice none 0 0) a e ∧ Below k w w' := by
 refine callsD_of_wpS Tryz.func142 rfl fun c₀ cs hu => ?_
 simp only [Tryz.ntmps142, List.size_toArray, List.length_cons, List.length_nil, Nat.reduceAdd, Nat.reduceSub, Array.replicate_succ, Array.replicate_zero, List.push_toArray, List.append_toArray, List.nil_append, List.cons_append]
 apply wpS_seq
 apply wpS_region
 generalize hK : Exit.thenS _ _ = K
 simp [wpOpsS, go_sem, recoverD, hu, faultV]
 subst hK
 simp only [Exit.thenS]
 have hta : ∀ w, (Instr.typeAssert (.iface 239 (.agg #[.int .i64 (a : Nat), .int .i64 (e : Nat)])) 20 239 true).run Tryz.prog w = .ok (.tuple #[.agg #[.int .i64 (a : Nat), .int .i64 (e : Nat)], .bool true]) w := fun w => by kernel_rfl
 refine wpS_of_wp ?_
 go_wp2_with fail
 generalize hw1 : w.alloc (.cells #[.int .i64 (a : Nat), .int .i64 (e : Nat)] 239) = w1
 have hlt : k + 2 < w.heap.size := (zq h.be).1
 have HB1 := zD (show Below k w w1 from hw1 ▸ (Below.refl k w).alloc (by omega) _)
 have HX1 := zD (show Bx k w1 v a0 e0 from hw1 ▸ ⟨(Below.heap_alloc w _ _ (by omega)).trans h.bv, (Below.heap_alloc w _ _ (by omega)).trans h.ba, (Below.heap_alloc w _ _ (by omega)).trans h.be⟩)
 have HG1 := zD (show w1.heap[w.heap.size]? = some (.cells #[.int .i64 (a : Nat), .int .i64 (e : Nat)] 239 (0, 0)) from hw1 ▸ zw _ _)
 have HSF := zD (fun (W : World) (e1 : W.heap[w.heap.size]? = w1.heap[w.heap.size]?) => show (fun (W : World) => W.cell? ⟨w.heap.size, 0, none⟩ = some (.int .i64 (a : Nat)) ∧ W.cell? ⟨w.heap.size, 1, none⟩ = some (.int .i64 (e : Nat))) W from by simp [World.cell?, e1.trans HG1.out])
 clear hw1 h
 obtain ⟨c0, c1, c2⟩ := HX1.out.cells
 obtain ⟨f0, f1, f2⟩ := HX1.out.froz
 have hk1 : (k = k + 1) = False := by simp
 go_region_held3 (fun (W : World) => W.cell? ⟨w.heap.size, 0, none⟩ = some (.int .i64 (a : Nat)) ∧ W.cell? ⟨w.heap.size, 1, none⟩ = some (.int .i64 (e : Nat)))
  (first | exact HSF.out _ rfl | exact HSF.out _ (by simp only [World.drew, World.setCell]; repeat rw [Array.getElem?_modify, if_neg (by omega)]) | assumption)
  (fail)
 all_goals
  refine ⟨rfl, _, rfl, _, by simp [results, Tryz.results142, go_sem], rfl, rfl, ⟨?_, ?_, ?_⟩, (((HB1.out.setCell (p := ⟨k, 0, none⟩) zn _).setCell (p := ⟨k + 1, 0, none⟩) (by show k ≤ k + 1; omega) _).setCell (p := ⟨k + 2, 0, none⟩) (by show k ≤ k + 2; omega) _).drew⟩
  ·simp [World.drew, World.setCell, Array.getElem?_modify, HX1.out.bv]
  ·simp [World.drew, World.setCell, Array.getElem?_modify, HX1.out.ba]
  ·simp [World.drew, World.setCell, Array.getElem?_modify, HX1.out.be]
def decA (s : Sch) (nm b : Tx) : Nat := match partA s b 12 [⟨7, nm⟩] ⟨0, 0, 0⟩ with
 | .inl f => f.2
 | .inr r => if r.at_ < b.length then 162 else 0
def decE (s : Sch) (nm b : Tx) : Nat := if cRight s nm = 0 then decA s nm b else cRight s nm
theorem four_boxes (w : World) (o : Obj) (v : Value) (x y : Nat) : Bx (w.heap.size + 1) ((((w.alloc o).alloc (.cells #[v] 189)).alloc (.cells #[.int .i64 (x : Nat)] 3)).alloc (.cells #[.int .i64 (y : Nat)] 47)) v x y := by
 refine ⟨(Below.heap_alloc _ _ _ (by simp)).trans ((Below.heap_alloc _ _ _ (by simp)).trans (heap_alloc_new2 _ _ _)), (Below.heap_alloc _ _ _ (by simp)).trans ?_, ?_⟩
 ·have h := heap_alloc_new2 (w.alloc o) (.cells #[v] 189) (.cells #[.int .i64 (x : Nat)] 3)
  rwa [show (w.alloc o).heap.size = w.heap.size + 1 by simp] at h
 ·have h := zw (((w.alloc o).alloc (.cells #[v] 189)).alloc (.cells #[.int .i64 (x : Nat)] 3)) (.cells #[.int .i64 (y : Nat)] 47)
  rwa [show (((w.alloc o).alloc (.cells #[v] 189)).alloc (.cells #[.int .i64 (x : Nat)] 3)).heap.size = w.heap.size + 1 + 2 by simp] at h
theorem Bx.ptn {rb k : Nat} {w w' : World} {v : Value} {a e : Nat} (h : Bx k w v a e) (p : PtN rb w w') (hk : k + 2 < rb) : Bx k w' v a e := by
 have h1 := (zq h.be).1
 exact ⟨(p.keep _ (by omega) (by omega) (.inl (by omega))).trans h.bv, (p.keep _ (by omega) (by omega) (.inl (by omega))).trans h.ba, (p.keep _ (by omega) (by omega) (.inl (by omega))).trans h.be⟩
theorem Bx.set {k : Nat} {w : World} {v : Value} {a e : Nat} (h : Bx k w v a e) (v' : Value) (a' e' : Nat) (za ze : Int) (ha : (a' : Int) = za) (he : (e' : Int) = ze) : Bx k (((w.setCell ⟨k, 0, none⟩ v').setCell ⟨k + 1, 0, none⟩ (.int .i64 za)).setCell ⟨k + 1 + 1, 0, none⟩ (.int .i64 ze)) v' a' e' := by
 subst ha he
 refine ⟨?_, ?_, ?_⟩
 ·have : ¬ k + 1 + 1 = k := by omega
  simp [World.setCell, Array.getElem?_modify, h.bv, this]
 ·simp [World.setCell, Array.getElem?_modify, h.ba]
 ·have : ¬ k = k + 2 := by omega
  simp [World.setCell, Array.getElem?_modify, h.be]
theorem set3_below {B k : Nat} {w0 w : World} (h : Below B w0 w) (hk : B ≤ k) (u1 u2 u3 : Value) : Below B w0 (((w.setCell ⟨k, 0, none⟩ u1).setCell ⟨k + 1, 0, none⟩ u2).setCell ⟨k + 1 + 1, 0, none⟩ u3) :=
 ((h.setCell (p := ⟨k, 0, none⟩) hk _).setCell (p := ⟨k + 1, 0, none⟩) (by show B ≤ k + 1; omega) _).setCell (p := ⟨k + 1 + 1, 0, none⟩) (by show B ≤ k + 1 + 1; omega) _
theorem cRight_ok {s : Sch} {nm : Tx} (h : cRight s nm = 0) : (checkA s).2 = 0 := by
 unfold cRight at h
 by_cases hc : (checkA s).2 = 0
 ·exact hc
 ·rw [if_neg hc] at h; exact h
theorem decode_any (w : World) (hK : KwIn w) (s : Sch) (ur us ug : Value) (hS : SchR w s ur us ug) (hM : Small s) (bb oo c : Nat) (nm : Tx) (hn : nm.length ≤ 200) (hT : Slc w 2 (.slice (some ⟨bb, oo, none⟩) 1 c) 1 (scells [⟨7, nm⟩])) (b : Tx) (hl : b.length ≤ 1000000) :
  Calls Tryz.prog 105 #[.agg #[.string (bT s.name), ur, us, ug], .slice (some ⟨bb, oo, none⟩) 1 c, .string (bT b)] w fun x w' => (∃ (v : Value) (a : Nat), x = .returned (.tuple #[v, .int .i64 (a : Nat), .int .i64 (decE s nm b : Nat)])) ∧ Below w.heap.size w w' := by
 obtain ⟨⟨ra, rv, rfl⟩, ⟨sa, sv, rfl⟩, ⟨ga, gv, rfl⟩⟩ := hS.shape
 have HCR := zD (fun W (h : Below w.heap.size w W) => cright_any W (hK.below h) s _ _ _ (hS.below h) hM bb oo c nm hn (hT.below h))
 have HE := zD (show decE s nm b = if cRight s nm = 0 then decA s nm b else cRight s nm from rfl)
 have HPA := zD (fun (h : cRight s nm = 0) rb (hrb : w.heap.size ≤ rb) => part_all w s _ _ _ hS hM (fOk_of (cRight_ok h)) rb hrb b hl 12 zn)
 have HTT := zD (fun W (h : Below w.heap.size w W) => hT.below h)
 have HDA := zD (show decA s nm b = match partA s b 12 [⟨7, nm⟩] ⟨0, 0, 0⟩ with
 | .inl f => f.2
 | .inr r => if r.at_ < b.length then 162 else 0 from rfl)
 generalize decE s nm b = E at *
 generalize decA s nm b = D at *
 generalize cRight s nm = CR at *
 clear hT hS hM hK
 have hmf : ∀ (fn : Fn) (first cap : Array Value) (w : World), (Instr.makeFunc fn first cap).run Tryz.prog w = .ok (.func fn first cap) w := fun _ _ _ _ => rfl
 go_enter_defers Tryz.func105, Tryz.ntmps105
 go_upto_region 1 with (fail)
 generalize hwa : ((((w.alloc (.cells #[.string (bT s.name), .slice ra s.records.length rv, .slice sa s.services.length sv, .slice ga s.sagas.length gv] 26)).alloc (.cells #[.slice none 0 0] 189)).alloc (.cells #[.int .i64 0] 3)).alloc (.cells #[.int .i64 0] 47)) = wa
 have HBa := zD (show Below w.heap.size w wa from hwa ▸ ((((Below.refl _ w).alloc zn _).alloc (by simp) _).alloc (by simp; omega) _).alloc (by simp; omega) _)
 have HXa := zD (show wa.heap[w.heap.size]? = some (.cells #[.string (bT s.name), .slice ra s.records.length rv, .slice sa s.services.length sv, .slice ga s.sagas.length gv] 26 (0, 0)) from hwa ▸ (Below.heap_alloc _ _ _ (by simp; omega)).trans ((Below.heap_alloc _ _ _ (by simp; omega)).trans ((Below.heap_alloc _ _ _ (by simp)).trans (zw _ _))))
 have HKa := zD (show Bx (w.heap.size + 1) wa (.slice none 0 0) 0 0 from hwa ▸ four_boxes w _ _ _ _)
 have HLa := zD (show w.heap.size + 1 + 2 < wa.heap.size from (zq HKa.out.be).1)
 clear hwa
 have xs : ∀ W, wa.heap.size ≤ W.heap.size → Below wa.heap.size wa W → W.cell? ⟨w.heap.size, 0, none⟩ = some (.string (bT s.name)) ∧ W.cell? ⟨w.heap.size, 1, none⟩ = some (.slice ra s.records.length rv) ∧ W.cell? ⟨w.heap.size, 2, none⟩ = some (.slice sa s.services.length sv) ∧ W.cell? ⟨w.heap.size, 3, none⟩ = some (.slice ga s.sagas.length gv) := fun W _ h => by
  have := (h.block w.heap.size (by have := HLa.out; omega)).trans HXa.out; simp [World.cell?, this]
 have HXS := zD xs
 have HBX := zD (fun W (h : Below wa.heap.size wa W) => show Bx (w.heap.size + 1) W (.slice none 0 0) 0 0 from ⟨(h.block _ (by have := HLa.out; omega)).trans HKa.out.bv, (h.block _ (by have := HLa.out; omega)).trans HKa.out.ba, (h.block _ (by have := HLa.out; omega)).trans HKa.out.be⟩)
 obtain ⟨s0, s1, s2, s3⟩ := xs wa zn zl
 clear xs
 go_wp2_with fail
 refine (HCR.out wa HBa.out).mono ?_
 rintro e w2 ⟨rfl, hb2⟩
 have HB2 := zD hb2
 have HBw2 := zT HBa hb2
 clear hb2 s0 s1 s2 s3
 obtain ⟨k0, k1, k2⟩ := (HBX.out w2 HB2.out).cells
 obtain ⟨f0, f1, f2⟩ := (HBX.out w2 HB2.out).froz
 by_cases hc : CR = 0
 case neg =>
  have d0 : ((CR : Int) != 0) = true := by simp; omega
  have HEn := zD (HE.out.trans (if_neg hc)); go_wp2_with fail; have HBf := zD ((HBX.out w2 HB2.out).set (.slice none 0 0) 0 CR 0 (CR : Int) rfl rfl); have HWf := zD (set3_below HBw2.out (k := w.heap.size + 1) (by omega) (.slice none 0 0) (.int .i64 0) (.int .i64 (CR : Int))); generalize ((w2.setCell ⟨w.heap.size + 1, 0, none⟩ (.slice none 0 0)).setCell ⟨w.heap.size + 1 + 1, 0, none⟩ (.int .i64 0)).setCell ⟨w.heap.size + 1 + 1 + 1, 0, none⟩ (.int .i64 (CR : Int)) = wf at *; obtain ⟨g0, g1, g2⟩ := HBf.out.cells; have hz : w.heap.size + 1 + 1 + 1 = w.heap.size + 1 + 2 := rfl; exact ⟨_, by simp [results, Tryz.results105, go_sem, g0, g1, g2, hz]; rfl, ⟨_, _, by rw [HEn.out]; rfl⟩, HWf.out⟩
 have HEp := zD (HE.out.trans (if_pos hc))
 have HP := zD (HPA.out hc)
 subst hc
 have d0 : (((0 : Nat) : Int) != 0) = false := by decide
 obtain ⟨s0, s1, s2, s3⟩ := HXS.out w2 HB2.out.size HB2.out
 have hszw := HB2.out.size
 have HL2 := zD (show w.heap.size + 1 + 2 < w2.heap.size by have := HLa.out; omega)
 have HRD := zD (show RdR w2.heap.size (w2.alloc (.cells #[.string (bT s.name), .slice ra s.records.length rv, .slice sa s.services.length sv, .slice ga s.sagas.length gv, .string (bT b), .int .i64 0, .slice none 0 0, .int .i64 0] 243)) ⟨.string (bT s.name), .slice ra s.records.length rv, .slice sa s.services.length sv, .slice ga s.sagas.length gv, b⟩ ⟨0, 0, 0⟩ from ⟨.slice none 0 0, [], zw _ _, World.ownsRow_nil _ _ _ _⟩)
 have HBd := zD (HBw2.out.alloc HBw2.out.size (.cells #[.string (bT s.name), .slice ra s.records.length rv, .slice sa s.services.length sv, .slice ga s.sagas.length gv, .string (bT b), .int .i64 0, .slice none 0 0, .int .i64 0] 243))
 have HBXd := zD (HBX.out _ (HB2.out.alloc HB2.out.size (.cells #[.string (bT s.name), .slice ra s.records.length rv, .slice sa s.services.length sv, .slice ga s.sagas.length gv, .string (bT b), .int .i64 0, .slice none 0 0, .int .i64 0] 243)))
 have HC := zD (show Calls Tryz.prog 143 #[.pointer (some ⟨w2.heap.size, 0, none⟩), .slice (some ⟨bb, oo, none⟩) 1 c, .int .i64 0] (w2.alloc (.cells #[.string (bT s.name), .slice ra s.records.length rv, .slice sa s.services.length sv, .slice ga s.sagas.length gv, .string (bT b), .int .i64 0, .slice none 0 0, .int .i64 0] 243)) _ from HP.out w2.heap.size HBw2.out.size _ ⟨0, 0, 0⟩ [⟨7, nm⟩] (.slice (some ⟨bb, oo, none⟩) 1 c) HBd.out HRD.out ⟨Nat.zero_le _, Nat.zero_le _, Nat.zero_le _⟩ (fun W p => HTT.out W (p.below HBd.out HBw2.out.size HBd.out.size)) (fun h => by rcases h with h | h <;> cases h) (by simp))
 go_wp2_with fail
 refine HC.out.mono ?_
 rintro e w3 ⟨hp, ⟨f, hf, rfl⟩ | ⟨r2, hu, rfl, hr, ho⟩⟩
 ·have HED := zD (show E = f.2 from HEp.out.trans (HDA.out.trans (by rw [hf])))
  refine leaves_cons (f := 142) (args := #[.pointer (some ⟨w.heap.size + 1, 0, none⟩), .pointer (some ⟨w.heap.size + 1 + 1, 0, none⟩), .pointer (some ⟨w.heap.size + 1 + 2, 0, none⟩)]) (by simp) (by simp [go_sem]) ?_; refine (catch_panic (w.heap.size + 1) w3 _ 0 0 f.1 f.2 (HBXd.out.ptn hp (by have := HL2.out; omega))).mono ?_; rintro e u' w'' ⟨rfl, rfl, hbx, hb⟩; obtain ⟨g0, g1, g2⟩ := hbx.cells; have hz : w.heap.size + 1 + 1 + 1 = w.heap.size + 1 + 2 := rfl; have hbf : Below w.heap.size w w'' := (hp.below HBd.out HBw2.out.size HBd.out.size).trans (hb.mono (by omega)); show Leaves _ _ _ _ [] .returning w''
  exact ⟨_, by simp [results, Tryz.results105, go_sem, g0, g1, g2, hz]; rfl, ⟨_, _, by rw [HED.out]⟩, hbf⟩
 have HB3 := zD (hp.below HBd.out HBw2.out.size HBd.out.size)
 have HX3 := zD (HBXd.out.ptn hp (by have := HL2.out; omega))
 have HD3 := zD (show E = if r2.at_ < b.length then 162 else 0 from HEp.out.trans (HDA.out.trans (by rw [hu])))
 obtain ⟨a7, c7, _, d4, d5, d6, d7⟩ := hr.cells
 dsimp only at d4 d5 d6 d7
 obtain ⟨k0, k1, k2⟩ := HX3.out.cells
 obtain ⟨f0, f1, f2⟩ := HX3.out.froz
 have hl2 := HL2.out
 clear hu ho HC hp
 by_cases hlt : r2.at_ < b.length
 ·have dl : decide ((r2.at_ : Int) < (b.length : Int)) = true := by rw [decide_eq_true_eq]; omega
  have hbs := bT_size b; have HEf := zD (show E = 162 from HD3.out.trans (if_pos hlt)); go_wp2_with fail; have HSF := zD (fun (W : World) (e1 : W.heap[w2.heap.size]? = w3.heap[w2.heap.size]?) => show (fun (W : World) => W.cell? ⟨w2.heap.size, 5, none⟩ = some (.int .i64 (r2.at_ : Nat))) W from (zk (w := w3) (a := ⟨w2.heap.size, 5, none⟩) e1).trans d5)
  go_region_held3 (fun (W : World) => W.cell? ⟨w2.heap.size, 5, none⟩ = some (.int .i64 (r2.at_ : Nat)))
   (first | exact HSF.out _ rfl | exact HSF.out _ (by simp only [World.drew, World.setCell]; repeat rw [Array.getElem?_modify, if_neg (by omega)]) | assumption)
   (fail)
  all_goals
   have HBf := zD (HX3.out.set (.slice none 0 0) r2.at_ 162 (r2.at_ : Int) 162 rfl rfl); have HWf := zD (set3_below HB3.out (k := w.heap.size + 1) (by omega) (.slice none 0 0) (.int .i64 (r2.at_ : Int)) (.int .i64 162)); generalize ((w3.setCell ⟨w.heap.size + 1, 0, none⟩ (.slice none 0 0)).setCell ⟨w.heap.size + 1 + 1, 0, none⟩ (.int .i64 (r2.at_ : Int))).setCell ⟨w.heap.size + 1 + 1 + 1, 0, none⟩ (.int .i64 162) = wf at *; go_wp2_with fail; refine leaves_cons (f := 142) (args := #[.pointer (some ⟨w.heap.size + 1, 0, none⟩), .pointer (some ⟨w.heap.size + 1 + 1, 0, none⟩), .pointer (some ⟨w.heap.size + 1 + 2, 0, none⟩)]) (by simp) (by simp [go_sem]) ?_; refine (catch_idle (w.heap.size + 1) _).mono ?_; rintro e u' w'' ⟨rfl, rfl, rfl⟩; obtain ⟨g0, g1, g2⟩ := HBf.out.cells; have hz : w.heap.size + 1 + 1 + 1 = w.heap.size + 1 + 2 := rfl; show Leaves _ _ _ _ [] .returning _
   exact ⟨_, by simp [results, Tryz.results105, go_sem, g0, g1, g2, hz]; rfl, ⟨_, _, by rw [HEf.out]; rfl⟩, by first | exact HWf.out | exact HWf.out.drew⟩
 ·have dl : decide ((r2.at_ : Int) < (b.length : Int)) = false := by rw [decide_eq_false_iff_not]; omega
  have hbs := bT_size b; have HEf := zD (show E = 0 from HD3.out.trans (if_neg hlt)); go_wp2_with fail; have HSF := zD (fun (W : World) (e1 : W.heap[w2.heap.size]? = w3.heap[w2.heap.size]?) => show (fun (W : World) => W.cell? ⟨w2.heap.size, 6, none⟩ = some (.slice a7 r2.n c7)) W from (zk (w := w3) (a := ⟨w2.heap.size, 6, none⟩) e1).trans d6); have HBf := zD (HX3.out.set (.slice a7 r2.n c7) 0 0 0 0 rfl rfl); have HWf := zD (set3_below HB3.out (k := w.heap.size + 1) (by omega) (.slice a7 r2.n c7) (.int .i64 0) (.int .i64 0)); generalize ((w3.setCell ⟨w.heap.size + 1, 0, none⟩ (.slice a7 r2.n c7)).setCell ⟨w.heap.size + 1 + 1, 0, none⟩ (.int .i64 0)).setCell ⟨w.heap.size + 1 + 1 + 1, 0, none⟩ (.int .i64 0) = wf at *; refine leaves_cons (f := 142) (args := #[.pointer (some ⟨w.heap.size + 1, 0, none⟩), .pointer (some ⟨w.heap.size + 1 + 1, 0, none⟩), .pointer (some ⟨w.heap.size + 1 + 2, 0, none⟩)]) (by simp) (by simp [go_sem]) ?_; refine (catch_idle (w.heap.size + 1) _).mono ?_; rintro e u' w'' ⟨rfl, rfl, rfl⟩; obtain ⟨g0, g1, g2⟩ := HBf.out.cells; have hz : w.heap.size + 1 + 1 + 1 = w.heap.size + 1 + 2 := rfl; show Leaves _ _ _ _ [] .returning _
  exact ⟨_, by simp [results, Tryz.results105, go_sem, g0, g1, g2, hz]; rfl, ⟨_, _, by rw [HEf.out]; rfl⟩, by first | exact HWf.out | exact HWf.out.drew⟩
def dg (n : Nat) : UInt8 := UInt8.ofNat (48 + n)
theorem bT_key (id : Tx) (x y : UInt8) : bT id ++ (⟨#[46]⟩ : ByteArray) ++ (⟨#[x]⟩ : ByteArray) ++ (⟨#[y]⟩ : ByteArray) = bT (id ++ [46, x, y]) := by
 apply ByteArray.ext
 simp [bT, ByteArray.data_append]
def keyA (id : Tx) (i : Int) (back : Bool) : Tx := if idA id = true ∧ 0 ≤ i ∧ i < 8 then id ++ [46, dg i.toNat, if back then 99 else 102] else []
theorem conv_digit (n : Nat) (h : n < 8) (w : World) : (convert 21 9 (.int .i32 (48 + (n : Int)))).run Tryz.prog w = .ok (.string ⟨#[dg n]⟩) w := by
 match n, h with
 | 0, _ => exact (show _ = _ from by kernel_rfl)
 | 1, _ => exact (show _ = _ from by kernel_rfl)
 | 2, _ => exact (show _ = _ from by kernel_rfl)
 | 3, _ => exact (show _ = _ from by kernel_rfl)
 | 4, _ => exact (show _ = _ from by kernel_rfl)
 | 5, _ => exact (show _ = _ from by kernel_rfl)
 | 6, _ => exact (show _ = _ from by kernel_rfl)
 | 7, _ => exact (show _ = _ from by kernel_rfl)
theorem key_any (w : World) (id : Tx) (hx : id.length ≤ 1000000) (i : Int) (back : Bool) : Calls Tryz.prog 81 #[.string (bT id), .int .i64 i, .bool back] w fun e w' => e = .returned (.string (bT (keyA id i back))) ∧ Below w.heap.size w w' := by
 have HI := zD (id_any w id hx)
 have HK := zD (show keyA id i back = if idA id = true ∧ 0 ≤ i ∧ i < 8 then id ++ [46, dg i.toNat, if back then 99 else 102] else [] from rfl)
 generalize keyA id i back = KA at *
 go_enter Tryz.func81, Tryz.ntmps81
 go_wp2_with fail
 refine HI.out.mono ?_
 rintro e w2 ⟨rfl, hb⟩
 have HB := zD hb
 clear hb HI
 generalize idA id = ok at *
 cases ok
 ·have HE := zD (show KA = [] from HK.out.trans (if_neg (by simp)))
  go_wp2_with fail; exact zR (v := .string ⟨#[]⟩) ⟨by rw [HE.out]; rfl, HB.out⟩
 by_cases h1 : i < 0
 ·have HE := zD (show KA = [] from HK.out.trans (if_neg (by omega)))
  have d1 : decide (i < 0) = true := zt h1; go_wp2_with fail; exact zR (v := .string ⟨#[]⟩) ⟨by rw [HE.out]; rfl, HB.out⟩
 have d1 : decide (i < 0) = false := zf h1
 by_cases h2 : 8 ≤ i
 ·have HE := zD (show KA = [] from HK.out.trans (if_neg (by omega)))
  have d2 : decide (8 ≤ i) = true := zt h2; go_wp2_with fail; exact zR (v := .string ⟨#[]⟩) ⟨by rw [HE.out]; rfl, HB.out⟩
 have d2 : decide (8 ≤ i) = false := zf h2
 obtain ⟨n, rfl⟩ := Int.eq_ofNat_of_zero_le (show 0 ≤ i by omega)
 have hw1 : IntKind.i64.wrap (48 + (n : Int)) = 48 + (n : Int) := IntWalk.i64_in _ (by omega)
 have hw2 : IntKind.i32.wrap (48 + (n : Int)) = 48 + (n : Int) := IntWalk.i32_in _ (by omega)
 have HE := zD (show KA = id ++ [46, dg n, if back then 99 else 102] from HK.out.trans (if_pos (by simp; omega)))
 have hn : n < 8 := by omega
 clear h1 h2 HK
 have hcv := conv_digit n hn
 have hsz := bT_size id
 cases back
 ·have HF := zD (show KA = id ++ [46, dg n, 102] from HE.out)
  go_wp2_with fail; exact zR (v := .string (bT id ++ ⟨#[46]⟩ ++ ⟨#[dg n]⟩ ++ ⟨#[102]⟩)) ⟨by rw [HF.out, ← bT_key], HB.out⟩
 ·have HF := zD (show KA = id ++ [46, dg n, 99] from HE.out)
  go_wp2_with fail; exact zR (v := .string (bT id ++ ⟨#[46]⟩ ++ ⟨#[dg n]⟩ ++ ⟨#[99]⟩)) ⟨by rw [HF.out, ← bT_key], HB.out⟩
theorem sdsteps_any (w : World) (hK : KwIn w) (s : Sch) (ur us ug : Value) (hS : SchR w s ur us ug) (hM : Small s) (a : Tx) :
  Calls Tryz.prog 76 #[.agg #[.string (bT s.name), ur, us, ug], .string (bT a)] w fun x w' => x = .returned (.tuple #[.int .i64 ((foundA s a).1.steps.length : Nat), .int .i64 ((foundA s a).2 : Nat)]) ∧ Below w.heap.size w w' := by
 have HF := zD (fun o => found_any (w.alloc o) (hK.below (bl1 w o)) s ur us ug (hS.below (bl1 w o)) hM a)
 generalize foundA s a = F at *
 obtain ⟨⟨gn, ga, gs⟩, fe⟩ := F
 dsimp only at HF ⊢
 clear hS hK hM
 go_enter Tryz.func76, Tryz.ntmps76
 go_wp2_with fail
 refine (HF.out _).mono ?_
 rintro e w2 ⟨u, n, rfl, hu, hb⟩
 obtain ⟨ua, uc, rfl⟩ := own_slice hu
 have HB := zD ((bl1 w (.cells #[.string (bT s.name), ur, us, ug] 26)).trans (hb.mono (by simp)))
 have HB2 := zD (fun o => HB.out.alloc HB.out.size o)
 clear hb hu HF
 go_wp2_with fail
 exact zR (v := .tuple #[.int .i64 (gs.length : Nat), .int .i64 (fe : Nat)]) ⟨rfl, HB2.out _⟩
def argA (s : Sch) (a b : Tx) : Nat := decE s (sOr (sagOf s.sagas a)).arg b
theorem sOr_small {s : Sch} (h : Small s) (a : Tx) : (sOr (sagOf s.sagas a)).arg.length ≤ 200 ∧ (sOr (sagOf s.sagas a)).steps.length ≤ 40 := by
 unfold sOr sagOf
 cases hf : s.sagas.find? (fun v => decide (v.name = a)) with
 | none => exact ⟨Nat.zero_le _, Nat.zero_le _⟩
 | some g =>
  have := h.sg g (List.mem_of_find?_eq_some hf); exact ⟨this.2.1, this.2.2.1⟩
theorem sarg_any (w : World) (hK : KwIn w) (s : Sch) (ur us ug : Value) (hS : SchR w s ur us ug) (hM : Small s) (a b : Tx) (hl : b.length ≤ 1000000) :
  Calls Tryz.prog 78 #[.agg #[.string (bT s.name), ur, us, ug], .string (bT a), .string (bT b)] w fun x w' => x = .returned (.int .i64 (argA s a b : Nat)) ∧ Below w.heap.size w w' := by
 have HG := zD (fun o => saga_any (w.alloc o) s ur us ug (hS.below (bl1 w o)) hM a)
 have HD := zD (fun W bb nm (h : Below w.heap.size w W) (hn : nm.length ≤ 200) (hT : Slc W 2 (.slice (some ⟨bb, 0, none⟩) 1 1) 1 (scells [⟨7, nm⟩])) => decode_any W (hK.below h) s ur us ug (hS.below h) hM bb 0 1 nm hn hT b hl)
 have hsm := (sOr_small hM a).1
 have HA := zD (show argA s a b = decE s (sOr (sagOf s.sagas a)).arg b from rfl)
 generalize argA s a b = AA at *
 generalize sOr (sagOf s.sagas a) = G at *
 obtain ⟨gn, ga, gs⟩ := G
 dsimp only at HG HD HA hsm ⊢
 obtain ⟨⟨ra, rv, rfl⟩, ⟨sa, sv, rfl⟩, ⟨gga, gv, rfl⟩⟩ := hS.shape
 clear hS hK hM
 go_enter Tryz.func78, Tryz.ntmps78
 go_wp2_with fail
 refine (HG.out _).mono ?_
 rintro e w2 ⟨u, rfl, hu, hb⟩
 obtain ⟨ua, uc, rfl⟩ := own_slice hu
 have HB := zD ((bl1 w (.cells #[.string (bT s.name), .slice ra s.records.length rv, .slice sa s.services.length sv, .slice gga s.sagas.length gv] 26)).trans (hb.mono (by simp)))
 have HX := zD ((hb.block w.heap.size (by simp)).trans (zw w (.cells #[.string (bT s.name), .slice ra s.records.length rv, .slice sa s.services.length sv, .slice gga s.sagas.length gv] 26)))
 have hlt2 : w.heap.size < w2.heap.size := (zq HX.out).1
 clear hb hu HG
 have HX3 := zD ((Below.heap_alloc w2 (.cells #[.string (bT gn), .string (bT ga), .slice ua gs.length uc] 67) _ hlt2).trans HX.out)
 have hXX := HX3.out
 have x0 : (w2.alloc (.cells #[.string (bT gn), .string (bT ga), .slice ua gs.length uc] 67)).cell? ⟨w.heap.size, 0, none⟩ = some (.string (bT s.name)) := by simp only [World.cell?, hXX]; rfl
 have x1 : (w2.alloc (.cells #[.string (bT gn), .string (bT ga), .slice ua gs.length uc] 67)).cell? ⟨w.heap.size, 1, none⟩ = some (.slice ra s.records.length rv) := by simp only [World.cell?, hXX]; rfl
 have x2 : (w2.alloc (.cells #[.string (bT gn), .string (bT ga), .slice ua gs.length uc] 67)).cell? ⟨w.heap.size, 2, none⟩ = some (.slice sa s.services.length sv) := by simp only [World.cell?, hXX]; rfl
 have x3 : (w2.alloc (.cells #[.string (bT gn), .string (bT ga), .slice ua gs.length uc] 67)).cell? ⟨w.heap.size, 3, none⟩ = some (.slice gga s.sagas.length gv) := by simp only [World.cell?, hXX]; rfl
 have HB3 := zD (HB.out.alloc HB.out.size (.cells #[.string (bT gn), .string (bT ga), .slice ua gs.length uc] 67))
 have HB4 := zD (HB3.out.alloc HB3.out.size (.cells #[.int .u8 7, .string (bT ga)] 79))
 have HN4 := zD (zw (w2.alloc (.cells #[.string (bT gn), .string (bT ga), .slice ua gs.length uc] 67)) (.cells #[.int .u8 7, .string (bT ga)] 79))
 have hz3 : (w2.alloc (.cells #[.string (bT gn), .string (bT ga), .slice ua gs.length uc] 67)).heap.size = w2.heap.size + 1 := by simp
 rw [hz3] at HN4
 have HDc := zD (HD.out _ (w2.heap.size + 1) ga HB4.out hsm ⟨⟨_, _, rfl, zn, by decide, (fun e => by cases e), fun _ => ⟨_, _, rfl, (zq HN4.out).1, fun j u hu => by
  simp only [World.cell?, HN4.out]; simpa [scells] using hu⟩⟩, rfl⟩)
 clear hXX HD hz3 HN4
 go_wp2_with fail
 refine HDc.out.mono ?_
 rintro e w5 ⟨⟨v, n, rfl⟩, hb⟩
 have HB5 := zT HB4 hb
 have HE := zD HA.out.symm
 generalize decE s ga b = DE at *
 clear hb HDc
 go_wp2_with fail
 exact zR (v := .int .i64 (DE : Nat)) ⟨by rw [HE.out], HB5.out⟩
end Go.Proofs.YtgoejmheihgpfaaGreatDoor
