/- Lemmas for ModelStays' proof. -/
import Derived.Test.YtgoejmheihgpfaaGreatDoorQx
namespace Go.Proofs.YtgoejmheihgpfaaGreatDoor
set_option maxRecDepth 100000
set_option maxHeartbeats 16000000
open Go.RowKit
def sagOf (L : List Sga) (x : Tx) : Option Sga := L.find? (fun v => decide (v.name = x))
def sOr (r : Option Sga) : Sga := r.getD ⟨[], [], []⟩
theorem pcells_one : ∀ (L : List Stp), ∀ u ∈ pcells L, u.oneCell' = true
 | [], u, h => by cases h
 | t :: L, u, h => by
  simp only [pcells, List.mem_cons] at h
  rcases h with rfl | rfl | rfl | h
  ·rfl
  ·rfl
  ·rfl
  ·exact pcells_one L u h
theorem saga_any (w : World) (s : Sch) (ur us ug : Value) (hS : SchR w s ur us ug) (hM : Small s) (a : Tx) :
  Calls Tryz.prog 17 #[.agg #[sT s.name, ur, us, ug], sT a] w fun x w' => ∃ u, x = .returned (.tuple #[.agg #[sT (sOr (sagOf s.sagas a)).name, sT (sOr (sagOf s.sagas a)).arg, u], .bool (sagOf s.sagas a).isSome]) ∧ w'.ownsRow w.heap.size 108 3 u (sOr (sagOf s.sagas a)).steps.length (pcells (sOr (sagOf s.sagas a)).steps) ∧ Below w.heap.size w w' := by
 have HM := zD hM
 obtain ⟨⟨ra, rv, rfl⟩, ⟨sa, sv, rfl⟩, ⟨ga, gv, rfl⟩⟩ := hS.shape
 have HS := zD hS
 have hn2 := hM.ng
 have HQ := zD (show sagOf s.sagas a = (s.sagas.drop 0).find? (fun v => decide (v.name = a)) from rfl)
 generalize sagOf s.sagas a = Q at *
 have HB0 := zD (show Below w.heap.size w ((w.alloc (.cells (sV s ra sa ga rv sv gv) 26)).alloc (.cells #[eS, eS, .slice none 0 0] 67)) from ((Below.refl _ w).alloc zn _).alloc (by simp) _)
 have hX0 : ((w.alloc (.cells (sV s ra sa ga rv sv gv) 26)).alloc (.cells #[eS, eS, .slice none 0 0] 67)).heap[w.heap.size]? = some (.cells (sV s ra sa ga rv sv gv) 26 (0, 0)) := (Below.heap_alloc _ _ _ (by simp)).trans (zw _ _)
 have hY0 : ((w.alloc (.cells (sV s ra sa ga rv sv gv) 26)).alloc (.cells #[eS, eS, .slice none 0 0] 67)).heap[w.heap.size + 1]? = some (.cells #[eS, eS, .slice none 0 0] 67 (0, 0)) := heap_alloc_new2 _ _ _
 have hZ0 : ((w.alloc (.cells (sV s ra sa ga rv sv gv) 26)).alloc (.cells #[eS, eS, .slice none 0 0] 67)).heap.size = w.heap.size + 2 := by simp
 go_enter Tryz.func17, Tryz.ntmps17
 go_wp2_with fail
 generalize ((w.alloc (.cells (sV s ra sa ga rv sv gv) 26)).alloc (.cells #[eS, eS, .slice none 0 0] 67)) = wM at *
 have HX := zD (fun (W : World) (h : Below wM.heap.size wM W) => show W.heap[w.heap.size]? = some (.cells (sV s ra sa ga rv sv gv) 26 (0, 0)) ∧ W.heap[w.heap.size + 1]? = some (.cells #[eS, eS, .slice none 0 0] 67 (0, 0)) from ⟨(h.block _ (by omega)).trans hX0, (h.block _ (by omega)).trans hY0⟩)
 clear hX0 hY0 hS hM
 go_loopw [11] (fun vi wr => ∃ k : Nat, k ≤ s.sagas.length ∧ vi = iV (k : Nat) ∧ Hid (Below wM.heap.size wM wr) ∧ Hid (Q = (s.sagas.drop k).find? (fun v => decide (v.name = a)))) (fun vi _ => s.sagas.length - (intOf vi).toNat)
 case atStart => exact ⟨0, by omega, rfl, zl, HQ⟩
 case round =>
  clear HQ; obtain ⟨k, hk, rfl, HBr, HQ⟩ := hrel; have HBw := zD (HB0.out.trans (HBr.out.mono (by omega))); have hszr := HBr.out.size; by_cases hlt : k < s.sagas.length
  ·obtain ⟨xr, hx1, hx2⟩ := HS.out.sg
   obtain ⟨b', o, fa, fc, rfl, hb, q0, q1, q2, hs⟩ := sga_in HBw.out hx1 hx2 hlt; have HH := zD (fun (h : s.sagas[k].name = a) => find_here (p := fun v : Sga => decide (v.name = a)) hlt (zt h)); have HN := zD (fun (h : ¬ s.sagas[k].name = a) => find_next (p := fun v : Sga => decide (v.name = a)) hlt (by simpa using h)); have hbd := HM.out.sg _ (List.getElem_mem hlt); have e_n := bT_same (s.sagas[k].name) a; generalize s.sagas[k] = r at *; clear hx1 hx2; by_cases hn : r.name = a
   ·rw [zt hn] at e_n
    have HQ2 := zD (HQ.out.trans (HH.out hn)); obtain rfl := HQ2.out; clear HH HN HQ hn HQ2; have hm := hbd.2.2.1; have HCF := zD (fun W (X : Below w.heap.size w W) => cloneStep_any W (.slice fa r.steps.length fc) r.steps.length (pcells r.steps) (hs.below X) (pcells_one _) (by omega)); clear hs; go_wp2_with fail; generalize hwi : wr.alloc (.cells #[sT r.name, sT r.arg, .slice fa r.steps.length fc] 67) = wi; have HBi := zD (show Below wM.heap.size wM wi from hwi ▸ HBr.out.alloc HBr.out.size _); have hszi : wi.heap.size = wr.heap.size + 1 := by rw [← hwi]; simp
    have HGi := zD (show wi.heap[wr.heap.size]? = some (.cells #[sT r.name, sT r.arg, .slice fa r.steps.length fc] 67 (0, 0)) from hwi ▸ zw _ _); have HBwi := zD (HB0.out.trans (HBi.out.mono (by omega))); clear hwi; refine (HCF.out wi HBwi.out).mono ?_; rintro e w2 ⟨u, rfl, hu, hb2⟩; obtain ⟨uA, uc, rfl⟩ := own_slice hu; have HU := zD hu; have HB2 := zD hb2; generalize hwrs : wr.heap.size = rb at *; clear hu hb2 HCF q0 q1 q2; have hsz2 := HB2.out.size; have HGr := zD ((HB2.out.block rb (by omega)).trans HGi.out); have i2 : w2.cell? ⟨rb, 2, none⟩ = some (.slice fa r.steps.length fc) := by simp [World.cell?, HGr.out]
    have jf : ∀ o, w2.frozen? ⟨rb, o, none⟩ = false := fun o => by simp [World.frozen?, HGr.out]
    go_upto_region 6 with (fail); have HG5 := zD (show (w2.setCell ⟨rb, 2, none⟩ (.slice uA r.steps.length uc)).heap[rb]? = some (.cells #[sT r.name, sT r.arg, .slice uA r.steps.length uc] 67 (0, 0)) from by simp [World.setCell, Array.getElem?_modify, HGr.out]); have HB5 := zD ((HBi.out.trans (HB2.out.mono (by omega))).setCell (p := ⟨rb, 2, none⟩) (show wM.heap.size ≤ rb by omega) (.slice uA r.steps.length uc)); have HBw5 := zD ((HBwi.out.trans (HB2.out.mono (by omega))).setCell (p := ⟨rb, 2, none⟩) (show w.heap.size ≤ rb by omega) (.slice uA r.steps.length uc)); have HK5 := zD (KeepsB.set (B := wi.heap.size) w2 (show rb < wi.heap.size by omega) 2 (.slice uA r.steps.length uc)); clear i2 jf HGr; generalize w2.setCell ⟨rb, 2, none⟩ (.slice uA r.steps.length uc) = w5 at *; have i0 : w5.cell? ⟨rb, 0, none⟩ = some (sT r.name) := by simp [World.cell?, HG5.out]
    have i1 : w5.cell? ⟨rb, 1, none⟩ = some (sT r.arg) := by simp [World.cell?, HG5.out]
    have i2 : w5.cell? ⟨rb, 2, none⟩ = some (.slice uA r.steps.length uc) := by simp [World.cell?, HG5.out]
    have HY := zD (HX.out w5 HB5.out).2; obtain ⟨l0, l1, l2, g0, g1, g2⟩ := laid3_cells HY.out; obtain ⟨m0, m1, m2⟩ := laid3_read HY.out (sT r.name) (sT r.arg) (.slice uA r.steps.length uc); have HKf := zD (HK5.out.trans (laid3_keep w5 (show w.heap.size + 1 < wi.heap.size by omega) (sT r.name) (sT r.arg) (.slice uA r.steps.length uc))); have HBf := zD (laid3_below HBw5.out (show w.heap.size ≤ w.heap.size + 1 by omega) (sT r.name) (sT r.arg) (.slice uA r.steps.length uc)); go_wp2_with fail; exact bodyPost_ret (v := .tuple #[.agg #[sT r.name, sT r.arg, .slice uA r.steps.length uc], .bool true]) (by simp [results, Tryz.results17, go_sem, m0, m1, m2]) rfl ⟨_, rfl, own_base (HKf.out _ _ _ _ _ HU.out) (by omega), HBf.out⟩
   ·rw [zf hn] at e_n
    have HQ2 := zD (HQ.out.trans (HN.out hn)); clear HH HN HQ hn; go_wp2_with fail; exact ⟨⟨k + 1, by omega, by go_num, HBr.out.alloc HBr.out.size _, HQ2⟩, by simp [intOf]; omega⟩
  have HQ2 := zD (HQ.out.trans (find_end hlt)); obtain rfl := HQ2.out; clear HQ HQ2; have HY := zD (HX.out wr HBr.out).2; obtain ⟨l0, l1, l2, g0, g1, g2⟩ := laid3_cells HY.out; obtain ⟨m0, m1, m2⟩ := laid3_read HY.out (eS) (eS) (.slice none 0 0); go_wp2_with fail; exact bodyPost_ret (v := .tuple #[.agg #[eS, eS, .slice none 0 0], .bool false]) (by simp [results, Tryz.results17, go_sem, m0, m1, m2]) rfl ⟨_, rfl, World.ownsRow_nil _ _ _ _, laid3_below HBw.out (by omega) _ _ _⟩
structure Pt (wb : Nat) (w w' : World) : Prop where
 os : w'.os = w.os
 tape : w'.tape = w.tape
 output : w'.output = w.output
 size : w.heap.size ≤ w'.heap.size
 keep : ∀ k, k < w.heap.size → k ≠ wb → (k < wb ∨ ∀ cs fz, w.heap[k]? ≠ some (.cells cs 9 fz)) → w'.heap[k]? = w.heap[k]?
theorem Pt.refl (wb : Nat) (w : World) : Pt wb w w := ⟨rfl, rfl, rfl, zn, fun _ _ _ _ => rfl⟩
theorem Pt.trans {wb : Nat} {a b c : World} (h : Pt wb a b) (k : Pt wb b c) : Pt wb a c :=
 ⟨k.os.trans h.os, k.tape.trans h.tape, k.output.trans h.output, Nat.le_trans h.size k.size, fun i hi hn hs => by
  have e := h.keep i hi hn hs
  exact (k.keep i (Nat.lt_of_lt_of_le hi h.size) hn (hs.imp id fun g cs fz => by rw [e]; exact g cs fz)).trans e⟩
theorem Pt.of_below {wb : Nat} {w w' : World} (h : Below w.heap.size w w') : Pt wb w w' := ⟨h.os, h.tape, h.output, h.size, fun k hk _ _ => h.block k hk⟩
theorem Pt.below {wb B : Nat} {w0 w w' : World} (h : Pt wb w w') (hb : Below B w0 w) (hB : B ≤ wb) (hw : B ≤ w.heap.size) : Below B w0 w' :=
 ⟨h.os.trans hb.os, h.tape.trans hb.tape, h.output.trans hb.output, Nat.le_trans hb.size h.size, fun k hk => (h.keep k (by omega) (by omega) (.inl (by omega))).trans (hb.block k hk)⟩
theorem Pt.box {wb b : Nat} {w w' : World} {cs : Array Value} {T : TypeId} {fz : Nat × Nat} (h : Pt wb w w') (hg : w.heap[b]? = some (.cells cs T fz)) (hT : T ≠ 9) (hn : b ≠ wb) : w'.heap[b]? = some (.cells cs T fz) :=
 (h.keep b (zq hg).1 hn (.inr fun cs' fz' e => by rw [hg] at e; injection e with e; injection e with _ e _; exact hT e)).trans hg
def strs (L : List Tx) : List Value := L.map (fun x => sT x)
theorem strs_one (L : List Tx) : ∀ u ∈ strs L, u.oneCell' = true := by
 intro u hu
 simp only [strs, List.mem_map] at hu
 obtain ⟨x, _, rfl⟩ := hu
 rfl
theorem strs_len (L : List Tx) : (strs L).length = L.length := by simp [strs]
structure Wr (wb : Nat) (w : World) (L : List Tx) : Prop where
 row : ∃ v, w.heap[wb]? = some (.cells #[v] 129 (0, 0)) ∧ w.ownsRow (wb + 1) 9 1 v L.length (strs L)
theorem Wr.lt {wb : Nat} {w : World} {L : List Tx} (h : Wr wb w L) : wb < w.heap.size := by
 obtain ⟨v, hg, _⟩ := h.row
 exact (zq hg).1
theorem Wr.after {wb : Nat} {w w' : World} {L : List Tx} (h : Wr wb w L) (hb : Below w.heap.size w w') : Wr wb w' L := by
 obtain ⟨v, hg, ho⟩ := h.row
 exact ⟨v, (hb.block wb h.lt).trans hg, own_below ho hb⟩
theorem own_block_cells {w : World} {B size n k : Nat} {e : TypeId} {v : Value} {xs : List Value} (h : w.ownsRow B e size v n xs) (hk : v.ownBlock = some k) : ∃ cs fz, w.heap[k]? = some (.cells cs e fz) := by
 obtain ⟨_, ⟨rfl, _⟩ | ⟨g, cap, cur, rfl, _, hg, _⟩⟩ := h
 ·cases hk
 ·injection hk with hk
  exact ⟨cur, (0, 0), hk ▸ hg⟩
theorem info_str : (Tryz.prog.info? 9).map (fun i => (i.zero, i.size, i.bytes)) = some (some (eS), 1, 16) := by kernel_rfl
theorem put_any (w : World) (wb : Nat) (L M : List Tx) (h : Wr wb w L) (hL : L.length ≤ 1000000) (b o c : Nat) (hM : M.length ≤ 1000) (hc : ∀ j u, (strs M)[j]? = some u → w.cell? ⟨b, o + j, none⟩ = some u) :
  Calls Tryz.prog 61 #[.pointer (some ⟨wb, 0, none⟩), .slice (some ⟨b, o, none⟩) M.length c] w fun e w' => e = .returned (.tuple #[]) ∧ Wr wb w' (L ++ M) ∧ Pt wb w w' := by
 obtain ⟨v, hg, hown⟩ := h.row
 have d0 : w.cell? ⟨wb, 0, none⟩ = some v := by simp [World.cell?, hg]
 have hlt := h.lt
 have HO := zD hown
 have HG := zD hg
 have HC := zD hc
 obtain ⟨vA, vc, rfl⟩ := own_slice hown
 clear h hown hg hc
 obtain ⟨i0, hi0, hz0, hz1, hz2⟩ := info_parts info_str
 go_enter Tryz.func61, Tryz.ntmps61
 go_wp2_with (first
  | (at_builtin; refine wpList_append_own _ rfl _ _ 86 rfl (wb + 1) 9 i0 (eS) 1 16 Tryz.underlying86 hi0 hz0 hz1 hz2 rfl (by decide) _ _ _ rfl HO.out ⟨b, o, none⟩ M.length c (strs M) rfl (by rw [strs_len, Nat.mul_one]) (fun j u hu => by rw [Addr.add_lit]; exact HC.out j u hu) (strs_one M) (by unfold maxLen; omega) (by omega) (by omega) ?_; intro v' w1 hown1 hgrow _; obtain ⟨xA, xc, rfl⟩ := own_slice hown1; have HOW := zD hown1; have HGR := zD hgrow; have HG1 := zD (show w1.heap[wb]? = some (.cells #[.slice vA L.length vc] 129 (0, 0)) from (hgrow.block wb hlt (fun e => by have h9 := HO.out.lt _ e.symm; omega)).trans HG.out); have f1 : ∀ o, w1.frozen? ⟨wb, o, none⟩ = false := (fun o => (by simp [World.frozen?, HG1.out])); have f2 : w1.cell? ⟨wb, 0, none⟩ = some (.slice vA L.length vc) := (by simp [World.cell?, HG1.out]); clear hown1 hgrow)
  | fail)
 go_end0
 have HOW2 := HOW.out
 have e1 : (w1.setCell ⟨wb, 0, none⟩ (.slice xA (L.length + M.length) xc)).heap[wb]? = some (.cells #[.slice xA (L.length + M.length) xc] 129 (0, 0)) := by simp [World.setCell, Array.getElem?_modify, HG1.out]
 refine ⟨rfl, ⟨_, e1, ?_⟩, ?_⟩
 ·have h9 := KeepsB.set w1 (Nat.lt_succ_self wb) 0 (.slice xA (L.length + M.length) xc) _ _ _ _ _ HOW2
  rw [List.length_append]; unfold strs at *; rw [List.map_append]; exact h9
 ·have hrow := HO.out.lt
  refine ⟨HGR.out.os, HGR.out.tape, HGR.out.output, by simpa [World.setCell] using HGR.out.size, fun k hk hn hs => (Below.heap_setCell w1 _ _ k (fun e => hn e)).trans (HGR.out.block k hk (fun e => ?_))⟩; have h8 := hrow k e.symm; rcases hs with hs | hs
  ·omega
  ·obtain ⟨cs, fz, hcs⟩ := own_block_cells HO.out e.symm
   exact hs cs fz hcs
def srtT (t : Srt) : Tx := if t.kind = 1 then [110, 111, 110, 101] else if t.kind = 2 then [98, 111, 111, 108] else if t.kind = 3 then [105, 110, 116] else if t.kind = 4 then [116, 101, 120, 116] else if t.kind = 5 then [108, 105, 115, 116] else if t.kind = 6 then [111, 112, 116] else t.name
theorem put_new (w : World) (wb : Nat) (L M : List Tx) (h : Wr wb w L) (hL : L.length ≤ 1000000) (hM : M.length ≤ 1000) (cs : Array Value) (hcs : cs = (strs M).toArray) (n : Nat) (hn : n = M.length) (bk : Nat) (hbk : w.heap.size = bk) :
  Calls Tryz.prog 61 #[.pointer (some ⟨wb, 0, none⟩), .slice (some ⟨bk, 0, none⟩) n n] (w.alloc (.cells cs 9)) fun e w' => e = .returned (.tuple #[]) ∧ Wr wb w' (L ++ M) ∧ Pt wb w w' := by
 subst hcs hn hbk
 refine (put_any _ wb L M (h.after (bl1 w _)) hL w.heap.size 0 M.length hM (fun j u hu => ?_)).mono ?_
 ·have := zw w (.cells (strs M).toArray 9)
  simp only [World.cell?, this]; simpa using hu
 ·rintro e w' ⟨rfl, h1, h2⟩
  exact ⟨rfl, h1, (Pt.of_below (bl1 w _)).trans h2⟩
theorem psorts_any (w : World) (wb : Nat) (L : List Tx) (h : Wr wb w L) (v : Value) (T : List Srt) (hT : ∀ w', Pt wb w w' → Slc w' 2 v T.length (scells T)) (hl : L.length + T.length ≤ 900000) :
  Calls Tryz.prog 96 #[.pointer (some ⟨wb, 0, none⟩), v] w fun e w' => e = .returned (.tuple #[]) ∧ Wr wb w' (L ++ T.map srtT) ∧ Pt wb w w' := by
 obtain ⟨ta, tc, rfl⟩ := (hT w (Pt.refl _ _)).shape
 have HT := zD hT
 have HW0 := zD h
 clear h hT
 go_enter Tryz.func96, Tryz.ntmps96
 go_wp2_with fail
 go_loopw [8] (fun vi wr => ∃ k : Nat, k ≤ T.length ∧ vi = iV (k : Nat) ∧ Hid (Wr wb wr (L ++ (T.take k).map srtT)) ∧ Hid (Pt wb w wr)) (fun vi _ => T.length - (intOf vi).toNat)
 case atStart => exact ⟨0, by omega, rfl, zD (by simpa using HW0.out), zD (Pt.refl _ _)⟩
 case round =>
  clear HW0; rename World => wo
  obtain ⟨k, hk, rfl, HW, HP⟩ := hrel; by_cases hlt : k < T.length
  ·obtain ⟨b, o, rfl, hb, q0, q1⟩ := srt_at (HT.out wo HP.out) hlt
   have HTk := zD (show L ++ (T.take (k + 1)).map srtT = (L ++ (T.take k).map srtT) ++ [srtT T[k]] from by rw [List.take_succ_eq_append_getElem hlt, List.map_append, ← List.append_assoc]; rfl); have hln : (L ++ (T.take k).map srtT).length ≤ 1000000 := by rw [List.length_append, List.length_map, List.length_take]; omega
   generalize L ++ (T.take k).map srtT = Lk at *; generalize T[k] = t at *; have HS := zD (show srtT t = if t.kind = 1 then [110, 111, 110, 101] else if t.kind = 2 then [98, 111, 111, 108] else if t.kind = 3 then [105, 110, 116] else if t.kind = 4 then [116, 101, 120, 116] else if t.kind = 5 then [108, 105, 115, 116] else if t.kind = 6 then [111, 112, 116] else t.name from rfl); generalize srtT t = st at *; have HPU := zD (fun M cs hcs n hn hM bk hbk => put_new (wo.alloc (.cells #[.int .u8 (t.kind : Nat), sT t.name] 79)) wb Lk M (HW.out.after (bl1 wo _)) hln hM cs hcs n hn bk hbk); have HP1 := zD (HP.out.trans (Pt.of_below (bl1 wo (.cells #[.int .u8 (t.kind : Nat), sT t.name] 79)))); by_cases k1 : t.kind = 1
   ·have i1 : ((t.kind : Int) == 1) = true := by simp; omega
    have HSk := zD (show st = [110, 111, 110, 101] from by rw [HS.out, if_pos k1]); have HPx := zD (HPU.out [[110, 111, 110, 101]] #[.string ⟨#[110, 111, 110, 101]⟩] rfl 1 rfl (by simp) (wo.heap.size + 1) (by simp)); clear HPU HS k1; go_wp2_with fail; refine HPx.out.mono ?_; rintro e w2 ⟨rfl, hw2, hp2⟩; have HW2 := zD hw2; have HP2 := zD (HP1.out.trans hp2); clear hw2 hp2; go_wp2_with fail; exact ⟨⟨k + 1, by omega, by go_num, zD (by rw [HTk.out, HSk.out]; exact HW2.out), HP2⟩, by simp [intOf]; omega⟩
   have i1 : ((t.kind : Int) == 1) = false := by simp; omega
   by_cases k2 : t.kind = 2
   ·have i2 : ((t.kind : Int) == 2) = true := by simp; omega
    have HSk := zD (show st = [98, 111, 111, 108] from by rw [HS.out, if_neg k1, if_pos k2]); have HPx := zD (HPU.out [[98, 111, 111, 108]] #[.string ⟨#[98, 111, 111, 108]⟩] rfl 1 rfl (by simp) (wo.heap.size + 1) (by simp)); clear HPU HS k1 k2; go_wp2_with fail; refine HPx.out.mono ?_; rintro e w2 ⟨rfl, hw2, hp2⟩; have HW2 := zD hw2; have HP2 := zD (HP1.out.trans hp2); clear hw2 hp2; go_wp2_with fail; exact ⟨⟨k + 1, by omega, by go_num, zD (by rw [HTk.out, HSk.out]; exact HW2.out), HP2⟩, by simp [intOf]; omega⟩
   have i2 : ((t.kind : Int) == 2) = false := by simp; omega
   by_cases k3 : t.kind = 3
   ·have i3 : ((t.kind : Int) == 3) = true := by simp; omega
    have HSk := zD (show st = [105, 110, 116] from by rw [HS.out, if_neg k1, if_neg k2, if_pos k3]); have HPx := zD (HPU.out [[105, 110, 116]] #[.string ⟨#[105, 110, 116]⟩] rfl 1 rfl (by simp) (wo.heap.size + 1) (by simp)); clear HPU HS k1 k2 k3; go_wp2_with fail; refine HPx.out.mono ?_; rintro e w2 ⟨rfl, hw2, hp2⟩; have HW2 := zD hw2; have HP2 := zD (HP1.out.trans hp2); clear hw2 hp2; go_wp2_with fail; exact ⟨⟨k + 1, by omega, by go_num, zD (by rw [HTk.out, HSk.out]; exact HW2.out), HP2⟩, by simp [intOf]; omega⟩
   have i3 : ((t.kind : Int) == 3) = false := by simp; omega
   by_cases k4 : t.kind = 4
   ·have i4 : ((t.kind : Int) == 4) = true := by simp; omega
    have HSk := zD (show st = [116, 101, 120, 116] from by rw [HS.out, if_neg k1, if_neg k2, if_neg k3, if_pos k4]); have HPx := zD (HPU.out [[116, 101, 120, 116]] #[.string ⟨#[116, 101, 120, 116]⟩] rfl 1 rfl (by simp) (wo.heap.size + 1) (by simp)); clear HPU HS k1 k2 k3 k4; go_wp2_with fail; refine HPx.out.mono ?_; rintro e w2 ⟨rfl, hw2, hp2⟩; have HW2 := zD hw2; have HP2 := zD (HP1.out.trans hp2); clear hw2 hp2; go_wp2_with fail; exact ⟨⟨k + 1, by omega, by go_num, zD (by rw [HTk.out, HSk.out]; exact HW2.out), HP2⟩, by simp [intOf]; omega⟩
   have i4 : ((t.kind : Int) == 4) = false := by simp; omega
   by_cases k5 : t.kind = 5
   ·have i5 : ((t.kind : Int) == 5) = true := by simp; omega
    have HSk := zD (show st = [108, 105, 115, 116] from by rw [HS.out, if_neg k1, if_neg k2, if_neg k3, if_neg k4, if_pos k5]); have HPx := zD (HPU.out [[108, 105, 115, 116]] #[.string ⟨#[108, 105, 115, 116]⟩] rfl 1 rfl (by simp) (wo.heap.size + 1) (by simp)); clear HPU HS k1 k2 k3 k4 k5; go_wp2_with fail; refine HPx.out.mono ?_; rintro e w2 ⟨rfl, hw2, hp2⟩; have HW2 := zD hw2; have HP2 := zD (HP1.out.trans hp2); clear hw2 hp2; go_wp2_with fail; exact ⟨⟨k + 1, by omega, by go_num, zD (by rw [HTk.out, HSk.out]; exact HW2.out), HP2⟩, by simp [intOf]; omega⟩
   have i5 : ((t.kind : Int) == 5) = false := by simp; omega
   by_cases k6 : t.kind = 6
   ·have i6 : ((t.kind : Int) == 6) = true := by simp; omega
    have HSk := zD (show st = [111, 112, 116] from by rw [HS.out, if_neg k1, if_neg k2, if_neg k3, if_neg k4, if_neg k5, if_pos k6]); have HPx := zD (HPU.out [[111, 112, 116]] #[.string ⟨#[111, 112, 116]⟩] rfl 1 rfl (by simp) (wo.heap.size + 1) (by simp)); clear HPU HS k1 k2 k3 k4 k5 k6; go_wp2_with fail; refine HPx.out.mono ?_; rintro e w2 ⟨rfl, hw2, hp2⟩; have HW2 := zD hw2; have HP2 := zD (HP1.out.trans hp2); clear hw2 hp2; go_wp2_with fail; exact ⟨⟨k + 1, by omega, by go_num, zD (by rw [HTk.out, HSk.out]; exact HW2.out), HP2⟩, by simp [intOf]; omega⟩
   have i6 : ((t.kind : Int) == 6) = false := by simp; omega
   have HSk := zD (show st = t.name from by rw [HS.out, if_neg k1, if_neg k2, if_neg k3, if_neg k4, if_neg k5, if_neg k6]); have HPx := zD (HPU.out [t.name] #[sT t.name] rfl 1 rfl (by simp) (wo.heap.size + 1) (by simp)); clear HPU HS k1 k2 k3 k4 k5 k6; go_wp2_with fail; refine HPx.out.mono ?_; rintro e w2 ⟨rfl, hw2, hp2⟩; have HW2 := zD hw2; have HP2 := zD (HP1.out.trans hp2); clear hw2 hp2; go_wp2_with fail; exact ⟨⟨k + 1, by omega, by go_num, zD (by rw [HTk.out, HSk.out]; exact HW2.out), HP2⟩, by simp [intOf]; omega⟩
  have HWz := zD (show Wr wb wo (L ++ T.map srtT) from by have h := HW.out; rw [List.take_of_length_le (by omega)] at h; exact h); go_wp2_with fail; go_end0; exact ⟨rfl, HWz.out, HP.out⟩
end Go.Proofs.YtgoejmheihgpfaaGreatDoor
