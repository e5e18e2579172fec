/-
  redresslaw28.wakes at the shop; the walk of redresslaw28.ModelBalances.
-/
import Derived.Test.YtgoejmheihgpfaaGreatDoorSn
import Derived.Test.YtgoejmheihgpfaaGreatDoorSd
import Derived.Test.YtgoejmheihgpfaaGreatDoorRows
import Derived.LaidSub
import Derived.LaidMore
import Derived.LaidOnce
import Derived.ProofKit
import Derived.OpenShut
import Derived.SevenTiedAt
namespace Go.Proofs.YtgoejmheihgpfaaGreatDoor
section
open Go.RowKit

def smallB (s : Sch) : Bool := decide (s.name.length ≤ 200) && decide (s.records.length ≤ 100) && decide (s.services.length ≤ 100) && decide (s.sagas.length ≤ 100) &&
  s.records.all (fun r => decide (r.name.length ≤ 200) && decide (r.fields.length ≤ 40) && r.fields.all (fun f => decide (f.name.length ≤ 200) && decide (f.type.length ≤ 40) && f.type.all (fun t => decide (t.name.length ≤ 200)))) &&
  s.services.all (fun v => decide (v.name.length ≤ 200) && decide (v.methods.length ≤ 40) && v.methods.all (fun m => decide (m.name.length ≤ 200) && decide (m.arg.length ≤ 200) && decide (m.effect.length ≤ 200) && decide (m.undo.length ≤ 200))) &&
  s.sagas.all (fun g => decide (g.name.length ≤ 200) && decide (g.arg.length ≤ 200) && decide (g.steps.length ≤ 40) && g.steps.all (fun x => decide (x.service.length ≤ 200) && decide (x.method.length ≤ 200)))
theorem small_of {s : Sch} (h : smallB s = true) : Small s := by
  unfold smallB at h
  simp only [Bool.and_eq_true, decide_eq_true_eq, List.all_eq_true] at h
  obtain ⟨⟨⟨⟨⟨⟨h1, h2⟩, h3⟩, h4⟩, h5⟩, h6⟩, h7⟩ := h
  exact ⟨h1, h2, h3, h4, fun r hr => ⟨(h5 r hr).1.1, (h5 r hr).1.2, fun f hf => ⟨((h5 r hr).2 f hf).1.1, ((h5 r hr).2 f hf).1.2, ((h5 r hr).2 f hf).2⟩⟩, fun v hv => ⟨(h6 v hv).1.1, (h6 v hv).1.2, fun m hm => ⟨((h6 v hv).2 m hm).1.1.1, ((h6 v hv).2 m hm).1.1.2, ((h6 v hv).2 m hm).1.2, ((h6 v hv).2 m hm).2⟩⟩, fun g hg => ⟨(h7 g hg).1.1.1, (h7 g hg).1.1.2, (h7 g hg).1.2, fun x hx => ⟨((h7 g hg).2 x hx).1, ((h7 g hg).2 x hx).2⟩⟩⟩
theorem shop_small : smallB shop = true := by kernel_rfl
theorem shop_textA : (textA' shop).2 = 0 := by kernel_rfl
theorem shop_serve : serveA shop 0 [] [e0] [] [] 0 0 = true := by kernel_rfl
theorem shop_bal : balA shop [e0] [] = some [([120], 5)] := by kernel_rfl
theorem shop_right : rightR shop run0 = true := by kernel_rfl
theorem wakes_any (w : World) (hK : KwIn w) : Calls Tryz.prog 8 #[] w fun x w' => x = .returned (.bool true) ∧ Below w.heap.size w w' :=
  wakes_gen w hK shop (fun W => shop_any W) (small_of shop_small) shop_textA shop_serve shop_bal shop_right
set_option maxRecDepth 100000 in
set_option maxHeartbeats 16000000 in
theorem modelBalances_any (w : World) (hK : KwIn w) (s : Sch) (ur us ug : Value) (hS : SchR w s ur us ug) (v : Value) (l : List Ent) (hl : Slc w 6 v l.length (ecells l)) :
    Calls Tryz.prog 3 #[.agg #[.string (bT s.name), ur, us, ug], v] w fun x w' => x = .returned (.bool true) ∧ Below w.heap.size w w' := by
  obtain ⟨⟨ra, rv, rfl⟩, ⟨sa, sv, rfl⟩, ⟨ga, gv, rfl⟩⟩ := hS.shape
  obtain ⟨la, lc, rfl⟩ := hl.shape
  have HWK := Lib.hid (fun W (X : Below w.heap.size w W) => wakes_any W (hK.below X))
  have HGR := Lib.hid (fun W (X : Below w.heap.size w W) => great13_any W s _ _ _ (hS.below X))
  have HGE := Lib.hid (fun W (X : Below w.heap.size w W) => greatEntries_any W _ l (hl.below X))
  have HBA := Lib.hid (fun W (X : Below w.heap.size w W) (hM : Small s) (hn : l.length ≤ 1000) (ha : ∀ e ∈ l, e.acc.length ≤ 1000000) => balances_any W s _ _ _ (hS.below X) hM _ l (hl.below X) hn ha)
  have HRB := Lib.hid (fun W (X : Below w.heap.size w W) (hM : Small s) (hn : l.length ≤ 1000) (ha : ∀ e ∈ l, e.acc.length ≤ 1000000) => rbalances_any W s _ _ _ (hS.below X) hM _ l (hl.below X) hn ha)
  clear hK hS hl
  go_enter Tryz.func3, Tryz.ntmps3
  go_upto_region 1 with (fail)
  generalize hwa : w.alloc (.cells #[.string (bT s.name), .slice ra s.records.length rv, .slice sa s.services.length sv, .slice ga s.sagas.length gv] 26) = wa at *
  have HXa := Lib.hid (show wa.heap[w.heap.size]? = some (.cells #[.string (bT s.name), .slice ra s.records.length rv, .slice sa s.services.length sv, .slice ga s.sagas.length gv] 26 (0, 0)) from hwa ▸ heap_alloc_new _ _)
  have HBa := Lib.hid (show Below w.heap.size w wa from hwa ▸ bl1 _ _)
  clear hwa
  have hla : w.heap.size < wa.heap.size := (Array.getElem?_eq_some_iff.1 HXa.out).1
  have HK := Lib.hid (fun W (X : Below wa.heap.size wa W) => show W.cell? ⟨w.heap.size, 0, none⟩ = some (.string (bT s.name)) ∧ W.cell? ⟨w.heap.size, 1, none⟩ = some (.slice ra s.records.length rv) ∧ W.cell? ⟨w.heap.size, 2, none⟩ = some (.slice sa s.services.length sv) ∧ W.cell? ⟨w.heap.size, 3, none⟩ = some (.slice ga s.sagas.length gv) ∧ w.heap.size < W.heap.size from by
    have h := (X.block _ (Array.getElem?_eq_some_iff.1 HXa.out).1).trans HXa.out
    exact ⟨by simp only [World.cell?, h]; rfl, by simp only [World.cell?, h]; rfl, by simp only [World.cell?, h]; rfl, by simp only [World.cell?, h]; rfl, (Array.getElem?_eq_some_iff.1 h).1⟩)
  clear HXa hla
  obtain ⟨k0, k1, k2, k3, hl0⟩ := HK.out wa (Below.refl _ _)
  have HC := Lib.hid (HGR.out wa HBa.out)
  go_wp2_with fail
  refine HC.out.mono ?_
  rintro e w2 ⟨⟨b1, rfl, hb1⟩, hb⟩
  have HB2 := Lib.hid (HBa.out.trans (hb.mono HBa.out.size))
  have HD2 := Lib.hid hb
  clear hb HC k0 k1 k2 k3 hl0
  have HW2 := Lib.hid (HWK.out w2 HB2.out)
  cases b1 with
  | true =>
    clear hb1
    go_wp2_with fail
    refine HW2.out.mono ?_
    rintro e w3 ⟨rfl, hb⟩
    have HB3 := Lib.hid (HB2.out.trans (hb.mono HB2.out.size))
    clear hb HW2
    go_wp2_with fail
    exact bodyPost_ret (v := .bool true) (by simp [results, Tryz.results3, go_sem]) rfl ⟨rfl, HB3.out⟩
  | false =>
    have HSM := Lib.hid (hb1 rfl)
    have HC := Lib.hid (HGE.out w2 HB2.out)
    clear hb1 HW2
    go_wp2_with fail
    refine HC.out.mono ?_
    rintro e w3 ⟨⟨b2, rfl, hb2⟩, hb⟩
    have HB3 := Lib.hid (HB2.out.trans (hb.mono HB2.out.size))
    have HD3 := Lib.hid (HD2.out.trans (hb.mono HD2.out.size))
    clear hb HC
    cases b2 with
    | true =>
      have HW3 := Lib.hid (HWK.out w3 HB3.out)
      clear hb2
      go_wp2_with fail
      refine HW3.out.mono ?_
      rintro e w4 ⟨rfl, hb⟩
      have HB4 := Lib.hid (HB3.out.trans (hb.mono HB3.out.size))
      clear hb HW3
      go_wp2_with fail
      exact bodyPost_ret (v := .bool true) (by simp [results, Tryz.results3, go_sem]) rfl ⟨rfl, HB4.out⟩
    | false =>
      have HEN := Lib.hid (hb2 rfl)
      clear hb2
      have hn : l.length ≤ 1000 := by have := HEN.out.1; omega
      have HAC := Lib.hid (fun (e : Ent) (he : e ∈ l) => show e.acc.length ≤ 1000000 from by have := (HEN.out.2 e he).2.2.2; omega)
      have HC := Lib.hid (HBA.out w3 HB3.out HSM.out hn HAC.out)
      have HCR := Lib.hid (fun W (X : Below w.heap.size w W) => HRB.out W X HSM.out hn HAC.out)
      clear hn
      obtain ⟨k0, k1, k2, k3, hl0⟩ := HK.out w3 HD3.out
      go_wp2_with fail
      refine HC.out.mono ?_
      rintro e w4 ⟨hcase, hb⟩
      have HB4 := Lib.hid (HB3.out.trans (hb.mono HB3.out.size))
      have HD4 := Lib.hid (HD3.out.trans (hb.mono HD3.out.size))
      clear hb HC k0 k1 k2 k3 hl0
      obtain ⟨k0, k1, k2, k3, hl0⟩ := HK.out w4 HD4.out
      have HC := Lib.hid (HCR.out w4 HB4.out)
      clear HCR
      rcases hcase with ⟨hno, rfl⟩ | ⟨F, u, hF, rfl, hu, -⟩
      · have HNO := Lib.hid hno
        clear hno
        go_wp2_with fail
        refine HC.out.mono ?_
        rintro e w5 ⟨⟨-, rfl⟩ | ⟨F, u, hF, rfl, hu, -⟩, hb⟩
        case inr => rw [HNO.out] at hF; cases hF
        have HB5 := Lib.hid (HB4.out.trans (hb.mono HB4.out.size))
        clear hb HC k0 k1 k2 k3 hl0
        have HW5 := Lib.hid (HWK.out w5 HB5.out)
        go_wp2_with fail
        go_loopw [9] (fun vi wr => vi = .int .i64 0 ∧ wr = w5) (fun _ _ => 0)
        case atStart => exact ⟨rfl, rfl⟩
        case round =>
          obtain ⟨rfl, rfl⟩ := hrel
          go_wp2_with fail
          refine HW5.out.mono ?_
          rintro e w6 ⟨rfl, hb⟩
          have HB6 := Lib.hid (HB5.out.trans (hb.mono HB5.out.size))
          clear hb HW5
          go_wp2_with fail
          exact bodyPost_ret (v := .bool true) (by simp [results, Tryz.results3, go_sem]) rfl ⟨rfl, HB6.out⟩
      · obtain ⟨ua, uc, rfl⟩ := own_slice hu
        have HU := Lib.hid hu
        have HF := Lib.hid hF
        clear hu hF
        go_wp2_with fail
        refine HC.out.mono ?_
        rintro e w5 ⟨⟨hno, -⟩ | ⟨F', u', hF', rfl, hu', -⟩, hb⟩
        case inl => rw [HF.out] at hno; cases hno
        rw [HF.out] at hF'
        injection hF' with hF'
        subst hF'
        obtain ⟨va, vc, rfl⟩ := own_slice hu'
        have HV := Lib.hid (Slc.own hu')
        have HU5 := Lib.hid ((Slc.own HU.out).below hb)
        have HB5 := Lib.hid (HB4.out.trans (hb.mono HB4.out.size))
        clear hb HC k0 k1 k2 k3 hl0 hu'
        have d1 : ((F.length : Int) == (F.length : Int)) = true := by rw [beq_iff_eq]
        have d2 : ((F.length : Int) != (F.length : Int)) = false := by rw [bne_eq_false_iff_eq]
        have hFb := HU5.out.bd
        go_wp2_with fail
        go_loopw [9] (fun vi wr => ∃ k : Nat, k ≤ F.length ∧ vi = .int .i64 (k : Nat) ∧ Hid (Below w5.heap.size w5 wr)) (fun vi _ => F.length - (intOf vi).toNat)
        case atStart => exact ⟨0, by omega, rfl, Lib.hid (Below.refl _ _)⟩
        case round =>
          rename World => wr
          obtain ⟨k, hk, rfl, HBr⟩ := hrel
          have HBw := Lib.hid (HB5.out.trans (HBr.out.mono HB5.out.size))
          by_cases hlt : k < F.length
          · obtain ⟨b1, o1, rfl, hb1, hc1⟩ := slc_cells (HU5.out.below HBr.out) (by omega)
            obtain ⟨b2, o2, rfl, hb2, hc2⟩ := slc_cells (HV.out.below HBr.out) (by omega)
            obtain ⟨a1, a2⟩ := accells_at F k hlt
            have p0 := hc1 _ _ a1
            have p1 := hc1 _ _ a2
            have q0 := hc2 _ _ a1
            have q1 := hc2 _ _ a2
            rw [← Nat.add_assoc] at p1 q1
            have hne := fun W => acc_neq F[k] F[k] W
            have hgd := fun X Y W => acc_neqg F[k] F[k] X Y W
            rw [accEq_self] at hne
            have HBn := Lib.hid (fun n => show Below w5.heap.size w5 (wr.drewN n) from ⟨HBr.out.os, HBr.out.tape, HBr.out.output, HBr.out.size, HBr.out.block⟩)
            generalize F[k] = x at *
            have hi1 : (0 : Int) ≤ (k : Int) := by omega
            have hi2 : (k : Int) < (F.length : Int) := by omega
            clear hc1 hc2 a1 a2
            go_wp2_with fail
            go_quiet (fail)
            have HB9 := Lib.hid (HBn.out nq)
            go_wp2_with fail
            exact ⟨⟨k + 1, by omega, by go_num, HB9⟩, by simp [intOf]; omega⟩
          · have HW9 := Lib.hid (HWK.out wr HBw.out)
            go_wp2_with fail
            refine HW9.out.mono ?_
            rintro e w6 ⟨rfl, hb⟩
            have HB6 := Lib.hid (HBw.out.trans (hb.mono HBw.out.size))
            clear hb HW9
            go_wp2_with fail
            exact bodyPost_ret (v := .bool true) (by simp [results, Tryz.results3, go_sem]) rfl ⟨rfl, HB6.out⟩
end

section
open Go.ChangeShapes Go.WideShapes Go.ChangeAt Go.RowKit

theorem kw_datum : (Rows.laid_redress_token_keywords : DataW Unit) = .agg (keywords.map fun n => .lit (.string n)) := by rfl
theorem kw_of_one {W : World} (h : laidMetH Tryz.prog [("redress/token.keywords", Rows.laid_redress_token_keywords)] W) : KwIn W := by
  rw [MakeChecks.laidMetH_plain _ _ _ (by kernel_rfl)] at h
  obtain ⟨ps, ⟨g, t, cs, fuel, p, q, hg, ht, hv, hd, _, _⟩, _, _⟩ := h
  obtain rfl := Option.some.inj ((show Tryz.prog.globalNamed "redress/token.keywords" = some 0 by kernel_rfl).symm.trans hg)
  obtain rfl := Option.some.inj ((show (Tryz.prog.globals[0]?).map (·.type) = some 219 by kernel_rfl).symm.trans ht)
  rw [kw_datum] at hd
  obtain ⟨xs, m, _, ex, _, hl, hel⟩ := DataW.trod_array Tryz.underlying219 hd
  have c5 : Tryz.prog.cellsOf 9 = 1 := by kernel_rfl
  have hlen : keywords.length = 17 := by rfl
  have e3 : (xs.map (·.1)) = keywords.map fun n => .lit (.string n) := (DataW.agg.inj (Prod.mk.inj ex).1).symm
  have hcell : ∀ j u, keywords[j]? = some u → W.cell? ⟨0, j, none⟩ = some (.string (bT u)) := by
    intro r u hu
    have hr : r < 17 := by have := (List.getElem?_eq_some_iff.1 hu).1; omega
    have hE := hel r hr
    rw [c5, Nat.mul_one, List.getElem?_eq_getElem (by omega)] at hE
    obtain ⟨s, e1, e2, _⟩ := DataW.trod_string Tryz.underlying9 hE
    have e4 : (xs.map (·.1))[r]? = (keywords.map fun n => (DataW.lit (.string n) : DataW Unit))[r]? := by rw [e3]
    rw [List.getElem?_map, List.getElem?_map, List.getElem?_eq_getElem (by omega : r < xs.length), hu, e2] at e4
    have hz : s = bT u := by
      simp only [Option.map_some, Option.some.injEq, DataW.lit.injEq, Lit.string.injEq] at e4
      have h5 : s.data.toList = u := e4
      rw [← h5]
      rfl
    rw [World.var?_cell hg hv r, ← hz]
    have : cs.toList[r]? = some (.string s) := by
      have h0 : ((cs.toList.drop r).take 1)[0]? = some (.string s) := by rw [e1]; rfl
      simpa using h0
    simpa using this
  exact ⟨World.block_lt_of_cell? W ⟨0, 0, none⟩ (hcell 0 _ rfl), hcell⟩
theorem kw_of_laid {W : World} (h : laidMetH Tryz.prog [("math/bits.deBruijn32tab", Rows.laid_math_bits_deBruijn32tab), ("math/bits.deBruijn64tab", Rows.laid_math_bits_deBruijn64tab), ("internal/strconv.uint64pow10", Rows.laid_internal_strconv_uint64pow10), ("redress/token.keywords", Rows.laid_redress_token_keywords)] W) : KwIn W :=
  kw_of_one (h.filter (fun x => x.1 == "redress/token.keywords"))
end
end Go.Proofs.YtgoejmheihgpfaaGreatDoor
