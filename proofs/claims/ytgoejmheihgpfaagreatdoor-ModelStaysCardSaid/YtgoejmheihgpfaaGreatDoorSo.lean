/- Lemmas for ModelStays' proof. -/
import Derived.Test.YtgoejmheihgpfaaGreatDoorSl
import Derived.Test.YtgoejmheihgpfaaGreatDoorRows
import Derived.LaidSub
import Derived.LaidMore
import Derived.LaidOnce
import Derived.ProofKit
import Derived.OpenShut
import Derived.SevenTiedAt
namespace Go.Proofs.YtgoejmheihgpfaaGreatDoor
set_option maxRecDepth 100000
set_option maxHeartbeats 16000000
open Go.RowKit
def smallB (s : Sch) : Bool := decide (s.name.length ≤ 200) && decide (s.records.length ≤ 100) && decide (s.services.length ≤ 100) && decide (s.sagas.length ≤ 100) &&
 s.records.all (fun r => decide (r.name.length ≤ 200) && decide (r.fields.length ≤ 40) && r.fields.all (fun f => decide (f.name.length ≤ 200) && decide (f.type.length ≤ 40) && f.type.all (fun t => decide (t.name.length ≤ 200)))) &&
 s.services.all (fun v => decide (v.name.length ≤ 200) && decide (v.methods.length ≤ 40) && v.methods.all (fun m => decide (m.name.length ≤ 200) && decide (m.arg.length ≤ 200) && decide (m.effect.length ≤ 200) && decide (m.undo.length ≤ 200))) &&
 s.sagas.all (fun g => decide (g.name.length ≤ 200) && decide (g.arg.length ≤ 200) && decide (g.steps.length ≤ 40) && g.steps.all (fun x => decide (x.service.length ≤ 200) && decide (x.method.length ≤ 200)))
theorem small_of {s : Sch} (h : smallB s = true) : Small s := by
 unfold smallB at h
 simp only [Bool.and_eq_true, decide_eq_true_eq, List.all_eq_true] at h
 obtain ⟨⟨⟨⟨⟨⟨h1, h2⟩, h3⟩, h4⟩, h5⟩, h6⟩, h7⟩ := h
 exact ⟨h1, h2, h3, h4, fun r hr => ⟨(h5 r hr).1.1, (h5 r hr).1.2, fun f hf => ⟨((h5 r hr).2 f hf).1.1, ((h5 r hr).2 f hf).1.2, ((h5 r hr).2 f hf).2⟩⟩, fun v hv => ⟨(h6 v hv).1.1, (h6 v hv).1.2, fun m hm => ⟨((h6 v hv).2 m hm).1.1.1, ((h6 v hv).2 m hm).1.1.2, ((h6 v hv).2 m hm).1.2, ((h6 v hv).2 m hm).2⟩⟩, fun g hg => ⟨(h7 g hg).1.1.1, (h7 g hg).1.1.2, (h7 g hg).1.2, fun x hx => ⟨((h7 g hg).2 x hx).1, ((h7 g hg).2 x hx).2⟩⟩⟩
theorem shop_small : smallB shop = true := by kernel_rfl
theorem shop_textA : (textA' shop).2 = 0 := by kernel_rfl
theorem shop_serve : serveA shop 0 [] [e0] [] [] 0 0 = true := by kernel_rfl
theorem shop_bal : balA shop [e0] [] = some [([120], 5)] := by kernel_rfl
theorem shop_right : rightR shop run0 = true := by kernel_rfl
theorem wakes_any (w : World) (hK : KwIn w) : Calls Tryz.prog 8 #[] w fun x w' => x = .returned (.bool true) ∧ Below w.heap.size w w' :=
 wakes_gen w hK shop (fun W => shop_any W) (small_of shop_small) shop_textA shop_serve shop_bal shop_right
section
open Go.ChangeShapes Go.WideShapes Go.ChangeAt Go.RowKit
theorem kw_datum : (Rows.laid_redress_token_keywords : DataW Unit) = .agg (keywords.map fun n => .lit (.string n)) := by rfl
theorem kw_of_one {W : World} (h : laidMetH Tryz.prog [("redress/token.keywords", Rows.laid_redress_token_keywords)] W) : KwIn W := by
 rw [MakeChecks.laidMetH_plain _ _ _ (by kernel_rfl)] at h
 obtain ⟨ps, ⟨g, t, cs, fuel, p, q, hg, ht, hv, hd, _, _⟩, _, _⟩ := h
 obtain rfl := Option.some.inj ((show Tryz.prog.globalNamed "redress/token.keywords" = some 0 by kernel_rfl).symm.trans hg)
 obtain rfl := Option.some.inj ((show (Tryz.prog.globals[0]?).map (·.type) = some 219 by kernel_rfl).symm.trans ht)
 rw [kw_datum] at hd
 obtain ⟨xs, m, _, ex, _, hl, hel⟩ := DataW.trod_array Tryz.underlying219 hd
 have c5 : Tryz.prog.cellsOf 9 = 1 := by kernel_rfl
 have hlen : keywords.length = 17 := by rfl
 have e3 : (xs.map (·.1)) = keywords.map fun n => .lit (.string n) := (DataW.agg.inj (Prod.mk.inj ex).1).symm
 have hcell : ∀ j u, keywords[j]? = some u → W.cell? ⟨0, j, none⟩ = some (.string (bT u)) := by
  intro r u hu; have hr : r < 17 := by have := (List.getElem?_eq_some_iff.1 hu).1; omega
  have hE := hel r hr; rw [c5, Nat.mul_one, List.getElem?_eq_getElem (by omega)] at hE; obtain ⟨s, e1, e2, _⟩ := DataW.trod_string Tryz.underlying9 hE; have e4 : (xs.map (·.1))[r]? = (keywords.map fun n => (DataW.lit (.string n) : DataW Unit))[r]? := by rw [e3]
  rw [List.getElem?_map, List.getElem?_map, List.getElem?_eq_getElem (by omega : r < xs.length), hu, e2] at e4
  have hz : s = bT u := by
   simp only [Option.map_some, Option.some.injEq, DataW.lit.injEq, Lit.string.injEq] at e4; have h5 : s.data.toList = u := e4; rw [← h5]; rfl
  rw [World.var?_cell hg hv r, ← hz]
  have : cs.toList[r]? = some (.string s) := by
   have h0 : ((cs.toList.drop r).take 1)[0]? = some (.string s) := by rw [e1]; rfl
   simpa using h0
  simpa using this
 exact ⟨World.block_lt_of_cell? W ⟨0, 0, none⟩ (hcell 0 _ rfl), hcell⟩
theorem kw_of_laid {W : World} (h : laidMetH Tryz.prog [("math/bits.deBruijn32tab", Rows.laid_math_bits_deBruijn32tab), ("math/bits.deBruijn64tab", Rows.laid_math_bits_deBruijn64tab), ("internal/strconv.uint64pow10", Rows.laid_internal_strconv_uint64pow10), ("redress/token.keywords", Rows.laid_redress_token_keywords)] W) : KwIn W :=
 kw_of_one (h.filter (fun x => x.1 == "redress/token.keywords"))
end
end Go.Proofs.YtgoejmheihgpfaaGreatDoor
