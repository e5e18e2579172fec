/-
  'redress/redresslaw02.DiskCounts' returns true for every input; no condition.
-/
import Derived.Test.YtmhflhbogkkblaaW
import Derived.Test.YtmhflhbogkkblaaFr
namespace Go.Proofs.Ytmhflhbogkkblaa
open Go.ChangeShapes Go.WideShapes Go.ChangeAt Go.RowKit

theorem diskCounts_cells_uint16 : Try.prog.cellsOf 36 = 1 := by kernel_rfl
theorem nums_open {w : World} {la : Option Addr} {ln : Nat} {zs : List Int} (hw : ∀ n ∈ zs, (Lit.int .u16 n).wf = true) (hz : zs.length = ln)
    (hc : 0 < ln → ∃ b o, la = some ⟨b, o, none⟩ ∧ ∀ i, i < ln → w.cell? ⟨b, o + i, none⟩ = some (.int .u16 (zs.getD i 0))) :
    0 < ln → ∃ lb lo, la = some ⟨lb, lo, none⟩ ∧ ∀ i, i < ln → w.cell? ⟨lb, lo + i, none⟩ = some (.int .u16 ((zs.map Int.toNat).getD i 0 : Nat)) := fun h0 => by
  obtain ⟨b, o, rfl, h⟩ := hc h0
  refine ⟨b, o, rfl, fun i hi => ?_⟩
  rw [h i hi]
  have hi2 : i < zs.length := by omega
  have := bounds_u16 (hw _ (List.getElem_mem hi2))
  have e : zs.getD i 0 = (((zs.map Int.toNat).getD i 0 : Nat) : Int) := by
    simp only [List.getD_eq_getElem?_getD, List.getElem?_map, List.getElem?_eq_getElem hi2, Option.map_some, Option.getD_some]
    omega
  rw [e]
theorem diskCounts_params : ∀ t ∈ Try.f4.params.toList, Try.prog.readableRec t = true ∧ t < Try.prog.types.size := by
  have hall : (Try.f4.params.toList.all fun t => Try.prog.readableRec t && decide (t < Try.prog.types.size)) = true := by kernel_rfl
  intro t ht
  simpa using List.all_eq_true.1 hall t ht

set_option maxRecDepth 100000 in
theorem diskCounts_lifted (os : Os) (started : os.Started) (H : Type) (enc : TypeId × Value → H) :
    ReturnsInHanded {} Try.checked os 4 .any (Rows.diskCountsSpec.pre6 enc Try.prog Try.f4 Rows.diskCountsRow.domain false) (Rows.diskCountsSpec.post enc Try.prog Try.f4 false true false false) := by
  refine returnsInHanded_of_change (C := Try.checked) own started (by kernel_rfl) Try.func4
    (ChangeSpec.witness6 (enc := enc) (C := Try.checked) false ⟨#[], #[.slice none 0 0, .int .i64 0], []⟩ 8 (by kernel_rfl) (by kernel_rfl) (by kernel_rfl) (by kernel_rfl)) ?_
  intro W base args ds gs before hval0 hW _ _
  have hval : ∀ (j : Nat) t v, Try.f4.params[j]? = some t → args[j]? = some v → Value.okWide Try.prog W .any base t v := hval0
  have hW' := hW
  obtain ⟨p, q, hA0, hV, rfl, hfz, hnd⟩ := hW
  have hA : DataW.TrodAll enc Try.prog W 0 (fun _ => true) true Try.f4.params.toList args.toList ds p := hA0
  have hA1 := hA
  rw [Try.params4] at hA1 hval
  obtain ⟨v0, vs0, d0, ds0, p0, q0, hargs, rfl, rfl, h0, r0⟩ := trodAll_cons hA1
  obtain ⟨v1, vs1, d1, ds1, p1, q1, rfl, rfl, rfl, h1, r1⟩ := trodAll_cons r0
  obtain ⟨rfl, rfl, rfl⟩ := trodAll_nil r1
  obtain rfl : args = #[v0, v1] := by cases args; simp_all
  obtain ⟨rfl, rfl⟩ := trodVars_none hV
  simp only [List.append_nil] at hW' hA
  obtain ⟨la0, ln0, lc0, zs0, rfl, hl0, hz0, hw0, hc0⟩ := ints_open Try.underlying33 Try.underlying36 diskCounts_cells_uint16 (hval 0 33 v0 rfl rfl) h0
  obtain ⟨a1, rfl, rfl, rfl, wa1⟩ := open_int Try.underlying3 (hval 1 3 v1 rfl rfl) h1
  clear hA0 hval0
  refine (counts_walk W la0 ln0 lc0 a1 (bounds_i64 wa1) hl0 (zs0.map Int.toNat) (by simpa using hz0) (fun x hx => by obtain ⟨n, hn, rfl⟩ := List.mem_map.1 hx; have := bounds_u16 (hw0 n hn); omega) (nums_open hw0 hz0 hc0)).mono fun e W' ⟨he, hb⟩ => ?_
  subst he
  exact ⟨_, rfl, law_end (tb := 4) (by kernel_rfl) diskCounts_params (by kernel_rfl) Try.underlying4 rfl hW' hA rfl hb⟩

/-- THE STATEMENT. -/
theorem diskCounts_holds : Rows.DiskCountsSaid :=
  OpenClaim.holds_of_wide 4 Try.f4 rfl rfl rfl rfl rfl rfl rfl ⟨rfl, rfl, rfl, rfl, rfl⟩ rfl rfl rfl rfl rfl (by kernel_rfl) Try.func4 (by kernel_rfl)
    (of_decide_eq_true (by kernel_rfl)) (by unfold Func.isWrapper; first | (rw [if_pos (by decide +kernel)]; kernel_rfl) | (rw [if_neg (by decide +kernel)]; exact ⟨rfl, rfl⟩))
    (fun os started H enc _ => diskCounts_lifted os started H enc)
end Go.Proofs.Ytmhflhbogkkblaa
