/-
  'redress/redresslaw02.DiskRenames' returns true for every input; no condition.
-/
import Derived.Test.YtmhflhbogkkblaaRn
import Derived.Test.YtmhflhbogkkblaaFr
namespace Go.Proofs.Ytmhflhbogkkblaa
open Go.ChangeShapes Go.WideShapes Go.ChangeAt Go.RowKit

theorem diskRenames_cells_uint16 : Try.prog.cellsOf 36 = 1 := by kernel_rfl
theorem diskRenames_params : ∀ t ∈ Try.f6.params.toList, Try.prog.readableRec t = true ∧ t < Try.prog.types.size := by
  have hall : (Try.f6.params.toList.all fun t => Try.prog.readableRec t && decide (t < Try.prog.types.size)) = true := by kernel_rfl
  intro t ht
  simpa using List.all_eq_true.1 hall t ht

set_option maxRecDepth 100000 in
theorem diskRenames_lifted (os : Os) (started : os.Started) (H : Type) (enc : TypeId × Value → H) :
    ReturnsInHanded {} Try.checked os 6 .any (Rows.diskRenamesSpec.pre6 enc Try.prog Try.f6 Rows.diskRenamesRow.domain false) (Rows.diskRenamesSpec.post enc Try.prog Try.f6 false true false false) := by
  refine returnsInHanded_of_change (C := Try.checked) own started (by kernel_rfl) Try.func6
    (ChangeSpec.witness6 (enc := enc) (C := Try.checked) false ⟨#[], #[.slice none 0 0, .int .u8 0, .int .u8 0], []⟩ 8 (by kernel_rfl) (by kernel_rfl) (by kernel_rfl) (by kernel_rfl)) ?_
  intro W base args ds gs before hval0 hW _ _
  have hval : ∀ (j : Nat) t v, Try.f6.params[j]? = some t → args[j]? = some v → Value.okWide Try.prog W .any base t v := hval0
  have hW' := hW
  obtain ⟨p, q, hA0, hV, rfl, hfz, hnd⟩ := hW
  have hA : DataW.TrodAll enc Try.prog W 0 (fun _ => true) true Try.f6.params.toList args.toList ds p := hA0
  have hA1 := hA
  rw [Try.params6] at hA1 hval
  obtain ⟨v0, vs0, d0, ds0, p0, q0, hargs, rfl, rfl, h0, r0⟩ := trodAll_cons hA1
  obtain ⟨v1, vs1, d1, ds1, p1, q1, rfl, rfl, rfl, h1, r1⟩ := trodAll_cons r0
  obtain ⟨v2, vs2, d2, ds2, p2, q2, rfl, rfl, rfl, h2, r2⟩ := trodAll_cons r1
  obtain ⟨rfl, rfl, rfl⟩ := trodAll_nil r2
  obtain rfl : args = #[v0, v1, v2] := by cases args; simp_all
  obtain ⟨rfl, rfl⟩ := trodVars_none hV
  simp only [List.append_nil] at hW' hA
  obtain ⟨la0, ln0, lc0, zs0, rfl, hl0, hz0, hw0, hc0⟩ := ints_open Try.underlying33 Try.underlying36 diskRenames_cells_uint16 (hval 0 33 v0 rfl rfl) h0
  obtain ⟨a1, rfl, rfl, rfl, wa1⟩ := open_int Try.underlying5 (hval 1 5 v1 rfl rfl) h1
  obtain ⟨a2, rfl, rfl, rfl, wa2⟩ := open_int Try.underlying5 (hval 2 5 v2 rfl rfl) h2
  clear hA0 hval0
  have e1 : a1 = (a1.toNat : Int) := by have := bounds_u8 wa1; omega
  have e2 : a2 = (a2.toNat : Int) := by have := bounds_u8 wa2; omega
  have hwk := renames_walk W la0 ln0 lc0 a1.toNat a2.toNat (by have := bounds_u8 wa1; omega) (by have := bounds_u8 wa2; omega) hl0 (zs0.map Int.toNat) (by simpa using hz0) (fun x hx => by obtain ⟨n, hn, rfl⟩ := List.mem_map.1 hx; have := bounds_u16 (hw0 n hn); omega) (nums_open hw0 hz0 hc0)
  rw [← e1, ← e2] at hwk
  refine hwk.mono fun e W' ⟨he, hb⟩ => ?_
  subst he
  exact ⟨_, rfl, law_end (tb := 4) (by kernel_rfl) diskRenames_params (by kernel_rfl) Try.underlying4 rfl hW' hA rfl hb⟩

/-- THE STATEMENT. -/
theorem diskRenames_holds : Rows.DiskRenamesSaid :=
  OpenClaim.holds_of_wide 6 Try.f6 rfl rfl rfl rfl rfl rfl rfl ⟨rfl, rfl, rfl, rfl, rfl⟩ rfl rfl rfl rfl rfl (by kernel_rfl) Try.func6 (by kernel_rfl)
    (of_decide_eq_true (by kernel_rfl)) (by unfold Func.isWrapper; first | (rw [if_pos (by decide +kernel)]; kernel_rfl) | (rw [if_neg (by decide +kernel)]; exact ⟨rfl, rfl⟩))
    (fun os started H enc _ => diskRenames_lifted os started H enc)
end Go.Proofs.Ytmhflhbogkkblaa
