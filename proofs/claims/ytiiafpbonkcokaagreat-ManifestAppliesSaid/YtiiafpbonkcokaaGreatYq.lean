/-
  'redress/redresslaw08.ManifestApplies' returns true for every input; no condition.
-/
import Derived.Test.YtiiafpbonkcokaaGreatKa
import Derived.Test.YtiiafpbonkcokaaGreatFr
namespace Go.Proofs.YtiiafpbonkcokaaGreat
open Go.ChangeShapes Go.WideShapes Go.ChangeAt Go.RowKit Go.Deep

theorem state_flds {fs : Array Field} (h : Tryz.prog.underlying 24 = some (.struct fs)) : oneCellFields Tryz.prog fs = true ∧ fs.size = 3 ∧ (fs.map (·.type)).toList = [3, 3, 22] := by
  rw [Tryz.underlying24] at h
  cases h
  exact ⟨by kernel_rfl, rfl, by simp⟩
theorem state_cells : Tryz.prog.cellsOf 24 = 3 := by kernel_rfl
theorem three_of {q : List Value} (h : q.length = 3) : ∃ v0 v1 v2, q = [v0, v1, v2] := by
  match q, h with
  | [v0, v1, v2], _ => exact ⟨v0, v1, v2, rfl⟩
set_option maxRecDepth 100000 in
/-- an argument of type State -/
theorem state_open {H : Type} {enc : TypeId × Value → H} {w : World} {r : Reach} {b0 : Nat} {v : Value} {d : DataW H} {ps : List MemPlace}
    (hval : Value.okWide Tryz.prog w r b0 24 v) (h : DataW.Trod enc Tryz.prog w 0 (fun _ => true) true 24 v d ps) : ∃ (vs : Value) (s : St), v = stv s.next s.log vs ∧ FRow (· < w.heap.size) w vs s.fs := by
  obtain ⟨fs, hfs⟩ : ∃ fs, Tryz.prog.underlying 24 = some (.struct fs) := ⟨_, Tryz.underlying24⟩
  obtain ⟨hone, hsz, hty⟩ := state_flds hfs
  obtain ⟨cs, rfl, hcs⟩ := okWide_struct hfs hval
  obtain ⟨fuel, hf⟩ := h
  obtain ⟨xs, n', _, _, hl0, hlen, hg⟩ := DataW.trod_struct hfs hf
  rw [state_cells] at hl0
  have hR : ∀ (j : Nat) (f : Field) (x : Value), fs[j]? = some f → (Value.agg cs).cells.toList[j]? = some x → ∃ n y, DataW.trod enc Tryz.prog w 0 (fun _ => true) true n f.type [x] = some y := fun j f x hj hx => by
    have h4 := hg j f hj
    obtain ⟨ho, hk⟩ := hone_of hone j f hj
    rw [ho, hk] at h4
    have hj2 : j < fs.size := (Array.getElem?_eq_some_iff.1 hj).1
    have h5 : ((Value.agg cs).cells.toList.drop j).take 1 = [x] := by
      obtain ⟨hl1, hl2⟩ := List.getElem?_eq_some_iff.1 hx
      rw [List.drop_eq_getElem_cons hl1, hl2]
      rfl
    rw [h5, List.getElem?_eq_getElem (by omega)] at h4
    exact ⟨n', _, h4⟩
  obtain ⟨v0, v1, v2, he⟩ := three_of hl0
  rw [he] at hR
  obtain ⟨f0, hf0, e0⟩ := fld hty 0 _ rfl
  obtain ⟨f1, hf1, e1⟩ := fld hty 1 _ rfl
  obtain ⟨f2, hf2, e2⟩ := fld hty 2 _ rfl
  obtain ⟨n0, y0, t0⟩ := hR 0 f0 v0 hf0 rfl
  obtain ⟨n1, y1, t1⟩ := hR 1 f1 v1 hf1 rfl
  obtain ⟨n2, y2, t2⟩ := hR 2 f2 v2 hf2 rfl
  rw [e0] at t0
  rw [e1] at t1
  rw [e2] at t2
  obtain ⟨z0, rfl, _⟩ := int_one Tryz.underlying3 t0
  obtain ⟨z1, rfl, _⟩ := int_one Tryz.underlying3 t1
  obtain ⟨a, len, cap, rfl⟩ := slice_one Tryz.underlying22 t2
  obtain ⟨A, hA⟩ := frow_of ⟨_, _, _, rfl⟩ (d := y2.1) (ps := y2.2) ⟨n2, t2⟩ (cap_of t2)
  refine ⟨_, ⟨z0, z1, A⟩, ?_, hA⟩
  have h6 : cs.toList = [.int .i64 z0, .int .i64 z1, .slice a len cap] := he
  rw [show cs = #[.int .i64 z0, .int .i64 z1, .slice a len cap] from by rw [← h6]]
  rfl

theorem manifestApplies_params : ∀ t ∈ Tryz.f4.params.toList, Tryz.prog.readableRec t = true ∧ t < Tryz.prog.types.size := by
  have hall : (Tryz.f4.params.toList.all fun t => Tryz.prog.readableRec t && decide (t < Tryz.prog.types.size)) = true := by kernel_rfl
  intro t ht
  simpa using List.all_eq_true.1 hall t ht

set_option maxRecDepth 100000 in
theorem manifestApplies_lifted (os : Os) (started : os.Started) (H : Type) (enc : TypeId × Value → H) :
    ReturnsInHanded {} Tryz.checked os 4 .any (Rows.manifestAppliesSpec.pre6 enc Tryz.prog Tryz.f4 Rows.manifestAppliesRow.domain false) (Rows.manifestAppliesSpec.post enc Tryz.prog Tryz.f4 false true false false) := by
  refine returnsInHanded_of_change (C := Tryz.checked) own started (by kernel_rfl) Tryz.func4
    (ChangeSpec.witness6 (enc := enc) (C := Tryz.checked) false ⟨#[], #[.agg #[.int .i64 0, .int .i64 0, .slice none 0 0], .agg #[.slice none 0 0, .slice none 0 0, .int .i64 0, .int .i64 0]], []⟩ 8 (by kernel_rfl) (by kernel_rfl) (by kernel_rfl) (by kernel_rfl)) ?_
  intro W base args ds gs before hval0 hW _ _
  have hval : ∀ (j : Nat) t v, Tryz.f4.params[j]? = some t → args[j]? = some v → Value.okWide Tryz.prog W .any base t v := hval0
  have hW' := hW
  obtain ⟨p, q, hA0, hV, rfl, hfz, hnd⟩ := hW
  have hA : DataW.TrodAll enc Tryz.prog W 0 (fun _ => true) true Tryz.f4.params.toList args.toList ds p := hA0
  have hA1 := hA
  rw [Tryz.params4] at hA1 hval
  obtain ⟨v0, vs0, d0, ds0, p0, q0, hargs, rfl, rfl, h0, r0⟩ := trodAll_cons hA1
  obtain ⟨v1, vs1, d1, ds1, p1, q1, rfl, rfl, rfl, h1, r1⟩ := trodAll_cons r0
  obtain ⟨rfl, rfl, rfl⟩ := trodAll_nil r1
  obtain rfl : args = #[v0, v1] := by cases args; simp_all
  obtain ⟨rfl, rfl⟩ := trodVars_none hV
  simp only [List.append_nil] at hW' hA
  obtain ⟨sv0, st0, rfl, hs0⟩ := state_open (hval 0 24 v0 rfl rfl) h0
  obtain ⟨vd1, va1, ed1, rfl, he1⟩ := edit_open (hval 1 33 v1 rfl rfl) h1
  clear hA0 hval0
  refine (applies_walk W st0 sv0 hs0 vd1 va1 ed1 he1).mono fun e W' ⟨he, hb⟩ => ?_
  subst he
  exact ⟨_, rfl, law_end (tb := 4) (by kernel_rfl) manifestApplies_params (by kernel_rfl) Tryz.underlying4 rfl hW' hA rfl hb⟩

/-- THE STATEMENT. -/
theorem manifestApplies_holds : Rows.ManifestAppliesSaid :=
  OpenClaim.holds_of_wide 4 Tryz.f4 rfl rfl rfl rfl rfl rfl rfl ⟨rfl, rfl, rfl, rfl, rfl⟩ rfl rfl rfl rfl rfl (by kernel_rfl) Tryz.func4 (by kernel_rfl)
    (of_decide_eq_true (by kernel_rfl)) (by unfold Func.isWrapper; first | (rw [if_pos (by decide +kernel)]; kernel_rfl) | (rw [if_neg (by decide +kernel)]; exact ⟨rfl, rfl⟩))
    (fun os started H enc _ => manifestApplies_lifted os started H enc)
end Go.Proofs.YtiiafpbonkcokaaGreat
