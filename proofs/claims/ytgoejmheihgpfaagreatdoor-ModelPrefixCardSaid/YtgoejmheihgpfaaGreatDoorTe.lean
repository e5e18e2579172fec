/-
  Arguments that are runs: opened.
-/
import Derived.Test.YtgoejmheihgpfaaGreatDoorTd
import Derived.Test.YtgoejmheihgpfaaGreatDoorSf
import Derived.Test.YtgoejmheihgpfaaGreatDoorSo
namespace Go.Proofs.YtgoejmheihgpfaaGreatDoor
section
open Go.ChangeShapes Go.WideShapes Go.ChangeAt Go.RowKit Go.Deep

theorem row9_of {q : List Value} (h : q.length = 9) : ∃ v0 v1 v2 v3 v4 v5 v6 v7 v8, q = [v0, v1, v2, v3, v4, v5, v6, v7, v8] := by
  match q, h with
  | [v0, v1, v2, v3, v4, v5, v6, v7, v8], _ => exact ⟨v0, v1, v2, v3, v4, v5, v6, v7, v8, rfl⟩
theorem run_flds {fs : Array Field} (h : Tryz.prog.underlying 53 = some (.struct fs)) : oneCellFields Tryz.prog fs = true ∧ fs.size = 9 ∧ (fs.map (·.type)).toList = [9, 9, 9, 3, 5, 3, 4, 3, 9] := by
  rw [Tryz.underlying53] at h
  cases h
  exact ⟨by kernel_rfl, rfl, by simp⟩
theorem run_cells : Tryz.prog.cellsOf 53 = 9 := by kernel_rfl
set_option maxRecDepth 100000 in
/-- an argument of type Run -/
theorem run_open {H : Type} {enc : TypeId × Value → H} {w : World} {r : Reach} {b0 : Nat} {v : Value} {d : DataW H} {ps : List MemPlace}
    (hval : Value.okWide Tryz.prog w r b0 53 v) (h : DataW.Trod enc Tryz.prog w 0 (fun _ => true) true 53 v d ps) : ∃ x : Run, v = .agg (runC x) := by
  obtain ⟨fs, hfs⟩ : ∃ fs, Tryz.prog.underlying 53 = some (.struct fs) := ⟨_, Tryz.underlying53⟩
  obtain ⟨hone, hsz, hty⟩ := run_flds hfs
  obtain ⟨cs, rfl, hcs⟩ := okWide_struct hfs hval
  obtain ⟨fuel, hf⟩ := h
  obtain ⟨xs, n', _, _, hl0, hlen, hg⟩ := DataW.trod_struct hfs hf
  rw [run_cells] at hl0
  have hR := row_of hfs hone (by rw [hsz]; exact run_cells) (hl0.trans hsz.symm) hf
  obtain ⟨v0, v1, v2, v3, v4, v5, v6, v7, v8, he⟩ := row9_of hl0
  rw [he] at hR
  obtain ⟨n0, y0, t0⟩ := hR.at hty 0 _ _ rfl rfl
  obtain ⟨n1, y1, t1⟩ := hR.at hty 1 _ _ rfl rfl
  obtain ⟨n2, y2, t2⟩ := hR.at hty 2 _ _ rfl rfl
  obtain ⟨n3, y3, t3⟩ := hR.at hty 3 _ _ rfl rfl
  obtain ⟨n4, y4, t4⟩ := hR.at hty 4 _ _ rfl rfl
  obtain ⟨n5, y5, t5⟩ := hR.at hty 5 _ _ rfl rfl
  obtain ⟨n6, y6, t6⟩ := hR.at hty 6 _ _ rfl rfl
  obtain ⟨n7, y7, t7⟩ := hR.at hty 7 _ _ rfl rfl
  obtain ⟨n8, y8, t8⟩ := hR.at hty 8 _ _ rfl rfl
  obtain ⟨s0, rfl, m0⟩ := string_one Tryz.underlying9 t0
  obtain ⟨s1, rfl, m1⟩ := string_one Tryz.underlying9 t1
  obtain ⟨s2, rfl, m2⟩ := string_one Tryz.underlying9 t2
  obtain ⟨z3, rfl, w3⟩ := int_one Tryz.underlying3 t3
  obtain ⟨z4, rfl, w4⟩ := int_one Tryz.underlying5 t4
  obtain ⟨z5, rfl, w5⟩ := int_one Tryz.underlying3 t5
  obtain ⟨b6, rfl⟩ := bool_one Tryz.underlying4 t6
  obtain ⟨z7, rfl, w7⟩ := int_one Tryz.underlying3 t7
  obtain ⟨s8, rfl, m8⟩ := string_one Tryz.underlying9 t8
  refine ⟨⟨s0, s1, s2, z3, z4.toNat, z5, b6, z7, s8⟩, ?_⟩
  have h6 : cs.toList = [.string (bT s0), .string (bT s1), .string (bT s2), .int .i64 z3, .int .u8 z4, .int .i64 z5, .bool b6, .int .i64 z7, .string (bT s8)] := he
  unfold runC
  rw [u8_nat w4]
  rw [show cs = #[.string (bT s0), .string (bT s1), .string (bT s2), .int .i64 z3, .int .u8 z4, .int .i64 z5, .bool b6, .int .i64 z7, .string (bT s8)] from by rw [← h6]]
end
end Go.Proofs.YtgoejmheihgpfaaGreatDoor
