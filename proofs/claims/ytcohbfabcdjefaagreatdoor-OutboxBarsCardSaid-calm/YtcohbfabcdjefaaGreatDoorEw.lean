/-
  package outbox: seqText, itemKey, put, value, is.
-/
import Derived.Test.YtcohbfabcdjefaaGreatDoorEv
import Derived.Deep.RegionHeld3
namespace Go.Proofs.YtcohbfabcdjefaaGreatDoor
open Go.RowKit Go.Maps

theorem rep18 : Lib.repeatL [48] 18 = [48, 48, 48, 48, 48, 48, 48, 48, 48, 48, 48, 48, 48, 48, 48, 48, 48, 48] := by decide
theorem rep19 : Lib.repeatL [48] 19 = [48, 48, 48, 48, 48, 48, 48, 48, 48, 48, 48, 48, 48, 48, 48, 48, 48, 48, 48] := by decide
set_option maxRecDepth 100000 in
theorem seq_any (n : Nat) (h : n < 100) (w : World) : Calls Tryz.prog 33 #[.int .u64 n] w fun e w' => e = .returned (.string (bA (num20 n))) ∧ Below w.heap.size w w' := by
  have HF := Lib.hid (fmt_dec n h w)
  have hsz := dec_size n h
  obtain ⟨c, hc, z, hz, hzs⟩ : ∃ c : Nat, (20 : Int) - ((dec n).size : Int) = (c : Nat) ∧ ∃ z : ByteArray, (∀ W, Calls Tryz.prog 62 #[.string ⟨#[48]⟩, .int .i64 c] W fun e w' => e = .returned (.string z) ∧ Below W.heap.size W w') ∧ (z.size + (dec n).size = 20 ∧ z ++ dec n = bA (num20 n)) := by
    by_cases h10 : n < 10
    · rw [if_pos h10] at hsz
      refine ⟨19, by omega, bA [48, 48, 48, 48, 48, 48, 48, 48, 48, 48, 48, 48, 48, 48, 48, 48, 48, 48, 48], fun W => ?_, by rw [hsz]; rfl, ?_⟩
      · have := Tryz.strings_Repeat_main ⟨#[48]⟩ 19 W (by decide) (by decide) (by decide) (by decide)
        rwa [show (⟨(Lib.repeatL (⟨#[48]⟩ : ByteArray).data.toList 19).toArray⟩ : ByteArray) = bA [48, 48, 48, 48, 48, 48, 48, 48, 48, 48, 48, 48, 48, 48, 48, 48, 48, 48, 48] by show (⟨(Lib.repeatL [48] 19).toArray⟩ : ByteArray) = _; rw [rep19]; rfl] at this
      · have e : ∀ k, k < 10 → [48, 48, 48, 48, 48, 48, 48, 48, 48, 48, 48, 48, 48, 48, 48, 48, 48, 48, 48] ++ [UInt8.ofNat (48 + k)] = num20 k := by decide
        refine ba_ext ?_
        rw [app_list]
        unfold dec
        rw [dec_small n h, if_pos h10]
        exact e n h10
    · rw [if_neg h10] at hsz
      refine ⟨18, by omega, bA [48, 48, 48, 48, 48, 48, 48, 48, 48, 48, 48, 48, 48, 48, 48, 48, 48, 48], fun W => ?_, by rw [hsz]; rfl, ?_⟩
      · have := Tryz.strings_Repeat_main ⟨#[48]⟩ 18 W (by decide) (by decide) (by decide) (by decide)
        rwa [show (⟨(Lib.repeatL (⟨#[48]⟩ : ByteArray).data.toList 18).toArray⟩ : ByteArray) = bA [48, 48, 48, 48, 48, 48, 48, 48, 48, 48, 48, 48, 48, 48, 48, 48, 48, 48] by show (⟨(Lib.repeatL [48] 18).toArray⟩ : ByteArray) = _; rw [rep18]; rfl] at this
      · refine ba_ext ?_
        rw [app_list]
        unfold dec
        rw [dec_small n h, if_neg h10]
        rfl
  have HZ := Lib.hid hz
  have HE := Lib.hid hzs.2
  have g1 : ¬ 9223372036854775807 < z.size + (dec n).size := by omega
  have g2 : wrap64 ((20 : Int) - ((dec n).size : Int)) = (c : Int) := by rw [hc]; exact IntWalk.wrap64_in _ (by omega)
  generalize dec n = s at *
  clear hz hzs hsz
  go_enter Tryz.func33, Tryz.ntmps33
  go_wp2_with fail
  refine HF.out.mono ?_
  rintro e w1 ⟨rfl, rfl⟩
  go_wp2_with fail
  refine (HZ.out _).mono ?_
  rintro e w2 ⟨rfl, hb⟩
  have HB := Lib.hid hb
  clear hb
  go_wp2_with fail
  go_ret
  exact ⟨by rw [HE.out]; rfl, HB.out⟩
set_option maxRecDepth 100000 in
theorem ikey_any (q n : Nat) (hq : q < 8) (hn : n < 100) (w : World) : Calls Tryz.prog 28 #[.int .i64 q, .int .u64 n] w fun e w' => e = .returned (.string (kI q n)) ∧ Below w.heap.size w w' := by
  have HI := Lib.hid (itoa_dec q (by omega) w)
  have HS := Lib.hid (seq_any n hn w)
  have HK := Lib.hid (join_kI q n hq)
  have hdz : (dec q).size = 1 := by rw [dec_size q (by omega), if_pos (by omega)]
  go_enter Tryz.func28, Tryz.ntmps28
  go_wp2_with fail
  refine HI.out.mono ?_
  rintro e w1 ⟨rfl, rfl⟩
  go_wp2_with fail
  refine HS.out.mono ?_
  rintro e w2 ⟨rfl, hb⟩
  have HB := Lib.hid hb
  clear hb
  go_wp2_with fail
  obtain ⟨W, hW⟩ : ∃ W, W = w2.alloc (.cells #[.string ⟨#[113]⟩, .string (dec q), .string ⟨#[105]⟩, .string (bA (num20 n))] 9 (0, 0)) := ⟨_, rfl⟩
  have hq4 : W.heap[w2.heap.size]? = some (.cells #[.string ⟨#[113]⟩, .string (dec q), .string ⟨#[105]⟩, .string (bA (num20 n))] 9 (0, 0)) := by rw [hW]; exact heap_alloc_new w2 _
  have HW := Lib.hid (show Below w.heap.size w W by rw [hW]; exact HB.out.alloc HB.out.size _)
  rw [← hW]
  clear hW
  refine (key_any w2.heap.size 4 [⟨#[113]⟩, dec q, ⟨#[105]⟩, bA (num20 n)] W (fun j x hj => ?_) (heap_lt hq4) (by simp) (by simp) ?_).mono ?_
  · rw [World.cell?, hq4]
    match j, hj with
    | 0, hj => cases hj; rfl
    | 1, hj => cases hj; rfl
    | 2, hj => cases hj; rfl
    | 3, hj => cases hj; rfl
  · have e : (dec q).data.toList.length = 1 := by rw [len_list]; exact hdz
    have e2 : (bA (num20 n)).data.toList.length = 20 := rfl
    simp [Lib.join, List.intercalate, e, e2]
  · rintro e w3 ⟨rfl, hb3⟩
    have HB3 := Lib.hid (HW.out.trans (hb3.mono HW.out.size))
    clear hb3
    go_wp2_with fail
    go_ret
    exact ⟨by rw [HK.out]; rfl, HB3.out⟩
/-- a number's byte -/
def by8 (n k : Nat) : Nat := n / 2 ^ (8 * k) % 256
def le8 (n : Nat) : List UInt8 := (List.range 8).map fun k => UInt8.ofNat (by8 n k)
theorem le8_len (n : Nat) : (le8 n).length = 8 := by simp [le8]
theorem by8_lt (n k : Nat) : by8 n k < 256 := Nat.mod_lt _ (by omega)
theorem le8_at (n k : Nat) (h : k < 8) : (le8 n)[k]? = some (UInt8.ofNat (by8 n k)) := by
  unfold le8
  rw [List.getElem?_map, List.getElem?_range h]; rfl
theorem toNat_by8 (n k : Nat) : (UInt8.ofNat (by8 n k)).toNat = by8 n k := by
  have := by8_lt n k
  rw [UInt8.toNat_ofNat']; omega
set_option maxRecDepth 100000 in
theorem oput_any (w : World) (n : Nat) (h1 : n < 18446744073709551616) : Calls Tryz.prog 60 #[.int .u64 n] w fun e w' => e = .returned (.string (bA (le8 n))) ∧ Below w.heap.size w w' := by
  have hmk : ∀ W : World, (Instr.makeSlice 179 (.int .i64 8) (.int .i64 8)).run Tryz.prog W = .ok (.slice (some ⟨W.heap.size, 0, none⟩) 8 8) (W.alloc (.cells (madeCells #[.int .u8 0] 8) 5)) :=
    fun W => run_make_row' 179 5 (.int .u8 0) 1 Tryz.underlying179 info_u8 rfl .i64 .i64 8 (by omega) (by omega) W
  have HM := Lib.hid ((World.rowIs_made w (.int .u8 0) 8 5).congr (g := fun j => .int .u8 (if j < 0 then by8 n j else 0)) (fun i _ => by rw [if_neg (by omega)]))
  go_enter Tryz.func60, Tryz.ntmps60
  go_wp2_with fail
  go_loopw [8] (fun i wr => ∃ k : Nat, k ≤ 8 ∧ i = .int .i64 k ∧ Hid (wr.rowIs w.heap.size 5 8 (fun j => .int .u8 (if j < k then by8 n j else 0 : Nat))) ∧ Hid (Below w.heap.size w wr)) (fun i _ => 8 - (intOf i).toNat)
  case atStart => exact ⟨0, by omega, rfl, HM, bl1 _ _⟩
  case round =>
    obtain ⟨k, hk, rfl, HR, HB⟩ := hrel
    by_cases hlt : k < 8
    · have hc0 : wr.cell? ⟨w.heap.size, k, none⟩ = some (.int .u8 0) := by rw [HR.out.cell hlt, if_neg (by omega)]; rfl
      have hf0 := HR.out.frozen k
      go_wp2_with fail
      go_roundw
      case rel =>
        refine ⟨k + 1, by omega, by go_num, (HR.out.set k _).congr (fun i hi => ?_), HB.out.setCell (Nat.le_refl _) _⟩
        by_cases e : i = k
        · subst e; rw [if_pos rfl, if_pos (by omega)]; unfold by8; push_cast; rfl
        · rw [if_neg e]
          by_cases h2 : i < k
          · rw [if_pos h2, if_pos (by omega)]
          · rw [if_neg h2, if_neg (by omega)]
      case measure => simp [intOf]; omega
    · have : k = 8 := by omega
      subst this
      have hcv : (convert 179 9 (.slice (some ⟨w.heap.size, 0, none⟩) 8 8)).run Tryz.prog wr = .ok (.string (bA (le8 n))) wr := by
        have h9 := run_convert_bytes_back (P := Tryz.prog) wr 179 9 5 ⟨w.heap.size, 0, none⟩ 8 (le8 n) Tryz.underlying179 Tryz.underlying5 Tryz.underlying9 (fun j hj => by
          rw [le8_len] at hj
          have h5 := le8_at n j hj
          rw [List.getElem?_eq_getElem (by rw [le8_len]; exact hj)] at h5
          rw [Option.some.inj h5, Addr.add_lit, Nat.zero_add, HR.out.cell hj, if_pos hj, toNat_by8])
        rwa [le8_len] at h9
      generalize hz : bA (le8 n) = z at hcv
      have HZ := Lib.hid hz
      clear hz
      go_wp2_with fail
      go_ret
      exact ⟨by rw [HZ.out]; rfl, HB.out⟩
theorem is_any (q : Int) (w : World) : Calls Tryz.prog 23 #[.int .i64 q] w fun e w' => e = .returned (.bool (decide (0 ≤ q) && decide (q < 8))) ∧ w = w' := by
  by_cases h1 : 0 ≤ q
  · go_enter Tryz.func23, Tryz.ntmps23
    go_wp2_with fail
    go_ret
    exact ⟨ret_bool (by simp [h1]), rfl⟩
  · go_enter Tryz.func23, Tryz.ntmps23
    go_wp2_with fail
    go_ret
    exact ⟨ret_bool (by simp; omega), rfl⟩
end Go.Proofs.YtcohbfabcdjefaaGreatDoor
