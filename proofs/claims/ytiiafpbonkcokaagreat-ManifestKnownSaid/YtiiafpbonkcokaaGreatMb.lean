/-
  'put', 'get' of eight bytes.
-/
import Derived.Test.YtiiafpbonkcokaaGreatTc
namespace Go.Proofs.YtiiafpbonkcokaaGreat
open Go.RowKit Go.Maps

/-- a number's byte -/
def by8 (n k : Nat) : Nat := n / 2 ^ (8 * k) % 256
def le8 (n : Nat) : List UInt8 := (List.range 8).map fun k => UInt8.ofNat (by8 n k)
theorem le8_len (n : Nat) : (le8 n).length = 8 := by simp [le8]
theorem by8_lt (n k : Nat) : by8 n k < 256 := Nat.mod_lt _ (by omega)
theorem le8_at (n k : Nat) (h : k < 8) : (le8 n)[k]? = some (UInt8.ofNat (by8 n k)) := by
  unfold le8
  rw [List.getElem?_map, List.getElem?_range h]; rfl
theorem info_u8 : (Tryz.prog.info? 5).map (fun i => (i.zero, i.size, i.bytes)) = some (some (.int .u8 0), 1, 1) := by kernel_rfl
theorem toNat_by8 (n k : Nat) : (UInt8.ofNat (by8 n k)).toNat = by8 n k := by
  have := by8_lt n k
  rw [UInt8.toNat_ofNat']; omega
set_option maxRecDepth 100000 in
theorem put8_any (w : World) (n : Nat) (h1 : n < 9223372036854775808) : Calls Tryz.prog 75 #[.int .i64 n] w fun e w' => e = .returned (.string ⟨(le8 n).toArray⟩) ∧ Below w.heap.size w w' := by
  have hmk : ∀ W : World, (Instr.makeSlice 134 (.int .i64 8) (.int .i64 8)).run Tryz.prog W = .ok (.slice (some ⟨W.heap.size, 0, none⟩) 8 8) (W.alloc (.cells (madeCells #[.int .u8 0] 8) 5)) :=
    fun W => run_make_row' 134 5 (.int .u8 0) 1 Tryz.underlying134 info_u8 rfl .i64 .i64 8 (by omega) (by omega) W
  have HM := Lib.hid ((World.rowIs_made w (.int .u8 0) 8 5).congr (g := fun j => .int .u8 (if j < 0 then by8 n j else 0)) (fun i _ => by rw [if_neg (by omega)]))
  go_enter Tryz.func75, Tryz.ntmps75
  go_wp2_with fail
  go_loopw [8] (fun i wr => ∃ k : Nat, k ≤ 8 ∧ i = .int .i64 k ∧ Hid (wr.rowIs w.heap.size 5 8 (fun j => .int .u8 (if j < k then by8 n j else 0 : Nat))) ∧ Hid (Below w.heap.size w wr)) (fun i _ => 8 - (intOf i).toNat)
  case atStart => exact ⟨0, by omega, rfl, HM, bl1 _ _⟩
  case round =>
    obtain ⟨k, hk, rfl, HR, HB⟩ := hrel
    by_cases hlt : k < 8
    · have hc0 : wr.cell? ⟨w.heap.size, k, none⟩ = some (.int .u8 0) := by rw [HR.out.cell hlt, if_neg (by omega)]; rfl
      have hf0 := HR.out.frozen k
      go_wp2_with fail
      go_roundw
      case rel =>
        refine ⟨k + 1, by omega, by go_num, (HR.out.set k _).congr (fun i hi => ?_), HB.out.setCell (Nat.le_refl _) _⟩
        by_cases e : i = k
        · subst e; rw [if_pos rfl, if_pos (by omega)]; unfold by8; push_cast; rfl
        · rw [if_neg e]
          by_cases h2 : i < k
          · rw [if_pos h2, if_pos (by omega)]
          · rw [if_neg h2, if_neg (by omega)]
      case measure => simp [intOf]; omega
    · have : k = 8 := by omega
      subst this
      have hcv : (convert 134 9 (.slice (some ⟨w.heap.size, 0, none⟩) 8 8)).run Tryz.prog wr = .ok (.string ⟨(le8 n).toArray⟩) wr := by
        have h9 := run_convert_bytes_back (P := Tryz.prog) wr 134 9 5 ⟨w.heap.size, 0, none⟩ 8 (le8 n) Tryz.underlying134 Tryz.underlying5 Tryz.underlying9 (fun j hj => by
          rw [le8_len] at hj
          have h5 := le8_at n j hj
          rw [List.getElem?_eq_getElem (by rw [le8_len]; exact hj)] at h5
          rw [Option.some.inj h5, Addr.add_lit, Nat.zero_add, HR.out.cell hj, if_pos hj, toNat_by8])
        rwa [le8_len] at h9
      generalize hz : (⟨(le8 n).toArray⟩ : ByteArray) = z at hcv
      have HZ := Lib.hid hz
      clear hz
      go_wp2_with fail
      go_ret
      exact ⟨by rw [HZ.out]; rfl, HB.out⟩
theorem get8_step (n k : Nat) (h1 : n < 9223372036854775808) : bits BinOp.or IntKind.i64 ((n : Int) % 2 ^ (8 * k)) (wrap64 (wrap64 (by8 n k : Nat) * 2 ^ (8 * k))) = ((n % 2 ^ (8 * (k + 1)) : Nat) : Int) := by
  have hb := by8_lt n k
  have hle : by8 n k * 2 ^ (8 * k) ≤ n := Nat.le_trans (Nat.mul_le_mul_right _ (Nat.mod_le _ _)) (Nat.div_mul_le_self _ _)
  have w1 : wrap64 ((by8 n k : Nat) : Int) = (by8 n k : Nat) := IntWalk.wrap64_in _ (by omega)
  have e1 : ((by8 n k : Nat) : Int) * 2 ^ (8 * k) = ((by8 n k * 2 ^ (8 * k) : Nat) : Int) := by push_cast; rfl
  have w2 : wrap64 ((by8 n k * 2 ^ (8 * k) : Nat) : Int) = (by8 n k * 2 ^ (8 * k) : Nat) := IntWalk.wrap64_in _ (by omega)
  have e2 : (n : Int) % 2 ^ (8 * k) = ((n % 2 ^ (8 * k) : Nat) : Int) := by push_cast; rfl
  have hm : n % 2 ^ (8 * k) < 2 ^ (8 * k) := Nat.mod_lt _ (Nat.two_pow_pos _)
  have hm2 : n % 2 ^ (8 * k) ≤ n := Nat.mod_le _ _
  rw [w1, e1, w2, e2, or_low .i64 63 (by decide) (fun m h0 h1 => IntWalk.i64_in _ (by omega)) (8 * k) _ _ hm (by omega) (by omega)]
  rw [show 8 * (k + 1) = 8 * k + 8 by omega, Nat.pow_add, Nat.mod_mul]
  unfold by8
  rw [Nat.mul_comm (2 ^ (8 * k))]
theorem get8_any (w : World) (s : ByteArray) (i : Nat) (n : Nat) (h1 : n < 9223372036854775808) (hs : s.size ≤ 9223372036854775807) (hi : i * 8 + 8 ≤ s.size) (h : ∀ k, k < 8 → (h2 : i * 8 + k < s.size) → s[i * 8 + k].toNat = by8 n k) : Calls Tryz.prog 63 #[.string s, .int .i64 i] w fun e w' => e = .returned (.int .i64 n) ∧ w = w' := by
  have HH := Lib.hid h
  clear h
  go_enter Tryz.func63, Tryz.ntmps63
  go_wp2_with fail
  go_loop [5, 7] (fun x m => ∃ k : Nat, k ≤ 8 ∧ m = .int .i64 k ∧ x = .int .i64 ((n % 2 ^ (8 * k) : Nat) : Int)) (fun _ m => 8 - (intOf m).toNat)
  case atStart => exact ⟨0, by omega, rfl, by simp [Nat.mod_one]⟩
  case round =>
    obtain ⟨k, hk, rfl, rfl⟩ := hrel
    by_cases hlt : k < 8
    · have hix : i * 8 + k < s.size := by omega
      have HS := Lib.hid (get8_step n k h1)
      have hby := HH.out k hlt hix
      go_wp2_with fail
      exact ⟨⟨k + 1, by omega, by go_num, by rw [← HS.out]⟩, by simp [intOf]; omega⟩
    · have : k = 8 := by omega
      subst this
      go_wp2_with fail
      go_ret
      exact ⟨ret_int (by omega), rfl⟩
end Go.Proofs.YtiiafpbonkcokaaGreat
