/-
  'table', 'More', 'Crc': what a text's sum is, in the walk's own spelling.
-/
import Derived.Test.YtiiafpbonkcokaaGreatC
import Derived.Deep.OwnRows
import Derived.Deep.LoopGhost
import Derived.Deep.QuietTactic
import Derived.BigQuiet
import Derived.Laws.Closers25b
namespace Go.Proofs.YtiiafpbonkcokaaGreat
open Go.RowKit Go.Maps

def tstep (c : Int) : Int := if (bits .and .u32 c 1 == 1) then bits .xor .u32 (c / 2) 2197175160 else c / 2
def titer : Nat → Int → Int
  | 0, c => c
  | n + 1, c => tstep (titer n c)
def tabF (k : Nat) : Int := titer 8 k
theorem zc_eq : Tryz.zeroCells153 = (List.replicate 256 (Value.int .u32 0)).toArray := by kernel_rfl
theorem zc_size : Tryz.zeroCells153.size = 256 := by rw [zc_eq, List.size_toArray, List.length_replicate]
theorem zc_at (i : Nat) (h : i < 256) : Tryz.zeroCells153[i]? = some (.int .u32 0) := by
  rw [zc_eq, List.getElem?_toArray, List.getElem?_replicate, if_pos h]
theorem row_of (w : World) (Z : Array Value) (t : TypeId) (n : Nat) (f : Nat → Value) (hs : Z.size = n) (hc : ∀ i, i < n → Z[i]? = some (f i)) : (w.alloc (.cells Z t)).rowIs w.heap.size t n f := by
  subst hs
  exact World.rowIs_alloc w Z t f hc
set_option maxHeartbeats 1000000 in
set_option maxRecDepth 100000 in
theorem table_any (w : World) : Calls Tryz.prog 107 #[] w fun e w' => e = .returned (.pointer (some ⟨w.heap.size, 0, none⟩)) ∧ w'.rowIs w.heap.size 153 256 (fun j => .int .u32 (tabF j)) ∧ Below w.heap.size w w' := by
  have h0 : (w.alloc (Obj.cells Tryz.zeroCells153 153)).rowIs w.heap.size 153 256 (fun j => .int .u32 (if j < 0 then tabF j else 0)) := row_of w _ _ 256 _ zc_size (fun i hi => by rw [zc_at i hi, if_neg (by omega)])
  have H0 := Lib.hid h0
  clear h0
  go_enter Tryz.func107, Tryz.ntmps107
  go_wp2
  go_loopw [4] (fun i wr => ∃ k : Nat, k ≤ 256 ∧ i = .int .i64 k ∧ Hid (wr.rowIs w.heap.size 153 256 (fun j => .int .u32 (if j < k then tabF j else 0))) ∧ Hid (Below w.heap.size w wr)) (fun i _ => 256 - (intOf i).toNat)
  case atStart => exact ⟨0, by omega, rfl, H0, bl1 _ _⟩
  case round =>
    obtain ⟨k, hk, rfl, HR, HB⟩ := hrel
    obtain ⟨wo, rfl⟩ : ∃ wo : World, wo = wr := ⟨_, rfl⟩
    by_cases hlt : k < 256
    · have hc0 : wo.cell? ⟨w.heap.size, k, none⟩ = some (.int .u32 0) := by rw [HR.out.cell hlt, if_neg (by omega)]
      have hf0 := HR.out.frozen k
      go_wp2
      go_loop [3, 9] (fun c m => ∃ j : Nat, j ≤ 8 ∧ m = .int .i64 j ∧ c = .int .u32 (titer j k)) (fun _ m => 8 - (intOf m).toNat)
      case atStart => exact ⟨0, by omega, rfl, rfl⟩
      case round =>
        obtain ⟨j, hj, rfl, rfl⟩ := hrel
        by_cases hlj : j < 8
        · have HS := Lib.hid (show titer (j + 1) k = tstep (titer j k) from rfl)
          generalize titer j k = c at *
          go_wp2
          · refine ⟨⟨j + 1, by omega, by go_num, ?_⟩, by simp [intOf]; omega⟩
            rw [HS.out, tstep, if_pos (by assumption)]
          · have hb : (bits .and .u32 c 1 == 1) = false := by assumption
            refine ⟨⟨j + 1, by omega, by go_num, ?_⟩, by simp [intOf]; omega⟩
            rw [HS.out, tstep, if_neg (by rw [hb]; decide)]
        · have : j = 8 := by omega
          subst this
          rw [show titer 8 (k : Int) = tabF k from rfl]
          go_wp2
          go_roundw
          case rel => 
            refine ⟨k + 1, by omega, by go_num, (HR.out.set k (.int .u32 (tabF k))).congr (fun i hi => ?_), HB.out.setCell (Nat.le_refl _) _⟩
            by_cases e : i = k
            · subst e; rw [if_pos rfl, if_pos (by omega)]
            · rw [if_neg e]
              by_cases h2 : i < k
              · rw [if_pos h2, if_pos (by omega)]
              · rw [if_neg h2, if_neg (by omega)]
          case measure => simp [intOf]; omega
    · have : k = 256 := by omega
      subst this
      go_wp2
      go_ret
      exact ⟨rfl, HR.out.congr (fun i hi => by rw [if_pos hi]), HB.out⟩

theorem below_drewN' {B : Nat} {a w : World} (h : Below B a w) (n : Nat) : Below B a (w.drewN n) := ⟨h.os, h.tape, h.output, h.size, h.block⟩
def mstep (c : Int) (b : UInt8) : Int := bits .xor .u32 (c / 256) (tabF (bits .xor .u8 (IntKind.u8.wrap c) b.toNat).toNat)
def mfold : Int → List UInt8 → Int
  | c, [] => c
  | c, b :: r => mfold (mstep c b) r
/-- the sum of a text that goes on -/
def moreF (c : Int) (s : List UInt8) : Int := bits .xor .u32 IntKind.u32.max (mfold (bits .xor .u32 IntKind.u32.max c) s)
theorem mfold_snoc : ∀ (l : List UInt8) (c : Int) (b : UInt8), mfold c (l ++ [b]) = mstep (mfold c l) b
  | [], _, _ => rfl
  | x :: r, c, b => by simp [mfold, mfold_snoc r]
theorem mfold_rng : ∀ (l : List UInt8) (c : Int), 0 ≤ c → c ≤ 4294967295 → 0 ≤ mfold c l ∧ mfold c l ≤ 4294967295
  | [], c, h0, h1 => ⟨h0, h1⟩
  | b :: r, c, _, _ => mfold_rng r _ (bits_lo_u32 ..) (bits_hi_u32 ..)
theorem moreF_rng (c : Int) (s : List UInt8) : 0 ≤ moreF c s ∧ moreF c s < 4294967296 := ⟨bits_lo_u32 .., by have := bits_hi_u32 .xor IntKind.u32.max (mfold (bits .xor .u32 IntKind.u32.max c) s); unfold moreF; omega⟩
theorem take_snoc' (s : ByteArray) (k : Nat) (h : k < s.size) : s.data.toList.take (k + 1) = s.data.toList.take k ++ [s[k]] := by
  rw [List.take_succ_eq_append_getElem (by simpa using h)]; rfl
set_option maxHeartbeats 1000000 in
theorem more_any (w : World) (c : Int) (s : ByteArray) (hs : s.size ≤ maxLen) (h0 : 0 ≤ c) (h1 : c < 4294967296) : Calls Tryz.prog 97 #[.int .u32 c, .string s] w fun e w' => e = .returned (.int .u32 (moreF c s.data.toList)) ∧ Below w.heap.size w w' := by
  unfold maxLen at hs
  go_enter Tryz.func97, Tryz.ntmps97
  go_wp2_with fail
  refine (table_any w).mono ?_
  rintro e w1 ⟨rfl, hr, hb⟩
  have HR := Lib.hid hr
  have HB := Lib.hid hb
  clear hr hb
  go_wp2_with fail
  have hi0 := bits_lo_u32 .xor IntKind.u32.max c
  have hi1 := bits_hi_u32 .xor IntKind.u32.max c
  have HM := Lib.hid (show moreF c s.data.toList = bits .xor .u32 IntKind.u32.max (mfold (bits .xor .u32 IntKind.u32.max c) s.data.toList) from rfl)
  generalize bits .xor .u32 IntKind.u32.max c = c0 at *
  go_loopw [0, 12] (fun x i wr => ∃ k : Nat, k ≤ s.size ∧ i = .int .i64 k ∧ x = .int .u32 (mfold c0 (s.data.toList.take k)) ∧ Hid (wr.rowIs w.heap.size 153 256 (fun j => .int .u32 (tabF j))) ∧ Hid (Below w.heap.size w wr)) (fun _ i _ => s.size - (intOf i).toNat)
  case atStart => exact ⟨0, by omega, rfl, rfl, HR, HB⟩
  case round =>
    obtain ⟨k, hk, rfl, rfl, HR, HB⟩ := hrel
    by_cases hlt : k < s.size
    · have HS := Lib.hid (show mfold c0 (s.data.toList.take (k + 1)) = mstep (mfold c0 (s.data.toList.take k)) s[k] by rw [take_snoc' s k hlt, mfold_snoc])
      have hr := mfold_rng (s.data.toList.take k) c0 hi0 hi1
      generalize mfold c0 (s.data.toList.take k) = x at *
      generalize hb : s[k] = b at *
      have hlo := bits_lo_u8 .xor (IntKind.u8.wrap x) b.toNat
      have hhi := bits_hi_u8 .xor (IntKind.u8.wrap x) b.toNat
      have HT := Lib.hid (show mstep x b = bits .xor .u32 (x / 256) (tabF (bits .xor .u8 (IntKind.u8.wrap x) b.toNat).toNat) from rfl)
      have hcell := HR.out.cell (i := (bits .xor .u8 (IntKind.u8.wrap x) b.toNat).toNat) (by omega)
      generalize hix : bits .xor .u8 (IntKind.u8.wrap x) b.toNat = ix at *
      have hi256 : ix < 256 := by omega
      go_wp2_with fail
      go_quiet (fail)
      go_wp2_with fail
      go_roundw
      case rel => exact ⟨k + 1, by omega, by go_num, by rw [HS.out, HT.out], HR.out, below_drewN' HB.out _⟩
      case measure => simp [intOf]; omega
    · have : k = s.size := by omega
      subst this
      have HK := Lib.hid (show s.data.toList.take s.size = s.data.toList from List.take_of_length_le (by simp))
      go_wp2_with fail
      go_ret
      refine ⟨ret_int ?_, HB.out⟩
      rw [HM.out, HK.out]

def crcF (s : List UInt8) : Int := moreF 0 s
theorem crc_any (w : World) (s : ByteArray) (hs : s.size ≤ maxLen) : Calls Tryz.prog 98 #[.string s] w fun e w' => e = .returned (.int .u32 (crcF s.data.toList)) ∧ Below w.heap.size w w' := by
  have HC := Lib.hid (more_any w 0 s hs (by omega) (by omega))
  unfold crcF
  go_enter Tryz.func98, Tryz.ntmps98
  go_wp2_with fail
  refine HC.out.mono ?_
  rintro e w1 ⟨rfl, hb⟩
  go_wp2_with fail
  go_ret
  exact ⟨rfl, hb⟩
end Go.Proofs.YtiiafpbonkcokaaGreat
