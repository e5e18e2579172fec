/-
  Joined: Ta, Tb, Eh, Ei.
-/
import Derived.Test.YtcohbfabcdjefaaGreatDoorD
import Derived.Deep.OwnRows
import Derived.Deep.LoopGhost
import Derived.Deep.QuietTactic
import Derived.BigQuiet
import Derived.Laws.Closers25b
import Derived.Laws.BitsLemmas
import Derived.Laws.IdiomStrings
import Derived.StillTailTactics
import Derived.Test.YtcohbfabcdjefaaGreatDoorEg
import Derived.Deep.RegionHeld3
namespace Go.Proofs.YtcohbfabcdjefaaGreatDoor
open Go.RowKit Go.Maps

def tstep (c : Int) : Int := if (bits .and .u32 c 1 == 1) then bits .xor .u32 (c / 2) 2197175160 else c / 2
def titer : Nat → Int → Int
  | 0, c => c
  | n + 1, c => tstep (titer n c)
def tabF (k : Nat) : Int := titer 8 k
theorem zc_eq : Tryz.zeroCells325 = (List.replicate 256 (Value.int .u32 0)).toArray := by kernel_rfl
theorem zc_size : Tryz.zeroCells325.size = 256 := by rw [zc_eq, List.size_toArray, List.length_replicate]
theorem zc_at (i : Nat) (h : i < 256) : Tryz.zeroCells325[i]? = some (.int .u32 0) := by
  rw [zc_eq, List.getElem?_toArray, List.getElem?_replicate, if_pos h]
theorem row_of (w : World) (Z : Array Value) (t : TypeId) (n : Nat) (f : Nat → Value) (hs : Z.size = n) (hc : ∀ i, i < n → Z[i]? = some (f i)) : (w.alloc (.cells Z t)).rowIs w.heap.size t n f := by
  subst hs
  exact World.rowIs_alloc w Z t f hc
set_option maxHeartbeats 1000000 in
set_option maxRecDepth 100000 in
theorem table_any (w : World) : Calls Tryz.prog 211 #[] w fun e w' => e = .returned (.pointer (some ⟨w.heap.size, 0, none⟩)) ∧ w'.rowIs w.heap.size 325 256 (fun j => .int .u32 (tabF j)) ∧ Below w.heap.size w w' := by
  have h0 : (w.alloc (Obj.cells Tryz.zeroCells325 325)).rowIs w.heap.size 325 256 (fun j => .int .u32 (if j < 0 then tabF j else 0)) := row_of w _ _ 256 _ zc_size (fun i hi => by rw [zc_at i hi, if_neg (by omega)])
  have H0 := Lib.hid h0
  clear h0
  go_enter Tryz.func211, Tryz.ntmps211
  go_wp2
  go_loopw [4] (fun i wr => ∃ k : Nat, k ≤ 256 ∧ i = .int .i64 k ∧ Hid (wr.rowIs w.heap.size 325 256 (fun j => .int .u32 (if j < k then tabF j else 0))) ∧ Hid (Below w.heap.size w wr)) (fun i _ => 256 - (intOf i).toNat)
  case atStart => exact ⟨0, by omega, rfl, H0, bl1 _ _⟩
  case round =>
    obtain ⟨k, hk, rfl, HR, HB⟩ := hrel
    obtain ⟨wo, rfl⟩ : ∃ wo : World, wo = wr := ⟨_, rfl⟩
    by_cases hlt : k < 256
    · have hc0 : wo.cell? ⟨w.heap.size, k, none⟩ = some (.int .u32 0) := by rw [HR.out.cell hlt, if_neg (by omega)]
      have hf0 := HR.out.frozen k
      go_wp2
      go_loop [3, 9] (fun c m => ∃ j : Nat, j ≤ 8 ∧ m = .int .i64 j ∧ c = .int .u32 (titer j k)) (fun _ m => 8 - (intOf m).toNat)
      case atStart => exact ⟨0, by omega, rfl, rfl⟩
      case round =>
        obtain ⟨j, hj, rfl, rfl⟩ := hrel
        by_cases hlj : j < 8
        · have HS := Lib.hid (show titer (j + 1) k = tstep (titer j k) from rfl)
          generalize titer j k = c at *
          go_wp2
          · refine ⟨⟨j + 1, by omega, by go_num, ?_⟩, by simp [intOf]; omega⟩
            rw [HS.out, tstep, if_pos (by assumption)]
          · have hb : (bits .and .u32 c 1 == 1) = false := by assumption
            refine ⟨⟨j + 1, by omega, by go_num, ?_⟩, by simp [intOf]; omega⟩
            rw [HS.out, tstep, if_neg (by rw [hb]; decide)]
        · have : j = 8 := by omega
          subst this
          rw [show titer 8 (k : Int) = tabF k from rfl]
          go_wp2
          go_roundw
          case rel => 
            refine ⟨k + 1, by omega, by go_num, (HR.out.set k (.int .u32 (tabF k))).congr (fun i hi => ?_), HB.out.setCell (Nat.le_refl _) _⟩
            by_cases e : i = k
            · subst e; rw [if_pos rfl, if_pos (by omega)]
            · rw [if_neg e]
              by_cases h2 : i < k
              · rw [if_pos h2, if_pos (by omega)]
              · rw [if_neg h2, if_neg (by omega)]
          case measure => simp [intOf]; omega
    · have : k = 256 := by omega
      subst this
      go_wp2
      go_ret
      exact ⟨rfl, HR.out.congr (fun i hi => by rw [if_pos hi]), HB.out⟩

theorem below_drewN' {B : Nat} {a w : World} (h : Below B a w) (n : Nat) : Below B a (w.drewN n) := ⟨h.os, h.tape, h.output, h.size, h.block⟩
def mstep (c : Int) (b : UInt8) : Int := bits .xor .u32 (c / 256) (tabF (bits .xor .u8 (IntKind.u8.wrap c) b.toNat).toNat)
def mfold : Int → List UInt8 → Int
  | c, [] => c
  | c, b :: r => mfold (mstep c b) r
/-- the sum of a text that goes on -/
def moreF (c : Int) (s : List UInt8) : Int := bits .xor .u32 IntKind.u32.max (mfold (bits .xor .u32 IntKind.u32.max c) s)
theorem mfold_snoc : ∀ (l : List UInt8) (c : Int) (b : UInt8), mfold c (l ++ [b]) = mstep (mfold c l) b
  | [], _, _ => rfl
  | x :: r, c, b => by simp [mfold, mfold_snoc r]
theorem mfold_rng : ∀ (l : List UInt8) (c : Int), 0 ≤ c → c ≤ 4294967295 → 0 ≤ mfold c l ∧ mfold c l ≤ 4294967295
  | [], c, h0, h1 => ⟨h0, h1⟩
  | b :: r, c, _, _ => mfold_rng r _ (bits_lo_u32 ..) (bits_hi_u32 ..)
theorem moreF_rng (c : Int) (s : List UInt8) : 0 ≤ moreF c s ∧ moreF c s < 4294967296 := ⟨bits_lo_u32 .., by have := bits_hi_u32 .xor IntKind.u32.max (mfold (bits .xor .u32 IntKind.u32.max c) s); unfold moreF; omega⟩
theorem take_snoc' (s : ByteArray) (k : Nat) (h : k < s.size) : s.data.toList.take (k + 1) = s.data.toList.take k ++ [s[k]] := by
  rw [List.take_succ_eq_append_getElem (by simpa using h)]; rfl
set_option maxHeartbeats 1000000 in
theorem more_any (w : World) (c : Int) (s : ByteArray) (hs : s.size ≤ maxLen) (h0 : 0 ≤ c) (h1 : c < 4294967296) : Calls Tryz.prog 160 #[.int .u32 c, .string s] w fun e w' => e = .returned (.int .u32 (moreF c s.data.toList)) ∧ Below w.heap.size w w' := by
  unfold maxLen at hs
  go_enter Tryz.func160, Tryz.ntmps160
  go_wp2_with fail
  refine (table_any w).mono ?_
  rintro e w1 ⟨rfl, hr, hb⟩
  have HR := Lib.hid hr
  have HB := Lib.hid hb
  clear hr hb
  go_wp2_with fail
  have hi0 := bits_lo_u32 .xor IntKind.u32.max c
  have hi1 := bits_hi_u32 .xor IntKind.u32.max c
  have HM := Lib.hid (show moreF c s.data.toList = bits .xor .u32 IntKind.u32.max (mfold (bits .xor .u32 IntKind.u32.max c) s.data.toList) from rfl)
  generalize bits .xor .u32 IntKind.u32.max c = c0 at *
  go_loopw [0, 12] (fun x i wr => ∃ k : Nat, k ≤ s.size ∧ i = .int .i64 k ∧ x = .int .u32 (mfold c0 (s.data.toList.take k)) ∧ Hid (wr.rowIs w.heap.size 325 256 (fun j => .int .u32 (tabF j))) ∧ Hid (Below w.heap.size w wr)) (fun _ i _ => s.size - (intOf i).toNat)
  case atStart => exact ⟨0, by omega, rfl, rfl, HR, HB⟩
  case round =>
    obtain ⟨k, hk, rfl, rfl, HR, HB⟩ := hrel
    by_cases hlt : k < s.size
    · have HS := Lib.hid (show mfold c0 (s.data.toList.take (k + 1)) = mstep (mfold c0 (s.data.toList.take k)) s[k] by rw [take_snoc' s k hlt, mfold_snoc])
      have hr := mfold_rng (s.data.toList.take k) c0 hi0 hi1
      generalize mfold c0 (s.data.toList.take k) = x at *
      generalize hb : s[k] = b at *
      have hlo := bits_lo_u8 .xor (IntKind.u8.wrap x) b.toNat
      have hhi := bits_hi_u8 .xor (IntKind.u8.wrap x) b.toNat
      have HT := Lib.hid (show mstep x b = bits .xor .u32 (x / 256) (tabF (bits .xor .u8 (IntKind.u8.wrap x) b.toNat).toNat) from rfl)
      have hcell := HR.out.cell (i := (bits .xor .u8 (IntKind.u8.wrap x) b.toNat).toNat) (by omega)
      generalize hix : bits .xor .u8 (IntKind.u8.wrap x) b.toNat = ix at *
      have hi256 : ix < 256 := by omega
      go_wp2_with fail
      go_quiet (fail)
      go_wp2_with fail
      go_roundw
      case rel => exact ⟨k + 1, by omega, by go_num, by rw [HS.out, HT.out], HR.out, below_drewN' HB.out _⟩
      case measure => simp [intOf]; omega
    · have : k = s.size := by omega
      subst this
      have HK := Lib.hid (show s.data.toList.take s.size = s.data.toList from List.take_of_length_le (by simp))
      go_wp2_with fail
      go_ret
      refine ⟨ret_int ?_, HB.out⟩
      rw [HM.out, HK.out]

def crcF (s : List UInt8) : Int := moreF 0 s
theorem crc_any (w : World) (s : ByteArray) (hs : s.size ≤ maxLen) : Calls Tryz.prog 101 #[.string s] w fun e w' => e = .returned (.int .u32 (crcF s.data.toList)) ∧ Below w.heap.size w w' := by
  have HC := Lib.hid (more_any w 0 s hs (by omega) (by omega))
  unfold crcF
  go_enter Tryz.func101, Tryz.ntmps101
  go_wp2_with fail
  refine HC.out.mono ?_
  rintro e w1 ⟨rfl, hb⟩
  go_wp2_with fail
  go_ret
  exact ⟨rfl, hb⟩
end Go.Proofs.YtcohbfabcdjefaaGreatDoor
namespace Go.Proofs.YtcohbfabcdjefaaGreatDoor
open Go.RowKit Go.Maps

/-- a number's four bytes -/
def le4 (n : Nat) : List UInt8 := [UInt8.ofNat (n % 256), UInt8.ofNat (n / 256 % 256), UInt8.ofNat (n / 65536 % 256), UInt8.ofNat (n / 16777216 % 256)]
theorem le4_len (n : Nat) : (le4 n).length = 4 := rfl
theorem toNat_ofNat_mod (n : Nat) : ((UInt8.ofNat (n % 256)).toNat : Int) = (n : Int) % 256 := by
  rw [UInt8.toNat_ofNat']; omega
set_option maxRecDepth 100000 in
theorem put4_any (w : World) (n : Nat) (h1 : n < 4294967296) : Calls Tryz.prog 213 #[.int .u32 n] w fun e w' => e = .returned (.string ⟨(le4 n).toArray⟩) ∧ Below w.heap.size w w' := by
  have hcv : (convert 179 9 (.slice (some ⟨w.heap.size, 0, none⟩) 4 4)).run Tryz.prog (w.alloc (.cells #[.int .u8 ((n : Int) % 256), .int .u8 ((n : Int) / 256 % 256), .int .u8 ((n : Int) / 65536 % 256), .int .u8 ((n : Int) / 16777216)] 5)) = .ok (.string ⟨(le4 n).toArray⟩) (w.alloc (.cells #[.int .u8 ((n : Int) % 256), .int .u8 ((n : Int) / 256 % 256), .int .u8 ((n : Int) / 65536 % 256), .int .u8 ((n : Int) / 16777216)] 5)) :=
    run_convert_bytes_back _ 179 9 5 ⟨w.heap.size, 0, none⟩ 4 (le4 n) Tryz.underlying179 Tryz.underlying5 Tryz.underlying9 (fun j hj => by
      rw [Addr.add_lit, World.cell?_alloc_mark]
      match j, hj with
      | 0, _ => show some _ = some _; rw [show (le4 n)[0] = UInt8.ofNat (n % 256) from rfl, toNat_ofNat_mod]; rfl
      | 1, _ => show some _ = some _; rw [show (le4 n)[1] = UInt8.ofNat (n / 256 % 256) from rfl, toNat_ofNat_mod]; rfl
      | 2, _ => show some _ = some _; rw [show (le4 n)[2] = UInt8.ofNat (n / 65536 % 256) from rfl, toNat_ofNat_mod]; rfl
      | 3, _ => show some (Value.int .u8 ((n : Int) / 16777216)) = some _; rw [show (le4 n)[3] = UInt8.ofNat (n / 16777216 % 256) from rfl, toNat_ofNat_mod, show ((n / 16777216 : Nat) : Int) % 256 = (n : Int) / 16777216 by omega])
  generalize hl : (⟨(le4 n).toArray⟩ : ByteArray) = l at *
  clear hl
  go_enter Tryz.func213, Tryz.ntmps213
  go_wp2_with fail
  go_ret
  exact ⟨rfl, bl1 _ _⟩

theorem or_low (k : IntKind) (j : Nat) (hj : j ≤ k.bits) (hk : ∀ n : Int, 0 ≤ n → n < 2 ^ j → k.wrap n = n) (i a b : Nat) (ha : a < 2 ^ i) (hb : b * 2 ^ i < 2 ^ j) (ha2 : a < 2 ^ j) : bits .or k (a : Int) ((b * 2 ^ i : Nat) : Int) = ((a + b * 2 ^ i : Nat) : Int) := by
  rw [(bits_nat k j hj hk a (b * 2 ^ i) ha2 hb).2, Nat.or_comm, Nat.mul_comm b, ← Nat.two_pow_add_eq_or_of_lt ha b, Nat.add_comm]
theorem wraps_u32 (n : Int) (h₀ : 0 ≤ n) (h₁ : n < 2 ^ 32) : IntKind.u32.wrap n = n := by rw [IntKind.wrap_u32]; omega
/-- the number of four bytes -/
def rd4 (s : ByteArray) (h : 4 ≤ s.size) : Nat := s[0].toNat + s[1].toNat * 256 + s[2].toNat * 65536 + s[3].toNat * 16777216
theorem u8_lt (x : UInt8) : x.toNat < 256 := x.toNat_lt
theorem get4_reckon (a b c d : UInt8) : bits BinOp.or IntKind.u32 (bits BinOp.or IntKind.u32 (bits BinOp.or IntKind.u32 ((a.toNat : Int) % 4294967296) ((b.toNat : Int) % 4294967296 * 256 % 4294967296)) ((c.toNat : Int) % 4294967296 * 65536 % 4294967296)) ((d.toNat : Int) % 4294967296 * 16777216 % 4294967296) = ((a.toNat + b.toNat * 256 + c.toNat * 65536 + d.toNat * 16777216 : Nat) : Int) := by
  have ha := u8_lt a
  have hb := u8_lt b
  have hc := u8_lt c
  have hd := u8_lt d
  have e0 : (a.toNat : Int) % 4294967296 = (a.toNat : Int) := by omega
  have e1 : (b.toNat : Int) % 4294967296 * 256 % 4294967296 = ((b.toNat * 2 ^ 8 : Nat) : Int) := by omega
  have e2 : (c.toNat : Int) % 4294967296 * 65536 % 4294967296 = ((c.toNat * 2 ^ 16 : Nat) : Int) := by omega
  have e3 : (d.toNat : Int) % 4294967296 * 16777216 % 4294967296 = ((d.toNat * 2 ^ 24 : Nat) : Int) := by omega
  rw [e0, e1, e2, e3, or_low .u32 32 (by decide) wraps_u32 8 _ _ (by omega) (by omega) (by omega), or_low .u32 32 (by decide) wraps_u32 16 _ _ (by omega) (by omega) (by omega), or_low .u32 32 (by decide) wraps_u32 24 _ _ (by omega) (by omega) (by omega)]
theorem get4_any (w : World) (s : ByteArray) (h : 4 ≤ s.size) : Calls Tryz.prog 241 #[.string s] w fun e w' => e = .returned (.int .u32 (rd4 s h)) ∧ ∃ n, w' = w.drewN n := by
  have p0 : 0 < s.size := by omega
  have p1 : (1 : Int) < s.size := by omega
  have p2 : (2 : Int) < s.size := by omega
  have p3 : (3 : Int) < s.size := by omega
  have HE := Lib.hid (get4_reckon s[0] s[1] s[2] s[3])
  go_enter Tryz.func241, Tryz.ntmps241
  go_wp2_with fail
  go_quiet (fail)
  go_wp2_with fail
  go_ret
  refine ⟨ret_int HE.out, _, rfl⟩
theorem rd4_le4 (n : Nat) (h : n < 4294967296) (s : ByteArray) (hs : s.data.toList.take 4 = le4 n) (h4 : 4 ≤ s.size) : rd4 s h4 = n := by
  have e : ∀ i (hi : i < 4), s[i]'(by omega) = (le4 n)[i]'(by rw [le4_len]; exact hi) := fun i hi => by
    have h1 : s.data.toList[i]? = (le4 n)[i]? := by rw [← hs, List.getElem?_take, if_pos hi]
    rw [List.getElem?_eq_getElem (l := le4 n) (by rw [le4_len]; exact hi), List.getElem?_eq_getElem (l := s.data.toList) (by simpa using (by omega : i < s.size))] at h1
    have h2 := Option.some.inj h1
    rw [← h2]; rfl
  unfold rd4
  rw [e 0 (by omega), e 1 (by omega), e 2 (by omega), e 3 (by omega)]
  show (UInt8.ofNat (n % 256)).toNat + (UInt8.ofNat (n / 256 % 256)).toNat * 256 + (UInt8.ofNat (n / 65536 % 256)).toNat * 65536 + (UInt8.ofNat (n / 16777216 % 256)).toNat * 16777216 = n
  rw [UInt8.toNat_ofNat', UInt8.toNat_ofNat', UInt8.toNat_ofNat', UInt8.toNat_ofNat']
  omega
theorem put4_int (w : World) (c : Int) (h0 : 0 ≤ c) (h1 : c < 4294967296) : Calls Tryz.prog 213 #[.int .u32 c] w fun e w' => e = .returned (.string ⟨(le4 c.toNat).toArray⟩) ∧ Below w.heap.size w w' := by
  obtain ⟨n, rfl⟩ := Int.eq_ofNat_of_zero_le h0
  exact put4_any w n (by omega)
/-- a body's check sum -/
def chkF (s : ByteArray) : Int := moreF (crcF (le4 s.size)) s.data.toList
def fr0 (s : ByteArray) : ByteArray := ⟨(le4 s.size).toArray⟩
def fr1 (s : ByteArray) : ByteArray := ⟨(le4 (chkF s).toNat).toArray⟩
/-- a body's frame -/
def frame (s : ByteArray) : ByteArray := fr0 s ++ fr1 s ++ s
theorem fr0_size (s : ByteArray) : (fr0 s).size = 4 := rfl
theorem fr1_size (s : ByteArray) : (fr1 s).size = 4 := rfl
theorem frame_size (s : ByteArray) : (frame s).size = 8 + s.size := by
  unfold frame; rw [ByteArray.size_append, ByteArray.size_append, fr0_size, fr1_size]
set_option maxRecDepth 100000 in
theorem frame_any (w : World) (s : ByteArray) (h : s.size ≤ 65536) : Calls Tryz.prog 163 #[.string s] w fun e w' => e = .returned (.tuple #[.string (frame s), .int .i64 0]) ∧ Below w.heap.size w w' := by
  have hr := moreF_rng (crcF (le4 s.size)) s.data.toList
  have hc := moreF_rng 0 (le4 s.size)
  have HF := Lib.hid (show frame s = fr0 s ++ fr1 s ++ s from rfl)
  have h0 := fr0_size s
  have h1 := fr1_size s
  have C1 : ∀ W, Calls Tryz.prog 213 #[.int .u32 s.size] W fun e w' => e = .returned (.string (fr0 s)) ∧ Below W.heap.size W w' := fun W => put4_any W s.size (by omega)
  have C2 : ∀ W, Calls Tryz.prog 101 #[.string (fr0 s)] W fun e w' => e = .returned (.int .u32 (crcF (le4 s.size))) ∧ Below W.heap.size W w' := fun W => crc_any W (fr0 s) (by rw [fr0_size]; decide)
  have C3 : ∀ W, Calls Tryz.prog 160 #[.int .u32 (crcF (le4 s.size)), .string s] W fun e w' => e = .returned (.int .u32 (chkF s)) ∧ Below W.heap.size W w' := fun W => more_any W _ s (by unfold maxLen; omega) hc.1 hc.2
  have C4 : ∀ W, Calls Tryz.prog 213 #[.int .u32 (chkF s)] W fun e w' => e = .returned (.string (fr1 s)) ∧ Below W.heap.size W w' := fun W => put4_int W _ hr.1 hr.2
  have H1 := Lib.hid C1
  have H2 := Lib.hid C2
  have H3 := Lib.hid C3
  have H4 := Lib.hid C4
  have b1 : ¬ 9223372036854775807 < (fr0 s).size + (fr1 s).size := by omega
  have b2 : ¬ 9223372036854775807 < (fr0 s ++ fr1 s).size + s.size := by rw [ByteArray.size_append]; omega
  clear C1 C2 C3 C4 hr hc h0 h1
  generalize frame s = f at *
  generalize fr0 s = f0 at *
  generalize fr1 s = f1 at *
  generalize chkF s = c1 at *
  generalize crcF (le4 s.size) = c0 at *
  go_enter Tryz.func163, Tryz.ntmps163
  go_wp2_with fail
  refine (H1.out _).mono ?_
  rintro e w1 ⟨rfl, hb⟩
  have HB1 := Lib.hid hb
  clear hb
  go_wp2_with fail
  refine (H2.out _).mono ?_
  rintro e w2 ⟨rfl, hb⟩
  have HB2 := Lib.hid (HB1.out.trans (hb.mono HB1.out.size))
  clear hb
  go_wp2_with fail
  refine (H3.out _).mono ?_
  rintro e w3 ⟨rfl, hb⟩
  have HB3 := Lib.hid (HB2.out.trans (hb.mono HB2.out.size))
  clear hb
  go_wp2_with fail
  refine (H4.out _).mono ?_
  rintro e w4 ⟨rfl, hb⟩
  have HB4 := Lib.hid (HB3.out.trans (hb.mono HB3.out.size))
  clear hb
  go_wp2_with fail
  go_ret2
  exact ⟨by rw [HF.out]; rfl, HB4.out⟩
end Go.Proofs.YtcohbfabcdjefaaGreatDoor
namespace Go.Proofs.YtcohbfabcdjefaaGreatDoor
open Go.RowKit Go.Maps

set_option maxRecDepth 100000 in
set_option maxHeartbeats 1000000 in
theorem tput_any (w : World) (n : Nat) (h1 : n < 4294967296) : Calls Tryz.prog 98 #[.int .i64 n] w fun e w' => ∃ s : ByteArray, e = .returned (.string s) ∧ s.size = 4 ∧ Below w.heap.size w w' := by
  have hcv : (convert 179 9 (.slice (some ⟨w.heap.size, 0, none⟩) 4 4)).run Tryz.prog (w.alloc (.cells #[.int .u8 ((n : Int) % 256), .int .u8 ((n : Int) / 256 % 256), .int .u8 ((n : Int) / 65536 % 256), .int .u8 ((n : Int) / 16777216)] 5)) = .ok (.string ⟨(le4 n).toArray⟩) (w.alloc (.cells #[.int .u8 ((n : Int) % 256), .int .u8 ((n : Int) / 256 % 256), .int .u8 ((n : Int) / 65536 % 256), .int .u8 ((n : Int) / 16777216)] 5)) :=
    run_convert_bytes_back _ 179 9 5 ⟨w.heap.size, 0, none⟩ 4 (le4 n) Tryz.underlying179 Tryz.underlying5 Tryz.underlying9 (fun j hj => by
      rw [Addr.add_lit, World.cell?_alloc_mark]
      match j, hj with
      | 0, _ => show some _ = some _; rw [show (le4 n)[0] = UInt8.ofNat (n % 256) from rfl, toNat_ofNat_mod]; rfl
      | 1, _ => show some _ = some _; rw [show (le4 n)[1] = UInt8.ofNat (n / 256 % 256) from rfl, toNat_ofNat_mod]; rfl
      | 2, _ => show some _ = some _; rw [show (le4 n)[2] = UInt8.ofNat (n / 65536 % 256) from rfl, toNat_ofNat_mod]; rfl
      | 3, _ => show some (Value.int .u8 ((n : Int) / 16777216)) = some _; rw [show (le4 n)[3] = UInt8.ofNat (n / 16777216 % 256) from rfl, toNat_ofNat_mod, show ((n / 16777216 : Nat) : Int) % 256 = (n : Int) / 16777216 by omega])
  have hl4 : (⟨(le4 n).toArray⟩ : ByteArray).size = 4 := rfl
  generalize hl : (⟨(le4 n).toArray⟩ : ByteArray) = l at *
  clear hl
  go_enter Tryz.func98, Tryz.ntmps98
  go_wp2_with fail
  go_ret
  exact ⟨_, rfl, hl4, bl1 _ _⟩

set_option maxRecDepth 100000 in
set_option maxHeartbeats 2000000 in
theorem etext_any (w : World) (x : It) (ho : OkE x) : Calls Tryz.prog 97 #[entv x] w fun e w' => ∃ s : ByteArray, e = .returned (.string s) ∧ s.size = 8 + szE x ∧ Below w.heap.size w w' := by
  have k1 := ho.key
  have k2 := ho.val
  have T1 := Lib.hid (fun W => tput_any W x.key.size (by omega))
  have T2 := Lib.hid (fun W => tput_any W x.val.size (by omega))
  have T3 := Lib.hid (show ∀ W, Calls Tryz.prog 98 #[.int .i64 2147483648] W fun e w' => ∃ s : ByteArray, e = .returned (.string s) ∧ s.size = 4 ∧ Below W.heap.size W w' from fun W => tput_any W 2147483648 (by omega))
  have b1 : ¬ (9223372036854775807 < 8 + x.key.size) := by omega
  have b2 : ¬ (9223372036854775807 < 8 + x.key.size + x.val.size) := by omega
  obtain ⟨W, hW⟩ : ∃ W, W = w.alloc (.cells #[.string x.key, .string x.val, .bool x.gone] 99 (0, 0)) := ⟨_, rfl⟩
  have q : W.heap[w.heap.size]? = some (.cells #[.string x.key, .string x.val, .bool x.gone] 99 (0, 0)) := by rw [hW]; exact heap_alloc_new w _
  have HB := Lib.hid (show Below w.heap.size w W by rw [hW]; exact bl1 w _)
  have HWL := Lib.hid (show w.heap.size < W.heap.size from (Array.getElem?_eq_some_iff.1 q).1)
  have q0 : W.cell? ⟨w.heap.size, 0, none⟩ = some (.string x.key) := by simp [World.cell?, q]
  have q1 : W.cell? ⟨w.heap.size, 1, none⟩ = some (.string x.val) := by simp [World.cell?, q]
  have q2 : W.cell? ⟨w.heap.size, 2, none⟩ = some (.bool x.gone) := by simp [World.cell?, q]
  have HE := Lib.hid hW
  have HS := Lib.hid (show ∀ W', Below W.heap.size W W' → (W'.cell? ⟨w.heap.size, 0, none⟩ = some (.string x.key) ∧ W'.cell? ⟨w.heap.size, 1, none⟩ = some (.string x.val)) from fun W' h => ⟨(h.cell HWL.out).trans q0, (h.cell HWL.out).trans q1⟩)
  clear ho hW q
  unfold entv
  go_enter Tryz.func97, Tryz.ntmps97
  cases hgn : x.gone with
  | true =>
    rw [hgn] at q2 HE
    go_wp2_with fail
    rw [← HE.out]
    clear HE
    have X0 := Lib.hid ((Below.refl W.heap.size W).drew)
    go_region_held3 (fun w' => w'.cell? ⟨w.heap.size, 0, none⟩ = some (.string x.key) ∧ w'.cell? ⟨w.heap.size, 1, none⟩ = some (.string x.val))
      (first | exact HS.out _ X0.out | exact HS.out _ X1 | exact HS.out _ X2 | assumption)
      (first
        | (go_at_call 98; ((with_reducible refine (T1.out _).mono ?_); rintro e w1 ⟨s1, rfl, hs1, hb1⟩; have X1 : Below W.heap.size W w1 := ⟨hb1.os, hb1.tape, hb1.output, hb1.size, hb1.block⟩))
        | (go_at_call 98; ((with_reducible refine (T3.out _).mono ?_); rintro e w2 ⟨s2, rfl, hs2, hb2⟩; have X2 := X1.trans (hb2.mono X1.size))))
    all_goals
      go_wp2_with fail
      go_ret
      refine ⟨_, rfl, ?_, HB.out.trans (X2.mono HB.out.size)⟩
      simp [szE, ByteArray.size_append]
      omega
  | false =>
    rw [hgn] at q2 HE
    go_wp2_with fail
    rw [← HE.out]
    clear HE
    have X0 := Lib.hid ((Below.refl W.heap.size W).drew)
    go_region_held3 (fun w' => w'.cell? ⟨w.heap.size, 0, none⟩ = some (.string x.key) ∧ w'.cell? ⟨w.heap.size, 1, none⟩ = some (.string x.val))
      (first | exact HS.out _ X0.out | exact HS.out _ X1 | exact HS.out _ X2 | assumption)
      (first
        | (go_at_call 98; ((with_reducible refine (T1.out _).mono ?_); rintro e w1 ⟨s1, rfl, hs1, hb1⟩; have X1 : Below W.heap.size W w1 := ⟨hb1.os, hb1.tape, hb1.output, hb1.size, hb1.block⟩))
        | (go_at_call 98; ((with_reducible refine (T2.out _).mono ?_); rintro e w2 ⟨s2, rfl, hs2, hb2⟩; have X2 := X1.trans (hb2.mono X1.size))))
    all_goals
      go_wp2_with fail
      go_ret
      refine ⟨_, rfl, ?_, HB.out.trans (X2.mono HB.out.size)⟩
      simp [szE, ByteArray.size_append]
      omega
end Go.Proofs.YtcohbfabcdjefaaGreatDoor
namespace Go.Proofs.YtcohbfabcdjefaaGreatDoor
open Go.RowKit Go.Maps

theorem isB_below {w w' : World} {B b : Nat} {bs : List Value} (h : IsB B b bs w) (hb : Below w.heap.size w w') : IsB B b bs w' := by
  have k : ∀ p, BAt B b p bs w → BAt B b p bs w' := fun p ⟨hB, v, hk, hown, hne⟩ => ⟨hB, v, (hb.block b (Array.getElem?_eq_some_iff.1 hk).1).trans hk, own_below hown hb, hne⟩
  exact h.imp (k _) (k _)
set_option maxRecDepth 100000 in
set_option maxHeartbeats 2000000 in
theorem build_any (w : World) (v : Value) (L : List It) (h : RdE w v L) (hg : GoodE L) : Calls Tryz.prog 47 #[v] w fun e w' => ∃ s : ByteArray, e = .returned (.tuple #[.string s, .int .i64 0]) ∧ Below w.heap.size w w' := by
  have HR := Lib.hid (right_any w v L h hg)
  have HH := Lib.hid h
  obtain ⟨a, c, rfl, h1, h2, h3⟩ := h
  have H3 := Lib.hid h3
  have HG := Lib.hid hg
  have hlen := hg.len
  have hsum := hg.sum
  clear h3 hg
  unfold maxLen at h2
  go_enter Tryz.func47, Tryz.ntmps47
  go_wp2_with fail
  refine HR.out.mono ?_
  rintro e w1 ⟨rfl, hb1⟩
  have HB1 := Lib.hid hb1
  clear hb1 HR
  have HF := Lib.hid (Lib.fresh_isBuilder 181 5 w1)
  have HBF := Lib.hid (show Below w.heap.size w (w1.alloc (.cells #[.pointer none, .slice none 0 0] 181 (0, 0))) from HB1.out.alloc HB1.out.size _)
  go_wp2_with fail
  go_loopw [16] (fun x wr => ∃ (i : Nat) (l : List UInt8), i ≤ L.length ∧ x = .int .i64 i ∧ l.length = 8 * i + sumE (L.take i) ∧ Hid (IsB w1.heap.size w1.heap.size (Lib.byteCells l) wr) ∧ Hid (Below w.heap.size w wr)) (fun x _ => L.length - (intOf x).toNat)
  case atStart => exact ⟨0, [], Nat.zero_le _, rfl, rfl, HF, HBF⟩
  case round =>
    obtain ⟨i, l, hi, rfl, hll, HI, HB⟩ := hrel
    by_cases hlt : i < L.length
    · obtain ⟨b, rfl, hb, hrow⟩ := H3.out (by omega)
      have f := (hrow i hlt).block (HB.out.block b hb)
      have ho := HG.out.each _ (List.getElem_mem hlt)
      have hs := sumE_succ L i hlt
      have hs2 := sumE_take L (i + 1)
      obtain ⟨S', hS'⟩ : ∃ S', S' = sumE (L.take (i + 1)) := ⟨_, rfl⟩
      rw [← hS'] at hs hs2
      have HS' := Lib.hid hS'
      clear hS' hrow
      generalize L[i] = x at *
      have p0 := f.c0
      have p1 := f.c1
      have p2 := f.c2
      obtain ⟨W, hW⟩ : ∃ W, W = wr.alloc (.cells #[.string x.key, .string x.val, .bool x.gone] 99 (0, 0)) := ⟨_, rfl⟩
      have HT := Lib.hid (etext_any W x ho)
      have HBW := Lib.hid (show Below wr.heap.size wr W by rw [hW]; exact bl1 wr _)
      have HE := Lib.hid hW
      clear f ho hW
      go_wp2_with fail
      rw [← HE.out]
      refine HT.out.mono ?_
      rintro e w2 ⟨s, rfl, hsz, hb2⟩
      have HB2 := Lib.hid (HBW.out.trans (hb2.mono HBW.out.size))
      have HI2 := Lib.hid (isB_below HI.out HB2.out)
      have hll2 : (Lib.byteCells l).length = l.length := Lib.byteCells_length l
      have HWS := Lib.hid (writeS_any w1.heap.size w1.heap.size (Lib.byteCells l) s w2 HI2.out (by rw [hll2]; omega) (Nat.le_trans (Nat.le_of_lt (by rcases HI.out with h | h <;> exact h.lt)) HB2.out.size))
      clear hb2 HE HBW HT
      go_wp2_with fail
      refine HWS.out.mono ?_
      rintro e w3 ⟨rfl, hat, hb3⟩
      have HI3 := Lib.hid (show IsB w1.heap.size w1.heap.size (Lib.byteCells (l ++ s.data.toList)) w3 from .inr (by rw [Lib.byteCells_append, ← Lib.strCells_eq]; exact hat))
      have HB3 := Lib.hid ((HB.out.trans (HB2.out.mono HB.out.size)).trans (hb3.mono HB1.out.size))
      have hsl : s.data.toList.length = s.size := by rw [Array.length_toList, ByteArray.size_data]
      clear hat hb3
      go_wp2_with fail
      exact ⟨⟨i + 1, l ++ s.data.toList, hlt, by go_num, by rw [List.length_append, hsl, hsz, hll, ← HS'.out]; omega, HI3, HB3⟩, by simp [intOf]; omega⟩
    · have hin : i = L.length := by omega
      subst hin
      rw [List.take_length] at hll
      have hb1w := HB1.out.size
      have hltw : w1.heap.size ≤ wr.heap.size := Nat.le_of_lt (by rcases HI.out with h | h <;> exact h.lt)
      have hbc : (Lib.byteCells l).length = l.length := Lib.byteCells_length l
      have HP1 := Lib.hid (tput_any wr L.length (by omega))
      have hlz : (⟨l.toArray⟩ : ByteArray).size = l.length := by rw [← ByteArray.size_data]; simp
      have g1 : l.length ≤ 600000 := by omega
      clear hll
      go_wp2_with fail
      refine HP1.out.mono ?_
      rintro e w2 ⟨s1, rfl, hs1, hb2⟩
      have HI2 := Lib.hid (isB_below HI.out hb2)
      have HB2 := Lib.hid (HB.out.trans (hb2.mono HB.out.size))
      have hz2 := hb2.size
      clear hb2
      have HL := Lib.hid (Tryz.Builder_Len w1.heap.size w1.heap.size (Lib.byteCells l) w2 HI2.out)
      rw [hbc] at HL
      have c1 : ¬ (9223372036854775807 < 4 + s1.size) := by omega
      go_wp2_with fail
      refine HL.out.mono ?_
      rintro e w2' ⟨rfl, rfl⟩
      have HP2 := Lib.hid (tput_any w2' l.length (by omega))
      go_wp2_with fail
      refine HP2.out.mono ?_
      rintro e w3 ⟨s2, rfl, hs2, hb3⟩
      have HI3 := Lib.hid (isB_below HI2.out hb3)
      have HB3 := Lib.hid (HB2.out.trans (hb3.mono HB2.out.size))
      have hz3 := hb3.size
      clear hb3
      have HST := Lib.hid (Tryz.Builder_String_any w1.heap.size w1.heap.size l w3 HI3.out (by omega))
      generalize (⟨l.toArray⟩ : ByteArray) = t at *
      go_wp2_with fail
      refine HST.out.mono ?_
      rintro e w4 ⟨rfl, hb4⟩
      have HB4 := Lib.hid (HB3.out.trans (hb4.mono HB1.out.size))
      have hz4 := hb4.size
      clear hb4
      go_wp2_with fail
      obtain ⟨z, hz⟩ : ∃ z, z = (⟨#[114, 116, 49, 10]⟩ : ByteArray) ++ s1 ++ s2 ++ t := ⟨_, rfl⟩
      have hzz : z.size = 4 + s1.size + s2.size + t.size := by rw [hz, ByteArray.size_append, ByteArray.size_append, ByteArray.size_append]; rfl
      rw [← hz]
      have HC := Lib.hid (crc_any w4 z (by unfold maxLen; omega))
      obtain ⟨n, hn1, hn2⟩ : ∃ n : Nat, crcF z.data.toList = (n : Int) ∧ n < 4294967296 := by
        have hc : 0 ≤ crcF z.data.toList ∧ crcF z.data.toList < 4294967296 := moreF_rng 0 z.data.toList
        exact ⟨(crcF z.data.toList).toNat, by omega, by omega⟩
      rw [hn1] at HC
      clear hz hn1
      refine HC.out.mono ?_
      rintro e w5 ⟨rfl, hb5⟩
      have HB5 := Lib.hid (HB4.out.trans (hb5.mono HB4.out.size))
      clear hb5
      have HP3 := Lib.hid (tput_any w5 n hn2)
      go_wp2_with fail
      refine HP3.out.mono ?_
      rintro e w6 ⟨s3, rfl, hs3, hb6⟩
      have HB6 := Lib.hid (HB5.out.trans (hb6.mono HB5.out.size))
      clear hb6
      have c2 : ¬ (9223372036854775807 < z.size + s3.size) := by omega
      have c3 : ¬ (9223372036854775807 < z.size + 4) := by omega
      go_wp2_with fail
      go_ret2
      exact ⟨_, rfl, HB6.out⟩
end Go.Proofs.YtcohbfabcdjefaaGreatDoor
