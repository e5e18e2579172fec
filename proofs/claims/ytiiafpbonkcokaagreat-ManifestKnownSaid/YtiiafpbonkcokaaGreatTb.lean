/-
  'put', 'get' of four bytes; 'Frame', 'Next'.
-/
import Derived.Test.YtiiafpbonkcokaaGreatTa
import Derived.Laws.BitsLemmas
import Derived.Laws.IdiomStrings
import Derived.StillTailTactics
namespace Go.Proofs.YtiiafpbonkcokaaGreat
open Go.RowKit Go.Maps

/-- a number's four bytes -/
def le4 (n : Nat) : List UInt8 := [UInt8.ofNat (n % 256), UInt8.ofNat (n / 256 % 256), UInt8.ofNat (n / 65536 % 256), UInt8.ofNat (n / 16777216 % 256)]
theorem le4_len (n : Nat) : (le4 n).length = 4 := rfl
theorem toNat_ofNat_mod (n : Nat) : ((UInt8.ofNat (n % 256)).toNat : Int) = (n : Int) % 256 := by
  rw [UInt8.toNat_ofNat']; omega
set_option maxRecDepth 100000 in
theorem put4_any (w : World) (n : Nat) (h1 : n < 4294967296) : Calls Tryz.prog 96 #[.int .u32 n] w fun e w' => e = .returned (.string ⟨(le4 n).toArray⟩) ∧ Below w.heap.size w w' := by
  have hcv : (convert 134 9 (.slice (some ⟨w.heap.size, 0, none⟩) 4 4)).run Tryz.prog (w.alloc (.cells #[.int .u8 ((n : Int) % 256), .int .u8 ((n : Int) / 256 % 256), .int .u8 ((n : Int) / 65536 % 256), .int .u8 ((n : Int) / 16777216)] 5)) = .ok (.string ⟨(le4 n).toArray⟩) (w.alloc (.cells #[.int .u8 ((n : Int) % 256), .int .u8 ((n : Int) / 256 % 256), .int .u8 ((n : Int) / 65536 % 256), .int .u8 ((n : Int) / 16777216)] 5)) :=
    run_convert_bytes_back _ 134 9 5 ⟨w.heap.size, 0, none⟩ 4 (le4 n) Tryz.underlying134 Tryz.underlying5 Tryz.underlying9 (fun j hj => by
      rw [Addr.add_lit, World.cell?_alloc_mark]
      match j, hj with
      | 0, _ => show some _ = some _; rw [show (le4 n)[0] = UInt8.ofNat (n % 256) from rfl, toNat_ofNat_mod]; rfl
      | 1, _ => show some _ = some _; rw [show (le4 n)[1] = UInt8.ofNat (n / 256 % 256) from rfl, toNat_ofNat_mod]; rfl
      | 2, _ => show some _ = some _; rw [show (le4 n)[2] = UInt8.ofNat (n / 65536 % 256) from rfl, toNat_ofNat_mod]; rfl
      | 3, _ => show some (Value.int .u8 ((n : Int) / 16777216)) = some _; rw [show (le4 n)[3] = UInt8.ofNat (n / 16777216 % 256) from rfl, toNat_ofNat_mod, show ((n / 16777216 : Nat) : Int) % 256 = (n : Int) / 16777216 by omega])
  generalize hl : (⟨(le4 n).toArray⟩ : ByteArray) = l at *
  clear hl
  go_enter Tryz.func96, Tryz.ntmps96
  go_wp2_with fail
  go_ret
  exact ⟨rfl, bl1 _ _⟩

theorem or_low (k : IntKind) (j : Nat) (hj : j ≤ k.bits) (hk : ∀ n : Int, 0 ≤ n → n < 2 ^ j → k.wrap n = n) (i a b : Nat) (ha : a < 2 ^ i) (hb : b * 2 ^ i < 2 ^ j) (ha2 : a < 2 ^ j) : bits .or k (a : Int) ((b * 2 ^ i : Nat) : Int) = ((a + b * 2 ^ i : Nat) : Int) := by
  rw [(bits_nat k j hj hk a (b * 2 ^ i) ha2 hb).2, Nat.or_comm, Nat.mul_comm b, ← Nat.two_pow_add_eq_or_of_lt ha b, Nat.add_comm]
theorem wraps_u32 (n : Int) (h₀ : 0 ≤ n) (h₁ : n < 2 ^ 32) : IntKind.u32.wrap n = n := by rw [IntKind.wrap_u32]; omega
/-- the number of four bytes -/
def rd4 (s : ByteArray) (h : 4 ≤ s.size) : Nat := s[0].toNat + s[1].toNat * 256 + s[2].toNat * 65536 + s[3].toNat * 16777216
theorem u8_lt (x : UInt8) : x.toNat < 256 := x.toNat_lt
theorem get4_reckon (a b c d : UInt8) : bits BinOp.or IntKind.u32 (bits BinOp.or IntKind.u32 (bits BinOp.or IntKind.u32 ((a.toNat : Int) % 4294967296) ((b.toNat : Int) % 4294967296 * 256 % 4294967296)) ((c.toNat : Int) % 4294967296 * 65536 % 4294967296)) ((d.toNat : Int) % 4294967296 * 16777216 % 4294967296) = ((a.toNat + b.toNat * 256 + c.toNat * 65536 + d.toNat * 16777216 : Nat) : Int) := by
  have ha := u8_lt a
  have hb := u8_lt b
  have hc := u8_lt c
  have hd := u8_lt d
  have e0 : (a.toNat : Int) % 4294967296 = (a.toNat : Int) := by omega
  have e1 : (b.toNat : Int) % 4294967296 * 256 % 4294967296 = ((b.toNat * 2 ^ 8 : Nat) : Int) := by omega
  have e2 : (c.toNat : Int) % 4294967296 * 65536 % 4294967296 = ((c.toNat * 2 ^ 16 : Nat) : Int) := by omega
  have e3 : (d.toNat : Int) % 4294967296 * 16777216 % 4294967296 = ((d.toNat * 2 ^ 24 : Nat) : Int) := by omega
  rw [e0, e1, e2, e3, or_low .u32 32 (by decide) wraps_u32 8 _ _ (by omega) (by omega) (by omega), or_low .u32 32 (by decide) wraps_u32 16 _ _ (by omega) (by omega) (by omega), or_low .u32 32 (by decide) wraps_u32 24 _ _ (by omega) (by omega) (by omega)]
theorem get4_any (w : World) (s : ByteArray) (h : 4 ≤ s.size) : Calls Tryz.prog 104 #[.string s] w fun e w' => e = .returned (.int .u32 (rd4 s h)) ∧ ∃ n, w' = w.drewN n := by
  have p0 : 0 < s.size := by omega
  have p1 : (1 : Int) < s.size := by omega
  have p2 : (2 : Int) < s.size := by omega
  have p3 : (3 : Int) < s.size := by omega
  have HE := Lib.hid (get4_reckon s[0] s[1] s[2] s[3])
  go_enter Tryz.func104, Tryz.ntmps104
  go_wp2_with fail
  go_quiet (fail)
  go_wp2_with fail
  go_ret
  refine ⟨ret_int HE.out, _, rfl⟩
theorem rd4_le4 (n : Nat) (h : n < 4294967296) (s : ByteArray) (hs : s.data.toList.take 4 = le4 n) (h4 : 4 ≤ s.size) : rd4 s h4 = n := by
  have e : ∀ i (hi : i < 4), s[i]'(by omega) = (le4 n)[i]'(by rw [le4_len]; exact hi) := fun i hi => by
    have h1 : s.data.toList[i]? = (le4 n)[i]? := by rw [← hs, List.getElem?_take, if_pos hi]
    rw [List.getElem?_eq_getElem (l := le4 n) (by rw [le4_len]; exact hi), List.getElem?_eq_getElem (l := s.data.toList) (by simpa using (by omega : i < s.size))] at h1
    have h2 := Option.some.inj h1
    rw [← h2]; rfl
  unfold rd4
  rw [e 0 (by omega), e 1 (by omega), e 2 (by omega), e 3 (by omega)]
  show (UInt8.ofNat (n % 256)).toNat + (UInt8.ofNat (n / 256 % 256)).toNat * 256 + (UInt8.ofNat (n / 65536 % 256)).toNat * 65536 + (UInt8.ofNat (n / 16777216 % 256)).toNat * 16777216 = n
  rw [UInt8.toNat_ofNat', UInt8.toNat_ofNat', UInt8.toNat_ofNat', UInt8.toNat_ofNat']
  omega
theorem put4_int (w : World) (c : Int) (h0 : 0 ≤ c) (h1 : c < 4294967296) : Calls Tryz.prog 96 #[.int .u32 c] w fun e w' => e = .returned (.string ⟨(le4 c.toNat).toArray⟩) ∧ Below w.heap.size w w' := by
  obtain ⟨n, rfl⟩ := Int.eq_ofNat_of_zero_le h0
  exact put4_any w n (by omega)
/-- a body's check sum -/
def chkF (s : ByteArray) : Int := moreF (crcF (le4 s.size)) s.data.toList
def fr0 (s : ByteArray) : ByteArray := ⟨(le4 s.size).toArray⟩
def fr1 (s : ByteArray) : ByteArray := ⟨(le4 (chkF s).toNat).toArray⟩
/-- a body's frame -/
def frame (s : ByteArray) : ByteArray := fr0 s ++ fr1 s ++ s
theorem fr0_size (s : ByteArray) : (fr0 s).size = 4 := rfl
theorem fr1_size (s : ByteArray) : (fr1 s).size = 4 := rfl
theorem frame_size (s : ByteArray) : (frame s).size = 8 + s.size := by
  unfold frame; rw [ByteArray.size_append, ByteArray.size_append, fr0_size, fr1_size]
set_option maxRecDepth 100000 in
theorem frame_any (w : World) (s : ByteArray) (h : s.size ≤ 65536) : Calls Tryz.prog 74 #[.string s] w fun e w' => e = .returned (.tuple #[.string (frame s), .int .i64 0]) ∧ Below w.heap.size w w' := by
  have hr := moreF_rng (crcF (le4 s.size)) s.data.toList
  have hc := moreF_rng 0 (le4 s.size)
  have HF := Lib.hid (show frame s = fr0 s ++ fr1 s ++ s from rfl)
  have h0 := fr0_size s
  have h1 := fr1_size s
  have C1 : ∀ W, Calls Tryz.prog 96 #[.int .u32 s.size] W fun e w' => e = .returned (.string (fr0 s)) ∧ Below W.heap.size W w' := fun W => put4_any W s.size (by omega)
  have C2 : ∀ W, Calls Tryz.prog 98 #[.string (fr0 s)] W fun e w' => e = .returned (.int .u32 (crcF (le4 s.size))) ∧ Below W.heap.size W w' := fun W => crc_any W (fr0 s) (by rw [fr0_size]; decide)
  have C3 : ∀ W, Calls Tryz.prog 97 #[.int .u32 (crcF (le4 s.size)), .string s] W fun e w' => e = .returned (.int .u32 (chkF s)) ∧ Below W.heap.size W w' := fun W => more_any W _ s (by unfold maxLen; omega) hc.1 hc.2
  have C4 : ∀ W, Calls Tryz.prog 96 #[.int .u32 (chkF s)] W fun e w' => e = .returned (.string (fr1 s)) ∧ Below W.heap.size W w' := fun W => put4_int W _ hr.1 hr.2
  have H1 := Lib.hid C1
  have H2 := Lib.hid C2
  have H3 := Lib.hid C3
  have H4 := Lib.hid C4
  have b1 : ¬ 9223372036854775807 < (fr0 s).size + (fr1 s).size := by omega
  have b2 : ¬ 9223372036854775807 < (fr0 s ++ fr1 s).size + s.size := by rw [ByteArray.size_append]; omega
  clear C1 C2 C3 C4 hr hc h0 h1
  generalize frame s = f at *
  generalize fr0 s = f0 at *
  generalize fr1 s = f1 at *
  generalize chkF s = c1 at *
  generalize crcF (le4 s.size) = c0 at *
  go_enter Tryz.func74, Tryz.ntmps74
  go_wp2_with fail
  refine (H1.out _).mono ?_
  rintro e w1 ⟨rfl, hb⟩
  have HB1 := Lib.hid hb
  clear hb
  go_wp2_with fail
  refine (H2.out _).mono ?_
  rintro e w2 ⟨rfl, hb⟩
  have HB2 := Lib.hid (HB1.out.trans (hb.mono HB1.out.size))
  clear hb
  go_wp2_with fail
  refine (H3.out _).mono ?_
  rintro e w3 ⟨rfl, hb⟩
  have HB3 := Lib.hid (HB2.out.trans (hb.mono HB2.out.size))
  clear hb
  go_wp2_with fail
  refine (H4.out _).mono ?_
  rintro e w4 ⟨rfl, hb⟩
  have HB4 := Lib.hid (HB3.out.trans (hb.mono HB3.out.size))
  clear hb
  go_wp2_with fail
  go_ret2
  exact ⟨by rw [HF.out]; rfl, HB4.out⟩
end Go.Proofs.YtiiafpbonkcokaaGreat
