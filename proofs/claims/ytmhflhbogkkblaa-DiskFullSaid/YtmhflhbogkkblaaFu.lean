/-
  The walk of DiskFull.
-/
import Derived.Test.YtmhflhbogkkblaaFp
import Derived.Test.YtmhflhbogkkblaaKn
import Derived.Test.YtmhflhbogkkblaaW
namespace Go.Proofs.Ytmhflhbogkkblaa
open Go.RowKit Go.Maps

theorem pair_conv (a b : Int) (w : World) (t : TypeId) : (convert 27 9 (.slice (some ⟨w.heap.size, 0, none⟩) 2 2)).run Try.prog (w.alloc (.cells #[.int .u8 a, .int .u8 b] t)) = .ok (.string (strOfNums [a, b])) (w.alloc (.cells #[.int .u8 a, .int .u8 b] t)) := by
  refine run_convert_bytes_arg _ 27 5 Try.underlying27 Try.underlying5 _ _ _ _ [a, b] rfl (fun i hi => ?_) 9 Try.underlying9
  have e : i = 0 ∨ i = 1 := by simp at hi; omega
  rcases e with rfl | rfl <;> simp [go_sem]
theorem pair_name (i : Nat) : (strOfNums [(97 + (i : Int) % 16), (97 + (i : Int) / 16)]).data.toList = nmF i := by
  rw [strOfNums_data]
  simp only [List.map_cons, List.map_nil, nmF]
  rw [show ((97 : Int) + (i : Int) % 16).toNat = 97 + i % 16 by omega, show ((97 : Int) + (i : Int) / 16).toNat = 97 + i / 16 by omega]
set_option maxRecDepth 100000 in
set_option maxHeartbeats 2000000 in
theorem full_walk (w : World) (m : Nat) (hm : m < 256) : Calls Try.prog 3 #[.int .u8 m] w fun e w' => e = .returned (.bool true) ∧ Below w.heap.size w w' := by
  have hcv := fun W a b => pair_conv a b W 5
  go_enter Try.func3, Try.ntmps3
  go_wp2_with fail
  refine (awake_true _).mono ?_
  rintro e w1 ⟨rfl, hb1⟩
  have HB1 := Lib.hid hb1
  clear hb1
  go_wp2_with fail
  refine (In.new HB1.out).mono ?_
  rintro e w2 ⟨rfl, h2⟩
  have H2 := Lib.hid h2
  clear h2
  go_wp2_with fail
  go_loopw [4] (fun i wr => ∃ (I : Nat) (d : Dk), I ≤ 256 ∧ i = .int .i64 I ∧ Hid (In w wr (w1.heap.size + 1) w1.heap.size d) ∧ Hid (FullAt I d)) (fun i _ => 256 - (intOf i).toNat)
  case atStart => exact ⟨0, _, by omega, rfl, H2, FullAt.zero⟩
  case round =>
    obtain ⟨I, d, hI, rfl, HD, HF⟩ := hrel
    by_cases hlt : I < 256
    · have HS := Lib.hid (HF.out.step hlt)
      go_wp2_with fail
      have hpn := pair_name I
      have hps : (strOfNums [(97 + (I : Int) % 16), (97 + (I : Int) / 16)]).size ≤ maxLen := by rw [strOfNums_size]; unfold maxLen; simp
      generalize strOfNums [(97 + (I : Int) % 16), (97 + (I : Int) / 16)] = X at *
      rw [← hpn] at HS
      clear hpn
      refine ((HD.out.alloc _).create hps HS.out.1 rfl).mono ?_
      rintro e w3 ⟨rfl, h3⟩
      have H3 := Lib.hid h3
      clear h3
      go_wp2_with fail
      exact ⟨⟨I + 1, _, by omega, by simp, H3, Lib.hid HS.out.2⟩, by simp [intOf]; omega⟩
    · obtain rfl : I = 256 := by omega
      obtain ⟨e1, e2, e3, e4, hfe⟩ := HF.out.fin m hm
      have HE := Lib.hid hfe
      clear hfe hcv hlt hI H2
      have hmu := fun W => run_make_row' (P := Try.prog) 27 5 (.int .u8 0) 1 Try.underlying27 (by kernel_rfl) rfl .u8 .u8 m (by omega) (by omega) W
      have hcm := fun W => zeros_conv m W m 5
      have HM1 := Lib.hid HE.out.a1
      have HM2 := Lib.hid HE.out.a2
      obtain ⟨k1, hk1, hk1l⟩ : ∃ k1, k1 = 1048576 - m ∧ k1 ≤ 1048576 := ⟨_, rfl, by omega⟩
      obtain ⟨k2, hk2, hk2l⟩ : ∃ k2, k2 = m + 1 ∧ k2 ≤ 256 := ⟨_, rfl, by omega⟩
      have hr1 : (1048576 : Int) - (m : Int) = (k1 : Int) := by omega
      have hr2 : (m : Int) + 1 = (k2 : Int) := by omega
      rw [← hk1] at HM1
      rw [← hk2] at HM2
      clear hk1 hk2
      have hmk1 := fun W => run_make_row' (P := Try.prog) 27 5 (.int .u8 0) 1 Try.underlying27 (by kernel_rfl) rfl .i64 .i64 k1 (by omega) (by omega) W
      have hcv1 := fun W => zeros_conv k1 W k1 5
      have hmk2 := fun W => run_make_row' (P := Try.prog) 27 5 (.int .u8 0) 1 Try.underlying27 (by kernel_rfl) rfl .i64 .i64 k2 (by omega) (by omega) W
      have hcv2 := fun W => zeros_conv k2 W k2 5
      go_wp2_with fail
      refine ((HD.out.alloc _).create (tx_max (a := #[122, 122]) (by decide)) HE.out.zz.1 HE.out.zz.2).mono ?_
      rintro e w3 ⟨rfl, h3⟩
      have H3 := Lib.hid h3
      clear h3
      go_wp2_with fail
      refine (H3.out.append (tx_max (a := #[97, 97]) (by decide)) (by rw [zeros_size]; omega) HM1.out.1 HM1.out.2).mono ?_
      rintro e w4 ⟨rfl, h4⟩
      have H4 := Lib.hid h4
      clear h4
      go_wp2_with fail
      refine ((H4.out.alloc _).append (tx_max (a := #[97, 97]) (by decide)) (by rw [zeros_size]; omega) HM2.out.1 HM2.out.2).mono ?_
      rintro e w5 ⟨rfl, h5⟩
      have H5 := Lib.hid h5
      clear h5
      go_wp2_with fail
      refine ((H5.out.alloc _).append (tx_max (a := #[97, 97]) (by decide)) (by rw [zeros_size]; omega) HE.out.a3.1 HE.out.a3.2).mono ?_
      rintro e w6 ⟨rfl, h6⟩
      have H6 := Lib.hid h6
      clear h6
      go_wp2_with fail
      refine (H6.out.usedIs HE.out.us).mono ?_
      rintro e w7 ⟨rfl, h7⟩
      have H7 := Lib.hid h7
      clear h7
      go_wp2_with fail
      refine (H7.out.remove (tx_max (a := #[97, 98]) (by decide)) HE.out.rm.1 HE.out.rm.2).mono ?_
      rintro e w8 ⟨rfl, h8⟩
      have H8 := Lib.hid h8
      clear h8
      go_wp2_with fail
      refine (H8.out.create (tx_max (a := #[122, 122]) (by decide)) HE.out.cr.1 HE.out.cr.2).mono ?_
      rintro e w9 ⟨rfl, h9⟩
      have H9 := Lib.hid h9
      clear h9
      go_wp2_with fail
      refine (H9.out.list).mono ?_
      rintro e w10 ⟨⟨v, rfl, hs⟩, _, h10⟩
      obtain ⟨na, nc, rfl, _⟩ := hs.any
      have H10 := Lib.hid h10
      clear h10 hs
      rw [HE.out.ln]
      go_wp2_with fail
      go_ret
      exact ⟨rfl, H10.out.bel⟩
end Go.Proofs.Ytmhflhbogkkblaa
