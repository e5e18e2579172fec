/-
  package store: Write.
-/
import Derived.Test.YtcohbfabcdjefaaGreatDoorEo
namespace Go.Proofs.YtcohbfabcdjefaaGreatDoor
open Go.RowKit Go.Maps

variable {A B : Nat} {w : World} {sb mb db m lb nb : Nat} {M : List It} {logged n z : Nat}
/-- a batch was put into memory -/
theorem SD.put (h : SD A B w sb mb db m lb nb M logged n z) (Be : Nat) (L : List It) (lv : Value) (hl : OwnE w Be lv L) (hlen : M.length + L.length ≤ 50000) (hsum : sumE M + sumE L ≤ 1000000000) :
    Calls Tryz.prog 51 #[.pointer (some ⟨sb, 0, none⟩), lv] w fun e w' => e = .returned (.tuple #[]) ∧ SD A B w' sb mb db m lb nb (putAll M L) logged n z ∧ Below A w w' ∧ Kx [db] tsW w w' := by
  obtain ⟨u, h1, h2⟩ := h.mem
  have hBw : B ≤ w.heap.size := by have := h.st.lt; have := h.hsb; omega
  have hA := h.hA
  refine (put_any w B Be sb mb db lb nb logged false M L u lv ⟨h.st, h1, h2, h.up, Kp.refl _ _ _⟩ hBw h.hsb h.hmb hl hlen hsum).mono ?_
  rintro e w' ⟨rfl, u', hp⟩
  exact ⟨rfl, ⟨hp.st, ⟨u', hp.mem, hp.own⟩, hp.up, h.log.kp hp.kp, h.hA, h.hsb, h.hmb⟩, hp.kp.below hA (by omega), Kx.of_kp hp.kp (by decide)⟩
theorem putAll_sum {M : List It} (hU : Up M) : ∀ L : List It, sumE (putAll M L) ≤ sumE M + sumE L := by
  intro L
  induction L generalizing M with
  | nil => simp [putAll, sumE]
  | cons x r ih =>
    have h1 := ih (putL_up x hU)
    have h2 : sumE (putL M x) ≤ sumE M + szE x := by
      cases hg : getL M x.key with
      | none => rw [sumE_putL_none x hU hg]; omega
      | some y => have := sumE_putL_some x y hU hg; omega
    show sumE (putAll (putL M x) r) ≤ sumE M + (szE x + sumE r)
    omega
theorem putAll_up {M : List It} (h : Up M) : ∀ L : List It, Up (putAll M L) := by
  intro L
  induction L generalizing M with
  | nil => exact h
  | cons x r ih => exact ih (putL_up x h)
theorem putAll_len {M : List It} (hU : Up M) : ∀ L : List It, (putAll M L).length ≤ M.length + L.length := by
  intro L
  induction L generalizing M with
  | nil => simp [putAll]
  | cons x r ih =>
    have h1 := ih (putL_up x hU)
    have h2 : (putL M x).length ≤ M.length + 1 := by rw [getL_len x hU]; split <;> omega
    show (putAll (putL M x) r).length ≤ M.length + (r.length + 1)
    omega
set_option maxRecDepth 100000 in
set_option maxHeartbeats 2000000 in
theorem swrite_any (h : SD A B w sb mb db m lb nb M logged n z) (Be : Nat) (L : List It) (lv : Value) (hl : OwnE w Be lv L) (hBe : db < Be) (hg : GoodE L) (hL : L.length ≤ 64) (hn : n < 98) (hz : z < 16384)
    (hlen : M.length + L.length < 128) (hsum : sumE M + sumE L < 32768) (hlg : logged ≤ 60000) :
    Calls Tryz.prog 22 #[.pointer (some ⟨sb, 0, none⟩), lv] w fun e w' => e = .returned (.int .i64 0) ∧ SD A B w' sb mb db m lb nb (putAll M L) (logged + (1 + (4 * L.length + sumE L))) (n + 1) (z + (8 + (1 + (4 * L.length + sumE L)))) ∧ Below A w w' ∧ Kx [db] tsW w w' := by
  have s5 : w.cell? ⟨sb, 5, none⟩ = some (.pointer (some ⟨db, 0, none⟩)) := h.st.cell 5
  have hAw := Lib.hid (show A ≤ w.heap.size by have h1 := h.hA; have h2 := h.hsb; have h3 := h.st.lt; omega)
  have H0 := Lib.hid h
  have HL := Lib.hid hl
  have HB := Lib.hid (build_any w lv L hl.rd hg)
  have HSUM := Lib.hid (putAll_sum h.up L)
  have HLEN := Lib.hid (putAll_len h.up L)
  have HG := Lib.hid hg
  obtain ⟨a, c, rfl⟩ := own_slice hl
  clear h hg hl
  go_enter Tryz.func22, Tryz.ntmps22
  go_wp2_with fail
  refine HB.out.mono ?_
  rintro e w1 ⟨s0, rfl, hb1⟩
  have HB1 := Lib.hid hb1
  have H1 := Lib.hid (H0.out.below hb1)
  clear hb1 HB
  go_wp2_with fail
  refine (soff_ok H1.out).mono ?_
  rintro e w2 ⟨rfl, rfl⟩
  go_wp2_with fail
  refine (pack_any w1 _ L (OwnE.rd (own_below HL.out HB1.out)) HG.out).mono ?_
  rintro e w2 ⟨text, rfl, hts, hb2⟩
  have HB2 := Lib.hid (HB1.out.trans (hb2.mono HB1.out.size))
  have H2 := Lib.hid (H1.out.below hb2)
  clear hb2 H1 HB1
  go_wp2_with fail
  refine (record_any H2.out text (by omega) hn hz (by omega)).mono ?_
  rintro e w3 ⟨rfl, h3, hb3, hk3⟩
  have H3 := Lib.hid h3
  have HB3 := Lib.hid ((HB2.out.mono hAw.out).trans hb3)
  have HK3 := Lib.hid ((Kx.of_below (l := [db]) (ts := tsW) HB2.out).trans hk3)
  have HL3 := Lib.hid (show OwnE w3 Be (.slice a L.length c) L from own_keep (own_below HL.out HB2.out) (fun g cs hg e => hk3.blk g _ _ _ e (by
    simp only [List.mem_singleton]
    rintro rfl
    have := ((own_below HL.out HB2.out).lt _ hg).1
    omega) (by decide)))
  clear h3 hb3 hk3 H2
  go_wp2_with fail
  refine (H3.out.put Be L _ HL3.out (by omega) (by omega)).mono ?_
  rintro e w4 ⟨rfl, h4, hb4, hk4⟩
  have H4 := Lib.hid h4
  have HF := Lib.hid (And.intro (HB3.out.trans hb4) (HK3.out.trans hk4))
  clear hb4 hk4 H3 h4
  have HLn := Lib.hid (fun W' (hb : Below w4.heap.size w4 W') => show Calls Tryz.prog 52 #[.pointer (some ⟨mb, 0, none⟩)] W' fun e w' => e = .returned (.int .i64 (putAll M L).length) ∧ w' = W' from by
    obtain ⟨u, h1, h2⟩ := (H4.out.below hb).mem
    exact len_any W' mb u false (putAll M L) h1 (OwnI.rd h2))
  have HLa := Lib.hid (fun W' (hb : Below w4.heap.size w4 W') => (H4.out.below hb).log.last)
  have HFi := Lib.hid (fun W' (hb : Below w4.heap.size w4 W') => (H4.out.below hb).log.first)
  have X0 := Lib.hid ((Below.refl w4.heap.size w4).drew)
  have HSC := Lib.hid (show ∀ W', Below w4.heap.size w4 W' → W'.cell? ⟨sb, 0, none⟩ = some (.pointer (some ⟨mb, 0, none⟩)) ∧ W'.cell? ⟨sb, 6, none⟩ = some (.pointer (some ⟨lb, 0, none⟩)) ∧ W'.cell? ⟨sb, 8, none⟩ = some (.int .i64 (sumE (putAll M L) : Nat)) ∧ W'.cell? ⟨sb, 9, none⟩ = some (.int .i64 ((logged + (1 + text.size) : Nat) : Int)) from fun W' hb => ⟨(H4.out.below hb).st.cell 0, (H4.out.below hb).st.cell 6, (H4.out.below hb).st.cell 8, (H4.out.below hb).st.cell 9⟩)
  have k1 := HLEN.out
  have k2 := HSUM.out
  obtain ⟨ml, hml⟩ : ∃ ml, ml = (putAll M L).length := ⟨_, rfl⟩
  obtain ⟨ms, hms⟩ : ∃ ms, ms = sumE (putAll M L) := ⟨_, rfl⟩
  obtain ⟨lk, hlk⟩ : ∃ lk, lk = logged + (1 + text.size) := ⟨_, rfl⟩
  rw [← hms, ← hlk] at HSC
  rw [← hml] at HLn
  have c1 : (ml : Int) < 128 := by omega
  have c2 : (ms : Int) < 32768 := by omega
  have c3 : (lk : Int) < 131072 := by omega
  have c4 : IntKind.i64.wrap (((n + 1 : Nat) : Int) - 1) = (n : Int) := by rw [IntKind.wrap_i64]; omega
  have c5 : (n : Int) < 128 := by omega
  have HFF := Lib.hid (show SD A B w4 sb mb db m lb nb (putAll M L) (logged + (1 + (4 * L.length + sumE L))) (n + 1) (z + (8 + (1 + (4 * L.length + sumE L)))) from by have := H4.out; rwa [hts] at this)
  clear hml hms hlk k1 k2 hts
  generalize hn1 : n + 1 = n1 at *
  have HN1 := Lib.hid hn1
  clear hn1
  go_wp2_with fail
  go_region_held3 (fun W' => W'.cell? ⟨sb, 0, none⟩ = some (.pointer (some ⟨mb, 0, none⟩)) ∧ W'.cell? ⟨sb, 6, none⟩ = some (.pointer (some ⟨lb, 0, none⟩)) ∧ W'.cell? ⟨sb, 8, none⟩ = some (.int .i64 (ms : Nat)) ∧ W'.cell? ⟨sb, 9, none⟩ = some (.int .i64 (lk : Int)))
    (first | with_reducible exact HSC.out _ X0.out | assumption)
    (first
      | (go_at_call 52; ((with_reducible refine (HLn.out _ X0.out).mono ?_); rintro e w5 ⟨rfl, rfl⟩))
      | (go_at_call 53; ((with_reducible refine (HLa.out _ X0.out).mono ?_); rintro e w5 ⟨rfl, rfl⟩))
      | (go_at_call 54; ((with_reducible refine (HFi.out _ X0.out).mono ?_); rintro e w5 ⟨rfl, rfl⟩)))
  all_goals
    go_wp2_with fail
    go_ret
    rw [HN1.out]
    exact ⟨rfl, HFF.out.drew, HF.out.1.drew, HF.out.2.trans (Kx.of_below (Below.refl _ _).drew)⟩
end Go.Proofs.YtcohbfabcdjefaaGreatDoor
