/-
  The walk of DiskCounts.
-/
import Derived.Test.YtmhflhbogkkblaaV
import Derived.Deep.QuietTactic
import Derived.BigQuiet
namespace Go.Proofs.Ytmhflhbogkkblaa
open Go.RowKit Go.Maps

theorem StrsAt.any {w : World} {B : Nat} {v : Value} {l : List Nm} (h : StrsAt w B v l) :
    ∃ a cap, v = .slice a l.length cap ∧ (0 < l.length → ∃ g, a = some ⟨g, 0, none⟩ ∧ ∀ i (hi : i < l.length), w.cell? ⟨g, i, none⟩ = some (.string ⟨l[i].toArray⟩)) := by
  by_cases hl : l = []
  · subst hl
    exact ⟨none, 0, h.2.2 rfl, fun h => absurd h (by simp)⟩
  · obtain ⟨g, cap, hv, _, _, hc⟩ := h.row hl
    exact ⟨_, cap, hv, fun _ => ⟨g, rfl, hc⟩⟩
theorem no_such_max : (ByteArray.size ⟨#[110, 111, 45, 115, 117, 99, 104]⟩) ≤ maxLen := by unfold maxLen; simp [ByteArray.size]
theorem less_before : ∀ a b : Nm, Op.bytesLess a b = bytesBefore a b
  | [], [] => rfl
  | [], _ :: _ => rfl
  | _ :: _, [] => rfl
  | a :: x, b :: y => by simp only [Op.bytesLess, bytesBefore, less_before x y]
theorem names_not_le {F : Fs} (h : F.Pairwise (fun x y => bytesBefore x.1 y.1 = true)) {J : Nat} (hJ : J + 1 < F.length) :
    (Op.bytesLess F[J + 1].1 (F[J]'(by omega)).1 || F[J + 1].1 == (F[J]'(by omega)).1) = false := by
  have hlt : (F[J]'(by omega)).1 < F[J + 1].1 := (before_lt _ _).1 (List.pairwise_iff_getElem.1 h J (J + 1) (by omega) hJ (by omega))
  rw [less_before, Bool.or_eq_false_iff]
  refine ⟨?_, ?_⟩
  · rw [Bool.eq_false_iff]
    intro e
    exact absurd (List.lt_trans hlt ((before_lt _ _).1 e)) (List.lt_irrefl _)
  · rw [beq_eq_false_iff_ne]
    intro e
    rw [e] at hlt
    exact List.lt_irrefl _ hlt
theorem total_step {F : Fs} (h : total F ≤ 268435456) (i : Nat) (hi : i < F.length) : total (F.take i) + F[i].2.data.size ≤ 268435456 := by
  have := total_take F i hi
  have h2 : total (F.take (i + 1)) ≤ total F := by
    unfold total
    conv => rhs; rw [← List.take_append_drop (i + 1) F, List.map_append, List.sum_append]
    omega
  omega
set_option maxRecDepth 100000 in
set_option maxHeartbeats 2000000 in
theorem counts_walk (w : World) (la : Option Addr) (ln lc : Nat) (room : Int) (hr : -9223372036854775808 ≤ room ∧ room ≤ 9223372036854775807) (hln : ln ≤ 9223372036854775807) (ls : List Nat) (hls : ls.length = ln) (hlt : ∀ x ∈ ls, x < 65536)
    (hl : 0 < ln → ∃ lb lo, la = some ⟨lb, lo, none⟩ ∧ ∀ i, i < ln → w.cell? ⟨lb, lo + i, none⟩ = some (.int .u16 (ls.getD i 0 : Nat))) :
    Calls Try.prog 4 #[.slice la ln lc, .int .i64 room] w fun e w' => e = .returned (.bool true) ∧ Below w.heap.size w w' := by
  have HL := Lib.hid hl
  clear hl
  go_enter Try.func4, Try.ntmps4
  go_wp2_with fail
  refine (awake_true _).mono ?_
  rintro e w1 ⟨rfl, hb1⟩
  have HB1 := Lib.hid hb1
  clear hb1
  by_cases h300 : 300 < ln
  · go_wp2_with fail
    go_ret
    exact ⟨rfl, HB1.out⟩
  · go_wp2_with fail
    refine (new_any _).mono ?_
    rintro e w2 ⟨rfl, hd2, hb2⟩
    have H2 := Lib.hid hd2
    have HB2 := Lib.hid (HB1.out.trans (hb2.mono HB1.out.size))
    have HS1 := Lib.hid HB1.out.size
    clear hb2 hd2
    go_wp2_with fail
    refine (room_any _ _ _ _ H2.out room).mono ?_
    rintro e w3 ⟨rfl, hd3, hb3⟩
    have H3 := Lib.hid hd3
    have HB3 := Lib.hid (HB2.out.trans (hb3.below HB2.out.size (by have := HS1.out; simp; omega)))
    clear hb3 hd3
    go_wp2_with fail
    have hS3 : w1.heap.size + 1 < w3.heap.size := H3.out.lt
    have HC0 := Lib.hid (show Calm { d0 with room := max room (-1) } ∧ Short ({ d0 with room := max room (-1) } : Dk).fs ∧ ({ d0 with room := max room (-1) } : Dk).room = max room (-1) from
      ⟨⟨⟨by simp [d0], by simp [d0], by simp [d0], by dsimp only; omega, by dsimp only; omega, by simp [d0], by simp [d0], by simp [d0], by simp [d0]⟩, rfl, rfl⟩, by intro x hx; simp [d0] at hx, rfl⟩)
    go_loopw [6] (fun i wr => ∃ (I : Nat) (d : Dk), I ≤ ln ∧ i = .int .i64 I ∧ Hid (DAt wr (w1.heap.size + 1) w1.heap.size d) ∧ Hid (Calm d ∧ Short d.fs ∧ d.room = max room (-1)) ∧ Hid (Below w.heap.size w wr)) (fun i _ => ln - (intOf i).toNat)
    case atStart => exact ⟨0, _, Nat.zero_le _, rfl, H3, HC0, HB3⟩
    case round =>
      obtain ⟨I, d, hI, rfl, HD, HC, HB⟩ := hrel
      by_cases hlt2 : I < ln
      · obtain ⟨lb, lo, rfl, hcl⟩ := HL.out (by omega)
        have hc0 := hcl I hlt2
        have hc := (HB.out.cell (p := ⟨lb, lo + I, none⟩) (cell_lt hc0)).trans hc0
        have hx : ls.getD I 0 < 65536 := by
          have hi : I < ls.length := by omega
          rw [List.getD_eq_getElem?_getD, List.getElem?_eq_getElem hi]
          exact hlt _ (List.getElem_mem hi)
        generalize ls.getD I 0 = n at *
        clear hcl hc0
        go_wp2_with fail
        refine (used_any _ _ _ d HD.out HC.out.1.fit).mono ?_
        rintro e w4 ⟨rfl, hb4⟩
        have HD4 := Lib.hid (HD.out.below hb4)
        have HB4 := Lib.hid (HB.out.trans (hb4.mono HB.out.size))
        have hc4 := (hb4.cell (p := ⟨lb, lo + I, none⟩) (cell_lt hc)).trans hc
        clear hc hb4
        go_wp2_with fail
        refine (step_any _ _ _ d n hx HD4.out HC.out.1.fit).mono ?_
        rintro e w5 ⟨rfl, hd5, hb5⟩
        have HD5 := Lib.hid hd5
        have HS4 := Lib.hid HB4.out.size
        have HB5 := Lib.hid (HB4.out.trans (hb5.below HB4.out.size (by have := HS1.out; simp; omega)))
        have HC5 := Lib.hid (show Calm (stepD d n) ∧ Short (stepD d n).fs ∧ (stepD d n).room = max room (-1) from ⟨(HC.out.1.step n).1, HC.out.1.short n HC.out.2.1, (HC.out.1.step n).2.trans HC.out.2.2⟩)
        have HSU := Lib.hid (HC.out.1.sums n)
        clear hd5 hb5
        generalize hdd : stepD d n = dd at *
        clear hdd
        go_wp2_with fail
        refine (list_any _ _ _ dd HD5.out HC5.out.1.fit).mono ?_
        rintro e w6 ⟨⟨v, rfl, hs⟩, hb6⟩
        have HD6 := Lib.hid (HD5.out.below hb6)
        have HB6 := Lib.hid (HB5.out.trans (hb6.mono HB5.out.size))
        clear hb6
        obtain ⟨na, ncap, rfl, hnc⟩ := hs.any
        have HNC := Lib.hid hnc
        clear hs hnc
        rw [show (names dd.fs).length = dd.fs.length by simp [names]]
        go_wp2_with fail
        have HNC2 := Lib.hid (show 0 < dd.fs.length → ∃ g, na = some ⟨g, 0, none⟩ ∧ ∀ i (hi : i < dd.fs.length), w6.cell? ⟨g, i, none⟩ = some (.string ⟨(dd.fs[i]).1.toArray⟩) from fun h0 => by
          obtain ⟨g, hg, hh⟩ := HNC.out (by simpa [names] using h0)
          exact ⟨g, hg, fun i hi => by have := hh i (by simpa [names] using hi); simpa [names] using this⟩)
        go_loopw [10, 11] (fun nn k wr2 => ∃ K : Nat, K ≤ dd.fs.length ∧ k = .int .i64 K ∧ nn = .int .i64 (total (dd.fs.take K)) ∧ Hid (DAt wr2 (w1.heap.size + 1) w1.heap.size dd) ∧ Hid (Below w.heap.size w wr2) ∧
          Hid (0 < dd.fs.length → ∃ g, na = some ⟨g, 0, none⟩ ∧ ∀ i (hi : i < dd.fs.length), wr2.cell? ⟨g, i, none⟩ = some (.string ⟨(dd.fs[i]).1.toArray⟩))) (fun _ k _ => dd.fs.length - (intOf k).toNat)
        case atStart => exact ⟨0, Nat.zero_le _, rfl, rfl, HD6, HB6, HNC2⟩
        case round =>
          obtain ⟨K, hK, rfl, rfl, HD7, HB7, HN7⟩ := hrel
          by_cases hlt3 : K < dd.fs.length
          · obtain ⟨g, rfl, hng⟩ := HN7.out (by omega)
            have q1 := hng K hlt3
            have hnmK := HC5.out.1.fit.nm _ (List.getElem_mem hlt3)
            have hrd := HC5.out.1.read_at K hlt3
            have HTK := Lib.hid (total_take dd.fs K hlt3)
            have hdl := HC5.out.1.fit.len
            have htl := total_step (by have := total_le dd.fs (fun x hx => HC5.out.1.fit.sz x hx); have := HC5.out.1.fit.len; omega) K hlt3
            go_wp2_with fail
            have c8 := read_any wr _ _ dd ⟨(dd.fs[K]).1.toArray⟩ HD7.out (by unfold maxLen; simp [ByteArray.size]; omega)
            rw [show readE dd (ByteArray.data ⟨(dd.fs[K]).1.toArray⟩).toList = 0 from by simpa using hrd.1, show readS dd (ByteArray.data ⟨(dd.fs[K]).1.toArray⟩).toList = (dd.fs[K]).2.data from by simpa using hrd.2] at c8
            refine c8.mono ?_
            clear c8
            rintro e w8 ⟨rfl, hb8⟩
            have HD8 := Lib.hid (HD7.out.below hb8)
            have HB8 := Lib.hid (HB7.out.trans (hb8.mono HB7.out.size))
            have HN8 := Lib.hid (show 0 < dd.fs.length → ∃ g', some (⟨g, 0, none⟩ : Addr) = some ⟨g', 0, none⟩ ∧ ∀ i (hi : i < dd.fs.length), w8.cell? ⟨g', i, none⟩ = some (.string ⟨(dd.fs[i]).1.toArray⟩) from fun _ => ⟨g, rfl, fun i hi => (hb8.cell (cell_lt (hng i hi))).trans (hng i hi)⟩)
            clear hb8 q1 hng
            rcases Nat.eq_zero_or_pos K with rfl | hKp
            · clear hrd
              generalize dd.fs[0] = xa at *
              rw [show total (dd.fs.take 0) = 0 from rfl] at htl HTK ⊢
              go_wp2_with fail
              go_region
              go_wp2_with fail
              go_roundw
              case rel => exact ⟨1, by omega, rfl, by rw [HTK.out]; go_num, Lib.hid HD8.out.drew, Lib.hid HB8.out.drew, Lib.hid HN8.out⟩
              case measure => simp [intOf]; omega
            · obtain ⟨J, rfl⟩ : ∃ J, K = J + 1 := ⟨K - 1, by omega⟩
              obtain ⟨g', hgg, hng⟩ := HN8.out (by omega)
              cases hgg
              have q1 := hng (J + 1) hlt3
              have q2 := hng J (by omega)
              have hle4 : (Op.bytesLess dd.fs[J + 1].1 (dd.fs[J]'(by omega)).1 || dd.fs[J + 1].1 == (dd.fs[J]'(by omega)).1) = false := names_not_le HC5.out.1.fit.up hlt3
              clear hng hrd
              generalize dd.fs[J + 1] = xa at *
              generalize dd.fs[J]'(by omega) = xb at *
              go_wp2_with fail
              have g1 : decide ((0 : Int) < (J : Int) + 1) = true := by simp
              have g2 : ((J : Int) + 1) < (dd.fs.length : Int) := by omega
              have g3 : (0 : Int) ≤ (J : Int) + 1 := by omega
              have g4 : IntKind.i64.wrap (J : Int) = (J : Int) := IntWalk.i64_in _ (by have := HC5.out.1.fit.len; omega)
              have g5 : ((J : Int) + 1).toNat = J + 1 := by omega
              have g6 : (J : Int) < (dd.fs.length : Int) := by omega
              go_quiet (fail)
              clear g1 g2 g3 g4 g5 g6
              go_wp2_with fail
              go_roundw
              case rel => exact ⟨J + 1 + 1, by omega, by go_num, by rw [HTK.out]; go_num, Lib.hid (HD8.out.drewN nq), Lib.hid (below_drewN HB8.out nq), Lib.hid HN8.out⟩
              case measure => simp [intOf]; omega
          · have eT : dd.fs.take K = dd.fs := List.take_of_length_le (by omega)
            rw [eT]
            go_wp2_with fail
            have c8 := read_any wr _ _ dd ⟨#[110, 111, 45, 115, 117, 99, 104]⟩ HD7.out no_such_max
            rw [show readE dd (ByteArray.data ⟨#[110, 111, 45, 115, 117, 99, 104]⟩).toList = 4 from HC5.out.1.read_none (HC5.out.2.1.none (by simp))] at c8
            refine c8.mono ?_
            clear c8
            rintro e w8 ⟨rfl, hb8⟩
            have HD8 := Lib.hid (HD7.out.below hb8)
            have HB8 := Lib.hid (HB7.out.trans (hb8.mono HB7.out.size))
            clear hb8
            go_wp2_with fail
            refine (used_any _ _ _ dd HD8.out HC5.out.1.fit).mono ?_
            rintro e w9 ⟨rfl, hb9⟩
            have HD9 := Lib.hid (HD8.out.below hb9)
            have HB9 := Lib.hid (HB8.out.trans (hb9.mono HB8.out.size))
            clear hb9
            go_wp2_with fail
            all_goals first
              | exact ⟨⟨I + 1, dd, by omega, by simp, HD9, HC5, HB9⟩, by simp [intOf]; omega⟩
              | (exfalso
                 have s1 := HSU.out
                 have s2 := HC.out.2.2
                 unfold Sums at s1
                 simp only [s2] at s1
                 omega)
      · go_wp2_with fail
        go_ret
        exact ⟨rfl, HB.out⟩
end Go.Proofs.Ytmhflhbogkkblaa
