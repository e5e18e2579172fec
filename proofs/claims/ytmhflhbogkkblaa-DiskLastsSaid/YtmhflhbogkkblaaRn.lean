/-
  The walk of DiskRenames.
-/
import Derived.Test.YtmhflhbogkkblaaIn
import Derived.Test.YtmhflhbogkkblaaW
namespace Go.Proofs.Ytmhflhbogkkblaa
open Go.RowKit Go.Maps

theorem In.act {w0 w : World} {b m : Nat} {d : Dk} (h : In w0 w b m d) (n : Nat) (hn : n < 65536) :
    Calls Try.prog 17 #[.pointer (some ⟨b, 0, none⟩), .int .u16 n] w fun e w' => e = .returned (.int .i64 (stepE d n)) ∧ In w0 w' b m (stepD d n) :=
  (step_any w b m d n hn h.dat h.ok).mono fun _ _ ⟨he, hd, hb⟩ => ⟨he, h.step hd hb (h.ok.step n)⟩
theorem four_name (n : Nat) : nameB (fourB n).data.toList = true := by
  unfold fourB
  split <;> decide +kernel
theorem four_eq {a b : Nat} (h : ((fourB a).toList == (fourB b).toList) = true) : fourB a = fourB b := by
  have h2 : (fourB a).toList = (fourB b).toList := by simpa using h
  rw [ByteArray.toList_eq, ByteArray.toList_eq] at h2
  exact ByteArray.ext (Array.toList_inj.1 h2)
theorem data_ne {a b : ByteArray} (h : a ≠ b) : a.data.toList ≠ b.data.toList := fun e => h (ByteArray.ext (Array.toList_inj.1 e))
theorem toList_ne {a b : ByteArray} (h : a ≠ b) : (a.toList == b.toList) = false := by
  rw [beq_eq_false_iff_ne]
  intro e
  rw [ByteArray.toList_eq, ByteArray.toList_eq] at e
  exact h (ByteArray.ext (Array.toList_inj.1 e))

theorem Calm.rename_some {d : Dk} (h : Calm d) {k j : Nm} {y : Fl} (hk : fget d.fs k = some y) (hn : nameB j = true) : renameE d k j = 0 ∧ renameD d k j = { d with fs := fput (fdel d.fs k) j y } := by
  refine ⟨by simp [renameE, h.up, hk, hn, h.chgE], ?_⟩
  simp [renameD, h.up, hk, hn, h.chg]
theorem Calm.rename_self {d : Dk} (h : Calm d) {k : Nm} {y : Fl} (hk : fget d.fs k = some y) (hn : nameB k = true) : renameD d k k = d := by
  rw [(h.rename_some hk hn).2, Ytmhflhbogkkblaa.rename_self h.fit.up hk]
/-- what a rename to another name makes of a calm disk -/
structure Moved (d : Dk) (k j : Nm) (y : Fl) (d2 : Dk) : Prop where
  rd : readE d k = 0
  rs : readS d k = y.data
  e : renameE d k j = 0
  dis : renameD d k j = d2
  other : ∀ n, n ≠ k → n ≠ j → readE d2 n = readE d n ∧ readS d2 n = readS d n
  jE : readE d2 j = 0
  jS : readS d2 j = y.data
  kE : readE d2 k = 4
  sum : (total d2.fs : Int) = if (fget d.fs j).isSome then (total d.fs : Int) - (readS d j).size else total d.fs
  back : fget d.fs j = none → renameE d2 j k = 0 ∧ renameD d2 j k = d
theorem Calm.moved {d : Dk} (h : Calm d) {k j : Nm} {y : Fl} (hk : fget d.fs k = some y) (hn : nameB j = true) (hnk : nameB k = true) (hne : k ≠ j) : Moved d k j y { d with fs := fput (fdel d.fs k) j y } := by
  have hup := h.fit.up
  have e1 : fget (fput (fdel d.fs k) j y) j = some y := fget_put_same (up_del hup _) _ _
  have e3 : fget (fput (fdel d.fs k) j y) k = none := by rw [fget_put_ne (up_del hup _) _ _ hne, fget_del_same]
  have hr := h.rename_some hk hn
  have hc : Calm { d with fs := fput (fdel d.fs k) j y } := by
    have hf := h.fit.rename k j
    rw [hr.2] at hf
    exact ⟨hf, h.up, h.fu⟩
  refine ⟨by simp [readE, h.up, hk], by simp [readS, h.up, hk], hr.1, hr.2, fun n h1 h2 => ?_, by simp [readE, h.up, e1], by simp [readS, h.up, e1], by simp [readE, h.up, e3], ?_, fun hj => ?_⟩
  · have e : fget (fput (fdel d.fs k) j y) n = fget d.fs n := by rw [fget_put_ne (up_del hup _) _ _ h2, fget_del_ne _ h1]
    simp [readE, readS, e]
  · have s1 := total_put (fdel d.fs k) j y
    have s2 := total_del hup hk
    cases hj : fget d.fs j with
    | none =>
      have s3 : fdel (fdel d.fs k) j = fdel d.fs k := del_none (by rw [fget_del_ne _ hne.symm]; exact hj)
      rw [s3] at s1
      show ((total (fput (fdel d.fs k) j y) : Nat) : Int) = _
      simp only [Option.isSome_none, Bool.false_eq_true, if_false]
      omega
    | some z =>
      have s3 := total_del (up_del hup k) (show fget (fdel d.fs k) j = some z by rw [fget_del_ne _ hne.symm]; exact hj)
      have s4 : readS d j = z.data := by simp [readS, h.up, hj]
      show ((total (fput (fdel d.fs k) j y) : Nat) : Int) = _
      simp only [Option.isSome_some, if_true, s4]
      omega
  · have hb := hc.rename_some (k := j) (j := k) (y := y) e1 hnk
    refine ⟨hb.1, hb.2.trans ?_⟩
    show ({ d with fs := fput (fdel (fput (fdel d.fs k) j y) j) k y } : Dk) = d
    rw [rename_back hup hne hk hj]

set_option maxRecDepth 100000 in
set_option maxHeartbeats 2000000 in
theorem renames_walk (w : World) (la : Option Addr) (ln lc : Nat) (p q : Nat) (hp : p < 256) (hq : q < 256) (hln : ln ≤ 9223372036854775807) (ls : List Nat) (hls : ls.length = ln) (hlt : ∀ x ∈ ls, x < 65536)
    (hl : 0 < ln → ∃ lb lo, la = some ⟨lb, lo, none⟩ ∧ ∀ i, i < ln → w.cell? ⟨lb, lo + i, none⟩ = some (.int .u16 (ls.getD i 0 : Nat))) :
    Calls Try.prog 6 #[.slice la ln lc, .int .u8 p, .int .u8 q] w fun e w' => e = .returned (.bool true) ∧ Below w.heap.size w w' := by
  have HL := Lib.hid hl
  clear hl
  go_enter Try.func6, Try.ntmps6
  go_wp2_with fail
  refine (awake_true _).mono ?_
  rintro e w1 ⟨rfl, hb1⟩
  have HB1 := Lib.hid hb1
  clear hb1
  by_cases h300 : 300 < ln
  · go_wp2_with fail
    go_ret
    exact ⟨rfl, HB1.out⟩
  · go_wp2_with fail
    refine (In.new HB1.out).mono ?_
    rintro e w2 ⟨rfl, h2⟩
    have H2 := Lib.hid h2
    clear h2
    have HC0 := Lib.hid (show Calm d0 from ⟨Fit.d0, rfl, rfl⟩)
    go_wp2_with fail
    go_loopw [8] (fun i wr => ∃ (I : Nat) (d : Dk), I ≤ ln ∧ i = .int .i64 I ∧ Hid (In w wr (w1.heap.size + 1) w1.heap.size d) ∧ Hid (Calm d)) (fun i _ => ln - (intOf i).toNat)
    case atStart => exact ⟨0, _, Nat.zero_le _, rfl, H2, HC0⟩
    case round =>
      obtain ⟨I, d, hI, rfl, HD, HC⟩ := hrel
      by_cases hlt2 : I < ln
      · obtain ⟨lb, lo, rfl, hcl⟩ := HL.out (by omega)
        have hc0 := hcl I hlt2
        have hc := (HD.out.bel.cell (p := ⟨lb, lo + I, none⟩) (cell_lt hc0)).trans hc0
        have hx : ls.getD I 0 < 65536 := by
          have hi : I < ls.length := by omega
          rw [List.getD_eq_getElem?_getD, List.getElem?_eq_getElem hi]
          exact hlt _ (List.getElem_mem hi)
        generalize ls.getD I 0 = n at *
        clear hcl hc0
        go_wp2_with fail
        refine (HD.out.act n hx).mono ?_
        rintro e w4 ⟨rfl, h4⟩
        have H4 := Lib.hid h4
        clear h4
        go_wp2_with fail
        exact ⟨⟨I + 1, _, by omega, by simp, H4, Lib.hid (HC.out.step n).1⟩, by simp [intOf]; omega⟩
      · clear H2 HC0 HL
        go_wp2_with fail
        refine (four_any _ p hp).mono ?_
        rintro e w3 ⟨rfl, hb3⟩
        have H3 := Lib.hid (HD.out.quiet hb3)
        clear hb3
        go_wp2_with fail
        refine (four_any _ q hq).mono ?_
        rintro e w4 ⟨rfl, hb4⟩
        have H4 := Lib.hid (H3.out.quiet hb4)
        clear hb4
        go_wp2_with fail
        refine (H4.out.twin).mono ?_
        rintro e w5 ⟨t, n, rfl, h5⟩
        have H5 := Lib.hid h5
        clear h5
        have hup := HC.out.up
        have hpw := HC.out.fit.up
        have hmA := fourB_max p
        have hmB := fourB_max q
        have hnB := four_name q
        have hnA := four_name p
        generalize hAe : fourB p = A at *
        generalize hBe : fourB q = B at *
        cases hga : fget d.fs A.data.toList with
        | none =>
          have HE := Lib.hid (show readE d A.data.toList = 4 ∧ renameE d A.data.toList B.data.toList = 4 ∧ renameD d A.data.toList B.data.toList = d by simp [readE, renameE, renameD, hup, hga])
          clear hup hpw hnA hnB hAe hBe hga hp hq
          go_wp2_with fail
          refine (H5.out.read hmA rfl HE.out.1).mono ?_
          rintro e w6 ⟨rfl, h6⟩
          have H6 := Lib.hid h6
          clear h6
          go_wp2_with fail
          refine (H6.out.read hmB rfl rfl).mono ?_
          rintro e w7 ⟨rfl, h7⟩
          have H7 := Lib.hid h7
          clear h7
          go_wp2_with fail
          refine (H7.out.rename hmA hmB HE.out.2.1 HE.out.2.2).mono ?_
          rintro e w8 ⟨rfl, h8⟩
          have H8 := Lib.hid h8
          clear h8
          go_wp2_with fail
          refine (H8.out.same rfl).mono ?_
          rintro e w9 ⟨rfl, h9⟩
          have H9 := Lib.hid h9
          clear h9
          go_wp2_with fail
          go_ret
          exact ⟨rfl, H9.out.l.bel⟩
        | some y =>
          by_cases hab : A = B
          · subst hab
            have HE := Lib.hid (show readE d A.data.toList = 0 ∧ renameE d A.data.toList A.data.toList = 0 ∧ renameD d A.data.toList A.data.toList = d from
              ⟨by simp [readE, hup, hga], (HC.out.rename_some hga hnA).1, HC.out.rename_self hga hnA⟩)
            clear hup hpw hnA hnB hAe hBe hga hp hq
            go_wp2_with fail
            refine (H5.out.read hmA rfl HE.out.1).mono ?_
            rintro e w6 ⟨rfl, h6⟩
            have H6 := Lib.hid h6
            clear h6
            go_wp2_with fail
            refine (H6.out.read hmB rfl rfl).mono ?_
            rintro e w7 ⟨rfl, h7⟩
            have H7 := Lib.hid h7
            clear h7
            go_wp2_with fail
            refine (H7.out.rename hmA hmB HE.out.2.1 HE.out.2.2).mono ?_
            rintro e w8 ⟨rfl, h8⟩
            have H8 := Lib.hid h8
            clear h8
            go_wp2_with fail
            refine (H8.out.same rfl).mono ?_
            rintro e w9 ⟨rfl, h9⟩
            have H9 := Lib.hid h9
            clear h9
            go_wp2_with fail
            go_ret
            exact ⟨rfl, H9.out.l.bel⟩
          · have hne := data_ne hab
            have hab2 := toList_ne hab
            have HAB := Lib.hid hab
            clear hab
            have HM := Lib.hid (HC.out.moved hga hnB hnA hne)
            have HBK := Lib.hid hBe
            have HAK := Lib.hid hAe
            have hcl2 : Calm ({ d with fs := fput (fdel d.fs A.data.toList) B.data.toList y } : Dk) ∨ True := .inr trivial
            clear hcl2 hnB hnA hga hup hpw hp hq hAe hBe hne
            generalize ({ d with fs := fput (fdel d.fs A.data.toList) B.data.toList y } : Dk) = d2 at *
            go_wp2_with fail
            refine (H5.out.read hmA HM.out.rs HM.out.rd).mono ?_
            rintro e w6 ⟨rfl, h6⟩
            have H6 := Lib.hid h6
            clear h6
            cases hgb : fget d.fs B.data.toList with
            | none =>
              have HGB := Lib.hid hgb
              have HRB := Lib.hid (show readE d B.data.toList = 4 from HC.out.read_none hgb)
              have HSU := Lib.hid (show (total d2.fs : Int) = total d.fs by have := HM.out.sum; rwa [hgb] at this)
              clear hgb
              go_wp2_with fail
              refine (H6.out.read hmB rfl HRB.out).mono ?_
              rintro e w7 ⟨rfl, h7⟩
              have H7 := Lib.hid h7
              clear h7
              go_wp2_with fail
              refine (H7.out.rename hmA hmB HM.out.e HM.out.dis).mono ?_
              rintro e w8 ⟨rfl, h8⟩
              have H8 := Lib.hid h8
              clear h8
              go_wp2_with fail
              refine (H8.out.read hmB HM.out.jS HM.out.jE).mono ?_
              rintro e w9 ⟨rfl, h9⟩
              have H9 := Lib.hid h9
              clear h9
              go_wp2_with fail
              refine (H9.out.read hmA rfl HM.out.kE).mono ?_
              rintro e w10 ⟨rfl, h10⟩
              have H10 := Lib.hid h10
              clear h10
              go_wp2_with fail
              refine (H10.out.symm.used).mono ?_
              rintro e w11 ⟨rfl, h11⟩
              have H11 := Lib.hid h11.symm
              clear h11
              go_wp2_with fail
              refine (H11.out.usedIs HSU.out).mono ?_
              rintro e w12 ⟨rfl, h12⟩
              have H12 := Lib.hid h12
              clear h12
              go_wp2_with fail
              go_loopw [22] (fun i wr => ∃ K : Nat, K ≤ 4 ∧ i = .int .u8 K ∧ Hid (Tw w wr (w1.heap.size + 1) w1.heap.size d2 t n d)) (fun i _ => 4 - (intOf i).toNat)
              case atStart => exact ⟨0, by omega, rfl, H12⟩
              case round =>
                obtain ⟨K, hK, rfl, HT⟩ := hrel
                by_cases hlt3 : K < 4
                · by_cases hKA : fourB K = A
                  · have hk1 : ((fourB K).toList == A.toList) = true := by rw [hKA]; simp
                    have HKA := Lib.hid hKA
                    clear hKA
                    go_wp2_with fail
                    refine (four_any _ K (by omega)).mono ?_
                    rintro e w13 ⟨rfl, hb13⟩
                    have H13 := Lib.hid (HT.out.quiet hb13)
                    clear hb13
                    go_wp2_with fail
                    exact ⟨⟨K + 1, by omega, by go_num, H13⟩, by simp [intOf]; omega⟩
                  · have hk1 := toList_ne hKA
                    have HKA := Lib.hid hKA
                    clear hKA
                    by_cases hKB : fourB K = B
                    · have hk2 : ((fourB K).toList == B.toList) = true := by rw [hKB]; simp
                      have HKB := Lib.hid hKB
                      clear hKB
                      go_wp2_with fail
                      refine (four_any _ K (by omega)).mono ?_
                      rintro e w13 ⟨rfl, hb13⟩
                      have H13 := Lib.hid (HT.out.quiet hb13)
                      clear hb13
                      go_wp2_with fail
                      refine (four_any _ K (by omega)).mono ?_
                      rintro e w14 ⟨rfl, hb14⟩
                      have H14 := Lib.hid (H13.out.quiet hb14)
                      clear hb14
                      go_wp2_with fail
                      exact ⟨⟨K + 1, by omega, by go_num, H14⟩, by simp [intOf]; omega⟩
                    · have hk2 := toList_ne hKB
                      have HO := Lib.hid (HM.out.other _ (data_ne HKA.out) (data_ne hKB))
                      clear hKB
                      go_wp2_with fail
                      refine (four_any _ K (by omega)).mono ?_
                      rintro e w13 ⟨rfl, hb13⟩
                      have H13 := Lib.hid (HT.out.quiet hb13)
                      clear hb13
                      go_wp2_with fail
                      refine (four_any _ K (by omega)).mono ?_
                      rintro e w14 ⟨rfl, hb14⟩
                      have H14 := Lib.hid (H13.out.quiet hb14)
                      clear hb14
                      go_wp2_with fail
                      refine (four_any _ K (by omega)).mono ?_
                      rintro e w15 ⟨rfl, hb15⟩
                      have H15 := Lib.hid (H14.out.quiet hb15)
                      clear hb15
                      go_wp2_with fail
                      refine (H15.out.read (fourB_max K) HO.out.2 HO.out.1).mono ?_
                      rintro e w16 ⟨rfl, h16⟩
                      have H16 := Lib.hid h16
                      clear h16
                      go_wp2_with fail
                      refine (four_any _ K (by omega)).mono ?_
                      rintro e w17 ⟨rfl, hb17⟩
                      have H17 := Lib.hid (H16.out.quiet hb17)
                      clear hb17
                      go_wp2_with fail
                      refine (H17.out.symm.read (fourB_max K) rfl rfl).mono ?_
                      rintro e w18 ⟨rfl, h18⟩
                      have H18 := Lib.hid h18.symm
                      clear h18
                      go_wp2_with fail
                      exact ⟨⟨K + 1, by omega, by go_num, H18⟩, by simp [intOf]; omega⟩
                · go_wp2_with fail
                  refine (HT.out.rename hmB hmA (HM.out.back HGB.out).1 (HM.out.back HGB.out).2).mono ?_
                  rintro e w13 ⟨rfl, h13⟩
                  have H13 := Lib.hid h13
                  clear h13
                  go_wp2_with fail
                  refine (H13.out.same rfl).mono ?_
                  rintro e w14 ⟨rfl, h14⟩
                  have H14 := Lib.hid h14
                  clear h14
                  go_wp2_with fail
                  go_ret
                  exact ⟨rfl, H14.out.l.bel⟩
            | some z =>
              have HGB := Lib.hid hgb
              have HRB := Lib.hid (show readE d B.data.toList = 0 by simp [readE, HC.out.up, hgb])
              have HSU := Lib.hid (show (total d2.fs : Int) = (total d.fs : Int) - (readS d B.data.toList).size by have := HM.out.sum; rwa [hgb] at this)
              have HSZ := Lib.hid (show (readS d B.data.toList).size ≤ total d.fs by
                have := total_del HC.out.fit.up hgb
                have e : readS d B.data.toList = z.data := by simp [readS, HC.out.up, hgb]
                rw [e]; omega)
              clear hgb
              go_wp2_with fail
              refine (H6.out.read hmB rfl HRB.out).mono ?_
              rintro e w7 ⟨rfl, h7⟩
              have H7 := Lib.hid h7
              clear h7
              go_wp2_with fail
              refine (H7.out.rename hmA hmB HM.out.e HM.out.dis).mono ?_
              rintro e w8 ⟨rfl, h8⟩
              have H8 := Lib.hid h8
              clear h8
              go_wp2_with fail
              refine (H8.out.read hmB HM.out.jS HM.out.jE).mono ?_
              rintro e w9 ⟨rfl, h9⟩
              have H9 := Lib.hid h9
              clear h9
              go_wp2_with fail
              refine (H9.out.read hmA rfl HM.out.kE).mono ?_
              rintro e w10 ⟨rfl, h10⟩
              have H10 := Lib.hid h10
              clear h10
              go_wp2_with fail
              refine (H10.out.symm.used).mono ?_
              rintro e w11 ⟨rfl, h11⟩
              have H11 := Lib.hid h11.symm
              clear h11
              have hle : (readS d B.data.toList).size ≤ total d.fs := HSZ.out
              have hle2 : total d.fs ≤ 268435456 := by have := total_le d.fs HC.out.fit.sz; have := HC.out.fit.len; omega
              go_wp2_with fail
              refine (H11.out.usedIs HSU.out).mono ?_
              rintro e w12 ⟨rfl, h12⟩
              have H12 := Lib.hid h12
              clear h12
              go_wp2_with fail
              go_loopw [22] (fun i wr => ∃ K : Nat, K ≤ 4 ∧ i = .int .u8 K ∧ Hid (Tw w wr (w1.heap.size + 1) w1.heap.size d2 t n d)) (fun i _ => 4 - (intOf i).toNat)
              case atStart => exact ⟨0, by omega, rfl, H12⟩
              case round =>
                obtain ⟨K, hK, rfl, HT⟩ := hrel
                by_cases hlt3 : K < 4
                · by_cases hKA : fourB K = A
                  · have hk1 : ((fourB K).toList == A.toList) = true := by rw [hKA]; simp
                    have HKA := Lib.hid hKA
                    clear hKA
                    go_wp2_with fail
                    refine (four_any _ K (by omega)).mono ?_
                    rintro e w13 ⟨rfl, hb13⟩
                    have H13 := Lib.hid (HT.out.quiet hb13)
                    clear hb13
                    go_wp2_with fail
                    exact ⟨⟨K + 1, by omega, by go_num, H13⟩, by simp [intOf]; omega⟩
                  · have hk1 := toList_ne hKA
                    have HKA := Lib.hid hKA
                    clear hKA
                    by_cases hKB : fourB K = B
                    · have hk2 : ((fourB K).toList == B.toList) = true := by rw [hKB]; simp
                      have HKB := Lib.hid hKB
                      clear hKB
                      go_wp2_with fail
                      refine (four_any _ K (by omega)).mono ?_
                      rintro e w13 ⟨rfl, hb13⟩
                      have H13 := Lib.hid (HT.out.quiet hb13)
                      clear hb13
                      go_wp2_with fail
                      refine (four_any _ K (by omega)).mono ?_
                      rintro e w14 ⟨rfl, hb14⟩
                      have H14 := Lib.hid (H13.out.quiet hb14)
                      clear hb14
                      go_wp2_with fail
                      exact ⟨⟨K + 1, by omega, by go_num, H14⟩, by simp [intOf]; omega⟩
                    · have hk2 := toList_ne hKB
                      have HO := Lib.hid (HM.out.other _ (data_ne HKA.out) (data_ne hKB))
                      clear hKB
                      go_wp2_with fail
                      refine (four_any _ K (by omega)).mono ?_
                      rintro e w13 ⟨rfl, hb13⟩
                      have H13 := Lib.hid (HT.out.quiet hb13)
                      clear hb13
                      go_wp2_with fail
                      refine (four_any _ K (by omega)).mono ?_
                      rintro e w14 ⟨rfl, hb14⟩
                      have H14 := Lib.hid (H13.out.quiet hb14)
                      clear hb14
                      go_wp2_with fail
                      refine (four_any _ K (by omega)).mono ?_
                      rintro e w15 ⟨rfl, hb15⟩
                      have H15 := Lib.hid (H14.out.quiet hb15)
                      clear hb15
                      go_wp2_with fail
                      refine (H15.out.read (fourB_max K) HO.out.2 HO.out.1).mono ?_
                      rintro e w16 ⟨rfl, h16⟩
                      have H16 := Lib.hid h16
                      clear h16
                      go_wp2_with fail
                      refine (four_any _ K (by omega)).mono ?_
                      rintro e w17 ⟨rfl, hb17⟩
                      have H17 := Lib.hid (H16.out.quiet hb17)
                      clear hb17
                      go_wp2_with fail
                      refine (H17.out.symm.read (fourB_max K) rfl rfl).mono ?_
                      rintro e w18 ⟨rfl, h18⟩
                      have H18 := Lib.hid h18.symm
                      clear h18
                      go_wp2_with fail
                      exact ⟨⟨K + 1, by omega, by go_num, H18⟩, by simp [intOf]; omega⟩
                · go_wp2_with fail
                  go_ret
                  exact ⟨rfl, HT.out.l.bel⟩
end Go.Proofs.Ytmhflhbogkkblaa
