/-
  check.nth, check.right.
-/
import Derived.Test.YtgoejmheihgpfaaGreatDoorQj
import Derived.Test.YtgoejmheihgpfaaGreatDoorSh
namespace Go.Proofs.YtgoejmheihgpfaaGreatDoor
section
open Go.RowKit

def nthT (saga : Tx) (i : Nat) : Tx := partT saga (Lib.decDigits i)
set_option maxRecDepth 100000 in
theorem nth_any (w : World) (a : Tx) (ha : a.length ≤ 1000000) (i : Nat) (hi : i < 100) : Calls Tryz.prog 60 #[.string (bT a), .int .i64 (i : Nat)] w fun e w' => e = .returned (.string (bT (nthT a i))) ∧ w = w' := by
  have HI := Lib.hid (Tryz.strconv_Itoa_small i hi w)
  have hd : (Lib.decDigits i).length ≤ 1000000 := by
    have h : ∀ j : Fin 100, (Lib.decDigits j).length ≤ 1000000 := by decide +kernel
    exact h ⟨i, hi⟩
  have HP := Lib.hid (show Calls Tryz.prog 55 #[.string (bT a), .string ⟨(Lib.decDigits i).toArray⟩] w _ from part_any w a (Lib.decDigits i) ha hd)
  clear hd
  unfold nthT
  generalize partT a (Lib.decDigits i) = R at *
  generalize (⟨(Lib.decDigits i).toArray⟩ : ByteArray) = D at *
  go_enter Tryz.func60, Tryz.ntmps60
  go_wp2_with fail
  refine HI.out.mono ?_
  rintro e w1 ⟨rfl, rfl⟩
  go_wp2_with fail
  refine HP.out.mono ?_
  rintro e w1 ⟨rfl, rfl⟩
  go_wp2_with fail
  exact bodyPost_ret (v := .string (bT R)) (by simp [results, Tryz.results60, go_sem]) rfl ⟨rfl, rfl⟩
/-- may a sort stand ahead of the last one? -/
def aheadOk (t : Srt) : Bool := (t.kind == 5 || t.kind == 6) && decide (t.name = [])
def lastOk (s : Sch) (t : Srt) : Bool := if t.kind = 1 ∨ t.kind = 2 ∨ t.kind = 3 ∨ t.kind = 4 then decide (t.name = []) else if t.kind = 7 then (recOf s.records t.name).isSome else false
def rightA (s : Sch) (L : List Srt) : Bool := match L.getLast? with
  | none => false
  | some t => decide (L.length ≤ 12) && L.dropLast.all aheadOk && lastOk s t
theorem right_last {s : Sch} {L : List Srt} {n : Nat} (h : L.length = n + 1) : rightA s L = (decide (n + 1 ≤ 12) && (L.take n).all aheadOk && lastOk s (L[n]'(by omega))) := by
  unfold rightA
  rw [List.getLast?_eq_getElem?, show L.length - 1 = n by omega, List.getElem?_eq_getElem (by omega), List.dropLast_eq_take]
  show (decide (L.length ≤ 12) && (L.take (L.length - 1)).all aheadOk && lastOk s (L[n]'(by omega))) = _
  rw [show L.length - 1 = n by omega, show decide (L.length ≤ 12) = decide (n + 1 ≤ 12) from by rw [decide_eq_decide]; omega]
theorem all_stop {p : Srt → Bool} {L : List Srt} {n k : Nat} (hk : k < L.length) (hn : k < n) (h : p L[k] = false) : (L.take n).all p = false := by
  rw [List.all_eq_false]
  refine ⟨L[k], ?_, by simp [h]⟩
  rw [List.mem_take_iff_getElem]
  exact ⟨k, by omega, rfl⟩
theorem all_through {p : Srt → Bool} {L : List Srt} {n : Nat} (h : ∀ j (hj : j < L.length), j < n → p L[j] = true) : (L.take n).all p = true := by
  rw [List.all_eq_true]
  intro x hx
  rw [List.mem_take_iff_getElem] at hx
  obtain ⟨i, hi, rfl⟩ := hx
  exact h i (by omega) (by omega)
set_option maxRecDepth 100000 in
set_option maxHeartbeats 16000000 in
theorem right_any (w : World) (s : Sch) (ur us ug : Value) (hS : SchR w s ur us ug) (hM : Small s) (v : Value) (L : List Srt) (hT : Slc w 2 v L.length (scells L)) (hL : L.length ≤ 40) (hB : ∀ t ∈ L, t.name.length ≤ 200) :
    Calls Tryz.prog 56 #[.agg #[.string (bT s.name), ur, us, ug], v] w fun e w' => e = .returned (.bool (rightA s L)) ∧ Below w.heap.size w w' := by
  obtain ⟨⟨ra, rv, rfl⟩, ⟨sa, sv, rfl⟩, ⟨ga, gv, rfl⟩⟩ := hS.shape
  obtain ⟨ta, tc, rfl⟩ := hT.shape
  have htc : L.length ≤ tc := by obtain ⟨⟨_, _, e, h, _⟩, _⟩ := hT; cases e; exact h
  have htc2 : tc ≤ 9223372036854775807 := by obtain ⟨⟨_, _, e, _, h, _⟩, _⟩ := hT; cases e; exact h
  have HF := Lib.hid (fun W (X : Below w.heap.size w W) a => find_any W s _ _ _ (hS.below X) hM a)
  have HB0 := Lib.hid (bl1 w (.cells #[.string (bT s.name), .slice ra s.records.length rv, .slice sa s.services.length sv, .slice ga s.sagas.length gv] 26))
  have HX := Lib.hid (fun (W : World) (h : Below (w.alloc (.cells #[.string (bT s.name), .slice ra s.records.length rv, .slice sa s.services.length sv, .slice ga s.sagas.length gv] 26)).heap.size (w.alloc (.cells #[.string (bT s.name), .slice ra s.records.length rv, .slice sa s.services.length sv, .slice ga s.sagas.length gv] 26)) W) => show W.heap[w.heap.size]? = some (.cells #[.string (bT s.name), .slice ra s.records.length rv, .slice sa s.services.length sv, .slice ga s.sagas.length gv] 26 (0, 0)) from (h.block _ (by simp)).trans (heap_alloc_new _ _))
  have hz0 : (w.alloc (.cells #[.string (bT s.name), .slice ra s.records.length rv, .slice sa s.services.length sv, .slice ga s.sagas.length gv] 26)).heap.size = w.heap.size + 1 := by simp
  cases hn : L.length with
  | zero =>
    have hR : rightA s L = false := by
      have : L = [] := List.eq_nil_of_length_eq_zero hn
      rw [this]; rfl
    rw [hR]
    clear hR hT HX
    go_enter Tryz.func56, Tryz.ntmps56
    go_wp2_with fail
    exact bodyPost_ret (v := .bool false) (by simp [results, Tryz.results56, go_sem]) rfl ⟨rfl, HB0.out⟩
  | succ n =>
    have HR := Lib.hid (right_last (s := s) hn)
    by_cases h12 : 12 < n + 1
    · have hR : rightA s L = false := by rw [HR.out, decide_eq_false (by omega)]; rfl
      rw [hR]
      clear hR hT HX HR
      go_enter Tryz.func56, Tryz.ntmps56
      go_wp2_with fail
      exact bodyPost_ret (v := .bool false) (by simp [results, Tryz.results56, go_sem]) rfl ⟨rfl, HB0.out⟩
    have HR2 := Lib.hid (show rightA s L = ((L.take n).all aheadOk && lastOk s (L[n]'(by omega))) from by rw [HR.out, decide_eq_true (by omega)]; rfl)
    generalize rightA s L = R at *
    have HN := Lib.hid hn
    obtain ⟨tb, t0, rfl, htb, hcc⟩ := slc_cells hT (by omega)
    have HC := Lib.hid (fun W (X : Below w.heap.size w W) j u (hu : (scells L)[j]? = some u) => (X.cell (p := ⟨tb, t0 + j, none⟩) htb).trans (hcc j u hu))
    have HZ := Lib.hid (show L[n]? = some (L[n]'(by omega)) from List.getElem?_eq_getElem _)
    generalize L[n]'(by omega) = z at *
    rw [hn] at htc
    have hL2 : n + 1 ≤ 12 := by omega
    clear HR hS hM hT hcc hL hn h12
    have HIx := Lib.hid (fun W (X : Below w.heap.size w W) k (hk : k < L.length) => show W.cell? ⟨tb, t0 + k * 2, none⟩ = some (.int .u8 (L[k].kind : Nat)) ∧ W.cell? ⟨tb, t0 + k * 2 + 1, none⟩ = some (.string (bT L[k].name)) from ⟨HC.out W X _ _ (scells_at L k hk).1, (congrArg (fun q => W.cell? ⟨tb, q, none⟩) (Nat.add_assoc _ _ _)).trans (HC.out W X _ _ (scells_at L k hk).2)⟩)
    have hb0 : ((n : Int) + 1 == 0) = false := by rw [beq_eq_false_iff_ne]; omega
    have hb12 : decide (12 < (n : Int) + 1) = false := by rw [decide_eq_false_iff_not]; omega
    go_enter Tryz.func56, Tryz.ntmps56
    go_wp2_with fail
    go_loopw [24] (fun vi wr => ∃ k : Nat, k ≤ n ∧ vi = .int .i64 (k : Nat) ∧ Hid (Below (w.alloc (.cells #[.string (bT s.name), .slice ra s.records.length rv, .slice sa s.services.length sv, .slice ga s.sagas.length gv] 26)).heap.size (w.alloc (.cells #[.string (bT s.name), .slice ra s.records.length rv, .slice sa s.services.length sv, .slice ga s.sagas.length gv] 26)) wr) ∧ Hid (∀ j (hj : j < L.length), j < k → aheadOk L[j] = true)) (fun vi _ => n - (intOf vi).toNat)
    case atStart => exact ⟨0, by omega, rfl, Below.refl _ _, Lib.hid (fun j _ h => by omega)⟩
    case round =>
      obtain ⟨k, hk, rfl, HBr, HA⟩ := hrel
      have HBw := Lib.hid (HB0.out.trans (HBr.out.mono (by omega)))
      have htbr : tb < wr.heap.size := Nat.lt_of_lt_of_le htb HBw.out.size
      by_cases hlt : k < n
      · have hkL : k < L.length := by have := HN.out; omega
        obtain ⟨p0, p1⟩ := HIx.out wr HBw.out k hkL
        have HST := Lib.hid (fun h => all_stop (p := aheadOk) hkL hlt h)
        have HGO := Lib.hid (show aheadOk L[k] = true → ∀ j (hj : j < L.length), j < k + 1 → aheadOk L[j] = true from fun h j hj h2 => by
          by_cases e : j = k
          · subst e; exact h
          · exact HA.out j hj (by omega))
        have e_n := bT_is (L[k].name) []
        have HOK := Lib.hid (show aheadOk L[k] = ((L[k].kind == 5 || L[k].kind == 6) && decide (L[k].name = [])) from rfl)
        generalize aheadOk L[k] = ok at *
        generalize L[k] = x at *
        have hB1 := Lib.hid (HBr.out.alloc HBr.out.size (.cells #[.int .u8 (x.kind : Nat), .string (bT x.name)] 79))
        have hB2 := Lib.hid (HBw.out.alloc HBw.out.size (.cells #[.int .u8 (x.kind : Nat), .string (bT x.name)] 79))
        by_cases k5 : x.kind = 5
        · have h5 : ((x.kind : Int) == 5) = true := by simp; omega
          have g5 : ((x.kind : Int) != 5) = false := by simp; omega
          have hk5 := Lib.hid k5
          clear k5
          by_cases hnm : x.name = []
          · have HKo := Lib.hid (show ok = true from by rw [HOK.out, hnm]; rw [hk5.out]; rfl)
            rw [decide_eq_true hnm] at e_n
            have f_n : (!((bT x.name).toList == [])) = false := by rw [e_n]; rfl
            clear hnm HOK
            clear HST
            go_wp2_with fail
            exact ⟨⟨k + 1, by omega, by go_num, hB1, Lib.hid (HGO.out HKo.out)⟩, by simp [intOf]; omega⟩
          · have HKo := Lib.hid (show ok = false from by rw [HOK.out, decide_eq_false hnm]; simp)
            rw [decide_eq_false hnm] at e_n
            have f_n : (!((bT x.name).toList == [])) = true := by rw [e_n]; rfl
            clear hnm HOK
            have hR : R = false := by rw [HR2.out, HST.out HKo.out]; rfl
            clear HR2 HST HGO
            subst hR
            go_wp2_with fail
            exact bodyPost_ret (v := .bool false) (by simp [results, Tryz.results56, go_sem]) rfl ⟨rfl, hB2.out⟩
        have h5 : ((x.kind : Int) == 5) = false := by simp; omega
        have g5 : ((x.kind : Int) != 5) = true := by simp; omega
        by_cases k6 : x.kind = 6
        · have h6 : ((x.kind : Int) == 6) = true := by simp; omega
          have g6 : ((x.kind : Int) != 6) = false := by simp; omega
          have hk5 := Lib.hid k6
          clear k6 k5
          by_cases hnm : x.name = []
          · have HKo := Lib.hid (show ok = true from by rw [HOK.out, hnm]; rw [hk5.out]; rfl)
            rw [decide_eq_true hnm] at e_n
            have f_n : (!((bT x.name).toList == [])) = false := by rw [e_n]; rfl
            clear hnm HOK
            clear HST
            go_wp2_with fail
            exact ⟨⟨k + 1, by omega, by go_num, hB1, Lib.hid (HGO.out HKo.out)⟩, by simp [intOf]; omega⟩
          · have HKo := Lib.hid (show ok = false from by rw [HOK.out, decide_eq_false hnm]; simp)
            rw [decide_eq_false hnm] at e_n
            have f_n : (!((bT x.name).toList == [])) = true := by rw [e_n]; rfl
            clear hnm HOK
            have hR : R = false := by rw [HR2.out, HST.out HKo.out]; rfl
            clear HR2 HST HGO
            subst hR
            go_wp2_with fail
            exact bodyPost_ret (v := .bool false) (by simp [results, Tryz.results56, go_sem]) rfl ⟨rfl, hB2.out⟩
        have h6 : ((x.kind : Int) == 6) = false := by simp; omega
        have g6 : ((x.kind : Int) != 6) = true := by simp; omega
        have HKo := Lib.hid (show ok = false from by rw [HOK.out]; simp [k5, k6])
        clear k5 k6 HOK
        have hR : R = false := by rw [HR2.out, HST.out HKo.out]; rfl
        clear HR2 HST HGO
        subst hR
        go_wp2_with fail
        exact bodyPost_ret (v := .bool false) (by simp [results, Tryz.results56, go_sem]) rfl ⟨rfl, hB2.out⟩
      have hall : (L.take n).all aheadOk = true := all_through (fun j hj h => HA.out j hj (by omega))
      have HR3 := Lib.hid (show R = lastOk s z from by rw [HR2.out, hall]; rfl)
      clear hall HR2 HA
      have hzz := HZ.out
      rw [List.getElem?_eq_getElem (by have := HN.out; omega)] at hzz
      obtain ⟨p0, p1⟩ := HIx.out wr HBw.out n (by have := HN.out; omega)
      rw [Option.some.inj hzz] at p0 p1
      have hB2 := Lib.hid (HBw.out.alloc HBw.out.size (.cells #[.int .u8 (z.kind : Nat), .string (bT z.name)] 79))
      have e_n := bT_is z.name []
      clear hzz HZ HIx HC
      have hX1 := HX.out (wr.alloc (.cells #[.int .u8 (z.kind : Nat), .string (bT z.name)] 79)) (HBr.out.alloc HBr.out.size _)
      have c0 : (wr.alloc (.cells #[.int .u8 (z.kind : Nat), .string (bT z.name)] 79)).cell? ⟨w.heap.size, 0, none⟩ = some (.string (bT s.name)) := by simp only [World.cell?, hX1]; rfl
      have c1 : (wr.alloc (.cells #[.int .u8 (z.kind : Nat), .string (bT z.name)] 79)).cell? ⟨w.heap.size, 1, none⟩ = some (.slice ra s.records.length rv) := by simp only [World.cell?, hX1]; rfl
      have c2 : (wr.alloc (.cells #[.int .u8 (z.kind : Nat), .string (bT z.name)] 79)).cell? ⟨w.heap.size, 2, none⟩ = some (.slice sa s.services.length sv) := by simp only [World.cell?, hX1]; rfl
      have c3 : (wr.alloc (.cells #[.int .u8 (z.kind : Nat), .string (bT z.name)] 79)).cell? ⟨w.heap.size, 3, none⟩ = some (.slice ga s.sagas.length gv) := by simp only [World.cell?, hX1]; rfl
      clear hX1
      have hkn : k = n := by omega
      have HKN := Lib.hid hkn
      clear hkn
      by_cases z1 : z.kind = 1
      · have hR : R = decide (z.name = []) := by rw [HR3.out]; unfold lastOk; rw [if_pos (by simp [z1])]
        have i1 : ((z.kind : Int) == 1) = true := by simp; omega
        clear HR3 z1
        subst hR
        go_wp2_with fail
        exact bodyPost_ret (v := .bool (decide (z.name = []))) (by simp [results, Tryz.results56, go_sem]) rfl ⟨rfl, hB2.out⟩
      have i1 : ((z.kind : Int) == 1) = false := by simp; omega
      by_cases z2 : z.kind = 2
      · have hR : R = decide (z.name = []) := by rw [HR3.out]; unfold lastOk; rw [if_pos (by simp [z2])]
        have i2 : ((z.kind : Int) == 2) = true := by simp; omega
        clear HR3 z2 z1
        subst hR
        go_wp2_with fail
        exact bodyPost_ret (v := .bool (decide (z.name = []))) (by simp [results, Tryz.results56, go_sem]) rfl ⟨rfl, hB2.out⟩
      have i2 : ((z.kind : Int) == 2) = false := by simp; omega
      by_cases z3 : z.kind = 3
      · have hR : R = decide (z.name = []) := by rw [HR3.out]; unfold lastOk; rw [if_pos (by simp [z3])]
        have i3 : ((z.kind : Int) == 3) = true := by simp; omega
        clear HR3 z3 z1 z2
        subst hR
        go_wp2_with fail
        exact bodyPost_ret (v := .bool (decide (z.name = []))) (by simp [results, Tryz.results56, go_sem]) rfl ⟨rfl, hB2.out⟩
      have i3 : ((z.kind : Int) == 3) = false := by simp; omega
      by_cases z4 : z.kind = 4
      · have hR : R = decide (z.name = []) := by rw [HR3.out]; unfold lastOk; rw [if_pos (by simp [z4])]
        have i4 : ((z.kind : Int) == 4) = true := by simp; omega
        clear HR3 z4 z1 z2 z3
        subst hR
        go_wp2_with fail
        exact bodyPost_ret (v := .bool (decide (z.name = []))) (by simp [results, Tryz.results56, go_sem]) rfl ⟨rfl, hB2.out⟩
      have i4 : ((z.kind : Int) == 4) = false := by simp; omega
      by_cases z7 : z.kind = 7
      · have hR : R = (recOf s.records z.name).isSome := by rw [HR3.out]; unfold lastOk; rw [if_neg (by simp [z1, z2, z3, z4]), if_pos z7]
        have i7 : ((z.kind : Int) == 7) = true := by simp; omega
        clear HR3 z1 z2 z3 z4 z7
        have HFz := Lib.hid (HF.out _ hB2.out z.name)
        rw [← hR] at HFz
        clear hR
        generalize rOr (recOf s.records z.name) = rr at *
        go_wp2_with fail
        refine HFz.out.mono ?_
        rintro e w5 ⟨u, ys, rfl, hs5, _, hb5⟩
        obtain ⟨ua, uc, rfl⟩ := hs5.shape
        have HB5 := Lib.hid (hB2.out.trans (hb5.mono hB2.out.size))
        clear hs5 hb5
        go_wp2_with fail
        exact bodyPost_ret (v := .bool R) (by simp [results, Tryz.results56, go_sem]) rfl ⟨rfl, HB5.out.alloc HB5.out.size _⟩
      have i7 : ((z.kind : Int) == 7) = false := by simp; omega
      have hR : R = false := by rw [HR3.out]; unfold lastOk; rw [if_neg (by simp [z1, z2, z3, z4]), if_neg z7]
      clear HR3 z1 z2 z3 z4 z7
      subst hR
      go_wp2_with fail
      exact bodyPost_ret (v := .bool false) (by simp [results, Tryz.results56, go_sem]) rfl ⟨rfl, hB2.out⟩
end

section
open Go.RowKit

theorem SchR.after {w w' : World} {s : Sch} {ur us ug : Value} (h : SchR w s ur us ug) (hb : Below w.heap.size w w') : SchR w' s ur us ug := h.below hb
def sagG (s : Sch) (f : Flt) (g : Sga) : Flt := atF f (orderA s g.arg) g.name 240
def sagasA (s : Sch) (f : Flt) : Flt := s.sagas.foldl (sagG s) f
set_option maxRecDepth 100000 in
set_option maxHeartbeats 16000000 in
theorem sagas_any (w0 w : World) (s : Sch) (ur us ug : Value) (hS : SchR w0 s ur us ug) (hM : Small s) (f : Flt) (hF : NewB w0 w 99 (fcells f)) :
    Calls Tryz.prog 33 #[.agg #[.string (bT s.name), ur, us, ug], .pointer (some ⟨w0.heap.size, 0, none⟩)] w fun x w' => x = .returned (.tuple #[]) ∧ FQ w0 w w' (sagasA s f) := by
  have HM := Lib.hid hM
  obtain ⟨⟨ra, rv, rfl⟩, ⟨sa, sv, rfl⟩, ⟨ga, gv, rfl⟩⟩ := hS.shape
  have HS := Lib.hid (fun (wr : World) (h : Below w0.heap.size w0 wr) => hS.below h)
  have hn1 := hM.nr
  have hn2 := hM.ns
  have hn3 := hM.ng
  have HF0 := Lib.hid (FQ.start (hF.after ((Below.refl _ w).alloc (Nat.le_refl _) (.cells #[.string (bT s.name), .slice ra s.records.length rv, .slice sa s.services.length sv, .slice ga s.sagas.length gv] 26))))
  have hwf := hF.lt
  have HX := Lib.hid (fun (wr : World) (h : Aw w0.heap.size (w.alloc (.cells #[.string (bT s.name), .slice ra s.records.length rv, .slice sa s.services.length sv, .slice ga s.sagas.length gv] 26)) wr) => show wr.heap[w.heap.size]? = some (.cells #[.string (bT s.name), .slice ra s.records.length rv, .slice sa s.services.length sv, .slice ga s.sagas.length gv] 26 (0, 0)) from (h.block _ (by simp) (by omega)).trans (heap_alloc_new _ _))
  have HE := Lib.hid (fun (wr : World) (f' : Flt) (h : FQ w0 (w.alloc (.cells #[.string (bT s.name), .slice ra s.records.length rv, .slice sa s.services.length sv, .slice ga s.sagas.length gv] 26)) wr f') => show FQ w0 w wr f' from ⟨h.nb, (Aw.below ((Below.refl _ w).alloc (Nat.le_refl _) _)).trans h.aw⟩)
  have HA := Lib.hid (fun w1 w2 f h r wh e => at_any w0 w1 w2 f h r wh e)
  have HOR := Lib.hid (fun (wr : World) (h : Below w0.heap.size w0 wr) x => order_any wr s _ _ _ (hS.below h) hM x)
  clear hS hM hF
  unfold sagasA
  generalize hf2 : s.sagas.foldl (sagG s) f = f2
  have HF2 := Lib.hid hf2
  clear hf2
  go_enter Tryz.func33, Tryz.ntmps33
  go_wp2_with fail
  generalize (w.alloc (.cells #[.string (bT s.name), .slice ra s.records.length rv, .slice sa s.services.length sv, .slice ga s.sagas.length gv] 26)) = wA at *
  go_loopw [9] (fun vi wr => ∃ k : Nat, k ≤ s.sagas.length ∧ vi = .int .i64 (k : Nat) ∧ Hid (FQ w0 wA wr ((s.sagas.take k).foldl (sagG s) f))) (fun vi _ => s.sagas.length - (intOf vi).toNat)
  case atStart => exact ⟨0, by omega, rfl, Lib.hid HF0.out⟩
  case round =>
    obtain ⟨k, hk, rfl, HFr⟩ := hrel
    by_cases hlt : k < s.sagas.length
    · obtain ⟨xr, hx1, hx2⟩ := (HS.out w0 (Below.refl _ _)).sg
      obtain ⟨b, o, fa, fc, rfl, hb, q0, q1, q2, hs⟩ := sga_in HFr.out.nb.bel hx1 hx2 hlt
      have HT := Lib.hid (take_fold (sagG s) f s.sagas k hlt)
      have hbd := HM.out.sg _ (List.getElem_mem hlt)
      have hsz := HFr.out.size
      generalize s.sagas[k] = r at *
      clear hx1 hx2
      go_wp2_with fail
      generalize hwi : wr.alloc (.cells #[.string (bT r.name), .string (bT r.arg), .slice fa r.steps.length fc] 67) = wi
      have HFi := Lib.hid (show FQ w0 wA wi _ from hwi ▸ HFr.out.alloc _)
      have hgi : wi.heap[wr.heap.size]? = some (.cells #[.string (bT r.name), .string (bT r.arg), .slice fa r.steps.length fc] 67 (0, 0)) := hwi ▸ heap_alloc_new _ _
      have hszi : wi.heap.size = wr.heap.size + 1 := by rw [← hwi]; simp
      have hszw : w.heap.size < wi.heap.size := (Array.getElem?_eq_some_iff.1 (HX.out wi HFi.out.aw)).1
      clear hwi
      have HB := Lib.hid (Below.refl wi.heap.size wi).drew
      have HC := Lib.hid (fun W (X : Aw w0.heap.size wi W) => show (W.cell? ⟨w.heap.size, 0, none⟩ = some (.string (bT s.name)) ∧ W.cell? ⟨w.heap.size, 1, none⟩ = some (.slice ra s.records.length rv) ∧ W.cell? ⟨w.heap.size, 2, none⟩ = some (.slice sa s.services.length sv) ∧ W.cell? ⟨w.heap.size, 3, none⟩ = some (.slice (some ⟨b, o, none⟩) s.sagas.length gv)) ∧ W.cell? ⟨wr.heap.size, 0, none⟩ = some (.string (bT r.name)) ∧ W.cell? ⟨wr.heap.size, 1, none⟩ = some (.string (bT r.arg)) from
        ⟨by simp [World.cell?, HX.out W (HFi.out.aw.trans X)], by simp [World.cell?, (X.block wr.heap.size (by omega) (by omega)).trans hgi]⟩)
      have HOR1 := Lib.hid (fun W (X : Below wi.heap.size wi W) => HOR.out W (HFi.out.after X).nb.bel r.arg)
      have HA1 := Lib.hid (fun W (X : Below wi.heap.size wi W) => at_z w0 W _ (HFi.out.after X).nb (orderA s r.arg) r.name 240 240 rfl _ rfl)
      have HTT := Lib.hid (show atF ((s.sagas.take k).foldl (sagG s) f) (orderA s r.arg) r.name 240 = (s.sagas.take (k + 1)).foldl (sagG s) f from HT.out.symm)
      clear HT
      obtain ⟨⟨e0, e1, e2, e3⟩, e4, e5⟩ := HC.out wi (Aw.refl _ _)
      generalize orderA s r.arg = R at *
      clear hgi hs q0 q1 q2 hb
      go_region_held3 (fun W => (W.cell? ⟨w.heap.size, 0, none⟩ = some (.string (bT s.name)) ∧ W.cell? ⟨w.heap.size, 1, none⟩ = some (.slice ra s.records.length rv) ∧ W.cell? ⟨w.heap.size, 2, none⟩ = some (.slice sa s.services.length sv) ∧ W.cell? ⟨w.heap.size, 3, none⟩ = some (.slice (some ⟨b, o, none⟩) s.sagas.length gv)) ∧ W.cell? ⟨wr.heap.size, 0, none⟩ = some (.string (bT r.name)) ∧ W.cell? ⟨wr.heap.size, 1, none⟩ = some (.string (bT r.arg)))
        (first | exact HC.out _ (Aw.below HB.out) | exact HC.out _ (Aw.below hb1) | exact hs3 | assumption)
        (first
          | (go_at_call 59; ((with_reducible refine (HOR1.out _ HB.out).mono ?_); rintro e w2 ⟨rfl, hb⟩; have hb1 := HB.out.trans (hb.mono HB.out.size)))
          | (go_at_call 51; ((with_reducible refine (HA1.out _ hb1).mono ?_); rintro e w3 ⟨rfl, hf3⟩; have hs3 := HC.out w3 ((Aw.below hb1).trans hf3.aw))))
      all_goals
        have HF3 := Lib.hid ((HFi.out.after hb1).step hf3)
        clear hf3 hb1 hb hs3
        go_wp2_with fail
        exact ⟨⟨k + 1, by omega, by go_num, Lib.hid (by rw [← HTT.out]; exact HF3.out)⟩, by simp [intOf]; omega⟩
    have HFz := Lib.hid (show FQ w0 wA wr f2 from by have h := HFr.out; rw [take_all _ _ _ _ hlt, HF2.out] at h; exact h)
    go_wp2_with fail
    go_end0
    exact ⟨rfl, HE.out _ _ HFz.out⟩
end
end Go.Proofs.YtgoejmheihgpfaaGreatDoor
