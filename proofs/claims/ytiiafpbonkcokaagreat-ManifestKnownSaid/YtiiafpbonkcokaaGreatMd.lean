/-
  'Less' of texts; 'Same' of states.
-/
import Derived.Test.YtiiafpbonkcokaaGreatMc
import Derived.Laws.StructEq
namespace Go.Proofs.YtiiafpbonkcokaaGreat
open Go.RowKit Go.Maps

theorem bytesLess_lt : ∀ (x y : List UInt8), Op.bytesLess x y = decide (x < y)
  | [], [] => by simp [Op.bytesLess]
  | _ :: _, [] => by simp [Op.bytesLess]
  | [], _ :: _ => by simp [Op.bytesLess]
  | a :: x, b :: y => by
    rw [Op.bytesLess, bytesLess_lt x y]
    simp only [List.cons_lt_cons_iff]
    by_cases h1 : a < b <;> by_cases h2 : a = b <;> by_cases h3 : x < y <;> simp [h1, h2, h3]
theorem less_same (p : List UInt8) : ∀ x y : List UInt8, Op.bytesLess (p ++ x) (p ++ y) = Op.bytesLess x y := by
  induction p with
  | nil => intro x y; rfl
  | cons a r ih => intro x y; simp [Op.bytesLess, ih]
theorem sLt_part {a b : ByteArray} {k : Nat} (ha : k < a.size) (hb : k < b.size) (h : ∀ j (h1 : j < a.size) (h2 : j < b.size), j < k → a[j] = b[j]) (hne : a[k] ≠ b[k]) : sLt a b = decide (a[k] < b[k]) := by
  have e : a.data.toList.take k = b.data.toList.take k := by
    refine List.ext_getElem (by simp; omega) (fun j h1 h2 => ?_)
    rw [List.getElem_take, List.getElem_take]
    have hj : j < k := by simp at h1; omega
    exact h j (by omega) (by omega) hj
  have ea : a.data.toList = a.data.toList.take k ++ (a[k] :: a.data.toList.drop (k + 1)) := by
    rw [show a[k] = a.data.toList[k]'(by simpa using ha) from rfl, ← List.drop_eq_getElem_cons, List.take_append_drop]
  have eb : b.data.toList = a.data.toList.take k ++ (b[k] :: b.data.toList.drop (k + 1)) := by
    rw [e, show b[k] = b.data.toList[k]'(by simpa using hb) from rfl, ← List.drop_eq_getElem_cons, List.take_append_drop]
  unfold sLt
  rw [ByteArray.toList_eq, ByteArray.toList_eq, ea, eb, less_same]
  have h2 : (a[k] == b[k]) = false := by simpa using hne
  simp only [Op.bytesLess, h2, Bool.false_and, Bool.or_false]
theorem sLt_end {a b : ByteArray} {k : Nat} (hk : k ≤ a.size) (hk2 : k ≤ b.size) (hm : k = a.size ∨ k = b.size) (h : ∀ j (h1 : j < a.size) (h2 : j < b.size), j < k → a[j] = b[j]) : sLt a b = decide (a.size < b.size) := by
  have e : a.data.toList.take k = b.data.toList.take k := by
    refine List.ext_getElem (by simp; omega) (fun j h1 h2 => ?_)
    rw [List.getElem_take, List.getElem_take]
    have hj : j < k := by simp at h1; omega
    exact h j (by omega) (by omega) hj
  have ea : a.data.toList = a.data.toList.take k ++ a.data.toList.drop k := (List.take_append_drop ..).symm
  have eb : b.data.toList = a.data.toList.take k ++ b.data.toList.drop k := by rw [e, List.take_append_drop]
  unfold sLt
  rw [ByteArray.toList_eq, ByteArray.toList_eq, ea, eb, less_same]
  rcases hm with hm | hm
  · rw [List.drop_eq_nil_iff.2 (show a.data.toList.length ≤ k by simp; omega)]
    cases hd : b.data.toList.drop k with
    | nil =>
      have := List.drop_eq_nil_iff.1 hd
      simp at this
      simp [Op.bytesLess]; omega
    | cons x r =>
      have hl := congrArg List.length hd
      simp at hl
      simp [Op.bytesLess]; omega
  · rw [List.drop_eq_nil_iff.2 (show b.data.toList.length ≤ k by simp; omega)]
    have : ∀ l : List UInt8, Op.bytesLess l [] = false := fun l => by cases l <;> rfl
    rw [this]
    symm
    simp; omega

set_option maxRecDepth 100000 in
set_option maxHeartbeats 1000000 in
theorem less_any (w : World) (a b : ByteArray) (ha : a.size ≤ 9223372036854775807) (hb : b.size ≤ 9223372036854775807) : Calls Tryz.prog 53 #[.string a, .string b] w fun e w' => e = .returned (.bool (sLt a b)) ∧ Below w.heap.size w w' := by
  go_enter Tryz.func53, Tryz.ntmps53
  go_wp2_with fail
  go_loopw [5] (fun i wr => ∃ k : Nat, k ≤ a.size ∧ k ≤ b.size ∧ i = .int .i64 k ∧ Hid (∀ j (h1 : j < a.size) (h2 : j < b.size), j < k → a[j] = b[j]) ∧ Hid (Below w.heap.size w wr)) (fun i _ => a.size - (intOf i).toNat)
  case atStart => exact ⟨0, by omega, by omega, rfl, fun j _ _ h => by omega, Below.refl _ _⟩
  case round =>
    obtain ⟨k, hk, hk2, rfl, HA, HB⟩ := hrel
    by_cases h1 : k < a.size
    · by_cases h2 : k < b.size
      · by_cases he : a[k] = b[k]
        · have HS := Lib.hid (show ∀ j (h1 : j < a.size) (h2 : j < b.size), j < k + 1 → a[j] = b[j] from fun j g1 g2 hj => by
            by_cases e : j = k
            · subst e; exact he
            · exact HA.out j g1 g2 (by omega))
          go_wp2_with fail
          go_quiet (fail)
          go_wp2_with fail
          exact ⟨⟨k + 1, by omega, by omega, by go_num, HS, below_drewN HB.out _⟩, by simp [intOf]; omega⟩
        · have HL := Lib.hid (sLt_part h1 h2 HA.out he)
          have hne : ((a[k].toNat : Int) == b[k].toNat) = false := by
            rw [beq_eq_false_iff_ne]; exact fun e => he (UInt8.toNat_inj.1 (by omega))
          go_wp2_with fail
          go_quiet (fail)
          go_wp2_with fail
          go_quiet (fail)
          go_wp2_with fail
          go_ret
          exact ⟨ret_bool HL.out.symm, below_drewN (below_drewN HB.out _) _⟩
      · have : k = b.size := by omega
        subst this
        have HL := Lib.hid (sLt_end hk hk2 (.inr rfl) HA.out)
        go_wp2_with fail
        go_ret
        exact ⟨ret_bool HL.out.symm, HB.out⟩
    · have : k = a.size := by omega
      subst this
      have HL := Lib.hid (sLt_end hk hk2 (.inl rfl) HA.out)
      go_wp2_with fail
      go_ret
      exact ⟨ret_bool HL.out.symm, HB.out⟩

/-- a state as a value -/
def stv (next log : Int) (v : Value) : Value := .agg #[.int .i64 next, .int .i64 log, v]
def fiEq (f g : Fi) : Bool := f.n == g.n && (f.level == g.level) && (f.count == g.count) && sEq f.first g.first && sEq f.last g.last
theorem sEq_iff {a b : ByteArray} : sEq a b = true ↔ a = b := by
  unfold sEq
  rw [ByteArray.toList_eq, ByteArray.toList_eq, beq_iff_eq]
  constructor
  · intro h; cases a; cases b; congr 1; exact Array.toList_inj.1 h
  · rintro rfl; rfl
theorem fiEq_iff {f g : Fi} : fiEq f g = true ↔ f = g := by
  cases f; cases g
  simp [fiEq, sEq_iff, and_assoc]
def stEq (s t : St) : Bool := s.next == t.next && (s.log == t.log) && (s.fs.length == t.fs.length) && (List.zipWith fiEq s.fs t.fs).all id
theorem zip_all : ∀ {l r : List Fi}, l.length = r.length → ((List.zipWith fiEq l r).all id = true ↔ l = r)
  | [], [], _ => by simp
  | f :: l, g :: r, h => by
    have := zip_all (l := l) (r := r) (by simpa using h)
    simp [this, fiEq_iff]
theorem stEq_iff {s t : St} : stEq s t = true ↔ s = t := by
  obtain ⟨a, b, l⟩ := s
  obtain ⟨c, d, r⟩ := t
  simp only [stEq, Bool.and_eq_true, beq_iff_eq, St.mk.injEq]
  constructor
  · rintro ⟨⟨⟨h1, h2⟩, h3⟩, h4⟩; exact ⟨h1, h2, (zip_all h3).1 h4⟩
  · rintro ⟨h1, h2, rfl⟩; exact ⟨⟨⟨h1, h2⟩, rfl⟩, (zip_all rfl).2 rfl⟩

theorem held_rf : Tryz.prog.stoodInHeld 35 = false := by kernel_rfl
theorem guard_rf : Tryz.prog.eqGuardType Tryz.prog.depth 35 = false := by kernel_rfl
theorem und_rf : Tryz.prog.underlying 35 = some (.struct (Tryz.prog.fieldsOf 35)) := by kernel_rfl
theorem file_neq (x y : Fi) (W : World) : (binOp .neq 35 (fiv x) (fiv y)).run Tryz.prog W = .ok (.bool (!(fiEq x y))) W := by
  unfold fiv
  rw [run_neq_struct, run_equalIn_agg W 9999 _ _ _ und_rf held_rf]
  simp [go_sem]
  unfold fiEq sEq
  by_cases h1 : x.n = y.n <;> by_cases h2 : x.level = y.level <;> by_cases h3 : x.count = y.count <;> by_cases h4 : x.first.toList = y.first.toList <;> by_cases h5 : x.last.toList = y.last.toList <;> simp [h1, h2, h3, h4, h5]
theorem file_guard (x y : Fi) (X Y : Operand) (W : World) : (eqGuard .neq 35 X Y (fiv x) (fiv y)).run Tryz.prog W = .ok () W := run_eqGuard_agg W _ _ _ _ _ _ guard_rf
theorem zip_none {L R : List Fi} {k : Nat} (h1 : k < L.length) (h2 : k < R.length) (h : fiEq L[k] R[k] = false) : (List.zipWith fiEq L R).all id = false := by
  rw [List.all_eq_false]
  refine ⟨fiEq L[k] R[k], List.mem_iff_getElem.2 ⟨k, by simp; omega, by simp⟩, by simp [h]⟩
theorem zip_full {L R : List Fi} (h : ∀ k (h1 : k < L.length) (h2 : k < R.length), fiEq L[k] R[k] = true) : (List.zipWith fiEq L R).all id = true := by
  rw [List.all_eq_true]
  intro x hx
  obtain ⟨k, hk, rfl⟩ := List.mem_iff_getElem.1 hx
  simp at hk
  simp [h k (by omega) (by omega)]

set_option maxRecDepth 100000 in
set_option maxHeartbeats 2000000 in
theorem same_any (S T : Nat → Prop) (w : World) (n1 l1 n2 l2 : Int) (v1 v2 : Value) (L R : List Fi) (h1 : FRow S w v1 L) (h2 : FRow T w v2 R) : Calls Tryz.prog 24 #[stv n1 l1 v1, stv n2 l2 v2] w fun e w' => e = .returned (.bool (stEq ⟨n1, l1, L⟩ ⟨n2, l2, R⟩)) ∧ Below w.heap.size w w' := by
  obtain ⟨⟨a1, c1, rfl, q1, q2, q3, q4⟩, -⟩ := h1
  obtain ⟨⟨a2, c2, rfl, r1, r2, r3, r4⟩, -⟩ := h2
  have HQ := Lib.hid q4
  have HR := Lib.hid r4
  clear q3 r3 q4 r4
  by_cases e1 : n1 = n2
  · by_cases e2 : l1 = l2
    · by_cases e3 : L.length = R.length
      · subst e1 e2
        have HE := Lib.hid (show stEq ⟨n1, l1, L⟩ ⟨n1, l1, R⟩ = (List.zipWith fiEq L R).all id by simp [stEq, e3])
        unfold stv
        obtain ⟨W0, hW0⟩ : ∃ W0, W0 = (w.alloc (.cells #[.int .i64 n1, .int .i64 l1, .slice a1 L.length c1] 38)).alloc (.cells #[.int .i64 n1, .int .i64 l1, .slice a2 R.length c2] 38) := ⟨_, rfl⟩
        have k1 : W0.cell? ⟨w.heap.size, 2, none⟩ = some (.slice a1 L.length c1) := by rw [hW0]; simp [go_sem]
        have k2 : W0.cell? ⟨w.heap.size + 1, 2, none⟩ = some (.slice a2 R.length c2) := by rw [hW0]; simp [go_sem]
        have HB0 := Lib.hid (show Below w.heap.size w W0 by rw [hW0]; exact bl2 _ _ _)
        have hsz : w.heap.size + 1 < W0.heap.size := by rw [hW0]; simp
        have HE3 := Lib.hid e3
        have HW := Lib.hid hW0.symm
        have hne8 : ((L.length : Int) == (R.length : Int)) = true := by rw [beq_iff_eq]; omega
        have hne9 : ((L.length : Int) != (R.length : Int)) = false := by rw [bne_eq_false_iff_eq]; omega
        clear hW0 e3
        go_enter Tryz.func24, Tryz.ntmps24
        go_wp2_with fail
        rw [HW.out]
        go_loopw [5] (fun i wr => ∃ k : Nat, k ≤ L.length ∧ i = .int .i64 k ∧ Hid (∀ j (g1 : j < L.length) (g2 : j < R.length), j < k → fiEq L[j] R[j] = true) ∧ Hid (Below W0.heap.size W0 wr)) (fun i _ => L.length - (intOf i).toNat)
        case atStart => exact ⟨0, by omega, rfl, fun j _ _ h => by omega, Below.refl _ _⟩
        case round =>
          obtain ⟨k, hk, rfl, HA, HB⟩ := hrel
          have j1 : wr.cell? ⟨w.heap.size, 2, none⟩ = some (.slice a1 L.length c1) := (HB.out.cell (p := ⟨w.heap.size, 2, none⟩) (by show w.heap.size < _; omega)).trans k1
          have j2 : wr.cell? ⟨w.heap.size + 1, 2, none⟩ = some (.slice a2 R.length c2) := (HB.out.cell (p := ⟨w.heap.size + 1, 2, none⟩) hsz).trans k2
          by_cases hlt : k < L.length
          · have hlt2 : k < R.length := by rw [← HE3.out]; exact hlt
            obtain ⟨b1, o1, rfl, _, hb1, hc1⟩ := HQ.out (by omega)
            obtain ⟨b2, o2, rfl, _, hb2, hc2⟩ := HR.out (by omega)
            have f1 : FiAt wr b1 (o1 + k * 5) L[k] := (hc1 k hlt).block ((HB.out.block b1 (by have := HB0.out.size; omega)).trans (HB0.out.block b1 hb1))
            have f2 : FiAt wr b2 (o2 + k * 5) R[k] := (hc2 k hlt2).block ((HB.out.block b2 (by have := HB0.out.size; omega)).trans (HB0.out.block b2 hb2))
            have HN := Lib.hid (fun h => zip_none hlt hlt2 h)
            have HS := Lib.hid (fun (h : fiEq L[k] R[k] = true) => (show ∀ j (g1 : j < L.length) (g2 : j < R.length), j < k + 1 → fiEq L[j] R[j] = true from fun j g1 g2 hj => by
              by_cases e : j = k
              · subst e; exact h
              · exact HA.out j g1 g2 (by omega)))
            clear hc1 hc2
            generalize L[k] = x at *
            generalize R[k] = y at *
            have hne := fun W => file_neq x y W
            have hgd := fun X Y W => file_guard x y X Y W
            unfold fiv at hne hgd
            generalize fiEq x y = q at *
            have p10 := f1.c0
            have p11 := f1.c1
            have p12 := f1.c2
            have p13 := f1.c3
            have p14 := f1.c4
            have p20 := f2.c0
            have p21 := f2.c1
            have p22 := f2.c2
            have p23 := f2.c3
            have p24 := f2.c4
            clear f1 f2
            cases q with
            | true =>
              have HS1 := Lib.hid (HS.out rfl)
              clear HS HN
              go_wp2_with fail
              go_quiet (fail)
              go_wp2_with fail
              exact ⟨⟨k + 1, by omega, by go_num, HS1, below_drewN HB.out _⟩, by simp [intOf]; omega⟩
            | false =>
              have HN1 := Lib.hid (HN.out rfl)
              clear HS HN
              go_wp2_with fail
              go_quiet (fail)
              go_wp2_with fail
              go_ret
              exact ⟨ret_bool (by rw [HE.out, HN1.out]), below_drewN (HB0.out.trans (HB.out.mono HB0.out.size)) _⟩
          · have HZ := Lib.hid (zip_full (L := L) (R := R) (fun j g1 g2 => HA.out j g1 g2 (by omega)))
            go_wp2_with fail
            go_ret
            exact ⟨ret_bool (by rw [HE.out, HZ.out]), HB0.out.trans (HB.out.mono HB0.out.size)⟩
      · have HE := Lib.hid (show stEq ⟨n1, l1, L⟩ ⟨n2, l2, R⟩ = false by simp [stEq, e3])
        have hne : ((L.length : Int) == R.length) = false := by rw [beq_eq_false_iff_ne]; omega
        have hne2 : ((L.length : Int) != R.length) = true := by rw [bne_iff_ne]; omega
        subst e1 e2
        unfold stv
        go_enter Tryz.func24, Tryz.ntmps24
        go_wp2_with fail
        go_ret
        exact ⟨ret_bool HE.out.symm, bl2 _ _ _⟩
    · have HE := Lib.hid (show stEq ⟨n1, l1, L⟩ ⟨n2, l2, R⟩ = false by simp [stEq, e2])
      have hne : (l1 == l2) = false := by rw [beq_eq_false_iff_ne]; exact e2
      have hne2 : (l1 != l2) = true := by rw [bne_iff_ne]; exact e2
      subst e1
      clear e2
      unfold stv
      go_enter Tryz.func24, Tryz.ntmps24
      go_wp2_with fail
      go_ret
      exact ⟨ret_bool HE.out.symm, bl2 _ _ _⟩
  · have HE := Lib.hid (show stEq ⟨n1, l1, L⟩ ⟨n2, l2, R⟩ = false by simp [stEq, e1])
    have hne : (n1 == n2) = false := by rw [beq_eq_false_iff_ne]; exact e1
    have hne2 : (n1 != n2) = true := by rw [bne_iff_ne]; exact e1
    clear e1
    unfold stv
    go_enter Tryz.func24, Tryz.ntmps24
    go_wp2_with fail
    go_ret
    exact ⟨ret_bool HE.out.symm, bl2 _ _ _⟩
end Go.Proofs.YtiiafpbonkcokaaGreat
