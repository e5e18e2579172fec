/-
  'pack': a state's text.
-/
import Derived.Test.YtiiafpbonkcokaaGreatMj
import Derived.Test.YtiiafpbonkcokaaGreatMb
import Derived.Deep.RegionHeld3
namespace Go.Proofs.YtiiafpbonkcokaaGreat
open Go.RowKit Go.Maps

def p8 (x : Int) : ByteArray := ⟨(le8 x.toNat).toArray⟩
theorem p8_size (x : Int) : (p8 x).size = 8 := by show (le8 x.toNat).toArray.size = 8; rw [List.size_toArray, le8_len]
theorem p8_any (W : World) (x : Int) (h0 : 0 ≤ x) (h1 : x ≤ 1099511627776) : Calls Tryz.prog 75 #[.int .i64 x] W fun e w' => e = .returned (.string (p8 x)) ∧ Below W.heap.size W w' := by
  obtain ⟨n, rfl⟩ := Int.eq_ofNat_of_zero_le h0
  exact put8_any W n (by omega)
def headB (s : St) : ByteArray := p8 s.next ++ p8 s.log ++ p8 s.fs.length
def bodyB (f : Fi) : ByteArray := p8 f.n ++ p8 f.level ++ p8 f.count ++ p8 f.first.size ++ f.first ++ f.last
def packL (s : St) (l : List Fi) : ByteArray := l.foldl (fun acc f => acc ++ frame (bodyB f)) (frame (headB s))
def packB (s : St) : ByteArray := packL s s.fs
theorem head_size (s : St) : (headB s).size = 24 := by unfold headB; rw [ByteArray.size_append, ByteArray.size_append, p8_size, p8_size, p8_size]
theorem body_size (f : Fi) : (bodyB f).size = 32 + f.first.size + f.last.size := by
  unfold bodyB
  simp only [ByteArray.size_append, p8_size]
theorem packL_snoc (s : St) (l : List Fi) (f : Fi) : packL s (l ++ [f]) = packL s l ++ frame (bodyB f) := by unfold packL; rw [List.foldl_append]; rfl
/-- what fits a frame -/
structure FiFit (f : Fi) : Prop where
  n0 : 0 ≤ f.n
  n1 : f.n ≤ 1099511627776
  l0 : 0 ≤ f.level
  l1 : f.level ≤ 1099511627776
  c0 : 0 ≤ f.count
  c1 : f.count ≤ 1099511627776
  s1 : f.first.size ≤ 128
  s2 : f.last.size ≤ 128
theorem foldl_size : ∀ (l : List Fi) (a : ByteArray), (∀ f ∈ l, FiFit f) → (l.foldl (fun acc f => acc ++ frame (bodyB f)) a).size ≤ a.size + l.length * 296
  | [], a, _ => by simp
  | f :: r, a, h => by
    have h1 := foldl_size r (a ++ frame (bodyB f)) (fun g hg => h g (List.mem_cons_of_mem _ hg))
    have h2 := h f (List.mem_cons_self ..)
    have h3 := h2.s1
    have h4 := h2.s2
    rw [ByteArray.size_append, frame_size, body_size] at h1
    rw [List.foldl_cons, List.length_cons]
    omega
theorem packL_size (s : St) (l : List Fi) (h : ∀ f ∈ l, FiFit f) : (packL s l).size ≤ 32 + l.length * 296 := by
  have := foldl_size l (frame (headB s)) h
  rw [frame_size, head_size] at this
  exact this
theorem right_fit {f : Fi} (h : rightB f = true) : 0 ≤ f.level ∧ f.level < 4 ∧ 1 ≤ f.count ∧ f.count ≤ 4096 ∧ 0 < f.first.size ∧ f.first.size ≤ 128 ∧ 0 < f.last.size ∧ f.last.size ≤ 128 := by
  unfold rightB keyB at h
  simp only [Bool.and_eq_true, decide_eq_true_eq] at h
  omega
theorem lastN_nonneg {L : List Fi} (h : ∀ i (hi : i < L.length), lastN L i < L[i].n) : ∀ i, i ≤ L.length → 0 ≤ lastN L i
  | 0, _ => by unfold lastN; simp
  | i + 1, hi => by
    rw [lastN_succ L i (by omega)]
    have h1 := h i (by omega)
    have h2 := lastN_nonneg h i (by omega)
    omega
theorem check_fit {s : St} (h : checkB s = true) : 1 ≤ s.next ∧ s.next ≤ 1099511627776 ∧ 0 ≤ s.log ∧ s.log ≤ 1099511627776 ∧ s.fs.length ≤ 200 ∧ ∀ f ∈ s.fs, FiFit f := by
  obtain ⟨h1, h2, _⟩ := check_parts h
  have hw := wrong_none h2
  unfold numB at h1
  simp only [Bool.and_eq_true, decide_eq_true_eq] at h1
  refine ⟨by omega, by omega, by omega, by omega, by omega, fun f hf => ?_⟩
  obtain ⟨i, hi, rfl⟩ := List.getElem_of_mem hf
  obtain ⟨g1, g2, g3⟩ := hw i hi
  have g4 := lastN_nonneg (fun i hi => (hw i hi).1) i (by omega)
  have g5 := right_fit g3
  exact ⟨by omega, by omega, by omega, by omega, by omega, by omega, by omega, by omega⟩

theorem keepC {w wa wb : World} {b : Nat} {x y z : Value} (hb : Below wa.heap.size wa wb) (h : (wa.cell? ⟨b, 0, none⟩ = some x ∧ wa.cell? ⟨b, 1, none⟩ = some y ∧ wa.cell? ⟨b, 2, none⟩ = some z) ∧ Hid (Below w.heap.size w wa)) : (wb.cell? ⟨b, 0, none⟩ = some x ∧ wb.cell? ⟨b, 1, none⟩ = some y ∧ wb.cell? ⟨b, 2, none⟩ = some z) ∧ Hid (Below w.heap.size w wb) :=
  have hl := World.block_lt_of_cell? wa _ h.1.1
  ⟨⟨(hb.cell (p := ⟨b, 0, none⟩) hl).trans h.1.1, (hb.cell (p := ⟨b, 1, none⟩) hl).trans h.1.2.1, (hb.cell (p := ⟨b, 2, none⟩) hl).trans h.1.2.2⟩, h.2.out.trans (hb.mono h.2.out.size)⟩

theorem idC {w wa : World} {b : Nat} {x y z : Value} (h : (wa.cell? ⟨b, 0, none⟩ = some x ∧ wa.cell? ⟨b, 1, none⟩ = some y ∧ wa.cell? ⟨b, 2, none⟩ = some z) ∧ Hid (Below w.heap.size w wa)) : wa.cell? ⟨b, 2, none⟩ = some z ∧ Hid (Below w.heap.size w wa) := ⟨h.1.2.2, h.2⟩
theorem idF {w wa : World} {b : Nat} {p q r s t : Value} (h : (wa.cell? ⟨b, 0, none⟩ = some p ∧ wa.cell? ⟨b, 1, none⟩ = some q ∧ wa.cell? ⟨b, 2, none⟩ = some r ∧ wa.cell? ⟨b, 3, none⟩ = some s ∧ wa.cell? ⟨b, 4, none⟩ = some t) ∧ Hid (Below w.heap.size w wa)) : Hid (Below w.heap.size w wa) := h.2
theorem keepF {w wa wb : World} {b : Nat} {f : Fi} (hb : Below wa.heap.size wa wb) (h : (wa.cell? ⟨b, 0, none⟩ = some (.int .i64 f.n) ∧ wa.cell? ⟨b, 1, none⟩ = some (.int .i64 f.level) ∧ wa.cell? ⟨b, 2, none⟩ = some (.int .i64 f.count) ∧ wa.cell? ⟨b, 3, none⟩ = some (.string f.first) ∧ wa.cell? ⟨b, 4, none⟩ = some (.string f.last)) ∧ Hid (Below w.heap.size w wa)) :
    (wb.cell? ⟨b, 0, none⟩ = some (.int .i64 f.n) ∧ wb.cell? ⟨b, 1, none⟩ = some (.int .i64 f.level) ∧ wb.cell? ⟨b, 2, none⟩ = some (.int .i64 f.count) ∧ wb.cell? ⟨b, 3, none⟩ = some (.string f.first) ∧ wb.cell? ⟨b, 4, none⟩ = some (.string f.last)) ∧ Hid (Below w.heap.size w wb) :=
  have hl := World.block_lt_of_cell? wa _ h.1.1
  ⟨⟨(hb.cell (p := ⟨b, 0, none⟩) hl).trans h.1.1, (hb.cell (p := ⟨b, 1, none⟩) hl).trans h.1.2.1, (hb.cell (p := ⟨b, 2, none⟩) hl).trans h.1.2.2.1, (hb.cell (p := ⟨b, 3, none⟩) hl).trans h.1.2.2.2.1, (hb.cell (p := ⟨b, 4, none⟩) hl).trans h.1.2.2.2.2⟩, h.2.out.trans (hb.mono h.2.out.size)⟩
set_option maxRecDepth 100000 in
set_option maxHeartbeats 4000000 in
theorem pack_any (S : Nat → Prop) (w : World) (s : St) (v : Value) (h : FRow S w v s.fs) (hck : checkB s = true) : Calls Tryz.prog 51 #[stv s.next s.log v] w fun e w' => e = .returned (.string (packB s)) ∧ Below w.heap.size w w' := by
  obtain ⟨n1, n2, l1, l2, hlen, hfit⟩ := check_fit hck
  obtain ⟨⟨a, c, rfl, q1, q2, q3, q4⟩, qk⟩ := h
  have H4 := Lib.hid q4
  have HF := Lib.hid hfit
  have HH := Lib.hid (show headB s = p8 s.next ++ p8 s.log ++ p8 s.fs.length from rfl)
  have HP := Lib.hid (show packL s [] = frame (headB s) from rfl)
  have HPB := Lib.hid (show packB s = packL s s.fs from rfl)
  have HSN := Lib.hid (packL_snoc s)
  have HSZ := Lib.hid (fun l h => packL_size s l h)
  have hls := head_size s
  have HFR := Lib.hid (fun W => frame_any W (headB s) (by rw [head_size]; omega))
  have HP8 := Lib.hid (fun W x h0 h1 => p8_any W x h0 h1)
  obtain ⟨next, log, L⟩ := s
  dsimp only at *
  clear q3 q4 qk hck hfit
  unfold stv
  have z1 := p8_size next
  have z2 := p8_size log
  have z3 := p8_size L.length
  have b1 : ¬ 9223372036854775807 < (p8 next).size + (p8 log).size := by omega
  have b2 : ¬ 9223372036854775807 < (p8 next ++ p8 log).size + (p8 L.length).size := by rw [ByteArray.size_append]; omega
  have b3 : ¬ 9223372036854775807 < (p8 next).size + (p8 log).size + (p8 L.length).size := by omega
  rw [HH.out] at HFR HP
  have l3 : (0 : Int) ≤ L.length := by omega
  have l4 : (L.length : Int) ≤ 1099511627776 := by omega
  have n0 : 0 ≤ next := by omega
  clear z1 z2 z3 hls HH
  obtain ⟨W0, hW0⟩ : ∃ W0, W0 = w.alloc (.cells #[.int .i64 next, .int .i64 log, .slice a L.length c] 24) := ⟨_, rfl⟩
  have HS0 := Lib.hid (show (W0.cell? ⟨w.heap.size, 0, none⟩ = some (.int .i64 next) ∧ W0.cell? ⟨w.heap.size, 1, none⟩ = some (.int .i64 log) ∧ W0.cell? ⟨w.heap.size, 2, none⟩ = some (.slice a L.length c)) ∧ Hid (Below w.heap.size w W0) by rw [hW0]; exact ⟨⟨by simp [go_sem], by simp [go_sem], by simp [go_sem]⟩, bl1 _ _⟩)
  have HW := Lib.hid hW0.symm
  clear hW0
  go_enter Tryz.func51, Tryz.ntmps51
  go_wp2_with fail
  rw [HW.out]
  have HS1 := Lib.hid (show (W0.drew.cell? ⟨w.heap.size, 0, none⟩ = some (.int .i64 next) ∧ W0.drew.cell? ⟨w.heap.size, 1, none⟩ = some (.int .i64 log) ∧ W0.drew.cell? ⟨w.heap.size, 2, none⟩ = some (.slice a L.length c)) ∧ Hid (Below w.heap.size w W0.drew) from ⟨HS0.out.1, HS0.out.2.out.drew⟩)
  go_region_held3 (fun w' => (w'.cell? ⟨w.heap.size, 0, none⟩ = some (.int .i64 next) ∧ w'.cell? ⟨w.heap.size, 1, none⟩ = some (.int .i64 log) ∧ w'.cell? ⟨w.heap.size, 2, none⟩ = some (.slice a L.length c)) ∧ Hid (Below w.heap.size w w'))
    (first | exact HS1.out | exact keepC hb' (by assumption))
    (first | (go_at_call 75; refine (HP8.out _ _ (by assumption) (by assumption)).mono ?_; rintro e w' ⟨rfl, hb'⟩) | (go_at_call 74; refine (HFR.out _).mono ?_; rintro e w' ⟨rfl, hb'⟩))
  have HSW := Lib.hid (idC (by assumption))
  have y2 := HSW.out.1
  go_wp2_with fail
  go_loopw [3, 28] (fun out i wr => ∃ k : Nat, k ≤ L.length ∧ i = .int .i64 k ∧ out = .string (packL ⟨next, log, L⟩ (L.take k)) ∧ Hid (Below w.heap.size w wr)) (fun _ i _ => L.length - (intOf i).toNat)
  case atStart => exact ⟨0, by omega, rfl, by rw [List.take_zero, HP.out], HSW.out.2⟩
  case round =>
    obtain ⟨k, hk, rfl, rfl, HB⟩ := hrel
    by_cases hlt : k < L.length
    · obtain ⟨b, o, rfl, _, hb, hc⟩ := H4.out (by omega)
      have hcell : FiAt wr b (o + k * 5) L[k] := (hc k hlt).block (HB.out.block b hb)
      have HS := Lib.hid (show packL ⟨next, log, L⟩ (L.take (k + 1)) = packL ⟨next, log, L⟩ (L.take k) ++ frame (bodyB L[k]) by rw [List.take_succ_eq_append_getElem hlt, HSN.out])
      have hz := HSZ.out (L.take k) (fun f hf => HF.out f (List.mem_of_mem_take hf))
      have hz2 : (packL ⟨next, log, L⟩ (L.take k)).size ≤ 100000 := by rw [List.length_take] at hz; omega
      have hft := HF.out _ (List.getElem_mem hlt)
      clear hz hc
      generalize L[k] = x at *
      have HBD := Lib.hid (show bodyB x = p8 x.n ++ p8 x.level ++ p8 x.count ++ p8 x.first.size ++ x.first ++ x.last from rfl)
      have hs1 := hft.s1
      have hs2 := hft.s2
      have HFR2 := Lib.hid (fun W => frame_any W (bodyB x) (by rw [body_size]; omega))
      have m1 := hft.n0
      have m2 := hft.n1
      have m3 := hft.l0
      have m4 := hft.l1
      have m5 := hft.c0
      have m6 := hft.c1
      have m7 : (0 : Int) ≤ x.first.size := by omega
      have m8 : (x.first.size : Int) ≤ 1099511627776 := by omega
      have z1 := p8_size x.n
      have z2 := p8_size x.level
      have z3 := p8_size x.count
      have z4 := p8_size x.first.size
      have c1 : ¬ 9223372036854775807 < (p8 x.n).size + (p8 x.level).size := by omega
      have c2 : ¬ 9223372036854775807 < (p8 x.n).size + (p8 x.level).size + (p8 x.count).size := by omega
      have c3 : ¬ 9223372036854775807 < (p8 x.n).size + (p8 x.level).size + (p8 x.count).size + (p8 x.first.size).size := by omega
      have c4 : ¬ 9223372036854775807 < (p8 x.n).size + (p8 x.level).size + (p8 x.count).size + (p8 x.first.size).size + x.first.size := by omega
      have c5 : ¬ 9223372036854775807 < (p8 x.n).size + (p8 x.level).size + (p8 x.count).size + (p8 x.first.size).size + x.first.size + x.last.size := by omega
      have c6 : ¬ 9223372036854775807 < (packL ⟨next, log, L⟩ (L.take k)).size + (frame (bodyB x)).size := by rw [frame_size, body_size]; omega
      rw [HBD.out] at HFR2 HS c6
      clear z1 z2 z3 z4 HBD hs1 hs2 hft
      generalize packL ⟨next, log, L⟩ (L.take k) = out at *
      have p0 := hcell.c0
      have p1 := hcell.c1
      have p2 := hcell.c2
      have p3 := hcell.c3
      have p4 := hcell.c4
      clear hcell
      obtain ⟨W5, hW5⟩ : ∃ W5, W5 = wr.alloc (.cells #[.int .i64 x.n, .int .i64 x.level, .int .i64 x.count, .string x.first, .string x.last] 29) := ⟨_, rfl⟩
      have HS5 := Lib.hid (show (W5.drew.cell? ⟨wr.heap.size, 0, none⟩ = some (.int .i64 x.n) ∧ W5.drew.cell? ⟨wr.heap.size, 1, none⟩ = some (.int .i64 x.level) ∧ W5.drew.cell? ⟨wr.heap.size, 2, none⟩ = some (.int .i64 x.count) ∧ W5.drew.cell? ⟨wr.heap.size, 3, none⟩ = some (.string x.first) ∧ W5.drew.cell? ⟨wr.heap.size, 4, none⟩ = some (.string x.last)) ∧ Hid (Below w.heap.size w W5.drew) by
        rw [hW5]; exact ⟨⟨by simp [go_sem], by simp [go_sem], by simp [go_sem], by simp [go_sem], by simp [go_sem]⟩, (HB.out.alloc HB.out.size _).drew⟩)
      have HW5 := Lib.hid hW5.symm
      clear hW5
      go_wp2_with fail
      rw [HW5.out]
      go_region_held3 (fun w' => (w'.cell? ⟨wr.heap.size, 0, none⟩ = some (.int .i64 x.n) ∧ w'.cell? ⟨wr.heap.size, 1, none⟩ = some (.int .i64 x.level) ∧ w'.cell? ⟨wr.heap.size, 2, none⟩ = some (.int .i64 x.count) ∧ w'.cell? ⟨wr.heap.size, 3, none⟩ = some (.string x.first) ∧ w'.cell? ⟨wr.heap.size, 4, none⟩ = some (.string x.last)) ∧ Hid (Below w.heap.size w w'))
        (first | exact HS5.out | exact keepF hb' (by assumption))
        (first | (go_at_call 75; refine (HP8.out _ _ (by assumption) (by assumption)).mono ?_; rintro e w' ⟨rfl, hb'⟩) | (go_at_call 74; refine (HFR2.out _).mono ?_; rintro e w' ⟨rfl, hb'⟩))
      have HSX := idF (by assumption)
      go_wp2_with fail
      exact ⟨⟨k + 1, by omega, by go_num, by rw [HS.out], HSX⟩, by simp [intOf]; omega⟩
    · have HE := Lib.hid (show L.take k = L from List.take_of_length_le (by omega))
      go_wp2_with fail
      go_ret
      exact ⟨by rw [HPB.out, HE.out]; rfl, HB.out⟩
end Go.Proofs.YtiiafpbonkcokaaGreat
