/-
  'Check': whether a state is right, as the program goes through it.
-/
import Derived.Test.YtiiafpbonkcokaaGreatMe
namespace Go.Proofs.YtiiafpbonkcokaaGreat
open Go.RowKit Go.Maps

/-- do two tables of one level meet? -/
def clash (f g : Fi) : Bool := g.level == f.level && (g.n != f.n) && sLe f.first g.last && sLe g.first f.last

set_option maxRecDepth 100000 in
set_option maxHeartbeats 1000000 in
theorem c21_any (w : World) (f g : Fi) (fb : Nat) (h : FiAt w fb 0 f) (hlt : fb < w.heap.size) : Calls Tryz.prog 47 #[fiv g, .pointer (some ⟨fb, 0, none⟩)] w fun e w' => e = .returned (.bool (clash f g)) ∧ Below w.heap.size w w' := by
  obtain ⟨n, l, c, a, b⟩ := f
  obtain ⟨n2, l2, c2, a2, b2⟩ := g
  have HR := Lib.hid (show clash ⟨n, l, c, a, b⟩ ⟨n2, l2, c2, a2, b2⟩ = (l2 == l && (n2 != n) && sLe a b2 && sLe a2 b) from rfl)
  generalize clash ⟨n, l, c, a, b⟩ ⟨n2, l2, c2, a2, b2⟩ = r at *
  obtain ⟨p0, p1, p2, p3, p4⟩ := h
  simp only [Nat.zero_add] at p0 p1 p2 p3 p4
  unfold fiv
  go_enter Tryz.func47, Tryz.ntmps47
  go_wp2_with fail
  all_goals
    go_ret
    refine ⟨ret_bool ?_, bl1 _ _⟩
    rw [HR.out]
    clear HR
    go_tidy
    simp only [sLe, sEq]
    first | (simp [*]; done) | go_goals
def meetF (L : List Fi) (f : Fi) : Bool := decide (0 < f.level) && L.any (clash f)
theorem any_range {L : List Fi} {q : Fi → Bool} : (List.range L.length).any (fun i => q L[i]!) = L.any q := by
  rw [Bool.eq_iff_iff, List.any_eq_true, List.any_eq_true]
  constructor
  · rintro ⟨i, hi, hq⟩
    have hi' := List.mem_range.1 hi
    rw [getElem!_pos L i hi'] at hq
    exact ⟨_, List.getElem_mem hi', hq⟩
  · rintro ⟨x, hx, hq⟩
    obtain ⟨i, hi, rfl⟩ := List.getElem_of_mem hx
    exact ⟨i, List.mem_range.2 hi, by rw [getElem!_pos L i hi]; exact hq⟩
theorem enters_c21 : ∀ args w, (callFunc 47 args).run Tryz.prog w = .ok (.enter 47 args) w := enters_of Tryz.func47 (by kernel_rfl) rfl
theorem enters_c2 : ∀ args w, (callFunc 46 args).run Tryz.prog w = .ok (.enter 46 args) w := enters_of Tryz.func46 (by kernel_rfl) rfl
theorem enters_c1 : ∀ args w, (callFunc 44 args).run Tryz.prog w = .ok (.enter 44 args) w := enters_of Tryz.func44 (by kernel_rfl) rfl

/-- 'ContainsFunc' at a closure that keeps all -/
theorem contains_below (g : Nat) (lb : Array Value) (eg : ∀ args w, (callFunc g args).run Tryz.prog w = .ok (.enter g args) w) (S : Nat → Prop) (w : World) (v : Value) (L : List Fi) (h : FRow S w v L) (q : Fi → Bool)
    (hc : ∀ x (_ : x ∈ L) W, Below w.heap.size w W → Calls Tryz.prog g (#[fiv x] ++ lb) W fun e w' => e = .returned (.bool (q x)) ∧ Below w.heap.size w w') :
    Calls Tryz.prog 43 #[v, .func (.func g) #[] lb] w fun e w' => e = .returned (.bool (L.any q)) ∧ Below w.heap.size w w' := by
  have HK := Lib.hid h
  obtain ⟨⟨a, c, rfl, h1, h2, h0, h3⟩, -⟩ := h
  refine (contains_any g lb eg a L.length c L rfl (by omega) (fun i => q L[i]!) (fun _ W => Below w.heap.size w W) (fun hl => ?_) (fun i hi W hI => ?_) w (Below.refl _ _)).mono ?_
  · obtain ⟨b, o, rfl, _, hb, hc⟩ := h3 hl
    exact ⟨b, o, rfl, fun i W hI j hj => (hc j hj).block (hI.block b hb)⟩
  · rw [getElem!_pos L i hi]
    exact hc _ (List.getElem_mem hi) W hI
  · rintro e w' ⟨rfl, _, hI⟩
    exact ⟨by rw [any_range], hI⟩

set_option maxRecDepth 100000 in
set_option maxHeartbeats 1000000 in
theorem c2_any (S : Nat → Prop) (w : World) (f : Fi) (sb : Nat) (v : Value) (L : List Fi) (h : FRow S w v L) (hs : w.cell? ⟨sb, 2, none⟩ = some v) (hsl : sb < w.heap.size) : Calls Tryz.prog 46 #[fiv f, .pointer (some ⟨sb, 0, none⟩)] w fun e w' => e = .returned (.bool (meetF L f)) ∧ Below w.heap.size w w' := by
  obtain ⟨W0, hW0⟩ : ∃ W0, W0 = w.alloc (.cells #[.int .i64 f.n, .int .i64 f.level, .int .i64 f.count, .string f.first, .string f.last] 29) := ⟨_, rfl⟩
  have hB : Below w.heap.size w W0 := by rw [hW0]; exact bl1 _ _
  have hf : FiAt W0 w.heap.size 0 f := by rw [hW0]; exact ⟨by simp [go_sem], by simp [go_sem], by simp [go_sem], by simp [go_sem], by simp [go_sem]⟩
  have hz : w.heap.size < W0.heap.size := by rw [hW0]; simp
  have hs0 : W0.cell? ⟨sb, 2, none⟩ = some v := (hB.cell (p := ⟨sb, 2, none⟩) hsl).trans hs
  have HC := Lib.hid (contains_below 47 #[.pointer (some ⟨w.heap.size, 0, none⟩)] enters_c21 S W0 v L (h.below hB) (clash f) (fun x _ W hW =>
    (c21_any W f x w.heap.size (hf.block (hW.block _ hz)) (Nat.lt_of_lt_of_le hz hW.size)).mono fun _ _ ⟨he, hb⟩ => ⟨he, hW.trans (hb.mono hW.size)⟩))
  have HM := Lib.hid (show meetF L f = (decide (0 < f.level) && L.any (clash f)) from rfl)
  have HB := Lib.hid hB
  have HW := Lib.hid hW0.symm
  have hl0 := hf.c1
  obtain ⟨⟨va, vc, rfl, -, -, -, -⟩, -⟩ := h
  clear hB hf hz hW0
  simp only [Nat.zero_add] at hl0
  generalize meetF L f = m at *
  generalize L.any (clash f) = q at *
  unfold fiv
  by_cases hlev : 0 < f.level
  · go_enter Tryz.func46, Tryz.ntmps46
    go_wp2_with fail
    rw [HW.out]
    refine HC.out.mono ?_
    rintro e w1 ⟨rfl, hb⟩
    have HB1 := Lib.hid (HB.out.trans (hb.mono HB.out.size))
    clear hb
    go_wp2_with fail
    go_ret
    exact ⟨ret_bool (by rw [HM.out]; simp [hlev]), HB1.out⟩
  · go_enter Tryz.func46, Tryz.ntmps46
    go_wp2_with fail
    go_ret
    exact ⟨ret_bool (by rw [HM.out, decide_eq_false (by omega)]; rfl), by rw [HW.out]; exact HB.out⟩

def wrongF (last next : Int) (f : Fi) : Bool := !(decide (last < f.n) && decide (f.n < next)) || !rightB f
set_option maxRecDepth 100000 in
set_option maxHeartbeats 1000000 in
theorem c1_any (w : World) (f : Fi) (lb sb : Nat) (last next : Int) (hsb : sb < w.heap.size) (hne : sb ≠ lb) (hl : w.cell? ⟨lb, 0, none⟩ = some (.int .i64 last)) (hf : w.frozen? ⟨lb, 0, none⟩ = false) (hn : w.cell? ⟨sb, 0, none⟩ = some (.int .i64 next)) :
    Calls Tryz.prog 44 #[fiv f, .pointer (some ⟨lb, 0, none⟩), .pointer (some ⟨sb, 0, none⟩)] w fun e w' => e = .returned (.bool (wrongF last next f)) ∧ w'.cell? ⟨lb, 0, none⟩ = some (.int .i64 f.n) ∧ w'.frozen? ⟨lb, 0, none⟩ = false ∧ But [lb] w w' := by
  have hlt := World.block_lt_of_cell? w _ hl
  have HM := Lib.hid (show wrongF last next f = (!(decide (last < f.n) && decide (f.n < next)) || !rightB f) from rfl)
  have HR := Lib.hid (fun W => right_any W f)
  generalize wrongF last next f = m at *
  unfold fiv at *
  obtain ⟨W1, hW1⟩ : ∃ W1, W1 = (w.setCell ⟨lb, 0, none⟩ (.int .i64 f.n)).alloc (.cells #[.int .i64 f.n, .int .i64 f.level, .int .i64 f.count, .string f.first, .string f.last] 29) := ⟨_, rfl⟩
  have hfin : W1.cell? ⟨lb, 0, none⟩ = some (.int .i64 f.n) ∧ W1.frozen? ⟨lb, 0, none⟩ = false ∧ But [lb] w W1 := by
    rw [hW1]
    exact ⟨((bl1 _ _).cell (p := ⟨lb, 0, none⟩) (by simpa using hlt)).trans (World.cell?_setCell_same _ _ _ hl), ((bl1 _ _).frozen (p := ⟨lb, 0, none⟩) (by simpa using hlt)).trans (by rw [World.frozen?_setCell]; exact hf), ((But.refl _ _).setCell (.inl (by simp)) _).alloc _⟩
  have HF := Lib.hid hfin
  have HW := Lib.hid hW1.symm
  clear hfin hW1
  by_cases h1 : last < f.n
  · by_cases h2 : f.n < next
    · generalize hrb : rightB f = rb at *
      clear hrb
      cases rb with
      | true =>
        go_enter Tryz.func44, Tryz.ntmps44
        go_wp2_with fail
        rw [HW.out]
        refine (HR.out _).mono ?_
        rintro e w1 ⟨rfl, hb⟩
        have hlt1 : lb < W1.heap.size := by have := HF.out.2.2.size; omega
        have HF1 := Lib.hid (show w1.cell? ⟨lb, 0, none⟩ = some (.int .i64 f.n) ∧ w1.frozen? ⟨lb, 0, none⟩ = false ∧ But [lb] w w1 from ⟨(hb.cell (p := ⟨lb, 0, none⟩) hlt1).trans HF.out.1, (hb.frozen (p := ⟨lb, 0, none⟩) hlt1).trans HF.out.2.1, HF.out.2.2.trans (.of_below hb)⟩)
        clear hb
        go_wp2_with fail
        go_ret
        exact ⟨ret_bool (by rw [HM.out, decide_eq_true h1, decide_eq_true h2]; rfl), HF1.out⟩
      | false =>
        go_enter Tryz.func44, Tryz.ntmps44
        go_wp2_with fail
        rw [HW.out]
        refine (HR.out _).mono ?_
        rintro e w1 ⟨rfl, hb⟩
        have hlt1 : lb < W1.heap.size := by have := HF.out.2.2.size; omega
        have HF1 := Lib.hid (show w1.cell? ⟨lb, 0, none⟩ = some (.int .i64 f.n) ∧ w1.frozen? ⟨lb, 0, none⟩ = false ∧ But [lb] w w1 from ⟨(hb.cell (p := ⟨lb, 0, none⟩) hlt1).trans HF.out.1, (hb.frozen (p := ⟨lb, 0, none⟩) hlt1).trans HF.out.2.1, HF.out.2.2.trans (.of_below hb)⟩)
        clear hb
        go_wp2_with fail
        go_ret
        exact ⟨ret_bool (by rw [HM.out]; simp), HF1.out⟩
    · go_enter Tryz.func44, Tryz.ntmps44
      go_wp2_with fail
      go_ret
      exact ⟨ret_bool (by rw [HM.out, decide_eq_false (by omega : ¬ f.n < next)]; simp), by rw [HW.out]; exact HF.out⟩
  · go_enter Tryz.func44, Tryz.ntmps44
    go_wp2_with fail
    go_ret
    exact ⟨ret_bool (by rw [HM.out, decide_eq_false (by omega : ¬ last < f.n)]; simp), by rw [HW.out]; exact HF.out⟩
end Go.Proofs.YtiiafpbonkcokaaGreat
