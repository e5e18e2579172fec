/-
  An argument of type '[]Act', read.
-/
import Derived.Test.YtmhflhbogkkblaaRo
import Derived.Test.YtmhflhbogkkblaaAc
namespace Go.Proofs.Ytmhflhbogkkblaa
open Go.ChangeShapes Go.WideShapes Go.ChangeAt Go.RowKit Go.Deep

theorem act_cells : Try.prog.cellsOf 45 = 6 := by kernel_rfl
theorem one_cells : Try.prog.cellsOf 3 = 1 := by kernel_rfl
theorem act_one {fs : Array Field} (h : Try.prog.underlying 45 = some (.struct fs)) : oneCellFields Try.prog fs = true ∧ fs.size = 6 ∧ (fs.map (·.type)).toList = [3, 9, 9, 9, 3, 43] := by
  rw [Try.underlying45] at h
  cases h
  exact ⟨by kernel_rfl, rfl, by simp⟩
theorem string_one {H : Type} {enc : TypeId × Value → H} {P : Program} {w : World} {base : Nat} {spare : Nat → Bool} {held : Bool} {n : Nat} {t : TypeId} {x : Value} {y : DataW H × List MemPlace} (ht : P.underlying t = some .string)
    (h : DataW.trod enc P w base spare held n t [x] = some y) : ∃ s, x = .string s ∧ s.size ≤ maxLen := by
  obtain ⟨s, e, _, hs⟩ := DataW.trod_string ht h
  simp only [List.cons.injEq, and_true] at e
  exact ⟨s, e, hs⟩
theorem int_one {H : Type} {enc : TypeId × Value → H} {P : Program} {w : World} {base : Nat} {spare : Nat → Bool} {held : Bool} {n : Nat} {t : TypeId} {k : IntKind} {x : Value} {y : DataW H × List MemPlace} (ht : P.underlying t = some (.int k))
    (h : DataW.trod enc P w base spare held n t [x] = some y) : ∃ z, x = .int k z ∧ (Lit.int k z).wf = true := by
  obtain ⟨z, e, _, hs⟩ := DataW.trod_int ht h
  simp only [List.cons.injEq, and_true] at e
  exact ⟨z, e, hs⟩
theorem ints_one {H : Type} {enc : TypeId × Value → H} {P : Program} {w : World} {n : Nat} {t e : TypeId} {k : IntKind} {x : Value} {y : DataW H × List MemPlace} (ht : P.underlying t = some (.slice e)) (he : P.underlying e = some (.int k)) (hc : P.cellsOf e = 1)
    (h : DataW.trod enc P w 0 (fun _ => true) true n t [x] = some y) : ∃ (a : Option Addr) (len cap : Nat) (zs : List Int), x = .slice a len cap ∧ len ≤ 9223372036854775807 ∧ zs.length = len ∧ (∀ n ∈ zs, (Lit.int k n).wf = true) ∧
      (0 < len → ∃ b o, a = some ⟨b, o, none⟩ ∧ ∀ i, i < len → w.cell? ⟨b, o + i, none⟩ = some (.int k (zs.getD i 0))) := by
  rcases open_ints ht he hc h with ⟨hcs, hx⟩ | ⟨a, len', cap', zs, hcs, _, hl, hm, hz, hx, hcell, hwz⟩
  · simp only [List.cons.injEq, and_true] at hcs
    exact ⟨none, 0, 0, [], hcs, by omega, rfl, (fun _ h => by cases h), fun h => absurd h (by omega)⟩
  · simp only [List.cons.injEq, and_true] at hcs
    simp only [if_true] at hz
    unfold maxLen at hm
    refine ⟨some a, len', cap', zs.take len', hcs, by omega, by rw [List.length_take]; omega, fun n hn => hwz n (List.mem_of_mem_take hn), fun h0 => ?_⟩
    obtain ⟨b, o, rfl, hb⟩ := ints_at hcell (by omega)
    refine ⟨b, o, rfl, fun i hi => ?_⟩
    rw [hb i (by omega)]
    simp [List.getD_eq_getElem?_getD, hi]

theorem six_of {q : List Value} (h : q.length = 6) : ∃ v0 v1 v2 v3 v4 v5, q = [v0, v1, v2, v3, v4, v5] := by
  match q, h with
  | [v0, v1, v2, v3, v4, v5], _ => exact ⟨v0, v1, v2, v3, v4, v5, rfl⟩
theorem acts_open {H : Type} {enc : TypeId × Value → H} {w : World} {r : Reach} {b0 : Nat} {v : Value} {d : DataW H} {ps : List MemPlace}
    (hval : Value.okWide Try.prog w r b0 40 v) (h : DataW.Trod enc Try.prog w 0 (fun _ => true) true 40 v d ps) :
    ∃ (a : Option Addr) (cap : Nat) (l : List Act), v = .slice a l.length cap ∧ l.length ≤ 9223372036854775807 ∧ ActsAt w a l := by
  obtain ⟨fs, hfs⟩ : ∃ fs, Try.prog.underlying 45 = some (.struct fs) := ⟨_, Try.underlying45⟩
  obtain ⟨hone, hsz, hty⟩ := act_one hfs
  obtain ⟨a, len, cap, R, rfl, hlen, hR, hcell, hq⟩ := rows_open Try.underlying40 hfs hone (by rw [hsz]; exact act_cells) (by omega) hval h
  have hf : ∀ (j : Nat) (t : TypeId), [3, 9, 9, 9, 3, 43][j]? = some t → ∃ f : Field, fs[j]? = some f ∧ f.type = t := by
    intro j t hj
    rw [← hty] at hj
    simp only [Array.getElem?_toList, Array.getElem?_map] at hj
    cases hfj : fs[j]? with
    | none => rw [hfj] at hj; cases hj
    | some f => rw [hfj] at hj; exact ⟨f, rfl, by simpa using hj⟩
  have hrow : ∀ q ∈ R, ∃ x : Act, q = x.vals ∧ ActOk w x := by
    intro q hqm
    obtain ⟨hl, hr⟩ := hq q hqm
    rw [hsz] at hl
    obtain ⟨v0, v1, v2, v3, v4, v5, rfl⟩ := six_of hl
    obtain ⟨f0, hf0, e0⟩ := hf 0 _ rfl
    obtain ⟨f1, hf1, e1⟩ := hf 1 _ rfl
    obtain ⟨f2, hf2, e2⟩ := hf 2 _ rfl
    obtain ⟨f3, hf3, e3⟩ := hf 3 _ rfl
    obtain ⟨f4, hf4, e4⟩ := hf 4 _ rfl
    obtain ⟨f5, hf5, e5⟩ := hf 5 _ rfl
    obtain ⟨n0, y0, t0⟩ := hr 0 f0 v0 hf0 rfl
    obtain ⟨n1, y1, t1⟩ := hr 1 f1 v1 hf1 rfl
    obtain ⟨n2, y2, t2⟩ := hr 2 f2 v2 hf2 rfl
    obtain ⟨n3, y3, t3⟩ := hr 3 f3 v3 hf3 rfl
    obtain ⟨n4, y4, t4⟩ := hr 4 f4 v4 hf4 rfl
    obtain ⟨n5, y5, t5⟩ := hr 5 f5 v5 hf5 rfl
    rw [e0] at t0
    rw [e1] at t1
    rw [e2] at t2
    rw [e3] at t3
    rw [e4] at t4
    rw [e5] at t5
    obtain ⟨z0, rfl, w0⟩ := int_one Try.underlying3 t0
    obtain ⟨s1, rfl, m1⟩ := string_one Try.underlying9 t1
    obtain ⟨s2, rfl, m2⟩ := string_one Try.underlying9 t2
    obtain ⟨s3, rfl, m3⟩ := string_one Try.underlying9 t3
    obtain ⟨z4, rfl, w4⟩ := int_one Try.underlying3 t4
    obtain ⟨ka, kn, kc, ks, rfl, hk1, hk2, _, hk4⟩ := ints_one Try.underlying43 Try.underlying3 one_cells t5
    exact ⟨⟨z0, s1, s2, s3, z4, ka, kn, kc, ks⟩, rfl, ⟨bounds_i64 w0, m1, m2, m3, bounds_i64 w4, hk1, hk2, hk4⟩⟩
  have hall : ∃ l : List Act, R = l.map Act.vals ∧ ∀ x ∈ l, ActOk w x := by
    clear hcell hq hR
    induction R with
    | nil => exact ⟨[], rfl, fun x hx => by cases hx⟩
    | cons q R ih =>
      obtain ⟨x, rfl, hx⟩ := hrow q (List.mem_cons_self ..)
      obtain ⟨l, rfl, hl⟩ := ih (fun q hq => hrow q (List.mem_cons_of_mem _ hq))
      exact ⟨x :: l, rfl, fun y hy => by rcases List.mem_cons.1 hy with rfl | hy; exact hx; exact hl y hy⟩
  obtain ⟨l, rfl, hl⟩ := hall
  rw [List.length_map] at hR
  subst hR
  refine ⟨a, cap, l, rfl, hlen, hl, fun h0 => ?_⟩
  obtain ⟨b, o, rfl, hc⟩ := hcell h0
  rw [hsz] at hc
  refine ⟨b, o, rfl, fun i hi j x hx => hc i (by simpa using hi) j x ?_⟩
  simpa using hx
end Go.Proofs.Ytmhflhbogkkblaa
