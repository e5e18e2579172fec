/-
  'slices.IndexFunc', 'slices.ContainsFunc' on tables, at a closure that may keep something of its own.
-/
import Derived.Test.YtiiafpbonkcokaaGreatMd
import Derived.Deep.LoopGhost
namespace Go.Proofs.YtiiafpbonkcokaaGreat
open Go.RowKit Go.Maps

/-- the first place below n of which p holds, or -1 -/
def firstI (n : Nat) (p : Nat → Bool) : Int := match (List.range n).find? p with | some i => i | none => -1
theorem firstI_hit {n k : Nat} {p : Nat → Bool} (h : k < n) (h1 : p k = true) (h2 : ∀ j, j < k → p j = false) : firstI n p = k := by
  have : (List.range n).find? p = some k := by
    rw [List.find?_range_eq_some]
    exact ⟨h1, List.mem_range.2 h, fun j hj => by simp [h2 j hj]⟩
  simp [firstI, this]
theorem firstI_miss {n : Nat} {p : Nat → Bool} (h : ∀ j, j < n → p j = false) : firstI n p = -1 := by
  have : (List.range n).find? p = none := by
    rw [List.find?_range_eq_none]
    intro j hj; simp [h j hj]
  simp [firstI, this]
theorem firstI_ge {n : Nat} {p : Nat → Bool} : decide (0 ≤ firstI n p) = (List.range n).any p := by
  unfold firstI
  cases h : (List.range n).find? p with
  | some i =>
    have : (List.range n).any p = true := by rw [List.any_eq_true]; exact ⟨i, List.mem_of_find?_eq_some h, List.find?_some h⟩
    rw [this]; simp
  | none =>
    have : (List.range n).any p = false := by
      rw [List.any_eq_false]; intro x hx
      have := List.find?_eq_none.1 h x hx
      simpa using this
    rw [this]; simp

set_option maxHeartbeats 1000000 in
set_option maxRecDepth 100000 in
theorem index_any (g : Nat) (lb : Array Value) (eg : ∀ args w, (callFunc g args).run Tryz.prog w = .ok (.enter g args) w) (a : Option Addr) (n c : Nat) (L : List Fi) (hn : n = L.length) (hbig : n ≤ 9223372036854775807) (p : Nat → Bool) (I : Nat → World → Prop)
    (ha : 0 < n → ∃ b o, a = some ⟨b, o, none⟩ ∧ ∀ i W, I i W → ∀ j (h : j < L.length), FiAt W b (o + j * 5) L[j])
    (hc : ∀ i (h : i < L.length) W, I i W → Calls Tryz.prog g (#[fiv L[i]] ++ lb) W fun e w' => e = .returned (.bool (p i)) ∧ I (i + 1) w')
    (w : World) (h0 : I 0 w) :
    Calls Tryz.prog 37 #[.slice a n c, .func (.func g) #[] lb] w fun e w' => e = .returned (.int .i64 (firstI n p)) ∧ ∃ i, I i w' := by
  have HA := Lib.hid ha
  have HC := Lib.hid hc
  have HN := Lib.hid hn
  clear ha hc hn
  go_enter Tryz.func37, Tryz.ntmps37
  go_wp2
  go_loopw [5, 8] (fun _ i wr => ∃ k : Nat, k ≤ n ∧ i = .int .i64 k ∧ Hid (I k wr) ∧ Hid (∀ j, j < k → p j = false)) (fun _ i _ => n - (intOf i).toNat)
  case atStart => exact ⟨0, by omega, rfl, h0, fun j h => by omega⟩
  case round =>
    obtain ⟨k, hk, rfl, HI, HP⟩ := hrel
    by_cases hlt : k < n
    · obtain ⟨b, o, rfl, hrow⟩ := HA.out (by omega)
      have hkL : k < L.length := by rw [← HN.out]; exact hlt
      have f := hrow k wr HI.out k hkL
      have hcall := HC.out k hkL wr HI.out
      clear hrow
      generalize L[k] = x at *
      have p0 := f.c0
      have p1 := f.c1
      have p2 := f.c2
      have p3 := f.c3
      have p4 := f.c4
      clear f
      unfold fiv at hcall
      have HCALL := Lib.hid hcall
      clear hcall
      cases hq : p k with
      | true =>
        have HH := Lib.hid (firstI_hit hlt hq HP.out)
        rw [hq] at HCALL
        clear hq
        go_wp2_with fail
        refine HCALL.out.mono ?_
        rintro e w1 ⟨rfl, hI⟩
        have HI1 := Lib.hid hI
        clear hI
        go_wp2_with fail
        go_ret
        exact ⟨ret_int HH.out.symm, _, HI1.out⟩
      | false =>
        have HP1 := Lib.hid (show ∀ j, j < k + 1 → p j = false from fun j hj => by
          by_cases e : j = k
          · rw [e]; exact hq
          · exact HP.out j (by omega))
        rw [hq] at HCALL
        clear hq
        go_wp2_with fail
        refine HCALL.out.mono ?_
        rintro e w1 ⟨rfl, hI⟩
        have HI1 := Lib.hid hI
        clear hI
        go_wp2_with fail
        exact ⟨⟨k + 1, by omega, by go_num, HI1, HP1⟩, by simp [intOf]; omega⟩
    · have : k = n := by omega
      subst this
      have HH := Lib.hid (firstI_miss HP.out)
      go_wp2_with fail
      go_ret
      exact ⟨ret_int HH.out.symm, _, HI.out⟩
theorem contains_any (g : Nat) (lb : Array Value) (eg : ∀ args w, (callFunc g args).run Tryz.prog w = .ok (.enter g args) w) (a : Option Addr) (n c : Nat) (L : List Fi) (hn : n = L.length) (hbig : n ≤ 9223372036854775807) (p : Nat → Bool) (I : Nat → World → Prop)
    (ha : 0 < n → ∃ b o, a = some ⟨b, o, none⟩ ∧ ∀ i W, I i W → ∀ j (h : j < L.length), FiAt W b (o + j * 5) L[j])
    (hc : ∀ i (h : i < L.length) W, I i W → Calls Tryz.prog g (#[fiv L[i]] ++ lb) W fun e w' => e = .returned (.bool (p i)) ∧ I (i + 1) w')
    (w : World) (h0 : I 0 w) :
    Calls Tryz.prog 43 #[.slice a n c, .func (.func g) #[] lb] w fun e w' => e = .returned (.bool ((List.range n).any p)) ∧ ∃ i, I i w' := by
  have HC := Lib.hid (index_any g lb eg a n c L hn hbig p I ha hc w h0)
  have HG := Lib.hid (firstI_ge (n := n) (p := p))
  clear hn ha hc
  go_enter Tryz.func43, Tryz.ntmps43
  go_wp2_with fail
  refine HC.out.mono ?_
  rintro e w1 ⟨rfl, hI⟩
  have HI := Lib.hid hI
  clear hI
  go_wp2_with fail
  go_ret
  exact ⟨ret_bool HG.out, HI.out⟩
end Go.Proofs.YtiiafpbonkcokaaGreat
