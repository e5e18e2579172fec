/-
  'find' of Apply; what Apply makes of a state, in plain words.
-/
import Derived.Test.YtiiafpbonkcokaaGreatSo
namespace Go.Proofs.YtiiafpbonkcokaaGreat
open Go.RowKit Go.Maps

def hasN (L : List Fi) (n : Int) : Bool := L.any fun x => x.n == n
def findN (L : List Fi) (n : Int) : Int := firstI L.length fun i => L[i]!.n == n

theorem find1_any (w : World) (g : Fi) (nb : Nat) (n : Int) (h : w.cell? ⟨nb, 0, none⟩ = some (.int .i64 n)) (hlt : nb < w.heap.size) : Calls Tryz.prog 38 #[fiv g, .pointer (some ⟨nb, 0, none⟩)] w fun e w' => e = .returned (.bool (g.n == n)) ∧ Below w.heap.size w w' := by
  unfold fiv
  go_enter Tryz.func38, Tryz.ntmps38
  go_wp2_with fail
  go_ret
  exact ⟨rfl, bl1 _ _⟩
theorem enters_find1 : ∀ args w, (callFunc 38 args).run Tryz.prog w = .ok (.enter 38 args) w := enters_of Tryz.func38 (by kernel_rfl) rfl
set_option maxRecDepth 100000 in
set_option maxHeartbeats 1000000 in
theorem find_any (S : Nat → Prop) (w : World) (n : Int) (fb : Nat) (v : Value) (L : List Fi) (h : FRow S w v L) (hs : w.cell? ⟨fb, 0, none⟩ = some v) (hsl : fb < w.heap.size) : Calls Tryz.prog 36 #[.int .i64 n, .pointer (some ⟨fb, 0, none⟩)] w fun e w' => e = .returned (.int .i64 (findN L n)) ∧ Below w.heap.size w w' := by
  obtain ⟨W0, hW0⟩ : ∃ W0, W0 = w.alloc (.cells #[.int .i64 n] 3) := ⟨_, rfl⟩
  have hB : Below w.heap.size w W0 := by rw [hW0]; exact bl1 _ _
  have hz : w.heap.size < W0.heap.size := by rw [hW0]; simp
  have hc : W0.cell? ⟨w.heap.size, 0, none⟩ = some (.int .i64 n) := by rw [hW0]; simp [go_sem]
  have hk := h.below hB
  obtain ⟨⟨a, c, rfl, h1, h2, h0, h3⟩, -⟩ := h
  have HC := Lib.hid (index_any 38 #[.pointer (some ⟨w.heap.size, 0, none⟩)] enters_find1 a L.length c L rfl (by omega) (fun i => L[i]!.n == n) (fun _ W => Below W0.heap.size W0 W) (fun hl => by
      obtain ⟨⟨a', c', he, _, _, _, h5⟩, _⟩ := hk
      obtain ⟨rfl, rfl⟩ : a = a' ∧ c = c' := by injection he with e1 e2 e3; exact ⟨e1, e3⟩
      obtain ⟨b, o, rfl, _, hb, hcc⟩ := h5 hl
      exact ⟨b, o, rfl, fun i W hI j hj => (hcc j hj).block (hI.block b hb)⟩) (fun i hi W hI => by
      rw [getElem!_pos L i hi]
      exact (find1_any W L[i] w.heap.size n ((hI.cell (p := ⟨w.heap.size, 0, none⟩) hz).trans hc) (Nat.lt_of_lt_of_le hz hI.size)).mono fun _ _ ⟨he, hb⟩ => ⟨he, hI.trans (hb.mono hI.size)⟩) W0 (Below.refl _ _))
  have HB := Lib.hid hB
  have HW := Lib.hid hW0.symm
  have HF := Lib.hid (show findN L n = firstI L.length fun i => L[i]!.n == n from rfl)
  clear hB hz hc hk h3 hW0 h0
  generalize (firstI L.length fun i => L[i]!.n == n) = r at *
  generalize findN L n = q at *
  go_enter Tryz.func36, Tryz.ntmps36
  go_wp2_with fail
  rw [HW.out]
  refine HC.out.mono ?_
  rintro e w1 ⟨rfl, _, hb⟩
  have HB1 := Lib.hid (HB.out.trans (hb.mono HB.out.size))
  clear hb
  go_wp2_with fail
  go_ret
  exact ⟨ret_int HF.out.symm, HB1.out⟩

theorem hasN_iff {L : List Fi} {n : Int} : hasN L n = true ↔ ∃ x ∈ L, x.n = n := by
  unfold hasN; rw [List.any_eq_true]; simp
theorem findN_none {L : List Fi} {n : Int} (h : hasN L n = false) : findN L n = -1 := by
  refine firstI_miss (fun j hj => ?_)
  rw [getElem!_pos L j hj]
  unfold hasN at h
  rw [List.any_eq_false] at h
  simpa using h _ (List.getElem_mem hj)
theorem findN_some {L : List Fi} {n : Int} (h : hasN L n = true) : ∃ i, i < L.length ∧ findN L n = i ∧ L.eraseIdx i = L.eraseP fun x => x.n == n := by
  have hlt : L.findIdx (fun x : Fi => x.n == n) < L.length := List.findIdx_lt_length.2 (List.any_eq_true.1 h)
  refine ⟨L.findIdx fun x : Fi => x.n == n, hlt, firstI_hit hlt ?_ (fun j hj => ?_), ?_⟩
  · rw [getElem!_pos L _ hlt]
    exact List.findIdx_getElem (p := fun x : Fi => x.n == n) (w := hlt)
  · rw [getElem!_pos L j (by omega)]
    exact List.not_of_lt_findIdx (p := fun x : Fi => x.n == n) hj
  · rw [List.eraseP_eq_eraseIdx, List.findIdx?_eq_some_of_exists (List.any_eq_true.1 h)]
/-- the tables without those of some numbers -/
def dropL : List Fi → List Int → Option (List Fi)
  | L, [] => some L
  | L, n :: r => if hasN L n then dropL (L.eraseP fun x => x.n == n) r else none
/-- and with some more -/
def addL : List Fi → List Fi → Option (List Fi)
  | L, [] => some L
  | L, f :: r => if hasN L f.n then none else addL (L ++ [f]) r
/-- an edit -/
structure Ed where
  drop : List Int
  add : List Fi
  next : Int
  log : Int
def s0 : St := ⟨0, 0, []⟩
def leN (x y : Fi) : Bool := decide (x.n ≤ y.n)
/-- what an edit makes of a state, and why not -/
def applyS (s : St) (e : Ed) : Int × St :=
  if checkB s then match dropL s.fs e.drop with
    | none => (4, s0)
    | some L => match addL L e.add with
      | none => (5, s0)
      | some M => if checkB ⟨max s.next e.next, max s.log e.log, M.mergeSort leN⟩ then (0, ⟨max s.next e.next, max s.log e.log, M.mergeSort leN⟩) else (1, s0)
  else (1, s0)
end Go.Proofs.YtiiafpbonkcokaaGreat
