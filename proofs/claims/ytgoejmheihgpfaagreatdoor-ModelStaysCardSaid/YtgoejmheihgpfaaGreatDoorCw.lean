/- Lemmas for ModelStays' proof. -/
import Derived.Lib.Hide
import Derived.Below
import Derived.OrdersHeld
import Derived.Deep.RegionHeld
import Derived.Laws.IdiomRangeMap
import Derived.WalkKit
import Derived.Test.YtgoejmheihgpfaaGreatDoorProg
namespace Go.Proofs.YtgoejmheihgpfaaGreatDoor
set_option maxRecDepth 100000
set_option maxHeartbeats 16000000
open Go.RowKit
theorem zD {p : Prop} (h : p) : Hid p := Lib.hid h
theorem zX {α : Type} (l : List α) (i : Nat) (a : α) : l.toArray.setIfInBounds i a = (l.set i a).toArray := List.setIfInBounds_toArray ..
theorem zY {α : Type} {x : α} {xs : List α} {a : α} : (x :: xs).set 0 a = a :: xs := List.set_cons_zero
theorem zZ {α : Type} {x : α} {xs : List α} {i : Nat} {a : α} : (x :: xs).set (i + 1) a = x :: xs.set i a := List.set_cons_succ
theorem zK {P : Program} {md : Region.Mode} {ops : Array Oper} {Q : Exit → Act → World → Prop} {S : World → Prop} {v : Value} {fuel : Nat} {listed : Array Bool} {a : Act} {w : World} (i : Nat) (d : Tmp) {op : Op} {ty : TypeId} {pos : String} {af : Array Edge} {g : Option (Nat × Bool)}
    (hi : ops[i]? = some ⟨some d, op, ty, pos, af, g⟩) (hy : YieldsIf P ops S ⟨some d, op, ty, pos, af, g⟩ v a) (h : wpAnyH P md ops Q S fuel (listed.setIfInBounds i true) (a.put (some d) v) w)
    (hs : Region.noSelect ops = true := by kernel_rfl) (hf : Region.free md ops listed i = true := by kernel_rfl) (hr : (Region.ready md ops listed).contains i = true := by kernel_rfl) (hQ : ∀ c a w, Q (.panic c) (a.put (some d) v) w → Q (.panic c) a w := by exact fun _ _ _ h => h) (hS : S w := by assumption) : wpAnyH P md ops Q S (fuel + 1) listed a w :=
  wpAnyH_take hi hs hf hr hQ hy hS h
theorem zB {w W : World} {k : Nat} {o : Obj} (hb : Below w.heap.size w W) (H : Hid (w.heap[k]? = some o)) : Hid (W.heap[k]? = some o) := zD ((hb.block _ (Array.getElem?_eq_some_iff.1 H.out).1).trans H.out)
theorem zT {w0 w W : World} (H : Hid (Below w0.heap.size w0 w)) (hb : Below w.heap.size w W) : Hid (Below w0.heap.size w0 W) := zD (H.out.trans (hb.mono H.out.size))
theorem zG {W : World} {g : Nat} {l : List Value} {T : TypeId} {z : Nat × Nat} (H : W.heap[g]? = some (.cells l.toArray T z)) (j : Nat) {v : Value} (h : l[j]? = some v) : W.cell? ⟨g, j, none⟩ = some v := by
  have h2 : l.toArray[j]? = some v := by simpa using h
  simp only [World.cell?, H, h2]
  rfl
theorem zF {W : World} {g : Nat} {l : List Value} {T : TypeId} {z : Nat × Nat} (H : Hid (W.heap[g]? = some (.cells l.toArray T z))) (j : Nat) {v : Value} (h : l[j]? = some v) : W.cell? ⟨g, j, none⟩ = some v := zG H.out j h
attribute [go_sem] Tryz.results4 Tryz.results6 Tryz.results7 Tryz.results8 Tryz.results9 Tryz.results11 Tryz.results12 Tryz.results13 Tryz.results14 Tryz.results15 Tryz.results16 Tryz.results17 Tryz.results18 Tryz.results19 Tryz.results20 Tryz.results21 Tryz.results22 Tryz.results36 Tryz.results37 Tryz.results38 Tryz.results39 Tryz.results40 Tryz.results41 Tryz.results42 Tryz.results43 Tryz.results45 Tryz.results46 Tryz.results47 Tryz.results52 Tryz.results54 Tryz.results55 Tryz.results56 Tryz.results57 Tryz.results58 Tryz.results59 Tryz.results60 Tryz.results65 Tryz.results66 Tryz.results67 Tryz.results68 Tryz.results69 Tryz.results70 Tryz.results71 Tryz.results72 Tryz.results73 Tryz.results74 Tryz.results75 Tryz.results76 Tryz.results77 Tryz.results78 Tryz.results79 Tryz.results81 Tryz.results82 Tryz.results83 Tryz.results88 Tryz.results89 Tryz.results90 Tryz.results91 Tryz.results92 Tryz.results93 Tryz.results94 Tryz.results98 Tryz.results99 Tryz.results100 Tryz.results102 Tryz.results103 Tryz.results104 Tryz.results105 Tryz.results106 Tryz.results109 Tryz.results110 Tryz.results111 Tryz.results112 Tryz.results113 Tryz.results114 Tryz.results115 Tryz.results116 Tryz.results128 Tryz.results130 Tryz.results131 Tryz.results136 Tryz.results137 Tryz.results138 Tryz.results139 Tryz.results140 Tryz.results141 Tryz.results142 Tryz.results148 Tryz.results155 Tryz.results159 Tryz.results160 Tryz.results161 Tryz.results164 Tryz.results165 Tryz.results166 Tryz.results167 Tryz.results180
theorem zR {P : Program} {fn : Func} {R : Ending → World → Prop} {a : Act} {w : World} {v : Value} (hR : R (.returned v) w) (hr : (results fn a.tmps).run P w = .ok v w := by simp [results, go_sem]) (hd : a.defers = [] := by rfl) : bodyPost P fn R .ret a w := ⟨hd, v, hr, hR⟩
section
variable {P : Program} {md : Region.Mode} {ops : Array Oper} {Q : Exit → Act → World → Prop} {S : World → Prop} {v : Value} {fuel : Nat} {listed : Array Bool} {a a' : Act} {w : World} {op : Op} {ty : TypeId} {pos : String} {af : Array Edge} {g : Option (Nat × Bool)}
theorem zI (i : Nat) (d : Tmp) (hi : ops[i]? = some ⟨some d, op, ty, pos, af, g⟩) (hy : ∀ w, S w → (execOp a.eval ⟨some d, op, ty, pos, af, g⟩).run P w = .ok (.value v) w) (h : wpAnyH P md ops Q S fuel (listed.setIfInBounds i true) a' w)
    (hs : Region.noSelect ops = true := by kernel_rfl) (hf : Region.free md ops listed i = true := by kernel_rfl) (hr : (Region.ready md ops listed).contains i = true := by kernel_rfl) (hQ : ∀ c a w, Q (.panic c) (a.put (some d) v) w → Q (.panic c) a w := by exact fun _ _ _ h => h) (hw : Region.wanted ⟨some d, op, ty, pos, af, g⟩ (yielded ops a.tmps) = true := by rfl) (hS : S w := by assumption) (ha : a.put (some d) v = a' := by simp only [Act.put, zX, zY, zZ] <;> rfl) : wpAnyH P md ops Q S (fuel + 1) listed a w :=
  wpAnyH_take hi hs hf hr hQ (Or.inl ⟨hw, hy⟩) hS (by rw [ha]; exact h)
theorem zJ (i : Nat) (d : Tmp) (hi : ops[i]? = some ⟨some d, op, ty, pos, af, g⟩) (h : wpAnyH P md ops Q S fuel (listed.setIfInBounds i true) a' w)
    (hw : Region.wanted ⟨some d, op, ty, pos, af, g⟩ (yielded ops a.tmps) = true := by rfl) (hy : ∀ w, S w → (execOp a.eval ⟨some d, op, ty, pos, af, g⟩).run P w = .ok (.value v) w := by intro wS hS; (try dsimp only at hS); go_simp; try with_reducible rfl)
    (hs : Region.noSelect ops = true := by kernel_rfl) (hf : Region.free md ops listed i = true := by kernel_rfl) (hr : (Region.ready md ops listed).contains i = true := by kernel_rfl) (hQ : ∀ c a w, Q (.panic c) (a.put (some d) v) w → Q (.panic c) a w := by exact fun _ _ _ h => h) (hS : S w := by assumption) (ha : a.put (some d) v = a' := by simp only [Act.put, zX, zY, zZ] <;> rfl) : wpAnyH P md ops Q S (fuel + 1) listed a w :=
  wpAnyH_take hi hs hf hr hQ (Or.inl ⟨hw, hy⟩) hS (by rw [ha]; exact h)
theorem zU (i : Nat) (d : Tmp) (hi : ops[i]? = some ⟨some d, op, ty, pos, af, g⟩) (h : wpAnyH P md ops Q S fuel (listed.setIfInBounds i true) a' w)
    (hs : Region.noSelect ops = true := by kernel_rfl) (hf : Region.free md ops listed i = true := by kernel_rfl) (hr : (Region.ready md ops listed).contains i = true := by kernel_rfl) (hQ : ∀ c a w, Q (.panic c) (a.put (some d) undef) w → Q (.panic c) a w := by exact fun _ _ _ h => h) (hw : Region.wanted ⟨some d, op, ty, pos, af, g⟩ (yielded ops a.tmps) = false := by rfl) (hS : S w := by assumption) (ha : a.put (some d) undef = a' := by simp only [Act.put, zX, zY, zZ] <;> rfl) : wpAnyH P md ops Q S (fuel + 1) listed a w :=
  wpAnyH_take hi hs hf hr hQ (Or.inr ⟨hw, rfl⟩) hS (by rw [ha]; exact h)
end
theorem zq {α : Type} {xs : Array α} {i : Nat} {b : α} (h : xs[i]? = some b) : ∃ h : i < xs.size, xs[i] = b := Array.getElem?_eq_some_iff.1 h
theorem zf {p : Prop} [Decidable p] (h : ¬p) : decide p = false := decide_eq_false h
theorem zt {p : Prop} [Decidable p] (h : p) : decide p = true := decide_eq_true h
theorem zb {α : Type} [BEq α] [LawfulBEq α] {a b : α} : (a == b) = false ↔ a ≠ b := beq_eq_false_iff_ne
theorem zk {w w' : World} {a : Addr} (h : w'.heap[a.block]? = w.heap[a.block]?) : w'.cell? a = w.cell? a := World.cell?_of_block h
theorem zl {B : Nat} {w : World} : Below B w w := Below.refl B w
theorem zn {n : Nat} : n ≤ n := Nat.le_refl n
theorem zw (w : World) (o : Obj) : (w.alloc o).heap[w.heap.size]? = some o := heap_alloc_new w o
section
variable {P : Program} {md : Region.Mode} {ops : Array Oper} {Q : Exit → Act → World → Prop} {S : World → Prop} {fuel : Nat} {listed : Array Bool} {a : Act} {w : World} {rs : List Nat}
theorem zg {i : Nat} (d : Option Tmp) {op : Op} {ty : TypeId} {pos : String} {af : Array Edge} {g : Option (Nat × Bool)} (ho : ops[i]? = some ⟨d, op, ty, pos, af, g⟩)
    (h : ∀ K' : Act → World → Prop, Shut (∀ a w, S w → (S w → wpAnyH P md ops Q S fuel (listed.setIfInBounds i true) a w) → K' a w) → if Region.wanted ⟨d, op, ty, pos, af, g⟩ (yielded ops a.tmps) = true then Oper.wp P ⟨d, op, ty, pos, af, g⟩ a w K' Q else K' (a.put d undef) w)
    (hs : AllReadyH P md ops Q S fuel listed a w rs) : AllReadyH P md ops Q S fuel listed a w (i :: rs) := AllReadyH.cons ho h hs
theorem zh : AllReadyH P md ops Q S fuel listed a w [] := AllReadyH.nil
theorem zy (rs : List Nat) (h : AllReadyH P md ops Q S fuel listed a w rs) (hr : Region.ready md ops listed = rs := by kernel_rfl) (hne : rs ≠ [] := by simp) : wpAnyH P md ops Q S (fuel + 1) listed a w := wpAnyH_ready hr hne h
end
theorem zo {P : Program} {T : TypeId} {z : Value} (h : (P.info? T).map (·.zero) = some (some z)) (W : World) : (zeroValue T).run P W = .ok z W := by
  cases hq : P.info? T with
  | none => rw [hq] at h; cases h
  | some i =>
    have hz : i.zero = some z := by rw [hq] at h; exact Option.some.inj h
    simp [zeroValue, typeInfo, hq, hz]
abbrev iV (n : Int) : Value := .int .i64 n
abbrev eS : Value := .string ⟨#[]⟩
end Go.Proofs.YtgoejmheihgpfaaGreatDoor
