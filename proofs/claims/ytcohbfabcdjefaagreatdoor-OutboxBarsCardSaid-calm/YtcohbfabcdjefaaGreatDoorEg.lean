/-
  package table: right, at a list that nothing bars.
-/
import Derived.Test.YtcohbfabcdjefaaGreatDoorEf
import Derived.BigQuiet
namespace Go.Proofs.YtcohbfabcdjefaaGreatDoor
open Go.RowKit Go.Maps

def ecells : List It → List Value
  | [] => []
  | x :: r => .string x.key :: .string x.val :: .bool x.gone :: ecells r
theorem ecells_append : ∀ (l r : List It), ecells (l ++ r) = ecells l ++ ecells r
  | [], _ => rfl
  | x :: l, r => by simp [ecells, ecells_append l r]
theorem ecells_len : ∀ l : List It, (ecells l).length = l.length * 3
  | [] => rfl
  | x :: r => by simp [ecells, ecells_len r]; omega
theorem ecells_one : ∀ (L : List It), ∀ u ∈ ecells L, u.oneCell' = true
  | [], _, h => by cases h
  | f :: r, u, h => by
    simp only [ecells, List.mem_cons] at h
    rcases h with rfl | rfl | rfl | h
    · rfl
    · rfl
    · rfl
    · exact ecells_one r u h
theorem ecells_at : ∀ (l : List It) (i : Nat) (h : i < l.length), (ecells l)[i * 3]? = some (.string l[i].key) ∧ (ecells l)[i * 3 + 1]? = some (.string l[i].val) ∧ (ecells l)[i * 3 + 2]? = some (.bool l[i].gone)
  | x :: r, 0, _ => ⟨rfl, rfl, rfl⟩
  | x :: r, i + 1, h => by
    have := ecells_at r i (by simpa using h)
    rw [show (i + 1) * 3 = i * 3 + 3 by omega]
    simpa [ecells] using this
structure EAt (w : World) (b o : Nat) (x : It) : Prop where
  c0 : w.cell? ⟨b, o, none⟩ = some (.string x.key)
  c1 : w.cell? ⟨b, o + 1, none⟩ = some (.string x.val)
  c2 : w.cell? ⟨b, o + 2, none⟩ = some (.bool x.gone)
abbrev OwnE (w : World) (B : Nat) (v : Value) (L : List It) : Prop := w.ownsRow B 99 3 v L.length (ecells L)
/-- what can be read of a slice of entries -/
structure RdE (w : World) (v : Value) (L : List It) : Prop where
  ex : ∃ a c, v = .slice a L.length c ∧ L.length ≤ c ∧ c ≤ maxLen ∧ (0 < L.length → ∃ b, a = some ⟨b, 0, none⟩ ∧ b < w.heap.size ∧ ∀ i (h : i < L.length), EAt w b (i * 3) L[i])
theorem OwnE.rd {w : World} {B : Nat} {v : Value} {L : List It} (h : OwnE w B v L) : RdE w v L := by
  obtain ⟨h1, h2⟩ := h
  rcases h2 with ⟨rfl, hn⟩ | ⟨g, cap, cur, rfl, hg, hb, hnc, hm, hcs, ht⟩
  · have hM : L = [] := List.eq_nil_of_length_eq_zero hn
    subst hM
    exact ⟨none, 0, rfl, Nat.le_refl _, by unfold maxLen; omega, fun h => absurd h (by simp)⟩
  · refine ⟨_, cap, rfl, hnc, hm, fun _ => ⟨g, rfl, (Array.getElem?_eq_some_iff.1 hb).1, fun i hi => ?_⟩⟩
    have e : ∀ j, w.cell? ⟨g, j, none⟩ = cur[j]? := fun j => by simp [World.cell?, hb]
    have h3 : ∀ (j : Nat) (u : Value), (ecells L)[j]? = some u → w.cell? ⟨g, j, none⟩ = some u := by
      intro j u hj
      rw [e]
      rw [← ht, List.getElem?_take] at hj
      split at hj
      · simpa using hj
      · cases hj
    obtain ⟨a0, a1, a2⟩ := ecells_at L i hi
    exact ⟨h3 _ _ a0, h3 _ _ a1, h3 _ _ a2⟩
theorem EAt.block {w w' : World} {b o : Nat} {x : It} (h : EAt w b o x) (e : w'.heap[b]? = w.heap[b]?) : EAt w' b o x :=
  have k : ∀ j, w'.cell? ⟨b, j, none⟩ = w.cell? ⟨b, j, none⟩ := fun j => World.cell?_of_block (w := w) e
  ⟨(k _).trans h.c0, (k _).trans h.c1, (k _).trans h.c2⟩
theorem RdE.below {w w' : World} {v : Value} {L : List It} (h : RdE w v L) (hb : Below w.heap.size w w') : RdE w' v L := by
  obtain ⟨a, c, rfl, h1, h2, h3⟩ := h
  refine ⟨a, c, rfl, h1, h2, fun hl => ?_⟩
  obtain ⟨b, rfl, hlt, hc⟩ := h3 hl
  exact ⟨b, rfl, Nat.lt_of_lt_of_le hlt hb.size, fun i hi => (hc i hi).block (hb.block b hlt)⟩
theorem RdE.shape {w : World} {v : Value} {L : List It} (h : RdE w v L) : ∃ a c, v = .slice a L.length c := by obtain ⟨a, c, h, _⟩ := h; exact ⟨a, c, h⟩
def szE (x : It) : Nat := x.key.size + x.val.size
def sumE : List It → Nat
  | [] => 0
  | x :: r => szE x + sumE r
theorem sumE_append : ∀ l r : List It, sumE (l ++ r) = sumE l + sumE r
  | [], r => by simp [sumE]
  | x :: l, r => by simp [sumE, sumE_append l r]; omega
theorem sumE_succ (L : List It) (i : Nat) (h : i < L.length) : sumE (L.take (i + 1)) = sumE (L.take i) + szE L[i] := by
  rw [List.take_add_one, List.getElem?_eq_getElem h, sumE_append]; simp [sumE]
theorem sumE_take (L : List It) (i : Nat) : sumE (L.take i) ≤ sumE L := by
  conv => rhs; rw [← List.take_append_drop i L, sumE_append]
  omega
/-- an entry that nothing bars -/
structure OkE (x : It) : Prop where
  key0 : 0 < x.key.size
  key : x.key.size ≤ 128
  val : x.val.size ≤ 16384
  gone : x.gone = true → x.val = ⟨#[]⟩
structure GoodE (L : List It) : Prop where
  len : L.length ≤ 4096
  each : ∀ x ∈ L, OkE x
  sum : sumE L ≤ 524288
  up : Up L

theorem less_cmp : ∀ x y : List UInt8, Op.bytesLess x y = decide (Lib.compareBytes x y < 0)
  | [], [] => rfl
  | [], _ :: _ => rfl
  | _ :: _, [] => rfl
  | x :: r, y :: q => by
    unfold Op.bytesLess Lib.compareBytes
    by_cases h1 : x < y
    · simp [h1]
    · by_cases h2 : y < x
      · have : ¬ x = y := fun e => by subst e; exact UInt8.lt_irrefl _ h2
        simp [h1, h2, this]
      · have : x = y := UInt8.le_antisymm (UInt8.not_lt.1 h2) (UInt8.not_lt.1 h1)
        subst this
        simp [less_cmp r q]
theorem lessK {x y : ByteArray} (h : cmpK y x < 0) : Op.bytesLess x.toList y.toList = false ∧ (x.toList == y.toList) = false := by
  rw [ByteArray.toList_eq, ByteArray.toList_eq, less_cmp]
  have h2 := cmpK_anti y x
  refine ⟨?_, ?_⟩
  · have : ¬ Lib.compareBytes x.data.toList y.data.toList < 0 := by show ¬ cmpK x y < 0; omega
    simpa using this
  · have : x.data.toList ≠ y.data.toList := fun e => by
      have e2 : cmpK y x = 0 := by unfold cmpK bl; rw [e]; exact cmp_self _
      omega
    simpa using this
theorem key_ne {k : ByteArray} (h : 0 < k.size) : (k.toList == ([] : List UInt8)) = false := by
  rw [ByteArray.toList_eq]
  cases hk : k.data.toList with
  | nil => rw [← ByteArray.size_data, ← Array.length_toList, hk] at h; simp at h
  | cons x r => rfl
set_option maxRecDepth 100000 in
set_option maxHeartbeats 2000000 in
theorem right_any (w : World) (v : Value) (L : List It) (h : RdE w v L) (hg : GoodE L) : Calls Tryz.prog 95 #[v] w fun e w' => e = .returned (.int .i64 0) ∧ Below w.heap.size w w' := by
  obtain ⟨a, c, rfl, h1, h2, h3⟩ := h
  have H3 := Lib.hid h3
  have HG := Lib.hid hg
  have hlen := hg.len
  clear h3 hg
  unfold maxLen at h2
  go_enter Tryz.func95, Tryz.ntmps95
  go_wp2_with fail
  go_loopw [13, 3] (fun x y wr => ∃ i : Nat, i ≤ L.length ∧ x = .int .i64 i ∧ y = .int .i64 (sumE (L.take i) : Nat) ∧ Hid (Below w.heap.size w wr)) (fun x _ _ => L.length - (intOf x).toNat)
  case atStart => exact ⟨0, Nat.zero_le _, rfl, rfl, Below.refl _ _⟩
  case round =>
    obtain ⟨i, hi, rfl, rfl, HB⟩ := hrel
    by_cases hlt : i < L.length
    · obtain ⟨b, rfl, hb, hrow⟩ := H3.out (by omega)
      have f := (hrow i hlt).block (HB.out.block b hb)
      have ho := HG.out.each _ (List.getElem_mem hlt)
      have hs := sumE_succ L i hlt
      have hs2 := sumE_take L (i + 1)
      have hs3 := HG.out.sum
      clear hrow
      generalize L[i] = x at *
      unfold szE at hs
      have p0 := f.c0
      have p1 := f.c1
      have p2 := f.c2
      have k1 := ho.key
      have k2 := ho.val
      have k0 := ho.key0
      obtain ⟨S', hS'⟩ : ∃ S', S' = sumE (L.take (i + 1)) := ⟨_, rfl⟩
      rw [← hS'] at hs hs2
      generalize sumE (L.take i) = S at *
      clear f ho
      go_wp2_with fail
      exact ⟨⟨i + 1, hlt, by go_num, congrArg (Value.int .i64) (by rw [← hS']; omega), Lib.hid (HB.out.alloc HB.out.size _)⟩, by simp [intOf]; omega⟩
    · have hin : i = L.length := by omega
      subst hin
      go_wp2_with fail
      go_loopw [43] (fun x wr => ∃ i : Nat, i ≤ L.length ∧ x = .int .i64 i ∧ Hid (Below w.heap.size w wr)) (fun x _ => L.length - (intOf x).toNat)
      case atStart => exact ⟨0, Nat.zero_le _, rfl, HB⟩
      case round =>
        rename World => wq
        obtain ⟨i, hi, rfl, HB⟩ := hrel
        by_cases hlt : i < L.length
        · obtain ⟨b, rfl, hb, hrow⟩ := H3.out (by omega)
          have f := (hrow i hlt).block (HB.out.block b hb)
          have ho := HG.out.each _ (List.getElem_mem hlt)
          have p0 := f.c0
          have p1 := f.c1
          have p2 := f.c2
          have k0 := ho.key0
          have hk : ((L[i].key).toList == ([] : List UInt8)) = false := key_ne k0
          have hvz : L[i].gone = true → L[i].val.toList.isEmpty = true := fun e => by rw [ho.gone e, ByteArray.toList_eq]; rfl
          rcases Nat.eq_zero_or_pos i with rfl | hpos
          · clear f ho hrow
            generalize L[0] = x at *
            cases hgn : x.gone with
            | true =>
              have hv := hvz hgn
              rw [hgn] at p2
              go_wp2_with fail
              obtain ⟨W, hW⟩ : ∃ W, W = wq.alloc (.cells #[.string x.key, .string x.val, .bool true] 99 (0, 0)) := ⟨_, rfl⟩
              have q : W.heap[wq.heap.size]? = some (.cells #[.string x.key, .string x.val, .bool true] 99 (0, 0)) := by rw [hW]; exact heap_alloc_new wq _
              have HW := Lib.hid (show Below w.heap.size w W by rw [hW]; exact HB.out.alloc HB.out.size _)
              rw [← hW]
              clear hW
              have q0 : W.cell? ⟨wq.heap.size, 0, none⟩ = some (.string x.key) := by simp [World.cell?, q]
              have q1 : W.cell? ⟨wq.heap.size, 1, none⟩ = some (.string x.val) := by simp [World.cell?, q]
              have q2 : W.cell? ⟨wq.heap.size, 2, none⟩ = some (.bool true) := by simp [World.cell?, q]
              go_quiet (fail)
              go_wp2_with fail
              exact ⟨⟨1, hlt, rfl, Lib.hid (below_drewN HW.out nq)⟩, by simp [intOf]; omega⟩
            | false =>
              rw [hgn] at p2
              go_wp2_with fail
              obtain ⟨W, hW⟩ : ∃ W, W = wq.alloc (.cells #[.string x.key, .string x.val, .bool false] 99 (0, 0)) := ⟨_, rfl⟩
              have q : W.heap[wq.heap.size]? = some (.cells #[.string x.key, .string x.val, .bool false] 99 (0, 0)) := by rw [hW]; exact heap_alloc_new wq _
              have HW := Lib.hid (show Below w.heap.size w W by rw [hW]; exact HB.out.alloc HB.out.size _)
              rw [← hW]
              clear hW
              have q0 : W.cell? ⟨wq.heap.size, 0, none⟩ = some (.string x.key) := by simp [World.cell?, q]
              have q1 : W.cell? ⟨wq.heap.size, 1, none⟩ = some (.string x.val) := by simp [World.cell?, q]
              have q2 : W.cell? ⟨wq.heap.size, 2, none⟩ = some (.bool false) := by simp [World.cell?, q]
              go_quiet (fail)
              go_wp2_with fail
              exact ⟨⟨1, hlt, rfl, Lib.hid (below_drewN HW.out nq)⟩, by simp [intOf]; omega⟩
          · obtain ⟨j, hj⟩ : ∃ j, j = i - 1 := ⟨_, rfl⟩
            have hjl : j < L.length := by omega
            have f' := (hrow j hjl).block (HB.out.block b hb)
            have hup := HG.out.up.mem_lt j i hjl hlt (by omega)
            have r0 := f'.c0
            clear f ho hrow f'
            generalize L[j] = y at *
            generalize L[i] = x at *
            have g1 : (0 : Int) < (i : Int) := by omega
            have g2 : IntKind.i64.wrap ((i : Int) - 1) = (j : Int) := by rw [IntKind.wrap_i64]; omega
            have g3 : wrap64 ((i : Int) - 1) = (j : Int) := by rw [IntWalk.wrap64_in _ (by omega)]; omega
            have HJ := Lib.hid hj
            obtain ⟨l1, l2⟩ := lessK hup
            clear hj
            cases hgn : x.gone with
            | true =>
              have hv := hvz hgn
              rw [hgn] at p2
              go_wp2_with fail
              obtain ⟨W, hW⟩ : ∃ W, W = wq.alloc (.cells #[.string x.key, .string x.val, .bool true] 99 (0, 0)) := ⟨_, rfl⟩
              have q : W.heap[wq.heap.size]? = some (.cells #[.string x.key, .string x.val, .bool true] 99 (0, 0)) := by rw [hW]; exact heap_alloc_new wq _
              have HW := Lib.hid (show Below w.heap.size w W by rw [hW]; exact HB.out.alloc HB.out.size _)
              have r1 : W.cell? ⟨b, j * 3, none⟩ = some (.string y.key) := by rw [hW, World.cell?_alloc_lt wq _ _ (by have := HB.out.size; show b < _; omega)]; exact r0
              rw [← hW]
              clear hW
              have q0 : W.cell? ⟨wq.heap.size, 0, none⟩ = some (.string x.key) := by simp [World.cell?, q]
              have q1 : W.cell? ⟨wq.heap.size, 1, none⟩ = some (.string x.val) := by simp [World.cell?, q]
              have q2 : W.cell? ⟨wq.heap.size, 2, none⟩ = some (.bool true) := by simp [World.cell?, q]
              go_quiet (fail)
              go_wp2_with fail
              exact ⟨⟨i + 1, hlt, by go_num, Lib.hid (below_drewN HW.out nq)⟩, by simp [intOf]; omega⟩
            | false =>
              rw [hgn] at p2
              go_wp2_with fail
              obtain ⟨W, hW⟩ : ∃ W, W = wq.alloc (.cells #[.string x.key, .string x.val, .bool false] 99 (0, 0)) := ⟨_, rfl⟩
              have q : W.heap[wq.heap.size]? = some (.cells #[.string x.key, .string x.val, .bool false] 99 (0, 0)) := by rw [hW]; exact heap_alloc_new wq _
              have HW := Lib.hid (show Below w.heap.size w W by rw [hW]; exact HB.out.alloc HB.out.size _)
              have r1 : W.cell? ⟨b, j * 3, none⟩ = some (.string y.key) := by rw [hW, World.cell?_alloc_lt wq _ _ (by have := HB.out.size; show b < _; omega)]; exact r0
              rw [← hW]
              clear hW
              have q0 : W.cell? ⟨wq.heap.size, 0, none⟩ = some (.string x.key) := by simp [World.cell?, q]
              have q1 : W.cell? ⟨wq.heap.size, 1, none⟩ = some (.string x.val) := by simp [World.cell?, q]
              have q2 : W.cell? ⟨wq.heap.size, 2, none⟩ = some (.bool false) := by simp [World.cell?, q]
              go_quiet (fail)
              go_wp2_with fail
              exact ⟨⟨i + 1, hlt, by go_num, Lib.hid (below_drewN HW.out nq)⟩, by simp [intOf]; omega⟩
        · have hin : i = L.length := by omega
          subst hin
          go_wp2_with fail
          go_ret
          exact ⟨rfl, HB.out⟩
end Go.Proofs.YtcohbfabcdjefaaGreatDoor
