/-
  Joined: Ec, Ed.
-/
import Derived.Test.YtcohbfabcdjefaaGreatDoorEb
import Derived.Test.YtcohbfabcdjefaaGreatDoorSh
import Derived.Deep.LoopGhost
import Derived.Laws.Rows
namespace Go.Proofs.YtcohbfabcdjefaaGreatDoor
open Go.RowKit Go.Maps

def itcells (x : It) : List Value := [.string x.key, .string x.key, .string x.val, .bool x.gone]
def itv (x : It) : Value := .agg #[.string x.key, .string x.key, .string x.val, .bool x.gone]
def icells : List It → List Value
  | [] => []
  | x :: r => .string x.key :: .string x.key :: .string x.val :: .bool x.gone :: icells r
theorem icells_append : ∀ (l r : List It), icells (l ++ r) = icells l ++ icells r
  | [], _ => rfl
  | x :: l, r => by simp [icells, icells_append l r]
theorem icells_len : ∀ l : List It, (icells l).length = l.length * 4
  | [] => rfl
  | x :: r => by simp [icells, icells_len r]; omega
theorem icells_at : ∀ (l : List It) (i : Nat) (h : i < l.length), (icells l)[i * 4]? = some (.string l[i].key) ∧ (icells l)[i * 4 + 1]? = some (.string l[i].key) ∧ (icells l)[i * 4 + 2]? = some (.string l[i].val) ∧ (icells l)[i * 4 + 3]? = some (.bool l[i].gone)
  | x :: r, 0, _ => ⟨rfl, rfl, rfl, rfl⟩
  | x :: r, i + 1, h => by
    have := icells_at r i (by simpa using h)
    rw [show (i + 1) * 4 = i * 4 + 4 by omega]
    simpa [icells] using this
/-- at block b, place o the four cells of an entry stand -/
structure ItAt (w : World) (b o : Nat) (x : It) : Prop where
  c0 : w.cell? ⟨b, o, none⟩ = some (.string x.key)
  c1 : w.cell? ⟨b, o + 1, none⟩ = some (.string x.key)
  c2 : w.cell? ⟨b, o + 2, none⟩ = some (.string x.val)
  c3 : w.cell? ⟨b, o + 3, none⟩ = some (.bool x.gone)
abbrev OwnI (w : World) (B : Nat) (v : Value) (M : List It) : Prop := w.ownsRow B 176 4 v M.length (icells M)
/-- what can be read of a slice of entries -/
structure RdI (w : World) (v : Value) (M : List It) : Prop where
  ex : ∃ a c, v = .slice a M.length c ∧ M.length ≤ c ∧ c ≤ maxLen ∧ (0 < M.length → ∃ b, a = some ⟨b, 0, none⟩ ∧ b < w.heap.size ∧ ∀ i (h : i < M.length), ItAt w b (i * 4) M[i])
theorem OwnI.rd {w : World} {B : Nat} {v : Value} {M : List It} (h : OwnI w B v M) : RdI w v M := by
  obtain ⟨h1, h2⟩ := h
  rcases h2 with ⟨rfl, hn⟩ | ⟨g, cap, cur, rfl, hg, hb, hnc, hm, hcs, ht⟩
  · have hM : M = [] := List.eq_nil_of_length_eq_zero hn
    subst hM
    exact ⟨none, 0, rfl, Nat.le_refl _, by unfold maxLen; omega, fun h => absurd h (by simp)⟩
  · refine ⟨_, cap, rfl, hnc, hm, fun _ => ⟨g, rfl, (Array.getElem?_eq_some_iff.1 hb).1, fun i hi => ?_⟩⟩
    have e : ∀ j, w.cell? ⟨g, j, none⟩ = cur[j]? := fun j => by simp [World.cell?, hb]
    have h3 : ∀ (j : Nat) (u : Value), (icells M)[j]? = some u → w.cell? ⟨g, j, none⟩ = some u := by
      intro j u hj
      rw [e]
      rw [← ht, List.getElem?_take] at hj
      split at hj
      · simpa using hj
      · cases hj
    obtain ⟨a0, a1, a2, a3⟩ := icells_at M i hi
    exact ⟨h3 _ _ a0, h3 _ _ a1, h3 _ _ a2, h3 _ _ a3⟩
theorem ItAt.block {w w' : World} {b o : Nat} {x : It} (h : ItAt w b o x) (e : w'.heap[b]? = w.heap[b]?) : ItAt w' b o x :=
  have k : ∀ j, w'.cell? ⟨b, j, none⟩ = w.cell? ⟨b, j, none⟩ := fun j => World.cell?_of_block (w := w) e
  ⟨(k _).trans h.c0, (k _).trans h.c1, (k _).trans h.c2, (k _).trans h.c3⟩
theorem RdI.below {w w' : World} {v : Value} {M : List It} (h : RdI w v M) (hb : Below w.heap.size w w') : RdI w' v M := by
  obtain ⟨a, c, rfl, h1, h2, h3⟩ := h
  refine ⟨a, c, rfl, h1, h2, fun hl => ?_⟩
  obtain ⟨b, rfl, hlt, hc⟩ := h3 hl
  exact ⟨b, rfl, Nat.lt_of_lt_of_le hlt hb.size, fun i hi => (hc i hi).block (hb.block b hlt)⟩

/-- strings.Compare of an entry's key -/
theorem cmp_any (x : It) (k : ByteArray) (w : World) : Calls Tryz.prog 155 #[itv x, .string k] w fun e w' => e = .returned (.int .i64 (cmpK x.key k)) ∧ Below w.heap.size w w' := by
  have HC := fun W => Lib.hid (Tryz.strings_Compare x.key k W)
  unfold itv
  go_enter Tryz.func155, Tryz.ntmps155
  go_wp2_with fail
  refine (HC _).out.mono ?_
  rintro e w1 ⟨rfl, rfl⟩
  go_wp2_with fail
  go_ret
  exact ⟨rfl, bl1 w _⟩

/-- the middle of a stretch -/
theorem mid_lt {i j : Nat} (h : i < j) : i ≤ (i + j) / 2 ∧ (i + j) / 2 < j := by omega
set_option maxRecDepth 100000 in
set_option maxHeartbeats 1000000 in
theorem search_any (w : World) (v : Value) (M : List It) (k : ByteArray) (p : Nat) (h : RdI w v M) (hs : Split M k p) (hbig : M.length ≤ 1000000) :
    Calls Tryz.prog 154 #[v, .string k, .func (.func 155) #[] #[]] w fun e w' => e = .returned (.tuple #[.int .i64 p, .bool (foundAt M k p)]) ∧ Below w.heap.size w w' := by
  have HR := Lib.hid h
  have HS := Lib.hid hs
  obtain ⟨a, c, rfl, h1, h2, h3⟩ := h
  have H3 := Lib.hid h3
  unfold maxLen at h2
  clear h3 hs
  have eg := enters_of Tryz.func155 (by kernel_rfl) rfl
  go_enter Tryz.func154, Tryz.ntmps154
  go_wp2
  go_loopw [9, 10] (fun x y wr => ∃ i j : Nat, i ≤ p ∧ p ≤ j ∧ j ≤ M.length ∧ x = .int .i64 i ∧ y = .int .i64 j ∧ Hid (Below w.heap.size w wr)) (fun x y _ => (intOf y).toNat - (intOf x).toNat)
  case atStart => exact ⟨0, M.length, by omega, HS.out.le, Nat.le_refl _, rfl, rfl, Below.refl _ _⟩
  case round =>
    obtain ⟨i, j, hi, hj, hjn, rfl, rfl, HB⟩ := hrel
    by_cases hlt : i < j
    · obtain ⟨hm1, hm2⟩ := mid_lt hlt
      generalize hmid : (i + j) / 2 = m at *
      obtain ⟨b, rfl, hb, hrow⟩ := H3.out (by omega)
      have f := ((hrow m (by omega)).block (HB.out.block b hb))
      clear hrow
      have hw : wrap64 (IntKind.u64.wrap (wrap64 ((i : Int) + (j : Int))) / 2) = (m : Int) := by
        have e1 : wrap64 ((i : Int) + (j : Int)) = (i : Int) + j := IntWalk.wrap64_in _ (by omega)
        have e2 : IntKind.u64.wrap ((i : Int) + (j : Int)) = (i : Int) + j := by rw [IntKind.wrap_u64]; omega
        rw [e1, e2, IntWalk.wrap64_in _ (by omega)]
        omega
      have hcmp := fun W => Lib.hid (cmp_any M[m] k W)
      have hlo := HS.out.lo m (by omega)
      have hhi := HS.out.hi m (by omega)
      generalize M[m] = x at *
      have p0 := f.c0
      have p1 := f.c1
      have p2 := f.c2
      have p3 := f.c3
      clear f
      unfold itv at hcmp
      by_cases hc : m < p
      · have hneg : decide (cmpK x.key k < 0) = true := by have := hlo hc; simpa using this
        clear hlo hhi
        go_wp2_with fail
        refine (hcmp _).out.mono ?_
        rintro e w1 ⟨rfl, hb1⟩
        have HB1 := Lib.hid (HB.out.trans (hb1.mono HB.out.size))
        clear hb1
        go_wp2_with fail
        exact ⟨⟨m + 1, j, by omega, by omega, by omega, by go_num, rfl, HB1⟩, by simp [intOf]; omega⟩
      · have hneg : decide (cmpK x.key k < 0) = false := by have := hhi (by omega); simp; omega
        clear hlo hhi
        go_wp2_with fail
        refine (hcmp _).out.mono ?_
        rintro e w1 ⟨rfl, hb1⟩
        have HB1 := Lib.hid (HB.out.trans (hb1.mono HB.out.size))
        clear hb1
        go_wp2_with fail
        exact ⟨⟨i, m, by omega, by omega, by omega, rfl, congrArg (Value.int .i64) (by omega), HB1⟩, by simp [intOf]; omega⟩
    · have hip : i = p := by omega
      have hjp : j = p := by omega
      subst hip
      subst hjp
      clear hi hj
      by_cases hpl : j < M.length
      · obtain ⟨b, rfl, hb, hrow⟩ := H3.out (by omega)
        have f := ((hrow j hpl).block (HB.out.block b hb))
        clear hrow
        have hcmp := fun W => Lib.hid (cmp_any M[j] k W)
        have hf : decide (cmpK M[j].key k = 0) = foundAt M k j := by unfold foundAt; rw [List.getElem?_eq_getElem hpl]
        generalize M[j] = x at *
        have p0 := f.c0
        have p1 := f.c1
        have p2 := f.c2
        have p3 := f.c3
        clear f
        unfold itv at hcmp
        have HF := Lib.hid hf
        clear hf
        go_wp2_with fail
        refine (hcmp _).out.mono ?_
        rintro e w1 ⟨rfl, hb1⟩
        have HB1 := Lib.hid (HB.out.trans (hb1.mono HB.out.size))
        clear hb1
        go_wp2_with fail
        go_ret2
        exact ⟨by rw [← HF.out]; rfl, HB1.out⟩
      · have HF := Lib.hid (show foundAt M k j = false by unfold foundAt; rw [List.getElem?_eq_none (by omega)])
        go_wp2_with fail
        go_ret2
        exact ⟨by rw [HF.out]; rfl, HB.out⟩

/-- a Mem at block mb -/
structure MemAt (w : World) (mb : Nat) (v : Value) (lent : Bool) : Prop where
  blk : w.heap[mb]? = some (.cells #[v, .bool lent] 144 (0, 0))
theorem MemAt.c0 {w : World} {mb : Nat} {v : Value} {lent : Bool} (h : MemAt w mb v lent) : w.cell? ⟨mb, 0, none⟩ = some v := by simp [World.cell?, h.blk]
theorem MemAt.c1 {w : World} {mb : Nat} {v : Value} {lent : Bool} (h : MemAt w mb v lent) : w.cell? ⟨mb, 1, none⟩ = some (.bool lent) := by simp [World.cell?, h.blk]
theorem MemAt.lt {w : World} {mb : Nat} {v : Value} {lent : Bool} (h : MemAt w mb v lent) : mb < w.heap.size := (Array.getElem?_eq_some_iff.1 h.blk).1
theorem RdI.shape {w : World} {v : Value} {M : List It} (h : RdI w v M) : ∃ a c, v = .slice a M.length c := by obtain ⟨a, c, h, _⟩ := h; exact ⟨a, c, h⟩
theorem find_any (w : World) (mb : Nat) (v : Value) (lent : Bool) (M : List It) (k : ByteArray) (p : Nat) (hm : MemAt w mb v lent) (h : RdI w v M) (hs : Split M k p) (hbig : M.length ≤ 1000000) :
    Calls Tryz.prog 91 #[.pointer (some ⟨mb, 0, none⟩), .string k] w fun e w' => e = .returned (.tuple #[.int .i64 p, .bool (foundAt M k p)]) ∧ Below w.heap.size w w' := by
  have HC := fun W (hW : RdI W v M) => Lib.hid (search_any W v M k p hW hs hbig)
  have HH := Lib.hid h
  have p0 := hm.c0
  obtain ⟨a, c, rfl⟩ := h.shape
  clear hm h hs
  go_enter Tryz.func91, Tryz.ntmps91
  go_wp2_with fail
  refine (HC _ HH.out).out.mono ?_
  rintro e w1 ⟨rfl, hb⟩
  have HB := Lib.hid hb
  clear hb
  go_wp2_with fail
  go_ret2
  exact ⟨rfl, HB.out⟩
theorem len_any (w : World) (mb : Nat) (v : Value) (lent : Bool) (M : List It) (hm : MemAt w mb v lent) (h : RdI w v M) :
    Calls Tryz.prog 52 #[.pointer (some ⟨mb, 0, none⟩)] w fun e w' => e = .returned (.int .i64 M.length) ∧ w' = w := by
  have p0 := hm.c0
  obtain ⟨a, c, rfl⟩ := h.shape
  clear hm h
  go_enter Tryz.func52, Tryz.ntmps52
  go_wp2_with fail
  go_ret
  exact ⟨rfl, rfl⟩
theorem new_mem (w : World) : Calls Tryz.prog 39 #[] w fun e w' => e = .returned (.pointer (some ⟨w.heap.size, 0, none⟩)) ∧ MemAt w' w.heap.size (.slice none 0 0) false ∧ w' = w.alloc (.cells #[.slice none 0 0, .bool false] 144 (0, 0)) := by
  go_enter Tryz.func39, Tryz.ntmps39
  go_wp2_with fail
  go_ret
  exact ⟨rfl, ⟨heap_alloc_new w _⟩, rfl⟩
end Go.Proofs.YtcohbfabcdjefaaGreatDoor
namespace Go.Proofs.YtcohbfabcdjefaaGreatDoor
open Go.RowKit Go.Maps

def entv (x : It) : Value := .agg #[.string x.key, .string x.val, .bool x.gone]
def noEnt : Value := .agg #[.string ⟨#[]⟩, .string ⟨#[]⟩, .bool false]
/-- what Get answers -/
def getV (o : Option It) : Value := match o with | some x => .tuple #[entv x, .bool true] | none => .tuple #[noEnt, .bool false]
set_option maxRecDepth 100000 in
set_option maxHeartbeats 1000000 in
theorem get_any (w : World) (mb : Nat) (v : Value) (lent : Bool) (M : List It) (k : ByteArray) (hm : MemAt w mb v lent) (h : RdI w v M) (hU : Up M) (hbig : M.length ≤ 1000000) :
    Calls Tryz.prog 106 #[.pointer (some ⟨mb, 0, none⟩), .string k] w fun e w' => e = .returned (getV (getL M k)) ∧ Below w.heap.size w w' := by
  obtain ⟨p, hp⟩ : ∃ p, p = below k M := ⟨_, rfl⟩
  have hs := hU.split k
  rw [← hp] at hs
  have HG := Lib.hid (getL_at hU hs)
  have HC := fun W (hM : MemAt W mb v lent) (hW : RdI W v M) => Lib.hid (find_any W mb v lent M k p hM hW hs hbig)
  have HM := Lib.hid hm
  have HH := Lib.hid h
  have HL := Lib.hid hm.lt
  clear hm h hs hU hp
  go_enter Tryz.func106, Tryz.ntmps106
  have hbl := Lib.hid (bl1 w (.cells #[.string ⟨#[]⟩, .string ⟨#[]⟩, .bool false] 99))
  go_wp2_with fail
  obtain ⟨W1, hW1⟩ : ∃ W1, W1 = w.alloc (.cells #[.string ⟨#[]⟩, .string ⟨#[]⟩, .bool false] 99 (0, 0)) := ⟨_, rfl⟩
  have hm1 : MemAt W1 mb v lent := ⟨by rw [hW1, heap_alloc_old w _ HL.out]; exact HM.out.blk⟩
  have hr1 : RdI W1 v M := HH.out.below (by rw [hW1]; exact hbl.out)
  have hn1 : W1.heap[w.heap.size]? = some (.cells #[.string ⟨#[]⟩, .string ⟨#[]⟩, .bool false] 99 (0, 0)) := by rw [hW1]; exact heap_alloc_new w _
  have hB1 := Lib.hid (show Below w.heap.size w W1 by rw [hW1]; exact hbl.out)
  have hlt1 : w.heap.size < W1.heap.size := (Array.getElem?_eq_some_iff.1 hn1).1
  rw [← hW1]
  clear hW1 hbl
  refine (HC W1 hm1 hr1).out.mono ?_
  rintro e w2 ⟨rfl, hb2⟩
  have hn2 : w2.heap[w.heap.size]? = some (.cells #[.string ⟨#[]⟩, .string ⟨#[]⟩, .bool false] 99 (0, 0)) := by rw [hb2.block _ hlt1]; exact hn1
  have n0 : w2.cell? ⟨w.heap.size, 0, none⟩ = some (.string ⟨#[]⟩) := by simp [World.cell?, hn2]
  have n1 : w2.cell? ⟨w.heap.size, 1, none⟩ = some (.string ⟨#[]⟩) := by simp [World.cell?, hn2]
  have n2 : w2.cell? ⟨w.heap.size, 2, none⟩ = some (.bool false) := by simp [World.cell?, hn2]
  have f0 : w2.frozen? ⟨w.heap.size, 0, none⟩ = false := by simp [World.frozen?, hn2]
  have f1 : w2.frozen? ⟨w.heap.size, 1, none⟩ = false := by simp [World.frozen?, hn2]
  have f2 : w2.frozen? ⟨w.heap.size, 2, none⟩ = false := by simp [World.frozen?, hn2]
  have hm2 : w2.cell? ⟨mb, 0, none⟩ = some v := by
    rw [World.cell?_of_block (w := W1) (hb2.block mb hm1.lt)]; exact hm1.c0
  have hr2 := Lib.hid (hr1.below hb2)
  have hB2 := Lib.hid (hB1.out.trans (hb2.mono hB1.out.size))
  have hlt2 : w.heap.size < w2.heap.size := Nat.lt_of_lt_of_le hlt1 hb2.size
  have hmw := HL.out
  have al : ∀ (W : World) (o : Obj) (j : Nat), w.heap.size < W.heap.size → (W.alloc o).cell? ⟨w.heap.size, j, none⟩ = W.cell? ⟨w.heap.size, j, none⟩ := fun W o j h => World.cell?_alloc_lt W o _ h
  have AL := Lib.hid al
  clear al
  clear hm1 hr1 hn1 hB1 hb2 hn2 HC HM HH
  cases hfd : foundAt M k p with
  | false =>
    rw [hfd] at HG
    have HG' := Lib.hid (show getL M k = none from HG.out)
    clear HG hfd
    go_wp2_with fail
    have al := AL.out
    exact bodyPost_ret (v := .tuple #[noEnt, .bool false]) (by simp [results, Tryz.results106, go_sem, noEnt, entv, al, hlt2, n0, n1, n2]) rfl ⟨by rw [HG'.out]; rfl, (((hB2.out.setCell (p := ⟨w.heap.size, 0, none⟩) (Nat.le_refl _) _).setCell (p := ⟨w.heap.size, 1, none⟩) (Nat.le_refl _) _).setCell (p := ⟨w.heap.size, 2, none⟩) (Nat.le_refl _) _).alloc (by simp; omega) _⟩
  | true =>
    obtain ⟨hpl, hk⟩ := foundAt_lt hfd
    rw [hfd] at HG
    have HG' := Lib.hid (show getL M k = some M[p] from HG.out.trans (by rw [if_pos rfl, List.getElem?_eq_getElem hpl]))
    obtain ⟨a, c, rfl, h1, h2, h3⟩ := hr2.out.ex
    obtain ⟨b, rfl, hb, hrow⟩ := h3 (by omega)
    have f := hrow p hpl
    unfold maxLen at h2
    clear hrow h3 HG hfd hk
    generalize M[p] = x at *
    have p0 := f.c0
    have p1 := f.c1
    have p2 := f.c2
    have p3 := f.c3
    clear f
    go_wp2_with fail
    exact bodyPost_ret (v := .tuple #[entv x, .bool true]) (by simp [results, Tryz.results106, go_sem, noEnt, entv, n0, n1, n2]) rfl ⟨by rw [HG'.out]; rfl, ((hB2.out.setCell (p := ⟨w.heap.size, 0, none⟩) (Nat.le_refl _) _).setCell (p := ⟨w.heap.size, 1, none⟩) (Nat.le_refl _) _).setCell (p := ⟨w.heap.size, 2, none⟩) (Nat.le_refl _) _⟩
end Go.Proofs.YtcohbfabcdjefaaGreatDoor
