/- Lemmas for ModelStays' proof. -/
import Derived.Test.YtgoejmheihgpfaaGreatDoorPf
import Derived.Deep.OwnRows
import Derived.Laws.OwnMore
import Derived.Deep.AppendLies
namespace Go.Proofs.YtgoejmheihgpfaaGreatDoor
set_option maxRecDepth 100000
set_option maxHeartbeats 16000000
open Go.RowKit
theorem ext_one {s : ByteArray} {a : Nat} (h : a < s.size) : s.extract a (a + 1) = bT [s[a]] := by
 apply ba_ext
 rw [ext_list, drop_at h, Nat.add_sub_cancel_left]
 rfl
theorem one_sign (w : World) (s : ByteArray) (hs : s.size ≤ 4611686018427387904) (a : Nat) (ha : a < s.size) (h1 : letterB s[a] = false) (h2 : digitB s[a] = false) : Calls Tryz.prog 109 #[.string s, iV (a : Nat)] w fun e w' => e = .returned (.tuple #[tokV (oneL a s[a] (s.data.toList.drop (a + 1))).1, iV ((oneL a s[a] (s.data.toList.drop (a + 1))).2 : Nat)]) ∧ Below w.heap.size w w' := by
 have HT := zD (ext_one ha)
 have HL0 := zD (fun V => letter_any V s[a])
 rw [h1] at HL0
 have HD0 := zD (fun V => digit_any V s[a])
 rw [h2] at HD0
 have hw1 : IntKind.i64.wrap ((a : Int) + 1) = (a : Int) + 1 := IntWalk.i64_in _ (by omega)
 have HO := zD (show oneL a s[a] (s.data.toList.drop (a + 1)) = (if signB s[a] = true then (⟨3, [s[a]], 0, a⟩, 0) else if (s[a] == 45 && (s.data.toList.drop (a + 1)).head? == some 62) = true then (⟨3, [45, 62], 0, a⟩, 0) else (⟨3, [], 0, a⟩, 110)) from by unfold oneL; rw [if_neg (by rw [h1]; decide), if_neg (by rw [h2]; decide)])
 have HSG := zD (show signB s[a] = (s[a] == UInt8.ofNat 123 || s[a] == UInt8.ofNat 125 || s[a] == UInt8.ofNat 40 || s[a] == UInt8.ofNat 41 || s[a] == UInt8.ofNat 59 || s[a] == UInt8.ofNat 58 || s[a] == UInt8.ofNat 44 || s[a] == UInt8.ofNat 46) from rfl)
 rw [u8_eq _ 123 (by decide) 123 rfl, u8_eq _ 125 (by decide) 125 rfl, u8_eq _ 40 (by decide) 40 rfl, u8_eq _ 41 (by decide) 41 rfl, u8_eq _ 59 (by decide) 59 rfl, u8_eq _ 58 (by decide) 58 rfl, u8_eq _ 44 (by decide) 44 rfl, u8_eq _ 46 (by decide) 46 rfl] at HSG
 have H45 := zD (u8_eq s[a] 45 (by decide) 45 rfl)
 have HH := zD (head_drop (s := s) (k := a + 1))
 clear h1 h2
 go_enter Tryz.func109, Tryz.ntmps109
 go_wp2_with fail
 refine (HL0.out _).mono ?_
 rintro e w1 ⟨rfl, rfl⟩
 go_wp2_with fail
 refine (HD0.out _).mono ?_
 rintro e w1 ⟨rfl, rfl⟩
 cases f123 : ((s[a].toNat : Nat) : Int) == (123 : Int) with
 | true =>
  rw [if_pos (by rw [HSG.out]; simp [f123])] at HO; go_wp2_with fail; exact zR (v := .tuple #[.agg #[.int .u8 3, .string (s.extract a (a + 1)), iV 0, iV (a : Nat)], iV 0]) ⟨by rw [HO.out, HT.out]; rfl, bel2 _ _ _⟩
 | false =>
  cases f125 : ((s[a].toNat : Nat) : Int) == (125 : Int) with
  | true =>
   rw [if_pos (by rw [HSG.out]; simp [f125])] at HO; go_wp2_with fail; exact zR (v := .tuple #[.agg #[.int .u8 3, .string (s.extract a (a + 1)), iV 0, iV (a : Nat)], iV 0]) ⟨by rw [HO.out, HT.out]; rfl, bel2 _ _ _⟩
  | false =>
   cases f40 : ((s[a].toNat : Nat) : Int) == (40 : Int) with
   | true =>
    rw [if_pos (by rw [HSG.out]; simp [f40])] at HO; go_wp2_with fail; exact zR (v := .tuple #[.agg #[.int .u8 3, .string (s.extract a (a + 1)), iV 0, iV (a : Nat)], iV 0]) ⟨by rw [HO.out, HT.out]; rfl, bel2 _ _ _⟩
   | false =>
    cases f41 : ((s[a].toNat : Nat) : Int) == (41 : Int) with
    | true =>
     rw [if_pos (by rw [HSG.out]; simp [f41])] at HO; go_wp2_with fail; exact zR (v := .tuple #[.agg #[.int .u8 3, .string (s.extract a (a + 1)), iV 0, iV (a : Nat)], iV 0]) ⟨by rw [HO.out, HT.out]; rfl, bel2 _ _ _⟩
    | false =>
     cases f59 : ((s[a].toNat : Nat) : Int) == (59 : Int) with
     | true =>
      rw [if_pos (by rw [HSG.out]; simp [f59])] at HO; go_wp2_with fail; exact zR (v := .tuple #[.agg #[.int .u8 3, .string (s.extract a (a + 1)), iV 0, iV (a : Nat)], iV 0]) ⟨by rw [HO.out, HT.out]; rfl, bel2 _ _ _⟩
     | false =>
      cases f58 : ((s[a].toNat : Nat) : Int) == (58 : Int) with
      | true =>
       rw [if_pos (by rw [HSG.out]; simp [f58])] at HO; go_wp2_with fail; exact zR (v := .tuple #[.agg #[.int .u8 3, .string (s.extract a (a + 1)), iV 0, iV (a : Nat)], iV 0]) ⟨by rw [HO.out, HT.out]; rfl, bel2 _ _ _⟩
      | false =>
       cases f44 : ((s[a].toNat : Nat) : Int) == (44 : Int) with
       | true =>
        rw [if_pos (by rw [HSG.out]; simp [f44])] at HO; go_wp2_with fail; exact zR (v := .tuple #[.agg #[.int .u8 3, .string (s.extract a (a + 1)), iV 0, iV (a : Nat)], iV 0]) ⟨by rw [HO.out, HT.out]; rfl, bel2 _ _ _⟩
       | false =>
        cases f46 : ((s[a].toNat : Nat) : Int) == (46 : Int) with
        | true =>
         rw [if_pos (by rw [HSG.out]; simp [f46])] at HO; go_wp2_with fail; exact zR (v := .tuple #[.agg #[.int .u8 3, .string (s.extract a (a + 1)), iV 0, iV (a : Nat)], iV 0]) ⟨by rw [HO.out, HT.out]; rfl, bel2 _ _ _⟩
        | false =>
         rw [if_neg (by rw [HSG.out]; simp [f123, f125, f40, f41, f59, f58, f44, f46])] at HO; cases f45 : ((s[a].toNat : Nat) : Int) == (45 : Int) with
         | false =>
          rw [if_neg (by rw [show (s[a] == 45) = false from H45.out.trans f45]; simp)] at HO; go_wp2_with fail; exact zR (v := .tuple #[.agg #[.int .u8 3, .string (⟨#[]⟩), iV 0, iV (a : Nat)], iV 110]) ⟨by rw [HO.out]; rfl, bel2 _ _ _⟩
         | true =>
          by_cases hlt : a + 1 < s.size
          ·have H62 := zD (u8_eq s[a + 1] 62 (by decide) 62 rfl)
           rw [dif_pos hlt] at HH; cases f62 : ((s[a + 1].toNat : Nat) : Int) == (62 : Int) with
           | false =>
            rw [if_neg (by rw [HH.out]; intro h; have := H62.out.trans f62; simp at h this; exact this h.2)] at HO; go_wp2_with fail; exact zR (v := .tuple #[.agg #[.int .u8 3, .string (⟨#[]⟩), iV 0, iV (a : Nat)], iV 110]) ⟨by rw [HO.out]; rfl, bel2 _ _ _⟩
           | true =>
            rw [if_pos (by rw [HH.out]; have := H62.out.trans f62; have h3 := H45.out.trans f45; simp at this h3 ⊢; exact ⟨h3, this⟩)] at HO; go_wp2_with fail; exact zR (v := .tuple #[.agg #[.int .u8 3, .string (⟨#[45, 62]⟩), iV 0, iV (a : Nat)], iV 0]) ⟨by rw [HO.out]; rfl, bel2 _ _ _⟩
          ·rw [dif_neg hlt] at HH
           rw [if_neg (by rw [HH.out]; simp)] at HO; go_wp2_with fail; exact zR (v := .tuple #[.agg #[.int .u8 3, .string (⟨#[]⟩), iV 0, iV (a : Nat)], iV 110]) ⟨by rw [HO.out]; rfl, bel2 _ _ _⟩
theorem one_any (w : World) (s : ByteArray) (hs : s.size ≤ 4611686018427387904) (a : Nat) (ha : a < s.size) : Calls Tryz.prog 109 #[.string s, iV (a : Nat)] w fun e w' => e = .returned (.tuple #[tokV (oneL a s[a] (s.data.toList.drop (a + 1))).1, iV ((oneL a s[a] (s.data.toList.drop (a + 1))).2 : Nat)]) ∧ Below w.heap.size w w' := by
 cases h1 : letterB s[a] with
 | true => exact one_letter w s hs a ha h1
 | false =>
  cases h2 : digitB s[a] with
  | true => exact one_digit w s hs a ha h1 h2
  | false => exact one_sign w s hs a ha h1 h2
theorem gap_suffix : ∀ (b : Bool) (l : Tx), gapL b l <:+ l
 | true, [] => List.suffix_refl _
 | false, [] => List.suffix_refl _
 | true, c :: r => by
  rw [gapL]
  split
  ·exact (gap_suffix false r).trans (List.suffix_cons _ _)
  ·exact (gap_suffix true r).trans (List.suffix_cons _ _)
 | false, c :: r => by
  rw [gapL]
  split
  ·exact (gap_suffix false r).trans (List.suffix_cons _ _)
  ·split
   ·exact (gap_suffix true r).trans (List.suffix_cons _ _)
   ·exact List.suffix_refl _
theorem gap_drop (s : ByteArray) (j : Nat) (_hj : j ≤ s.size) : gapL false (s.data.toList.drop j) = s.data.toList.drop (s.size - (gapL false (s.data.toList.drop j)).length) ∧ (gapL false (s.data.toList.drop j)).length ≤ s.size - j := by
 have h := (gap_suffix false (s.data.toList.drop j))
 have h2 := h.trans (List.drop_suffix j _)
 refine ⟨?_, ?_⟩
 ·have := List.suffix_iff_eq_drop.1 h2
  rw [ba_len] at this; exact this
 ·have := h.length_le
  rw [drop_len] at this; exact this
theorem one_len {p : Nat} {c : UInt8} {r : Tx} (h : (oneL p c r).2 = 0) : 1 ≤ (oneL p c r).1.text.length ∧ (oneL p c r).1.text.length ≤ r.length + 1 := by
 have t1 := tw_le innerB r
 have t2 := tw_le digitB r
 unfold oneL at h ⊢
 by_cases a1 : letterB c = true
 ·rw [if_pos a1]
  show 1 ≤ (List.takeWhile innerB r).length + 1 ∧ (List.takeWhile innerB r).length + 1 ≤ _
  omega
 rw [if_neg a1] at h ⊢
 by_cases a2 : digitB c = true
 ·rw [if_pos a2]
  have : ∀ x y : Nat × Nat, 1 ≤ (List.takeWhile digitB r).length + 1 ∧ (List.takeWhile digitB r).length + 1 ≤ r.length + 1 := fun _ _ => by omega
  split
  ·exact this (0, 0) (0, 0)
  ·split
   ·exact this (0, 0) (0, 0)
   ·exact this (0, 0) (0, 0)
 rw [if_neg a2] at h ⊢
 by_cases a3 : signB c = true
 ·rw [if_pos a3]
  show 1 ≤ 1 ∧ 1 ≤ r.length + 1
  omega
 rw [if_neg a3] at h ⊢
 by_cases a4 : (c == 45 && r.head? == some 62) = true
 ·rw [if_pos a4]
  show 1 ≤ 2 ∧ 2 ≤ r.length + 1
  rw [Bool.and_eq_true] at a4; cases r with
  | nil => simp at a4
  | cons x r => simp
 ·rw [if_neg a4] at h
  exact absurd (show (110 : Nat) = 0 from h) (by decide)
def tot (T : List Tok) (q : List Tok × Nat × Nat) : List Tok × Nat × Nat := if q.2.2 = 0 then (T ++ q.1, 0, 0) else ([], q.2)
theorem all_end {n F : Nat} {X : Tx} {T : List Tok} (h : gapL false X = []) : tot T (allL n (F + 1) X) = (T, 0, 0) := by
 rw [allL, h]; simp [tot]
theorem all_step {n F : Nat} {X r : Tx} {c : UInt8} {T : List Tok} (h : gapL false X = c :: r) (h0 : (oneL (n - (r.length + 1)) c r).2 = 0) : tot T (allL n (F + 1) X) = tot (T ++ [(oneL (n - (r.length + 1)) c r).1]) (allL n F ((c :: r).drop (oneL (n - (r.length + 1)) c r).1.text.length)) := by
 rw [allL, h]
 dsimp only
 rw [if_pos h0]
 generalize allL n F ((c :: r).drop (oneL (n - (r.length + 1)) c r).1.text.length) = q
 unfold tot
 by_cases hq : q.2.2 = 0
 ·rw [if_pos hq, if_pos rfl, if_pos hq]
  show (T ++ (_ :: q.1), 0, 0) = _
  rw [List.append_assoc]; rfl
 ·rw [if_neg hq, if_neg hq, if_neg hq]
theorem all_bad {n F : Nat} {X r : Tx} {c : UInt8} {T : List Tok} (h : gapL false X = c :: r) (h0 : (oneL (n - (r.length + 1)) c r).2 ≠ 0) : tot T (allL n (F + 1) X) = ([], n - (r.length + 1), (oneL (n - (r.length + 1)) c r).2) := by
 rw [allL, h]
 dsimp only
 rw [if_neg h0]
 unfold tot
 rw [if_neg h0]
def tcells : List Tok → List Value
 | [] => []
 | t :: l => .int .u8 (t.kind : Nat) :: sT t.text :: iV (t.num : Nat) :: iV (t.pos : Nat) :: tcells l
theorem tcells_append : ∀ (l r : List Tok), tcells (l ++ r) = tcells l ++ tcells r
 | [], _ => rfl
 | t :: l, r => by simp [tcells, tcells_append l r]
theorem info_tok : (Tryz.prog.info? 194).map (fun i => (i.zero, i.size, i.bytes)) = some (some (.agg #[.int .u8 0, eS, iV 0, iV 0]), 4, 40) := by kernel_rfl
theorem info_parts {P : Program} {t : TypeId} {z : Value} {k b : Nat} (h : (P.info? t).map (fun i => (i.zero, i.size, i.bytes)) = some (some z, k, b)) : ∃ i, P.info? t = some i ∧ i.zero = some z ∧ i.size = k ∧ i.bytes = b := by
 cases hi : P.info? t with
 | none => rw [hi] at h; cases h
 | some i => rw [hi] at h; simp only [Option.map_some, Option.some.injEq, Prod.mk.injEq] at h; exact ⟨i, rfl, h.1, h.2.1, h.2.2⟩
theorem own_slice {w : World} {B : Nat} {T : TypeId} {k : Nat} {v : Value} {n : Nat} {xs : List Value} (h : w.ownsRow B T k v n xs) : ∃ a c, v = .slice a n c := by
 rcases h.2 with ⟨rfl, rfl⟩ | ⟨g, cap, cur, rfl, _⟩
 ·exact ⟨_, _, rfl⟩
 ·exact ⟨_, _, rfl⟩
theorem own_below {w w' : World} {B : Nat} {T : TypeId} {k n : Nat} {v : Value} {xs : List Value} (h : w.ownsRow B T k v n xs) (hb : Below w.heap.size w w') : w'.ownsRow B T k v n xs :=
 h.kept (row := none) ⟨hb.os, hb.tape, hb.output, hb.size, fun j hj _ => hb.block j hj⟩ (by cases hv : v.ownBlock <;> simp)
theorem own_ge {w : World} {B : Nat} {T : TypeId} {k : Nat} {v : Value} {n : Nat} {xs : List Value} (h : w.ownsRow B T k v n xs) : ∀ g, v.ownBlock = some g → B ≤ g ∧ g < w.heap.size := by
 intro g e
 rcases h.2 with ⟨rfl, _⟩ | ⟨g', cap, cur, rfl, hB, hg, _⟩
 ·cases e
 ·injection e with e
  subst e; exact ⟨hB, (zq hg).1⟩
theorem heap_alloc_new2 (w : World) (a o : Obj) : ((w.alloc a).alloc o).heap[w.heap.size + 1]? = some o := by
 have := zw (w.alloc a) o
 rwa [show (w.alloc a).heap.size = w.heap.size + 1 by simp] at this
theorem tok_round {w wr w2 w6 : World} {v : Value} {x0 x1 x2 x3 : Value} {o : Obj} {T : TypeId} (hv : ∀ g, v.ownBlock = some g → w.heap.size ≤ g ∧ g < wr.heap.size) (h1 : Below w.heap.size w wr) (h2 : Below wr.heap.size wr w2) (hg : ((w2.alloc (.cells #[x0, x1, x2, x3] T)).alloc o).grownBy w6 v.ownBlock) :
  w6.cell? ⟨w2.heap.size, 1, none⟩ = some x1 ∧ w6.frozen? ⟨w2.heap.size, 1, none⟩ = false ∧ w2.heap.size < w6.heap.size ∧ Below w.heap.size w w6 := by
 have n1 : (w2.alloc (.cells #[x0, x1, x2, x3] T)).heap.size = w2.heap.size + 1 := by simp
 have n2 : ((w2.alloc (.cells #[x0, x1, x2, x3] T)).alloc o).heap.size = w2.heap.size + 1 + 1 := by simp
 have s1 := h1.size
 have s2 := h2.size
 have e0 : w6.heap[w2.heap.size]? = some (.cells #[x0, x1, x2, x3] T (0, 0)) := by
  rw [hg.block _ (by omega) (fun e => by have := (hv _ e.symm).2; omega), Below.heap_alloc _ _ _ (by omega)]; exact zw _ _
 have s3 := hg.size
 refine ⟨by simp [World.cell?, e0], by simp [World.frozen?, e0], by omega, ?_⟩
 exact (((h1.trans (h2.mono s1)).alloc (by omega) _).alloc (by omega) o).grown hg (by omega) (fun k e => (hv k e).1)
theorem bT_size (l : Tx) : (bT l).size = l.length := rfl
theorem all_next (s : ByteArray) {k F m : Nat} {X : Tx} (hlt : k < s.size) (h1 : 1 ≤ m) (h2 : m ≤ s.size - (k + 1) + 1) (hX : gapL false X = s.data.toList.drop k) (hF : X.length < F + 1) :
  gapL false ((s[k] :: s.data.toList.drop (k + 1)).drop m) = s.data.toList.drop (s.size - (gapL false (s.data.toList.drop (k + m))).length) ∧ ((s[k] :: s.data.toList.drop (k + 1)).drop m).length < F ∧ k + m ≤ s.size - (gapL false (s.data.toList.drop (k + m))).length := by
 have hg := gap_drop s (k + m) (by omega)
 have hl := (gap_suffix false X).length_le
 rw [hX, drop_len] at hl
 rw [← drop_at hlt, List.drop_drop]
 refine ⟨hg.1, ?_, ?_⟩
 ·rw [drop_len]; omega
 ·have := hg.2; omega
theorem tot_nil (q : List Tok × Nat × Nat) (h : q.2.2 = 0 → q.2.1 = 0) (h2 : q.2.2 ≠ 0 → q.1 = []) : tot [] q = q := by
 obtain ⟨a, b, c⟩ := q
 unfold tot
 dsimp only at h h2 ⊢
 split
 ·rename_i hc; subst hc; rw [h rfl, List.nil_append]
 ·rename_i hc; rw [h2 hc]
theorem all_form (n : Nat) : ∀ (F : Nat) (X : Tx), ((allL n F X).2.2 = 0 → (allL n F X).2.1 = 0) ∧ ((allL n F X).2.2 ≠ 0 → (allL n F X).1 = [])
 | 0, X => ⟨fun _ => rfl, fun _ => rfl⟩
 | F + 1, X => by
  rw [allL]
  cases gapL false X with
  | nil => exact ⟨fun _ => rfl, fun _ => rfl⟩
  | cons c r =>
   dsimp only
   by_cases h0 : (oneL (n - (r.length + 1)) c r).2 = 0
   ·rw [if_pos h0]
    generalize allL n F ((c :: r).drop (oneL (n - (r.length + 1)) c r).1.text.length) = q
    by_cases hq : q.2.2 = 0
    ·rw [if_pos hq]; exact ⟨fun _ => rfl, fun h => absurd rfl h⟩
    ·rw [if_neg hq]; exact ⟨fun h => absurd h hq, fun _ => rfl⟩
   ·rw [if_neg h0]; exact ⟨fun h => absurd h h0, fun _ => rfl⟩
theorem all_any (w : World) (s : ByteArray) (hs : s.size ≤ 4611686018427387904) : Calls Tryz.prog 82 #[.string s] w fun e w' => ∃ v, e = .returned (.tuple #[v, iV ((tokens s.data.toList).2.1 : Nat), iV ((tokens s.data.toList).2.2 : Nat)]) ∧ w'.ownsRow w.heap.size 194 4 v (tokens s.data.toList).1.length (tcells (tokens s.data.toList).1) ∧ Below w.heap.size w w' := by
 have HG := zD (fun V a ha => gap_any V s hs a ha)
 have HN := zD (fun V a ha => one_any V s hs a ha)
 by_cases hbig : 65536 < s.size
 ·have hT : tokens s.data.toList = ([], 0, 3) := by unfold tokens; rw [if_pos (by rw [ba_len]; exact hbig)]
  rw [hT]; clear hT; go_enter Tryz.func82, Tryz.ntmps82; go_wp2_with fail; exact zR (v := .tuple #[.slice none 0 0, iV 0, iV 3]) ⟨_, rfl, World.ownsRow_nil _ _ _ _, zl⟩
 have HT := zD (show tokens s.data.toList = tot [] (allL s.size (s.size + 1) s.data.toList) from by
  rw [tot_nil _ (all_form _ _ _).1 (all_form _ _ _).2]; unfold tokens; rw [if_neg (by rw [ba_len]; exact hbig), ba_len])
 generalize tokens s.data.toList = TK at *
 go_enter Tryz.func82, Tryz.ntmps82
 go_wp2_with fail
 refine (HG.out _ 0 (by omega)).mono ?_
 rintro e w1 ⟨rfl, rfl⟩
 rw [List.drop_zero]
 have HK0 := zD (gap_drop s 0 (by omega))
 rw [List.drop_zero] at HK0
 generalize hk0 : s.size - (gapL false s.data.toList).length = k0 at *
 go_wp2_with fail
 go_loopw [5, 6] (fun vl va wr => ∃ (k F : Nat) (T : List Tok) (X : Tx), k ≤ s.size ∧ va = iV (k : Nat) ∧ T.length ≤ k ∧ Hid (wr.ownsRow w.heap.size 194 4 vl T.length (tcells T)) ∧ Hid (Below w.heap.size w wr) ∧ Hid (gapL false X = s.data.toList.drop k) ∧ Hid (X.length < F) ∧ Hid (TK = tot T (allL s.size F X))) (fun _ va _ => s.size - (intOf va).toNat)
 case atStart => exact ⟨k0, s.size + 1, [], s.data.toList, by omega, rfl, by simp, World.ownsRow_nil _ _ _ _, zl, HK0.out.1, zD (by rw [ba_len]; omega), HT⟩
 case round =>
  clear HT HK0 hk0; obtain ⟨k, F, T, X, hk, rfl, hTk, HR, HB, HX, HF, HTT⟩ := hrel; obtain ⟨va, vc, rfl⟩ := own_slice HR.out; obtain ⟨F, rfl⟩ : ∃ F', F = F' + 1 := ⟨F - 1, by have := HF.out; omega⟩; by_cases hlt : k < s.size
  ·have hX := HX.out
   rw [drop_at hlt] at hX; have hp : s.size - ((s.data.toList.drop (k + 1)).length + 1) = k := by rw [drop_len]; omega
   have HS := zD (fun (h : (oneL (s.size - ((s.data.toList.drop (k + 1)).length + 1)) s[k] (s.data.toList.drop (k + 1))).2 = 0) => HTT.out.trans (all_step (n := s.size) (F := F) (T := T) hX h)); have HBD := zD (fun (h : (oneL (s.size - ((s.data.toList.drop (k + 1)).length + 1)) s[k] (s.data.toList.drop (k + 1))).2 ≠ 0) => HTT.out.trans (all_bad (n := s.size) (F := F) (T := T) hX h)); rw [hp] at HS HBD; clear hp; have HLN := zD (fun (h : (oneL k s[k] (s.data.toList.drop (k + 1))).2 = 0) => one_len h); have HO := zD (HN.out wr k hlt); rw [drop_len] at HLN; generalize hq : oneL k s[k] (s.data.toList.drop (k + 1)) = q at *; obtain ⟨t, e0⟩ := q; dsimp only at HS HBD HLN HO; by_cases he : e0 = 0
   ·subst he
    go_wp2_with fail; refine HO.out.mono ?_; rintro e w2 ⟨rfl, hb2⟩; unfold tokV; obtain ⟨i0, hi0, hz0, hz1, hz2⟩ := info_parts info_tok; have HKF := zD (HLN.out trivial); have HKN := zD (HS.out trivial); have hbs : (bT t.text).size = t.text.length := bT_size _; clear HS HBD HLN hq; have HO2 := zD (own_below HR.out hb2); have HOG := zD (own_ge HR.out); have hsz2 := hb2.size; have hszw := HB.out.size
    go_wp2_with (first
     | (at_builtin; refine wpList_append_own _ rfl _ _ 155 rfl w.heap.size 194 i0 (.agg #[.int .u8 0, eS, iV 0, iV 0]) 4 40 Tryz.underlying155 hi0 hz0 hz1 hz2 rfl (by decide) _ _ _ rfl ((HO2.out.alloc _).alloc _) ⟨w2.heap.size + 1, 0, none⟩ 1 1 [.int .u8 (t.kind : Nat), sT t.text, iV (t.num : Nat), iV (t.pos : Nat)] rfl rfl (World.news_of_block (cs := #[.int .u8 (t.kind : Nat), sT t.text, iV (t.num : Nat), iV (t.pos : Nat)]) (t := 194) (fr := (0, 0)) (heap_alloc_new2 w2 _ _)) (by simp [Value.oneCell']) (by unfold maxLen; omega) (by omega) (by simp; omega) ?_; intro v' w6 hown6 hgrow _; obtain ⟨xa, xc, rfl⟩ := own_slice hown6; have HW6 := zD (tok_round HOG.out HB.out hb2 hgrow); obtain ⟨e61, e62, e63, e64⟩ := HW6.out)
     | fail)
    rw [show wrap64 ((k : Int) + (t.text.length : Int)) = ((k + t.text.length : Nat) : Int) from by have h1 := HKF.out.2; rw [IntWalk.wrap64_in _ (by omega)]; omega]; have HN2 := zD (all_next s hlt HKF.out.1 HKF.out.2 HX.out HF.out); refine (HG.out w6 (k + t.text.length) (by have := HKF.out; omega)).mono ?_; rintro e w7 ⟨rfl, rfl⟩; generalize hk2 : s.size - (gapL false (s.data.toList.drop (k + t.text.length))).length = k2 at *; go_wp2_with fail; exact ⟨⟨k2, F, T ++ [t], _, by omega, rfl, by have := HN2.out.2.2; have := HKF.out.1; simp; omega, by rw [tcells_append, List.length_append]; exact hown6, e64, HN2.out.1, HN2.out.2.1, HKN.out⟩, by have := HN2.out.2.2; have := HKF.out.1; simp [intOf]; omega⟩
   ·have hb : ((e0 : Int) != 0) = true := by simp; exact he
    go_wp2_with fail; refine HO.out.mono ?_; rintro e w2 ⟨rfl, hb2⟩; unfold tokV; have hsz2 := hb2.size; have hszw := HB.out.size; have hTK := HBD.out he; subst hTK; go_wp2_with fail; exact zR (v := .tuple #[.slice none 0 0, iV (k : Nat), iV (e0 : Nat)]) ⟨_, rfl, World.ownsRow_nil _ _ _ _, (HB.out.trans (hb2.mono hszw)).alloc (by omega) _⟩
  ·obtain rfl : k = s.size := by omega
   have hX := HX.out; rw [show s.data.toList.drop s.size = [] from List.drop_of_length_le (by rw [ba_len]; omega)] at hX; have hTK := HTT.out.trans (all_end hX); subst hTK; go_wp2_with fail; exact zR (v := .tuple #[.slice va T.length vc, iV 0, iV 0]) ⟨_, rfl, HR.out, HB.out⟩
structure Slc (w : World) (k : Nat) (v : Value) (n : Nat) (xs : List Value) : Prop where
 ex : ∃ a c, v = .slice a n c ∧ n ≤ c ∧ c ≤ 9223372036854775807 ∧ (a = none → c = 0) ∧ (0 < n → ∃ b o, a = some ⟨b, o, none⟩ ∧ b < w.heap.size ∧ ∀ j u, xs[j]? = some u → w.cell? ⟨b, o + j, none⟩ = some u)
 len : xs.length = n * k
theorem Slc.below {w w' : World} {k : Nat} {v : Value} {n : Nat} {xs : List Value} (h : Slc w k v n xs) (hb : Below w.heap.size w w') : Slc w' k v n xs := by
 obtain ⟨⟨a, c, rfl, h1, h2, h0, h3⟩, hl⟩ := h
 refine ⟨⟨a, c, rfl, h1, h2, h0, fun hn => ?_⟩, hl⟩
 obtain ⟨b, o, rfl, hlt, hc⟩ := h3 hn
 exact ⟨b, o, rfl, Nat.lt_of_lt_of_le hlt hb.size, fun j u hu => (hb.cell (p := ⟨b, o + j, none⟩) hlt).trans (hc j u hu)⟩
theorem Slc.nil (w : World) (k : Nat) : Slc w k (.slice none 0 0) 0 [] := ⟨⟨none, 0, rfl, by simp, by omega, fun _ => rfl, fun h => absurd h (by simp)⟩, by simp⟩
theorem Slc.own {w : World} {B k : Nat} {T : TypeId} {v : Value} {n : Nat} {xs : List Value} (h : w.ownsRow B T k v n xs) : Slc w k v n xs := by
 obtain ⟨h1, h2⟩ := h
 rcases h2 with ⟨rfl, rfl⟩ | ⟨g, cap, cur, rfl, hg, hb, hnc, hm, hcs, ht⟩
 ·obtain rfl : xs = [] := List.eq_nil_of_length_eq_zero (by omega)
  exact Slc.nil _ _
 ·refine ⟨⟨_, cap, rfl, hnc, by unfold maxLen at hm; omega, (fun e => by cases e), fun _ => ⟨g, 0, rfl, (zq hb).1, fun j u hu => ?_⟩⟩, h1⟩
  rw [Nat.zero_add, show w.cell? ⟨g, j, none⟩ = cur[j]? by simp [World.cell?, hb]]; rw [← ht, List.getElem?_take] at hu; split at hu
  ·simpa using hu
  ·cases hu
theorem tcells_at : ∀ (T : List Tok) (i : Nat) (h : i < T.length), (tcells T)[i * 4]? = some (.int .u8 (T[i].kind : Nat)) ∧ (tcells T)[i * 4 + 1]? = some (sT T[i].text) ∧ (tcells T)[i * 4 + 2]? = some (iV (T[i].num : Nat)) ∧ (tcells T)[i * 4 + 3]? = some (iV (T[i].pos : Nat))
 | t :: T, 0, _ => ⟨rfl, rfl, rfl, rfl⟩
 | t :: T, i + 1, h => by
  obtain ⟨a, b, c, d⟩ := tcells_at T i (by simpa using h)
  have e : ∀ j, (tcells (t :: T))[(i + 1) * 4 + j]? = (tcells T)[i * 4 + j]? := by
   intro j
   rw [show (i + 1) * 4 + j = i * 4 + j + 4 by omega]
   rfl
  exact ⟨(e 0).trans a, (e 1).trans b, (e 2).trans c, (e 3).trans d⟩
theorem text_any (w : World) (v : Value) (T : List Tok) (h : Slc w 4 v T.length (tcells T)) (hL : T.length ≤ 65536) (i : Int) (hi1 : -1000000 ≤ i) (hi2 : i ≤ 1000000) : Calls Tryz.prog 112 #[v, iV i] w fun e w' => e = .returned (sT (textA T i)) ∧ w = w' := by
 obtain ⟨⟨a, c, rfl, q1, q2, q3, q4⟩, -⟩ := h
 by_cases h0 : i < 0
 ·have hR : textA T i = [] := by unfold textA; rw [if_pos h0]
  rw [hR]; go_enter Tryz.func112, Tryz.ntmps112; go_wp2_with fail; exact bodyPost_ret (v := sT []) (by simp [results, Tryz.results112, go_sem, bT]) rfl ⟨rfl, rfl⟩
 obtain ⟨k, rfl⟩ : ∃ k : Nat, i = (k : Int) := ⟨i.toNat, by omega⟩
 by_cases h1 : T.length ≤ k
 ·have hR : textA T (k : Int) = [] := by unfold textA; rw [if_neg h0, Int.toNat_natCast, List.getElem?_eq_none h1]
  rw [hR]; go_enter Tryz.func112, Tryz.ntmps112; go_wp2_with fail; exact bodyPost_ret (v := sT []) (by simp [results, Tryz.results112, go_sem, bT]) rfl ⟨rfl, rfl⟩
 have h1 : k < T.length := by omega
 obtain ⟨b, o, rfl, hb, hc⟩ := q4 (by omega)
 obtain ⟨a0, a1, a2, a3⟩ := tcells_at T k h1
 have hR : textA T (k : Int) = if T[k].kind = 2 then [] else T[k].text := by unfold textA; rw [if_neg h0, Int.toNat_natCast, List.getElem?_eq_getElem h1]
 rw [hR]
 clear hR
 have c0 := hc _ _ a0
 have c1 : w.cell? ⟨b, o + k * 4 + 1, none⟩ = _ := (congrArg (fun x => w.cell? ⟨b, x, none⟩) (Nat.add_assoc _ _ _)).trans (hc _ _ a1)
 clear hc a0 a1 a2 a3 q4
 generalize T[k] = t at *
 by_cases hk : t.kind = 2
 ·rw [if_pos hk]
  rw [hk] at c0; go_enter Tryz.func112, Tryz.ntmps112; go_wp2_with fail; exact bodyPost_ret (v := sT []) (by simp [results, Tryz.results112, go_sem, bT]) rfl ⟨rfl, rfl⟩
 ·rw [if_neg hk]
  have hk1 : ((t.kind : Int) == 2) = false := by simp; omega
  go_enter Tryz.func112, Tryz.ntmps112; go_wp2_with fail; exact zR (v := sT t.text) ⟨rfl, rfl⟩
theorem bT_list (a : Tx) : (bT a).toList = a := (ByteArray.toList_eq _).trans (by simp [bT])
theorem bT_same (a b : Tx) : ((bT a).toList == (bT b).toList) = decide (a = b) := by
 rw [bT_list, bT_list, Bool.eq_iff_iff, beq_iff_eq, decide_eq_true_iff]
theorem step_any (w : World) (v : Value) (T : List Tok) (h : Slc w 4 v T.length (tcells T)) (hL : T.length ≤ 65536) (i : Int) (hi1 : -1000000 ≤ i) (hi2 : i ≤ 1000000) (x : Tx) : Calls Tryz.prog 110 #[v, iV i, sT x] w fun e w' => e = .returned (iV (stepA T i x)) ∧ w = w' := by
 have HT := zD (text_any w v T h hL i hi1 hi2)
 by_cases h0 : i < 0
 ·have hR : stepA T i x = i := by unfold stepA; rw [if_pos h0]
  rw [hR]; go_enter Tryz.func110, Tryz.ntmps110; go_wp2_with fail; exact zR (v := iV i) ⟨rfl, rfl⟩
 have hR : stepA T i x = if textA T i = x then i + 1 else -1 - i := by unfold stepA; rw [if_neg h0]
 rw [hR]
 clear hR
 generalize textA T i = y at *
 have hs := bT_same y x
 by_cases he : y = x
 ·rw [if_pos he]
  rw [zt he] at hs; have hs2 : (!((bT y).toList == (bT x).toList)) = false := by rw [hs]; rfl
  clear he; go_enter Tryz.func110, Tryz.ntmps110; go_wp2_with fail; refine HT.out.mono ?_; rintro e w1 ⟨rfl, rfl⟩; go_wp2_with fail; exact zR (v := iV (i + 1)) ⟨rfl, rfl⟩
 ·rw [if_neg he]
  rw [zf he] at hs; have hs2 : (!((bT y).toList == (bT x).toList)) = true := by rw [hs]; rfl
  clear he; go_enter Tryz.func110, Tryz.ntmps110; go_wp2_with fail; refine HT.out.mono ?_; rintro e w1 ⟨rfl, rfl⟩; go_wp2_with fail; exact zR (v := iV (-1 - i)) ⟨rfl, rfl⟩
theorem namer_any (w : World) (v : Value) (T : List Tok) (h : Slc w 4 v T.length (tcells T)) (hL : T.length ≤ 65536) (hB : ∀ t ∈ T, t.text.length ≤ 65536) (i : Int) (hi1 : -1000000 ≤ i) (hi2 : i ≤ 1000000) : Calls Tryz.prog 111 #[v, iV i] w fun e w' => e = .returned (.tuple #[sT (nameA T i).1, iV (nameA T i).2]) ∧ w = w' := by
 obtain ⟨⟨a, c, rfl, q1, q2, q3, q4⟩, -⟩ := h
 by_cases h0 : i < 0
 ·have hR : nameA T i = ([], i) := by unfold nameA; rw [if_pos h0]
  rw [hR]; go_enter Tryz.func111, Tryz.ntmps111; go_wp2_with fail; exact bodyPost_ret (v := .tuple #[sT [], iV i]) (by simp [results, Tryz.results111, go_sem, bT]) rfl ⟨rfl, rfl⟩
 obtain ⟨k, rfl⟩ : ∃ k : Nat, i = (k : Int) := ⟨i.toNat, by omega⟩
 by_cases h1 : T.length ≤ k
 ·have hR : nameA T (k : Int) = ([], -1 - (k : Int)) := by unfold nameA; rw [if_neg h0, Int.toNat_natCast, List.getElem?_eq_none h1]
  rw [hR]; go_enter Tryz.func111, Tryz.ntmps111; go_wp2_with fail; exact bodyPost_ret (v := .tuple #[sT [], iV (-1 - (k : Int))]) (by simp [results, Tryz.results111, go_sem, bT]) rfl ⟨rfl, rfl⟩
 have h1 : k < T.length := by omega
 obtain ⟨b, o, rfl, hb, hc⟩ := q4 (by omega)
 obtain ⟨a0, a1, a2, a3⟩ := tcells_at T k h1
 have hR : nameA T (k : Int) = if T[k].kind = 1 && nameT T[k].text then (T[k].text, (k : Int) + 1) else ([], -1 - (k : Int)) := by unfold nameA; rw [if_neg h0, Int.toNat_natCast, List.getElem?_eq_getElem h1]
 rw [hR]
 clear hR
 have c0 := hc _ _ a0
 have c1 : w.cell? ⟨b, o + k * 4 + 1, none⟩ = _ := (congrArg (fun x => w.cell? ⟨b, x, none⟩) (Nat.add_assoc _ _ _)).trans (hc _ _ a1)
 have HN := zD (name_any w (bT T[k].text) (by have := hB _ (List.getElem_mem h1); rw [bT_size]; omega))
 clear hc a0 a1 a2 a3 q4 hB
 generalize T[k] = t at *
 by_cases hk : t.kind = 1
 ·rw [hk] at c0 ⊢
  rw [show (decide (1 = 1) && nameT t.text) = nameT t.text by simp]; rw [show (bT t.text).data.toList = t.text by simp [bT]] at HN; generalize hnm : nameT t.text = nb at *; clear hnm; cases nb with
  | true =>
   go_enter Tryz.func111, Tryz.ntmps111; go_wp2_with fail; refine HN.out.mono ?_; rintro e w1 ⟨rfl, rfl⟩; go_wp2_with fail; exact zR (v := .tuple #[sT t.text, iV ((k : Int) + 1)]) ⟨rfl, rfl⟩
  | false =>
   go_enter Tryz.func111, Tryz.ntmps111; go_wp2_with fail; refine HN.out.mono ?_; rintro e w1 ⟨rfl, rfl⟩; go_wp2_with fail; exact bodyPost_ret (v := .tuple #[sT [], iV (-1 - (k : Int))]) (by simp [results, Tryz.results111, go_sem, bT]) rfl ⟨rfl, rfl⟩
 ·rw [if_neg (by simp [hk])]
  have hk1 : ((t.kind : Int) == 1) = false := by simp; omega
  have hk2 : (!((t.kind : Int) == 1)) = true := by rw [hk1]; rfl
  have hk3 : ((t.kind : Int) != 1) = true := by rw [bne, hk1]; rfl
  go_enter Tryz.func111, Tryz.ntmps111; go_wp2_with fail; exact bodyPost_ret (v := .tuple #[sT [], iV (-1 - (k : Int))]) (by simp [results, Tryz.results111, go_sem, bT]) rfl ⟨rfl, rfl⟩
def Pl (T : List Tok) (i : Int) : Prop := -(T.length : Int) - 1 ≤ i ∧ i ≤ T.length
theorem text_in {T : List Tok} {i : Int} (h0 : ¬ i < 0) (h : textA T i ≠ []) : i < T.length := by
 unfold textA at h
 rw [if_neg h0] at h
 by_cases hl : i < T.length
 ·exact hl
 ·rw [List.getElem?_eq_none (by omega)] at h
  exact absurd rfl h
theorem stepA_pl {T : List Tok} {i : Int} {x : Tx} (hx : x ≠ []) (h : Pl T i) : Pl T (stepA T i x) := by
 unfold stepA
 obtain ⟨h1, h2⟩ := h
 by_cases h0 : i < 0
 ·rw [if_pos h0]; exact ⟨h1, h2⟩
 ·rw [if_neg h0]
  by_cases he : textA T i = x
  ·have := text_in h0 (he ▸ hx)
   rw [if_pos he]; exact ⟨by omega, by omega⟩
  ·rw [if_neg he]; exact ⟨by omega, by omega⟩
theorem nameA_pl {T : List Tok} {i : Int} (h : Pl T i) : Pl T (nameA T i).2 := by
 unfold nameA
 obtain ⟨h1, h2⟩ := h
 by_cases h0 : i < 0
 ·rw [if_pos h0]; exact ⟨h1, h2⟩
 ·rw [if_neg h0]
  by_cases hl : i < T.length
  ·rw [List.getElem?_eq_getElem (by omega)]
   dsimp only; split
   ·exact ⟨by show _ ≤ i + 1; omega, by show i + 1 ≤ _; omega⟩
   ·exact ⟨by show _ ≤ -1 - i; omega, by show -1 - i ≤ _; omega⟩
  ·rw [List.getElem?_eq_none (by omega)]
   exact ⟨by show _ ≤ -1 - i; omega, by show -1 - i ≤ _; omega⟩
theorem step_pl (w : World) (v : Value) (T : List Tok) (h : Slc w 4 v T.length (tcells T)) (hL : T.length ≤ 65536) (i : Int) (hi : Pl T i) (x : Tx) : Calls Tryz.prog 110 #[v, iV i, sT x] w fun e w' => e = .returned (iV (stepA T i x)) ∧ w = w' :=
 step_any w v T h hL i (by have := hi.1; omega) (by have := hi.2; omega) x
theorem namer_pl (w : World) (v : Value) (T : List Tok) (h : Slc w 4 v T.length (tcells T)) (hL : T.length ≤ 65536) (hB : ∀ t ∈ T, t.text.length ≤ 65536) (i : Int) (hi : Pl T i) : Calls Tryz.prog 111 #[v, iV i] w fun e w' => e = .returned (.tuple #[sT (nameA T i).1, iV (nameA T i).2]) ∧ w = w' :=
 namer_any w v T h hL hB i (by have := hi.1; omega) (by have := hi.2; omega)
theorem bracket_any (w : World) (v : Value) (T : List Tok) (h : Slc w 4 v T.length (tcells T)) (hL : T.length ≤ 65536) (hB : ∀ t ∈ T, t.text.length ≤ 65536) (i : Int) (hi : Pl T i) : Calls Tryz.prog 115 #[v, iV i] w fun e w' => e = .returned (.tuple #[sT (bracketA T i).1, iV (bracketA T i).2]) ∧ w = w' := by
 have p1 := stepA_pl (x := [40]) (by simp) hi
 have p2 := nameA_pl p1
 have H1 := zD (step_pl w v T h hL i hi [40])
 have H2 := zD (namer_pl w v T h hL hB _ p1)
 have H3 := zD (step_pl w v T h hL _ p2 [41])
 have hR : bracketA T i = ((nameA T (stepA T i [40])).1, stepA T (nameA T (stepA T i [40])).2 [41]) := rfl
 rw [hR]
 clear hR p1 p2 hi h
 generalize stepA T i [40] = i1 at *
 generalize nameA T i1 = q at *
 obtain ⟨n, i2⟩ := q
 dsimp only at H2 H3 ⊢
 generalize stepA T i2 [41] = i3 at *
 go_enter Tryz.func115, Tryz.ntmps115
 go_wp2_with fail
 refine H1.out.mono ?_
 rintro e w1 ⟨rfl, rfl⟩
 go_wp2_with fail
 refine H2.out.mono ?_
 rintro e w1 ⟨rfl, rfl⟩
 go_wp2_with fail
 refine H3.out.mono ?_
 rintro e w1 ⟨rfl, rfl⟩
 go_wp2_with fail
 exact zR (v := .tuple #[sT n, iV i3]) ⟨rfl, rfl⟩
theorem info_srt : (Tryz.prog.info? 79).map (fun i => (i.zero, i.size, i.bytes)) = some (some (.agg #[.int .u8 0, eS]), 2, 24) := by kernel_rfl
def scells : List Srt → List Value
 | [] => []
 | t :: l => .int .u8 (t.kind : Nat) :: sT t.name :: scells l
theorem scells_append : ∀ (l r : List Srt), scells (l ++ r) = scells l ++ scells r
 | [], _ => rfl
 | t :: l, r => by simp [scells, scells_append l r]
def ahead {α : Type} (S : List α) (q : List α × Int) : List α × Int := (S ++ q.1, q.2)
theorem sorts_list {T : List Tok} {F : Nat} {i : Int} {S : List Srt} (h0 : ¬ i < 0) (h : textA T i = wList) : ahead S (sortsA T (F + 1) i) = ahead (S ++ [⟨5, []⟩]) (sortsA T F (i + 1)) := by
 rw [sortsA, if_neg h0, if_pos h]; simp [ahead]
theorem sorts_opt {T : List Tok} {F : Nat} {i : Int} {S : List Srt} (h0 : ¬ i < 0) (h : textA T i = wOpt) : ahead S (sortsA T (F + 1) i) = ahead (S ++ [⟨6, []⟩]) (sortsA T F (i + 1)) := by
 rw [sortsA, if_neg h0, if_neg (by rw [h]; decide), if_pos h]; simp [ahead]
def lastA (T : List Tok) (i : Int) : Srt × Int :=
 if textA T i = wNone then (⟨1, []⟩, i + 1) else if textA T i = wBool then (⟨2, []⟩, i + 1) else if textA T i = wInt then (⟨3, []⟩, i + 1) else if textA T i = wText then (⟨4, []⟩, i + 1) else (⟨7, (nameA T i).1⟩, (nameA T i).2)
theorem sorts_last {T : List Tok} {F : Nat} {i : Int} {S : List Srt} (h0 : ¬ i < 0) (h1 : textA T i ≠ wList) (h2 : textA T i ≠ wOpt) : ahead S (sortsA T (F + 1) i) = (S ++ [(lastA T i).1], (lastA T i).2) := by
 rw [sortsA, if_neg h0, if_neg h1, if_neg h2]
 unfold lastA ahead
 repeat' split
 all_goals rfl
theorem sorts_neg {T : List Tok} {F : Nat} {i : Int} (h0 : i < 0) : sortsA T F i = ([], i) := by
 cases F with
 | zero => rfl
 | succ F => rw [sortsA, if_pos h0]
theorem last_pl {T : List Tok} {i : Int} (h0 : ¬ i < 0) (h : Pl T i) : Pl T (lastA T i).2 := by
 unfold lastA
 have k : ∀ x : Tx, x ≠ [] → textA T i = x → Pl T (i + 1) := fun x hx he => by
  have := text_in h0 (he ▸ hx); exact ⟨by omega, by omega⟩
 repeat' split
 ·exact k wNone (by decide) (by assumption)
 ·exact k wBool (by decide) (by assumption)
 ·exact k wInt (by decide) (by assumption)
 ·exact k wText (by decide) (by assumption)
 ·exact nameA_pl h
end Go.Proofs.YtgoejmheihgpfaaGreatDoor
