/-
  'starts': the numbers with which a log's files begin.
-/
import Derived.Test.YtkpoecofblhggaaGreatDoorNe
import Derived.Sort.OwnSortedInts
import Derived.Lib.UnsafeStr
import Derived.Maps.AppendAt
namespace Go.Proofs.YtkpoecofblhggaaGreatDoor
open Go.RowKit Go.Maps Go.Sort

/-- the number that a file's name bears -/
def numOf (log : ByteArray) (nm : Nm) : Option Nat := ((List.range 99).map (· + 1)).find? fun k => fileL log k == nm
theorem numOf_file {log : ByteArray} {k : Nat} (h1 : 1 ≤ k) (hk : k < 100) : numOf log (fileL log k) = some k := by
  unfold numOf
  cases hf : ((List.range 99).map (· + 1)).find? fun j => fileL log j == fileL log k with
  | none =>
    rw [List.find?_eq_none] at hf
    have := hf k (List.mem_map.2 ⟨k - 1, by simp; omega, by omega⟩)
    simp at this
  | some j =>
    have e := List.find?_some hf
    have hm := List.mem_of_find?_eq_some hf
    obtain ⟨i, hi, rfl⟩ := List.mem_map.1 hm
    have e2 : fileL log (i + 1) = fileL log k := by simpa using e
    rw [fileL_inj (by simp at hi; omega) hk e2]
theorem numOf_some {log : ByteArray} {nm : Nm} {k : Nat} (h : numOf log nm = some k) : nm = fileL log k ∧ 1 ≤ k ∧ k < 100 := by
  have e := List.find?_some h
  have hm := List.mem_of_find?_eq_some h
  obtain ⟨i, hi, rfl⟩ := List.mem_map.1 hm
  simp at hi
  refine ⟨?_, by omega, by omega⟩
  have : fileL log (i + 1) = nm := by simpa using e
  exact this.symm
/-- a name that is none of the log's files -/
def Other (log : ByteArray) (nm : Nm) : Prop := Lib.hasPrefix nm (preL log) = false ∨ nm = freshL log
/-- the numbers of the log's files among some names -/
def nums (log : ByteArray) (L : List Nm) : List Nat := L.filterMap (numOf log)
theorem pre_list (log : ByteArray) : (log ++ (⟨#[46]⟩ : ByteArray)).data.toList = preL log := by rw [app_list]; rfl
theorem cut_pre (W : World) (log : ByteArray) (r : Nm) : Calls Tryz.prog 45 #[.string (bA (preL log ++ r)), .string (log ++ (⟨#[46]⟩ : ByteArray))] W fun e w' => e = .returned (.tuple #[.string (bA r), .bool true]) ∧ W = w' := by
  have h := Tryz.strings_CutPrefix (bA (preL log ++ r)) (log ++ (⟨#[46]⟩ : ByteArray)) W
  rw [pre_list, bA_list] at h
  have e1 : Lib.hasPrefix (preL log ++ r) (preL log) = true := List.isPrefixOf_iff_prefix.2 (List.prefix_append _ _)
  have e2 : Lib.trimPrefix (preL log ++ r) (preL log) = r := by unfold Lib.trimPrefix; rw [if_pos e1, List.drop_left]
  rw [e1, e2] at h
  exact h.mono fun _ _ ⟨he, hw⟩ => ⟨he, hw.symm⟩
theorem cut_no (W : World) (log : ByteArray) (nm : Nm) (hn : Lib.hasPrefix nm (preL log) = false) : Calls Tryz.prog 45 #[.string (bA nm), .string (log ++ (⟨#[46]⟩ : ByteArray))] W fun e w' => e = .returned (.tuple #[.string (bA nm), .bool false]) ∧ W = w' := by
  have h := Tryz.strings_CutPrefix (bA nm) (log ++ (⟨#[46]⟩ : ByteArray)) W
  rw [pre_list, bA_list] at h
  have e2 : Lib.trimPrefix nm (preL log) = nm := by unfold Lib.trimPrefix; rw [if_neg (by rw [hn]; decide)]
  rw [hn, e2] at h
  exact h.mono fun _ _ ⟨he, hw⟩ => ⟨he, hw.symm⟩
theorem atoi_num12 : ∀ k, k < 100 → Lib.atoi (num12 k) = some (k : Int) := by decide
theorem below_bytesWorld (w : World) (e : TypeId) (s : ByteArray) : Below w.heap.size w (Lib.bytesWorld w e s) := by
  unfold Lib.bytesWorld
  have h1 : Below w.heap.size w (w.drew.alloc (.cells (Lib.bytesCells w e s) e)) := ((Below.refl _ w).drew).alloc (Nat.le_refl _) _
  exact Lib.below_freeze h1 (Nat.le_refl _) _
theorem atoi_any (W : World) (k : Nat) (hk : k < 100) : Calls Tryz.prog 46 #[.string (bA (num12 k))] W fun e w' => e = .returned (.tuple #[.int .i64 k, .nilIface]) ∧ Below W.heap.size W w' :=
  (Tryz.strconv_Atoi (bA (num12 k)) k (by rw [bA_size, num12_len]; omega) (atoi_num12 k hk) W).mono fun _ _ ⟨he, t, hw⟩ => ⟨he, by rw [hw]; exact below_bytesWorld _ _ _⟩

def icellsN (l : List Nat) : List Value := l.map fun k : Nat => Value.int .i64 (k : Int)
theorem icellsN_len (l : List Nat) : (icellsN l).length = l.length := by simp [icellsN]
/-- v: a slice of the call's own that holds the numbers l -/
def NumsAt (w : World) (B : Nat) (v : Value) (l : List Nat) : Prop := w.ownsRow B 3 1 v l.length (icellsN l)
theorem NumsAt.below {w w' : World} {B : Nat} {v : Value} {l : List Nat} (h : NumsAt w B v l) (hb : Below w.heap.size w w') : NumsAt w' B v l := by
  obtain ⟨h1, h2⟩ := h
  refine ⟨h1, h2.imp id ?_⟩
  rintro ⟨g, cap, cur, e, hg, hh, r⟩
  exact ⟨g, cap, cur, e, hg, (hb.block g (heap_lt hh)).trans hh, r⟩
/-- what 'starts' answers: the numbers, as they rise -/
def StartsR (w : World) (log : ByteArray) (L : List Nm) (e : Ending) (w' : World) : Prop :=
  ∃ v, e = .returned (.tuple #[v, .bool true]) ∧ NumsAt w' w.heap.size v ((nums log L).mergeSort fun x y => decide (x ≤ y)) ∧ Below w.heap.size w w'
theorem nums_snoc {log : ByteArray} {L : List Nm} {k : Nat} (hk : k < L.length) : nums log (L.take (k + 1)) = nums log (L.take k) ++ (numOf log L[k]).toList := by
  unfold nums
  rw [List.take_succ_eq_append_getElem hk, List.filterMap_append]
  cases h : numOf log L[k] <;> simp [h]
theorem nums_le (log : ByteArray) (L : List Nm) : (nums log L).length ≤ L.length := List.length_filterMap_le _ _
theorem sort_int (l : List Nat) : (l.map fun k : Nat => (k : Int)).mergeSort (fun x y => decide (x ≤ y)) = (l.mergeSort fun x y => decide (x ≤ y)).map fun k : Nat => (k : Int) := by
  have h1 : ((l.map fun k : Nat => (k : Int)).mergeSort fun x y => decide (x ≤ y)).Pairwise (fun x y => x ≤ y) := by
    have := List.pairwise_mergeSort (le := fun x y : Int => decide (x ≤ y)) (fun a b c h1 h2 => by simp at *; omega) (fun a b => by simp; omega) (l.map fun k : Nat => (k : Int))
    exact this.imp (fun h => by simpa using h)
  have h2 : ((l.mergeSort fun x y => decide (x ≤ y)).map fun k : Nat => (k : Int)).Pairwise (fun x y => x ≤ y) := by
    rw [List.pairwise_map]
    have := List.pairwise_mergeSort (le := fun x y : Nat => decide (x ≤ y)) (fun a b c h1 h2 => by simp at *; omega) (fun a b => by simp; omega) l
    exact this.imp (fun h => by simp at h; omega)
  refine List.Perm.eq_of_pairwise (le := fun x y : Int => x ≤ y) (fun a b _ _ h3 h4 => by omega) h1 h2 ?_
  exact (List.mergeSort_perm _ _).trans ((List.mergeSort_perm l _).symm.map _)
/-- 'slices.Sort' of numbers of the call's own -/
theorem sort_nums (w : World) (B : Nat) (hB : w.heap.size ≤ B) (v : Value) (l : List Nat) (hl : l.length ≤ 256) (wr : World) (h : NumsAt wr B v l) :
    ∃ a c, v = .slice a l.length c ∧ ∀ W, NumsAt W B v l → Below w.heap.size w W → Calls Tryz.prog 47 #[v] W fun e w' => e = .returned (.tuple #[]) ∧ NumsAt w' w.heap.size v (l.mergeSort fun x y => decide (x ≤ y)) ∧ Below w.heap.size w w' := by
  obtain ⟨a, c, rfl⟩ := own_slice h
  refine ⟨a, c, rfl, fun W hW hb => ?_⟩
  have hml : (l.mergeSort fun x y => decide (x ≤ y)).length = l.length := List.length_mergeSort _
  rcases hW.2 with ⟨hv, h0⟩ | ⟨g, cap, cur, hv, hBg, hg, hnc, hm, hcs, ht⟩
  · injection hv with h1 h2 h3
    subst h1 h3
    have e : l = [] := List.eq_nil_of_length_eq_zero h2
    subst e
    refine (Tryz.slices_Sort_int_none none 0 W).mono ?_
    rintro e w' ⟨rfl, rfl⟩
    exact ⟨rfl, by rw [List.mergeSort_nil]; exact World.ownsRow_nil _ _ _ _, hb⟩
  · injection hv with h1 h2 h3
    subst h1 h3
    have ht' : cur.toList.take (l.map fun k : Nat => (k : Int)).length = (l.map fun k : Nat => (k : Int)).map (Value.int .i64) := by
      rw [List.length_map, List.map_map]
      have := ht
      rw [Nat.mul_one] at this
      exact this
    have hc := Tryz.slices_Sort_int g 0 c (l.map fun k : Nat => (k : Int)) W (holds_of_blockI hg ht') (heap_lt hg) (by rw [List.length_map]; omega)
    rw [List.length_map] at hc
    refine hc.mono ?_
    rintro e w' ⟨rfl, n, os, rfl⟩
    rw [sort_int]
    have hr := ownsRow_sortedI (n := n) (os := os) (ss := l.map fun k : Nat => (k : Int)) (ts := (l.mergeSort fun x y => decide (x ≤ y)).map fun k : Nat => (k : Int)) (by rw [List.length_map, List.length_map, hml]) hBg hg (by rw [List.length_map]; omega) hm hcs
    rw [List.length_map, List.map_map] at hr
    refine ⟨rfl, ?_, hb.grown (grownBy_sortedI _) hb.size (fun k hk => by cases hk; omega)⟩
    unfold NumsAt
    rw [hml]
    exact own_base hr hB
set_option maxRecDepth 100000 in
set_option maxHeartbeats 4000000 in
theorem starts_any (w : World) (db m : Nat) (d : Dk) (log : ByteArray) (hd : DAt w db m d) (ok : Fit d) (hl : log.size ≤ 1000) (hO : ∀ nm ∈ names d.fs, numOf log nm = none → Other log nm) :
    Calls Tryz.prog 26 #[.pointer (some ⟨db, 0, none⟩), .string log] w (StartsR w log (names d.fs)) := by
  obtain ⟨i0, hi, hz0, hz1, hz2⟩ := info_parts info_int
  have HD := Lib.hid hd
  have HO := Lib.hid hO
  have hlen := ok.len
  have HL := Lib.hid (list_any w db m d hd ok)
  have hlg : ¬ 9223372036854775807 < log.size + 1 := by omega
  clear hd hO ok
  have hLn : (names d.fs).length = d.fs.length := by simp [names]
  generalize names d.fs = L at *
  generalize d.fs.length = dn at *
  subst hLn
  go_enter Tryz.func26, Tryz.ntmps26
  go_wp2_with fail
  refine HL.out.mono ?_
  rintro e w1 ⟨⟨v1, rfl, hs1, _⟩, hb1⟩
  obtain ⟨va, vc, rfl⟩ := own_slice hs1
  have HS1 := Lib.hid hs1
  have HB1 := Lib.hid hb1
  clear hb1 hs1 HL
  go_wp2_with fail
  go_loopw [6, 16] (fun v i wr => ∃ k : Nat, k ≤ L.length ∧ i = .int .i64 k ∧ Hid (NumsAt wr w1.heap.size v (nums log (L.take k)) ∧ Below w1.heap.size w1 wr)) (fun _ i _ => L.length - (intOf i).toNat)
  case atStart => exact ⟨0, Nat.zero_le _, rfl, World.ownsRow_nil _ _ _ _, Below.refl _ _⟩
  case round =>
    obtain ⟨k, hk, rfl, HN⟩ := hrel
    by_cases hlt : k < L.length
    · obtain ⟨g, hg⟩ : ∃ g, va = some ⟨g, 0, none⟩ := by
        rcases HS1.out.2 with ⟨_, h0⟩ | ⟨g, cap, cur, hv, _⟩
        · omega
        · injection hv with h1; exact ⟨g, h1⟩
      subst hg
      have hcapn : L.length ≤ vc ∧ vc ≤ 9223372036854775807 := by
        rcases HS1.out.2 with ⟨h0, _⟩ | ⟨g', cap, cur, hv, _, _, h1, h2, _⟩
        · cases h0
        · injection hv with _ _ e3; subst e3; exact ⟨h1, h2⟩
      have hcw : w1.cell? ⟨g, k, none⟩ = some (.string (bA L[k])) := by
        rw [HS1.out.cellAt k (by omega), List.getElem?_map, List.getElem?_eq_getElem hlt]; rfl
      have hcell : wr.cell? ⟨g, k, none⟩ = some (.string (bA L[k])) := (HN.out.2.cell (p := ⟨g, k, none⟩) (World.block_lt_of_cell? w1 _ hcw)).trans hcw
      have HM := Lib.hid (show L[k] ∈ L from List.getElem_mem hlt)
      have HSN := Lib.hid (nums_snoc (log := log) hlt)
      clear hcw
      generalize L[k] = nm at *
      cases hno : numOf log nm with
      | none =>
        rw [hno] at HSN
        have HST := Lib.hid (show nums log (L.take (k + 1)) = nums log (L.take k) by rw [HSN.out]; simp)
        rcases HO.out nm HM.out hno with hoth | hoth
        · have HC := Lib.hid (cut_no wr log nm hoth)
          clear hoth hno HM HSN
          generalize bA nm = s at *
          go_wp2_with fail
          refine HC.out.mono ?_
          rintro e w2 ⟨rfl, rfl⟩
          go_wp2_with fail
          go_roundw
          case rel => exact ⟨k + 1, by omega, by go_num, by rw [HST.out]; exact HN.out⟩
          case measure => simp [intOf]; omega
        · have HC := Lib.hid (show Calls Tryz.prog 45 #[.string (bA nm), .string (log ++ (⟨#[46]⟩ : ByteArray))] wr fun e w' => e = .returned (.tuple #[.string ⟨#[110, 101, 119]⟩, .bool true]) ∧ wr = w' from by rw [hoth]; exact cut_pre wr log newL)
          clear hoth hno HM HSN
          generalize bA nm = s at *
          go_wp2_with fail
          refine HC.out.mono ?_
          rintro e w2 ⟨rfl, rfl⟩
          go_wp2_with fail
          go_roundw
          case rel => exact ⟨k + 1, by omega, by go_num, by rw [HST.out]; exact HN.out⟩
          case measure => simp [intOf]; omega
      | some j =>
        obtain ⟨hj1, hj2, hj3⟩ := numOf_some hno
        rw [hno] at HSN
        have HST := Lib.hid (show nums log (L.take (k + 1)) = nums log (L.take k) ++ [j] by rw [HSN.out]; rfl)
        have HC := Lib.hid (show Calls Tryz.prog 45 #[.string (bA nm), .string (log ++ (⟨#[46]⟩ : ByteArray))] wr fun e w' => e = .returned (.tuple #[.string (bA (num12 j)), .bool true]) ∧ wr = w' from by rw [hj1]; exact cut_pre wr log (num12 j))
        have HA := Lib.hid (atoi_any wr j hj3)
        have HF := Lib.hid (fun W => show Calls Tryz.prog 36 #[.string log, .int .i64 j] W fun e w' => e = .returned (.string (bA nm)) ∧ Below W.heap.size W w' from by have := file_any log j j rfl hj3 hl W; rw [show bA nm = fileB log j by rw [hj1]; rfl]; exact this)
        have hne : ((bA (num12 j)).toList == [110, 101, 119]) = false := by
          rw [beq_eq_false_iff_ne, ByteArray.toList_eq, bA_list]
          intro e
          have := congrArg List.length e
          rw [num12_len] at this
          cases this
        have hsb : (! ((bA nm).toList == (bA nm).toList)) = false := by simp
        have hsb2 : ((bA nm).toList == (bA nm).toList) = true := by simp
        have hj4 : ¬ ((j : Int) < 1) := by omega
        have hj5 : (1 : Int) ≤ j := by omega
        have hlen2 := nums_le log (L.take k)
        have hlen3 : (L.take k).length ≤ 256 := by rw [List.length_take]; omega
        clear hno HM HSN hj1
        generalize bA nm = s at *
        generalize bA (num12 j) = s2 at *
        go_wp2_with fail
        refine HC.out.mono ?_
        rintro e w2 ⟨rfl, rfl⟩
        go_wp2_with fail
        refine HA.out.mono ?_
        rintro e w3 ⟨rfl, hb3⟩
        have HB3 := Lib.hid hb3
        clear hb3
        go_wp2_with fail
        refine (HF.out _).mono ?_
        rintro e w4 ⟨rfl, hb4⟩
        have HB4 := Lib.hid (HB3.out.trans (hb4.mono HB3.out.size))
        have HN4 := Lib.hid (HN.out.1.below HB4.out)
        obtain ⟨qa, qc, hq⟩ := own_slice HN.out.1
        subst hq
        clear hb4
        have hz4 := HB4.out.size
        have hz3 := HN.out.2.size
        have H9 := Lib.hid (show ∀ v' w5, w5.ownsRow w1.heap.size 3 1 v' ((nums log (L.take k)).length + 1) (icellsN (nums log (L.take k)) ++ [.int .i64 j]) → (w4.alloc (.cells #[.int .i64 j] 3)).grownBy w5 (Value.slice qa (nums log (L.take k)).length qc).ownBlock → NumsAt w5 w1.heap.size v' (nums log (L.take (k + 1))) ∧ Below w1.heap.size w1 w5 from fun v' w5 ho hg => by
          refine ⟨?_, ?_⟩
          · rw [HST.out]
            unfold NumsAt
            rw [List.length_append, icellsN, List.map_append]
            exact ho
          · have hb9 : Below w1.heap.size w1 (w4.alloc (.cells #[.int .i64 j] 3)) := (HN.out.2.trans (HB4.out.mono hz3)).alloc (by omega) _
            exact hb9.grown hg hb9.size (fun r hr => (HN4.out.lt r hr).1))
        generalize hnn : nums log (L.take k) = NL at *
        go_wp2_with (at_builtin; refine wpList_append_own_at _ rfl _ _ 23 rfl w1.heap.size 3 i0 (.int .i64 0) 1 8 Tryz.underlying23 hi hz0 hz1 hz2 rfl (by decide) _ _ _ rfl (World.ownsRow.alloc HN4.out _) ⟨w4.heap.size, 0, none⟩ 1 1 [.int .i64 j] rfl rfl (World.news_of_block (heap_alloc_new w4 _)) (by simp [Value.oneCell']) (by unfold maxLen; omega) (by omega) (by simp; omega) ?_; intro v5 w5 ho5 hg5 _ _; obtain ⟨h51, h52⟩ := H9.out v5 w5 ho5 hg5)
        go_roundw
        case rel => exact ⟨k + 1, by omega, by go_num, h51, h52⟩
        case measure => simp [intOf]; omega
    · have hkl : k = L.length := by omega
      subst hkl
      have htk : L.take L.length = L := List.take_of_length_le (Nat.le_refl _)
      have hn1 := HN.out.1
      have HB2 := Lib.hid (HB1.out.trans (HN.out.2.mono HB1.out.size))
      have hz := HB1.out.size
      rw [htk] at hn1
      have hnl := nums_le log L
      have HQ := Lib.hid (show ∃ a c, u6 = .slice a (nums log L).length c ∧ ∀ W, NumsAt W w1.heap.size u6 (nums log L) → Below w.heap.size w W → Calls Tryz.prog 47 #[u6] W fun e w' => e = .returned (.tuple #[]) ∧ NumsAt w' w.heap.size u6 ((nums log L).mergeSort fun x y => decide (x ≤ y)) ∧ Below w.heap.size w w' from sort_nums w w1.heap.size hz u6 (nums log L) (by omega) wr hn1)
      have HN1 := Lib.hid hn1
      obtain ⟨qa, qc, hq, hcall⟩ := HQ.out
      subst hq
      have HC := Lib.hid hcall
      clear hcall HQ hn1
      go_wp2_with fail
      refine (HC.out _ HN1.out HB2.out).mono ?_
      rintro e w2 ⟨rfl, h2, hb2⟩
      have H2 := Lib.hid h2
      have HB3 := Lib.hid hb2
      clear h2 hb2
      go_wp2_with fail
      go_ret2
      refine ⟨_, rfl, H2.out, HB3.out⟩
end Go.Proofs.YtkpoecofblhggaaGreatDoor
