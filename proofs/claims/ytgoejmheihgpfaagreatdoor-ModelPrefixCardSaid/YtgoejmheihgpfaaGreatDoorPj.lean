/-
  Rows that are only read ('Slc'), and the document's Text: redressref12.Text.
-/
import Derived.Test.YtgoejmheihgpfaaGreatDoorPg
namespace Go.Proofs.YtgoejmheihgpfaaGreatDoor
section
open Go.RowKit

/-- v is a slice of n things of k cells, laid out as xs: it is only read -/
structure Slc (w : World) (k : Nat) (v : Value) (n : Nat) (xs : List Value) : Prop where
  ex : ∃ a c, v = .slice a n c ∧ n ≤ c ∧ c ≤ 9223372036854775807 ∧ (a = none → c = 0) ∧ (0 < n → ∃ b o, a = some ⟨b, o, none⟩ ∧ b < w.heap.size ∧ ∀ j u, xs[j]? = some u → w.cell? ⟨b, o + j, none⟩ = some u)
  len : xs.length = n * k
theorem Slc.below {w w' : World} {k : Nat} {v : Value} {n : Nat} {xs : List Value} (h : Slc w k v n xs) (hb : Below w.heap.size w w') : Slc w' k v n xs := by
  obtain ⟨⟨a, c, rfl, h1, h2, h0, h3⟩, hl⟩ := h
  refine ⟨⟨a, c, rfl, h1, h2, h0, fun hn => ?_⟩, hl⟩
  obtain ⟨b, o, rfl, hlt, hc⟩ := h3 hn
  exact ⟨b, o, rfl, Nat.lt_of_lt_of_le hlt hb.size, fun j u hu => (hb.cell (p := ⟨b, o + j, none⟩) hlt).trans (hc j u hu)⟩
theorem Slc.nil (w : World) (k : Nat) : Slc w k (.slice none 0 0) 0 [] := ⟨⟨none, 0, rfl, by simp, by omega, fun _ => rfl, fun h => absurd h (by simp)⟩, by simp⟩
theorem Slc.own {w : World} {B k : Nat} {T : TypeId} {v : Value} {n : Nat} {xs : List Value} (h : w.ownsRow B T k v n xs) : Slc w k v n xs := by
  obtain ⟨h1, h2⟩ := h
  rcases h2 with ⟨rfl, rfl⟩ | ⟨g, cap, cur, rfl, hg, hb, hnc, hm, hcs, ht⟩
  · obtain rfl : xs = [] := List.eq_nil_of_length_eq_zero (by omega)
    exact Slc.nil _ _
  · refine ⟨⟨_, cap, rfl, hnc, by unfold maxLen at hm; omega, (fun e => by cases e), fun _ => ⟨g, 0, rfl, (Array.getElem?_eq_some_iff.1 hb).1, fun j u hu => ?_⟩⟩, h1⟩
    rw [Nat.zero_add, show w.cell? ⟨g, j, none⟩ = cur[j]? by simp [World.cell?, hb]]
    rw [← ht, List.getElem?_take] at hu
    split at hu
    · simpa using hu
    · cases hu
theorem tcells_at : ∀ (T : List Tok) (i : Nat) (h : i < T.length), (tcells T)[i * 4]? = some (.int .u8 (T[i].kind : Nat)) ∧ (tcells T)[i * 4 + 1]? = some (.string (bT T[i].text)) ∧ (tcells T)[i * 4 + 2]? = some (.int .i64 (T[i].num : Nat)) ∧ (tcells T)[i * 4 + 3]? = some (.int .i64 (T[i].pos : Nat))
  | t :: T, 0, _ => ⟨rfl, rfl, rfl, rfl⟩
  | t :: T, i + 1, h => by
    obtain ⟨a, b, c, d⟩ := tcells_at T i (by simpa using h)
    have e : ∀ j, (tcells (t :: T))[(i + 1) * 4 + j]? = (tcells T)[i * 4 + j]? := by
      intro j
      rw [show (i + 1) * 4 + j = i * 4 + j + 4 by omega]
      rfl
    exact ⟨(e 0).trans a, (e 1).trans b, (e 2).trans c, (e 3).trans d⟩
set_option maxRecDepth 100000 in
set_option maxHeartbeats 4000000 in
theorem text_any (w : World) (v : Value) (T : List Tok) (h : Slc w 4 v T.length (tcells T)) (hL : T.length ≤ 65536) (i : Int) (hi1 : -1000000 ≤ i) (hi2 : i ≤ 1000000) : Calls Tryz.prog 112 #[v, .int .i64 i] w fun e w' => e = .returned (.string (bT (textA T i))) ∧ w = w' := by
  obtain ⟨⟨a, c, rfl, q1, q2, q3, q4⟩, -⟩ := h
  by_cases h0 : i < 0
  · have hR : textA T i = [] := by unfold textA; rw [if_pos h0]
    rw [hR]
    go_enter Tryz.func112, Tryz.ntmps112
    go_wp2_with fail
    exact bodyPost_ret (v := .string (bT [])) (by simp [results, Tryz.results112, go_sem, bT]) rfl ⟨rfl, rfl⟩
  obtain ⟨k, rfl⟩ : ∃ k : Nat, i = (k : Int) := ⟨i.toNat, by omega⟩
  by_cases h1 : T.length ≤ k
  · have hR : textA T (k : Int) = [] := by unfold textA; rw [if_neg h0, Int.toNat_natCast, List.getElem?_eq_none h1]
    rw [hR]
    go_enter Tryz.func112, Tryz.ntmps112
    go_wp2_with fail
    exact bodyPost_ret (v := .string (bT [])) (by simp [results, Tryz.results112, go_sem, bT]) rfl ⟨rfl, rfl⟩
  have h1 : k < T.length := by omega
  obtain ⟨b, o, rfl, hb, hc⟩ := q4 (by omega)
  obtain ⟨a0, a1, a2, a3⟩ := tcells_at T k h1
  have hR : textA T (k : Int) = if T[k].kind = 2 then [] else T[k].text := by unfold textA; rw [if_neg h0, Int.toNat_natCast, List.getElem?_eq_getElem h1]
  rw [hR]
  clear hR
  have c0 := hc _ _ a0
  have c1 : w.cell? ⟨b, o + k * 4 + 1, none⟩ = _ := (congrArg (fun x => w.cell? ⟨b, x, none⟩) (Nat.add_assoc _ _ _)).trans (hc _ _ a1)
  clear hc a0 a1 a2 a3 q4
  generalize T[k] = t at *
  by_cases hk : t.kind = 2
  · rw [if_pos hk]
    rw [hk] at c0
    go_enter Tryz.func112, Tryz.ntmps112
    go_wp2_with fail
    exact bodyPost_ret (v := .string (bT [])) (by simp [results, Tryz.results112, go_sem, bT]) rfl ⟨rfl, rfl⟩
  · rw [if_neg hk]
    have hk1 : ((t.kind : Int) == 2) = false := by simp; omega
    go_enter Tryz.func112, Tryz.ntmps112
    go_wp2_with fail
    exact bodyPost_ret (v := .string (bT t.text)) (by simp [results, Tryz.results112, go_sem]) rfl ⟨rfl, rfl⟩
end

section
open Go.RowKit

theorem bT_list (a : Tx) : (bT a).toList = a := (ByteArray.toList_eq _).trans (by simp [bT])
theorem bT_same (a b : Tx) : ((bT a).toList == (bT b).toList) = decide (a = b) := by
  rw [bT_list, bT_list, Bool.eq_iff_iff, beq_iff_eq, decide_eq_true_iff]
set_option maxRecDepth 100000 in
set_option maxHeartbeats 4000000 in
theorem step_any (w : World) (v : Value) (T : List Tok) (h : Slc w 4 v T.length (tcells T)) (hL : T.length ≤ 65536) (i : Int) (hi1 : -1000000 ≤ i) (hi2 : i ≤ 1000000) (x : Tx) : Calls Tryz.prog 110 #[v, .int .i64 i, .string (bT x)] w fun e w' => e = .returned (.int .i64 (stepA T i x)) ∧ w = w' := by
  have HT := Lib.hid (text_any w v T h hL i hi1 hi2)
  by_cases h0 : i < 0
  · have hR : stepA T i x = i := by unfold stepA; rw [if_pos h0]
    rw [hR]
    go_enter Tryz.func110, Tryz.ntmps110
    go_wp2_with fail
    exact bodyPost_ret (v := .int .i64 i) (by simp [results, Tryz.results110, go_sem]) rfl ⟨rfl, rfl⟩
  have hR : stepA T i x = if textA T i = x then i + 1 else -1 - i := by unfold stepA; rw [if_neg h0]
  rw [hR]
  clear hR
  generalize textA T i = y at *
  have hs := bT_same y x
  by_cases he : y = x
  · rw [if_pos he]
    rw [decide_eq_true he] at hs
    have hs2 : (!((bT y).toList == (bT x).toList)) = false := by rw [hs]; rfl
    clear he
    go_enter Tryz.func110, Tryz.ntmps110
    go_wp2_with fail
    refine HT.out.mono ?_
    rintro e w1 ⟨rfl, rfl⟩
    go_wp2_with fail
    exact bodyPost_ret (v := .int .i64 (i + 1)) (by simp [results, Tryz.results110, go_sem]) rfl ⟨rfl, rfl⟩
  · rw [if_neg he]
    rw [decide_eq_false he] at hs
    have hs2 : (!((bT y).toList == (bT x).toList)) = true := by rw [hs]; rfl
    clear he
    go_enter Tryz.func110, Tryz.ntmps110
    go_wp2_with fail
    refine HT.out.mono ?_
    rintro e w1 ⟨rfl, rfl⟩
    go_wp2_with fail
    exact bodyPost_ret (v := .int .i64 (-1 - i)) (by simp [results, Tryz.results110, go_sem]) rfl ⟨rfl, rfl⟩
set_option maxRecDepth 100000 in
set_option maxHeartbeats 4000000 in
theorem namer_any (w : World) (v : Value) (T : List Tok) (h : Slc w 4 v T.length (tcells T)) (hL : T.length ≤ 65536) (hB : ∀ t ∈ T, t.text.length ≤ 65536) (i : Int) (hi1 : -1000000 ≤ i) (hi2 : i ≤ 1000000) : Calls Tryz.prog 111 #[v, .int .i64 i] w fun e w' => e = .returned (.tuple #[.string (bT (nameA T i).1), .int .i64 (nameA T i).2]) ∧ w = w' := by
  obtain ⟨⟨a, c, rfl, q1, q2, q3, q4⟩, -⟩ := h
  by_cases h0 : i < 0
  · have hR : nameA T i = ([], i) := by unfold nameA; rw [if_pos h0]
    rw [hR]
    go_enter Tryz.func111, Tryz.ntmps111
    go_wp2_with fail
    exact bodyPost_ret (v := .tuple #[.string (bT []), .int .i64 i]) (by simp [results, Tryz.results111, go_sem, bT]) rfl ⟨rfl, rfl⟩
  obtain ⟨k, rfl⟩ : ∃ k : Nat, i = (k : Int) := ⟨i.toNat, by omega⟩
  by_cases h1 : T.length ≤ k
  · have hR : nameA T (k : Int) = ([], -1 - (k : Int)) := by unfold nameA; rw [if_neg h0, Int.toNat_natCast, List.getElem?_eq_none h1]
    rw [hR]
    go_enter Tryz.func111, Tryz.ntmps111
    go_wp2_with fail
    exact bodyPost_ret (v := .tuple #[.string (bT []), .int .i64 (-1 - (k : Int))]) (by simp [results, Tryz.results111, go_sem, bT]) rfl ⟨rfl, rfl⟩
  have h1 : k < T.length := by omega
  obtain ⟨b, o, rfl, hb, hc⟩ := q4 (by omega)
  obtain ⟨a0, a1, a2, a3⟩ := tcells_at T k h1
  have hR : nameA T (k : Int) = if T[k].kind = 1 && nameT T[k].text then (T[k].text, (k : Int) + 1) else ([], -1 - (k : Int)) := by unfold nameA; rw [if_neg h0, Int.toNat_natCast, List.getElem?_eq_getElem h1]
  rw [hR]
  clear hR
  have c0 := hc _ _ a0
  have c1 : w.cell? ⟨b, o + k * 4 + 1, none⟩ = _ := (congrArg (fun x => w.cell? ⟨b, x, none⟩) (Nat.add_assoc _ _ _)).trans (hc _ _ a1)
  have HN := Lib.hid (name_any w (bT T[k].text) (by have := hB _ (List.getElem_mem h1); rw [bT_size]; omega))
  clear hc a0 a1 a2 a3 q4 hB
  generalize T[k] = t at *
  by_cases hk : t.kind = 1
  · rw [hk] at c0 ⊢
    rw [show (decide (1 = 1) && nameT t.text) = nameT t.text by simp]
    rw [show (bT t.text).data.toList = t.text by simp [bT]] at HN
    generalize hnm : nameT t.text = nb at *
    clear hnm
    cases nb with
    | true =>
      go_enter Tryz.func111, Tryz.ntmps111
      go_wp2_with fail
      refine HN.out.mono ?_
      rintro e w1 ⟨rfl, rfl⟩
      go_wp2_with fail
      exact bodyPost_ret (v := .tuple #[.string (bT t.text), .int .i64 ((k : Int) + 1)]) (by simp [results, Tryz.results111, go_sem]) rfl ⟨rfl, rfl⟩
    | false =>
      go_enter Tryz.func111, Tryz.ntmps111
      go_wp2_with fail
      refine HN.out.mono ?_
      rintro e w1 ⟨rfl, rfl⟩
      go_wp2_with fail
      exact bodyPost_ret (v := .tuple #[.string (bT []), .int .i64 (-1 - (k : Int))]) (by simp [results, Tryz.results111, go_sem, bT]) rfl ⟨rfl, rfl⟩
  · rw [if_neg (by simp [hk])]
    have hk1 : ((t.kind : Int) == 1) = false := by simp; omega
    have hk2 : (!((t.kind : Int) == 1)) = true := by rw [hk1]; rfl
    have hk3 : ((t.kind : Int) != 1) = true := by rw [bne, hk1]; rfl
    go_enter Tryz.func111, Tryz.ntmps111
    go_wp2_with fail
    exact bodyPost_ret (v := .tuple #[.string (bT []), .int .i64 (-1 - (k : Int))]) (by simp [results, Tryz.results111, go_sem, bT]) rfl ⟨rfl, rfl⟩
end

section
open Go.RowKit

/-- a place among the tokens, or a fault's -/
def Pl (T : List Tok) (i : Int) : Prop := -(T.length : Int) - 1 ≤ i ∧ i ≤ T.length
theorem text_in {T : List Tok} {i : Int} (h0 : ¬ i < 0) (h : textA T i ≠ []) : i < T.length := by
  unfold textA at h
  rw [if_neg h0] at h
  by_cases hl : i < T.length
  · exact hl
  · rw [List.getElem?_eq_none (by omega)] at h
    exact absurd rfl h
theorem stepA_pl {T : List Tok} {i : Int} {x : Tx} (hx : x ≠ []) (h : Pl T i) : Pl T (stepA T i x) := by
  unfold stepA
  obtain ⟨h1, h2⟩ := h
  by_cases h0 : i < 0
  · rw [if_pos h0]; exact ⟨h1, h2⟩
  · rw [if_neg h0]
    by_cases he : textA T i = x
    · have := text_in h0 (he ▸ hx)
      rw [if_pos he]; exact ⟨by omega, by omega⟩
    · rw [if_neg he]; exact ⟨by omega, by omega⟩
theorem nameA_pl {T : List Tok} {i : Int} (h : Pl T i) : Pl T (nameA T i).2 := by
  unfold nameA
  obtain ⟨h1, h2⟩ := h
  by_cases h0 : i < 0
  · rw [if_pos h0]; exact ⟨h1, h2⟩
  · rw [if_neg h0]
    by_cases hl : i < T.length
    · rw [List.getElem?_eq_getElem (by omega)]
      dsimp only
      split
      · exact ⟨by show _ ≤ i + 1; omega, by show i + 1 ≤ _; omega⟩
      · exact ⟨by show _ ≤ -1 - i; omega, by show -1 - i ≤ _; omega⟩
    · rw [List.getElem?_eq_none (by omega)]
      exact ⟨by show _ ≤ -1 - i; omega, by show -1 - i ≤ _; omega⟩
theorem step_pl (w : World) (v : Value) (T : List Tok) (h : Slc w 4 v T.length (tcells T)) (hL : T.length ≤ 65536) (i : Int) (hi : Pl T i) (x : Tx) : Calls Tryz.prog 110 #[v, .int .i64 i, .string (bT x)] w fun e w' => e = .returned (.int .i64 (stepA T i x)) ∧ w = w' :=
  step_any w v T h hL i (by have := hi.1; omega) (by have := hi.2; omega) x
theorem namer_pl (w : World) (v : Value) (T : List Tok) (h : Slc w 4 v T.length (tcells T)) (hL : T.length ≤ 65536) (hB : ∀ t ∈ T, t.text.length ≤ 65536) (i : Int) (hi : Pl T i) : Calls Tryz.prog 111 #[v, .int .i64 i] w fun e w' => e = .returned (.tuple #[.string (bT (nameA T i).1), .int .i64 (nameA T i).2]) ∧ w = w' :=
  namer_any w v T h hL hB i (by have := hi.1; omega) (by have := hi.2; omega)
set_option maxRecDepth 100000 in
set_option maxHeartbeats 4000000 in
theorem bracket_any (w : World) (v : Value) (T : List Tok) (h : Slc w 4 v T.length (tcells T)) (hL : T.length ≤ 65536) (hB : ∀ t ∈ T, t.text.length ≤ 65536) (i : Int) (hi : Pl T i) : Calls Tryz.prog 115 #[v, .int .i64 i] w fun e w' => e = .returned (.tuple #[.string (bT (bracketA T i).1), .int .i64 (bracketA T i).2]) ∧ w = w' := by
  have p1 := stepA_pl (x := [40]) (by simp) hi
  have p2 := nameA_pl p1
  have H1 := Lib.hid (step_pl w v T h hL i hi [40])
  have H2 := Lib.hid (namer_pl w v T h hL hB _ p1)
  have H3 := Lib.hid (step_pl w v T h hL _ p2 [41])
  have hR : bracketA T i = ((nameA T (stepA T i [40])).1, stepA T (nameA T (stepA T i [40])).2 [41]) := rfl
  rw [hR]
  clear hR p1 p2 hi h
  generalize stepA T i [40] = i1 at *
  generalize nameA T i1 = q at *
  obtain ⟨n, i2⟩ := q
  dsimp only at H2 H3 ⊢
  generalize stepA T i2 [41] = i3 at *
  go_enter Tryz.func115, Tryz.ntmps115
  go_wp2_with fail
  refine H1.out.mono ?_
  rintro e w1 ⟨rfl, rfl⟩
  go_wp2_with fail
  refine H2.out.mono ?_
  rintro e w1 ⟨rfl, rfl⟩
  go_wp2_with fail
  refine H3.out.mono ?_
  rintro e w1 ⟨rfl, rfl⟩
  go_wp2_with fail
  exact bodyPost_ret (v := .tuple #[.string (bT n), .int .i64 i3]) (by simp [results, Tryz.results115, go_sem]) rfl ⟨rfl, rfl⟩
end

section
open Go.RowKit

theorem info_srt : (Tryz.prog.info? 79).map (fun i => (i.zero, i.size, i.bytes)) = some (some (.agg #[.int .u8 0, .string ⟨#[]⟩]), 2, 24) := by kernel_rfl
def scells : List Srt → List Value
  | [] => []
  | t :: l => .int .u8 (t.kind : Nat) :: .string (bT t.name) :: scells l
theorem scells_append : ∀ (l r : List Srt), scells (l ++ r) = scells l ++ scells r
  | [], _ => rfl
  | t :: l, r => by simp [scells, scells_append l r]
/-- the parts before, laid ahead -/
def ahead {α : Type} (S : List α) (q : List α × Int) : List α × Int := (S ++ q.1, q.2)
theorem sorts_list {T : List Tok} {F : Nat} {i : Int} {S : List Srt} (h0 : ¬ i < 0) (h : textA T i = wList) : ahead S (sortsA T (F + 1) i) = ahead (S ++ [⟨5, []⟩]) (sortsA T F (i + 1)) := by
  rw [sortsA, if_neg h0, if_pos h]; simp [ahead]
theorem sorts_opt {T : List Tok} {F : Nat} {i : Int} {S : List Srt} (h0 : ¬ i < 0) (h : textA T i = wOpt) : ahead S (sortsA T (F + 1) i) = ahead (S ++ [⟨6, []⟩]) (sortsA T F (i + 1)) := by
  rw [sortsA, if_neg h0, if_neg (by rw [h]; decide), if_pos h]; simp [ahead]
/-- the last part of a type -/
def lastA (T : List Tok) (i : Int) : Srt × Int :=
  if textA T i = wNone then (⟨1, []⟩, i + 1) else if textA T i = wBool then (⟨2, []⟩, i + 1) else if textA T i = wInt then (⟨3, []⟩, i + 1) else if textA T i = wText then (⟨4, []⟩, i + 1) else (⟨7, (nameA T i).1⟩, (nameA T i).2)
theorem sorts_last {T : List Tok} {F : Nat} {i : Int} {S : List Srt} (h0 : ¬ i < 0) (h1 : textA T i ≠ wList) (h2 : textA T i ≠ wOpt) : ahead S (sortsA T (F + 1) i) = (S ++ [(lastA T i).1], (lastA T i).2) := by
  rw [sortsA, if_neg h0, if_neg h1, if_neg h2]
  unfold lastA ahead
  repeat' split
  all_goals rfl
theorem sorts_neg {T : List Tok} {F : Nat} {i : Int} (h0 : i < 0) : sortsA T F i = ([], i) := by
  cases F with
  | zero => rfl
  | succ F => rw [sortsA, if_pos h0]
theorem sorts_len : ∀ (T : List Tok) (F : Nat) (i : Int), (sortsA T F i).1.length ≤ F + 1
  | _, 0, _ => by simp [sortsA]
  | T, F + 1, i => by
    by_cases h0 : i < 0
    · rw [sorts_neg h0]; simp
    by_cases h1 : textA T i = wList
    · have := sorts_list (S := []) (F := F) h0 h1
      have e := congrArg (fun q => q.1.length) this
      simp [ahead] at e
      have := sorts_len T F (i + 1)
      omega
    by_cases h2 : textA T i = wOpt
    · have := sorts_opt (S := []) (F := F) h0 h2
      have e := congrArg (fun q => q.1.length) this
      simp [ahead] at e
      have := sorts_len T F (i + 1)
      omega
    · have := sorts_last (S := []) (F := F) h0 h1 h2
      have e := congrArg (fun q => q.1.length) this
      simp [ahead] at e
      omega
theorem last_pl {T : List Tok} {i : Int} (h0 : ¬ i < 0) (h : Pl T i) : Pl T (lastA T i).2 := by
  unfold lastA
  have k : ∀ x : Tx, x ≠ [] → textA T i = x → Pl T (i + 1) := fun x hx he => by
    have := text_in h0 (he ▸ hx)
    exact ⟨by omega, by omega⟩
  repeat' split
  · exact k wNone (by decide) (by assumption)
  · exact k wBool (by decide) (by assumption)
  · exact k wInt (by decide) (by assumption)
  · exact k wText (by decide) (by assumption)
  · exact nameA_pl h
end
end Go.Proofs.YtgoejmheihgpfaaGreatDoor
