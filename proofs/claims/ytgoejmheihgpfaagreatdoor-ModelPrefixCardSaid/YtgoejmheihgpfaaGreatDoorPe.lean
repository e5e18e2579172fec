/-
  The document's tokens: redressref11.One.
-/
import Derived.Test.YtgoejmheihgpfaaGreatDoorPa
import Derived.Laws.DeepStrings4
namespace Go.Proofs.YtgoejmheihgpfaaGreatDoor
open Go.RowKit

theorem ba_ext {x y : ByteArray} (h : x.data.toList = y.data.toList) : x = y := by
  cases x; cases y; simp only at h; congr 1; exact Array.toList_inj.1 h
theorem ext_list (x : ByteArray) (a b : Nat) : (x.extract a b).data.toList = (x.data.toList.drop a).take (b - a) := by
  rw [ByteArray.data_extract, Array.toList_extract]
/-- a token as a value -/
def bT (l : Tx) : ByteArray := ⟨l.toArray⟩
def tokV (t : Tok) : Value := .agg #[.int .u8 (t.kind : Nat), .string (bT t.text), .int .i64 (t.num : Nat), .int .i64 (t.pos : Nat)]
theorem tw_take (p : UInt8 → Bool) : ∀ l : Tx, l.take (l.takeWhile p).length = l.takeWhile p
  | [] => rfl
  | c :: r => by
    rw [List.takeWhile_cons]
    split
    · rw [List.length_cons, List.take_succ_cons, tw_take p r]
    · rfl
theorem tw_le (p : UInt8 → Bool) : ∀ l : Tx, (l.takeWhile p).length ≤ l.length
  | [] => Nat.le_refl _
  | c :: r => by
    rw [List.takeWhile_cons]
    split
    · have := tw_le p r; simp; omega
    · simp
theorem tw_step {p : UInt8 → Bool} {s : ByteArray} {k M : Nat} (h : k < s.size) (hp : p s[k] = true) (hM : ((s.data.toList.drop k).takeWhile p).length + k = M) : ((s.data.toList.drop (k + 1)).takeWhile p).length + (k + 1) = M := by
  rw [drop_at h, List.takeWhile_cons, if_pos hp, List.length_cons] at hM
  omega
theorem tw_stop {p : UInt8 → Bool} {s : ByteArray} {k M : Nat} (h : ∀ h : k < s.size, p s[k] = false) (hM : ((s.data.toList.drop k).takeWhile p).length + k = M) : k = M := by
  by_cases e : k < s.size
  · rw [drop_at e, List.takeWhile_cons, if_neg (by rw [h e]; decide)] at hM
    simpa using hM
  · rw [List.drop_eq_nil_of_le (by rw [ba_len]; omega)] at hM
    simpa using hM
theorem tw_text {p : UInt8 → Bool} {s : ByteArray} {a M : Nat} (h : a < s.size) (hM : ((s.data.toList.drop (a + 1)).takeWhile p).length + (a + 1) = M) : s.extract a M = bT (s[a] :: (s.data.toList.drop (a + 1)).takeWhile p) := by
  apply ba_ext
  rw [ext_list, drop_at h]
  show _ = (s[a] :: _ : Tx)
  have : M - a = ((s.data.toList.drop (a + 1)).takeWhile p).length + 1 := by omega
  rw [this, List.take_succ_cons, tw_take]
theorem bel2 (w : World) (x y : Obj) : Below w.heap.size w ((w.alloc x).alloc y) := ((Below.refl _ _).alloc (Nat.le_refl _) _).alloc (by simp) _
set_option maxRecDepth 100000 in
set_option maxHeartbeats 4000000 in
theorem one_letter (w : World) (s : ByteArray) (hs : s.size ≤ 4611686018427387904) (a : Nat) (ha : a < s.size) (h1 : letterB s[a] = true) : Calls Tryz.prog 109 #[.string s, .int .i64 (a : Nat)] w fun e w' => e = .returned (.tuple #[tokV (oneL a s[a] (s.data.toList.drop (a + 1))).1, .int .i64 ((oneL a s[a] (s.data.toList.drop (a + 1))).2 : Nat)]) ∧ Below w.heap.size w w' := by
  obtain ⟨M, hM⟩ : ∃ M, ((s.data.toList.drop (a + 1)).takeWhile innerB).length + (a + 1) = M := ⟨_, rfl⟩
  have hMs : M ≤ s.size := by have := tw_le innerB (s.data.toList.drop (a + 1)); rw [drop_len] at this; omega
  have HO := Lib.hid (show oneL a s[a] (s.data.toList.drop (a + 1)) = (⟨1, s[a] :: (s.data.toList.drop (a + 1)).takeWhile innerB, 0, a⟩, if 32 < ((s.data.toList.drop (a + 1)).takeWhile innerB).length + 1 then 3 else 0) from by unfold oneL; rw [if_pos h1])
  have HT := Lib.hid (tw_text (p := innerB) ha hM)
  have HM := Lib.hid hM
  have HL0 := Lib.hid (fun V => letter_any V s[a])
  rw [h1] at HL0
  have HL := Lib.hid (fun V (k : Nat) (h : k < s.size) => letter_any V s[k])
  have HD := Lib.hid (fun V (k : Nat) (h : k < s.size) => digit_any V s[k])
  have hw1 : IntKind.i64.wrap ((a : Int) + 1) = (a : Int) + 1 := IntWalk.i64_in _ (by omega)
  have hw2 : IntKind.i64.wrap ((M : Int) - (a : Int)) = (M : Int) - (a : Int) := IntWalk.i64_in _ (by omega)
  rw [HO.out]
  by_cases h32 : 32 < M - a
  · rw [if_pos (by omega)]
    have hdec : decide ((32 : Int) < (M : Int) - (a : Int)) = true := by rw [decide_eq_true_eq]; omega
    clear hM h1 HO
    go_enter Tryz.func109, Tryz.ntmps109
    go_wp2_with fail
    refine (HL0.out _).mono ?_
    rintro e w1 ⟨rfl, rfl⟩
    go_wp2_with fail
    go_loop [8] (fun i => ∃ k : Nat, a + 1 ≤ k ∧ k ≤ s.size ∧ i = .int .i64 k ∧ Hid (((s.data.toList.drop k).takeWhile innerB).length + k = M)) (fun i => s.size - (intOf i).toNat)
    case atStart => exact ⟨a + 1, by omega, by omega, by simp, HM⟩
    case round =>
      obtain ⟨k, hk1, hk2, rfl, HK⟩ := hrel
      by_cases hlt : k < s.size
      · have HLk := Lib.hid (fun V => HL.out V k hlt)
        have HDk := Lib.hid (fun V => HD.out V k hlt)
        have HC := Lib.hid (show innerB s[k] = (letterB s[k] || digitB s[k] || s[k] == UInt8.ofNat 95) from rfl)
        rw [u8_eq s[k] 95 (by decide) 95 rfl] at HC
        have HS := Lib.hid (fun (h : innerB s[k] = true) => tw_step (p := innerB) hlt h HK.out)
        have HE := Lib.hid (fun (h : innerB s[k] = false) => tw_stop (p := innerB) (k := k) (fun _ => h) HK.out)
        have hwk : IntKind.i64.wrap ((k : Int) + 1) = (k : Int) + 1 := IntWalk.i64_in _ (by omega)
        clear HK
        cases hl : letterB s[k] with
        | true =>
          rw [hl] at HLk HC
          go_wp2_with fail
          refine (HLk.out _).mono ?_
          rintro e w1 ⟨rfl, rfl⟩
          go_wp2_with fail
          exact ⟨⟨k + 1, by omega, by omega, by go_num, HS.out (by rw [HC.out]; rfl)⟩, by simp [intOf]; omega⟩
        | false =>
          rw [hl] at HLk HC
          cases hd : digitB s[k] with
          | true =>
            rw [hd] at HDk HC
            go_wp2_with fail
            refine (HLk.out _).mono ?_
            rintro e w1 ⟨rfl, rfl⟩
            go_wp2_with fail
            refine (HDk.out _).mono ?_
            rintro e w1 ⟨rfl, rfl⟩
            go_wp2_with fail
            exact ⟨⟨k + 1, by omega, by omega, by go_num, HS.out (by rw [HC.out]; rfl)⟩, by simp [intOf]; omega⟩
          | false =>
            rw [hd] at HDk HC
            cases hu : ((s[k].toNat : Nat) : Int) == (95 : Int) with
            | true =>
              rw [hu] at HC
              go_wp2_with fail
              refine (HLk.out _).mono ?_
              rintro e w1 ⟨rfl, rfl⟩
              go_wp2_with fail
              refine (HDk.out _).mono ?_
              rintro e w1 ⟨rfl, rfl⟩
              go_wp2_with fail
              exact ⟨⟨k + 1, by omega, by omega, by go_num, HS.out (by rw [HC.out]; rfl)⟩, by simp [intOf]; omega⟩
            | false =>
              rw [hu] at HC
              have hkM := HE.out (by rw [HC.out]; rfl)
              clear HE HS HC
              subst hkM
              go_wp2_with fail
              refine (HLk.out _).mono ?_
              rintro e w1 ⟨rfl, rfl⟩
              go_wp2_with fail
              refine (HDk.out _).mono ?_
              rintro e w1 ⟨rfl, rfl⟩
              go_wp2_with fail
              exact bodyPost_ret (v := .tuple #[.agg #[.int .u8 1, .string (s.extract a k), .int .i64 0, .int .i64 (a : Nat)], .int .i64 3]) (by simp [results, Tryz.results109, go_sem]) rfl ⟨by rw [HT.out]; rfl, bel2 _ _ _⟩
      · have hkM := tw_stop (p := innerB) (k := k) (fun h => absurd h hlt) HK.out
        clear HK
        subst hkM
        go_wp2_with fail
        exact bodyPost_ret (v := .tuple #[.agg #[.int .u8 1, .string (s.extract a k), .int .i64 0, .int .i64 (a : Nat)], .int .i64 3]) (by simp [results, Tryz.results109, go_sem]) rfl ⟨by rw [HT.out]; rfl, bel2 _ _ _⟩
  · rw [if_neg (by omega)]
    have hdec : decide ((32 : Int) < (M : Int) - (a : Int)) = false := by rw [decide_eq_false_iff_not]; omega
    clear hM h1 HO
    go_enter Tryz.func109, Tryz.ntmps109
    go_wp2_with fail
    refine (HL0.out _).mono ?_
    rintro e w1 ⟨rfl, rfl⟩
    go_wp2_with fail
    go_loop [8] (fun i => ∃ k : Nat, a + 1 ≤ k ∧ k ≤ s.size ∧ i = .int .i64 k ∧ Hid (((s.data.toList.drop k).takeWhile innerB).length + k = M)) (fun i => s.size - (intOf i).toNat)
    case atStart => exact ⟨a + 1, by omega, by omega, by simp, HM⟩
    case round =>
      obtain ⟨k, hk1, hk2, rfl, HK⟩ := hrel
      by_cases hlt : k < s.size
      · have HLk := Lib.hid (fun V => HL.out V k hlt)
        have HDk := Lib.hid (fun V => HD.out V k hlt)
        have HC := Lib.hid (show innerB s[k] = (letterB s[k] || digitB s[k] || s[k] == UInt8.ofNat 95) from rfl)
        rw [u8_eq s[k] 95 (by decide) 95 rfl] at HC
        have HS := Lib.hid (fun (h : innerB s[k] = true) => tw_step (p := innerB) hlt h HK.out)
        have HE := Lib.hid (fun (h : innerB s[k] = false) => tw_stop (p := innerB) (k := k) (fun _ => h) HK.out)
        have hwk : IntKind.i64.wrap ((k : Int) + 1) = (k : Int) + 1 := IntWalk.i64_in _ (by omega)
        clear HK
        cases hl : letterB s[k] with
        | true =>
          rw [hl] at HLk HC
          go_wp2_with fail
          refine (HLk.out _).mono ?_
          rintro e w1 ⟨rfl, rfl⟩
          go_wp2_with fail
          exact ⟨⟨k + 1, by omega, by omega, by go_num, HS.out (by rw [HC.out]; rfl)⟩, by simp [intOf]; omega⟩
        | false =>
          rw [hl] at HLk HC
          cases hd : digitB s[k] with
          | true =>
            rw [hd] at HDk HC
            go_wp2_with fail
            refine (HLk.out _).mono ?_
            rintro e w1 ⟨rfl, rfl⟩
            go_wp2_with fail
            refine (HDk.out _).mono ?_
            rintro e w1 ⟨rfl, rfl⟩
            go_wp2_with fail
            exact ⟨⟨k + 1, by omega, by omega, by go_num, HS.out (by rw [HC.out]; rfl)⟩, by simp [intOf]; omega⟩
          | false =>
            rw [hd] at HDk HC
            cases hu : ((s[k].toNat : Nat) : Int) == (95 : Int) with
            | true =>
              rw [hu] at HC
              go_wp2_with fail
              refine (HLk.out _).mono ?_
              rintro e w1 ⟨rfl, rfl⟩
              go_wp2_with fail
              refine (HDk.out _).mono ?_
              rintro e w1 ⟨rfl, rfl⟩
              go_wp2_with fail
              exact ⟨⟨k + 1, by omega, by omega, by go_num, HS.out (by rw [HC.out]; rfl)⟩, by simp [intOf]; omega⟩
            | false =>
              rw [hu] at HC
              have hkM := HE.out (by rw [HC.out]; rfl)
              clear HE HS HC
              subst hkM
              go_wp2_with fail
              refine (HLk.out _).mono ?_
              rintro e w1 ⟨rfl, rfl⟩
              go_wp2_with fail
              refine (HDk.out _).mono ?_
              rintro e w1 ⟨rfl, rfl⟩
              go_wp2_with fail
              exact bodyPost_ret (v := .tuple #[.agg #[.int .u8 1, .string (s.extract a k), .int .i64 0, .int .i64 (a : Nat)], .int .i64 0]) (by simp [results, Tryz.results109, go_sem]) rfl ⟨by rw [HT.out]; rfl, bel2 _ _ _⟩
      · have hkM := tw_stop (p := innerB) (k := k) (fun h => absurd h hlt) HK.out
        clear HK
        subst hkM
        go_wp2_with fail
        exact bodyPost_ret (v := .tuple #[.agg #[.int .u8 1, .string (s.extract a k), .int .i64 0, .int .i64 (a : Nat)], .int .i64 0]) (by simp [results, Tryz.results109, go_sem]) rfl ⟨by rw [HT.out]; rfl, bel2 _ _ _⟩
end Go.Proofs.YtgoejmheihgpfaaGreatDoor
