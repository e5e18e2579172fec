/-
  package outbox: get, Head, Tried, Done, Dead, Letters at nil.
-/
import Derived.Test.YtcohbfabcdjefaaGreatDoorEy
namespace Go.Proofs.YtcohbfabcdjefaaGreatDoor
open Go.RowKit Go.Maps

theorem by8_small (n k : Nat) (h : n < 256) : by8 n k = if k = 0 then n else 0 := by
  unfold by8
  by_cases hk : k = 0
  · subst hk; rw [if_pos rfl]; simp; omega
  · rw [if_neg hk]
    have : (256 : Nat) ≤ 2 ^ (8 * k) := by
      have := Nat.pow_le_pow_right (n := 2) (by omega) (show 8 ≤ 8 * k by omega)
      simpa using this
    rw [Nat.div_eq_of_lt (by omega)]
theorem ostep (n k : Nat) (h : n < 256) : bits BinOp.or IntKind.u64 ((if k = 0 then 0 else n : Nat) : Int) (IntKind.u64.wrap (IntKind.u64.wrap ((by8 n k : Nat) : Int) * 2 ^ (8 * k))) = ((n : Nat) : Int) := by
  have hw : ∀ m : Int, 0 ≤ m → m < 2 ^ 64 → IntKind.u64.wrap m = m := fun m h0 h1 => by rw [IntKind.wrap_u64]; omega
  rw [by8_small n k h]
  by_cases hk : k = 0
  · subst hk
    simp only [if_pos, Nat.mul_zero, Int.pow_zero, Int.mul_one]
    rw [hw (n : Int) (by omega) (by omega), hw (n : Int) (by omega) (by omega)]
    have := or_low .u64 64 (by decide) hw 0 0 n (by decide) (by omega) (by decide)
    simpa using this
  · rw [if_neg hk, if_neg hk]
    rw [show ((0 : Nat) : Int) = 0 from rfl, hw 0 (by omega) (by omega), Int.zero_mul, hw 0 (by omega) (by omega)]
    have := or_low .u64 64 (by decide) hw 8 n 0 (by omega) (by decide) (by omega)
    simpa using this
set_option maxRecDepth 100000 in
theorem oget_any (w : World) (s : ByteArray) (n : Nat) (h1 : n < 256) (hs : s.size ≤ 1000000) (hi : 8 ≤ s.size) (h : ∀ k, k < 8 → (h2 : k < s.size) → s[k].toNat = by8 n k) : Calls Tryz.prog 31 #[.string s] w fun e w' => e = .returned (.int .u64 n) ∧ w = w' := by
  have HH := Lib.hid h
  clear h
  go_enter Tryz.func31, Tryz.ntmps31
  go_wp2_with fail
  go_loop [3, 5] (fun x m => ∃ k : Nat, k ≤ 8 ∧ m = .int .i64 k ∧ x = .int .u64 ((if k = 0 then 0 else n : Nat) : Int)) (fun _ m => 8 - (intOf m).toNat)
  case atStart => exact ⟨0, by omega, rfl, rfl⟩
  case round =>
    obtain ⟨k, hk, rfl, rfl⟩ := hrel
    by_cases hlt : k < 8
    · have hix : k < s.size := by omega
      have hby := HH.out k hlt hix
      have HO := Lib.hid (ostep n k h1)
      go_wp2_with fail
      exact ⟨⟨k + 1, by omega, by go_num, by rw [HO.out]; rfl⟩, by simp [intOf]; omega⟩
    · have : k = 8 := by omega
      subst this
      go_wp2_with fail
      go_ret
      exact ⟨rfl, rfl⟩
variable {A B : Nat} {w : World} {tb db : Nat} {M : List It} {logged n z : Nat}
theorem ext_right (a b : ByteArray) (k : Nat) (hk : k = a.size) : (a ++ b).extract k (a ++ b).size = b := by
  subst hk
  refine ba_ext ?_
  have e1 : List.drop a.size a.data.toList = [] := List.drop_eq_nil_of_le (by rw [len_list]; exact Nat.le_refl _)
  have e2 : List.take b.size b.data.toList = b.data.toList := List.take_of_length_le (by rw [len_list]; exact Nat.le_refl _)
  simp [e1, e2]
theorem valB_16 (t d : Nat) (txt : ByteArray) : (valB t d txt).extract 16 (valB t d txt).size = txt := by
  unfold valB; exact ext_right _ _ 16 (by rw [ByteArray.size_append, bA_size, bA_size, le8_len, le8_len])
theorem valB_8 (t d : Nat) (txt : ByteArray) : (valB t d txt).extract 8 (valB t d txt).size = bA (le8 d) ++ txt := by
  unfold valB; rw [ByteArray.append_assoc]; exact ext_right _ _ 8 (by rw [bA_size, le8_len])
theorem le8_bytes (n : Nat) (r : ByteArray) : ∀ k, k < 8 → (h2 : k < (bA (le8 n) ++ r).size) → (bA (le8 n) ++ r)[k].toNat = by8 n k := fun k hk h2 => by
  have e : (bA (le8 n) ++ r).data.toList[k]? = some (UInt8.ofNat (by8 n k)) := by
    rw [app_list, List.getElem?_append_left (by rw [bA_list, le8_len]; exact hk), bA_list, le8_at n k hk]
  have e2 : (bA (le8 n) ++ r).data.toList[k]? = some ((bA (le8 n) ++ r)[k]) := by
    rw [List.getElem?_eq_getElem (by rw [len_list]; exact h2)]; rfl
  rw [e2] at e
  rw [Option.some.inj e, toNat_by8]
/-- what Head answers -/
def headV (seq t d : Nat) (txt : ByteArray) : Value := .tuple #[.agg #[.string txt, .int .u64 seq, .int .i64 t, .int .i64 d], .bool true]
set_option maxRecDepth 100000 in
set_option maxHeartbeats 2000000 in
theorem head_any (h : DbAt A B w tb db M logged n z) (hM : M.length ≤ 1000000) (q a b : Nat) (hq : q < 8) (hH : NumR M (kH q) 1 a) (hT : NumR M (kT q) 0 b) (ha : a < 100) (hb : b < 100) (hab : a ≤ b)
    (t d : Nat) (txt : ByteArray) (ht : t < 256) (hd : d < 256) (htx : txt.size ≤ 16368) (hI : getL M (kI q a) = some ⟨kI q a, valB t d txt, false⟩) :
    Calls Tryz.prog 13 #[.pointer (some ⟨tb, 0, none⟩), .int .i64 q] w fun e w' => e = .returned (headV a t d txt) ∧ Below w.heap.size w w' := by
  have HC := Lib.hid (fun W (hW : Below w.heap.size w W) => count_any (h.below hW) hM q a b hq hH hT (by omega) (by omega))
  have HE := Lib.hid (fun W (hW : Below w.heap.size w W) => ends_any (h.below hW) hM q a b hq hH hT)
  have HK := Lib.hid (fun W => ikey_any q a hq ha W)
  have HG := Lib.hid (fun W (hW : Below w.heap.size w W) => tget_any (h.below hW) (kI q a) hM)
  rw [hI] at HG
  simp only [askV, Bool.not_false] at HG
  have g1 : ((cntN a b : Nat) : Int) ≠ 0 := by unfold cntN; rw [if_neg (by omega)]; omega
  have g2 : ((cntN a b : Int) == 0) = false := by simpa using g1
  have hvs := valB_size t d txt
  have h16 := valB_16 t d txt
  have h8 := valB_8 t d txt
  have g3 : ¬ ((valB t d txt).size : Int) < 16 := by omega
  have hO1 := Lib.hid (fun W => oget_any W (valB t d txt) t ht (by omega) (by omega) (by
    have e : valB t d txt = bA (le8 t) ++ (bA (le8 d) ++ txt) := by unfold valB; rw [ByteArray.append_assoc]
    rw [e]; exact le8_bytes t _))
  have hO2 := Lib.hid (fun W => oget_any W (bA (le8 d) ++ txt) d hd (by rw [ByteArray.size_append, bA_size, le8_len]; omega) (by rw [ByteArray.size_append, bA_size, le8_len]; omega) (le8_bytes d _))
  generalize bA (le8 d) ++ txt = v8 at *
  generalize valB t d txt = v at *
  generalize kI q a = ki at *
  generalize cntN a b = c at *
  unfold headV
  have hva : (16 : Int) ≤ (v.size : Int) := by omega
  have hvb : (8 : Int) ≤ (v.size : Int) := by omega
  have hvc : v.size ≤ 16384 := by omega
  have hvd : 16 ≤ v.size := by omega
  have hve : 8 ≤ v.size := by omega
  have w1 : IntKind.i64.wrap (t : Int) = (t : Int) := by rw [IntKind.wrap_i64]; omega
  have w2 : IntKind.i64.wrap (d : Int) = (d : Int) := by rw [IntKind.wrap_i64]; omega
  clear h hH hT hI g1 hvs
  go_enter Tryz.func13, Tryz.ntmps13
  go_wp2_with fail
  have HB0 := Lib.hid (bl1 w (.cells #[.string ⟨#[]⟩, .int .u64 0, .int .i64 0, .int .i64 0] 43))
  have hn1 := heap_alloc_new w (.cells #[.string ⟨#[]⟩, .int .u64 0, .int .i64 0, .int .i64 0] 43 (0, 0))
  refine (HC.out _ HB0.out).mono ?_
  rintro e w2 ⟨rfl, hb2⟩
  have hn2 : w2.heap[w.heap.size]? = some (.cells #[.string ⟨#[]⟩, .int .u64 0, .int .i64 0, .int .i64 0] 43 (0, 0)) := (hb2.block _ (heap_lt hn1)).trans hn1
  have HB2 := Lib.hid (HB0.out.trans (hb2.mono HB0.out.size))
  clear hb2 hn1 HB0
  go_wp2_with fail
  refine (HE.out _ HB2.out).mono ?_
  rintro e w3 ⟨rfl, hb3⟩
  have hn3 : w3.heap[w.heap.size]? = some (.cells #[.string ⟨#[]⟩, .int .u64 0, .int .i64 0, .int .i64 0] 43 (0, 0)) := (hb3.block _ (heap_lt hn2)).trans hn2
  have HB3 := Lib.hid (HB2.out.trans (hb3.mono HB2.out.size))
  clear hb3 hn2 HB2
  go_wp2_with fail
  refine (HK.out _).mono ?_
  rintro e w4 ⟨rfl, hb4⟩
  have hn4 : w4.heap[w.heap.size]? = some (.cells #[.string ⟨#[]⟩, .int .u64 0, .int .i64 0, .int .i64 0] 43 (0, 0)) := (hb4.block _ (heap_lt hn3)).trans hn3
  have HB4 := Lib.hid (HB3.out.trans (hb4.mono HB3.out.size))
  clear hb4 hn3 HB3
  go_wp2_with fail
  refine (HG.out _ HB4.out).mono ?_
  rintro e w5 ⟨rfl, hb5⟩
  have hn5 : w5.heap[w.heap.size]? = some (.cells #[.string ⟨#[]⟩, .int .u64 0, .int .i64 0, .int .i64 0] 43 (0, 0)) := (hb5.block _ (heap_lt hn4)).trans hn4
  have HB5 := Lib.hid (HB4.out.trans (hb5.mono HB4.out.size))
  clear hb5 hn4 HB4
  have f0 : w5.cell? ⟨w.heap.size, 0, none⟩ = some (.string ⟨#[]⟩) := by simp [World.cell?, hn5]
  have f1 : w5.cell? ⟨w.heap.size, 1, none⟩ = some (.int .u64 0) := by simp [World.cell?, hn5]
  have f2 : w5.cell? ⟨w.heap.size, 2, none⟩ = some (.int .i64 0) := by simp [World.cell?, hn5]
  have f3 : w5.cell? ⟨w.heap.size, 3, none⟩ = some (.int .i64 0) := by simp [World.cell?, hn5]
  have z0 : w5.frozen? ⟨w.heap.size, 0, none⟩ = false := by simp [World.frozen?, hn5]
  have z1 : w5.frozen? ⟨w.heap.size, 1, none⟩ = false := by simp [World.frozen?, hn5]
  have z2 : w5.frozen? ⟨w.heap.size, 2, none⟩ = false := by simp [World.frozen?, hn5]
  have z3 : w5.frozen? ⟨w.heap.size, 3, none⟩ = false := by simp [World.frozen?, hn5]
  go_wp2_with fail
  go_region_held3 (fun _ => True) (trivial)
    (first
      | (go_at_call 31; ((with_reducible refine (hO1.out w5.drew).mono ?_); rintro e w6 ⟨rfl, rfl⟩))
      | (go_at_call 31; ((with_reducible refine (hO2.out w5.drew).mono ?_); rintro e w6 ⟨rfl, rfl⟩)))
  all_goals
    go_wp2_with fail
    obtain ⟨WF, hWF⟩ : ∃ WF, WF = ((((w5.setCell ⟨w.heap.size, 0, none⟩ (.string txt)).setCell ⟨w.heap.size, 1, none⟩ (.int .u64 a)).setCell ⟨w.heap.size, 2, none⟩ (.int .i64 t)).setCell ⟨w.heap.size, 3, none⟩ (.int .i64 d)).drew := ⟨_, rfl⟩
    have hF : WF.heap[w.heap.size]? = some (.cells #[.string txt, .int .u64 a, .int .i64 t, .int .i64 d] 43 (0, 0)) := by
      rw [hWF]
      exact heap_setCell_same _ _ _ _ _ _ (heap_setCell_same _ _ _ _ _ _ (heap_setCell_same _ _ _ _ _ _ (heap_setCell_same _ _ _ _ _ _ hn5)))
    have HBF := Lib.hid (show Below w.heap.size w WF by rw [hWF]; exact ((((HB5.out.setCell (p := ⟨w.heap.size, 0, none⟩) (Nat.le_refl _) _).setCell (p := ⟨w.heap.size, 1, none⟩) (Nat.le_refl _) _).setCell (p := ⟨w.heap.size, 2, none⟩) (Nat.le_refl _) _).setCell (p := ⟨w.heap.size, 3, none⟩) (Nat.le_refl _) _).drew)
    rw [← hWF]
    clear hWF
    have c0 : WF.cell? ⟨w.heap.size, 0, none⟩ = some (.string txt) := by simp [World.cell?, hF]
    have c1 : WF.cell? ⟨w.heap.size, 1, none⟩ = some (.int .u64 a) := by simp [World.cell?, hF]
    have c2 : WF.cell? ⟨w.heap.size, 2, none⟩ = some (.int .i64 t) := by simp [World.cell?, hF]
    have c3 : WF.cell? ⟨w.heap.size, 3, none⟩ = some (.int .i64 d) := by simp [World.cell?, hF]
    exact bodyPost_ret (v := .tuple #[.agg #[.string txt, .int .u64 a, .int .i64 t, .int .i64 d], .bool true]) (by simp [results, Tryz.results13, go_sem, c0, c1, c2, c3]) rfl ⟨rfl, HBF.out⟩
def noItem : Value := .agg #[.string ⟨#[]⟩, .int .u64 0, .int .i64 0, .int .i64 0]
theorem head_nil (w : World) (q : Int) : Calls Tryz.prog 13 #[.pointer none, .int .i64 q] w fun e w' => e = .returned (.tuple #[noItem, .bool false]) ∧ Below w.heap.size w w' := by
  have HB0 := Lib.hid (bl1 w (.cells #[.string ⟨#[]⟩, .int .u64 0, .int .i64 0, .int .i64 0] 43))
  have hn := heap_alloc_new w (.cells #[.string ⟨#[]⟩, .int .u64 0, .int .i64 0, .int .i64 0] 43 (0, 0))
  go_enter Tryz.func13, Tryz.ntmps13
  go_wp2_with fail
  refine (count_nil _ _).mono ?_
  rintro e w1 ⟨rfl, rfl⟩
  obtain ⟨w1, hw1⟩ : ∃ w1, w1 = w.alloc (.cells #[.string ⟨#[]⟩, .int .u64 0, .int .i64 0, .int .i64 0] 43 (0, 0)) := ⟨_, rfl⟩
  rw [← hw1] at hn HB0 ⊢
  clear hw1
  have f0 : w1.cell? ⟨w.heap.size, 0, none⟩ = some (.string ⟨#[]⟩) := by simp [World.cell?, hn]
  have f1 : w1.cell? ⟨w.heap.size, 1, none⟩ = some (.int .u64 0) := by simp [World.cell?, hn]
  have f2 : w1.cell? ⟨w.heap.size, 2, none⟩ = some (.int .i64 0) := by simp [World.cell?, hn]
  have f3 : w1.cell? ⟨w.heap.size, 3, none⟩ = some (.int .i64 0) := by simp [World.cell?, hn]
  have zz : ∀ j, w1.frozen? ⟨w.heap.size, j, none⟩ = false := fun j => by simp [World.frozen?, hn]
  go_wp2_with fail
  exact bodyPost_ret (v := .tuple #[noItem, .bool false]) (by simp [results, Tryz.results13, go_sem, noItem, f0, f1, f2, f3]) rfl ⟨rfl, (((HB0.out.setCell (p := ⟨w.heap.size, 0, none⟩) (Nat.le_refl _) _).setCell (p := ⟨w.heap.size, 1, none⟩) (Nat.le_refl _) _).setCell (p := ⟨w.heap.size, 2, none⟩) (Nat.le_refl _) _).setCell (p := ⟨w.heap.size, 3, none⟩) (Nat.le_refl _) _⟩
theorem tried_nil (w : World) (q due : Int) : Calls Tryz.prog 14 #[.pointer none, .int .i64 q, .int .i64 due] w fun e w' => e = .returned (.slice none 0 0) ∧ Below w.heap.size w w' := by
  have HH := Lib.hid (head_nil w q)
  unfold noItem at HH
  go_enter Tryz.func14, Tryz.ntmps14
  go_wp2_with fail
  refine HH.out.mono ?_
  rintro e w1 ⟨rfl, hb⟩
  have HB := Lib.hid hb
  clear hb
  go_wp2_with fail
  go_ret
  exact ⟨rfl, HB.out.alloc HB.out.size _⟩
theorem done_nil (w : World) (q : Int) (s : Int) : Calls Tryz.prog 15 #[.pointer none, .int .i64 q, .int .u64 s] w fun e w' => e = .returned (.slice none 0 0) ∧ Below w.heap.size w w' := by
  have HH := Lib.hid (head_nil w q)
  unfold noItem at HH
  go_enter Tryz.func15, Tryz.ntmps15
  go_wp2_with fail
  refine HH.out.mono ?_
  rintro e w1 ⟨rfl, hb⟩
  have HB := Lib.hid hb
  clear hb
  go_wp2_with fail
  go_ret
  exact ⟨rfl, HB.out.alloc HB.out.size _⟩
theorem dead_nil (w : World) (q : Int) : Calls Tryz.prog 16 #[.pointer none, .int .i64 q] w fun e w' => e = .returned (.slice none 0 0) ∧ Below w.heap.size w w' := by
  have HH := Lib.hid (head_nil w q)
  unfold noItem at HH
  go_enter Tryz.func16, Tryz.ntmps16
  go_wp2_with fail
  refine HH.out.mono ?_
  rintro e w1 ⟨rfl, hb⟩
  have HB := Lib.hid hb
  clear hb
  go_wp2_with fail
  go_ret
  exact ⟨rfl, HB.out.alloc HB.out.size _⟩
end Go.Proofs.YtcohbfabcdjefaaGreatDoor
