/-
  'named', 'file'.
-/
import Derived.Test.YtkpoecofblhggaaGreatDoorNa
import Derived.Test.YtkpoecofblhggaaGreatDoorSh
import Derived.Test.YtkpoecofblhggaaGreatDoorIn
import Derived.StillTailTactics
namespace Go.Proofs.YtkpoecofblhggaaGreatDoor
open Go.RowKit Go.Maps

def lowc (c : UInt8) : Bool := decide (97 ≤ c.toNat) && decide (c.toNat ≤ 122)
theorem logOk_all (s : ByteArray) (h : ∀ (j : Nat) (h : j < s.size), lowc s[j] = true) : logOk s.data.toList = (decide (0 < s.size) && decide (s.size ≤ 12)) := by
  have hall : s.data.toList.all (fun c => decide (97 ≤ c.toNat) && decide (c.toNat ≤ 122)) = true := by
    rw [List.all_eq_true]
    intro x hx
    obtain ⟨j, hj, rfl⟩ := List.getElem_of_mem hx
    have := h j (by simpa using hj)
    simp only [Array.getElem_toList]
    exact this
  simp only [logOk, hall, Bool.true_and, Array.length_toList]
  rfl
theorem logOk_bad (s : ByteArray) (k : Nat) (hk : k < s.size) (h : lowc s[k] = false) : logOk s.data.toList = false := by
  have hall : s.data.toList.all (fun c => decide (97 ≤ c.toNat) && decide (c.toNat ≤ 122)) = false := by
    rw [List.all_eq_false]
    refine ⟨s[k], ?_, by
      show ¬ lowc s[k] = true
      rw [h]; decide⟩
    exact List.mem_iff_getElem.2 ⟨k, by simpa using hk, by simp; rfl⟩
  simp [logOk, hall]
theorem lowc_iff (c : UInt8) : lowc c = true ↔ 97 ≤ (c.toNat : Int) ∧ (c.toNat : Int) ≤ 122 := by
  unfold lowc; simp only [Bool.and_eq_true, decide_eq_true_eq]; omega
theorem lowc_not (c : UInt8) (h : (c.toNat : Int) < 97 ∨ 122 < (c.toNat : Int)) : lowc c = false := by
  rw [Bool.eq_false_iff]; intro h2; have := (lowc_iff c).1 h2; omega

set_option maxHeartbeats 400000 in
theorem wnamed_any (s : ByteArray) (w : World) (hs : s.size ≤ maxLen) :
    Calls Tryz.prog 25 #[.string s] w fun e w' => e = .returned (.bool (logOk s.data.toList)) ∧ w = w' := by
  unfold maxLen at hs
  go_enter Tryz.func25, Tryz.ntmps25
  go_wp2
  go_loop [6] (fun i => ∃ k : Nat, k ≤ s.size ∧ i = .int .i64 k ∧ Hid (∀ (j : Nat) (h : j < s.size), j < k → lowc s[j] = true)) (fun i => s.size - (intOf i).toNat)
  case atStart => exact ⟨0, Nat.zero_le _, rfl, fun j _ h => by omega⟩
  case round =>
    obtain ⟨k, hk, rfl, HA⟩ := hrel
    by_cases hlt : k < s.size
    · have step : lowc s[k] = true → Hid (∀ (j : Nat) (h : j < s.size), j < k + 1 → lowc s[j] = true) := fun hok j hj hjk => by
        by_cases e : j = k
        · subst e; exact hok
        · exact HA.out j hj (by omega)
      have HS := Lib.hid step
      have HB := Lib.hid (logOk_bad s k hlt)
      have HI := Lib.hid (lowc_iff s[k])
      have HN := Lib.hid (lowc_not s[k])
      clear step HA
      go_wp2
      all_goals first
        | (go_ret
           refine ⟨ret_bool (HB.out (HN.out ?_)).symm, rfl⟩
           omega)
        | (refine ⟨⟨k + 1, by omega, by go_num, HS.out (HI.out.2 ?_)⟩, by simp [intOf]; omega⟩
           omega)
    · have hk' : k = s.size := by omega
      have hn := logOk_all s (fun j hj => HA.out j hj (by omega))
      have HN := Lib.hid hn
      clear hn HA hk'
      go_wp2
      all_goals
        go_ret
        refine ⟨ret_bool ?_, rfl⟩
        rw [HN.out]
        clear HN
        go_tidy
        first | (simp [*]; done) | (simp [*]; omega)
theorem dec_small : ∀ k, k < 100 → Lib.decDigits k = if k < 10 then [UInt8.ofNat (48 + k)] else dig2 k := fun k hk => by
  rw [Lib.decDigits]
  split
  · rfl
  · rw [Lib.decDigits, dif_pos (by omega)]
    unfold dig2
    rw [Nat.mod_eq_of_lt (show k / 10 < 10 by omega)]
    rfl
theorem rep10 : Lib.repeatL [48] 10 = [48, 48, 48, 48, 48, 48, 48, 48, 48, 48] := by decide
theorem rep11 : Lib.repeatL [48] 11 = [48, 48, 48, 48, 48, 48, 48, 48, 48, 48, 48] := by decide
theorem dig_low : ∀ k, k < 10 → num12 k = [48, 48, 48, 48, 48, 48, 48, 48, 48, 48, 48] ++ [UInt8.ofNat (48 + k)] := by decide
set_option maxRecDepth 100000 in
theorem file_any (log : ByteArray) (k : Nat) (n : Int) (hn : n = (k : Nat)) (hk : k < 100) (hl : log.size ≤ 1000) (w : World) : Calls Tryz.prog 36 #[.string log, .int .i64 n] w fun e w' => e = .returned (.string (fileB log k)) ∧ Below w.heap.size w w' := by
  subst hn
  have HI := Lib.hid (fun W => Tryz.strconv_Itoa_small k hk W)
  have g1 : ¬ 9223372036854775807 < log.size + 1 := by omega
  by_cases h10 : k < 10
  · have hd : (⟨(Lib.decDigits k).toArray⟩ : ByteArray) = bA [UInt8.ofNat (48 + k)] := by rw [dec_small k hk, if_pos h10]; rfl
    have hsz : (bA [UInt8.ofNat (48 + k)]).size = 1 := rfl
    have HR := Lib.hid (fun W => Tryz.strings_Repeat_main ⟨#[48]⟩ 11 W (by decide) (by decide) (by decide) (by decide))
    have hr : (⟨(Lib.repeatL (⟨#[48]⟩ : ByteArray).data.toList 11).toArray⟩ : ByteArray) = bA [48, 48, 48, 48, 48, 48, 48, 48, 48, 48, 48] := by show (⟨(Lib.repeatL [48] 11).toArray⟩ : ByteArray) = _; rw [rep11]; rfl
    have HF := Lib.hid (show log ++ (⟨#[46]⟩ : ByteArray) ++ bA [48, 48, 48, 48, 48, 48, 48, 48, 48, 48, 48] ++ bA [UInt8.ofNat (48 + k)] = fileB log k from ba_ext (by
      rw [app_list, app_list, app_list, fileB_list, fileL, dig_low k h10, preL]
      simp only [List.append_assoc]
      rfl))
    have hsz2 : (bA [48, 48, 48, 48, 48, 48, 48, 48, 48, 48, 48]).size = 11 := rfl
    rw [hd] at HI
    rw [hr, show (((11 : Nat) : Nat) : Int) = max 11 0 by decide] at HR
    have HS1 := Lib.hid hsz
    have HS2 := Lib.hid hsz2
    generalize bA [UInt8.ofNat (48 + k)] = D at *
    generalize bA [48, 48, 48, 48, 48, 48, 48, 48, 48, 48, 48] = Z at *
    have g2 : ¬ 9223372036854775807 < (log ++ (⟨#[46]⟩ : ByteArray)).size + Z.size := by rw [ByteArray.size_append, hsz2]; show ¬ 9223372036854775807 < log.size + 1 + 11; omega
    have g3 : ¬ 9223372036854775807 < (log ++ (⟨#[46]⟩ : ByteArray) ++ Z).size + D.size := by rw [ByteArray.size_append, ByteArray.size_append, hsz2, hsz]; show ¬ 9223372036854775807 < log.size + 1 + 11 + 1; omega
    clear hd hr h10 hsz2
    go_enter Tryz.func36, Tryz.ntmps36
    go_wp2_with fail
    refine (HI.out _).mono ?_
    rintro e w1 ⟨rfl, rfl⟩
    go_wp2_with fail
    refine (HR.out _).mono ?_
    rintro e w2 ⟨rfl, hb⟩
    have HB := Lib.hid hb
    clear hb
    go_wp2_with fail
    go_ret
    exact ⟨by rw [HF.out]; rfl, HB.out⟩
  · have hd : (⟨(Lib.decDigits k).toArray⟩ : ByteArray) = bA (dig2 k) := by rw [dec_small k hk, if_neg h10]; rfl
    have hsz : (bA (dig2 k)).size = 2 := rfl
    have HR := Lib.hid (fun W => Tryz.strings_Repeat_main ⟨#[48]⟩ 10 W (by decide) (by decide) (by decide) (by decide))
    have hr : (⟨(Lib.repeatL (⟨#[48]⟩ : ByteArray).data.toList 10).toArray⟩ : ByteArray) = bA [48, 48, 48, 48, 48, 48, 48, 48, 48, 48] := by show (⟨(Lib.repeatL [48] 10).toArray⟩ : ByteArray) = _; rw [rep10]; rfl
    have HF := Lib.hid (show log ++ (⟨#[46]⟩ : ByteArray) ++ bA [48, 48, 48, 48, 48, 48, 48, 48, 48, 48] ++ bA (dig2 k) = fileB log k from ba_ext (by
      rw [app_list, app_list, app_list, fileB_list, fileL, num12, preL]
      simp only [List.append_assoc]
      rfl))
    have hsz2 : (bA [48, 48, 48, 48, 48, 48, 48, 48, 48, 48]).size = 10 := rfl
    rw [hd] at HI
    rw [hr, show (((10 : Nat) : Nat) : Int) = max 10 0 by decide] at HR
    have HS1 := Lib.hid hsz
    have HS2 := Lib.hid hsz2
    generalize bA (dig2 k) = D at *
    generalize bA [48, 48, 48, 48, 48, 48, 48, 48, 48, 48] = Z at *
    have g2 : ¬ 9223372036854775807 < (log ++ (⟨#[46]⟩ : ByteArray)).size + Z.size := by rw [ByteArray.size_append, hsz2]; show ¬ 9223372036854775807 < log.size + 1 + 10; omega
    have g3 : ¬ 9223372036854775807 < (log ++ (⟨#[46]⟩ : ByteArray) ++ Z).size + D.size := by rw [ByteArray.size_append, ByteArray.size_append, hsz2, hsz]; show ¬ 9223372036854775807 < log.size + 1 + 10 + 2; omega
    clear hd hr h10 hsz2
    go_enter Tryz.func36, Tryz.ntmps36
    go_wp2_with fail
    refine (HI.out _).mono ?_
    rintro e w1 ⟨rfl, rfl⟩
    go_wp2_with fail
    refine (HR.out _).mono ?_
    rintro e w2 ⟨rfl, hb⟩
    have HB := Lib.hid hb
    clear hb
    go_wp2_with fail
    go_ret
    exact ⟨by rw [HF.out]; rfl, HB.out⟩
end Go.Proofs.YtkpoecofblhggaaGreatDoor
