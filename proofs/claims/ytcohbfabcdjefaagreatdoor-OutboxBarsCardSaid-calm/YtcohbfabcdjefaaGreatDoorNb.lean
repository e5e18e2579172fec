/-
  Joined: Na, Nb.
-/
import Derived.Test.YtcohbfabcdjefaaGreatDoorIn
import Derived.Test.YtcohbfabcdjefaaGreatDoorTc
import Derived.Test.YtcohbfabcdjefaaGreatDoorSh
import Derived.StillTailTactics
namespace Go.Proofs.YtcohbfabcdjefaaGreatDoor
open Go.RowKit Go.Maps

def bA (l : List UInt8) : ByteArray := ⟨l.toArray⟩
theorem bA_list (l : List UInt8) : (bA l).data.toList = l := rfl
theorem bA_size (l : List UInt8) : (bA l).size = l.length := rfl
theorem bA_of (s : ByteArray) : bA s.data.toList = s := ba_ext rfl
/-- the last two digits of a number -/
def dig2 (k : Nat) : List UInt8 := [UInt8.ofNat (48 + k / 10 % 10), UInt8.ofNat (48 + k % 10)]
def num12 (k : Nat) : List UInt8 := [48, 48, 48, 48, 48, 48, 48, 48, 48, 48] ++ dig2 k
def newL : List UInt8 := [110, 101, 119]
def preL (log : ByteArray) : Nm := log.data.toList ++ [46]
def fileL (log : ByteArray) (k : Nat) : Nm := preL log ++ num12 k
def freshL (log : ByteArray) : Nm := preL log ++ newL
def fileB (log : ByteArray) (k : Nat) : ByteArray := bA (fileL log k)
def freshB (log : ByteArray) : ByteArray := bA (freshL log)
theorem fileB_list (log : ByteArray) (k : Nat) : (fileB log k).data.toList = fileL log k := rfl
theorem freshB_list (log : ByteArray) : (freshB log).data.toList = freshL log := rfl
theorem num12_len (k : Nat) : (num12 k).length = 12 := rfl
theorem preL_len (log : ByteArray) : (preL log).length = log.size + 1 := by unfold preL; rw [List.length_append, len_list]; rfl
theorem fileL_len (log : ByteArray) (k : Nat) : (fileL log k).length = log.size + 13 := by unfold fileL; rw [List.length_append, preL_len, num12_len]
theorem freshL_len (log : ByteArray) : (freshL log).length = log.size + 4 := by unfold freshL; rw [List.length_append, preL_len]; rfl
theorem ofNat_inj {a b : Nat} (ha : a < 256) (hb : b < 256) (h : UInt8.ofNat a = UInt8.ofNat b) : a = b := by
  have := congrArg UInt8.toNat h
  rw [UInt8.toNat_ofNat', UInt8.toNat_ofNat'] at this
  omega
theorem num12_inj {a b : Nat} (ha : a < 100) (hb : b < 100) (h : num12 a = num12 b) : a = b := by
  have h2 := List.append_cancel_left h
  unfold dig2 at h2
  injection h2 with h3 h4
  injection h4 with h5 _
  have e1 := ofNat_inj (by omega) (by omega) h3
  have e2 := ofNat_inj (by omega) (by omega) h5
  omega
theorem fileL_inj {log : ByteArray} {a b : Nat} (ha : a < 100) (hb : b < 100) (h : fileL log a = fileL log b) : a = b := num12_inj ha hb (List.append_cancel_left h)
theorem fileL_fresh (log : ByteArray) (k : Nat) : fileL log k ≠ freshL log := fun h => by
  have := congrArg List.length h
  rw [fileL_len, freshL_len] at this; omega
/-- a log's name -/
def logOk (l : List UInt8) : Bool := l.all (fun c => decide (97 ≤ c.toNat) && decide (c.toNat ≤ 122)) && decide (0 < l.length) && decide (l.length ≤ 12)
theorem okc_low {c : UInt8} (h1 : 97 ≤ c.toNat) (h2 : c.toNat ≤ 122) : okc c = true := (okc_iff c).2 (.inl (by omega))
theorem okc_dig : ∀ n, n < 10 → okc (UInt8.ofNat (48 + n)) = true := by decide
theorem name_log {log : ByteArray} (h : logOk log.data.toList = true) {l : List UInt8} (hl : l.all okc = true) (hn : l.length ≤ 19) : nameB (preL log ++ l) = true := by
  unfold logOk at h
  simp only [Bool.and_eq_true, decide_eq_true_eq, List.all_eq_true, len_list] at h
  unfold nameB preL
  simp only [Bool.and_eq_true, decide_eq_true_eq, List.all_append, List.length_append, List.length_cons, List.length_nil]
  refine ⟨⟨⟨⟨?_, by decide⟩, hl⟩, by omega⟩, by rw [len_list]; omega⟩
  rw [List.all_eq_true]
  intro c hc
  exact okc_low (h.1.1 c hc).1 (h.1.1 c hc).2
theorem name_file {log : ByteArray} (h : logOk log.data.toList = true) (k : Nat) : nameB (fileL log k) = true := by
  refine name_log h ?_ (by rw [num12_len]; omega)
  unfold num12 dig2
  simp only [List.all_append, List.all_cons, List.all_nil, Bool.and_true, okc_dig _ (Nat.mod_lt _ (by decide : 0 < 10))]
  decide
theorem name_fresh {log : ByteArray} (h : logOk log.data.toList = true) : nameB (freshL log) = true := name_log h (by decide) (by decide)

/-- a log: its name, the number of its file's first record, that file's length, the older files' numbers, the last record's number -/
structure Lg where
  log : ByteArray
  fr : Nat
  size : Nat
  old : List Nat
  last : Nat
  dead : Bool
abbrev Rs := Int × Dk × Lg
def Lg.nm (x : Lg) : Nm := fileL x.log x.fr
def wholeB (d : Dk) (x : Lg) : Bool := (readE d x.nm == 0) && (((readS d x.nm).size : Int) == x.size)
def offE (d : Dk) (x : Lg) : Int := if x.dead then 7 else if wholeB d x then 0 else 7
def offX (d : Dk) (x : Lg) : Lg := if x.dead then x else if wholeB d x then x else { x with dead := true }
def toldE (e : Int) : Int := if e = 3 then 6 else e
def toldX (e : Int) (x : Lg) : Lg := if e = 7 then { x with dead := true } else x
/-- a new file, whose first record will be k -/
def beginS (d : Dk) (x : Lg) (k : Nat) : Rs :=
  (createE d (fileL x.log k), createD d (fileL x.log k), if createE d (fileL x.log k) = 0 then { x with fr := k, size := 0, last := k - 1 } else x)
def emptyS (d : Dk) (x : Lg) : Rs :=
  if createE d (freshL x.log) = 0 ∨ createE d (freshL x.log) = 5 then
    (renameE (createD d (freshL x.log)) (freshL x.log) x.nm, renameD (createD d (freshL x.log)) (freshL x.log) x.nm, { x with size := 0 })
  else (createE d (freshL x.log), createD d (freshL x.log), x)
def rotateS (d : Dk) (x : Lg) : Rs :=
  if x.last < x.fr then emptyS d x
  else (createE d (fileL x.log (x.last + 1)), createD d (fileL x.log (x.last + 1)),
    if createE d (fileL x.log (x.last + 1)) = 0 then { x with fr := x.last + 1, size := 0, last := x.last, old := x.old ++ [x.fr] } else x)
/-- a 'Sync' of the file, its answer told -/
def syncT (d : Dk) (x : Lg) : Rs := (toldE (syncE d x.nm), syncD d x.nm, toldX (syncE d x.nm) x)
def rotateT (r : Rs) : Rs := (toldE (rotateS r.2.1 r.2.2).1, (rotateS r.2.1 r.2.2).2.1, toldX (rotateS r.2.1 r.2.2).1 (rotateS r.2.1 r.2.2).2.2)
/-- synced, and gone on in a new file -/
def turnS (d : Dk) (x : Lg) : Rs := if (syncT d x).1 = 0 then rotateT (syncT d x) else syncT d x
/-- the record put behind -/
def putS (b : ByteArray) (r : Rs) : Rs :=
  if appendE r.2.1 r.2.2.nm (frame b) = 0 then (0, appendD r.2.1 r.2.2.nm (frame b), { r.2.2 with size := r.2.2.size + (frame b).size, last := r.2.2.last + 1 })
  else (toldE (appendE r.2.1 r.2.2.nm (frame b)), appendD r.2.1 r.2.2.nm (frame b), toldX (appendE r.2.1 r.2.2.nm (frame b)) r.2.2)
/-- 'Append' of a body that is not too long, to a log that is not off -/
def addS (d : Dk) (x : Lg) (b : ByteArray) : Rs :=
  if 16384 ≤ x.size then (if (turnS d x).1 = 0 then putS b (turnS d x) else turnS d x) else putS b (0, d, x)
def appendS (d : Dk) (x : Lg) (b : ByteArray) : Rs :=
  if 65536 < b.size then (3, d, x) else if offE d x = 0 then addS d (offX d x) b else (offE d x, d, offX d x)
/-- the number that 'Append' answers -/
def appendN (d : Dk) (x : Lg) (b : ByteArray) : Int := if (appendS d x b).1 = 0 then (appendS d x b).2.2.last else 0
def syncS (d : Dk) (x : Lg) : Rs := if offE d x = 0 then syncT d (offX d x) else (offE d x, d, offX d x)
/-- the files whose records are all at most n go -/
def goS (n : Int) : Nat → Dk → Lg → Rs
  | 0, d, x => (0, d, x)
  | k + 1, d, x => match x.old with
    | [] => (0, d, x)
    | f :: r =>
      if n < ((r.headD x.fr : Nat) : Int) - 1 then (0, d, x)
      else if removeE d (fileL x.log f) = 0 then goS n k (removeD d (fileL x.log f)) { x with old := r }
      else (toldE (removeE d (fileL x.log f)), removeD d (fileL x.log f), toldX (removeE d (fileL x.log f)) x)
def dropS (d : Dk) (x : Lg) (n : Int) : Rs :=
  if offE d x = 0 then
    (if (x.last : Int) ≤ n ∧ x.fr ≤ x.last then (if (turnS d (offX d x)).1 = 0 then goS n (turnS d (offX d x)).2.2.old.length (turnS d (offX d x)).2.1 (turnS d (offX d x)).2.2 else turnS d (offX d x))
     else goS n (offX d x).old.length d (offX d x))
  else (offE d x, d, offX d x)
end Go.Proofs.YtcohbfabcdjefaaGreatDoor
namespace Go.Proofs.YtcohbfabcdjefaaGreatDoor
open Go.RowKit Go.Maps

def lowc (c : UInt8) : Bool := decide (97 ≤ c.toNat) && decide (c.toNat ≤ 122)
theorem logOk_all (s : ByteArray) (h : ∀ (j : Nat) (h : j < s.size), lowc s[j] = true) : logOk s.data.toList = (decide (0 < s.size) && decide (s.size ≤ 12)) := by
  have hall : s.data.toList.all (fun c => decide (97 ≤ c.toNat) && decide (c.toNat ≤ 122)) = true := by
    rw [List.all_eq_true]
    intro x hx
    obtain ⟨j, hj, rfl⟩ := List.getElem_of_mem hx
    have := h j (by simpa using hj)
    simp only [Array.getElem_toList]
    exact this
  simp only [logOk, hall, Bool.true_and, Array.length_toList]
  rfl
theorem logOk_bad (s : ByteArray) (k : Nat) (hk : k < s.size) (h : lowc s[k] = false) : logOk s.data.toList = false := by
  have hall : s.data.toList.all (fun c => decide (97 ≤ c.toNat) && decide (c.toNat ≤ 122)) = false := by
    rw [List.all_eq_false]
    refine ⟨s[k], ?_, by
      show ¬ lowc s[k] = true
      rw [h]; decide⟩
    exact List.mem_iff_getElem.2 ⟨k, by simpa using hk, by simp; rfl⟩
  simp [logOk, hall]
theorem lowc_iff (c : UInt8) : lowc c = true ↔ 97 ≤ (c.toNat : Int) ∧ (c.toNat : Int) ≤ 122 := by
  unfold lowc; simp only [Bool.and_eq_true, decide_eq_true_eq]; omega
theorem lowc_not (c : UInt8) (h : (c.toNat : Int) < 97 ∨ 122 < (c.toNat : Int)) : lowc c = false := by
  rw [Bool.eq_false_iff]; intro h2; have := (lowc_iff c).1 h2; omega

set_option maxHeartbeats 400000 in
theorem wnamed_any (s : ByteArray) (w : World) (hs : s.size ≤ maxLen) :
    Calls Tryz.prog 85 #[.string s] w fun e w' => e = .returned (.bool (logOk s.data.toList)) ∧ w = w' := by
  unfold maxLen at hs
  go_enter Tryz.func85, Tryz.ntmps85
  go_wp2
  go_loop [6] (fun i => ∃ k : Nat, k ≤ s.size ∧ i = .int .i64 k ∧ Hid (∀ (j : Nat) (h : j < s.size), j < k → lowc s[j] = true)) (fun i => s.size - (intOf i).toNat)
  case atStart => exact ⟨0, Nat.zero_le _, rfl, fun j _ h => by omega⟩
  case round =>
    obtain ⟨k, hk, rfl, HA⟩ := hrel
    by_cases hlt : k < s.size
    · have step : lowc s[k] = true → Hid (∀ (j : Nat) (h : j < s.size), j < k + 1 → lowc s[j] = true) := fun hok j hj hjk => by
        by_cases e : j = k
        · subst e; exact hok
        · exact HA.out j hj (by omega)
      have HS := Lib.hid step
      have HB := Lib.hid (logOk_bad s k hlt)
      have HI := Lib.hid (lowc_iff s[k])
      have HN := Lib.hid (lowc_not s[k])
      clear step HA
      go_wp2
      all_goals first
        | (go_ret
           refine ⟨ret_bool (HB.out (HN.out ?_)).symm, rfl⟩
           omega)
        | (refine ⟨⟨k + 1, by omega, by go_num, HS.out (HI.out.2 ?_)⟩, by simp [intOf]; omega⟩
           omega)
    · have hk' : k = s.size := by omega
      have hn := logOk_all s (fun j hj => HA.out j hj (by omega))
      have HN := Lib.hid hn
      clear hn HA hk'
      go_wp2
      all_goals
        go_ret
        refine ⟨ret_bool ?_, rfl⟩
        rw [HN.out]
        clear HN
        go_tidy
        first | (simp [*]; done) | (simp [*]; omega)
theorem dec_small : ∀ k, k < 100 → Lib.decDigits k = if k < 10 then [UInt8.ofNat (48 + k)] else dig2 k := fun k hk => by
  rw [Lib.decDigits]
  split
  · rfl
  · rw [Lib.decDigits, dif_pos (by omega)]
    unfold dig2
    rw [Nat.mod_eq_of_lt (show k / 10 < 10 by omega)]
    rfl
theorem rep10 : Lib.repeatL [48] 10 = [48, 48, 48, 48, 48, 48, 48, 48, 48, 48] := by decide
theorem rep11 : Lib.repeatL [48] 11 = [48, 48, 48, 48, 48, 48, 48, 48, 48, 48, 48] := by decide
theorem dig_low : ∀ k, k < 10 → num12 k = [48, 48, 48, 48, 48, 48, 48, 48, 48, 48, 48] ++ [UInt8.ofNat (48 + k)] := by decide
set_option maxRecDepth 100000 in
theorem file_any (log : ByteArray) (k : Nat) (n : Int) (hn : n = (k : Nat)) (hk : k < 100) (hl : log.size ≤ 1000) (w : World) : Calls Tryz.prog 148 #[.string log, .int .i64 n] w fun e w' => e = .returned (.string (fileB log k)) ∧ Below w.heap.size w w' := by
  subst hn
  have HI := Lib.hid (fun W => Tryz.strconv_Itoa_small k hk W)
  have g1 : ¬ 9223372036854775807 < log.size + 1 := by omega
  by_cases h10 : k < 10
  · have hd : (⟨(Lib.decDigits k).toArray⟩ : ByteArray) = bA [UInt8.ofNat (48 + k)] := by rw [dec_small k hk, if_pos h10]; rfl
    have hsz : (bA [UInt8.ofNat (48 + k)]).size = 1 := rfl
    have HR := Lib.hid (fun W => Tryz.strings_Repeat_main ⟨#[48]⟩ 11 W (by decide) (by decide) (by decide) (by decide))
    have hr : (⟨(Lib.repeatL (⟨#[48]⟩ : ByteArray).data.toList 11).toArray⟩ : ByteArray) = bA [48, 48, 48, 48, 48, 48, 48, 48, 48, 48, 48] := by show (⟨(Lib.repeatL [48] 11).toArray⟩ : ByteArray) = _; rw [rep11]; rfl
    have HF := Lib.hid (show log ++ (⟨#[46]⟩ : ByteArray) ++ bA [48, 48, 48, 48, 48, 48, 48, 48, 48, 48, 48] ++ bA [UInt8.ofNat (48 + k)] = fileB log k from ba_ext (by
      rw [app_list, app_list, app_list, fileB_list, fileL, dig_low k h10, preL]
      simp only [List.append_assoc]
      rfl))
    have hsz2 : (bA [48, 48, 48, 48, 48, 48, 48, 48, 48, 48, 48]).size = 11 := rfl
    rw [hd] at HI
    rw [hr, show (((11 : Nat) : Nat) : Int) = max 11 0 by decide] at HR
    have HS1 := Lib.hid hsz
    have HS2 := Lib.hid hsz2
    generalize bA [UInt8.ofNat (48 + k)] = D at *
    generalize bA [48, 48, 48, 48, 48, 48, 48, 48, 48, 48, 48] = Z at *
    have g2 : ¬ 9223372036854775807 < (log ++ (⟨#[46]⟩ : ByteArray)).size + Z.size := by rw [ByteArray.size_append, hsz2]; show ¬ 9223372036854775807 < log.size + 1 + 11; omega
    have g3 : ¬ 9223372036854775807 < (log ++ (⟨#[46]⟩ : ByteArray) ++ Z).size + D.size := by rw [ByteArray.size_append, ByteArray.size_append, hsz2, hsz]; show ¬ 9223372036854775807 < log.size + 1 + 11 + 1; omega
    clear hd hr h10 hsz2
    go_enter Tryz.func148, Tryz.ntmps148
    go_wp2_with fail
    refine (HI.out _).mono ?_
    rintro e w1 ⟨rfl, rfl⟩
    go_wp2_with fail
    refine (HR.out _).mono ?_
    rintro e w2 ⟨rfl, hb⟩
    have HB := Lib.hid hb
    clear hb
    go_wp2_with fail
    go_ret
    exact ⟨by rw [HF.out]; rfl, HB.out⟩
  · have hd : (⟨(Lib.decDigits k).toArray⟩ : ByteArray) = bA (dig2 k) := by rw [dec_small k hk, if_neg h10]; rfl
    have hsz : (bA (dig2 k)).size = 2 := rfl
    have HR := Lib.hid (fun W => Tryz.strings_Repeat_main ⟨#[48]⟩ 10 W (by decide) (by decide) (by decide) (by decide))
    have hr : (⟨(Lib.repeatL (⟨#[48]⟩ : ByteArray).data.toList 10).toArray⟩ : ByteArray) = bA [48, 48, 48, 48, 48, 48, 48, 48, 48, 48] := by show (⟨(Lib.repeatL [48] 10).toArray⟩ : ByteArray) = _; rw [rep10]; rfl
    have HF := Lib.hid (show log ++ (⟨#[46]⟩ : ByteArray) ++ bA [48, 48, 48, 48, 48, 48, 48, 48, 48, 48] ++ bA (dig2 k) = fileB log k from ba_ext (by
      rw [app_list, app_list, app_list, fileB_list, fileL, num12, preL]
      simp only [List.append_assoc]
      rfl))
    have hsz2 : (bA [48, 48, 48, 48, 48, 48, 48, 48, 48, 48]).size = 10 := rfl
    rw [hd] at HI
    rw [hr, show (((10 : Nat) : Nat) : Int) = max 10 0 by decide] at HR
    have HS1 := Lib.hid hsz
    have HS2 := Lib.hid hsz2
    generalize bA (dig2 k) = D at *
    generalize bA [48, 48, 48, 48, 48, 48, 48, 48, 48, 48] = Z at *
    have g2 : ¬ 9223372036854775807 < (log ++ (⟨#[46]⟩ : ByteArray)).size + Z.size := by rw [ByteArray.size_append, hsz2]; show ¬ 9223372036854775807 < log.size + 1 + 10; omega
    have g3 : ¬ 9223372036854775807 < (log ++ (⟨#[46]⟩ : ByteArray) ++ Z).size + D.size := by rw [ByteArray.size_append, ByteArray.size_append, hsz2, hsz]; show ¬ 9223372036854775807 < log.size + 1 + 10 + 2; omega
    clear hd hr h10 hsz2
    go_enter Tryz.func148, Tryz.ntmps148
    go_wp2_with fail
    refine (HI.out _).mono ?_
    rintro e w1 ⟨rfl, rfl⟩
    go_wp2_with fail
    refine (HR.out _).mono ?_
    rintro e w2 ⟨rfl, hb⟩
    have HB := Lib.hid hb
    clear hb
    go_wp2_with fail
    go_ret
    exact ⟨by rw [HF.out]; rfl, HB.out⟩
end Go.Proofs.YtcohbfabcdjefaaGreatDoor
