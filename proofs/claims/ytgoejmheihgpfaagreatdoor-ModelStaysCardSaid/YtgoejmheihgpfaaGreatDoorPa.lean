/- Lemmas for ModelStays' proof. -/
import Derived.Test.YtgoejmheihgpfaaGreatDoorCw
import Derived.Test.YtgoejmheihgpfaaGreatDoorProg
import Derived.KernelRfl
import Derived.WalkKit
import Derived.WalkLawsBesides
import Derived.WalkSpells
import Derived.Lib.Hide
import Derived.BigQuiet
import Derived.Deep.QuietTactic
import Derived.Laws.IdiomStrings
import Derived.LoopIn
import Derived.Laws.DeepStrings4
namespace Go.Proofs.YtgoejmheihgpfaaGreatDoor
set_option maxRecDepth 100000
set_option maxHeartbeats 16000000
open Go.RowKit
section
abbrev Tx := List UInt8
def letterB (c : UInt8) : Bool := (decide (97 ≤ c.toNat) && decide (c.toNat ≤ 122)) || (decide (65 ≤ c.toNat) && decide (c.toNat ≤ 90))
def digitB (c : UInt8) : Bool := decide (48 ≤ c.toNat) && decide (c.toNat ≤ 57)
def innerB (c : UInt8) : Bool := letterB c || digitB c || c == 95
def blankB (c : UInt8) : Bool := c == 32 || c == 9 || c == 10 || c == 13
def gapL : Bool → Tx → Tx
  | _, [] => []
  | true, c :: r => if c == 10 then gapL false r else gapL true r
  | false, c :: r => if blankB c then gapL false r else if c == 47 && r.head? == some 47 then gapL true r else c :: r
def keywords : List Tx := [[109, 111, 100, 117, 108, 101], [114, 101, 99, 111, 114, 100], [99, 104, 111, 105, 99, 101], [115, 101, 114, 118, 105, 99, 101], [115, 97, 103, 97], [100, 111], [97, 116], [117, 110, 100, 111], [103, 105, 118, 101], [116, 97, 107, 101], [110, 111, 116, 101], [110, 111, 110, 101], [98, 111, 111, 108], [105, 110, 116], [116, 101, 120, 116], [108, 105, 115, 116], [111, 112, 116]]
def keyB (s : Tx) : Bool := keywords.contains s
def nameT (s : Tx) : Bool := match s with
  | [] => false
  | c :: r => decide (r.length < 32) && letterB c && !keyB (c :: r) && r.all innerB
structure Tok where
  kind : Nat
  text : Tx
  num : Nat
  pos : Nat
  deriving DecidableEq
def numL (s : Tx) : Nat := s.foldl (fun n c => 10 * n + (c.toNat - 48)) 0
def signB (c : UInt8) : Bool := c == 123 || c == 125 || c == 40 || c == 41 || c == 59 || c == 58 || c == 44 || c == 46
def oneL (p : Nat) (c : UInt8) (r : Tx) : Tok × Nat :=
  if letterB c then
    (⟨1, c :: r.takeWhile innerB, 0, p⟩, if 32 < (r.takeWhile innerB).length + 1 then 3 else 0)
  else if digitB c then
    (if 9 < (r.takeWhile digitB).length + 1 then (⟨2, c :: r.takeWhile digitB, 0, p⟩, 3)
     else if c == 48 && decide (1 < (r.takeWhile digitB).length + 1) then (⟨2, c :: r.takeWhile digitB, 0, p⟩, 110)
     else (⟨2, c :: r.takeWhile digitB, numL (c :: r.takeWhile digitB), p⟩, 0))
  else if signB c then (⟨3, [c], 0, p⟩, 0)
  else if c == 45 && r.head? == some 62 then (⟨3, [45, 62], 0, p⟩, 0)
  else (⟨3, [], 0, p⟩, 110)
def allL (n : Nat) : Nat → Tx → List Tok × Nat × Nat
  | 0, _ => ([], 0, 0)
  | k + 1, s => match gapL false s with
    | [] => ([], 0, 0)
    | c :: r =>
      let t := oneL (n - (r.length + 1)) c r
      if t.2 = 0 then
        let q := allL n k ((c :: r).drop t.1.text.length)
        if q.2.2 = 0 then (t.1 :: q.1, 0, 0) else ([], q.2)
      else ([], n - (r.length + 1), t.2)
def tokens (s : Tx) : List Tok × Nat × Nat := if 65536 < s.length then ([], 0, 3) else allL s.length (s.length + 1) s
structure Srt where
  kind : Nat
  name : Tx
  deriving DecidableEq
structure Fld where
  name : Tx
  type : List Srt
  deriving DecidableEq
structure Rec where
  name : Tx
  choice : Bool
  fields : List Fld
  deriving DecidableEq
structure Mth where
  name : Tx
  arg : Tx
  result : Nat
  effect : Tx
  undo : Tx
  deriving DecidableEq
structure Svc where
  name : Tx
  methods : List Mth
  deriving DecidableEq
structure Stp where
  service : Tx
  method : Tx
  node : Int
  deriving DecidableEq
structure Sga where
  name : Tx
  arg : Tx
  steps : List Stp
  deriving DecidableEq
structure Sch where
  name : Tx
  records : List Rec
  services : List Svc
  sagas : List Sga
  deriving DecidableEq
def wModule : Tx := [109, 111, 100, 117, 108, 101]
def wRecord : Tx := [114, 101, 99, 111, 114, 100]
def wChoice : Tx := [99, 104, 111, 105, 99, 101]
def wService : Tx := [115, 101, 114, 118, 105, 99, 101]
def wSaga : Tx := [115, 97, 103, 97]
def wDo : Tx := [100, 111]
def wAt : Tx := [97, 116]
def wUndo : Tx := [117, 110, 100, 111]
def wGive : Tx := [103, 105, 118, 101]
def wTake : Tx := [116, 97, 107, 101]
def wNote : Tx := [110, 111, 116, 101]
def wNone : Tx := [110, 111, 110, 101]
def wBool : Tx := [98, 111, 111, 108]
def wInt : Tx := [105, 110, 116]
def wText : Tx := [116, 101, 120, 116]
def wList : Tx := [108, 105, 115, 116]
def wOpt : Tx := [111, 112, 116]
def textA (l : List Tok) (i : Int) : Tx := if i < 0 then [] else match l[i.toNat]? with
  | none => []
  | some t => if t.kind = 2 then [] else t.text
def stepA (l : List Tok) (i : Int) (x : Tx) : Int := if i < 0 then i else if textA l i = x then i + 1 else -1 - i
def nameA (l : List Tok) (i : Int) : Tx × Int := if i < 0 then ([], i) else match l[i.toNat]? with
  | none => ([], -1 - i)
  | some t => if t.kind = 1 && nameT t.text then (t.text, i + 1) else ([], -1 - i)
def sortsA (l : List Tok) : Nat → Int → List Srt × Int
  | 0, i => ([], i)
  | k + 1, i =>
    if i < 0 then ([], i)
    else if textA l i = wList then let q := sortsA l k (i + 1); (⟨5, []⟩ :: q.1, q.2)
    else if textA l i = wOpt then let q := sortsA l k (i + 1); (⟨6, []⟩ :: q.1, q.2)
    else if textA l i = wNone then ([⟨1, []⟩], i + 1)
    else if textA l i = wBool then ([⟨2, []⟩], i + 1)
    else if textA l i = wInt then ([⟨3, []⟩], i + 1)
    else if textA l i = wText then ([⟨4, []⟩], i + 1)
    else let n := nameA l i; ([⟨7, n.1⟩], n.2)
def fieldsA (l : List Tok) : Nat → Int → List Fld × Int
  | 0, i => ([], i)
  | k + 1, i =>
    if i < 0 ∨ textA l i = [125] then ([], i)
    else
      let n := nameA l i
      let t := sortsA l (l.length + 1) (stepA l n.2 [58])
      let q := fieldsA l k (stepA l t.2 [59])
      (⟨n.1, t.1⟩ :: q.1, q.2)
def shutA {α : Type} (q : List α × Int) : List α × Int := if q.2 < 0 then ([], q.2) else (q.1, q.2 + 1)
def bracketA (l : List Tok) (i : Int) : Tx × Int := let n := nameA l (stepA l i [40]); (n.1, stepA l n.2 [41])
def resultA (l : List Tok) (i : Int) : Option (Nat × Int) := if i < 0 then some (0, i) else if textA l i = wInt then some (3, i + 1) else if textA l i = wNone then some (1, i + 1) else none
def undoA (l : List Tok) (i : Int) : Tx × Int := if 0 ≤ i ∧ textA l i = wUndo then nameA l (i + 1) else ([], i)
def methodsA (l : List Tok) : Nat → Int → List Mth × Int
  | 0, i => ([], i)
  | k + 1, i =>
    if i < 0 ∨ textA l i = [125] then ([], i)
    else if textA l i ≠ wGive ∧ textA l i ≠ wTake ∧ textA l i ≠ wNote then ([], -1 - i)
    else
      let n := nameA l (i + 1)
      let b := bracketA l n.2
      let j := stepA l b.2 [45, 62]
      match resultA l j with
      | none => ([], -1 - j)
      | some r =>
        let u := undoA l r.2
        let q := methodsA l k (stepA l u.2 [59])
        (⟨n.1, b.1, r.1, textA l i, u.1⟩ :: q.1, q.2)
def stepsA (l : List Tok) : Nat → Int → List Stp × Int
  | 0, i => ([], i)
  | k + 1, i =>
    if i < 0 ∨ textA l i = [125] then ([], i)
    else
      let s := nameA l (stepA l i wDo)
      let m := nameA l (stepA l s.2 [46])
      let j := stepA l m.2 wAt
      if j < 0 then let q := stepsA l k (stepA l j [59]); (⟨s.1, m.1, 0⟩ :: q.1, q.2)
      else match l[j.toNat]? with
        | none => ([], -1 - j)
        | some t => if t.kind = 2 then let q := stepsA l k (stepA l (j + 1) [59]); (⟨s.1, m.1, t.num⟩ :: q.1, q.2) else ([], -1 - j)
def partsA (l : List Tok) : Nat → Int → Sch → Sch × Int
  | 0, i, s => (s, i)
  | k + 1, i, s =>
    if i < 0 ∨ (l.length : Int) ≤ i then (s, i)
    else if textA l i = wRecord ∨ textA l i = wChoice then
      let n := nameA l (i + 1)
      let f := shutA (fieldsA l (l.length + 1) (stepA l n.2 [123]))
      partsA l k f.2 { s with records := s.records ++ [⟨n.1, textA l i = wChoice, f.1⟩] }
    else if textA l i = wService then
      let n := nameA l (i + 1)
      let f := shutA (methodsA l (l.length + 1) (stepA l n.2 [123]))
      partsA l k f.2 { s with services := s.services ++ [⟨n.1, f.1⟩] }
    else if textA l i = wSaga then
      let n := nameA l (i + 1)
      let b := bracketA l n.2
      let f := shutA (stepsA l (l.length + 1) (stepA l b.2 [123]))
      partsA l k f.2 { s with sagas := s.sagas ++ [⟨n.1, b.1, f.1⟩] }
    else (s, -1 - i)
def schemaA (l : List Tok) : Sch × Int :=
  let n := nameA l (stepA l 0 wModule)
  partsA l (l.length + 1) (stepA l n.2 [59]) ⟨n.1, [], [], []⟩
def s0 : Sch := ⟨[], [], [], []⟩
def shopText : Tx := [109, 111, 100, 117, 108, 101, 32, 115, 104, 111, 112, 59, 32, 114, 101, 99, 111, 114, 100, 32, 79, 32, 123, 32, 97, 99, 99, 111, 117, 110, 116, 58, 32, 116, 101, 120, 116, 59, 32, 97, 109, 111, 117, 110, 116, 58, 32, 105, 110, 116, 59, 32, 109, 101, 109, 111, 58, 32, 111, 112, 116, 32, 116, 101, 120, 116, 59, 32, 125, 32, 115, 101, 114, 118, 105, 99, 101, 32, 83, 32, 123, 32, 116, 97, 107, 101, 32, 116, 40, 79, 41, 32, 45, 62, 32, 105, 110, 116, 32, 117, 110, 100, 111, 32, 117, 59, 32, 103, 105, 118, 101, 32, 117, 40, 79, 41, 32, 45, 62, 32, 110, 111, 110, 101, 59, 32, 110, 111, 116, 101, 32, 110, 40, 79, 41, 32, 45, 62, 32, 110, 111, 110, 101, 59, 32, 125, 32, 115, 97, 103, 97, 32, 103, 40, 79, 41, 32, 123, 32, 100, 111, 32, 83, 46, 116, 32, 97, 116, 32, 48, 59, 32, 100, 111, 32, 83, 46, 110, 32, 97, 116, 32, 49, 59, 32, 125]
def shop : Sch := ⟨[115, 104, 111, 112], [⟨[79], false, [⟨[97, 99, 99, 111, 117, 110, 116], [⟨4, []⟩]⟩, ⟨[97, 109, 111, 117, 110, 116], [⟨3, []⟩]⟩, ⟨[109, 101, 109, 111], [⟨6, []⟩, ⟨4, []⟩]⟩]⟩], [⟨[83], [⟨[116], [79], 3, wTake, [117]⟩, ⟨[117], [79], 1, wGive, []⟩, ⟨[110], [79], 1, wNote, []⟩]⟩], [⟨[103], [79], [⟨[83], [116], 0⟩, ⟨[83], [110], 1⟩]⟩]⟩
end
theorem ret_bool {a b : Bool} (h : a = b) : Ending.returned (.bool a) = Ending.returned (.bool b) := by rw [h]
theorem u8_lt (c : UInt8) : c.toNat < 256 := c.toNat_lt
theorem letter_any (w : World) (c : UInt8) : Calls Tryz.prog 145 #[.int .u8 (c.toNat : Nat)] w fun e w' => e = .returned (.bool (letterB c)) ∧ w = w' := by
  have hc := u8_lt c; have HL := zD (show letterB c = ((decide (97 ≤ c.toNat) && decide (c.toNat ≤ 122)) || (decide (65 ≤ c.toNat) && decide (c.toNat ≤ 90))) from rfl); generalize letterB c = L at *; generalize c.toNat = n at *; by_cases a1 : 97 ≤ n <;> by_cases a2 : n ≤ 122 <;> by_cases a3 : 65 ≤ n <;> by_cases a4 : n ≤ 90
  all_goals
    first
    | omega
    | (go_enter Tryz.func145, Tryz.ntmps145
       go_wp2_with fail; go_ret; refine ⟨ret_bool ?_, rfl⟩; rw [HL.out]; simp [a1, a2, a3, a4] <;> omega)
theorem digit_any (w : World) (c : UInt8) : Calls Tryz.prog 146 #[.int .u8 (c.toNat : Nat)] w fun e w' => e = .returned (.bool (digitB c)) ∧ w = w' := by
  have hc := u8_lt c; have HL := zD (show digitB c = (decide (48 ≤ c.toNat) && decide (c.toNat ≤ 57)) from rfl); generalize digitB c = L at *; generalize c.toNat = n at *; by_cases a1 : 48 ≤ n <;> by_cases a2 : n ≤ 57
  all_goals
    first
    | omega
    | (go_enter Tryz.func146, Tryz.ntmps146
       go_wp2_with fail; go_ret; refine ⟨ret_bool ?_, rfl⟩; rw [HL.out]; simp [a1, a2] <;> omega)
theorem keyword_any (w : World) (s : ByteArray) : Calls Tryz.prog 172 #[.string s] w fun e w' => e = .returned (.bool (keyB s.data.toList)) ∧ w = w' := by
  go_enter Tryz.func172, Tryz.ntmps172; go_wp2_with fail
  all_goals
    go_ret; refine ⟨ret_bool ?_, rfl⟩; rw [← ByteArray.toList_eq]; generalize s.toList = l at *; first
    | (simp_all; done)
    | (simp only [keyB, keywords, List.contains_cons, *]; simp_all)
theorem ba_len (s : ByteArray) : s.data.toList.length = s.size := rfl
theorem name_cons {s : ByteArray} (h : 0 < s.size) : s.data.toList = s[0] :: s.data.toList.drop 1 := by
  have := List.drop_eq_getElem_cons (l := s.data.toList) (i := 0) (by rw [ba_len]; exact h); rw [List.drop_zero] at this; exact this
theorem nameT_eq {s : ByteArray} (h : 0 < s.size) : nameT s.data.toList = (decide (s.size ≤ 32) && letterB s[0] && !keyB s.data.toList && (s.data.toList.drop 1).all innerB) := by
  have e := name_cons h; have hl : (s.data.toList.drop 1).length + 1 = s.size := by rw [List.length_drop, ba_len]; omega
  generalize s.data.toList.drop 1 = r at *; rw [e]
  have : decide (r.length < 32) = decide (s.size ≤ 32) := by
    rw [decide_eq_decide]; omega
  rw [← this]; rfl
theorem name_all {s : ByteArray} (h : ∀ j (hj : j < s.size), 1 ≤ j → innerB s[j] = true) : (s.data.toList.drop 1).all innerB = true := by
  rw [List.all_eq_true]; intro c hc; obtain ⟨j, hj, rfl⟩ := List.getElem_of_mem hc; rw [List.getElem_drop]; rw [List.length_drop, ba_len] at hj; exact h (1 + j) (by omega) (by omega)
theorem name_not {s : ByteArray} {j : Nat} (hj : j < s.size) (h1 : 1 ≤ j) (h : innerB s[j] = false) : (s.data.toList.drop 1).all innerB = false := by
  rw [List.all_eq_false]; refine ⟨s[j], ?_, by simp [h]⟩; rw [List.mem_iff_getElem]; refine ⟨j - 1, by rw [List.length_drop, ba_len]; omega, ?_⟩; rw [List.getElem_drop]; have : 1 + (j - 1) = j := by omega
  simp only [this]; rfl
theorem name_any (w : World) (s : ByteArray) (hs : s.size ≤ 9223372036854775807) : Calls Tryz.prog 147 #[.string s] w fun e w' => e = .returned (.bool (nameT s.data.toList)) ∧ w = w' := by
  have HK := zD (keyword_any w s); have HL := zD (fun c => letter_any w c); have HD := zD (fun c => digit_any w c); by_cases h0 : s.size = 0
  · have hN : nameT s.data.toList = false := by
      have : s.data.toList = [] := List.eq_nil_of_length_eq_zero h0; rw [this]; rfl
    rw [hN]; clear hN; go_enter Tryz.func147, Tryz.ntmps147; go_wp2_with fail; go_ret; exact ⟨rfl, rfl⟩
  have hpos : 0 < s.size := by omega
  have HN := zD (nameT_eq hpos); by_cases h1 : 32 < s.size
  · have hN : nameT s.data.toList = false := by rw [HN.out]; simp; omega
    rw [hN]; clear hN; go_enter Tryz.func147, Tryz.ntmps147; go_wp2_with fail; go_ret; exact ⟨rfl, rfl⟩
  have hd : decide (s.size ≤ 32) = true := by rw [decide_eq_true_eq]; omega
  rw [hd, Bool.true_and] at HN; have HA := zD (fun h => name_all (s := s) h); have HB := zD (fun (j : Nat) (hj : j < s.size) h1 h => name_not (s := s) hj h1 h); generalize (s.data.toList.drop 1).all innerB = A at *; generalize nameT s.data.toList = N at *; generalize keyB s.data.toList = K at *; have HL0 := zD (letter_any w s[0]); have hz0 : ((s.size : Int) == 0) = false := by rw [zb]; omega
  have hz1 : decide (32 < (s.size : Int)) = false := by rw [decide_eq_false_iff_not]; omega
  cases hl : letterB s[0] with
  | false =>
    rw [hl] at HN HL0; go_enter Tryz.func147, Tryz.ntmps147; go_wp2_with fail; refine HL0.out.mono ?_; rintro e w1 ⟨rfl, rfl⟩; go_wp2_with fail; go_ret; exact ⟨ret_bool (by rw [HN.out]; rfl), rfl⟩
  | true =>
    rw [hl] at HN HL0; go_enter Tryz.func147, Tryz.ntmps147; go_wp2_with fail; refine HL0.out.mono ?_; rintro e w1 ⟨rfl, rfl⟩; go_wp2_with fail; refine HK.out.mono ?_; rintro e w1 ⟨rfl, rfl⟩; cases hk : K with
    | true =>
      rw [hk] at HN; go_wp2_with fail; go_ret; exact ⟨ret_bool (by rw [HN.out]; rfl), rfl⟩
    | false =>
      rw [hk] at HN; go_wp2_with fail; go_loop [3] (fun i => ∃ k : Nat, 1 ≤ k ∧ k ≤ s.size ∧ i = .int .i64 k ∧ Hid (∀ (j : Nat) (hj : j < s.size), 1 ≤ j → j < k → innerB s[j] = true)) (fun i => s.size - (intOf i).toNat)
      case atStart => exact ⟨1, by omega, by omega, rfl, fun j _ h1 h2 => by omega⟩
      case round =>
        obtain ⟨k, hk1, hk2, rfl, HI⟩ := hrel; by_cases hlt : k < s.size
        · have HLk := zD (HL.out s[k])
          have HDk := zD (HD.out s[k]); have HBk := zD (HB.out k hlt hk1)
          have HIk := zD (show innerB s[k] = true → ∀ (j : Nat) (hj : j < s.size), 1 ≤ j → j < k + 1 → innerB s[j] = true from fun hok j hj h1 h2 => by
            by_cases e : j = k
            · subst e; exact hok
            · exact HI.out j hj h1 (by omega))
          have HC := zD (show innerB s[k] = (letterB s[k] || digitB s[k] || s[k] == 95) from rfl)
          have H95 := zD (show (s[k] == 95) = (((s[k].toNat : Nat) : Int) == 95) from by
            rw [Bool.eq_iff_iff, beq_iff_eq, beq_iff_eq, ← UInt8.toNat_inj]; simp; omega)
          clear HI; cases hlk : letterB s[k] with
          | true =>
            rw [hlk] at HLk HC; go_wp2_with fail; refine HLk.out.mono ?_; rintro e w1 ⟨rfl, rfl⟩; go_wp2_with fail; exact ⟨⟨k + 1, by omega, by omega, by go_num, HIk.out (by rw [HC.out]; rfl)⟩, by simp [intOf]; omega⟩
          | false =>
            rw [hlk] at HLk HC; cases hdk : digitB s[k] with
            | true =>
              rw [hdk] at HDk HC; go_wp2_with fail; refine HLk.out.mono ?_; rintro e w1 ⟨rfl, rfl⟩; go_wp2_with fail; refine HDk.out.mono ?_; rintro e w1 ⟨rfl, rfl⟩; go_wp2_with fail; exact ⟨⟨k + 1, by omega, by omega, by go_num, HIk.out (by rw [HC.out]; rfl)⟩, by simp [intOf]; omega⟩
            | false =>
              rw [hdk] at HDk HC; cases hu : s[k] == 95 with
              | true =>
                rw [hu] at HC H95; have q1 : ((s[k].toNat : Nat) : Int) = 95 := by simpa using H95.out.symm
                have q2 : (((s[k].toNat : Nat) : Int) == 95) = true := H95.out.symm; have q3 : (((s[k].toNat : Nat) : Int) != 95) = false := by simp [q1]
                clear q1; go_wp2_with fail; refine HLk.out.mono ?_; rintro e w1 ⟨rfl, rfl⟩; go_wp2_with fail; refine HDk.out.mono ?_; rintro e w1 ⟨rfl, rfl⟩; go_wp2_with fail; exact ⟨⟨k + 1, by omega, by omega, by go_num, HIk.out (by rw [HC.out]; rfl)⟩, by simp [intOf]; omega⟩
              | false =>
                rw [hu] at HC H95; have q2 : (((s[k].toNat : Nat) : Int) == 95) = false := H95.out.symm; have q1 : ¬ ((s[k].toNat : Nat) : Int) = 95 := by simpa using q2
                have q3 : (((s[k].toNat : Nat) : Int) != 95) = true := by simp [bne, q2]
                clear q1; go_wp2_with fail; refine HLk.out.mono ?_; rintro e w1 ⟨rfl, rfl⟩; go_wp2_with fail; refine HDk.out.mono ?_; rintro e w1 ⟨rfl, rfl⟩; go_wp2_with fail; go_ret; exact ⟨ret_bool (by rw [HN.out, HBk.out (by rw [HC.out]; rfl)]; rfl), rfl⟩
        · have HAT := zD (HA.out (fun j hj h1 => HI.out j hj h1 (by omega)))
          go_wp2_with fail; go_ret; exact ⟨ret_bool (by rw [HN.out, HAT.out]; rfl), rfl⟩
theorem drop_at {s : ByteArray} {k : Nat} (h : k < s.size) : s.data.toList.drop k = s[k] :: s.data.toList.drop (k + 1) :=
  List.drop_eq_getElem_cons (l := s.data.toList) (by rw [ba_len]; exact h)
theorem drop_end {s : ByteArray} {k : Nat} (h : k = s.size) : s.data.toList.drop k = [] := List.drop_eq_nil_of_le (by rw [ba_len]; omega)
theorem drop_len (s : ByteArray) (k : Nat) : (s.data.toList.drop k).length = s.size - k := by rw [List.length_drop, ba_len]
theorem gap_blank {s : ByteArray} {k : Nat} (h : k < s.size) (hb : blankB s[k] = true) : gapL false (s.data.toList.drop k) = gapL false (s.data.toList.drop (k + 1)) := by
  rw [drop_at h]; show (if blankB s[k] = true then _ else _) = _; rw [if_pos hb]
theorem head_drop {s : ByteArray} {k : Nat} : (s.data.toList.drop k).head? = if h : k < s.size then some s[k] else none := by
  split
  · rename_i h; rw [drop_at h]; rfl
  · rename_i h; rw [List.drop_eq_nil_of_le (by rw [ba_len]; omega)]; rfl
theorem gap_remark {s : ByteArray} {k : Nat} (h : k < s.size) (hb : blankB s[k] = false) (h47 : s[k] = 47) (h1 : k + 1 < s.size) (h2 : s[k + 1] = 47) : gapL false (s.data.toList.drop k) = gapL true (s.data.toList.drop k) := by
  rw [drop_at h]; show (if blankB s[k] = true then _ else if (s[k] == 47 && (s.data.toList.drop (k + 1)).head? == some 47) = true then _ else _) = (if (s[k] == 10) = true then _ else _)
  rw [hb, head_drop, dif_pos h1, h47, h2]; rfl
theorem gap_stop {s : ByteArray} {k : Nat} (h : k < s.size) (hb : blankB s[k] = false) (h2 : ¬ (s[k] = 47 ∧ ∃ h1 : k + 1 < s.size, s[k + 1] = 47)) : gapL false (s.data.toList.drop k) = s.data.toList.drop k := by
  rw [drop_at h]; show (if blankB s[k] = true then _ else if (s[k] == 47 && (s.data.toList.drop (k + 1)).head? == some 47) = true then _ else _) = _
  rw [hb, head_drop]
  have : (s[k] == 47 && (if h : k + 1 < s.size then some s[k + 1] else none) == some 47) = false := by
    rw [Bool.and_eq_false_iff]; by_cases e : s[k] = 47
    · right
      split
      · rename_i h1
        have : ¬ s[k + 1] = 47 := fun e2 => h2 ⟨e, h1, e2⟩
        simpa using this
      · rfl
    · left; simpa using e
  rw [this]; rfl
theorem gap_line {s : ByteArray} {k : Nat} (h : k < s.size) (hb : s[k] ≠ 10) : gapL true (s.data.toList.drop k) = gapL true (s.data.toList.drop (k + 1)) := by
  rw [drop_at h]; show (if (s[k] == 10) = true then _ else _) = _
  rw [if_neg (by simpa using hb)]
theorem gap_eol {s : ByteArray} {k : Nat} (h : k ≤ s.size) (hb : k < s.size → ∃ h : k < s.size, s[k] = 10) : gapL true (s.data.toList.drop k) = gapL false (s.data.toList.drop k) := by
  by_cases e : k < s.size
  · obtain ⟨h1, h2⟩ := hb e
    rw [drop_at e, h2]; rfl
  · rw [drop_end (by omega)]; rfl
theorem u8_eq (c : UInt8) (n : Nat) (hn : n < 256) (z : Int) (hz : z = n) : (c == UInt8.ofNat n) = (((c.toNat : Nat) : Int) == z) := by
  subst hz; rw [Bool.eq_iff_iff, beq_iff_eq, beq_iff_eq, ← UInt8.toNat_inj, UInt8.toNat_ofNat']; omega
theorem gap_any (w : World) (s : ByteArray) (hs : s.size ≤ 4611686018427387904) (a : Nat) (ha : a ≤ s.size) : Calls Tryz.prog 108 #[.string s, .int .i64 (a : Nat)] w fun e w' => e = .returned (.int .i64 ((s.size - (gapL false (s.data.toList.drop a)).length : Nat) : Int)) ∧ w = w' := by
  generalize hG : gapL false (s.data.toList.drop a) = G; have HG0 := zD hG; clear hG; go_enter Tryz.func108, Tryz.ntmps108; go_wp2_with fail; go_loop [1] (fun i => ∃ k : Nat, k ≤ s.size ∧ i = .int .i64 k ∧ Hid (gapL false (s.data.toList.drop k) = G)) (fun i => s.size - (intOf i).toNat)
  case atStart => exact ⟨a, ha, rfl, HG0⟩
  case round =>
    clear HG0; obtain ⟨k, hk, rfl, HG⟩ := hrel; by_cases hlt : k < s.size
    · have HB := zD (show blankB s[k] = (s[k] == UInt8.ofNat 32 || s[k] == UInt8.ofNat 9 || s[k] == UInt8.ofNat 10 || s[k] == UInt8.ofNat 13) from rfl)
      rw [u8_eq _ 32 (by decide) 32 rfl, u8_eq _ 9 (by decide) 9 rfl, u8_eq _ 10 (by decide) 10 rfl, u8_eq _ 13 (by decide) 13 rfl] at HB; have H47 := zD (u8_eq s[k] 47 (by decide) 47 rfl); have HBL := zD (fun h => (gap_blank (s := s) hlt h).symm.trans HG.out); have HST := zD (fun h1 h2 => (gap_stop (s := s) hlt h1 h2).symm.trans HG.out); have HDL := zD (drop_len s k); have HRM := zD (fun h1 h2 h3 h4 => (gap_remark (s := s) hlt h1 h2 h3 h4).symm.trans HG.out); have hw1 : IntKind.i64.wrap ((k : Int) + 1) = (k : Int) + 1 := IntWalk.i64_in _ (by omega); cases f32 : ((s[k].toNat : Nat) : Int) == (32 : Int) with
      | true =>
        have HOK := zD (HBL.out (by rw [HB.out]; simp [f32])); clear HBL HST HRM H47 HB; go_wp2_with fail; exact ⟨⟨k + 1, by omega, by go_num, HOK⟩, by simp [intOf]; omega⟩
      | false =>
        cases f9 : ((s[k].toNat : Nat) : Int) == (9 : Int) with
        | true =>
          have HOK := zD (HBL.out (by rw [HB.out]; simp [f9])); clear HBL HST HRM H47 HB; go_wp2_with fail; exact ⟨⟨k + 1, by omega, by go_num, HOK⟩, by simp [intOf]; omega⟩
        | false =>
          cases f10 : ((s[k].toNat : Nat) : Int) == (10 : Int) with
          | true =>
            have HOK := zD (HBL.out (by rw [HB.out]; simp [f10])); clear HBL HST HRM H47 HB; go_wp2_with fail; exact ⟨⟨k + 1, by omega, by go_num, HOK⟩, by simp [intOf]; omega⟩
          | false =>
            cases f13 : ((s[k].toNat : Nat) : Int) == (13 : Int) with
            | true =>
              have HOK := zD (HBL.out (by rw [HB.out]; simp [f13])); clear HBL HST HRM H47 HB; go_wp2_with fail; exact ⟨⟨k + 1, by omega, by go_num, HOK⟩, by simp [intOf]; omega⟩
            | false =>
              have HNB := zD (show blankB s[k] = false by rw [HB.out]; simp [f32, f9, f10, f13]); clear HBL HB; cases f47 : ((s[k].toNat : Nat) : Int) == (47 : Int) with
              | false =>
                have HS := zD (HST.out HNB.out (fun h => by have := H47.out; rw [f47, h.1] at this; exact absurd this (by decide))); clear HST HRM H47; go_wp2_with fail; go_ret; refine ⟨?_, rfl⟩; rw [← HS.out, HDL.out, show s.size - (s.size - k) = k by omega]; rfl
              | true =>
                have h47 : s[k] = 47 := by have := H47.out; rw [f47] at this; simpa using this
                have HK47 := zD h47; clear h47 H47; by_cases h1 : k + 1 < s.size
                · have H47b := zD (u8_eq s[k + 1] 47 (by decide) 47 rfl)
                  cases g47 : ((s[k + 1].toNat : Nat) : Int) == (47 : Int) with
                  | false =>
                    have HS := zD (HST.out HNB.out (fun h => by obtain ⟨_, h2, h3⟩ := h; have := H47b.out; rw [g47, h3] at this; exact absurd this (by decide))); clear HST HRM H47b; go_wp2_with fail; go_ret; refine ⟨?_, rfl⟩; rw [← HS.out, HDL.out, show s.size - (s.size - k) = k by omega]; rfl
                  | true =>
                    have HR := zD (HRM.out HNB.out HK47.out h1 (by have := H47b.out; rw [g47] at this; simpa using this)); clear HST HRM H47b; go_wp2_with fail; go_loop [1] (fun i => ∃ j : Nat, k ≤ j ∧ j ≤ s.size ∧ i = .int .i64 j ∧ Hid (gapL true (s.data.toList.drop j) = G)) (fun i => s.size - (intOf i).toNat)
                    case atStart => exact ⟨k, by omega, by omega, rfl, HR⟩
                    case round =>
                      clear HR; obtain ⟨j, hj1, hj2, rfl, HJ⟩ := hrel; by_cases hjl : j < s.size
                      · have H10 := zD (u8_eq s[j] 10 (by decide) 10 rfl)
                        have hwj : IntKind.i64.wrap ((j : Int) + 1) = (j : Int) + 1 := IntWalk.i64_in _ (by omega); cases g10 : ((s[j].toNat : Nat) : Int) == (10 : Int) with
                        | false =>
                          have HN := zD ((gap_line (s := s) hjl (fun h => by have := H10.out; rw [g10, h] at this; exact absurd this (by decide))).symm.trans HJ.out); have gb : (((s[j].toNat : Nat) : Int) != (10 : Int)) = true := by simp [bne, g10]
                          clear HJ H10; go_wp2_with fail; exact ⟨⟨j + 1, by omega, by omega, by go_num, HN⟩, by simp [intOf]; omega⟩
                        | true =>
                          have h10 : s[j] = 10 := by have := H10.out; rw [g10] at this; simpa using this
                          have hne : j ≠ k := fun e => by subst e; rw [HK47.out] at h10; exact absurd h10 (by decide)
                          have HN := zD ((gap_eol (s := s) hj2 (fun _ => ⟨hjl, h10⟩)).symm.trans HJ.out); have gb : (((s[j].toNat : Nat) : Int) != (10 : Int)) = false := by simp [bne, g10]
                          clear HJ H10 h10; go_wp2_with fail; exact ⟨⟨j, by omega, rfl, HN⟩, by simp [intOf]; omega⟩
                      · have HN := zD ((gap_eol (s := s) hj2 (fun h => absurd h hjl)).symm.trans HJ.out)
                        clear HJ; go_wp2_with fail; exact ⟨⟨j, by omega, rfl, HN⟩, by simp [intOf]; omega⟩
                · have HS := zD (HST.out HNB.out (fun h => by obtain ⟨_, h2, _⟩ := h; omega))
                  clear HST HRM; go_wp2_with fail; go_ret; refine ⟨?_, rfl⟩; rw [← HS.out, HDL.out, show s.size - (s.size - k) = k by omega]; rfl
    · have HE := zD (show ([] : Tx) = G from by rw [← HG.out, drop_end (by omega)]; rfl)
      clear HG; go_wp2_with fail; go_ret; refine ⟨?_, rfl⟩; rw [← HE.out, show s.size - ([] : Tx).length = k by simp; omega]; rfl
theorem ba_ext {x y : ByteArray} (h : x.data.toList = y.data.toList) : x = y := by
  cases x; cases y; simp only at h; congr 1; exact Array.toList_inj.1 h
theorem ext_list (x : ByteArray) (a b : Nat) : (x.extract a b).data.toList = (x.data.toList.drop a).take (b - a) := by
  rw [ByteArray.data_extract, Array.toList_extract]
def bT (l : Tx) : ByteArray := ⟨l.toArray⟩
abbrev sT (x : Tx) : Value := .string (bT x)
def tokV (t : Tok) : Value := .agg #[.int .u8 (t.kind : Nat), .string (bT t.text), .int .i64 (t.num : Nat), .int .i64 (t.pos : Nat)]
theorem tw_take (p : UInt8 → Bool) : ∀ l : Tx, l.take (l.takeWhile p).length = l.takeWhile p
  | [] => rfl
  | c :: r => by
    rw [List.takeWhile_cons]
    split
    · rw [List.length_cons, List.take_succ_cons, tw_take p r]
    · rfl
theorem tw_le (p : UInt8 → Bool) : ∀ l : Tx, (l.takeWhile p).length ≤ l.length
  | [] => zn
  | c :: r => by
    rw [List.takeWhile_cons]
    split
    · have := tw_le p r; simp; omega
    · simp
theorem tw_step {p : UInt8 → Bool} {s : ByteArray} {k M : Nat} (h : k < s.size) (hp : p s[k] = true) (hM : ((s.data.toList.drop k).takeWhile p).length + k = M) : ((s.data.toList.drop (k + 1)).takeWhile p).length + (k + 1) = M := by
  rw [drop_at h, List.takeWhile_cons, if_pos hp, List.length_cons] at hM; omega
theorem tw_stop {p : UInt8 → Bool} {s : ByteArray} {k M : Nat} (h : ∀ h : k < s.size, p s[k] = false) (hM : ((s.data.toList.drop k).takeWhile p).length + k = M) : k = M := by
  by_cases e : k < s.size
  · rw [drop_at e, List.takeWhile_cons, if_neg (by rw [h e]; decide)] at hM
    simpa using hM
  · rw [List.drop_eq_nil_of_le (by rw [ba_len]; omega)] at hM
    simpa using hM
theorem tw_text {p : UInt8 → Bool} {s : ByteArray} {a M : Nat} (h : a < s.size) (hM : ((s.data.toList.drop (a + 1)).takeWhile p).length + (a + 1) = M) : s.extract a M = bT (s[a] :: (s.data.toList.drop (a + 1)).takeWhile p) := by
  apply ba_ext; rw [ext_list, drop_at h]; show _ = (s[a] :: _ : Tx)
  have : M - a = ((s.data.toList.drop (a + 1)).takeWhile p).length + 1 := by omega
  rw [this, List.take_succ_cons, tw_take]
theorem bel2 (w : World) (x y : Obj) : Below w.heap.size w ((w.alloc x).alloc y) := (zl.alloc zn _).alloc (by simp) _
theorem one_letter (w : World) (s : ByteArray) (hs : s.size ≤ 4611686018427387904) (a : Nat) (ha : a < s.size) (h1 : letterB s[a] = true) : Calls Tryz.prog 109 #[.string s, .int .i64 (a : Nat)] w fun e w' => e = .returned (.tuple #[tokV (oneL a s[a] (s.data.toList.drop (a + 1))).1, .int .i64 ((oneL a s[a] (s.data.toList.drop (a + 1))).2 : Nat)]) ∧ Below w.heap.size w w' := by
  obtain ⟨M, hM⟩ : ∃ M, ((s.data.toList.drop (a + 1)).takeWhile innerB).length + (a + 1) = M := ⟨_, rfl⟩; have hMs : M ≤ s.size := by have := tw_le innerB (s.data.toList.drop (a + 1)); rw [drop_len] at this; omega
  have HO := zD (show oneL a s[a] (s.data.toList.drop (a + 1)) = (⟨1, s[a] :: (s.data.toList.drop (a + 1)).takeWhile innerB, 0, a⟩, if 32 < ((s.data.toList.drop (a + 1)).takeWhile innerB).length + 1 then 3 else 0) from by unfold oneL; rw [if_pos h1]); have HT := zD (tw_text (p := innerB) ha hM); have HM := zD hM; have HL0 := zD (fun V => letter_any V s[a]); rw [h1] at HL0; have HL := zD (fun V (k : Nat) (h : k < s.size) => letter_any V s[k]); have HD := zD (fun V (k : Nat) (h : k < s.size) => digit_any V s[k]); have hw1 : IntKind.i64.wrap ((a : Int) + 1) = (a : Int) + 1 := IntWalk.i64_in _ (by omega); have hw2 : IntKind.i64.wrap ((M : Int) - (a : Int)) = (M : Int) - (a : Int) := IntWalk.i64_in _ (by omega); rw [HO.out]; by_cases h32 : 32 < M - a
  · rw [if_pos (by omega)]
    have hdec : decide ((32 : Int) < (M : Int) - (a : Int)) = true := by rw [decide_eq_true_eq]; omega
    clear hM h1 HO; go_enter Tryz.func109, Tryz.ntmps109; go_wp2_with fail; refine (HL0.out _).mono ?_; rintro e w1 ⟨rfl, rfl⟩; go_wp2_with fail; go_loop [8] (fun i => ∃ k : Nat, a + 1 ≤ k ∧ k ≤ s.size ∧ i = .int .i64 k ∧ Hid (((s.data.toList.drop k).takeWhile innerB).length + k = M)) (fun i => s.size - (intOf i).toNat)
    case atStart => exact ⟨a + 1, by omega, by omega, by simp, HM⟩
    case round =>
      obtain ⟨k, hk1, hk2, rfl, HK⟩ := hrel; by_cases hlt : k < s.size
      · have HLk := zD (fun V => HL.out V k hlt)
        have HDk := zD (fun V => HD.out V k hlt); have HC := zD (show innerB s[k] = (letterB s[k] || digitB s[k] || s[k] == UInt8.ofNat 95) from rfl); rw [u8_eq s[k] 95 (by decide) 95 rfl] at HC; have HS := zD (fun (h : innerB s[k] = true) => tw_step (p := innerB) hlt h HK.out); have HE := zD (fun (h : innerB s[k] = false) => tw_stop (p := innerB) (k := k) (fun _ => h) HK.out); have hwk : IntKind.i64.wrap ((k : Int) + 1) = (k : Int) + 1 := IntWalk.i64_in _ (by omega); clear HK; cases hl : letterB s[k] with
        | true =>
          rw [hl] at HLk HC; go_wp2_with fail; refine (HLk.out _).mono ?_; rintro e w1 ⟨rfl, rfl⟩; go_wp2_with fail; exact ⟨⟨k + 1, by omega, by omega, by go_num, HS.out (by rw [HC.out]; rfl)⟩, by simp [intOf]; omega⟩
        | false =>
          rw [hl] at HLk HC; cases hd : digitB s[k] with
          | true =>
            rw [hd] at HDk HC; go_wp2_with fail; refine (HLk.out _).mono ?_; rintro e w1 ⟨rfl, rfl⟩; go_wp2_with fail; refine (HDk.out _).mono ?_; rintro e w1 ⟨rfl, rfl⟩; go_wp2_with fail; exact ⟨⟨k + 1, by omega, by omega, by go_num, HS.out (by rw [HC.out]; rfl)⟩, by simp [intOf]; omega⟩
          | false =>
            rw [hd] at HDk HC; cases hu : ((s[k].toNat : Nat) : Int) == (95 : Int) with
            | true =>
              rw [hu] at HC; go_wp2_with fail; refine (HLk.out _).mono ?_; rintro e w1 ⟨rfl, rfl⟩; go_wp2_with fail; refine (HDk.out _).mono ?_; rintro e w1 ⟨rfl, rfl⟩; go_wp2_with fail; exact ⟨⟨k + 1, by omega, by omega, by go_num, HS.out (by rw [HC.out]; rfl)⟩, by simp [intOf]; omega⟩
            | false =>
              rw [hu] at HC; have hkM := HE.out (by rw [HC.out]; rfl); clear HE HS HC; subst hkM; go_wp2_with fail; refine (HLk.out _).mono ?_; rintro e w1 ⟨rfl, rfl⟩; go_wp2_with fail; refine (HDk.out _).mono ?_; rintro e w1 ⟨rfl, rfl⟩; go_wp2_with fail; exact zR (v := .tuple #[.agg #[.int .u8 1, .string (s.extract a k), .int .i64 0, .int .i64 (a : Nat)], .int .i64 3]) ⟨by rw [HT.out]; rfl, bel2 _ _ _⟩
      · have hkM := tw_stop (p := innerB) (k := k) (fun h => absurd h hlt) HK.out
        clear HK; subst hkM; go_wp2_with fail; exact zR (v := .tuple #[.agg #[.int .u8 1, .string (s.extract a k), .int .i64 0, .int .i64 (a : Nat)], .int .i64 3]) ⟨by rw [HT.out]; rfl, bel2 _ _ _⟩
  · rw [if_neg (by omega)]
    have hdec : decide ((32 : Int) < (M : Int) - (a : Int)) = false := by rw [decide_eq_false_iff_not]; omega
    clear hM h1 HO; go_enter Tryz.func109, Tryz.ntmps109; go_wp2_with fail; refine (HL0.out _).mono ?_; rintro e w1 ⟨rfl, rfl⟩; go_wp2_with fail; go_loop [8] (fun i => ∃ k : Nat, a + 1 ≤ k ∧ k ≤ s.size ∧ i = .int .i64 k ∧ Hid (((s.data.toList.drop k).takeWhile innerB).length + k = M)) (fun i => s.size - (intOf i).toNat)
    case atStart => exact ⟨a + 1, by omega, by omega, by simp, HM⟩
    case round =>
      obtain ⟨k, hk1, hk2, rfl, HK⟩ := hrel; by_cases hlt : k < s.size
      · have HLk := zD (fun V => HL.out V k hlt)
        have HDk := zD (fun V => HD.out V k hlt); have HC := zD (show innerB s[k] = (letterB s[k] || digitB s[k] || s[k] == UInt8.ofNat 95) from rfl); rw [u8_eq s[k] 95 (by decide) 95 rfl] at HC; have HS := zD (fun (h : innerB s[k] = true) => tw_step (p := innerB) hlt h HK.out); have HE := zD (fun (h : innerB s[k] = false) => tw_stop (p := innerB) (k := k) (fun _ => h) HK.out); have hwk : IntKind.i64.wrap ((k : Int) + 1) = (k : Int) + 1 := IntWalk.i64_in _ (by omega); clear HK; cases hl : letterB s[k] with
        | true =>
          rw [hl] at HLk HC; go_wp2_with fail; refine (HLk.out _).mono ?_; rintro e w1 ⟨rfl, rfl⟩; go_wp2_with fail; exact ⟨⟨k + 1, by omega, by omega, by go_num, HS.out (by rw [HC.out]; rfl)⟩, by simp [intOf]; omega⟩
        | false =>
          rw [hl] at HLk HC; cases hd : digitB s[k] with
          | true =>
            rw [hd] at HDk HC; go_wp2_with fail; refine (HLk.out _).mono ?_; rintro e w1 ⟨rfl, rfl⟩; go_wp2_with fail; refine (HDk.out _).mono ?_; rintro e w1 ⟨rfl, rfl⟩; go_wp2_with fail; exact ⟨⟨k + 1, by omega, by omega, by go_num, HS.out (by rw [HC.out]; rfl)⟩, by simp [intOf]; omega⟩
          | false =>
            rw [hd] at HDk HC; cases hu : ((s[k].toNat : Nat) : Int) == (95 : Int) with
            | true =>
              rw [hu] at HC; go_wp2_with fail; refine (HLk.out _).mono ?_; rintro e w1 ⟨rfl, rfl⟩; go_wp2_with fail; refine (HDk.out _).mono ?_; rintro e w1 ⟨rfl, rfl⟩; go_wp2_with fail; exact ⟨⟨k + 1, by omega, by omega, by go_num, HS.out (by rw [HC.out]; rfl)⟩, by simp [intOf]; omega⟩
            | false =>
              rw [hu] at HC; have hkM := HE.out (by rw [HC.out]; rfl); clear HE HS HC; subst hkM; go_wp2_with fail; refine (HLk.out _).mono ?_; rintro e w1 ⟨rfl, rfl⟩; go_wp2_with fail; refine (HDk.out _).mono ?_; rintro e w1 ⟨rfl, rfl⟩; go_wp2_with fail; exact zR (v := .tuple #[.agg #[.int .u8 1, .string (s.extract a k), .int .i64 0, .int .i64 (a : Nat)], .int .i64 0]) ⟨by rw [HT.out]; rfl, bel2 _ _ _⟩
      · have hkM := tw_stop (p := innerB) (k := k) (fun h => absurd h hlt) HK.out
        clear HK; subst hkM; go_wp2_with fail; exact zR (v := .tuple #[.agg #[.int .u8 1, .string (s.extract a k), .int .i64 0, .int .i64 (a : Nat)], .int .i64 0]) ⟨by rw [HT.out]; rfl, bel2 _ _ _⟩
end Go.Proofs.YtgoejmheihgpfaaGreatDoor
