/-
  For 'WalKnown': the methods on a log behind a world; a second file.
-/
import Derived.Test.YtkpoecofblhggaaGreatDoorOa
import Derived.Test.YtkpoecofblhggaaGreatDoorOg
import Derived.Laws.MakeOwn
import Derived.Deep.OwnRows
import Derived.Laws.OwnMore
import Derived.Laws.BytesArg
namespace Go.Proofs.YtkpoecofblhggaaGreatDoor
open Go.RowKit Go.Maps

variable {W w w' : World} {b sb ob db m : Nat} {d : Dk} {x : Lg}
theorem LW.turn (h : LW W w b sb ob db m d x) (hl : x.log.size ≤ 1000) (hla : x.last < 98) (hol : x.old.length ≤ 1000) (hz : 16384 ≤ x.size) (hzz : x.size ≤ 1048576) {s : ByteArray} (hb : s.size ≤ 65536) (ho : offE d x = 0) {n E : Int} {d' : Dk} {x' : Lg} (hr : appendS d x s = (E, d', x')) (hn : (if E = 0 then (x'.last : Int) else 0) = n) :
    Calls Tryz.prog 10 #[.pointer (some ⟨b, 0, none⟩), .string s] w fun e w' => e = .returned (.tuple #[.int .i64 n, .int .i64 E]) ∧ ∃ sb' ob', LW W w' b sb' ob' db m d' x' :=
  (wappend_turn w b sb ob db m d x s h.wd hl hla hol hz hzz hb ho).mono fun e w' ⟨he, hw⟩ => by
    unfold appendN at he
    rw [hr] at he hw
    exact ⟨by rw [he, ← hn], h.wr hw⟩
theorem LW.long (h : LW W w b sb ob db m d x) {s : ByteArray} (hs : s.size ≤ maxLen) (hb : 65536 < s.size) :
    Calls Tryz.prog 10 #[.pointer (some ⟨b, 0, none⟩), .string s] w fun e w' => e = .returned (.tuple #[.int .i64 0, .int .i64 3]) ∧ ∃ sb' ob', LW W w' b sb' ob' db m d x :=
  (wappend_long w b sb ob db m d x s h.wd hs hb).mono fun e w' ⟨he, hw⟩ => by
    have hr : appendS d x s = (3, d, x) := by simp [appendS, hb]
    unfold appendN at he
    rw [hr] at he hw
    exact ⟨by rw [he]; rfl, h.wr hw⟩
theorem LW.dropGo (h : LW W w b sb ob db m d x) (hl : x.log.size ≤ 1000) (hol : x.old.length ≤ 1000) (ho1 : ∀ k ∈ x.old, k < 100) (hfr : x.fr < 100) (hla : x.last < 100) (ho : offE d x = 0) {n : Int} (hn : ¬ ((x.last : Int) ≤ n ∧ x.fr ≤ x.last)) {E : Int} {d' : Dk} {x' : Lg} (hr : dropS d x n = (E, d', x')) :
    Calls Tryz.prog 18 #[.pointer (some ⟨b, 0, none⟩), .int .i64 n] w fun e w' => e = .returned (.int .i64 E) ∧ ∃ sb' ob', LW W w' b sb' ob' db m d' x' :=
  (wdrop_go w b sb ob db m d x n h.wd hl hol ho1 hfr hla ho hn).mono fun e w' ⟨he, hw⟩ => by
    rw [hr] at he hw
    exact ⟨he, h.wr hw⟩
theorem LW.first (h : LW W w b sb ob db m d x) (hol : x.old.length ≤ 1000) {n : Int} (hn : ((x.old.headD x.fr : Nat) : Int) = n) : Calls Tryz.prog 17 #[.pointer (some ⟨b, 0, none⟩)] w fun e w' => e = .returned (.int .i64 n) ∧ w = w' := by
  subst hn; exact first_any w b sb ob db m d x h.wd hol
theorem LW.last (h : LW W w b sb ob db m d x) {n : Int} (hn : (x.last : Int) = n) : Calls Tryz.prog 16 #[.pointer (some ⟨b, 0, none⟩)] w fun e w' => e = .returned (.int .i64 n) ∧ w = w' := by
  subst hn; exact last_any w b sb ob db m d x h.wd
theorem drop_none {log y : ByteArray} {n s z : Nat} {k : Int} (h : y.size = s) (hk : k < n) : dropS (D1 (fileL log 1) y z false) (X1 log n s) k = (0, D1 (fileL log 1) y z false, X1 log n s) := by
  rw [drop_go (off1 h z) (by show ¬ (((n : Nat) : Int) ≤ k ∧ _); omega)]
  rfl
/-- a disk with files F, at its ease -/
def DF (F : Fs) : Dk := ⟨F, false, 0, -1⟩
theorem D1_DF (k : Nm) (y : ByteArray) (s : Nat) : D1 k y s false = DF [(k, ⟨y, s⟩)] := rfl
theorem createF {F : Fs} {k : Nm} (h : nameB k = true) (hg : fget F k = none) (hl : F.length < 256) : createE (DF F) k = 0 ∧ createD (DF F) k = DF (fput F k ⟨⟨#[]⟩, 0⟩) := by
  have h1 : ¬ 256 ≤ F.length := by omega
  constructor
  · simp [createE, DF, h, hg, chgE, h1]
  · simp [createD, DF, h, hg, chg, h1]
theorem appendF {F : Fs} {k : Nm} {f : Fl} {y : ByteArray} (hg : fget F k = some f) (h : f.data.size + y.size ≤ 1048576) : appendE (DF F) k y = 0 ∧ appendD (DF F) k y = DF (fput F k ⟨f.data ++ y, f.syn⟩) := by
  have h1 : ¬ 1048576 < f.data.size + y.size := by omega
  constructor
  · simp only [appendE, DF, hg, Bool.false_eq_true, if_false, h1]
    simp [chgE]
  · simp only [appendD, DF, hg, Bool.false_eq_true, if_false, h1]
    simp [chg]
theorem removeF {F : Fs} {k : Nm} {f : Fl} (hg : fget F k = some f) : removeE (DF F) k = 0 ∧ removeD (DF F) k = DF (fdel F k) := by
  constructor
  · simp [removeE, DF, hg, chgE]
  · simp [removeD, DF, hg, chg]
theorem readF {F : Fs} {k : Nm} {f : Fl} (hg : fget F k = some f) : readE (DF F) k = 0 ∧ readS (DF F) k = f.data := by
  constructor
  · simp [readE, DF, hg]
  · simp [readS, DF, hg]
theorem offF {F : Fs} {x : Lg} {f : Fl} (hg : fget F x.nm = some f) (hs : f.data.size = x.size) (hd : x.dead = false) : offE (DF F) x = 0 := by
  unfold offE wholeB
  rw [hd, (readF hg).1, (readF hg).2]
  simp [hs]
/-- the log of two files -/
def X2 (log : ByteArray) (fr n s : Nat) : Lg := ⟨log, fr, s, [1], n, false⟩
theorem turn2 {log y b : ByteArray} {n s z : Nat} (h : y.size = s) (hs : 16384 ≤ s) (hn : 1 ≤ n) (hn2 : n + 1 < 100) (hb : b.size ≤ 65536) (hok : logOk log.data.toList = true) :
    appendS (D1 (fileL log 1) y z false) (X1 log n s) b = (0, DF (fput (fput [(fileL log 1, ⟨y, y.size⟩)] (fileL log (n + 1)) ⟨⟨#[]⟩, 0⟩) (fileL log (n + 1)) ⟨⟨#[]⟩ ++ frame b, 0⟩), X2 log (n + 1) (n + 1) (0 + (frame b).size)) := by
  have hne : fileL log (n + 1) ≠ fileL log 1 := fun e => by have := fileL_inj (by omega) (by omega) e; omega
  have hg : fget [(fileL log 1, (⟨y, y.size⟩ : Fl))] (fileL log (n + 1)) = none := by
    unfold fget
    simp [Ne.symm hne]
  have hc := createF (name_file hok (n + 1)) hg (by simp)
  have hup : ([(fileL log 1, (⟨y, y.size⟩ : Fl))] : Fs).Pairwise (fun x y => bytesBefore x.1 y.1 = true) := List.pairwise_singleton _ _
  have hg2 := fget_put_same hup (fileL log (n + 1)) ⟨⟨#[]⟩, 0⟩
  have ha := appendF (y := frame b) hg2 (by rw [frame_size]; show 0 + _ ≤ _; omega)
  have e : (X1 log n s).nm = fileL log 1 := rfl
  have hr : rotateS (syncD (D1 (fileL log 1) y z false) (X1 log n s).nm) (X1 log n s) = (0, DF (fput [(fileL log 1, ⟨y, y.size⟩)] (fileL log (n + 1)) ⟨⟨#[]⟩, 0⟩), X2 log (n + 1) n 0) := by
    rw [e, sync1.2]
    unfold rotateS
    rw [if_neg (show ¬ (X1 log n s).last < (X1 log n s).fr by show ¬ n < 1; omega), D1_DF]
    show (createE _ (fileL log (n + 1)), createD _ (fileL log (n + 1)), if createE _ (fileL log (n + 1)) = 0 then _ else _) = _
    rw [hc.1, hc.2]
    rfl
  rw [turn_yes hb (off1 h z) (show 16384 ≤ s from hs) (by rw [e]; exact sync1.1) hr]
  unfold putS
  have e2 : (X2 log (n + 1) n 0).nm = fileL log (n + 1) := rfl
  dsimp only
  rw [e2, if_pos ha.1, ha.2]
  rfl
theorem drop2 {log y b : ByteArray} {n : Nat} (hn : 1 ≤ n) (hn2 : n + 1 < 100) {k : Int} (hk : k = n) :
    offE (DF (fput (fput [(fileL log 1, ⟨y, y.size⟩)] (fileL log (n + 1)) ⟨⟨#[]⟩, 0⟩) (fileL log (n + 1)) ⟨⟨#[]⟩ ++ frame b, 0⟩)) (X2 log (n + 1) (n + 1) (0 + (frame b).size)) = 0 ∧
    ∃ d', dropS (DF (fput (fput [(fileL log 1, ⟨y, y.size⟩)] (fileL log (n + 1)) ⟨⟨#[]⟩, 0⟩) (fileL log (n + 1)) ⟨⟨#[]⟩ ++ frame b, 0⟩)) (X2 log (n + 1) (n + 1) (0 + (frame b).size)) k = (0, d', { X2 log (n + 1) (n + 1) (0 + (frame b).size) with old := [] }) := by
  have hne : fileL log 1 ≠ fileL log (n + 1) := fun e => by have := fileL_inj (by omega) (by omega) e; omega
  have hup : ([(fileL log 1, (⟨y, y.size⟩ : Fl))] : Fs).Pairwise (fun x y => bytesBefore x.1 y.1 = true) := List.pairwise_singleton _ _
  have hup2 := up_put hup (fileL log (n + 1)) ⟨⟨#[]⟩, 0⟩
  have hg := fget_put_same hup2 (fileL log (n + 1)) ⟨⟨#[]⟩ ++ frame b, 0⟩
  have ho := offF (x := X2 log (n + 1) (n + 1) (0 + (frame b).size)) hg (by rw [ByteArray.size_append]; rfl) rfl
  have hg1 : fget (fput (fput [(fileL log 1, ⟨y, y.size⟩)] (fileL log (n + 1)) ⟨⟨#[]⟩, 0⟩) (fileL log (n + 1)) ⟨⟨#[]⟩ ++ frame b, 0⟩) (fileL log 1) = some ⟨y, y.size⟩ := by
    rw [fget_put_ne hup2 _ _ hne, fget_put_ne hup _ _ hne]; exact get1 _ _
  have hrm := removeF hg1
  refine ⟨ho, DF (fdel (fput (fput [(fileL log 1, ⟨y, y.size⟩)] (fileL log (n + 1)) ⟨⟨#[]⟩, 0⟩) (fileL log (n + 1)) ⟨⟨#[]⟩ ++ frame b, 0⟩) (fileL log 1)), ?_⟩
  rw [drop_go ho (by show ¬ (((n + 1 : Nat) : Int) ≤ k ∧ _); omega), goS_next (f := 1) (r := []) rfl (by show ¬ k < ((n + 1 : Nat) : Int) - 1; omega) hrm.1]
  exact Prod.ext rfl (Prod.ext hrm.2 rfl)
def zeros (n : Nat) : ByteArray := ⟨Array.replicate n 0⟩
theorem zeros_size (n : Nat) : (zeros n).size = n := by simp [zeros, ByteArray.size]
theorem zeros_conv (k : Nat) (w : World) (c : Nat) (t : TypeId) : (convert 42 9 (.slice (some ⟨w.heap.size, 0, none⟩) k c)).run Tryz.prog (w.alloc (.cells (madeCells #[.int .u8 0] k) t)) = .ok (.string (zeros k)) (w.alloc (.cells (madeCells #[.int .u8 0] k) t)) := by
  rw [show zeros k = strOfNums (List.replicate k 0) by simp [strOfNums, zeros]]
  refine run_convert_bytes_arg _ 42 5 Tryz.underlying42 Tryz.underlying5 _ _ _ _ _ (by simp) (fun i hi => ?_) 9 Tryz.underlying9
  have e : (w.alloc (.cells (madeCells #[.int .u8 0] k) t)).cell? ⟨w.heap.size, 0 + i, none⟩ = (madeCells #[.int .u8 0] k)[i]? := by simp [go_sem]
  rw [e, ← Array.getElem?_toList, toList_madeCells_one]
  simp [hi]
end Go.Proofs.YtkpoecofblhggaaGreatDoor
