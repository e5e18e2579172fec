/-
  wal.Open on a disk without a file; a disk with one file ('D1'), its log ('X1').
-/
import Derived.Test.YtcohbfabcdjefaaGreatDoorNg
namespace Go.Proofs.YtcohbfabcdjefaaGreatDoor
open Go.RowKit Go.Maps

/-- a disk with one file -/
def D1 (k : Nm) (x : ByteArray) (s : Nat) (dn : Bool) : Dk := ⟨[(k, ⟨x, s⟩)], dn, 0, -1⟩
theorem get1 (k : Nm) (f : Fl) : fget [(k, f)] k = some f := by simp [fget]
theorem put1 (k : Nm) (f f' : Fl) : fput [(k, f)] k f' = [(k, f')] := by simp [fput, fdel, fins]
theorem create0 {k : Nm} (h : nameB k = true) : createE d0 k = 0 ∧ createD d0 k = D1 k ⟨#[]⟩ 0 false := by
  have hg : fget ([] : Fs) k = none := rfl
  constructor
  · simp [createE, d0, h, hg, chgE]
  · simp [createD, d0, h, hg, chg, D1, fput, fdel, fins]
theorem append1 {k : Nm} {x y : ByteArray} {s : Nat} (h : x.size + y.size ≤ 1048576) : appendE (D1 k x s false) k y = 0 ∧ appendD (D1 k x s false) k y = D1 k (x ++ y) s false := by
  have h1 : ¬ 1048576 < x.size + y.size := by omega
  constructor
  · simp only [appendE, D1, get1, Bool.false_eq_true, if_false, h1]
    simp [chgE]
  · simp only [appendD, D1, get1, Bool.false_eq_true, if_false, h1]
    simp [chg, put1]
theorem sync1 {k : Nm} {x : ByteArray} {s : Nat} : syncE (D1 k x s false) k = 0 ∧ syncD (D1 k x s false) k = D1 k x x.size false := by
  constructor
  · simp [syncE, D1, get1, chgE]
  · simp [syncD, D1, get1, chg, put1]
theorem read1 {k : Nm} {x : ByteArray} {s : Nat} : readE (D1 k x s false) k = 0 ∧ readS (D1 k x s false) k = x := by
  constructor
  · simp [readE, D1, get1]
  · simp [readS, D1, get1]
/-- a log that stands on such a disk -/
def X1 (log : ByteArray) (n s : Nat) : Lg := ⟨log, 1, s, [], n, false⟩
theorem off1 {log x : ByteArray} {n s : Nat} (h : x.size = s) (y : Nat) : offE (D1 (fileL log 1) x y false) (X1 log n s) = 0 := by
  have e : (X1 log n s).nm = fileL log 1 := rfl
  unfold offE wholeB
  rw [e, read1.1, read1.2]
  simp [X1, h]
theorem put1S {log x b : ByteArray} {n s y : Nat} (h : x.size = s) (hb : b.size ≤ 65536) (hs : s < 16384) : appendS (D1 (fileL log 1) x y false) (X1 log n s) b = (0, D1 (fileL log 1) (x ++ frame b) y false, X1 log (n + 1) (s + (frame b).size)) := by
  have e : (X1 log n s).nm = fileL log 1 := rfl
  have ha := append1 (k := fileL log 1) (x := x) (y := frame b) (s := y) (by rw [frame_size]; omega)
  unfold appendS addS
  rw [if_neg (by omega), if_pos (off1 h y), off_zero (off1 h y), if_neg (show ¬ 16384 ≤ (X1 log n s).size by show ¬ 16384 ≤ s; omega)]
  unfold putS
  dsimp only
  rw [e, if_pos ha.1, ha.2]
  rfl
theorem sync1S {log x : ByteArray} {n s y : Nat} (h : x.size = s) : syncS (D1 (fileL log 1) x y false) (X1 log n s) = (0, D1 (fileL log 1) x x.size false, X1 log n s) := by
  have e : (X1 log n s).nm = fileL log 1 := rfl
  unfold syncS
  rw [if_pos (off1 h y), off_zero (off1 h y)]
  unfold syncT
  rw [e, sync1.1, sync1.2]
  rfl


set_option maxRecDepth 100000 in
theorem starts_empty (w : World) (db m : Nat) (d : Dk) (log : ByteArray) (hd : DAt w db m d) (ok : Fit d) (h0 : names d.fs = []) :
    Calls Tryz.prog 87 #[.pointer (some ⟨db, 0, none⟩), .string log] w fun e w' => e = .returned (.tuple #[.slice none 0 0, .bool true]) ∧ Below w.heap.size w w' := by
  have HL := Lib.hid (list_any w db m d hd ok)
  rw [h0] at HL
  clear hd ok h0
  go_enter Tryz.func87, Tryz.ntmps87
  go_wp2_with fail
  refine HL.out.mono ?_
  rintro e w1 ⟨⟨v1, rfl, _, hv⟩, hb1⟩
  obtain rfl := hv.2 rfl
  have HB1 := Lib.hid hb1
  clear hb1 HL hv
  go_wp2_with fail
  go_loopw [6, 16] (fun l i wr => l = .slice none 0 0 ∧ i = .int .i64 0 ∧ Hid (Below w.heap.size w wr)) (fun _ _ _ => 0)
  case atStart => exact ⟨rfl, rfl, HB1⟩
  case round =>
    obtain ⟨rfl, rfl, HB⟩ := hrel
    go_wp2_with fail
    refine (Tryz.slices_Sort_int_none none 0 wr).mono ?_
    rintro e w' ⟨rfl, rfl⟩
    go_wp2_with fail
    go_ret2
    exact ⟨rfl, HB.out⟩
/-- a log without a record -/
def lg0 (log : ByteArray) : Lg := ⟨log, 1, 0, [], 0, false⟩
/-- a log that was opened on a fresh disk: at b -/
structure Opn0 (w w' : World) (b sb db m : Nat) (d : Dk) (x : Lg) : Prop where
  wd : WD w' b sb sb db m d x
  lb : w.heap.size ≤ b
  lsb : w.heap.size ≤ sb
  fr : But [db, m] w w'
set_option maxRecDepth 100000 in
set_option maxHeartbeats 2000000 in
theorem wopen_fresh (w : World) (db m : Nat) (d : Dk) (log : ByteArray) (hl : log.size ≤ 1000) (hn : logOk log.data.toList = true) (hd : DAt w db m d) (ok : Fit d) (hup : d.down = false)
    (h0 : names d.fs = []) (hE : createE d (fileL log 1) = 0) :
    Calls Tryz.prog 43 #[.pointer (some ⟨db, 0, none⟩), .string log] w fun e w' => ∃ b sb, e = .returned (.tuple #[.pointer (some ⟨b, 0, none⟩), .slice none 0 0, .int .i64 0]) ∧ Opn0 w w' b sb db m (createD d (fileL log 1)) (lg0 log) := by
  have HN := Lib.hid (wnamed_any log w (by unfold maxLen; omega))
  have HDN := Lib.hid (down_any w db m d hd)
  have HS := Lib.hid (starts_empty w db m d log hd ok h0)
  rw [hn] at HN
  rw [hup] at HDN
  have HD := Lib.hid hd
  have HOK := Lib.hid ok
  have HE := Lib.hid hE
  have hdl := hd.lt
  have hml := hd.map.lt
  clear hn hup hd ok h0 hE
  go_enter Tryz.func43, Tryz.ntmps43
  go_wp2_with fail
  refine HN.out.mono ?_
  rintro e w1 ⟨rfl, rfl⟩
  go_wp2_with fail
  refine HDN.out.mono ?_
  rintro e w1 ⟨rfl, rfl⟩
  go_wp2_with fail
  refine HS.out.mono ?_
  rintro e w1 ⟨rfl, hb1⟩
  have HB1 := Lib.hid hb1
  have hsz1 := hb1.size
  clear hb1
  go_wp2_with fail
  have hblk : (w1.alloc (.cells #[.pointer none, .string log, .slice none 0 0, .int .i64 0, .bool false] 167)).heap[w1.heap.size]? = some (.cells (wcs (.pointer none) log (.slice none 0 0) (.int .i64 0) false) 167 (0, 0)) := heap_alloc_new w1 _
  refine (begin_ok _ w1.heap.size db m d log 1 1 rfl _ _ _ _ hblk ((HD.out.below HB1.out).below (bl1 _ _)) HOK.out (by omega) (by omega) (by omega) hl HE.out).mono ?_
  rintro e w2 ⟨rfl, sb, hs1, hs2, hs3, hs4, hs5⟩
  have HF := Lib.hid (show ∃ b sb, (Ending.returned (.tuple #[.pointer (some ⟨w1.heap.size, 0, none⟩), .slice none 0 0, .int .i64 0])) = .returned (.tuple #[.pointer (some ⟨b, 0, none⟩), .slice none 0 0, .int .i64 0]) ∧ Opn0 w w2 b sb db m (createD d (fileL log 1)) (lg0 log) from by
    refine ⟨w1.heap.size, sb, rfl, ⟨⟨⟨.slice none 0 0, hs2, OldAt.nil _ _⟩, hs3⟩, hs4, HOK.out.create _, ?_⟩, hsz1, ?_, ?_⟩
    · simp at hs1
      rintro k (rfl | rfl | rfl) <;> omega
    · simp at hs1; omega
    · have h1 : But [db, m, w1.heap.size] w w2 := (But.of_below (HB1.out.trans ((bl1 w1 _).mono hsz1))).trans hs5
      exact ⟨h1.os, h1.tape, h1.output, h1.size, fun k hk hn => h1.block k hk (by simp only [List.mem_cons, List.not_mem_nil, or_false, not_or] at hn ⊢; omega)⟩)
  clear hs1 hs2 hs3 hs4 hs5 hblk
  go_wp2_with fail
  exact bodyPost_ret (v := .tuple #[.pointer (some ⟨w1.heap.size, 0, none⟩), .slice none 0 0, .int .i64 0]) (by simp [results, Tryz.results43, go_sem]) rfl HF.out
end Go.Proofs.YtcohbfabcdjefaaGreatDoor
