/-
  'Open'.
-/
import Derived.Test.YtkpoecofblhggaaGreatDoorNl
namespace Go.Proofs.YtkpoecofblhggaaGreatDoor
open Go.RowKit Go.Maps

set_option maxRecDepth 100000 in
theorem wopen_nil (w : World) (s : ByteArray) : Calls Tryz.prog 9 #[.pointer none, .string s] w fun e w' => e = .returned (.tuple #[.pointer none, .slice none 0 0, .int .i64 2]) ∧ w = w' := by
  go_enter Tryz.func9, Tryz.ntmps9
  go_wp2_with fail
  exact bodyPost_ret (v := .tuple #[.pointer none, .slice none 0 0, .int .i64 2]) (by simp [results, Tryz.results9, go_sem]) rfl ⟨rfl, rfl⟩
set_option maxRecDepth 100000 in
theorem wopen_arg (w : World) (db : Nat) (s : ByteArray) (hs : s.size ≤ maxLen) (hn : logOk s.data.toList = false) : Calls Tryz.prog 9 #[.pointer (some ⟨db, 0, none⟩), .string s] w fun e w' => e = .returned (.tuple #[.pointer none, .slice none 0 0, .int .i64 1]) ∧ w = w' := by
  have HN := Lib.hid (wnamed_any s w hs)
  rw [hn] at HN
  clear hn
  go_enter Tryz.func9, Tryz.ntmps9
  go_wp2_with fail
  refine HN.out.mono ?_
  rintro e w1 ⟨rfl, rfl⟩
  go_wp2_with fail
  exact bodyPost_ret (v := .tuple #[.pointer none, .slice none 0 0, .int .i64 1]) (by simp [results, Tryz.results9, go_sem]) rfl ⟨rfl, rfl⟩
set_option maxRecDepth 100000 in
theorem wopen_down (w : World) (db m : Nat) (d : Dk) (s : ByteArray) (hs : s.size ≤ maxLen) (hn : logOk s.data.toList = true) (hd : DAt w db m d) (hdn : d.down = true) : Calls Tryz.prog 9 #[.pointer (some ⟨db, 0, none⟩), .string s] w fun e w' => e = .returned (.tuple #[.pointer none, .slice none 0 0, .int .i64 7]) ∧ w = w' := by
  have HN := Lib.hid (wnamed_any s w hs)
  have HDN := Lib.hid (down_any w db m d hd)
  rw [hn] at HN
  rw [hdn] at HDN
  clear hn hdn hd
  go_enter Tryz.func9, Tryz.ntmps9
  go_wp2_with fail
  refine HN.out.mono ?_
  rintro e w1 ⟨rfl, rfl⟩
  go_wp2_with fail
  refine HDN.out.mono ?_
  rintro e w1 ⟨rfl, rfl⟩
  go_wp2_with fail
  exact bodyPost_ret (v := .tuple #[.pointer none, .slice none 0 0, .int .i64 7]) (by simp [results, Tryz.results9, go_sem]) rfl ⟨rfl, rfl⟩

/-- a log that was opened: at b, its records told as v -/
structure Opn (w w' : World) (b sb ob db m : Nat) (d : Dk) (x : Lg) (v : Value) (l : List Rc) : Prop where
  recs : RecsAt w' w.heap.size v l
  wd : WD w' b sb ob db m d x
  lb : w.heap.size ≤ b
  lsb : w.heap.size ≤ sb
  lob : w.heap.size ≤ ob
  fr : But [db, m] w w'
def OpenR (w : World) (db m : Nat) (d : Dk) (x : Lg) (l : List Rc) (e : Ending) (w' : World) : Prop :=
  ∃ b sb ob v, e = .returned (.tuple #[.pointer (some ⟨b, 0, none⟩), v, .int .i64 0]) ∧ Opn w w' b sb ob db m d x v l
/-- a log without a record -/
def lg0 (log : ByteArray) : Lg := ⟨log, 1, 0, [], 0, false⟩
set_option maxRecDepth 100000 in
set_option maxHeartbeats 2000000 in
theorem wopen_new (w : World) (db m : Nat) (d : Dk) (log : ByteArray) (hl : log.size ≤ 1000) (hn : logOk log.data.toList = true) (hd : DAt w db m d) (ok : Fit d) (hup : d.down = false)
    (hO : ∀ nm ∈ names d.fs, numOf log nm = none → Other log nm) (h0 : nums log (names d.fs) = []) (hE : createE d (fileL log 1) = 0) :
    Calls Tryz.prog 9 #[.pointer (some ⟨db, 0, none⟩), .string log] w (OpenR w db m (createD d (fileL log 1)) (lg0 log) []) := by
  have HN := Lib.hid (wnamed_any log w (by unfold maxLen; omega))
  have HDN := Lib.hid (down_any w db m d hd)
  have HS := Lib.hid (starts_any w db m d log hd ok hl hO)
  rw [hn] at HN
  rw [hup] at HDN
  have H0 := Lib.hid h0
  have HD := Lib.hid hd
  have HOK := Lib.hid ok
  have HE := Lib.hid hE
  have hdl := hd.lt
  have hml := hd.map.lt
  clear hn hup hd ok hO h0 hE
  go_enter Tryz.func9, Tryz.ntmps9
  go_wp2_with fail
  refine HN.out.mono ?_
  rintro e w1 ⟨rfl, rfl⟩
  go_wp2_with fail
  refine HDN.out.mono ?_
  rintro e w1 ⟨rfl, rfl⟩
  go_wp2_with fail
  refine HS.out.mono ?_
  rintro e w1 ⟨v, rfl, hv, hb1⟩
  rw [H0.out, List.mergeSort_nil] at hv
  obtain ⟨a, c, rfl⟩ := own_slice hv
  have HB1 := Lib.hid hb1
  have hsz1 := hb1.size
  clear hv hb1
  have hz0 : ([] : List Nat).length = 0 := rfl
  go_wp2_with fail
  have hblk : (w1.alloc (.cells #[.pointer none, .string log, .slice none 0 0, .int .i64 0, .bool false] 45)).heap[w1.heap.size]? = some (.cells (wcs (.pointer none) log (.slice none 0 0) (.int .i64 0) false) 45 (0, 0)) := heap_alloc_new w1 _
  refine (begin_ok _ w1.heap.size db m d log 1 1 rfl _ _ _ _ hblk ((HD.out.below HB1.out).below (bl1 _ _)) HOK.out (by omega) (by omega) (by omega) hl HE.out).mono ?_
  rintro e w2 ⟨rfl, sb, hs1, hs2, hs3, hs4, hs5⟩
  have HF := Lib.hid (show OpenR w db m (createD d (fileL log 1)) (lg0 log) [] (.returned (.tuple #[.pointer (some ⟨w1.heap.size, 0, none⟩), .slice none 0 0, .int .i64 0])) w2 from by
    refine ⟨w1.heap.size, sb, sb, .slice none 0 0, rfl, World.ownsRow_nil _ _ _ _, ⟨⟨⟨.slice none 0 0, hs2, OldAt.nil _ _⟩, hs3⟩, hs4, HOK.out.create _, ?_⟩, hsz1, ?_, ?_, ?_⟩
    · simp at hs1
      rintro k (rfl | rfl | rfl) <;> omega
    · simp at hs1; omega
    · simp at hs1; omega
    · have h1 : But [db, m, w1.heap.size] w w2 := (But.of_below (HB1.out.trans ((bl1 w1 _).mono hsz1))).trans hs5
      exact ⟨h1.os, h1.tape, h1.output, h1.size, fun k hk hn => h1.block k hk (by simp only [List.mem_cons, List.not_mem_nil, or_false, not_or] at hn ⊢; omega)⟩)
  clear hs1 hs2 hs3 hs4 hs5 hblk
  go_wp2_with fail
  exact bodyPost_ret (v := .tuple #[.pointer (some ⟨w1.heap.size, 0, none⟩), .slice none 0 0, .int .i64 0]) (by simp [results, Tryz.results9, go_sem]) rfl HF.out

set_option maxRecDepth 100000 in
set_option maxHeartbeats 2000000 in
theorem wopen_scan (w : World) (db m : Nat) (d : Dk) (log : ByteArray) (n0 : Nat) (S : List Sg) (g : Sg) (hl : log.size ≤ 1000) (hn : logOk log.data.toList = true) (hd : DAt w db m d) (ok : Fit d) (hup : d.down = false) (hfu : d.fuse = 0)
    (hO : ∀ nm ∈ names d.fs, numOf log nm = none → Other log nm) (h0 : (nums log (names d.fs)).mergeSort (fun x y => decide (x ≤ y)) = froms S)
    (hg : S.getLast? = some g) (hC : Chain n0 S) (hok : ∀ g ∈ S, SgOk d log g) (hlen : S.length ≤ 99) (hn9 : n0 + (bods S).length ≤ 99) (hE : (scanS d log n0 S g).1 = 0) :
    Calls Tryz.prog 9 #[.pointer (some ⟨db, 0, none⟩), .string log] w (OpenR w db m (scanS d log n0 S g).2.1 (scanS d log n0 S g).2.2 (numb n0 (bods S))) := by
  have hpos : 0 < S.length := by cases S with | nil => cases hg | cons x r => simp
  have HN := Lib.hid (wnamed_any log w (by unfold maxLen; omega))
  have HDN := Lib.hid (down_any w db m d hd)
  have HS := Lib.hid (starts_any w db m d log hd ok hl hO)
  rw [hn] at HN
  rw [hup] at HDN
  have H0 := Lib.hid h0
  have HD := Lib.hid hd
  have HOK := Lib.hid ok
  have HE := Lib.hid hE
  have hdl := hd.lt
  have hml := hd.map.lt
  have HSC := Lib.hid (fun W b v (hW : DAt W db m d) (hb : W.heap[b]? = some (.cells #[.pointer none, .string log, .slice none 0 0, .int .i64 ((0 : Nat) : Int), .bool false] 45 (0, 0))) (hbd : b ≠ db ∧ b ≠ m) (hv : NumsAt W w.heap.size v (froms S)) =>
    scan_any W b db m d log v w.heap.size n0 S g hb hW ok hbd hl hup hfu hg hC hok hlen hn9 hE hv)
  clear hn hup hd ok hO h0 hE hg hC hok hfu
  go_enter Tryz.func9, Tryz.ntmps9
  go_wp2_with fail
  refine HN.out.mono ?_
  rintro e w1 ⟨rfl, rfl⟩
  go_wp2_with fail
  refine HDN.out.mono ?_
  rintro e w1 ⟨rfl, rfl⟩
  go_wp2_with fail
  refine HS.out.mono ?_
  rintro e w1 ⟨v, rfl, hv, hb1⟩
  rw [H0.out] at hv
  obtain ⟨a, c, rfl⟩ := own_slice hv
  rw [froms_len] at hv ⊢
  have HB1 := Lib.hid hb1
  have hsz1 := hb1.size
  have HV := Lib.hid (show NumsAt (w1.alloc (.cells #[.pointer none, .string log, .slice none 0 0, .int .i64 0, .bool false] 45)) w.heap.size (.slice a S.length c) (froms S) from NumsAt.below hv (bl1 _ _))
  clear hv hb1
  have hz0 : ((S.length : Int) == 0) = false := by rw [beq_eq_false_iff_ne]; omega
  go_wp2_with fail
  have hblk : (w1.alloc (.cells #[.pointer none, .string log, .slice none 0 0, .int .i64 0, .bool false] 45)).heap[w1.heap.size]? = some (.cells #[.pointer none, .string log, .slice none 0 0, .int .i64 ((0 : Nat) : Int), .bool false] 45 (0, 0)) := heap_alloc_new w1 _
  refine (HSC.out _ w1.heap.size _ ((HD.out.below HB1.out).below (bl1 _ _)) hblk (by omega) HV.out).mono ?_
  rintro e w2 ⟨v2, sb, ob, rfl, hr, hwd, h1, h2, h3⟩
  obtain ⟨ra, rc, rfl⟩ := own_slice hr
  rw [HE.out]
  have hz9 : (w1.alloc (.cells #[.pointer none, .string log, .slice none 0 0, .int .i64 0, .bool false] 45)).heap.size = w1.heap.size + 1 := by simp
  rw [hz9] at hr h1 h2
  have HF := Lib.hid (show OpenR w db m (scanS d log n0 S g).2.1 (scanS d log n0 S g).2.2 (numb n0 (bods S)) (.returned (.tuple #[.pointer (some ⟨w1.heap.size, 0, none⟩), .slice ra (numb n0 (bods S)).length rc, .int .i64 0])) w2 from by
    refine ⟨w1.heap.size, sb, ob, _, rfl, own_base hr (by omega), hwd, hsz1, by omega, by omega, ?_⟩
    have h4 : But [w1.heap.size, db, m] w w2 := (But.of_below (HB1.out.trans ((bl1 w1 _).mono hsz1))).trans h3
    exact ⟨h4.os, h4.tape, h4.output, h4.size, fun k hk hn => h4.block k hk (by simp only [List.mem_cons, List.not_mem_nil, or_false, not_or] at hn ⊢; omega)⟩)
  clear hr hwd h1 h2 h3 hblk hz9
  generalize (numb n0 (bods S)).length = rl at *
  go_wp2_with fail
  exact bodyPost_ret (v := .tuple #[.pointer (some ⟨w1.heap.size, 0, none⟩), .slice ra rl rc, .int .i64 0]) (by simp [results, Tryz.results9, go_sem]) rfl HF.out
end Go.Proofs.YtkpoecofblhggaaGreatDoor
