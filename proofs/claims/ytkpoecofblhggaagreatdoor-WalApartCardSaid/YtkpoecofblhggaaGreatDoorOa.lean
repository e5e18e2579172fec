/-
  A disk with one file; a log under way in a law ('LW').
-/
import Derived.Test.YtkpoecofblhggaaGreatDoorNm
import Derived.Test.YtkpoecofblhggaaGreatDoorNg
namespace Go.Proofs.YtkpoecofblhggaaGreatDoor
section
open Go.RowKit Go.Maps

/-- a disk with one file -/
def D1 (k : Nm) (x : ByteArray) (s : Nat) (dn : Bool) : Dk := ⟨[(k, ⟨x, s⟩)], dn, 0, -1⟩
theorem get1 (k : Nm) (f : Fl) : fget [(k, f)] k = some f := by simp [fget]
theorem put1 (k : Nm) (f f' : Fl) : fput [(k, f)] k f' = [(k, f')] := by simp [fput, fdel, fins]
theorem create0 {k : Nm} (h : nameB k = true) : createE d0 k = 0 ∧ createD d0 k = D1 k ⟨#[]⟩ 0 false := by
  have hg : fget ([] : Fs) k = none := rfl
  constructor
  · simp [createE, d0, h, hg, chgE]
  · simp [createD, d0, h, hg, chg, D1, fput, fdel, fins]
theorem append1 {k : Nm} {x y : ByteArray} {s : Nat} (h : x.size + y.size ≤ 1048576) : appendE (D1 k x s false) k y = 0 ∧ appendD (D1 k x s false) k y = D1 k (x ++ y) s false := by
  have h1 : ¬ 1048576 < x.size + y.size := by omega
  constructor
  · simp only [appendE, D1, get1, Bool.false_eq_true, if_false, h1]
    simp [chgE]
  · simp only [appendD, D1, get1, Bool.false_eq_true, if_false, h1]
    simp [chg, put1]
theorem sync1 {k : Nm} {x : ByteArray} {s : Nat} : syncE (D1 k x s false) k = 0 ∧ syncD (D1 k x s false) k = D1 k x x.size false := by
  constructor
  · simp [syncE, D1, get1, chgE]
  · simp [syncD, D1, get1, chg, put1]
theorem read1 {k : Nm} {x : ByteArray} {s : Nat} : readE (D1 k x s false) k = 0 ∧ readS (D1 k x s false) k = x := by
  constructor
  · simp [readE, D1, get1]
  · simp [readS, D1, get1]
theorem crash1 {k : Nm} {x : ByteArray} {s : Nat} {dn : Bool} (h : x.size ≠ s) : ({ D1 k x s dn with fs := crashF [] (D1 k x s dn).fs, down := true, fuse := 0 } : Dk) = D1 k (x.extract 0 s) s true := by
  have e : stays [] (x.size - s) = 0 := by simp [stays]; try omega
  simp [D1, crashF, h, e]
theorem start1 {k : Nm} {x : ByteArray} {s : Nat} (h : x.size = s) : startD (D1 k x s true) = D1 k x s false := by
  simp [startD, D1, crashF, h]
/-- a log that stands on such a disk -/
def X1 (log : ByteArray) (n s : Nat) : Lg := ⟨log, 1, s, [], n, false⟩
theorem off1 {log x : ByteArray} {n s : Nat} (h : x.size = s) (y : Nat) : offE (D1 (fileL log 1) x y false) (X1 log n s) = 0 := by
  have e : (X1 log n s).nm = fileL log 1 := rfl
  unfold offE wholeB
  rw [e, read1.1, read1.2]
  simp [X1, h]
theorem put1S {log x b : ByteArray} {n s y : Nat} (h : x.size = s) (hb : b.size ≤ 65536) (hs : s < 16384) : appendS (D1 (fileL log 1) x y false) (X1 log n s) b = (0, D1 (fileL log 1) (x ++ frame b) y false, X1 log (n + 1) (s + (frame b).size)) := by
  have e : (X1 log n s).nm = fileL log 1 := rfl
  have ha := append1 (k := fileL log 1) (x := x) (y := frame b) (s := y) (by rw [frame_size]; omega)
  unfold appendS addS
  rw [if_neg (by omega), if_pos (off1 h y), off_zero (off1 h y), if_neg (show ¬ 16384 ≤ (X1 log n s).size by show ¬ 16384 ≤ s; omega)]
  unfold putS
  dsimp only
  rw [e, if_pos ha.1, ha.2]
  rfl
theorem sync1S {log x : ByteArray} {n s y : Nat} (h : x.size = s) : syncS (D1 (fileL log 1) x y false) (X1 log n s) = (0, D1 (fileL log 1) x x.size false, X1 log n s) := by
  have e : (X1 log n s).nm = fileL log 1 := rfl
  unfold syncS
  rw [if_pos (off1 h y), off_zero (off1 h y)]
  unfold syncT
  rw [e, sync1.1, sync1.2]
  rfl

/-- a log, and its disk, all made behind world W -/
structure LW (W w : World) (b sb ob db m : Nat) (d : Dk) (x : Lg) : Prop where
  wd : WD w b sb ob db m d x
  lb : W.heap.size ≤ b
  lsb : W.heap.size ≤ sb
  lob : W.heap.size ≤ ob
  ldb : W.heap.size ≤ db
  lm : W.heap.size ≤ m
  bel : Below W.heap.size W w
variable {W w w' : World} {b sb ob db m : Nat} {d : Dk} {x : Lg}
theorem LW.inn (h : LW W w b sb ob db m d x) : In W w db m d := ⟨h.wd.dat, h.wd.ok, h.ldb, h.lm, h.bel⟩
theorem LW.quiet (h : LW W w b sb ob db m d x) (hb : Below w.heap.size w w') : LW W w' b sb ob db m d x := ⟨h.wd.below hb, h.lb, h.lsb, h.lob, h.ldb, h.lm, h.bel.trans (hb.mono h.bel.size)⟩
theorem LW.wr {d' : Dk} {x' : Lg} (h : LW W w b sb ob db m d x) (hr : WR w b sb ob db m d' x' w') : ∃ sb' ob', LW W w' b sb' ob' db m d' x' := by
  obtain ⟨s2, o2, h1, h2, h3, h4⟩ := hr
  have hz := h.bel.size
  have a1 := h.lb; have a2 := h.lsb; have a3 := h.lob; have a4 := h.ldb; have a5 := h.lm
  refine ⟨s2, o2, h1, h.lb, by omega, ?_, h.ldb, h.lm, h.bel.trans (h2.below hz (fun k hk => ?_))⟩
  · simp only [List.mem_cons, List.not_mem_nil, or_false] at h4; omega
  · simp only [List.mem_cons, List.not_mem_nil, or_false] at hk; omega
/-- the disk has turned -/
theorem LW.disk {d' : Dk} (h : LW W w b sb ob db m d x) (hd : DAt w' db m d') (hb : But [db, m] w w') (ok : Fit d') : LW W w' b sb ob db m d' x :=
  ⟨h.wd.disk hd hb ok, h.lb, h.lsb, h.lob, h.ldb, h.lm, h.bel.trans (hb.below h.bel.size (fun k hk => by have a4 := h.ldb; have a5 := h.lm; simp only [List.mem_cons, List.not_mem_nil, or_false] at hk; omega))⟩
theorem In.opened {v : Value} {l : List Rc} {d0 : Dk} (h : In W w db m d0) (ho : Opn w w' b sb ob db m d x v l) : LW W w' b sb ob db m d x := by
  have hz := h.bel.size
  have a4 := h.lb
  have a5 := h.lm
  exact ⟨ho.wd, by have := ho.lb; omega, by have := ho.lsb; omega, by have := ho.lob; omega, h.lb, h.lm, h.bel.trans (ho.fr.below hz (fun k hk => by simp only [List.mem_cons, List.not_mem_nil, or_false] at hk; omega))⟩
theorem LW.put (h : LW W w b sb ob db m d x) (hl : x.log.size ≤ 1000) (hla : x.last < 98) (hz : x.size < 16384) {s : ByteArray} (hb : s.size ≤ 65536) (ho : offE d x = 0) {n E : Int} {d' : Dk} {x' : Lg} (hr : appendS d x s = (E, d', x')) (hn : (if E = 0 then (x'.last : Int) else 0) = n) :
    Calls Tryz.prog 10 #[.pointer (some ⟨b, 0, none⟩), .string s] w fun e w' => e = .returned (.tuple #[.int .i64 n, .int .i64 E]) ∧ ∃ sb' ob', LW W w' b sb' ob' db m d' x' :=
  (wappend_put w b sb ob db m d x s h.wd hl hla hz hb ho).mono fun e w' ⟨he, hw⟩ => by
    unfold appendN at he
    rw [hr] at he hw
    exact ⟨by rw [he, ← hn], h.wr hw⟩
theorem LW.off (h : LW W w b sb ob db m d x) (hl : x.log.size ≤ 1000) {s : ByteArray} (hb : s.size ≤ 65536) (ho : offE d x = 7) :
    Calls Tryz.prog 10 #[.pointer (some ⟨b, 0, none⟩), .string s] w fun e w' => e = .returned (.tuple #[.int .i64 0, .int .i64 7]) ∧ ∃ sb' ob', LW W w' b sb' ob' db m d (offX d x) :=
  (wappend_off w b sb ob db m d x s h.wd hl hb (by rw [ho]; decide)).mono fun e w' ⟨he, hw⟩ => by
    have hr : appendS d x s = (7, d, offX d x) := by simp [appendS, show ¬ 65536 < s.size by omega, ho]
    unfold appendN at he
    rw [hr] at he hw
    exact ⟨he, h.wr hw⟩
theorem LW.sync (h : LW W w b sb ob db m d x) (hl : x.log.size ≤ 1000) {E : Int} {d' : Dk} {x' : Lg} (hr : syncS d x = (E, d', x')) :
    Calls Tryz.prog 12 #[.pointer (some ⟨b, 0, none⟩)] w fun e w' => e = .returned (.int .i64 E) ∧ ∃ sb' ob', LW W w' b sb' ob' db m d' x' :=
  (wsync_any w b sb ob db m d x h.wd hl).mono fun e w' ⟨he, hw⟩ => by
    rw [hr] at he hw
    exact ⟨he, h.wr hw⟩
theorem LW.crash0 (h : LW W w b sb ob db m d x) {d' : Dk} (hD : ({ d with fs := crashF [] d.fs, down := true, fuse := 0 } : Dk) = d') :
    Calls Tryz.prog 14 #[.pointer (some ⟨db, 0, none⟩), .slice none 0 0] w fun e w' => e = .returned (.tuple #[]) ∧ LW W w' b sb ob db m d' x := by
  subst hD
  exact (crash_any w db m d none 0 0 [] h.wd.dat h.wd.ok rfl (by omega) (by omega)).mono fun _ _ ⟨he, hd, hb⟩ => ⟨he, h.disk hd hb (h.wd.ok.crash [] true)⟩
theorem LW.start (h : LW W w b sb ob db m d x) {d' : Dk} (hD : startD d = d') :
    Calls Tryz.prog 15 #[.pointer (some ⟨db, 0, none⟩)] w fun e w' => e = .returned (.tuple #[]) ∧ LW W w' b sb ob db m d' x := by
  subst hD
  exact (start_any w db m d h.wd.dat h.wd.ok).mono fun _ _ ⟨he, hd, hb⟩ => ⟨he, h.disk hd hb (h.wd.ok.start)⟩
theorem In.open0 (h : In W w db m Go.Proofs.YtkpoecofblhggaaGreatDoor.d0) {log : ByteArray} (hl : log.size ≤ 1000) (hn : logOk log.data.toList = true) :
    Calls Tryz.prog 9 #[.pointer (some ⟨db, 0, none⟩), .string log] w fun e w' => ∃ b sb ob a c, e = .returned (.tuple #[.pointer (some ⟨b, 0, none⟩), .slice a 0 c, .int .i64 0]) ∧ LW W w' b sb ob db m (D1 (fileL log 1) ⟨#[]⟩ 0 false) (X1 log 0 0) := by
  have hc := create0 (name_file hn 1)
  refine (wopen_new w db m _ log hl hn h.dat h.ok rfl (fun nm hm => by cases hm) rfl hc.1).mono ?_
  rintro e w' ⟨b, sb, ob, v, rfl, ho⟩
  rw [hc.2] at ho
  obtain ⟨a, c, rfl⟩ := own_slice ho.recs
  exact ⟨b, sb, ob, a, c, rfl, h.opened ho⟩
/-- opened again: one file, its frames whole -/
theorem In.open1 {log y : ByteArray} {s0 : Nat} {bs : List ByteArray} (h : In W w db m (D1 (fileL log 1) y s0 false)) (hl : log.size ≤ 1000) (hn : logOk log.data.toList = true) (hy : y.data.toList = frames bs) (hbs : ∀ b ∈ bs, b.size ≤ 65536) (hbl : bs.length ≤ 98) (hys : y.size ≤ 1048576) :
    Calls Tryz.prog 9 #[.pointer (some ⟨db, 0, none⟩), .string log] w fun e w' => ∃ b sb ob a c, e = .returned (.tuple #[.pointer (some ⟨b, 0, none⟩), .slice a bs.length c, .int .i64 0]) ∧ LW W w' b sb ob db m (D1 (fileL log 1) y y.size false) (X1 log bs.length y.size) ∧ RecsAt w' w.heap.size (.slice a bs.length c) (numb 1 bs) := by
  have hT : Text y bs [] := ⟨by rw [hy, List.append_nil], hbs⟩
  have hfl : flen bs = y.size := by rw [← offs_all, hT.len]; simp
  have hE : Ends y (offs bs bs.length) := by
    rw [offs_all, hfl]; exact ends_end (by omega) (Nat.le_refl _) (by omega)
  have hs : scanS (D1 (fileL log 1) y s0 false) log 1 [⟨1, bs, [], y⟩] ⟨1, bs, [], y⟩ = (0, D1 (fileL log 1) y y.size false, X1 log bs.length y.size) := by
    unfold scanS
    rw [if_pos hfl, sync1.2]
    simp [scanX, X1, froms, bods]
  have hnm : names (D1 (fileL log 1) y s0 false).fs = [fileL log 1] := rfl
  have hnu : nums log [fileL log 1] = [1] := by simp [nums, numOf_file (log := log) (k := 1) (by omega) (by omega)]
  have hm : (bods [⟨1, bs, [], y⟩]) = bs := by simp [bods]
  have ho := wopen_scan w db m _ log 1 [⟨1, bs, [], y⟩] ⟨1, bs, [], y⟩ hl hn h.dat h.ok rfl rfl
    (fun nm hm hno => by rw [hnm, List.mem_singleton] at hm; subst hm; rw [numOf_file (by omega) (by omega)] at hno; cases hno)
    (by rw [hnm, hnu, List.mergeSort_singleton]; rfl) rfl ⟨rfl, trivial⟩
    (fun g hg => by rw [List.mem_singleton] at hg; subst hg; exact ⟨hT, hE, ⟨s0, get1 _ _⟩, Nat.le_refl _, by show 1 < 100; omega, hys⟩) (by simp) (by rw [hm]; omega) (by rw [hs])
  rw [hs, hm] at ho
  refine ho.mono ?_
  rintro e w' ⟨b, sb, ob, v, rfl, ho⟩
  have hr := ho.recs
  unfold RecsAt at hr
  rw [numb_len] at hr
  obtain ⟨a, c, rfl⟩ := own_slice hr
  exact ⟨b, sb, ob, a, c, rfl, h.opened ho, ho.recs⟩
end

section
open Go.RowKit Go.Maps

def bsA : ByteArray := ⟨#[97]⟩
def bsB : ByteArray := ⟨#[98]⟩
def bsW : ByteArray := ⟨#[119]⟩
theorem frame_bsA : (frame bsA).size = 9 := by rw [frame_size]; rfl
theorem frame_bsB : (frame bsB).size = 9 := by rw [frame_size]; rfl
theorem cut_app (x y : ByteArray) : (x ++ y).extract 0 x.size = x := ba_ext (by
  rw [ext_list, app_list, ← len_list x, List.drop_zero, Nat.sub_zero, List.take_left])
theorem nil_app (x : ByteArray) : (⟨#[]⟩ : ByteArray) ++ x = x := ba_ext (by rw [app_list]; rfl)
theorem rec1 {w : World} {B : Nat} {a : Option Addr} {c n : Nat} {b : ByteArray} (h : RecsAt w B (.slice a 1 c) (numb n [b])) : ∃ g, a = some ⟨g, 0, none⟩ ∧ w.cell? ⟨g, 0, none⟩ = some (.int .i64 n) ∧ w.cell? ⟨g, 1, none⟩ = some (.string b) := by
  obtain ⟨h1, h2⟩ := h
  rcases h2 with ⟨he, hz⟩ | ⟨g, cap, cur, he, hg, hh, h3, h4, h5, h6⟩
  · simp [numb] at hz
  · injection he with he _ _
    have e6 : cur.toList.take 2 = [.int .i64 n, .string b] := by simpa [numb, rccells] using h6
    have c0 : cur[0]? = some (.int .i64 n) := by rw [← Array.getElem?_toList, ← List.getElem?_take_of_lt (show 0 < 2 by omega), e6]; rfl
    have c1 : cur[1]? = some (.string b) := by rw [← Array.getElem?_toList, ← List.getElem?_take_of_lt (show 1 < 2 by omega), e6]; rfl
    exact ⟨g, he, by simp [World.cell?, hh, c0], by simp [World.cell?, hh, c1]⟩
set_option maxRecDepth 100000 in
set_option maxHeartbeats 2000000 in
theorem awake_any (w : World) : Calls Tryz.prog 7 #[] w fun e w' => e = .returned (.bool true) ∧ Below w.heap.size w w' := by
  have H1 := Lib.hid (fun W => In.new (w0 := w) (w := W))
  go_enter Tryz.func7, Tryz.ntmps7
  go_wp2_with fail
  refine (H1.out _ (Below.refl _ _)).mono ?_
  rintro e w1 ⟨rfl, h1⟩
  have H2 := Lib.hid (h1.open0 (log := bsW) (by decide) (by decide))
  clear h1
  go_wp2_with fail
  refine H2.out.mono ?_
  rintro e w2 ⟨b, sb, ob, a, c, rfl, h2⟩
  have H3 := Lib.hid (h2.put (by decide) (by decide) (by decide) (s := bsA) (by decide) (off1 rfl 0) (put1S rfl (by decide) (by decide)) (n := 1) (by decide))
  clear h2
  go_wp2_with fail
  refine H3.out.mono ?_
  rintro e w3 ⟨rfl, sb3, ob3, h3⟩
  have H4 := Lib.hid (h3.sync (by decide) (sync1S (by rw [ByteArray.size_append]; rfl)))
  clear h3
  go_wp2_with fail
  refine H4.out.mono ?_
  rintro e w4 ⟨rfl, sb4, ob4, h4⟩
  have H5 := Lib.hid (h4.put (by decide) (by decide) (by rw [show (X1 bsW (0 + 1) (0 + (frame bsA).size)).size = 0 + (frame bsA).size from rfl, frame_bsA]; decide) (s := bsB) (by decide) (off1 (by rw [ByteArray.size_append]; rfl) _) (put1S (by rw [ByteArray.size_append]; rfl) (by decide) (by rw [frame_bsA]; decide)) (n := 2) (by decide))
  clear h4
  go_wp2_with fail
  refine H5.out.mono ?_
  rintro e w5 ⟨rfl, sb5, ob5, h5⟩
  have H6 := Lib.hid (h5.crash0 (crash1 (by simp only [ByteArray.size_append, frame_bsB]; omega)))
  clear h5
  go_wp2_with fail
  refine H6.out.mono ?_
  rintro e w6 ⟨rfl, h6⟩
  have hx := cut_app ((⟨#[]⟩ : ByteArray) ++ frame bsA) (frame bsB)
  rw [hx, nil_app] at h6
  have H7 := Lib.hid (h6.start (start1 rfl))
  clear h6
  go_wp2_with fail
  refine H7.out.mono ?_
  rintro e w7 ⟨rfl, h7⟩
  have H8 := Lib.hid (h7.inn.open1 (bs := [bsA]) (by decide) (by decide) (by simp [frames]) (by simp; decide) (by simp) (by rw [frame_bsA]; decide))
  clear h7
  go_wp2_with fail
  refine H8.out.mono ?_
  rintro e w8 ⟨b8, sb8, ob8, a8, c8, rfl, h8, hr8⟩
  obtain ⟨g, rfl, hc0, hc1⟩ := rec1 hr8
  have H9 := Lib.hid (last_any w8 b8 sb8 ob8 _ _ _ _ (h8.wd))
  have HB := Lib.hid h8.bel
  clear hr8 h8
  go_wp2_with fail
  refine H9.out.mono ?_
  rintro e w9 ⟨rfl, rfl⟩
  have hl1 : (X1 bsW [bsA].length (frame bsA).size).last = 1 := rfl
  rw [hl1]
  have hcA : bsA.toList = [97] := by rw [ByteArray.toList_eq]; rfl
  go_wp2_with fail
  exact bodyPost_ret (v := .bool true) (by simp [results, Tryz.results7, go_sem]) rfl ⟨rfl, HB.out⟩
end
end Go.Proofs.YtkpoecofblhggaaGreatDoor
