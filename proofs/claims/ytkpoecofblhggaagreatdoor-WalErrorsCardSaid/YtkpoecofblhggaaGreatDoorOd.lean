/-
  'WalErrors' (printed by mkOd.py).
-/
import Derived.Test.YtkpoecofblhggaaGreatDoorOb
import Derived.Test.YtkpoecofblhggaaGreatDoorOc
namespace Go.Proofs.YtkpoecofblhggaaGreatDoor
open Go.RowKit Go.Maps

def bsF : ByteArray := ⟨#[102, 105, 114, 115, 116]⟩
def bsS : ByteArray := ⟨#[115, 101, 99, 111, 110, 100]⟩
theorem off7 {log x : ByteArray} {n s : Nat} (h : x.size ≠ s) (y : Nat) : offE (D1 (fileL log 1) x y false) (X1 log n s) = 7 := by
  have e : (X1 log n s).nm = fileL log 1 := rfl
  have hne : ¬ (x.size : Int) = s := by omega
  unfold offE wholeB
  rw [e, read1.1, read1.2]
  simp [X1, hne]
theorem offX7 {d : Dk} {x : Lg} (h : offE d x = 7) : (offX d x).dead = true := by
  unfold offE at h
  unfold offX
  split at h <;> rename_i h1
  · rw [if_pos h1]; exact h1
  · rw [if_neg h1]
    split at h <;> rename_i h2
    · cases h
    · rw [if_neg h2]
theorem offX_log (d : Dk) (x : Lg) : (offX d x).log = x.log := by
  unfold offX
  split
  · rfl
  · split <;> rfl
theorem off_dead {d : Dk} {x : Lg} (h : x.dead = true) : offE d x = 7 ∧ offX d x = x := by simp [offE, offX, h]
theorem wal_none (W : World) (T : TypeId) : (W.alloc (.cells #[.pointer none, .string ⟨#[]⟩, .slice none 0 0, .int .i64 0, .bool false] T)).cell? ⟨W.heap.size, 0, none⟩ = some (.pointer none) := by
  unfold World.cell?
  rw [show (W.alloc (.cells #[.pointer none, .string ⟨#[]⟩, .slice none 0 0, .int .i64 0, .bool false] T)).heap[(⟨W.heap.size, 0, none⟩ : Addr).block]? = some (.cells #[.pointer none, .string ⟨#[]⟩, .slice none 0 0, .int .i64 0, .bool false] T (0, 0)) from heap_alloc_new W _]
  rfl
/-- the first k letters are a log's -/
def lowTo (s : ByteArray) (k : Nat) : Bool := (s.data.toList.take k).all lowc
theorem lowTo_next (s : ByteArray) (k : Nat) (hk : k < s.size) : lowTo s (k + 1) = (lowTo s k && lowc s[k]) := by
  have hk' : k < s.data.toList.length := by rw [len_list]; exact hk
  unfold lowTo
  rw [List.take_succ_eq_append_getElem hk', List.all_append]
  simp
  rfl
theorem lowTo_all (s : ByteArray) (h1 : 0 < s.size) (h2 : s.size ≤ 12) : lowTo s s.size = logOk s.data.toList := by
  unfold lowTo logOk
  rw [← len_list s, List.take_length]
  simp [h1, h2]
  rfl
theorem logOk_long (s : ByteArray) (h : ¬ (0 < s.size ∧ s.size ≤ 12)) : logOk s.data.toList = false := by
  unfold logOk
  rw [len_list]
  simp
  intro _ h1
  omega
set_option maxRecDepth 100000 in
set_option maxHeartbeats 2000000 in
theorem we_bad0 (w : World) (name body : ByteArray) (n : Int) (h1 : body.size ≤ 70000) (h2 : name.size ≤ 1000) (h3 : name.size = 0) :
    Calls Tryz.prog 5 #[.string name, .string body, .int .i64 n] w fun e w' => e = .returned (.bool true) ∧ Below w.heap.size w w' := by
  have HLOG := Lib.hid (logOk_long name (by omega))
  go_enter Tryz.func5, Tryz.ntmps5
  go_wp2_with fail
  refine (awake_any _).mono ?_
  rintro e w0 ⟨rfl, hb0⟩
  have HB0 := Lib.hid hb0
  have HNEW := Lib.hid (fun (W : World) (h : Below w0.heap.size w0 W) => (In.new (w0 := w) (HB0.out.trans (h.mono HB0.out.size))))
  clear hb0
  go_wp2_with fail
  go_loop [7, 8] (fun b i => ∃ k : Nat, k ≤ name.size ∧ i = .int .i64 k ∧ b = .bool false) (fun b i => name.size - (intOf i).toNat)
  case atStart => exact ⟨0, Nat.zero_le _, rfl, by first | rfl | (congr 1; simp; omega)⟩
  case round =>
    obtain ⟨k, hk, rfl, rfl⟩ := hrel
    by_cases hlt : k < name.size
    · omega
    · have hk' : k = name.size := by omega
      clear hk'
      go_wp2_with fail
      refine (HNEW.out _ (Below.refl _ _)).mono ?_
      rintro e w1 ⟨rfl, h1⟩
      have HI1 := Lib.hid h1
      clear h1
      go_wp2_with fail
      refine (wopen_nil _ _).mono ?_
      rintro e w2 ⟨rfl, rfl⟩
      go_wp2_with fail
      refine (wopen_arg _ _ _ (by unfold maxLen; omega) HLOG.out).mono ?_
      rintro e w2 ⟨rfl, rfl⟩
      go_wp2_with fail
      refine (wappend_nil _ _).mono ?_
      rintro e w3 ⟨rfl, rfl⟩
      go_wp2_with fail
      refine (wappend_none _ _ _ (wal_none _ _)).mono ?_
      rintro e w3 ⟨rfl, rfl⟩
      go_wp2_with fail
      refine (wsync_nil _).mono ?_
      rintro e w3 ⟨rfl, rfl⟩
      go_wp2_with fail
      refine (drop_nil _ _).mono ?_
      rintro e w3 ⟨rfl, rfl⟩
      go_wp2_with fail
      refine (first_nil _).mono ?_
      rintro e w3 ⟨rfl, rfl⟩
      go_wp2_with fail
      refine (last_nil _).mono ?_
      rintro e w3 ⟨rfl, rfl⟩
      go_wp2_with fail
      have hs0 : Below w.heap.size w w1 := HI1.out.bel
      refine ((HI1.out.alloc _).list).mono ?_
      rintro e w4 ⟨⟨v, rfl, hv⟩, hb4, hi4⟩
      have HB := Lib.hid hi4.bel
      have hv' : ∃ a c, v = .slice a 0 c := by
        obtain ⟨a, c, h⟩ := own_slice hv.1
        exact ⟨a, c, h⟩
      obtain ⟨a, c, rfl⟩ := hv'
      clear hv hb4 hi4 hs0
      go_wp2_with fail
      go_ret
      exact ⟨rfl, HB.out⟩
set_option maxRecDepth 100000 in
set_option maxHeartbeats 2000000 in
theorem we_bad1 (w : World) (name body : ByteArray) (n : Int) (h1 : body.size ≤ 70000) (h2 : name.size ≤ 1000) (h3 : 12 < name.size) :
    Calls Tryz.prog 5 #[.string name, .string body, .int .i64 n] w fun e w' => e = .returned (.bool true) ∧ Below w.heap.size w w' := by
  have HLOG := Lib.hid (logOk_long name (by omega))
  go_enter Tryz.func5, Tryz.ntmps5
  go_wp2_with fail
  refine (awake_any _).mono ?_
  rintro e w0 ⟨rfl, hb0⟩
  have HB0 := Lib.hid hb0
  have HNEW := Lib.hid (fun (W : World) (h : Below w0.heap.size w0 W) => (In.new (w0 := w) (HB0.out.trans (h.mono HB0.out.size))))
  clear hb0
  go_wp2_with fail
  go_loop [7, 8] (fun b i => ∃ k : Nat, k ≤ name.size ∧ i = .int .i64 k ∧ b = .bool false) (fun b i => name.size - (intOf i).toNat)
  case atStart => exact ⟨0, Nat.zero_le _, rfl, by first | rfl | (congr 1; simp; omega)⟩
  case round =>
    obtain ⟨k, hk, rfl, rfl⟩ := hrel
    by_cases hlt : k < name.size
    · go_wp2_with fail
      exact ⟨⟨k + 1, by omega, by go_num, rfl⟩, by simp [intOf]; omega⟩
    · have hk' : k = name.size := by omega
      clear hk'
      go_wp2_with fail
      refine (HNEW.out _ (Below.refl _ _)).mono ?_
      rintro e w1 ⟨rfl, h1⟩
      have HI1 := Lib.hid h1
      clear h1
      go_wp2_with fail
      refine (wopen_nil _ _).mono ?_
      rintro e w2 ⟨rfl, rfl⟩
      go_wp2_with fail
      refine (wopen_arg _ _ _ (by unfold maxLen; omega) HLOG.out).mono ?_
      rintro e w2 ⟨rfl, rfl⟩
      go_wp2_with fail
      refine (wappend_nil _ _).mono ?_
      rintro e w3 ⟨rfl, rfl⟩
      go_wp2_with fail
      refine (wappend_none _ _ _ (wal_none _ _)).mono ?_
      rintro e w3 ⟨rfl, rfl⟩
      go_wp2_with fail
      refine (wsync_nil _).mono ?_
      rintro e w3 ⟨rfl, rfl⟩
      go_wp2_with fail
      refine (drop_nil _ _).mono ?_
      rintro e w3 ⟨rfl, rfl⟩
      go_wp2_with fail
      refine (first_nil _).mono ?_
      rintro e w3 ⟨rfl, rfl⟩
      go_wp2_with fail
      refine (last_nil _).mono ?_
      rintro e w3 ⟨rfl, rfl⟩
      go_wp2_with fail
      have hs0 : Below w.heap.size w w1 := HI1.out.bel
      refine ((HI1.out.alloc _).list).mono ?_
      rintro e w4 ⟨⟨v, rfl, hv⟩, hb4, hi4⟩
      have HB := Lib.hid hi4.bel
      have hv' : ∃ a c, v = .slice a 0 c := by
        obtain ⟨a, c, h⟩ := own_slice hv.1
        exact ⟨a, c, h⟩
      obtain ⟨a, c, rfl⟩ := hv'
      clear hv hb4 hi4 hs0
      go_wp2_with fail
      go_ret
      exact ⟨rfl, HB.out⟩
set_option maxRecDepth 100000 in
set_option maxHeartbeats 2000000 in
theorem we_good (w : World) (name body : ByteArray) (n : Int) (h1 : body.size ≤ 70000) (h2 : name.size ≤ 1000) (h3 : 0 < name.size) (h4 : name.size ≤ 12) :
    Calls Tryz.prog 5 #[.string name, .string body, .int .i64 n] w fun e w' => e = .returned (.bool true) ∧ Below w.heap.size w w' := by
  skip
  go_enter Tryz.func5, Tryz.ntmps5
  go_wp2_with fail
  refine (awake_any _).mono ?_
  rintro e w0 ⟨rfl, hb0⟩
  have HB0 := Lib.hid hb0
  have HNEW := Lib.hid (fun (W : World) (h : Below w0.heap.size w0 W) => (In.new (w0 := w) (HB0.out.trans (h.mono HB0.out.size))))
  clear hb0
  go_wp2_with fail
  go_loop [7, 8] (fun b i => ∃ k : Nat, k ≤ name.size ∧ i = .int .i64 k ∧ ∃ B : Bool, b = .bool B ∧ Hid (B = lowTo name k)) (fun b i => name.size - (intOf i).toNat)
  case atStart => exact ⟨0, Nat.zero_le _, rfl, true, by congr 1; simp; omega, rfl⟩
  case round =>
    obtain ⟨k, hk, rfl, B, rfl, HG⟩ := hrel
    by_cases hlt : k < name.size
    · have HN := Lib.hid (lowTo_next name k hlt)
      have HI := Lib.hid (lowc_iff name[k])
      have HQ := Lib.hid (lowc_not name[k])
      cases B
      · go_wp2_with fail
        refine ⟨⟨k + 1, by omega, by go_num, false, rfl, ?_⟩, by simp [intOf]; omega⟩
        rw [HN.out, ← HG.out]; rfl
      · go_wp2_with fail
        all_goals
          refine ⟨⟨k + 1, by omega, by go_num, _, rfl, ?_⟩, by simp [intOf]; omega⟩
          rw [HN.out, ← HG.out, Bool.true_and]
          have hi := HI.out
          cases hc : lowc name[k]
          · have hno : ¬ (97 ≤ (name[k].toNat : Int) ∧ (name[k].toNat : Int) ≤ 122) := fun h => by rw [hi.2 h] at hc; cases hc
            first | rfl | (show decide _ = false; rw [decide_eq_false_iff_not]; omega)
          · have hyes := hi.1 hc
            first | (show decide _ = true; rw [decide_eq_true_iff]; omega) | (exfalso; omega)
    · have hk' : k = name.size := by omega
      have HL := Lib.hid (show B = logOk name.data.toList by rw [HG.out, hk', lowTo_all name h3 h4])
      clear hk' HG
      cases B
      · have HLOG := Lib.hid HL.out.symm
        go_wp2_with fail
        refine (HNEW.out _ (Below.refl _ _)).mono ?_
        rintro e w1 ⟨rfl, h1⟩
        have HI1 := Lib.hid h1
        clear h1
        go_wp2_with fail
        refine (wopen_nil _ _).mono ?_
        rintro e w2 ⟨rfl, rfl⟩
        go_wp2_with fail
        refine (wopen_arg _ _ _ (by unfold maxLen; omega) HLOG.out).mono ?_
        rintro e w2 ⟨rfl, rfl⟩
        go_wp2_with fail
        refine (wappend_nil _ _).mono ?_
        rintro e w3 ⟨rfl, rfl⟩
        go_wp2_with fail
        refine (wappend_none _ _ _ (wal_none _ _)).mono ?_
        rintro e w3 ⟨rfl, rfl⟩
        go_wp2_with fail
        refine (wsync_nil _).mono ?_
        rintro e w3 ⟨rfl, rfl⟩
        go_wp2_with fail
        refine (drop_nil _ _).mono ?_
        rintro e w3 ⟨rfl, rfl⟩
        go_wp2_with fail
        refine (first_nil _).mono ?_
        rintro e w3 ⟨rfl, rfl⟩
        go_wp2_with fail
        refine (last_nil _).mono ?_
        rintro e w3 ⟨rfl, rfl⟩
        go_wp2_with fail
        have hs0 : Below w.heap.size w w1 := HI1.out.bel
        refine ((HI1.out.alloc _).list).mono ?_
        rintro e w4 ⟨⟨v, rfl, hv⟩, hb4, hi4⟩
        have HB := Lib.hid hi4.bel
        have hv' : ∃ a c, v = .slice a 0 c := by
          obtain ⟨a, c, h⟩ := own_slice hv.1
          exact ⟨a, c, h⟩
        obtain ⟨a, c, rfl⟩ := hv'
        clear hv hb4 hi4 hs0
        go_wp2_with fail
        go_ret
        exact ⟨rfl, HB.out⟩
      · have HLOG := Lib.hid HL.out.symm
        go_wp2_with fail
        refine (HNEW.out _ (Below.refl _ _)).mono ?_
        rintro e w1 ⟨rfl, h1⟩
        have HI1 := Lib.hid h1
        clear h1
        go_wp2_with fail
        refine (wopen_nil _ _).mono ?_
        rintro e w2 ⟨rfl, rfl⟩
        go_wp2_with fail
        refine (HI1.out.open0 (by omega) HLOG.out).mono ?_
        rintro e w2 ⟨b, sb, ob, ra, rc, rfl, hlw⟩
        have HI2 := Lib.hid hlw
        clear hlw
        go_wp2_with fail
        refine (wappend_nil _ _).mono ?_
        rintro e w3 ⟨rfl, rfl⟩
        go_wp2_with fail
        refine (wappend_none _ _ _ (wal_none _ _)).mono ?_
        rintro e w3 ⟨rfl, rfl⟩
        go_wp2_with fail
        refine (wsync_nil _).mono ?_
        rintro e w3 ⟨rfl, rfl⟩
        go_wp2_with fail
        refine (drop_nil _ _).mono ?_
        rintro e w3 ⟨rfl, rfl⟩
        go_wp2_with fail
        refine (first_nil _).mono ?_
        rintro e w3 ⟨rfl, rfl⟩
        go_wp2_with fail
        refine (last_nil _).mono ?_
        rintro e w3 ⟨rfl, rfl⟩
        go_wp2_with fail
        refine ((HI2.out.quiet (bl1 _ _)).put (by show name.size ≤ 1000; omega) (by show 0 < 98; omega) (by show 0 < 16384; omega) (s := bsF) (by decide) (off1 rfl 0) (put1S rfl (by decide) (by decide)) (n := 1) rfl).mono ?_
        rintro e w3 ⟨rfl, sb3, ob3, h3⟩
        have H4 := Lib.hid (h3.crash0 (crash1 (by rw [ByteArray.size_append, frame_size]; show 0 + (8 + 5) ≠ 0; omega)))
        clear h3
        go_wp2_with fail
        refine H4.out.mono ?_
        rintro e w4 ⟨rfl, h4⟩
        have H5 := Lib.hid (wopen_down _ _ _ _ name (by unfold maxLen; omega) HLOG.out h4.wd.dat rfl)
        have HI4 := Lib.hid h4
        clear h4
        go_wp2_with fail
        refine H5.out.mono ?_
        rintro e w5 ⟨rfl, rfl⟩
        go_wp2_with fail
        have hz0 : (((⟨#[]⟩ : ByteArray) ++ frame bsF).extract 0 0).size = 0 := by rw [ByteArray.size_extract]; omega
        refine (HI4.out.start (start1 hz0)).mono ?_
        rintro e w6 ⟨rfl, h6⟩
        have ho7 : offE (D1 (fileL name 1) (((⟨#[]⟩ : ByteArray) ++ frame bsF).extract 0 0) 0 false) (X1 name (0 + 1) (0 + (frame bsF).size)) = 7 := off7 (by rw [hz0, frame_size]; show 0 ≠ 0 + (8 + 5); omega) 0
        have HD7 := Lib.hid (offX7 ho7)
        have H7 := Lib.hid (h6.off (by show name.size ≤ 1000; omega) (s := bsS) (by decide) ho7)
        have HLG := Lib.hid (show (offX (D1 (fileL name 1) (((⟨#[]⟩ : ByteArray) ++ frame bsF).extract 0 0) 0 false) (X1 name (0 + 1) (0 + (frame bsF).size))).log.size ≤ 1000 from by rw [offX_log]; exact h2)
        clear h6 ho7 hz0
        generalize offX _ (X1 name (0 + 1) (0 + (frame bsF).size)) = X at *
        go_wp2_with fail
        refine H7.out.mono ?_
        rintro e w7 ⟨rfl, sb7, ob7, h7⟩
        have H8 := Lib.hid (h7.sync HLG.out (by rw [syncS, if_neg (by rw [(off_dead HD7.out).1]; decide), (off_dead HD7.out).1, (off_dead HD7.out).2]))
        clear h7
        go_wp2_with fail
        refine H8.out.mono ?_
        rintro e w8 ⟨rfl, sb8, ob8, h8⟩
        have H9 := Lib.hid (h8.dropOff HLG.out n (off_dead HD7.out).1)
        clear h8
        go_wp2_with fail
        refine H9.out.mono ?_
        rintro e w9 ⟨rfl, sb9, ob9, h9⟩
        have HB := Lib.hid h9.bel
        clear h9
        go_wp2_with fail
        go_ret
        exact ⟨rfl, HB.out⟩
set_option maxRecDepth 100000 in
theorem we_body (w : World) (name body : ByteArray) (n : Int) (h1 : 70000 < body.size) (hb : body.size ≤ maxLen) (hn : name.size ≤ maxLen) :
    Calls Tryz.prog 5 #[.string name, .string body, .int .i64 n] w fun e w' => e = .returned (.bool true) ∧ Below w.heap.size w w' := by
  unfold maxLen at *
  go_enter Tryz.func5, Tryz.ntmps5
  go_wp2_with fail
  refine (awake_any _).mono ?_
  rintro e w0 ⟨rfl, hb0⟩
  have HB := Lib.hid hb0
  clear hb0
  go_wp2_with fail
  go_ret
  exact ⟨rfl, HB.out⟩
set_option maxRecDepth 100000 in
theorem we_name (w : World) (name body : ByteArray) (n : Int) (h1 : body.size ≤ 70000) (h2 : 1000 < name.size) (hn : name.size ≤ maxLen) :
    Calls Tryz.prog 5 #[.string name, .string body, .int .i64 n] w fun e w' => e = .returned (.bool true) ∧ Below w.heap.size w w' := by
  unfold maxLen at *
  go_enter Tryz.func5, Tryz.ntmps5
  go_wp2_with fail
  refine (awake_any _).mono ?_
  rintro e w0 ⟨rfl, hb0⟩
  have HB := Lib.hid hb0
  clear hb0
  go_wp2_with fail
  go_ret
  exact ⟨rfl, HB.out⟩
theorem walErrors_any (w : World) (name body : ByteArray) (n : Int) (hn : name.size ≤ maxLen) (hb : body.size ≤ maxLen) :
    Calls Tryz.prog 5 #[.string name, .string body, .int .i64 n] w fun e w' => e = .returned (.bool true) ∧ Below w.heap.size w w' := by
  by_cases h1 : 70000 < body.size
  · exact we_body w name body n h1 hb hn
  by_cases h2 : 1000 < name.size
  · exact we_name w name body n (by omega) h2 hn
  by_cases h3 : name.size = 0
  · exact we_bad0 w name body n (by omega) (by omega) h3
  by_cases h4 : 12 < name.size
  · exact we_bad1 w name body n (by omega) (by omega) h4
  exact we_good w name body n (by omega) (by omega) (by omega) (by omega)
end Go.Proofs.YtkpoecofblhggaaGreatDoor
