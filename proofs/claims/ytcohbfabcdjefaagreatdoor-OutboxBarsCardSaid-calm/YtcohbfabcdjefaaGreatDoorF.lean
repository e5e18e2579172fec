/-
  'Create', 'Remove', 'Sync', 'Rename' at a disk that is up, for every argument: each way through.
-/
import Derived.Test.YtcohbfabcdjefaaGreatDoorE
import Derived.BigRegion
namespace Go.Proofs.YtcohbfabcdjefaaGreatDoor
open Go.RowKit Go.Maps

theorem found_some {F : Fs} {k : Nm} {x : Fl} (h : fget F k = some x) : found F k = .agg #[.string x.data, .int .i64 x.syn] ∧ fhas F k = true := by simp [found, h, fhas_get, fval]
theorem found_none {F : Fs} {k : Nm} (h : fget F k = none) : found F k = .agg #[.string ⟨#[]⟩, .int .i64 0] ∧ fhas F k = false := by simp [found, h, fhas_get, zval]
theorem look_some {m : Nat} {F : Fs} {s : ByteArray} (hs : s.size ≤ maxLen) {x : Fl} (hx : fget F s.data.toList = some x) (W : World) (hW : HasMap W m F) :
    (Instr.lookup 58 (.map (some m)) (.string s) true).run Tryz.prog W = .ok (.tuple #[.agg #[.string x.data, .int .i64 x.syn], .bool true]) W := by
  have := hW.look_ok hs
  rwa [(found_some hx).1, (found_some hx).2] at this
theorem look_none {m : Nat} {F : Fs} {s : ByteArray} (hs : s.size ≤ maxLen) (hx : fget F s.data.toList = none) (W : World) (hW : HasMap W m F) :
    (Instr.lookup 58 (.map (some m)) (.string s) true).run Tryz.prog W = .ok (.tuple #[.agg #[.string ⟨#[]⟩, .int .i64 0], .bool false]) W := by
  have := hW.look_ok hs
  rwa [(found_none hx).1, (found_none hx).2] at this
theorem named_is (b : Bool) (s : ByteArray) (hs : s.size ≤ maxLen) (hn : nameB s.data.toList = b) (w : World) :
    Calls Tryz.prog 205 #[.string s] w fun e w' => e = .returned (.bool b) ∧ w = w' := by
  have := named_any s w hs
  rwa [hn] at this

theorem create_down (w : World) (b m : Nat) (d : Dk) (s : ByteArray) (h : DAt w b m d) (_hs : s.size ≤ maxLen) (hd : d.down = true) :
    Calls Tryz.prog 150 #[.pointer (some ⟨b, 0, none⟩), .string s] w fun e w' => e = .returned (.int .i64 7) ∧ Below w.heap.size w w' := by
  obtain ⟨W1, hW1⟩ : ∃ W1, W1 = ((w.alloc (.cells #[.pointer (some ⟨b, 0, none⟩)] 27)).alloc (.cells #[.string s] 9)) := ⟨_, rfl⟩
  have hD1 : DAt W1 b m d := by rw [hW1]; exact ((h.below (bl1 _ _)).below (bl1 _ _))
  have hB1 : Below w.heap.size w W1 := by rw [hW1]; exact bl2 _ _ _ 
  have hp : W1.cell? ⟨w.heap.size, 0, none⟩ = some (.pointer (some ⟨b, 0, none⟩)) := by rw [hW1]; simp [go_sem]
  have pf : W1.frozen? ⟨w.heap.size, 0, none⟩ = false := by rw [hW1]; simp [go_sem]
  have hq0 : W1.cell? ⟨w.heap.size + 1, 0, none⟩ = some (.string s) := by rw [hW1]; simp [go_sem]
  have ql0 : w.heap.size + 1 < W1.heap.size := by rw [hW1]; simp
  have pl : w.heap.size < W1.heap.size := by rw [hW1]; simp; omega
  have hdn : W1.cell? ⟨b, 1, none⟩ = some (.bool true) := by rw [← hd]; exact hD1.c1
  have HB1 := Lib.hid hB1
  have HW := Lib.hid hW1.symm
  clear hD1 hB1 hW1 h hd
  go_enter Tryz.func150, Tryz.ntmps150
  go_wp2_with fail
  rw [HW.out]
  refine (off_down _ b hdn).mono ?_
  rintro e w1 ⟨rfl, rfl⟩
  go_wp2_with fail
  go_ret
  exact ⟨rfl, HB1.out⟩

theorem create_bad_none (w : World) (b m : Nat) (d : Dk) (s : ByteArray) (h : DAt w b m d) (hs : s.size ≤ maxLen) (hd : d.down = false) (hx : fget d.fs s.data.toList = none) (hn : nameB s.data.toList = false) :
    Calls Tryz.prog 150 #[.pointer (some ⟨b, 0, none⟩), .string s] w fun e w' => e = .returned (.int .i64 1) ∧ Below w.heap.size w w' := by
  obtain ⟨W1, hW1⟩ : ∃ W1, W1 = ((w.alloc (.cells #[.pointer (some ⟨b, 0, none⟩)] 27)).alloc (.cells #[.string s] 9)) := ⟨_, rfl⟩
  have hD1 : DAt W1 b m d := by rw [hW1]; exact ((h.below (bl1 _ _)).below (bl1 _ _))
  have hB1 : Below w.heap.size w W1 := by rw [hW1]; exact bl2 _ _ _ 
  have hp : W1.cell? ⟨w.heap.size, 0, none⟩ = some (.pointer (some ⟨b, 0, none⟩)) := by rw [hW1]; simp [go_sem]
  have pf : W1.frozen? ⟨w.heap.size, 0, none⟩ = false := by rw [hW1]; simp [go_sem]
  have hq0 : W1.cell? ⟨w.heap.size + 1, 0, none⟩ = some (.string s) := by rw [hW1]; simp [go_sem]
  have ql0 : w.heap.size + 1 < W1.heap.size := by rw [hW1]; simp
  have pl : w.heap.size < W1.heap.size := by rw [hW1]; simp; omega
  have hdn : W1.cell? ⟨b, 1, none⟩ = some (.bool false) := by rw [← hd]; exact hD1.c1
  have c0 := hD1.c0
  have bl := hD1.lt
  have e1 := look_none hs hx W1.drew hD1.map
  have e2 := look_none hs hx (W1.alloc (.cells #[.string ⟨#[]⟩, .int .i64 0] 215)).drew (hD1.map.alloc _)
  have HD1 := Lib.hid hD1
  have HB1 := Lib.hid hB1
  have HW := Lib.hid hW1.symm
  have HX := Lib.hid hx
  clear hD1 hB1 hW1 h hd hx
  go_enter Tryz.func150, Tryz.ntmps150
  go_wp2_with fail
  rw [HW.out]
  refine (off_up _ b hdn).mono ?_
  rintro e w1 ⟨rfl, rfl⟩
  go_wp2_with fail
  go_region
  all_goals
    have hD2 : DAt (W1.alloc (.cells #[.string ⟨#[]⟩, .int .i64 0] 215)).drew b m d := (HD1.out.below (bl1 _ _)).drew
    have hB2 : Below w.heap.size w (W1.alloc (.cells #[.string ⟨#[]⟩, .int .i64 0] 215)).drew := (HB1.out.alloc HB1.out.size _).drew
    have HD2 := Lib.hid hD2
    have HB2 := Lib.hid hB2
    clear hD2 hB2 e1 e2
    go_wp2_with fail
    refine (named_is false s hs hn _).mono ?_
    rintro e w1 ⟨rfl, rfl⟩
    go_wp2_with fail
    go_ret
    exact ⟨rfl, HB2.out⟩

theorem create_bad_some (w : World) (b m : Nat) (d : Dk) (s : ByteArray) (h : DAt w b m d) (hs : s.size ≤ maxLen) (hd : d.down = false) (y : Fl) (hx : fget d.fs s.data.toList = some y) (hn : nameB s.data.toList = false) :
    Calls Tryz.prog 150 #[.pointer (some ⟨b, 0, none⟩), .string s] w fun e w' => e = .returned (.int .i64 1) ∧ Below w.heap.size w w' := by
  obtain ⟨W1, hW1⟩ : ∃ W1, W1 = ((w.alloc (.cells #[.pointer (some ⟨b, 0, none⟩)] 27)).alloc (.cells #[.string s] 9)) := ⟨_, rfl⟩
  have hD1 : DAt W1 b m d := by rw [hW1]; exact ((h.below (bl1 _ _)).below (bl1 _ _))
  have hB1 : Below w.heap.size w W1 := by rw [hW1]; exact bl2 _ _ _ 
  have hp : W1.cell? ⟨w.heap.size, 0, none⟩ = some (.pointer (some ⟨b, 0, none⟩)) := by rw [hW1]; simp [go_sem]
  have pf : W1.frozen? ⟨w.heap.size, 0, none⟩ = false := by rw [hW1]; simp [go_sem]
  have hq0 : W1.cell? ⟨w.heap.size + 1, 0, none⟩ = some (.string s) := by rw [hW1]; simp [go_sem]
  have ql0 : w.heap.size + 1 < W1.heap.size := by rw [hW1]; simp
  have pl : w.heap.size < W1.heap.size := by rw [hW1]; simp; omega
  have hdn : W1.cell? ⟨b, 1, none⟩ = some (.bool false) := by rw [← hd]; exact hD1.c1
  have c0 := hD1.c0
  have bl := hD1.lt
  have e1 := look_some hs hx W1.drew hD1.map
  have e2 := look_some hs hx (W1.alloc (.cells #[.string ⟨#[]⟩, .int .i64 0] 215)).drew (hD1.map.alloc _)
  have HD1 := Lib.hid hD1
  have HB1 := Lib.hid hB1
  have HW := Lib.hid hW1.symm
  have HX := Lib.hid hx
  clear hD1 hB1 hW1 h hd hx
  go_enter Tryz.func150, Tryz.ntmps150
  go_wp2_with fail
  rw [HW.out]
  refine (off_up _ b hdn).mono ?_
  rintro e w1 ⟨rfl, rfl⟩
  go_wp2_with fail
  go_region
  all_goals
    have hD2 : DAt (W1.alloc (.cells #[.string y.data, .int .i64 y.syn] 215)).drew b m d := (HD1.out.below (bl1 _ _)).drew
    have hB2 : Below w.heap.size w (W1.alloc (.cells #[.string y.data, .int .i64 y.syn] 215)).drew := (HB1.out.alloc HB1.out.size _).drew
    have HD2 := Lib.hid hD2
    have HB2 := Lib.hid hB2
    clear hD2 hB2 e1 e2
    go_wp2_with fail
    refine (named_is false s hs hn _).mono ?_
    rintro e w1 ⟨rfl, rfl⟩
    go_wp2_with fail
    go_ret
    exact ⟨rfl, HB2.out⟩

theorem create_there (w : World) (b m : Nat) (d : Dk) (s : ByteArray) (h : DAt w b m d) (hs : s.size ≤ maxLen) (hd : d.down = false) (y : Fl) (hx : fget d.fs s.data.toList = some y) (hn : nameB s.data.toList = true) :
    Calls Tryz.prog 150 #[.pointer (some ⟨b, 0, none⟩), .string s] w fun e w' => e = .returned (.int .i64 5) ∧ Below w.heap.size w w' := by
  obtain ⟨W1, hW1⟩ : ∃ W1, W1 = ((w.alloc (.cells #[.pointer (some ⟨b, 0, none⟩)] 27)).alloc (.cells #[.string s] 9)) := ⟨_, rfl⟩
  have hD1 : DAt W1 b m d := by rw [hW1]; exact ((h.below (bl1 _ _)).below (bl1 _ _))
  have hB1 : Below w.heap.size w W1 := by rw [hW1]; exact bl2 _ _ _ 
  have hp : W1.cell? ⟨w.heap.size, 0, none⟩ = some (.pointer (some ⟨b, 0, none⟩)) := by rw [hW1]; simp [go_sem]
  have pf : W1.frozen? ⟨w.heap.size, 0, none⟩ = false := by rw [hW1]; simp [go_sem]
  have hq0 : W1.cell? ⟨w.heap.size + 1, 0, none⟩ = some (.string s) := by rw [hW1]; simp [go_sem]
  have ql0 : w.heap.size + 1 < W1.heap.size := by rw [hW1]; simp
  have pl : w.heap.size < W1.heap.size := by rw [hW1]; simp; omega
  have hdn : W1.cell? ⟨b, 1, none⟩ = some (.bool false) := by rw [← hd]; exact hD1.c1
  have c0 := hD1.c0
  have bl := hD1.lt
  have e1 := look_some hs hx W1.drew hD1.map
  have e2 := look_some hs hx (W1.alloc (.cells #[.string ⟨#[]⟩, .int .i64 0] 215)).drew (hD1.map.alloc _)
  have HD1 := Lib.hid hD1
  have HB1 := Lib.hid hB1
  have HW := Lib.hid hW1.symm
  have HX := Lib.hid hx
  clear hD1 hB1 hW1 h hd hx
  go_enter Tryz.func150, Tryz.ntmps150
  go_wp2_with fail
  rw [HW.out]
  refine (off_up _ b hdn).mono ?_
  rintro e w1 ⟨rfl, rfl⟩
  go_wp2_with fail
  go_region
  all_goals
    have hD2 : DAt (W1.alloc (.cells #[.string y.data, .int .i64 y.syn] 215)).drew b m d := (HD1.out.below (bl1 _ _)).drew
    have hB2 : Below w.heap.size w (W1.alloc (.cells #[.string y.data, .int .i64 y.syn] 215)).drew := (HB1.out.alloc HB1.out.size _).drew
    have HD2 := Lib.hid hD2
    have HB2 := Lib.hid hB2
    clear hD2 hB2 e1 e2
    go_wp2_with fail
    refine (named_is true s hs hn _).mono ?_
    rintro e w1 ⟨rfl, rfl⟩
    go_wp2_with fail
    go_ret
    exact ⟨rfl, HB2.out⟩

theorem create_full (w : World) (b m : Nat) (d : Dk) (s : ByteArray) (h : DAt w b m d) (hs : s.size ≤ maxLen) (hd : d.down = false) (hx : fget d.fs s.data.toList = none) (hn : nameB s.data.toList = true) (hf : 256 ≤ d.fs.length) :
    Calls Tryz.prog 150 #[.pointer (some ⟨b, 0, none⟩), .string s] w fun e w' => e = .returned (.int .i64 6) ∧ Below w.heap.size w w' := by
  obtain ⟨W1, hW1⟩ : ∃ W1, W1 = ((w.alloc (.cells #[.pointer (some ⟨b, 0, none⟩)] 27)).alloc (.cells #[.string s] 9)) := ⟨_, rfl⟩
  have hD1 : DAt W1 b m d := by rw [hW1]; exact ((h.below (bl1 _ _)).below (bl1 _ _))
  have hB1 : Below w.heap.size w W1 := by rw [hW1]; exact bl2 _ _ _ 
  have hp : W1.cell? ⟨w.heap.size, 0, none⟩ = some (.pointer (some ⟨b, 0, none⟩)) := by rw [hW1]; simp [go_sem]
  have pf : W1.frozen? ⟨w.heap.size, 0, none⟩ = false := by rw [hW1]; simp [go_sem]
  have hq0 : W1.cell? ⟨w.heap.size + 1, 0, none⟩ = some (.string s) := by rw [hW1]; simp [go_sem]
  have ql0 : w.heap.size + 1 < W1.heap.size := by rw [hW1]; simp
  have pl : w.heap.size < W1.heap.size := by rw [hW1]; simp; omega
  have hdn : W1.cell? ⟨b, 1, none⟩ = some (.bool false) := by rw [← hd]; exact hD1.c1
  have c0 := hD1.c0
  have bl := hD1.lt
  have e1 := look_none hs hx W1.drew hD1.map
  have e2 := look_none hs hx (W1.alloc (.cells #[.string ⟨#[]⟩, .int .i64 0] 215)).drew (hD1.map.alloc _)
  have HD1 := Lib.hid hD1
  have HB1 := Lib.hid hB1
  have HW := Lib.hid hW1.symm
  have HX := Lib.hid hx
  clear hD1 hB1 hW1 h hd hx
  go_enter Tryz.func150, Tryz.ntmps150
  go_wp2_with fail
  rw [HW.out]
  refine (off_up _ b hdn).mono ?_
  rintro e w1 ⟨rfl, rfl⟩
  go_wp2_with fail
  go_region
  all_goals
    have hD2 : DAt (W1.alloc (.cells #[.string ⟨#[]⟩, .int .i64 0] 215)).drew b m d := (HD1.out.below (bl1 _ _)).drew
    have hB2 : Below w.heap.size w (W1.alloc (.cells #[.string ⟨#[]⟩, .int .i64 0] 215)).drew := (HB1.out.alloc HB1.out.size _).drew
    have HD2 := Lib.hid hD2
    have HB2 := Lib.hid hB2
    clear hD2 hB2 e1 e2
    have e3 := HD2.out.map.len 3
    have hf' : (256 : Int) ≤ d.fs.length := by omega
    have k0 := HD2.out.c0
    go_wp2_with fail
    refine (named_is true s hs hn _).mono ?_
    rintro e w1 ⟨rfl, rfl⟩
    go_wp2_with fail
    go_ret
    exact ⟨rfl, HB2.out⟩

theorem create_go (w : World) (b m : Nat) (d : Dk) (s : ByteArray) (h : DAt w b m d) (hs : s.size ≤ maxLen) (hd : d.down = false) (hx : fget d.fs s.data.toList = none) (hn : nameB s.data.toList = true) (hf : d.fs.length < 256) (hlo : 0 ≤ d.fuse) (hhi : d.fuse ≤ 9223372036854775807) (hlen : d.fs.length ≤ 256) :
    Calls Tryz.prog 150 #[.pointer (some ⟨b, 0, none⟩), .string s] w fun e w' => e = .returned (.int .i64 (chgE d)) ∧ DAt w' b m (chg d (fun F => fput F s.data.toList ⟨⟨#[]⟩, 0⟩) false) ∧ But [b, m] w w' := by
  obtain ⟨W1, hW1⟩ : ∃ W1, W1 = ((w.alloc (.cells #[.pointer (some ⟨b, 0, none⟩)] 27)).alloc (.cells #[.string s] 9)) := ⟨_, rfl⟩
  have hD1 : DAt W1 b m d := by rw [hW1]; exact ((h.below (bl1 _ _)).below (bl1 _ _))
  have hB1 : Below w.heap.size w W1 := by rw [hW1]; exact bl2 _ _ _ 
  have hp : W1.cell? ⟨w.heap.size, 0, none⟩ = some (.pointer (some ⟨b, 0, none⟩)) := by rw [hW1]; simp [go_sem]
  have pf : W1.frozen? ⟨w.heap.size, 0, none⟩ = false := by rw [hW1]; simp [go_sem]
  have hq0 : W1.cell? ⟨w.heap.size + 1, 0, none⟩ = some (.string s) := by rw [hW1]; simp [go_sem]
  have ql0 : w.heap.size + 1 < W1.heap.size := by rw [hW1]; simp
  have pl : w.heap.size < W1.heap.size := by rw [hW1]; simp; omega
  have hdn : W1.cell? ⟨b, 1, none⟩ = some (.bool false) := by rw [← hd]; exact hD1.c1
  have hlt := h.lt
  have c0 := hD1.c0
  have bl := hD1.lt
  have e1 := look_none hs hx W1.drew hD1.map
  have e2 := look_none hs hx (W1.alloc (.cells #[.string ⟨#[]⟩, .int .i64 0] 215)).drew (hD1.map.alloc _)
  have HD1 := Lib.hid hD1
  have HB1 := Lib.hid hB1
  have HW := Lib.hid hW1.symm
  have HX := Lib.hid hx
  clear hD1 hB1 hW1 h hd hx
  go_enter Tryz.func150, Tryz.ntmps150
  go_wp2_with fail
  rw [HW.out]
  refine (off_up _ b hdn).mono ?_
  rintro e w1 ⟨rfl, rfl⟩
  go_wp2_with fail
  go_region
  all_goals
    have hD2 : DAt (W1.alloc (.cells #[.string ⟨#[]⟩, .int .i64 0] 215)).drew b m d := (HD1.out.below (bl1 _ _)).drew
    have hB2 : Below w.heap.size w (W1.alloc (.cells #[.string ⟨#[]⟩, .int .i64 0] 215)).drew := (HB1.out.alloc HB1.out.size _).drew
    have HD2 := Lib.hid hD2
    have HB2 := Lib.hid hB2
    clear hD2 hB2 e1 e2
    have e3 := HD2.out.map.len 3
    have hf' : decide ((256 : Int) ≤ d.fs.length) = false := by rw [decide_eq_false_iff_not]; omega
    have HFF := Lib.hid hf
    have HLL := Lib.hid hlen
    have k0 := HD2.out.c0
    clear hf hlen
    go_wp2_with fail
    refine (named_is true s hs hn _).mono ?_
    rintro e w1 ⟨rfl, rfl⟩
    have hne : b ≠ w.heap.size ∧ b ≠ w.heap.size + 1 := ⟨Nat.ne_of_lt hlt, by omega⟩
    have HNE := Lib.hid hne
    have hcap : (W1.alloc (.cells #[.string ⟨#[]⟩, .int .i64 0] 215)).drew.cell? ⟨w.heap.size, 0, none⟩ = some (.pointer (some ⟨b, 0, none⟩)) ∧ (W1.alloc (.cells #[.string ⟨#[]⟩, .int .i64 0] 215)).drew.cell? ⟨w.heap.size + 1, 0, none⟩ = some (.string s) := ⟨by simp [go_sem, *], by simp [go_sem, *]⟩
    have HCAP := Lib.hid hcap
    clear hne hcap
    go_wp2_with fail
    refine (change_Create _ b m (w.heap.size) (w.heap.size + 1) d HD2.out (fun F => fput F s.data.toList ⟨⟨#[]⟩, 0⟩) (fun W => W.cell? ⟨w.heap.size, 0, none⟩ = some (.pointer (some ⟨b, 0, none⟩)) ∧ W.cell? ⟨w.heap.size + 1, 0, none⟩ = some (.string s)) HCAP.out (fun W o v hC => ?_) (fun W d' hd' hfs hC => ?_) hlo hhi).mono ?_
    · exact ⟨(World.cell?_setCell_other _ _ _ _ (fun e => HNE.out.1 (by injection e))).trans hC.1, (World.cell?_setCell_other _ _ _ _ (fun e => HNE.out.2 (by injection e))).trans hC.2⟩
    · exact create_fn W b m _ _ d' s hd' hs (by rw [hfs]; have := HFF.out; unfold maxLen; omega) hC.1 hC.2
    · rintro e w' ⟨rfl, hd', hb'⟩
      have HE := Lib.hid (show DAt w' b m _ ∧ But [b, m] w w' from ⟨hd', (But.of_below HB2.out).trans hb'⟩)
      clear hd' hb'
      go_wp2_with fail
      go_ret
      exact ⟨rfl, HE.out⟩

theorem remove_down (w : World) (b m : Nat) (d : Dk) (s : ByteArray) (h : DAt w b m d) (_hs : s.size ≤ maxLen) (hd : d.down = true) :
    Calls Tryz.prog 78 #[.pointer (some ⟨b, 0, none⟩), .string s] w fun e w' => e = .returned (.int .i64 7) ∧ Below w.heap.size w w' := by
  obtain ⟨W1, hW1⟩ : ∃ W1, W1 = ((w.alloc (.cells #[.pointer (some ⟨b, 0, none⟩)] 27)).alloc (.cells #[.string s] 9)) := ⟨_, rfl⟩
  have hD1 : DAt W1 b m d := by rw [hW1]; exact ((h.below (bl1 _ _)).below (bl1 _ _))
  have hB1 : Below w.heap.size w W1 := by rw [hW1]; exact bl2 _ _ _ 
  have hp : W1.cell? ⟨w.heap.size, 0, none⟩ = some (.pointer (some ⟨b, 0, none⟩)) := by rw [hW1]; simp [go_sem]
  have pf : W1.frozen? ⟨w.heap.size, 0, none⟩ = false := by rw [hW1]; simp [go_sem]
  have hq0 : W1.cell? ⟨w.heap.size + 1, 0, none⟩ = some (.string s) := by rw [hW1]; simp [go_sem]
  have ql0 : w.heap.size + 1 < W1.heap.size := by rw [hW1]; simp
  have pl : w.heap.size < W1.heap.size := by rw [hW1]; simp; omega
  have hdn : W1.cell? ⟨b, 1, none⟩ = some (.bool true) := by rw [← hd]; exact hD1.c1
  have HB1 := Lib.hid hB1
  have HW := Lib.hid hW1.symm
  clear hD1 hB1 hW1 h hd
  go_enter Tryz.func78, Tryz.ntmps78
  go_wp2_with fail
  rw [HW.out]
  refine (off_down _ b hdn).mono ?_
  rintro e w1 ⟨rfl, rfl⟩
  go_wp2_with fail
  go_ret
  exact ⟨rfl, HB1.out⟩

theorem remove_none (w : World) (b m : Nat) (d : Dk) (s : ByteArray) (h : DAt w b m d) (hs : s.size ≤ maxLen) (hd : d.down = false) (hx : fget d.fs s.data.toList = none) :
    Calls Tryz.prog 78 #[.pointer (some ⟨b, 0, none⟩), .string s] w fun e w' => e = .returned (.int .i64 4) ∧ Below w.heap.size w w' := by
  obtain ⟨W1, hW1⟩ : ∃ W1, W1 = ((w.alloc (.cells #[.pointer (some ⟨b, 0, none⟩)] 27)).alloc (.cells #[.string s] 9)) := ⟨_, rfl⟩
  have hD1 : DAt W1 b m d := by rw [hW1]; exact ((h.below (bl1 _ _)).below (bl1 _ _))
  have hB1 : Below w.heap.size w W1 := by rw [hW1]; exact bl2 _ _ _ 
  have hp : W1.cell? ⟨w.heap.size, 0, none⟩ = some (.pointer (some ⟨b, 0, none⟩)) := by rw [hW1]; simp [go_sem]
  have pf : W1.frozen? ⟨w.heap.size, 0, none⟩ = false := by rw [hW1]; simp [go_sem]
  have hq0 : W1.cell? ⟨w.heap.size + 1, 0, none⟩ = some (.string s) := by rw [hW1]; simp [go_sem]
  have ql0 : w.heap.size + 1 < W1.heap.size := by rw [hW1]; simp
  have pl : w.heap.size < W1.heap.size := by rw [hW1]; simp; omega
  have hdn : W1.cell? ⟨b, 1, none⟩ = some (.bool false) := by rw [← hd]; exact hD1.c1
  have c0 := hD1.c0
  have bl := hD1.lt
  have e1 := look_none hs hx W1.drew hD1.map
  have e2 := look_none hs hx (W1.alloc (.cells #[.string ⟨#[]⟩, .int .i64 0] 215)).drew (hD1.map.alloc _)
  have HD1 := Lib.hid hD1
  have HB1 := Lib.hid hB1
  have HW := Lib.hid hW1.symm
  have HX := Lib.hid hx
  clear hD1 hB1 hW1 h hd hx
  go_enter Tryz.func78, Tryz.ntmps78
  go_wp2_with fail
  rw [HW.out]
  refine (off_up _ b hdn).mono ?_
  rintro e w1 ⟨rfl, rfl⟩
  go_wp2_with fail
  go_region
  all_goals
    have hD2 : DAt (W1.alloc (.cells #[.string ⟨#[]⟩, .int .i64 0] 215)).drew b m d := (HD1.out.below (bl1 _ _)).drew
    have hB2 : Below w.heap.size w (W1.alloc (.cells #[.string ⟨#[]⟩, .int .i64 0] 215)).drew := (HB1.out.alloc HB1.out.size _).drew
    have HD2 := Lib.hid hD2
    have HB2 := Lib.hid hB2
    clear hD2 hB2 e1 e2
    go_wp2_with fail
    go_ret
    exact ⟨rfl, HB2.out⟩

theorem remove_go (w : World) (b m : Nat) (d : Dk) (s : ByteArray) (h : DAt w b m d) (hs : s.size ≤ maxLen) (hd : d.down = false) (y : Fl) (hx : fget d.fs s.data.toList = some y) (hlo : 0 ≤ d.fuse) (hhi : d.fuse ≤ 9223372036854775807) (_hlen : d.fs.length ≤ 256) :
    Calls Tryz.prog 78 #[.pointer (some ⟨b, 0, none⟩), .string s] w fun e w' => e = .returned (.int .i64 (chgE d)) ∧ DAt w' b m (chg d (fun F => fdel F s.data.toList) false) ∧ But [b, m] w w' := by
  obtain ⟨W1, hW1⟩ : ∃ W1, W1 = ((w.alloc (.cells #[.pointer (some ⟨b, 0, none⟩)] 27)).alloc (.cells #[.string s] 9)) := ⟨_, rfl⟩
  have hD1 : DAt W1 b m d := by rw [hW1]; exact ((h.below (bl1 _ _)).below (bl1 _ _))
  have hB1 : Below w.heap.size w W1 := by rw [hW1]; exact bl2 _ _ _ 
  have hp : W1.cell? ⟨w.heap.size, 0, none⟩ = some (.pointer (some ⟨b, 0, none⟩)) := by rw [hW1]; simp [go_sem]
  have pf : W1.frozen? ⟨w.heap.size, 0, none⟩ = false := by rw [hW1]; simp [go_sem]
  have hq0 : W1.cell? ⟨w.heap.size + 1, 0, none⟩ = some (.string s) := by rw [hW1]; simp [go_sem]
  have ql0 : w.heap.size + 1 < W1.heap.size := by rw [hW1]; simp
  have pl : w.heap.size < W1.heap.size := by rw [hW1]; simp; omega
  have hdn : W1.cell? ⟨b, 1, none⟩ = some (.bool false) := by rw [← hd]; exact hD1.c1
  have hlt := h.lt
  have c0 := hD1.c0
  have bl := hD1.lt
  have e1 := look_some hs hx W1.drew hD1.map
  have e2 := look_some hs hx (W1.alloc (.cells #[.string ⟨#[]⟩, .int .i64 0] 215)).drew (hD1.map.alloc _)
  have HD1 := Lib.hid hD1
  have HB1 := Lib.hid hB1
  have HW := Lib.hid hW1.symm
  have HX := Lib.hid hx
  clear hD1 hB1 hW1 h hd hx
  go_enter Tryz.func78, Tryz.ntmps78
  go_wp2_with fail
  rw [HW.out]
  refine (off_up _ b hdn).mono ?_
  rintro e w1 ⟨rfl, rfl⟩
  go_wp2_with fail
  go_region
  all_goals
    have hD2 : DAt (W1.alloc (.cells #[.string y.data, .int .i64 y.syn] 215)).drew b m d := (HD1.out.below (bl1 _ _)).drew
    have hB2 : Below w.heap.size w (W1.alloc (.cells #[.string y.data, .int .i64 y.syn] 215)).drew := (HB1.out.alloc HB1.out.size _).drew
    have HD2 := Lib.hid hD2
    have HB2 := Lib.hid hB2
    clear hD2 hB2 e1 e2
    have hne : b ≠ w.heap.size ∧ b ≠ w.heap.size + 1 := ⟨Nat.ne_of_lt hlt, by omega⟩
    have HNE := Lib.hid hne
    have hcap : (W1.alloc (.cells #[.string y.data, .int .i64 y.syn] 215)).drew.cell? ⟨w.heap.size, 0, none⟩ = some (.pointer (some ⟨b, 0, none⟩)) ∧ (W1.alloc (.cells #[.string y.data, .int .i64 y.syn] 215)).drew.cell? ⟨w.heap.size + 1, 0, none⟩ = some (.string s) := ⟨by simp [go_sem, *], by simp [go_sem, *]⟩
    have HCAP := Lib.hid hcap
    clear hne hcap
    have k0 := HD2.out.c0
    go_wp2_with fail
    refine (change_Remove _ b m (w.heap.size) (w.heap.size + 1) d HD2.out (fun F => fdel F s.data.toList) (fun W => W.cell? ⟨w.heap.size, 0, none⟩ = some (.pointer (some ⟨b, 0, none⟩)) ∧ W.cell? ⟨w.heap.size + 1, 0, none⟩ = some (.string s)) HCAP.out (fun W o v hC => ?_) (fun W d' hd' hfs hC => ?_) hlo hhi).mono ?_
    · exact ⟨(World.cell?_setCell_other _ _ _ _ (fun e => HNE.out.1 (by injection e))).trans hC.1, (World.cell?_setCell_other _ _ _ _ (fun e => HNE.out.2 (by injection e))).trans hC.2⟩
    · have _ := y; exact remove_fn W b m _ _ d' s hd' hs hC.1 hC.2
    · rintro e w' ⟨rfl, hd', hb'⟩
      have HE := Lib.hid (show DAt w' b m _ ∧ But [b, m] w w' from ⟨hd', (But.of_below HB2.out).trans hb'⟩)
      clear hd' hb'
      go_wp2_with fail
      go_ret
      exact ⟨rfl, HE.out⟩

theorem sync_down (w : World) (b m : Nat) (d : Dk) (s : ByteArray) (h : DAt w b m d) (_hs : s.size ≤ maxLen) (hd : d.down = true) :
    Calls Tryz.prog 151 #[.pointer (some ⟨b, 0, none⟩), .string s] w fun e w' => e = .returned (.int .i64 7) ∧ Below w.heap.size w w' := by
  obtain ⟨W1, hW1⟩ : ∃ W1, W1 = ((w.alloc (.cells #[.pointer (some ⟨b, 0, none⟩)] 27)).alloc (.cells #[.string s] 9)) := ⟨_, rfl⟩
  have hD1 : DAt W1 b m d := by rw [hW1]; exact ((h.below (bl1 _ _)).below (bl1 _ _))
  have hB1 : Below w.heap.size w W1 := by rw [hW1]; exact bl2 _ _ _ 
  have hp : W1.cell? ⟨w.heap.size, 0, none⟩ = some (.pointer (some ⟨b, 0, none⟩)) := by rw [hW1]; simp [go_sem]
  have pf : W1.frozen? ⟨w.heap.size, 0, none⟩ = false := by rw [hW1]; simp [go_sem]
  have hq0 : W1.cell? ⟨w.heap.size + 1, 0, none⟩ = some (.string s) := by rw [hW1]; simp [go_sem]
  have ql0 : w.heap.size + 1 < W1.heap.size := by rw [hW1]; simp
  have pl : w.heap.size < W1.heap.size := by rw [hW1]; simp; omega
  have hdn : W1.cell? ⟨b, 1, none⟩ = some (.bool true) := by rw [← hd]; exact hD1.c1
  have HB1 := Lib.hid hB1
  have HW := Lib.hid hW1.symm
  clear hD1 hB1 hW1 h hd
  go_enter Tryz.func151, Tryz.ntmps151
  go_wp2_with fail
  rw [HW.out]
  refine (off_down _ b hdn).mono ?_
  rintro e w1 ⟨rfl, rfl⟩
  go_wp2_with fail
  go_ret
  exact ⟨rfl, HB1.out⟩

theorem sync_none (w : World) (b m : Nat) (d : Dk) (s : ByteArray) (h : DAt w b m d) (hs : s.size ≤ maxLen) (hd : d.down = false) (hx : fget d.fs s.data.toList = none) :
    Calls Tryz.prog 151 #[.pointer (some ⟨b, 0, none⟩), .string s] w fun e w' => e = .returned (.int .i64 4) ∧ Below w.heap.size w w' := by
  obtain ⟨W1, hW1⟩ : ∃ W1, W1 = ((w.alloc (.cells #[.pointer (some ⟨b, 0, none⟩)] 27)).alloc (.cells #[.string s] 9)) := ⟨_, rfl⟩
  have hD1 : DAt W1 b m d := by rw [hW1]; exact ((h.below (bl1 _ _)).below (bl1 _ _))
  have hB1 : Below w.heap.size w W1 := by rw [hW1]; exact bl2 _ _ _ 
  have hp : W1.cell? ⟨w.heap.size, 0, none⟩ = some (.pointer (some ⟨b, 0, none⟩)) := by rw [hW1]; simp [go_sem]
  have pf : W1.frozen? ⟨w.heap.size, 0, none⟩ = false := by rw [hW1]; simp [go_sem]
  have hq0 : W1.cell? ⟨w.heap.size + 1, 0, none⟩ = some (.string s) := by rw [hW1]; simp [go_sem]
  have ql0 : w.heap.size + 1 < W1.heap.size := by rw [hW1]; simp
  have pl : w.heap.size < W1.heap.size := by rw [hW1]; simp; omega
  have hdn : W1.cell? ⟨b, 1, none⟩ = some (.bool false) := by rw [← hd]; exact hD1.c1
  have c0 := hD1.c0
  have bl := hD1.lt
  have e1 := look_none hs hx W1.drew hD1.map
  have e2 := look_none hs hx (W1.alloc (.cells #[.string ⟨#[]⟩, .int .i64 0] 215)).drew (hD1.map.alloc _)
  have HD1 := Lib.hid hD1
  have HB1 := Lib.hid hB1
  have HW := Lib.hid hW1.symm
  have HX := Lib.hid hx
  clear hD1 hB1 hW1 h hd hx
  go_enter Tryz.func151, Tryz.ntmps151
  go_wp2_with fail
  rw [HW.out]
  refine (off_up _ b hdn).mono ?_
  rintro e w1 ⟨rfl, rfl⟩
  go_wp2_with fail
  go_region
  all_goals
    have hD2 : DAt (W1.alloc (.cells #[.string ⟨#[]⟩, .int .i64 0] 215)).drew b m d := (HD1.out.below (bl1 _ _)).drew
    have hB2 : Below w.heap.size w (W1.alloc (.cells #[.string ⟨#[]⟩, .int .i64 0] 215)).drew := (HB1.out.alloc HB1.out.size _).drew
    have HD2 := Lib.hid hD2
    have HB2 := Lib.hid hB2
    clear hD2 hB2 e1 e2
    go_wp2_with fail
    go_ret
    exact ⟨rfl, HB2.out⟩

theorem sync_go (w : World) (b m : Nat) (d : Dk) (s : ByteArray) (h : DAt w b m d) (hs : s.size ≤ maxLen) (hd : d.down = false) (y : Fl) (hx : fget d.fs s.data.toList = some y) (hlo : 0 ≤ d.fuse) (hhi : d.fuse ≤ 9223372036854775807) (hlen : d.fs.length ≤ 256) :
    Calls Tryz.prog 151 #[.pointer (some ⟨b, 0, none⟩), .string s] w fun e w' => e = .returned (.int .i64 (chgE d)) ∧ DAt w' b m (chg d (fun F => fput F s.data.toList ⟨y.data, y.data.size⟩) false) ∧ But [b, m] w w' := by
  obtain ⟨W1, hW1⟩ : ∃ W1, W1 = ((w.alloc (.cells #[.pointer (some ⟨b, 0, none⟩)] 27)).alloc (.cells #[.string s] 9)) := ⟨_, rfl⟩
  have hD1 : DAt W1 b m d := by rw [hW1]; exact ((h.below (bl1 _ _)).below (bl1 _ _))
  have hB1 : Below w.heap.size w W1 := by rw [hW1]; exact bl2 _ _ _ 
  have hp : W1.cell? ⟨w.heap.size, 0, none⟩ = some (.pointer (some ⟨b, 0, none⟩)) := by rw [hW1]; simp [go_sem]
  have pf : W1.frozen? ⟨w.heap.size, 0, none⟩ = false := by rw [hW1]; simp [go_sem]
  have hq0 : W1.cell? ⟨w.heap.size + 1, 0, none⟩ = some (.string s) := by rw [hW1]; simp [go_sem]
  have ql0 : w.heap.size + 1 < W1.heap.size := by rw [hW1]; simp
  have pl : w.heap.size < W1.heap.size := by rw [hW1]; simp; omega
  have hdn : W1.cell? ⟨b, 1, none⟩ = some (.bool false) := by rw [← hd]; exact hD1.c1
  have hlt := h.lt
  have c0 := hD1.c0
  have bl := hD1.lt
  have e1 := look_some hs hx W1.drew hD1.map
  have e2 := look_some hs hx (W1.alloc (.cells #[.string ⟨#[]⟩, .int .i64 0] 215)).drew (hD1.map.alloc _)
  have HD1 := Lib.hid hD1
  have HB1 := Lib.hid hB1
  have HW := Lib.hid hW1.symm
  have HX := Lib.hid hx
  clear hD1 hB1 hW1 h hd hx
  go_enter Tryz.func151, Tryz.ntmps151
  go_wp2_with fail
  rw [HW.out]
  refine (off_up _ b hdn).mono ?_
  rintro e w1 ⟨rfl, rfl⟩
  go_wp2_with fail
  go_region
  all_goals
    have hD2 : DAt (W1.alloc (.cells #[.string y.data, .int .i64 y.syn] 215)).drew b m d := (HD1.out.below (bl1 _ _)).drew
    have hB2 : Below w.heap.size w (W1.alloc (.cells #[.string y.data, .int .i64 y.syn] 215)).drew := (HB1.out.alloc HB1.out.size _).drew
    have HD2 := Lib.hid hD2
    have HB2 := Lib.hid hB2
    have HB2L := HD1.out.lt
    clear hD2 hB2 e1 e2
    have hne : b ≠ W1.heap.size ∧ b ≠ w.heap.size ∧ b ≠ w.heap.size + 1 := ⟨Nat.ne_of_lt HB2L, Nat.ne_of_lt hlt, by omega⟩
    have HNE := Lib.hid hne
    have hcap : (W1.alloc (.cells #[.string y.data, .int .i64 y.syn] 215)).drew.cell? ⟨W1.heap.size, 0, none⟩ = some (.string y.data) ∧ (W1.alloc (.cells #[.string y.data, .int .i64 y.syn] 215)).drew.cell? ⟨w.heap.size, 0, none⟩ = some (.pointer (some ⟨b, 0, none⟩)) ∧ (W1.alloc (.cells #[.string y.data, .int .i64 y.syn] 215)).drew.cell? ⟨w.heap.size + 1, 0, none⟩ = some (.string s) := ⟨by simp [go_sem, *], by simp [go_sem, *], by simp [go_sem, *]⟩
    have HCAP := Lib.hid hcap
    clear hne hcap
    have k0 := HD2.out.c0
    go_wp2_with fail
    refine (change_Sync _ b m (W1.heap.size) (w.heap.size) (w.heap.size + 1) d HD2.out (fun F => fput F s.data.toList ⟨y.data, y.data.size⟩) (fun W => W.cell? ⟨W1.heap.size, 0, none⟩ = some (.string y.data) ∧ W.cell? ⟨w.heap.size, 0, none⟩ = some (.pointer (some ⟨b, 0, none⟩)) ∧ W.cell? ⟨w.heap.size + 1, 0, none⟩ = some (.string s)) HCAP.out (fun W o v hC => ?_) (fun W d' hd' hfs hC => ?_) hlo hhi).mono ?_
    · exact ⟨(World.cell?_setCell_other _ _ _ _ (fun e => HNE.out.1 (by injection e))).trans hC.1, (World.cell?_setCell_other _ _ _ _ (fun e => HNE.out.2.1 (by injection e))).trans hC.2.1, (World.cell?_setCell_other _ _ _ _ (fun e => HNE.out.2.2 (by injection e))).trans hC.2.2⟩
    · exact sync_fn W b m _ _ _ d' s y hd' hs (by rw [hfs]; unfold maxLen; omega) hC.1 hC.2.1 hC.2.2
    · rintro e w' ⟨rfl, hd', hb'⟩
      have HE := Lib.hid (show DAt w' b m _ ∧ But [b, m] w w' from ⟨hd', (But.of_below HB2.out).trans hb'⟩)
      clear hd' hb'
      go_wp2_with fail
      go_ret
      exact ⟨rfl, HE.out⟩

theorem rename_down (w : World) (b m : Nat) (d : Dk) (s x : ByteArray) (h : DAt w b m d) (_hs : s.size ≤ maxLen) (_hx2 : x.size ≤ maxLen) (hd : d.down = true) :
    Calls Tryz.prog 256 #[.pointer (some ⟨b, 0, none⟩), .string s, .string x] w fun e w' => e = .returned (.int .i64 7) ∧ Below w.heap.size w w' := by
  obtain ⟨W1, hW1⟩ : ∃ W1, W1 = (((w.alloc (.cells #[.pointer (some ⟨b, 0, none⟩)] 27)).alloc (.cells #[.string s] 9)).alloc (.cells #[.string x] 9)) := ⟨_, rfl⟩
  have hD1 : DAt W1 b m d := by rw [hW1]; exact (((h.below (bl1 _ _)).below (bl1 _ _)).below (bl1 _ _))
  have hB1 : Below w.heap.size w W1 := by rw [hW1]; exact bl3 _ _ _ _ 
  have hp : W1.cell? ⟨w.heap.size, 0, none⟩ = some (.pointer (some ⟨b, 0, none⟩)) := by rw [hW1]; simp [go_sem]
  have pf : W1.frozen? ⟨w.heap.size, 0, none⟩ = false := by rw [hW1]; simp [go_sem]
  have hq0 : W1.cell? ⟨w.heap.size + 1, 0, none⟩ = some (.string s) := by rw [hW1]; simp [go_sem]
  have ql0 : w.heap.size + 1 < W1.heap.size := by rw [hW1]; simp
  have hq1 : W1.cell? ⟨w.heap.size + 2, 0, none⟩ = some (.string x) := by rw [hW1]; simp [go_sem]
  have ql1 : w.heap.size + 2 < W1.heap.size := by rw [hW1]; simp
  have pl : w.heap.size < W1.heap.size := by rw [hW1]; simp; omega
  have hdn : W1.cell? ⟨b, 1, none⟩ = some (.bool true) := by rw [← hd]; exact hD1.c1
  have HB1 := Lib.hid hB1
  have HW := Lib.hid hW1.symm
  clear hD1 hB1 hW1 h hd
  go_enter Tryz.func256, Tryz.ntmps256
  go_wp2_with fail
  rw [HW.out]
  refine (off_down _ b hdn).mono ?_
  rintro e w1 ⟨rfl, rfl⟩
  go_wp2_with fail
  go_ret
  exact ⟨rfl, HB1.out⟩

theorem rename_none (w : World) (b m : Nat) (d : Dk) (s x : ByteArray) (h : DAt w b m d) (hs : s.size ≤ maxLen) (_hx2 : x.size ≤ maxLen) (hd : d.down = false) (hx : fget d.fs s.data.toList = none) :
    Calls Tryz.prog 256 #[.pointer (some ⟨b, 0, none⟩), .string s, .string x] w fun e w' => e = .returned (.int .i64 4) ∧ Below w.heap.size w w' := by
  obtain ⟨W1, hW1⟩ : ∃ W1, W1 = (((w.alloc (.cells #[.pointer (some ⟨b, 0, none⟩)] 27)).alloc (.cells #[.string s] 9)).alloc (.cells #[.string x] 9)) := ⟨_, rfl⟩
  have hD1 : DAt W1 b m d := by rw [hW1]; exact (((h.below (bl1 _ _)).below (bl1 _ _)).below (bl1 _ _))
  have hB1 : Below w.heap.size w W1 := by rw [hW1]; exact bl3 _ _ _ _ 
  have hp : W1.cell? ⟨w.heap.size, 0, none⟩ = some (.pointer (some ⟨b, 0, none⟩)) := by rw [hW1]; simp [go_sem]
  have pf : W1.frozen? ⟨w.heap.size, 0, none⟩ = false := by rw [hW1]; simp [go_sem]
  have hq0 : W1.cell? ⟨w.heap.size + 1, 0, none⟩ = some (.string s) := by rw [hW1]; simp [go_sem]
  have ql0 : w.heap.size + 1 < W1.heap.size := by rw [hW1]; simp
  have hq1 : W1.cell? ⟨w.heap.size + 2, 0, none⟩ = some (.string x) := by rw [hW1]; simp [go_sem]
  have ql1 : w.heap.size + 2 < W1.heap.size := by rw [hW1]; simp
  have pl : w.heap.size < W1.heap.size := by rw [hW1]; simp; omega
  have hdn : W1.cell? ⟨b, 1, none⟩ = some (.bool false) := by rw [← hd]; exact hD1.c1
  have c0 := hD1.c0
  have bl := hD1.lt
  have e1 := look_none hs hx W1.drew hD1.map
  have e2 := look_none hs hx (W1.alloc (.cells #[.string ⟨#[]⟩, .int .i64 0] 215)).drew (hD1.map.alloc _)
  have HD1 := Lib.hid hD1
  have HB1 := Lib.hid hB1
  have HW := Lib.hid hW1.symm
  have HX := Lib.hid hx
  clear hD1 hB1 hW1 h hd hx
  go_enter Tryz.func256, Tryz.ntmps256
  go_wp2_with fail
  rw [HW.out]
  refine (off_up _ b hdn).mono ?_
  rintro e w1 ⟨rfl, rfl⟩
  go_wp2_with fail
  go_region
  all_goals
    have hD2 : DAt (W1.alloc (.cells #[.string ⟨#[]⟩, .int .i64 0] 215)).drew b m d := (HD1.out.below (bl1 _ _)).drew
    have hB2 : Below w.heap.size w (W1.alloc (.cells #[.string ⟨#[]⟩, .int .i64 0] 215)).drew := (HB1.out.alloc HB1.out.size _).drew
    have HD2 := Lib.hid hD2
    have HB2 := Lib.hid hB2
    clear hD2 hB2 e1 e2
    go_wp2_with fail
    go_ret
    exact ⟨rfl, HB2.out⟩

theorem rename_bad (w : World) (b m : Nat) (d : Dk) (s x : ByteArray) (h : DAt w b m d) (hs : s.size ≤ maxLen) (hx2 : x.size ≤ maxLen) (hd : d.down = false) (y : Fl) (hx : fget d.fs s.data.toList = some y) (hn : nameB x.data.toList = false) :
    Calls Tryz.prog 256 #[.pointer (some ⟨b, 0, none⟩), .string s, .string x] w fun e w' => e = .returned (.int .i64 1) ∧ Below w.heap.size w w' := by
  obtain ⟨W1, hW1⟩ : ∃ W1, W1 = (((w.alloc (.cells #[.pointer (some ⟨b, 0, none⟩)] 27)).alloc (.cells #[.string s] 9)).alloc (.cells #[.string x] 9)) := ⟨_, rfl⟩
  have hD1 : DAt W1 b m d := by rw [hW1]; exact (((h.below (bl1 _ _)).below (bl1 _ _)).below (bl1 _ _))
  have hB1 : Below w.heap.size w W1 := by rw [hW1]; exact bl3 _ _ _ _ 
  have hp : W1.cell? ⟨w.heap.size, 0, none⟩ = some (.pointer (some ⟨b, 0, none⟩)) := by rw [hW1]; simp [go_sem]
  have pf : W1.frozen? ⟨w.heap.size, 0, none⟩ = false := by rw [hW1]; simp [go_sem]
  have hq0 : W1.cell? ⟨w.heap.size + 1, 0, none⟩ = some (.string s) := by rw [hW1]; simp [go_sem]
  have ql0 : w.heap.size + 1 < W1.heap.size := by rw [hW1]; simp
  have hq1 : W1.cell? ⟨w.heap.size + 2, 0, none⟩ = some (.string x) := by rw [hW1]; simp [go_sem]
  have ql1 : w.heap.size + 2 < W1.heap.size := by rw [hW1]; simp
  have pl : w.heap.size < W1.heap.size := by rw [hW1]; simp; omega
  have hdn : W1.cell? ⟨b, 1, none⟩ = some (.bool false) := by rw [← hd]; exact hD1.c1
  have c0 := hD1.c0
  have bl := hD1.lt
  have e1 := look_some hs hx W1.drew hD1.map
  have e2 := look_some hs hx (W1.alloc (.cells #[.string ⟨#[]⟩, .int .i64 0] 215)).drew (hD1.map.alloc _)
  have HD1 := Lib.hid hD1
  have HB1 := Lib.hid hB1
  have HW := Lib.hid hW1.symm
  have HX := Lib.hid hx
  clear hD1 hB1 hW1 h hd hx
  go_enter Tryz.func256, Tryz.ntmps256
  go_wp2_with fail
  rw [HW.out]
  refine (off_up _ b hdn).mono ?_
  rintro e w1 ⟨rfl, rfl⟩
  go_wp2_with fail
  go_region
  all_goals
    have hD2 : DAt (W1.alloc (.cells #[.string y.data, .int .i64 y.syn] 215)).drew b m d := (HD1.out.below (bl1 _ _)).drew
    have hB2 : Below w.heap.size w (W1.alloc (.cells #[.string y.data, .int .i64 y.syn] 215)).drew := (HB1.out.alloc HB1.out.size _).drew
    have HD2 := Lib.hid hD2
    have HB2 := Lib.hid hB2
    clear hD2 hB2 e1 e2
    go_wp2_with fail
    refine (named_is false x hx2 hn _).mono ?_
    rintro e w1 ⟨rfl, rfl⟩
    go_wp2_with fail
    go_ret
    exact ⟨rfl, HB2.out⟩

theorem rename_go (w : World) (b m : Nat) (d : Dk) (s x : ByteArray) (h : DAt w b m d) (hs : s.size ≤ maxLen) (hx2 : x.size ≤ maxLen) (hd : d.down = false) (y : Fl) (hx : fget d.fs s.data.toList = some y) (hn : nameB x.data.toList = true) (hlo : 0 ≤ d.fuse) (hhi : d.fuse ≤ 9223372036854775807) (hlen : d.fs.length ≤ 256) :
    Calls Tryz.prog 256 #[.pointer (some ⟨b, 0, none⟩), .string s, .string x] w fun e w' => e = .returned (.int .i64 (chgE d)) ∧ DAt w' b m (chg d (fun F => fput (fdel F s.data.toList) x.data.toList y) false) ∧ But [b, m] w w' := by
  obtain ⟨W1, hW1⟩ : ∃ W1, W1 = (((w.alloc (.cells #[.pointer (some ⟨b, 0, none⟩)] 27)).alloc (.cells #[.string s] 9)).alloc (.cells #[.string x] 9)) := ⟨_, rfl⟩
  have hD1 : DAt W1 b m d := by rw [hW1]; exact (((h.below (bl1 _ _)).below (bl1 _ _)).below (bl1 _ _))
  have hB1 : Below w.heap.size w W1 := by rw [hW1]; exact bl3 _ _ _ _ 
  have hp : W1.cell? ⟨w.heap.size, 0, none⟩ = some (.pointer (some ⟨b, 0, none⟩)) := by rw [hW1]; simp [go_sem]
  have pf : W1.frozen? ⟨w.heap.size, 0, none⟩ = false := by rw [hW1]; simp [go_sem]
  have hq0 : W1.cell? ⟨w.heap.size + 1, 0, none⟩ = some (.string s) := by rw [hW1]; simp [go_sem]
  have ql0 : w.heap.size + 1 < W1.heap.size := by rw [hW1]; simp
  have hq1 : W1.cell? ⟨w.heap.size + 2, 0, none⟩ = some (.string x) := by rw [hW1]; simp [go_sem]
  have ql1 : w.heap.size + 2 < W1.heap.size := by rw [hW1]; simp
  have pl : w.heap.size < W1.heap.size := by rw [hW1]; simp; omega
  have hdn : W1.cell? ⟨b, 1, none⟩ = some (.bool false) := by rw [← hd]; exact hD1.c1
  have hlt := h.lt
  have c0 := hD1.c0
  have bl := hD1.lt
  have e1 := look_some hs hx W1.drew hD1.map
  have e2 := look_some hs hx (W1.alloc (.cells #[.string ⟨#[]⟩, .int .i64 0] 215)).drew (hD1.map.alloc _)
  have HD1 := Lib.hid hD1
  have HB1 := Lib.hid hB1
  have HW := Lib.hid hW1.symm
  have HX := Lib.hid hx
  clear hD1 hB1 hW1 h hd hx
  go_enter Tryz.func256, Tryz.ntmps256
  go_wp2_with fail
  rw [HW.out]
  refine (off_up _ b hdn).mono ?_
  rintro e w1 ⟨rfl, rfl⟩
  go_wp2_with fail
  go_region
  all_goals
    have hD2 : DAt (W1.alloc (.cells #[.string y.data, .int .i64 y.syn] 215)).drew b m d := (HD1.out.below (bl1 _ _)).drew
    have hB2 : Below w.heap.size w (W1.alloc (.cells #[.string y.data, .int .i64 y.syn] 215)).drew := (HB1.out.alloc HB1.out.size _).drew
    have HD2 := Lib.hid hD2
    have HB2 := Lib.hid hB2
    have HB2L := HD1.out.lt
    clear hD2 hB2 e1 e2
    go_wp2_with fail
    refine (named_is true x hx2 hn _).mono ?_
    rintro e w1 ⟨rfl, rfl⟩
    have hne : b ≠ w.heap.size ∧ b ≠ w.heap.size + 1 ∧ b ≠ W1.heap.size ∧ b ≠ W1.heap.size ∧ b ≠ w.heap.size + 2 := ⟨Nat.ne_of_lt hlt, by omega, Nat.ne_of_lt HB2L, Nat.ne_of_lt HB2L, by omega⟩
    have HNE := Lib.hid hne
    have hcap : (W1.alloc (.cells #[.string y.data, .int .i64 y.syn] 215)).drew.cell? ⟨w.heap.size, 0, none⟩ = some (.pointer (some ⟨b, 0, none⟩)) ∧ (W1.alloc (.cells #[.string y.data, .int .i64 y.syn] 215)).drew.cell? ⟨w.heap.size + 1, 0, none⟩ = some (.string s) ∧ (W1.alloc (.cells #[.string y.data, .int .i64 y.syn] 215)).drew.cell? ⟨W1.heap.size, 0, none⟩ = some (.string y.data) ∧ (W1.alloc (.cells #[.string y.data, .int .i64 y.syn] 215)).drew.cell? ⟨W1.heap.size, 1, none⟩ = some (.int .i64 y.syn) ∧ (W1.alloc (.cells #[.string y.data, .int .i64 y.syn] 215)).drew.cell? ⟨w.heap.size + 2, 0, none⟩ = some (.string x) := ⟨by simp [go_sem, *], by simp [go_sem, *], by simp [go_sem, *], by simp [go_sem, *], by simp [go_sem, *]⟩
    have HCAP := Lib.hid hcap
    clear hne hcap
    have k0 := HD2.out.c0
    go_wp2_with fail
    refine (change_Rename _ b m (w.heap.size) (w.heap.size + 1) (W1.heap.size) (w.heap.size + 2) d HD2.out (fun F => fput (fdel F s.data.toList) x.data.toList y) (fun W => W.cell? ⟨w.heap.size, 0, none⟩ = some (.pointer (some ⟨b, 0, none⟩)) ∧ W.cell? ⟨w.heap.size + 1, 0, none⟩ = some (.string s) ∧ W.cell? ⟨W1.heap.size, 0, none⟩ = some (.string y.data) ∧ W.cell? ⟨W1.heap.size, 1, none⟩ = some (.int .i64 y.syn) ∧ W.cell? ⟨w.heap.size + 2, 0, none⟩ = some (.string x)) HCAP.out (fun W o v hC => ?_) (fun W d' hd' hfs hC => ?_) hlo hhi).mono ?_
    · exact ⟨(World.cell?_setCell_other _ _ _ _ (fun e => HNE.out.1 (by injection e))).trans hC.1, (World.cell?_setCell_other _ _ _ _ (fun e => HNE.out.2.1 (by injection e))).trans hC.2.1, (World.cell?_setCell_other _ _ _ _ (fun e => HNE.out.2.2.1 (by injection e))).trans hC.2.2.1, (World.cell?_setCell_other _ _ _ _ (fun e => HNE.out.2.2.2.1 (by injection e))).trans hC.2.2.2.1, (World.cell?_setCell_other _ _ _ _ (fun e => HNE.out.2.2.2.2 (by injection e))).trans hC.2.2.2.2⟩
    · exact rename_fn W b m _ _ _ _ d' s x y hd' hs hx2 (by rw [hfs]; unfold maxLen; omega) hC.2.2.1 hC.2.2.2.1 hC.2.2.2.2 hC.1 hC.2.1
    · rintro e w' ⟨rfl, hd', hb'⟩
      have HE := Lib.hid (show DAt w' b m _ ∧ But [b, m] w w' from ⟨hd', (But.of_below HB2.out).trans hb'⟩)
      clear hd' hb'
      go_wp2_with fail
      go_ret
      exact ⟨rfl, HE.out⟩
end Go.Proofs.YtcohbfabcdjefaaGreatDoor
