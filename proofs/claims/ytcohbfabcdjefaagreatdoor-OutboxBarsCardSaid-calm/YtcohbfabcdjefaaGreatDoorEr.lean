/-
  package store: Open on a fresh disk.
-/
import Derived.Test.YtcohbfabcdjefaaGreatDoorEq
namespace Go.Proofs.YtcohbfabcdjefaaGreatDoor
open Go.RowKit Go.Maps

def keptB : ByteArray := ⟨#[109, 97, 110, 105, 102, 101, 115, 116, 46, 115, 116, 97, 116, 101]⟩
def mnC (db : Nat) : Array Value := #[.pointer (some ⟨db, 0, none⟩), .int .i64 1, .int .i64 0, .slice none 0 0, .bool false]
theorem mopen_fresh (w : World) (b m : Nat) (d : Dk) (hd : DAt w b m d) (hE : readE d keptB.data.toList = 4) :
    Calls Tryz.prog 38 #[.pointer (some ⟨b, 0, none⟩)] w fun e w' => e = .returned (.tuple #[.pointer (some ⟨w.heap.size, 0, none⟩), .int .i64 0]) ∧ w'.heap[w.heap.size]? = some (.cells (mnC b) 138 (0, 0)) ∧ Below w.heap.size w w' := by
  have HD := Lib.hid hd
  have HE := Lib.hid hE
  clear hd hE
  go_enter Tryz.func38, Tryz.ntmps38
  go_wp2_with fail
  refine (read_any _ b m d keptB (HD.out.below (bl1 _ _)) (by decide)).mono ?_
  rintro e w1 ⟨rfl, hb1⟩
  rw [HE.out]
  have HB := Lib.hid hb1
  clear hb1
  go_wp2_with fail
  refine bodyPost_ret (v := .tuple #[.pointer (some ⟨w.heap.size, 0, none⟩), .int .i64 0]) (by simp [results, Tryz.results38, go_sem]) rfl ⟨rfl, ?_, (bl1 _ _).trans (HB.out.mono (by simp))⟩
  exact (HB.out.block w.heap.size (by simp)).trans (heap_alloc_new w _)
theorem eqNil (W : World) : (binOp .eql 108 (.slice none 0 0) (.slice none 0 0)).run Tryz.prog W = .ok (.bool true) W := by kernel_rfl
theorem fld1 (W : World) : (Instr.field 110 (.agg #[.int .i64 1, .int .i64 0, .slice none 0 0]) 1).run Tryz.prog W = .ok (.int .i64 0) W := by kernel_rfl
theorem fld2 (W : World) : (Instr.field 110 (.agg #[.int .i64 1, .int .i64 0, .slice none 0 0]) 2).run Tryz.prog W = .ok (.slice none 0 0) W := by kernel_rfl
set_option maxRecDepth 100000 in
theorem mclone_nil (w : World) : Calls Tryz.prog 79 #[.slice none 0 0] w fun e w' => e = .returned (.slice none 0 0) ∧ w = w' := by
  have hq := eqNil w
  go_enter Tryz.func79, Tryz.ntmps79
  go_wp2_with fail
  go_ret
  exact ⟨rfl, rfl⟩
def stv0 : Value := .agg #[.int .i64 1, .int .i64 0, .slice none 0 0]
set_option maxRecDepth 100000 in
set_option maxHeartbeats 2000000 in
theorem mstate_fresh (w : World) (x db : Nat) (hx : w.heap[x]? = some (.cells (mnC db) 138 (0, 0))) :
    Calls Tryz.prog 41 #[.pointer (some ⟨x, 0, none⟩)] w fun e w' => e = .returned stv0 ∧ Below w.heap.size w w' := by
  unfold mnC at hx
  have hxl := heap_lt hx
  have c1 : w.cell? ⟨x, 1, none⟩ = some (.int .i64 1) := by simp [World.cell?, hx]
  have c2 : w.cell? ⟨x, 2, none⟩ = some (.int .i64 0) := by simp [World.cell?, hx]
  have c3 : w.cell? ⟨x, 3, none⟩ = some (.slice none 0 0) := by simp [World.cell?, hx]
  have hne := World.new_ne w _ c1
  clear hx
  go_enter Tryz.func41, Tryz.ntmps41
  go_wp2_with fail
  refine (mclone_nil _).mono ?_
  rintro e w1 ⟨rfl, rfl⟩
  obtain ⟨w1, hw1⟩ : ∃ w1, w1 = (w.alloc (.cells #[.int .i64 0, .int .i64 0, .slice none 0 0] 110)).alloc (.cells #[.int .i64 1, .int .i64 0, .slice none 0 0] 110) := ⟨_, rfl⟩
  have b0 : w1.heap[w.heap.size]? = some (.cells #[.int .i64 0, .int .i64 0, .slice none 0 0] 110 (0, 0)) := by
    rw [hw1, Below.heap_alloc _ _ _ (by simp)]; exact heap_alloc_new w _
  have b1 : w1.heap[w.heap.size + 1]? = some (.cells #[.int .i64 1, .int .i64 0, .slice none 0 0] 110 (0, 0)) := by
    have := heap_alloc_new (w.alloc (.cells #[.int .i64 0, .int .i64 0, .slice none 0 0] 110)) (.cells #[.int .i64 1, .int .i64 0, .slice none 0 0] 110)
    rw [World.size_alloc] at this
    rw [hw1]; exact this
  have HB := Lib.hid (show Below w.heap.size w w1 by rw [hw1]; exact bl2 w _ _)
  rw [← hw1]
  clear hw1
  have p0 : w1.cell? ⟨w.heap.size, 0, none⟩ = some (.int .i64 0) := by simp [World.cell?, b0]
  have p1 : w1.cell? ⟨w.heap.size, 1, none⟩ = some (.int .i64 0) := by simp [World.cell?, b0]
  have p2 : w1.cell? ⟨w.heap.size, 2, none⟩ = some (.slice none 0 0) := by simp [World.cell?, b0]
  have z0 : ∀ o, w1.frozen? ⟨w.heap.size, o, none⟩ = false := fun o => by simp [World.frozen?, b0]
  have r0 : w1.cell? ⟨w.heap.size + 1, 0, none⟩ = some (.int .i64 1) := by simp [World.cell?, b1]
  have r1 : w1.cell? ⟨w.heap.size + 1, 1, none⟩ = some (.int .i64 0) := by simp [World.cell?, b1]
  have r2 : w1.cell? ⟨w.heap.size + 1, 2, none⟩ = some (.slice none 0 0) := by simp [World.cell?, b1]
  have z1 : ∀ o, w1.frozen? ⟨w.heap.size + 1, o, none⟩ = false := fun o => by simp [World.frozen?, b1]
  have hwl : w.heap.size + 1 < w1.heap.size := heap_lt b1
  clear b0 b1
  go_wp2_with fail
  refine bodyPost_ret (v := stv0) (by simp [results, Tryz.results41, go_sem, stv0, p0, p1, p2]) rfl ⟨rfl, ?_⟩
  exact (((HB.out.setCell (by show w.heap.size ≤ w.heap.size + 1; omega) _).setCell (Nat.le_refl _) _).setCell (Nat.le_refl _) _).setCell (Nat.le_refl _) _
set_option maxRecDepth 100000 in
theorem sweep_fresh (w : World) (sb mb db m nb : Nat) (d : Dk) (hd : DAt w db m d) (ok : Fit d) (h0 : names d.fs = []) (hx : w.heap[nb]? = some (.cells (mnC db) 138 (0, 0)))
    (c5 : w.cell? ⟨sb, 5, none⟩ = some (.pointer (some ⟨db, 0, none⟩))) (c7 : w.cell? ⟨sb, 7, none⟩ = some (.pointer (some ⟨nb, 0, none⟩))) :
    Calls Tryz.prog 40 #[.pointer (some ⟨sb, 0, none⟩)] w fun e w' => e = .returned (.int .i64 0) ∧ Below w.heap.size w w' := by
  have HS := Lib.hid (mstate_fresh w nb db hx)
  have HL := Lib.hid (fun W (hb : Below w.heap.size w W) => show Calls Tryz.prog 73 #[.pointer (some ⟨db, 0, none⟩)] W fun e w' => (∃ v, e = .returned v ∧ StrsAt w' W.heap.size v []) ∧ Below W.heap.size W w' from by
    have := list_any W db m d (hd.below hb) ok; rwa [h0] at this)
  have hsl := World.block_lt_of_cell? w ⟨sb, 5, none⟩ c5
  clear hd ok h0 hx
  unfold stv0 at HS
  have hf := fld2
  go_enter Tryz.func40, Tryz.ntmps40
  go_wp2_with fail
  refine HS.out.mono ?_
  rintro e w1 ⟨rfl, hb1⟩
  have c51 : w1.cell? ⟨sb, 5, none⟩ = some (.pointer (some ⟨db, 0, none⟩)) := (hb1.cell (p := ⟨sb, 5, none⟩) hsl).trans c5
  have HB1 := Lib.hid hb1
  clear hb1
  go_wp2_with fail
  refine (HL.out _ HB1.out).mono ?_
  rintro e w2 ⟨⟨v, rfl, _, hv⟩, hb2⟩
  obtain rfl := hv.2 rfl
  have HB2 := Lib.hid (HB1.out.trans (hb2.mono HB1.out.size))
  clear hb2 hv
  go_wp2_with fail
  go_loopw [19] (fun i wr => i = .int .i64 0 ∧ wr = w2) (fun _ _ => 0)
  case atStart => exact ⟨rfl, rfl⟩
  case round =>
    obtain ⟨rfl, rfl⟩ := hrel
    go_wp2_with fail
    go_ret
    exact ⟨rfl, HB2.out⟩
set_option maxRecDepth 100000 in
theorem replay_nil (w : World) (p : Addr) : Calls Tryz.prog 44 #[.pointer (some p), .slice none 0 0, .int .i64 0] w fun e w' => e = .returned (.tuple #[]) ∧ w = w' := by
  go_enter Tryz.func44, Tryz.ntmps44
  go_wp2_with fail
  go_loopw [11] (fun i wr => i = .int .i64 0 ∧ wr = w) (fun _ _ => 0)
  case atStart => exact ⟨rfl, rfl⟩
  case round =>
    obtain ⟨rfl, rfl⟩ := hrel
    go_wp2_with fail
    go_end0
    exact ⟨rfl, rfl⟩
theorem lg_ok : logOk lgB.data.toList = true := by decide
set_option maxRecDepth 100000 in
set_option maxHeartbeats 2000000 in
theorem sopen_fresh (A : Nat) (w : World) (db m : Nat) (hd : DAt w db m d0) (hA : A ≤ db ∧ A ≤ m) :
    Calls Tryz.prog 19 #[.pointer (some ⟨db, 0, none⟩)] w fun e w' => ∃ sb, e = .returned (.tuple #[.pointer (some ⟨sb, 0, none⟩), .int .i64 0]) ∧ (∃ mb lb nb, SD A w.heap.size w' sb mb db m lb nb [] 0 0 0) ∧ Below A w w' ∧ Kx [db] tsW w w' := by
  have HD := Lib.hid hd
  have hdl := hd.lt
  have hml := hd.map.lt
  have HM := Lib.hid (mopen_fresh w db m d0 hd rfl)
  obtain ⟨hA1, hA2⟩ := hA
  clear hd
  go_enter Tryz.func19, Tryz.ntmps19
  go_wp2_with fail
  refine HM.out.mono ?_
  rintro e w1 ⟨rfl, hx1, hb1⟩
  have HX1 := Lib.hid hx1
  have HB1 := Lib.hid hb1
  have hz1 : w.heap.size < w1.heap.size := heap_lt hx1
  clear hx1 hb1 HM
  go_wp2_with fail
  refine (new_mem w1).mono ?_
  rintro e w2 ⟨rfl, hm2, hw2⟩
  have HM2 := Lib.hid hm2
  have HB2 := Lib.hid (show Below w1.heap.size w1 w2 by rw [hw2]; exact bl1 w1 _)
  have hz2 : w2.heap.size = w1.heap.size + 1 := by rw [hw2]; simp
  have HZ2 := Lib.hid hz2
  clear hm2 hw2 hz2
  go_wp2_with fail
  obtain ⟨W, hW⟩ : ∃ W, W = w2.alloc (.cells #[.pointer (some ⟨w1.heap.size, 0, none⟩), .slice none 0 0, .slice none 0 0, .slice none 0 0, .slice none 0 0, .pointer (some ⟨db, 0, none⟩), .pointer none, .pointer (some ⟨w.heap.size, 0, none⟩), .int .i64 0, .int .i64 0, .bool false] 106 (0, 0)) := ⟨_, rfl⟩
  have q : W.heap[w2.heap.size]? = some (.cells #[.pointer (some ⟨w1.heap.size, 0, none⟩), .slice none 0 0, .slice none 0 0, .slice none 0 0, .slice none 0 0, .pointer (some ⟨db, 0, none⟩), .pointer none, .pointer (some ⟨w.heap.size, 0, none⟩), .int .i64 0, .int .i64 0, .bool false] 106 (0, 0)) := by rw [hW]; exact heap_alloc_new w2 _
  have hBW : Below w2.heap.size w2 W := by rw [hW]; exact bl1 w2 _
  have HBW := Lib.hid ((HB1.out.trans (HB2.out.mono HB1.out.size)).trans (hBW.mono (Nat.le_trans HB1.out.size HB2.out.size)))
  have HX := Lib.hid ((hBW.block w.heap.size (Nat.lt_of_lt_of_le hz1 HB2.out.size)).trans ((HB2.out.block w.heap.size hz1).trans HX1.out))
  have HM := Lib.hid (show MemAt W w1.heap.size (.slice none 0 0) false from ⟨(hBW.block w1.heap.size HM2.out.lt).trans HM2.out.blk⟩)
  rw [← hW]
  clear hW hBW
  obtain ⟨sb, hsb⟩ : ∃ sb, sb = w2.heap.size := ⟨_, rfl⟩
  obtain ⟨mb, hmb⟩ : ∃ mb, mb = w1.heap.size := ⟨_, rfl⟩
  obtain ⟨nb, hnb⟩ : ∃ nb, nb = w.heap.size := ⟨_, rfl⟩
  have HSB := Lib.hid (show w.heap.size ≤ sb ∧ w.heap.size ≤ mb ∧ w.heap.size ≤ nb ∧ sb ≠ mb by have := HZ2.out; omega)
  rw [← hsb, ← hmb, ← hnb] at q ⊢
  rw [← hmb] at HM
  rw [← hnb] at HX
  clear hsb hmb hnb HM2 HX1 HB1 HB2 HZ2 hz1
  have hsl := heap_lt q
  have c5 : W.cell? ⟨sb, 5, none⟩ = some (.pointer (some ⟨db, 0, none⟩)) := by simp [World.cell?, q]
  have c7 : W.cell? ⟨sb, 7, none⟩ = some (.pointer (some ⟨nb, 0, none⟩)) := by simp [World.cell?, q]
  have HQ := Lib.hid q
  refine (sweep_fresh W sb mb db m nb d0 (HD.out.below HBW.out) Fit.d0 rfl HX.out c5 c7).mono ?_
  rintro e w4 ⟨rfl, hb4⟩
  have HB4 := Lib.hid hb4
  clear hb4 q c5 c7
  go_wp2_with fail
  refine (mstate_fresh w4 nb db ((HB4.out.block nb (heap_lt HX.out)).trans HX.out)).mono ?_
  rintro e w5 ⟨rfl, hb5⟩
  have HB5 := Lib.hid (HB4.out.trans (hb5.mono HB4.out.size))
  unfold stv0
  have hf2 := fld2
  have hf1 := fld1
  clear hb5 HB4
  go_wp2_with fail
  go_loopw [36] (fun i wr => i = .int .i64 0 ∧ wr = w5) (fun _ _ => 0)
  case atStart => exact ⟨rfl, rfl⟩
  case round =>
    obtain ⟨rfl, rfl⟩ := hrel
    go_wp2_with fail
    have hcr := create0 (name_file lg_ok 1)
    have hBwr := HBW.out.trans (HB5.out.mono HBW.out.size)
    refine (wopen_fresh wr db m d0 lgB (by decide) lg_ok (HD.out.below hBwr) Fit.d0 rfl rfl hcr.1).mono ?_
    rw [hcr.2]
    rintro e w6 ⟨lb, sgb, rfl, ho⟩
    have HO := Lib.hid ho
    have hsbw : sb < wr.heap.size := Nat.lt_of_lt_of_le hsl HB5.out.size
    have hq6 : w6.heap[sb]? = some (.cells #[.pointer (some ⟨mb, 0, none⟩), .slice none 0 0, .slice none 0 0, .slice none 0 0, .slice none 0 0, .pointer (some ⟨db, 0, none⟩), .pointer none, .pointer (some ⟨nb, 0, none⟩), .int .i64 0, .int .i64 0, .bool false] 106 (0, 0)) := by
      rw [ho.fr.block sb hsbw (by have := HSB.out.1; simp; omega), HB5.out.block sb hsl]; exact HQ.out
    have hm6 : MemAt w6 mb (.slice none 0 0) false := ⟨by
      have h1 := HM.out.lt
      rw [ho.fr.block mb (Nat.lt_of_lt_of_le h1 HB5.out.size) (by have := HSB.out.2.1; simp; omega), HB5.out.block mb h1]; exact HM.out.blk⟩
    have HHQ6 := Lib.hid hq6
    have HHM6 := Lib.hid hm6
    have z6 : w6.frozen? ⟨sb, 6, none⟩ = false := by simp [World.frozen?, hq6]
    have c6 : w6.cell? ⟨sb, 6, none⟩ = some (.pointer none) := by simp [World.cell?, hq6]
    obtain ⟨W7, hW7⟩ : ∃ W7, W7 = w6.setCell ⟨sb, 6, none⟩ (.pointer (some ⟨lb, 0, none⟩)) := ⟨_, rfl⟩
    have hk7 : Kp w.heap.size tsM w6 W7 := by rw [hW7]; exact (Kp.refl _ _ _).setCell hq6 (by decide) HSB.out.1 _ _
    have hx6 : w6.heap[nb]? = some (.cells (mnC db) 138 (0, 0)) := by
      have h1 := heap_lt HX.out
      have hne : nb ∉ [db, m] := by
        intro e
        simp only [List.mem_cons, List.not_mem_nil, or_false] at e
        have := HSB.out.2.2.1
        omega
      rw [ho.fr.block nb (Nat.lt_of_lt_of_le h1 HB5.out.size) hne, HB5.out.block nb h1]; exact HX.out
    have hx7 := hk7.blk nb _ hx6 (.inr (fun _ _ _ e => by injection e with _ e2; rw [← e2]; decide))
    have hst7 : StB W7 sb mb db lb nb 0 0 false := by rw [hW7]; exact heap_setCell_same _ _ _ _ _ _ hq6
    have hlg6 : LgA A w.heap.size w6 lb db m 0 0 := ⟨⟨sgb, sgb, ⟨#[]⟩, 0, ho.wd, rfl, .inl rfl, by have := ho.lsb; have := HBW.out.size; have := HB5.out.size; omega, by have := ho.lsb; have := HBW.out.size; have := HB5.out.size; omega⟩, by have := ho.lb; have := HBW.out.size; have := HB5.out.size; omega, hA1, hA2, hdl, hml⟩
    have HSD := Lib.hid (show SD A w.heap.size W7 sb mb db m lb nb [] 0 0 0 from ⟨hst7, ⟨_, ⟨by rw [hW7]; exact (Below.heap_setCell w6 ⟨sb, 6, none⟩ _ mb (Ne.symm HSB.out.2.2.2)).trans hm6.blk⟩, World.ownsRow_nil _ _ _ _⟩, trivial, hlg6.kp hk7, by omega, HSB.out.1, HSB.out.2.1⟩)
    have HF := Lib.hid (show Below A w W7 ∧ Kx [db] tsW w W7 from by
      have hAw : A ≤ w.heap.size := by omega
      have hb6 : Below A wr w6 := ho.fr.below (by have := hBwr.size; omega) (fun k hk => by simp only [List.mem_cons, List.not_mem_nil, or_false] at hk; omega)
      have hk6 : Kx [db] tsW wr w6 := ⟨hb6.size, fun k cs T fr hk hn hT => by
        rw [ho.fr.block k (heap_lt hk) (fun e => ?_)]
        · exact hk
        · simp only [List.mem_cons, List.not_mem_nil, or_false] at e hn
          rcases e with e | e
          · exact hn e
          · subst e
            obtain ⟨es, clock, hb, _⟩ := (HD.out.below hBwr).map
            rw [hb] at hk; cases hk⟩
      exact ⟨((hBwr.mono hAw).trans hb6).trans (hk7.below hAw (by have := hb6.size; have := hBwr.size; omega)), ((Kx.of_below hBwr).trans hk6).trans (Kx.of_kp hk7 (by decide))⟩)
    have HS7 := Lib.hid (mstate_fresh W7 nb db hx7)
    unfold stv0 at HS7
    have HW7 := Lib.hid hW7
    clear hW7 hk7 hx7 hst7 hlg6 hx6 hm6 hq6 ho hBwr hcr HHQ6 HHM6
    go_wp2_with fail
    rw [← HW7.out]
    refine HS7.out.mono ?_
    rintro e w8 ⟨rfl, hb8⟩
    have HB8 := Lib.hid hb8
    clear hb8 HW7 HS7
    go_wp2_with fail
    refine (replay_nil w8 ⟨sb, 0, none⟩).mono ?_
    rintro e w9 ⟨rfl, rfl⟩
    go_wp2_with fail
    go_ret2
    exact ⟨sb, rfl, ⟨mb, lb, nb, HSD.out.below HB8.out⟩, HF.out.1.trans (HB8.out.mono (by have := HF.out.1.size; omega)), HF.out.2.trans (Kx.of_below HB8.out)⟩
end Go.Proofs.YtcohbfabcdjefaaGreatDoor
