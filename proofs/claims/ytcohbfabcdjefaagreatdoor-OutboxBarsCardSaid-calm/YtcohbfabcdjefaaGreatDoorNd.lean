/-
  'begin', 'empty'.
-/
import Derived.Test.YtcohbfabcdjefaaGreatDoorNb
import Derived.Test.YtcohbfabcdjefaaGreatDoorNc
namespace Go.Proofs.YtcohbfabcdjefaaGreatDoor
open Go.RowKit Go.Maps

def wcs (p : Value) (log : ByteArray) (v la : Value) (dead : Bool) : Array Value := #[p, .string log, v, la, .bool dead]
/-- what 'begin' leaves -/
def BeginR (w : World) (b db m : Nat) (d : Dk) (log : ByteArray) (k : Nat) (v : Value) (dead : Bool) (w' : World) : Prop :=
  ∃ sb, w.heap.size ≤ sb ∧ w'.heap[b]? = some (.cells #[.pointer (some ⟨sb, 0, none⟩), .string log, v, .int .i64 ((k - 1 : Nat) : Int), .bool dead] 167 (0, 0)) ∧
    w'.heap[sb]? = some (.cells #[.pointer (some ⟨db, 0, none⟩), .string (fileB log k), .int .i64 k, .int .i64 ((0 : Nat) : Int)] 192 (0, 0)) ∧
    DAt w' db m (createD d (fileL log k)) ∧ But [db, m, b] w w'
theorem fileB_le (log : ByteArray) (k : Nat) (hl : log.size ≤ 1000) : (fileB log k).size ≤ maxLen := by
  unfold fileB maxLen; rw [bA_size, fileL_len]; omega

set_option maxHeartbeats 1000000 in
theorem begin_ok (w : World) (b db m : Nat) (d : Dk) (log : ByteArray) (k : Nat) (n : Int) (hn : n = (k : Nat)) (p v la : Value) (dead : Bool)
    (hb : w.heap[b]? = some (.cells (wcs p log v la dead) 167 (0, 0))) (hd : DAt w db m d) (ok : Fit d) (hbd : b ≠ db ∧ b ≠ m) (h1 : 1 ≤ k) (hk : k < 100) (hl : log.size ≤ 1000) (hE : createE d (fileL log k) = 0) :
    Calls Tryz.prog 88 #[.pointer (some ⟨b, 0, none⟩), .pointer (some ⟨db, 0, none⟩), .int .i64 n] w fun e w' => e = .returned (.int .i64 0) ∧ BeginR w b db m d log k v dead w' := by
  subst hn
  unfold wcs at hb
  have b1 : w.cell? ⟨b, 1, none⟩ = some (.string log) := by simp [World.cell?, hb]
  have hbl := heap_lt hb
  have hdl := hd.lt
  have hml := hd.map.lt
  have HF := Lib.hid (file_any log k k rfl hk hl)
  have HC := Lib.hid (show ∀ W, But [db, m] w W → DAt W db m d → Calls Tryz.prog 150 #[.pointer (some ⟨db, 0, none⟩), .string (fileB log k)] W fun e w' => e = .returned (.int .i64 0) ∧ DAt w' db m (createD d (fileL log k)) ∧ But [db, m] W w' from
    fun W _ hD => by have := create_any W db m d (fileB log k) hD (fileB_le log k hl) ok; rwa [fileB_list, hE] at this)
  have HB := Lib.hid hb
  have HD := Lib.hid hd
  have HN := Lib.hid hbd
  clear hb hd ok hE
  go_enter Tryz.func88, Tryz.ntmps88
  go_wp2_with fail
  refine (HF.out _).mono ?_
  rintro e w1 ⟨rfl, hb1⟩
  have HB1 := Lib.hid hb1
  clear hb1 HF
  have HB1s := HB1.out.size
  generalize HFB : fileB log k = F at *
  have hFB := Lib.hid HFB
  clear HFB
  go_wp2_with fail
  have hA := (bl1 w1 (.cells #[.pointer (some ⟨db, 0, none⟩), .string F, .int .i64 k, .int .i64 0] 192))
  have hDA := (HD.out.below HB1.out).below hA
  refine (HC.out _ (.of_below (HB1.out.trans (hA.mono HB1s))) hDA).mono ?_
  rintro e w2 ⟨rfl, hd2, hb2⟩
  have hblk : w2.heap[b]? = some (.cells #[p, .string log, v, la, .bool dead] 167 (0, 0)) := by
    have hlt : b < w1.heap.size := Nat.lt_of_lt_of_le hbl HB1s
    rw [hb2.block b (by simp; omega) (by simp [HN.out]), Below.heap_alloc _ _ _ hlt, HB1.out.block b hbl]
    exact HB.out
  have hsb : w2.heap[w1.heap.size]? = some (.cells #[.pointer (some ⟨db, 0, none⟩), .string F, .int .i64 k, .int .i64 0] 192 (0, 0)) := by
    rw [hb2.block w1.heap.size (by simp) (by simp; omega)]
    exact heap_alloc_new w1 _
  have z0 : w2.frozen? ⟨b, 0, none⟩ = false := by simp [World.frozen?, hblk]
  have z3 : w2.frozen? ⟨b, 3, none⟩ = false := by simp [World.frozen?, hblk]
  have c0 : w2.cell? ⟨b, 0, none⟩ = some p := by simp [World.cell?, hblk]
  have c3 : w2.cell? ⟨b, 3, none⟩ = some la := by simp [World.cell?, hblk]
  have HK := Lib.hid hblk
  have HS := Lib.hid hsb
  have HD2 := Lib.hid hd2
  have HB2 := Lib.hid hb2
  clear hblk hsb hd2 hb2 hA hDA HC
  go_wp2_with fail
  go_ret
  have hne : b ≠ w1.heap.size := by omega
  have hbut : But [db, m, b] w ((w2.setCell ⟨b, 0, none⟩ (.pointer (some ⟨w1.heap.size, 0, none⟩))).setCell ⟨b, 3, none⟩ (.int .i64 ((k : Int) - 1))) :=
    ((((But.of_below (HB1.out.trans ((bl1 w1 _).mono HB1s))).trans (HB2.out.wider (by simp)))).setCell (.inl (by simp)) _).setCell (.inl (by simp)) _
  refine ⟨rfl, w1.heap.size, HB1s, ?_, ?_, ?_, hbut⟩
  · have e1 := heap_setCell_same _ b 3 _ _ (.int .i64 ((k : Int) - 1)) (heap_setCell_same _ b 0 _ _ (.pointer (some ⟨w1.heap.size, 0, none⟩)) HK.out)
    rw [show ((k - 1 : Nat) : Int) = (k : Int) - 1 by omega]
    exact e1
  · rw [Below.heap_setCell _ _ _ _ (Ne.symm hne), Below.heap_setCell _ _ _ _ (Ne.symm hne), HS.out, hFB.out]; rfl
  · have hb9 : But [b] w2 ((w2.setCell ⟨b, 0, none⟩ (.pointer (some ⟨w1.heap.size, 0, none⟩))).setCell ⟨b, 3, none⟩ (.int .i64 ((k : Int) - 1))) := ((But.refl [b] w2).setCell (.inl (by simp)) _).setCell (.inl (by simp)) _
    exact HD2.out.but hb9 (by simpa using Ne.symm HN.out.1) (by simpa using Ne.symm HN.out.2)
set_option maxHeartbeats 1000000 in
theorem begin_no (w : World) (b db m : Nat) (d : Dk) (log : ByteArray) (k : Nat) (n : Int) (hn : n = (k : Nat)) (p v la : Value) (dead : Bool) (E : Int)
    (hb : w.heap[b]? = some (.cells (wcs p log v la dead) 167 (0, 0))) (hd : DAt w db m d) (ok : Fit d) (hbd : b ≠ db ∧ b ≠ m) (hk : k < 100) (hl : log.size ≤ 1000) (hE : createE d (fileL log k) = E) (h0 : E ≠ 0) :
    Calls Tryz.prog 88 #[.pointer (some ⟨b, 0, none⟩), .pointer (some ⟨db, 0, none⟩), .int .i64 n] w fun e w' => e = .returned (.int .i64 E) ∧ DAt w' db m (createD d (fileL log k)) ∧ But [db, m] w w' := by
  subst hn
  unfold wcs at hb
  have e0 : (E != 0) = true := by simpa using h0
  have b1 : w.cell? ⟨b, 1, none⟩ = some (.string log) := by simp [World.cell?, hb]
  have HF := Lib.hid (file_any log k k rfl hk hl)
  have HC := Lib.hid (show ∀ W, DAt W db m d → Calls Tryz.prog 150 #[.pointer (some ⟨db, 0, none⟩), .string (fileB log k)] W fun e w' => e = .returned (.int .i64 E) ∧ DAt w' db m (createD d (fileL log k)) ∧ But [db, m] W w' from
    fun W hD => by have := create_any W db m d (fileB log k) hD (fileB_le log k hl) ok; rwa [fileB_list, hE] at this)
  have HD := Lib.hid hd
  clear hb hd ok hE h0
  go_enter Tryz.func88, Tryz.ntmps88
  go_wp2_with fail
  refine (HF.out _).mono ?_
  rintro e w1 ⟨rfl, hb1⟩
  have HB1 := Lib.hid hb1
  clear hb1 HF
  have HB1s := HB1.out.size
  generalize HFB : fileB log k = F at *
  have hFB := Lib.hid HFB
  clear HFB
  go_wp2_with fail
  have hA := (bl1 w1 (.cells #[.pointer (some ⟨db, 0, none⟩), .string F, .int .i64 k, .int .i64 0] 192))
  have hDA := (HD.out.below HB1.out).below hA
  refine (HC.out _ hDA).mono ?_
  rintro e w2 ⟨rfl, hd2, hb2⟩
  have HD2 := Lib.hid hd2
  have HB2 := Lib.hid hb2
  have HA := Lib.hid hA
  clear hd2 hb2 hA hDA HC
  go_wp2_with fail
  go_ret
  exact ⟨rfl, HD2.out, (But.of_below (HB1.out.trans (HA.out.mono HB1s))).trans HB2.out⟩
/-- the file's length is set -/
theorem WAt.sized {w : World} {b sb ob db : Nat} {x : Lg} (h : WAt w b sb ob db x) (n : Nat) : WAt (w.setCell ⟨sb, 3, none⟩ (.int .i64 n)) b sb ob db { x with size := n } := by
  obtain ⟨v, h1, h2⟩ := h.blk
  exact ⟨⟨v, (Below.heap_setCell _ _ _ _ h.ne).trans h1, h2.block fun cur hk => (Below.heap_setCell _ _ _ _ (h.far hk (by decide) (by decide)).2).trans hk⟩, heap_setCell_same _ _ _ _ _ _ h.seg⟩
theorem WD.sized {w : World} {b sb ob db m : Nat} {d : Dk} {x : Lg} (h : WD w b sb ob db m d x) (n : Nat) : WD (w.setCell ⟨sb, 3, none⟩ (.int .i64 n)) b sb ob db m d { x with size := n } := by
  have hb : But [sb] w (w.setCell ⟨sb, 3, none⟩ (.int .i64 n)) := (But.refl [sb] w).setCell (.inl (by simp)) _
  have hk := h.dk sb (.inr (.inl rfl))
  exact ⟨h.wal.sized n, h.dat.but hb (by simpa using Ne.symm hk.1) (by simpa using Ne.symm hk.2), h.ok, h.dk⟩
/-- a call of the disk's, its file and its name at hand -/
theorem WD.segs {w : World} {b sb ob db m : Nat} {d : Dk} {x : Lg} (h : WD w b sb ob db m d x) : w.cell? ⟨b, 0, none⟩ = some (.pointer (some ⟨sb, 0, none⟩)) ∧ w.cell? ⟨sb, 0, none⟩ = some (.pointer (some ⟨db, 0, none⟩)) ∧ w.cell? ⟨sb, 1, none⟩ = some (.string (fileB x.log x.fr)) := by
  obtain ⟨v, hc, _⟩ := h.wal.cells
  exact ⟨hc.b0, hc.s0, hc.s1⟩
theorem fresh_eq (log : ByteArray) : log ++ (⟨#[46]⟩ : ByteArray) ++ (⟨#[110, 101, 119]⟩ : ByteArray) = freshB log := by
  refine ba_ext ?_
  rw [app_list, app_list]
  rfl
theorem freshB_le (log : ByteArray) (hl : log.size ≤ 1000) : (freshB log).size ≤ maxLen := by
  unfold freshB maxLen; rw [bA_size, freshL_len]; omega
set_option maxHeartbeats 1000000 in
theorem empty_any (w : World) (b sb ob db m : Nat) (d : Dk) (x : Lg) (h : WD w b sb ob db m d x) (hl : x.log.size ≤ 1000) :
    Calls Tryz.prog 208 #[.pointer (some ⟨b, 0, none⟩)] w fun e w' => e = .returned (.int .i64 (emptyS d x).1) ∧ WD w' b sb ob db m (emptyS d x).2.1 (emptyS d x).2.2 ∧ But [db, m, sb] w w' := by
  obtain ⟨v, hc, _⟩ := h.wal.cells
  have b0 := hc.b0
  have b1 := hc.b1
  have s0 := hc.s0
  have hfe := fresh_eq x.log
  have g1 : ¬ 9223372036854775807 < x.log.size + 1 := by omega
  have g2 : ¬ 9223372036854775807 < x.log.size + 1 + 3 := by omega
  have hF : (freshB x.log).size ≤ maxLen := freshB_le _ hl
  have hN : (fileB x.log x.fr).size ≤ maxLen := fileB_len hl
  generalize hE : createE d (freshL x.log) = E at *
  have HC := Lib.hid (show Calls Tryz.prog 150 #[.pointer (some ⟨db, 0, none⟩), .string (freshB x.log)] w fun e w' => e = .returned (.int .i64 E) ∧ WD w' b sb ob db m (createD d (freshL x.log)) x ∧ But [db, m] w w' from
    by have := create_any w db m d (freshB x.log) h.dat hF h.ok; rw [freshB_list, hE] at this; exact this.mono fun _ _ ⟨he, hd, hb⟩ => ⟨he, h.disk hd hb (h.ok.create _), hb⟩)
  have HR := Lib.hid (show ∀ W, WD W b sb ob db m (createD d (freshL x.log)) { x with size := 0 } → Calls Tryz.prog 256 #[.pointer (some ⟨db, 0, none⟩), .string (freshB x.log), .string (fileB x.log x.fr)] W fun e w' => e = .returned (.int .i64 (renameE (createD d (freshL x.log)) (freshL x.log) x.nm)) ∧ WD w' b sb ob db m (renameD (createD d (freshL x.log)) (freshL x.log) x.nm) { x with size := 0 } ∧ But [db, m] W w' from
    fun W hW => (rename_any W db m _ (freshB x.log) (fileB x.log x.fr) hW.dat hF hN hW.ok).mono fun _ _ ⟨he, hd, hb⟩ => ⟨he, hW.disk hd hb (hW.ok.rename _ _), hb⟩)
  have HSG := Lib.hid (fun W (hW : WD W b sb ob db m (createD d (freshL x.log)) { x with size := 0 }) => hW.segs)
  have HSG2 := Lib.hid (fun W (hW : WD W b sb ob db m (renameD (createD d (freshL x.log)) (freshL x.log) x.nm) { x with size := 0 }) => hW.segs)
  have HFE := Lib.hid hfe
  clear hc h hfe hF hN
  by_cases hgo : E = 0 ∨ E = 5
  · have e1 : emptyS d x = (renameE (createD d (freshL x.log)) (freshL x.log) x.nm, renameD (createD d (freshL x.log)) (freshL x.log) x.nm, { x with size := 0 }) := by simp [emptyS, hE, hgo]
    rw [e1]
    clear e1 hE
    have hT : ((E != 0) = false) ∨ ((E != 0) = true ∧ (E != 5) = false) := by
      rcases hgo with rfl | rfl
      · exact .inl rfl
      · exact .inr ⟨rfl, rfl⟩
    clear hgo
    rcases hT with hT | ⟨hT, hT2⟩
    all_goals
      go_enter Tryz.func208, Tryz.ntmps208
      go_wp2_with fail
      rw [HFE.out]
      refine HC.out.mono ?_
      rintro e w1 ⟨rfl, h1, hb1⟩
      obtain ⟨v1, hc1, _⟩ := h1.wal.cells
      have b01 := hc1.b0
      have s01 := hc1.s0
      have s31 := hc1.s3
      have z31 := hc1.zs 3
      have HD1 := Lib.hid (h1.sized 0)
      have HB1 := Lib.hid hb1
      clear h1 hb1 hc1 HC
      go_wp2_with fail
      have hW2 : WD (w1.setCell ⟨sb, 3, none⟩ (.int .i64 0)).drew b sb ob db m (createD d (freshL x.log)) { x with size := 0 } := HD1.out.drew
      have HW2 := Lib.hid hW2
      clear hW2
      go_region_held3 (fun w' => w'.cell? ⟨b, 0, none⟩ = some (.pointer (some ⟨sb, 0, none⟩)) ∧ w'.cell? ⟨sb, 0, none⟩ = some (.pointer (some ⟨db, 0, none⟩)) ∧ w'.cell? ⟨sb, 1, none⟩ = some (.string (fileB x.log x.fr)))
        (first | exact HSG.out _ HW2.out | exact HSG2.out _ h2 | assumption)
        (first | (go_at_call 256; ((with_reducible refine (HR.out _ HW2.out).mono ?_); rintro e w2 ⟨rfl, h2, hb2⟩)))
      all_goals
        have HH := Lib.hid h2
        have HHB := Lib.hid hb2
        clear h2 hb2
        go_wp2_with fail
        go_ret
        exact ⟨rfl, HH.out, ((HB1.out.wider (l' := [db, m, sb]) (by simp)).setCell (.inl (by simp)) _).drew.trans (HHB.out.wider (by simp))⟩
  · have e1 : emptyS d x = (E, createD d (freshL x.log), x) := by simp [emptyS, hE, hgo]
    rw [e1]
    clear e1 hE
    have hT : (E != 0) = true := by simp only [bne_iff_ne, ne_eq]; exact fun e => hgo (.inl e)
    have hT2 : (E != 5) = true := by simp only [bne_iff_ne, ne_eq]; exact fun e => hgo (.inr e)
    clear hgo
    go_enter Tryz.func208, Tryz.ntmps208
    go_wp2_with fail
    rw [HFE.out]
    refine HC.out.mono ?_
    rintro e w1 ⟨rfl, h1, hb1⟩
    have HD1 := Lib.hid h1
    have HB1 := Lib.hid hb1
    clear h1 hb1 HC
    go_wp2_with fail
    go_ret
    exact ⟨rfl, HD1.out, HB1.out.wider (by simp)⟩
end Go.Proofs.YtcohbfabcdjefaaGreatDoor
