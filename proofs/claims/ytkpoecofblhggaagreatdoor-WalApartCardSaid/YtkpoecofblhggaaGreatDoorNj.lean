/-
  'Next' at a torn frame; 'Whole'.
-/
import Derived.Test.YtkpoecofblhggaaGreatDoorNi
import Derived.Test.YtkpoecofblhggaaGreatDoorTd
namespace Go.Proofs.YtkpoecofblhggaaGreatDoor
open Go.RowKit Go.Shelf

attribute [local go_sem] Oper.semAt_some

/-- how long the frames of some bodies are -/
def flen (l : List ByteArray) : Nat := (frames l).length
theorem offs_all (l : List ByteArray) : offs l l.length = flen l := by unfold offs flen; rw [List.take_of_length_le (Nat.le_refl _)]
theorem flen_snoc (l : List ByteArray) (x : ByteArray) : flen (l ++ [x]) = flen l + (8 + x.size) := by
  unfold flen; rw [frames_append, List.length_append, frames_one, len_list, frame_size]
theorem flen_le (l : List ByteArray) (h : ∀ b ∈ l, b.size ≤ 65536) : flen l ≤ l.length * 65544 := by
  induction l with
  | nil => simp [flen, frames]
  | cons x r ih =>
    have h1 := h x (List.mem_cons_self ..)
    have h2 := ih (fun b hb => h b (List.mem_cons_of_mem _ hb))
    have e : flen (x :: r) = 8 + x.size + flen r := by
      unfold flen
      rw [show x :: r = [x] ++ r from rfl, frames_append, List.length_append, frames_one, len_list, frame_size]
    rw [e, List.length_cons]; omega
theorem flen_ge (l : List ByteArray) : l.length * 8 ≤ flen l := by
  induction l with
  | nil => simp
  | cons x r ih =>
    have e : flen (x :: r) = 8 + x.size + flen r := by
      unfold flen
      rw [show x :: r = [x] ++ r from rfl, frames_append, List.length_append, frames_one, len_list, frame_size]
    rw [e, List.length_cons]; omega
theorem ownFrom_blockX {β : Type} {B k : Nat} {f : β → World → Obj → Prop} (hk : k < B) (hf : ∀ s A B' o, f s A o → f s B' o) : OwnFrom B (fun (s : β) (W : World) => ∃ o, W.heap[k]? = some o ∧ f s W o) := fun s A B' row hs hg hr => by
  obtain ⟨o, h1, h2⟩ := hs
  exact ⟨o, (hg.block _ (heap_lt h1) (fun e => by have := (hr _ e.symm).1; omega)).trans h1, hf _ _ _ _ h2⟩
theorem ownFrom_block {β : Type} {B k : Nat} {o : Obj} (hk : k < B) : OwnFrom B (fun (_ : β) (W : World) => W.heap[k]? = some o) := fun s A B' row hs hg hr => (hg.block _ (heap_lt hs) (fun e => by have := (hr _ e.symm).1; omega)).trans hs
/-- the sum so far -/
def SumIs (pre : List ByteArray) (z : Int) : Prop := (∀ b ∈ pre, b.size ≤ 65536) → pre.length ≤ 1000000 → z = flen pre
def SumBox (B : Nat) (pre : List ByteArray) (W : World) : Prop := ∃ o, W.heap[B]? = some o ∧ ∃ z : Int, o = .cells #[.int .i64 z] 3 (0, 0) ∧ SumIs pre z

set_option maxRecDepth 100000 in
set_option maxHeartbeats 4000000 in
theorem wholeN_any (w : World) (s : ByteArray) (bs : List ByteArray) (t : List UInt8) (hs : s.size ≤ 2000000) (hT : Text s bs t) (hE : Ends s (offs bs bs.length)) :
    Calls Tryz.prog 49 #[.string s] w fun e w' => e = .returned (.int .i64 (flen bs)) ∧ Below w.heap.size w w' := by
  have HT := Lib.hid hT
  have HE := Lib.hid hE
  have hbl : bs.length ≤ 1000000 := by
    have h1 := hT.len
    have h2 := flen_ge bs
    rw [offs_all] at h1
    omega
  clear hT hE
  refine (callsIn_wide (n := 5)).1 (callsIn_of_wp_marks Tryz.func49 rfl trivial ?_ rfl)
  refine wpIn_wide.2 ?_
  simp only [Tryz.ntmps49, List.size_toArray, List.length_cons, List.length_nil, Nat.reduceAdd, Nat.reduceSub, Array.replicate_succ, Array.replicate_zero, List.push_toArray, List.append_toArray, List.nil_append, List.cons_append]
  go_wp2_with fail
  refine (all_any _ _).mono ?_
  rintro e w1 ⟨rfl, rfl⟩
  obtain ⟨W0, hW0⟩ : ∃ W0, W0 = (w.alloc (.cells #[.int .i64 0] 3)).alloc (.cells #[.string s] 9) := ⟨_, rfl⟩
  have hz : W0.heap.size = w.heap.size + 2 := by rw [hW0]; simp
  have r0 : W0.heap[w.heap.size]? = some (.cells #[.int .i64 0] 3 (0, 0)) := by
    rw [hW0, Below.heap_alloc _ _ _ (by simp)]; exact heap_alloc_new w _
  have r1 : W0.heap[w.heap.size + 1]? = some (.cells #[.string s] 9 (0, 0)) := by
    have := heap_alloc_new (w.alloc (.cells #[.int .i64 0] 3)) (.cells #[.string s] 9)
    rw [World.size_alloc] at this
    rw [hW0]; exact this
  have r2 : W0.cell? ⟨w.heap.size + 1, 0, none⟩ = some (.string s) := by simp [World.cell?, r1]
  have HB0 := Lib.hid (show Below w.heap.size w W0 by rw [hW0]; exact bl2 _ _ _)
  have HW := Lib.hid hW0.symm
  have HZ := Lib.hid hz
  clear hW0 hz
  go_wp2_with fail
  rw [HW.out]
  refine (wpIn_wide (n := 5)).1 (wpIn_rangeFunc_ownG rfl (by omega) (gf := 67) (lb := #[.pointer (some ⟨w.heap.size + 1, 0, none⟩)]) rfl trivial (enters_of Tryz.func67 (by kernel_rfl) rfl)
    (all_stops 4 (by omega) (w.heap.size + 1) s bs t (by omega) HT.out HE.out W0 r2) boxK_t (boxK_b (by rw [HZ.out]; omega)) (Below.refl _ _) (fun _ => rfl)
    (fun pre W => SumBox w.heap.size pre W ∧ Below w.heap.size w W ∧ W.heap[w.heap.size + 1]? = some (.cells #[.string s] 9 (0, 0)))
    (fun _ _ _ => False)
    (OwnFrom.and (ownFrom_blockX (f := fun pre _ o => ∃ z : Int, o = .cells #[.int .i64 z] 3 (0, 0) ∧ SumIs pre z) (by rw [HZ.out]; omega) (fun _ _ _ _ h => h)) (OwnFrom.and (ownFrom_below (Nat.le_refl _) (by rw [HZ.out]; omega)) (ownFrom_block (by rw [HZ.out]; omega))))
    (fun _ _ _ _ _ hs _ _ => hs)
    ⟨⟨_, r0, 0, rfl, fun _ _ => rfl⟩, HB0.out, r1⟩
    (fun x => { tmps := #[.string s, undef, .int .i64 0, .pointer (some ⟨w.heap.size, 0, none⟩), .string x, .string s, .func (.func 67) #[] #[.pointer (some ⟨w.heap.size + 1, 0, none⟩)], .string x, undef, undef, undef, undef, undef, undef], defers := [] }) ?assign ?body ?done ?stop)
  case assign =>
    intro l x W K hK
    gi_wp2
    exact hK
  case body =>
    rintro l pre x W ⟨⟨o, ho, z, rfl, hz⟩, hB, hr1⟩ hlt
    have hc : W.cell? ⟨w.heap.size, 0, none⟩ = some (.int .i64 z) := by simp [World.cell?, ho]
    have hf : W.frozen? ⟨w.heap.size, 0, none⟩ = false := by simp [World.frozen?, ho]
    have HSM := Lib.hid hz
    have HO := Lib.hid ho
    have HR := Lib.hid (show Below w.heap.size w W ∧ W.heap[w.heap.size + 1]? = some (.cells #[.string s] 9 (0, 0)) from ⟨hB, hr1⟩)
    clear hz ho hB hr1 hlt
    gi_wp2
    simp only [ownPostG]
    have hblk : W.heap[w.heap.size]? = some (.cells #[.int .i64 z] 3 (0, 0)) := HO.out
    refine ⟨(KeepsOthers.setCell _ _ _).from _, fun y hy => ?_, ⟨_, heap_setCell_same _ _ 0 _ _ _ hblk, _, rfl, fun hsz hln => ?_⟩, HR.out.1.setCell (Nat.le_refl _) _, (Below.heap_setCell _ _ _ _ (by simp)).trans HR.out.2⟩
    · rw [← hy]; exact World.cell?_setCell_other _ _ _ _ (fun e => by injection e with e1; omega)
    · rw [List.length_append, List.length_singleton] at hln
      have e1 := HSM.out (fun b hb => hsz b (List.mem_append_left _ hb)) (by omega)
      have e2 := hsz x (by simp)
      have e3 := flen_le pre (fun b hb => hsz b (List.mem_append_left _ hb))
      rw [e1, flen_snoc]
      have w1 : wrap64 (8 + (x.size : Int)) = 8 + (x.size : Int) := IntWalk.wrap64_in _ (by omega)
      rw [w1]
      have w2 : wrap64 ((flen pre : Int) + (8 + (x.size : Int))) = (flen pre : Int) + (8 + (x.size : Int)) := IntWalk.wrap64_in _ (by omega)
      rw [w2]; omega
  case done =>
    rintro D ys W hD rfl ⟨⟨o, ho, z, rfl, hz⟩, hB, hr1⟩ hK
    have hzz := hz HT.out.sz hbl
    subst hzz
    have hc : W.cell? ⟨w.heap.size, 0, none⟩ = some (.int .i64 (flen ys : Nat)) := by simp [World.cell?, ho]
    have HKD := Lib.hid hK
    have HBW := Lib.hid hB
    have HD := Lib.hid hD
    clear hK hB hD ho hr1 hz
    go_wp2_with fail
    refine ⟨by simp, .inl ⟨_, _, rfl, run_takeDeferred HKD.out, ?_⟩⟩
    refine ⟨_, results_tmp rfl _ _ _, rfl, HBW.out.trans (belowK_b (w := w) (Nat.le_refl _) W D _ _ ?_ HKD.out rfl rfl)⟩
    have h1 := HD.out
    have h2 := HZ.out
    omega
  case stop =>
    rintro D c pre W _ _ h _
    exact h.elim
end Go.Proofs.YtkpoecofblhggaaGreatDoor
