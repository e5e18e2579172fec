/-
  package outbox: Tried, out, Done; Letters at nil.
-/
import Derived.Test.YtcohbfabcdjefaaGreatDoorEz
namespace Go.Proofs.YtcohbfabcdjefaaGreatDoor
open Go.RowKit Go.Maps Go.Shelf
attribute [local go_sem] Oper.semAt_some

variable {A B : Nat} {w : World} {tb db : Nat} {M : List It} {logged n z : Nat}
/-- one put in memory -/
theorem rd1 {w : World} {bk : Nat} {a : It} (h : w.heap[bk]? = some (.cells #[.string a.key, .string a.val, .bool a.gone] 73 (0, 0))) : RdE w (.slice (some ⟨bk, 0, none⟩) 1 1) [a] :=
  ⟨⟨_, 1, rfl, Nat.le_refl _, by unfold maxLen; simp, fun _ => ⟨bk, rfl, heap_lt h, fun i hi => by
    match i, hi with
    | 0, _ => exact ⟨by simp [World.cell?, h], by simp [World.cell?, h], by simp [World.cell?, h]⟩⟩⟩⟩
set_option maxRecDepth 100000 in
set_option maxHeartbeats 2000000 in
theorem tried_ok (h : DbAt A B w tb db M logged n z) (hM : M.length ≤ 1000000) (q a b : Nat) (hq : q < 8) (hH : NumR M (kH q) 1 a) (hT : NumR M (kT q) 0 b) (ha : a < 100) (hb : b < 100) (hab : a ≤ b)
    (t d : Nat) (txt : ByteArray) (ht : t < 256) (hd : d < 256) (htx : txt.size ≤ 16368) (hI : getL M (kI q a) = some ⟨kI q a, valB t d txt, false⟩) (due : Int) :
    Calls Tryz.prog 14 #[.pointer (some ⟨tb, 0, none⟩), .int .i64 q, .int .i64 due] w fun e w' => ∃ bk, e = .returned (.slice (some ⟨bk, 0, none⟩) 1 1) ∧ RdE w' (.slice (some ⟨bk, 0, none⟩) 1 1) [⟨kI q a, valB (t + 1) (u64N due) txt, false⟩] ∧ Below w.heap.size w w' := by
  have HH := Lib.hid (head_any h hM q a b hq hH hT ha hb hab t d txt ht hd htx hI)
  have HK := Lib.hid (fun W => ikey_any q a hq ha W)
  have HV := Lib.hid (show ∀ W, Calls Tryz.prog 29 #[.agg #[.string txt, .int .u64 a, .int .i64 ((t : Int) + 1), .int .i64 due]] W fun e w' => e = .returned (.string (valB (t + 1) (u64N due) txt)) ∧ Below W.heap.size W w' from fun W => value_any W txt a (t + 1) due (by omega) (by omega))
  unfold headV at HH
  generalize kI q a = ki at *
  generalize valB (t + 1) (u64N due) txt = v at *
  clear h hH hT hI
  go_enter Tryz.func14, Tryz.ntmps14
  go_wp2_with fail
  refine HH.out.mono ?_
  rintro e w1 ⟨rfl, hb1⟩
  have HB1 := Lib.hid hb1
  clear hb1
  go_wp2_with fail
  obtain ⟨W, hW⟩ : ∃ W, W = w1.alloc (.cells #[.string txt, .int .u64 a, .int .i64 ((t : Int) + 1), .int .i64 due] 43 (0, 0)) := ⟨_, rfl⟩
  have hx : W.heap[w1.heap.size]? = some (.cells #[.string txt, .int .u64 a, .int .i64 ((t : Int) + 1), .int .i64 due] 43 (0, 0)) := by rw [hW]; exact heap_alloc_new w1 _
  have HBW2 := Lib.hid (show Below w.heap.size w W by rw [hW]; exact HB1.out.alloc HB1.out.size _)
  rw [← hW]
  clear hW
  obtain ⟨xb, hxb⟩ : ∃ xb, xb = w1.heap.size := ⟨_, rfl⟩
  rw [← hxb] at hx ⊢
  clear hxb
  have HXD := Lib.hid (show W.drew.heap[xb]? = some (.cells #[.string txt, .int .u64 a, .int .i64 ((t : Int) + 1), .int .i64 due] 43 (0, 0)) from hx)
  have HBD := Lib.hid (show Below w.heap.size w W.drew from HBW2.out.drew)
  have HSx := Lib.hid (show ∀ W' : World, W'.heap[xb]? = some (.cells #[.string txt, .int .u64 a, .int .i64 ((t : Int) + 1), .int .i64 due] 43 (0, 0)) → (W'.cell? ⟨xb, 0, none⟩ = some (.string txt) ∧ W'.cell? ⟨xb, 1, none⟩ = some (.int .u64 a) ∧ W'.cell? ⟨xb, 2, none⟩ = some (.int .i64 ((t : Int) + 1)) ∧ W'.cell? ⟨xb, 3, none⟩ = some (.int .i64 due)) from fun W' h => ⟨by simp [World.cell?, h], by simp [World.cell?, h], by simp [World.cell?, h], by simp [World.cell?, h]⟩)
  clear hx
  go_region_held3 (fun w' => w'.cell? ⟨xb, 0, none⟩ = some (.string txt) ∧ w'.cell? ⟨xb, 1, none⟩ = some (.int .u64 a) ∧ w'.cell? ⟨xb, 2, none⟩ = some (.int .i64 ((t : Int) + 1)) ∧ w'.cell? ⟨xb, 3, none⟩ = some (.int .i64 due))
    (first | with_reducible exact HSx.out _ HXD.out | with_reducible exact HSx.out _ Q3.out | with_reducible exact HSx.out _ Q4.out | exact HSx.out _ ((heap_alloc_old w4 _ (heap_lt Q4.out)).trans Q4.out) | assumption)
    (first
      | (go_at_call 28; ((with_reducible refine (HK.out W.drew).mono ?_); rintro e w3 ⟨rfl, hb3⟩; have Q3 := Lib.hid ((hb3.block xb (heap_lt HXD.out)).trans HXD.out); have B3 := Lib.hid (HBD.out.trans (hb3.mono HBD.out.size)); clear hb3))
      | (go_at_call 29; ((with_reducible refine (HV.out w3).mono ?_); rintro e w4 ⟨rfl, hb4⟩; have Q4 := Lib.hid ((hb4.block xb (heap_lt Q3.out)).trans Q3.out); have B4 := Lib.hid (B3.out.trans (hb4.mono B3.out.size)); clear hb4)))
  all_goals
    go_wp2_with fail
    go_ret
    exact ⟨w4.heap.size, rfl, rd1 (heap_alloc_new w4 _), B4.out.alloc B4.out.size _⟩
set_option maxRecDepth 100000 in
theorem out_any (q a : Nat) (hq : q < 8) (ha : a < 99) (w : World) :
    Calls Tryz.prog 32 #[.int .i64 q, .int .u64 a] w fun e w' => ∃ bk, e = .returned (.slice (some ⟨bk, 0, none⟩) 2 2) ∧ RdE w' (.slice (some ⟨bk, 0, none⟩) 2 2) [⟨kH q, dec (a + 1), false⟩, ⟨kI q a, ⟨#[]⟩, true⟩] ∧ Below w.heap.size w w' := by
  have HI := Lib.hid (fun W => itoa_dec q (by omega) W)
  have HF := Lib.hid (show ∀ W, Calls Tryz.prog 27 #[.int .u64 ((a : Int) + 1), .int .i64 10] W fun e w' => e = .returned (.string (dec (a + 1))) ∧ W = w' from fun W => fmt_dec (a + 1) (by omega) W)
  have HK := Lib.hid (fun W => ikey_any q a hq (by omega) W)
  have hdz : (dec q).size = 1 := by rw [dec_size q (by omega), if_pos (by omega)]
  have HK4 := Lib.hid (fun W bk (hk : W.heap[bk]? = some (.cells #[.string ⟨#[113]⟩, .string (dec q), .string ⟨#[104]⟩] 9 (0, 0))) => key3 ⟨#[113]⟩ (dec q) ⟨#[104]⟩ W bk hk (by rw [hdz]; decide))
  rw [join_kH q hq] at HK4
  have g2 : IntKind.u64.wrap ((a : Int) + 1) = (a : Int) + 1 := by rw [IntKind.wrap_u64]; omega
  generalize dec q = s at *
  generalize dec (a + 1) = s1 at *
  generalize kH q = s2 at *
  generalize kI q a = s3 at *
  clear hdz
  go_enter Tryz.func32, Tryz.ntmps32
  go_wp2_with fail
  refine (HI.out _).mono ?_
  rintro e w1 ⟨rfl, rfl⟩
  go_wp2_with fail
  refine (HK4.out _ _ (heap_alloc_new w _)).mono ?_
  rintro e w2 ⟨rfl, hb2⟩
  have HB2 := Lib.hid ((bl1 w _).trans (hb2.mono (by simp)))
  clear hb2
  go_wp2_with fail
  refine (HF.out _).mono ?_
  rintro e w3 ⟨rfl, rfl⟩
  go_wp2_with fail
  refine (HK.out _).mono ?_
  rintro e w3 ⟨rfl, hb3⟩
  have HB3 := Lib.hid (HB2.out.trans (hb3.mono HB2.out.size))
  clear hb3
  go_wp2_with fail
  go_ret
  exact ⟨w3.heap.size, rfl, rd2 (heap_alloc_new w3 _), HB3.out.alloc HB3.out.size _⟩
set_option maxRecDepth 100000 in
theorem done_ok (h : DbAt A B w tb db M logged n z) (hM : M.length ≤ 1000000) (q a b : Nat) (hq : q < 8) (hH : NumR M (kH q) 1 a) (hT : NumR M (kT q) 0 b) (ha : a < 99) (hb : b < 100) (hab : a ≤ b)
    (t d : Nat) (txt : ByteArray) (ht : t < 256) (hd : d < 256) (htx : txt.size ≤ 16368) (hI : getL M (kI q a) = some ⟨kI q a, valB t d txt, false⟩) :
    Calls Tryz.prog 15 #[.pointer (some ⟨tb, 0, none⟩), .int .i64 q, .int .u64 a] w fun e w' => ∃ bk, e = .returned (.slice (some ⟨bk, 0, none⟩) 2 2) ∧ RdE w' (.slice (some ⟨bk, 0, none⟩) 2 2) [⟨kH q, dec (a + 1), false⟩, ⟨kI q a, ⟨#[]⟩, true⟩] ∧ Below w.heap.size w w' := by
  have HH := Lib.hid (head_any h hM q a b hq hH hT (by omega) hb hab t d txt ht hd htx hI)
  have HO := Lib.hid (out_any q a hq ha)
  unfold headV at HH
  clear h hH hT hI
  go_enter Tryz.func15, Tryz.ntmps15
  go_wp2_with fail
  refine HH.out.mono ?_
  rintro e w1 ⟨rfl, hb1⟩
  have HB1 := Lib.hid (hb1.alloc hb1.size (.cells #[.string txt, .int .u64 a, .int .i64 t, .int .i64 d] 43))
  clear hb1
  go_wp2_with fail
  refine (HO.out _).mono ?_
  rintro e w2 ⟨bk, rfl, hr, hb2⟩
  have HR := Lib.hid hr
  have HB2 := Lib.hid (HB1.out.trans (hb2.mono HB1.out.size))
  clear hr hb2
  go_wp2_with fail
  go_ret
  exact ⟨bk, rfl, HR.out, HB2.out⟩
set_option maxRecDepth 100000 in
theorem live_nil (w : World) : Calls Tryz.prog 63 #[.nilFunc] w fun e w' => e = .returned (.func (.func 117) #[] #[.pointer (some ⟨w.heap.size, 0, none⟩)]) ∧ w' = w.alloc (.cells #[.nilFunc] 205 (0, 0)) := by
  go_enter Tryz.func63, Tryz.ntmps63
  go_wp2_with fail
  go_ret
  exact ⟨rfl, rfl⟩
set_option maxRecDepth 100000 in
theorem range_nil (w : World) (s : ByteArray) : Calls Tryz.prog 34 #[.pointer none, .string s] w fun e w' => e = .returned (.func (.func 117) #[] #[.pointer (some ⟨w.heap.size, 0, none⟩)]) ∧ w' = w.alloc (.cells #[.nilFunc] 205 (0, 0)) := by
  have HL := Lib.hid (live_nil w)
  go_enter Tryz.func34, Tryz.ntmps34
  go_wp2_with fail
  refine HL.out.mono ?_
  rintro e w1 ⟨rfl, hw⟩
  have HW := Lib.hid hw
  clear hw
  go_wp2_with fail
  go_ret
  exact ⟨rfl, HW.out⟩
theorem eqSeq (W : World) : (binOp .eql 205 .nilFunc .nilFunc).run Tryz.prog W = .ok (.bool true) W := by kernel_rfl
set_option maxRecDepth 100000 in
theorem live1_stops (n : Nat) (Bn : Nat) (w : World) (hc : w.cell? ⟨Bn, 0, none⟩ = some .nilFunc) :
    SeqStopsK Fence.wide n Tryz.prog 117 #[.pointer (some ⟨Bn, 0, none⟩)] (fun x : ByteArray × ByteArray => #[Value.string x.1, Value.string x.2]) (fun _ _ => True) (fun ys => ys = []) (fun _ => False) 0 w := fun l J Jx W hW hJ _ hY h0 => by
  have hb : Bn < w.heap.size := World.block_lt_of_cell? w _ hc
  have hcW : W.cell? ⟨Bn, 0, none⟩ = some .nilFunc := (hW.cell (p := ⟨Bn, 0, none⟩) hb).trans hc
  have hbW : Bn < W.heap.size := Nat.lt_of_lt_of_le hb hW.size
  have HJ := Lib.hid (show J [] (W.alloc (.cells #[.func (.yield l) #[] #[]] 146 (0, 0))) from hJ [] _ _ none h0 (World.grownBy_alloc W _ none) (fun r e => by cases e))
  clear hY hJ h0 hW hc hb
  refine callsIn_of_wp Tryz.func117 rfl trivial ?_ rfl
  simp only [Tryz.ntmps117, List.size_toArray, List.length_cons, List.length_nil, Nat.reduceAdd, Nat.reduceSub, Array.replicate_succ, Array.replicate_zero, List.push_toArray, List.append_toArray, List.nil_append, List.cons_append]
  have hq := eqSeq
  gi_wp2_with fail
  refine bodyPost_ret (results_none rfl _ _ _) rfl ?_
  exact ⟨⟨_, rfl⟩, .inl ⟨[], rfl, HJ.out⟩⟩
set_option maxRecDepth 100000 in
set_option maxHeartbeats 1000000 in
theorem letters_nil (w : World) : Calls Tryz.prog 18 #[.pointer none] w fun e w' => e = .returned (.slice none 0 0) ∧ Below w.heap.size w w' := by
  refine (callsIn_wide (n := 5)).1 (callsIn_of_wp_marks Tryz.func18 rfl trivial ?_ rfl)
  refine wpIn_wide.2 ?_
  simp only [Tryz.ntmps18, List.size_toArray, List.length_cons, List.length_nil, Nat.reduceAdd, Nat.reduceSub, Array.replicate_succ, Array.replicate_zero, List.push_toArray, List.append_toArray, List.nil_append, List.cons_append]
  go_wp2_with fail
  obtain ⟨W, hW⟩ : ∃ W, W = (w.alloc (.cells #[.slice none 0 0] 50 (0, 0))).alloc (.cells #[.string ⟨#[100]⟩, .string ⟨#[]⟩] 9 (0, 0)) := ⟨_, rfl⟩
  have q0 : W.heap[w.heap.size]? = some (.cells #[.slice none 0 0] 50 (0, 0)) := by rw [hW, Below.heap_alloc _ _ _ (by simp)]; exact heap_alloc_new w _
  have q1 : W.heap[w.heap.size + 1]? = some (.cells #[.string ⟨#[100]⟩, .string ⟨#[]⟩] 9 (0, 0)) := by
    have := heap_alloc_new (w.alloc (.cells #[.slice none 0 0] 50)) (.cells #[.string ⟨#[100]⟩, .string ⟨#[]⟩] 9)
    rw [World.size_alloc] at this
    rw [hW]; exact this
  have HB := Lib.hid (show Below w.heap.size w W by rw [hW]; exact bl2 w _ _)
  rw [← hW]
  clear hW
  refine (key_any (w.heap.size + 1) 2 [⟨#[100]⟩, ⟨#[]⟩] W (fun j x hj => ?_) (heap_lt q1) (by decide) (by decide) (by decide)).mono ?_
  · rw [World.cell?, q1]
    match j, hj with
    | 0, hj => cases hj; rfl
    | 1, hj => cases hj; rfl
  rintro e w1 ⟨rfl, hb1⟩
  have r0 : Boxed w1 w.heap.size 50 (.slice none 0 0) := (hb1.block _ (heap_lt q0)).trans q0
  have HB1 := Lib.hid (HB.out.trans (hb1.mono HB.out.size))
  clear hb1 q0 q1 HB
  go_wp2_with fail
  refine (range_nil w1 _).mono ?_
  rintro e w2 ⟨rfl, hw2⟩
  have r2 : Boxed w2 w.heap.size 50 (.slice none 0 0) := by rw [hw2]; exact r0.alloc _
  have hn : w2.cell? ⟨w1.heap.size, 0, none⟩ = some .nilFunc := by rw [hw2]; simp [go_sem]
  have HB2 := Lib.hid (show Below w.heap.size w w2 by rw [hw2]; exact HB1.out.alloc HB1.out.size _)
  clear hw2 r0
  go_wp2_with fail
  refine (wpIn_wide (n := 5)).1 (wpIn_rangeFunc_ownH rfl (by omega) (gf := 117) (lb := #[.pointer (some ⟨w1.heap.size, 0, none⟩)]) rfl trivial (enters_of Tryz.func117 (by kernel_rfl) rfl)
    (live1_stops 4 w1.heap.size w2 hn) (fun _ _ => trivial) (fun _ _ _ _ _ _ _ _ => trivial) (Below.refl _ _) (fun _ => rfl)
    (fun _ W => Boxed W w.heap.size 50 (.slice none 0 0) ∧ Below w.heap.size w W) (fun _ _ _ => False) ?own (fun _ _ _ _ _ hs _ _ => hs) ⟨r2, HB2.out⟩
    (fun _ _ _ => True) (fun _ _ _ _ _ _ _ _ _ => trivial) ?assign ?body ?done ?stop)
  case own =>
    rintro s A B row ⟨h1, h2⟩ hg hr
    exact ⟨h1.kept hg (fun e => by obtain ⟨_, o, ho, hc⟩ := hr _ e.symm; rw [show A.heap[w.heap.size]? = _ from h1] at ho; cases ho; cases hc), h2.grown hg h2.size (fun k e => by have := (hr k e).1; have := HB2.out.size; omega)⟩
  case assign =>
    intro l pre x W K hi hK
    gi_wp2
    exact hK _ _ (KeepsFrom.refl _ _) trivial hi trivial
  case body =>
    intro l pre x a' W _ _ _ _ hlt
    exact absurd hlt (Nat.not_lt_zero _)
  case done =>
    rintro D xs W hD _ ⟨h1, h2⟩ hdf
    have c0 := h1.cell
    have HF := Lib.hid h2
    go_wp2_with fail
    refine ⟨by simp, .inl ⟨_, _, rfl, run_takeDeferred hdf, ?_⟩⟩
    refine ⟨.slice none 0 0, by simp [results, Tryz.results18, go_sem], rfl, ?_⟩
    exact HF.out.grown (grownBy_putObj_a W D (.deferred none)) HF.out.size (fun k e => by cases e; have := HB2.out.size; omega)
  case stop =>
    rintro D c pre W _ h
    exact h.elim
end Go.Proofs.YtcohbfabcdjefaaGreatDoor
