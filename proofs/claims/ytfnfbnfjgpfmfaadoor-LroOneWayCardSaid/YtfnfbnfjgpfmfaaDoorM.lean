/-
  'redresslaw23.LroOneWay' returns true for every input: the whole statement (the tied card), no condition of ours.
-/
import Derived.Test.YtfnfbnfjgpfmfaaDoorK
import Derived.Test.YtfnfbnfjgpfmfaaDoorJ
import Derived.Deep.Slices
namespace Go.Proofs.YtfnfbnfjgpfmfaaDoor
open Go.ChangeShapes Go.WideShapes Go.ChangeAt Go.RowKit Go.Deep

theorem cells25' : Tryd.prog.cellsOf 25 = 4 := by kernel_rfl

/-- an operation's four cells -/
theorem op_open {H : Type} {enc : TypeId × Value → H} {w : World} {m : Nat} {cs : List Value} {x : DataW H × List MemPlace}
    (h : DataW.trod enc Tryd.prog w 0 (fun _ => true) true m 25 cs = some x) :
    ∃ (st c : Int) (v : ByteArray) (d : Int), cs = [.int .i64 st, .int .i64 c, .string v, .int .i64 d] := by
  obtain ⟨xs, n, _, _, hl, hxl, hf⟩ := DataW.trod_struct Tryd.underlying25 h
  rw [cells25'] at hl
  have c2 : Tryd.prog.cellsOf 2 = 1 := by kernel_rfl
  have c9 : Tryd.prog.cellsOf 9 = 1 := by kernel_rfl
  match cs, hl with
  | [v0, v1, v2, v3], _ =>
    have f0 : DataW.trod enc Tryd.prog w 0 (fun _ => true) true n 3 [v0] = xs[0]? := by have := hf 0 _ rfl; simpa [cells3] using this
    have f1 : DataW.trod enc Tryd.prog w 0 (fun _ => true) true n 3 [v1] = xs[1]? := by have := hf 1 _ rfl; simpa [cells3] using this
    have f2 : DataW.trod enc Tryd.prog w 0 (fun _ => true) true n 9 [v2] = xs[2]? := by have := hf 2 _ rfl; simpa [c9] using this
    have f3 : DataW.trod enc Tryd.prog w 0 (fun _ => true) true n 2 [v3] = xs[3]? := by have := hf 3 _ rfl; simpa [c2] using this
    match xs, hxl with
    | [x0, x1, x2, x3], _ =>
      obtain ⟨st, e0, _⟩ := DataW.trod_int Tryd.underlying3 (show DataW.trod enc Tryd.prog w 0 _ true n 3 [v0] = some x0 from f0)
      obtain ⟨c, e1, _⟩ := DataW.trod_int Tryd.underlying3 (show DataW.trod enc Tryd.prog w 0 _ true n 3 [v1] = some x1 from f1)
      obtain ⟨v, e2, _⟩ := DataW.trod_string Tryd.underlying9 (show DataW.trod enc Tryd.prog w 0 _ true n 9 [v2] = some x2 from f2)
      obtain ⟨d, e3, _⟩ := DataW.trod_int Tryd.underlying2 (show DataW.trod enc Tryd.prog w 0 _ true n 2 [v3] = some x3 from f3)
      simp only [List.cons.injEq, and_true] at e0 e1 e2 e3
      subst e0 e1 e2 e3
      exact ⟨st, c, v, d, rfl⟩

theorem params_read3 : ∀ t ∈ Tryd.f3.params.toList, Tryd.prog.readableRec t = true ∧ t < Tryd.prog.types.size := by
  have hall : (Tryd.f3.params.toList.all fun t => Tryd.prog.readableRec t && decide (t < Tryd.prog.types.size)) = true := by kernel_rfl
  intro t ht
  simpa using List.all_eq_true.1 hall t ht

/-- THE DOOR's OWN HEAP MEETS THE CONDITION. -/
theorem door_met3 (os : Os) (args : Array Value) : laidMetH Tryd.prog [("redress/lro.rules", Rows.laid_redress_lro_rules)] ((World.doorLaid Tryd.prog 21 os).forCall (fun _ _ => 0) ⟨#[], args, []⟩).memory :=
  laidMetH_of_parts3 (fuel := 8) (laidMet_of_run' 8 (by kernel_rfl) (by kernel_rfl)) (by kernel_rfl) (by kernel_rfl)

theorem one_any (d : Int) (lv : Option Addr) (n cp : Nat) (W : World) (b1 o1 b2 o2 : Nat) (h : RulesAt W b1 o1 b2 o2)
    (hl : 0 < n → ∃ bl ol, lv = some ⟨bl, ol, none⟩ ∧ bl < W.heap.size ∧ ∀ i, i < n → ∃ (st c : Int) (v : ByteArray) (e : Int), W.cell? ⟨bl, ol + i * 4, none⟩ = some (.int .i64 st) ∧ W.cell? ⟨bl, ol + i * 4 + 1, none⟩ = some (.int .i64 c) ∧ W.cell? ⟨bl, ol + i * 4 + 2, none⟩ = some (.string v) ∧ W.cell? ⟨bl, ol + i * 4 + 3, none⟩ = some (.int .i64 e)) :
    Calls Tryd.prog 3 #[.int .i64 d, .slice lv n cp] W fun e w' => e = .returned (.bool true) ∧ Below W.heap.size W w' := by
  by_cases hn : 60 < (n : Int)
  · exact one_long d lv n cp hn W b1 o1 b2 o2 h
  by_cases hd : d < 0 ∨ 1099511627776 < d
  · exact one_bad d lv n cp (by omega) W b1 o1 b2 o2 h hd
  obtain ⟨S, hS⟩ := choose_lt (α := Int × Int × ByteArray × Int) (n := n) (p := fun i x => ∀ bl ol, lv = some ⟨bl, ol, none⟩ → W.cell? ⟨bl, ol + i * 4, none⟩ = some (.int .i64 x.1) ∧ W.cell? ⟨bl, ol + i * 4 + 1, none⟩ = some (.int .i64 x.2.1) ∧ W.cell? ⟨bl, ol + i * 4 + 2, none⟩ = some (.string x.2.2.1) ∧ W.cell? ⟨bl, ol + i * 4 + 3, none⟩ = some (.int .i64 x.2.2.2)) (fun i hi => by
    obtain ⟨bl, ol, rfl, _, hc⟩ := hl (by omega)
    obtain ⟨st, c, v, e, h0, h1, h2, h3⟩ := hc i hi
    refine ⟨(st, c, v, e), fun bl' ol' e' => ?_⟩
    simp only [Option.some.injEq, Addr.mk.injEq, and_true] at e'
    obtain ⟨rfl, rfl⟩ := e'
    exact ⟨h0, h1, h2, h3⟩)
  refine one_loop d lv n cp (by omega) (fun i => (S i).1) (fun i => (S i).2.1) (fun i => (S i).2.2.1) (fun i => (S i).2.2.2) W b1 o1 b2 o2 h (by omega) (by omega) (fun h0 => ?_)
  obtain ⟨bl, ol, e, hlt, _⟩ := hl h0
  exact ⟨bl, ol, e, hlt, fun i hi => hS i hi bl ol e⟩

set_option maxRecDepth 100000 in
theorem one_lifted (os : Os) (started : os.Started) (H : Type) (enc : TypeId × Value → H) :
    ReturnsInHanded {} Tryd.checked os 3 .any (fun w args => (Rows.lroOneWaySpec.pre enc Tryd.prog Tryd.f3 [] false w args ∧ laidMetH Tryd.prog [("redress/lro.rules", Rows.laid_redress_lro_rules)] w) ∧ sizedMet enc Tryd.prog Tryd.f3 (OpenSpec.ofChange Rows.lroOneWaySpec) false w args)
      (Rows.lroOneWaySpec.post enc Tryd.prog Tryd.f3 false true false false) := by
  refine returnsInHanded_of_change_and (C := Tryd.checked) (X := fun w _ => laidMetH Tryd.prog [("redress/lro.rules", Rows.laid_redress_lro_rules)] w) (fun _ _ _ hh h => h.of_heap hh) own started (by kernel_rfl) Tryd.func3
    (ChangeSpec.witness_shaped (enc := enc) (C := Tryd.checked) (os := os) (X := fun w _ => laidMetH Tryd.prog [("redress/lro.rules", Rows.laid_redress_lro_rules)] w) false (World.doorLaid Tryd.prog 21 os) #[.int .i64 0, .slice none 0 0] 8 rfl (World.shaped_of_RefB (by kernel_rfl) (by kernel_rfl)) (by kernel_rfl) (by kernel_rfl) (by kernel_rfl) (door_met3 os _)) ?_
  intro W base args ds gs before hval0 hW _ _ hL _
  have hval : ∀ (j : Nat) t v, Tryd.f3.params[j]? = some t → args[j]? = some v → Value.okWide Tryd.prog W .any base t v := hval0
  have hW' := hW
  obtain ⟨p, q, hA0, hV, rfl, hfz, hnd⟩ := hW
  have hA : DataW.TrodAll enc Tryd.prog W 0 (fun _ => true) true Tryd.f3.params.toList args.toList ds p := hA0
  have hA2 := hA
  rw [Tryd.params3] at hA hval
  obtain ⟨v0, vs0, d0, ds0, p0, q0, hargs, rfl, rfl, h0, r0⟩ := trodAll_cons hA
  obtain ⟨v1, vs1, d1, ds1, p1, q1, rfl, rfl, rfl, h1, r1⟩ := trodAll_cons r0
  obtain ⟨rfl, rfl, rfl⟩ := trodAll_nil r1
  obtain rfl : args = #[v0, v1] := by cases args; simp_all
  obtain ⟨rfl, rfl⟩ := trodVars_none hV
  simp only [List.append_nil] at hW' hA2
  obtain ⟨d, rfl, rfl, rfl, wd⟩ := open_int Tryd.underlying2 (hval 0 2 v0 rfl rfl) h0
  obtain ⟨lv, n, cp, rfl⟩ := okWide_slice Tryd.underlying22 (hval 1 22 v1 rfl rfl)
  obtain ⟨fuel, hf⟩ := h1
  obtain ⟨b1, o1, b2, o2, hR⟩ := rules_of hL
  clear hA0 hval0 hargs
  have key : Calls Tryd.prog 3 #[.int .i64 d, .slice lv n cp] W fun e w' => e = .returned (.bool true) ∧ Below W.heap.size W w' := by
    rcases open_slice Tryd.underlying22 hf with ⟨hcs, _⟩ | ⟨a, len, cap, m, fu, D, Pl, hcs, _, hlc, _, hm, _, hi⟩
    · simp only [Value.cells, List.cons.injEq, Value.slice.injEq, and_true] at hcs
      obtain ⟨rfl, rfl, rfl⟩ := hcs
      exact one_any d none 0 0 W b1 o1 b2 o2 hR (fun h => absurd h (by omega))
    · simp only [Value.cells, List.cons.injEq, Value.slice.injEq, and_true] at hcs
      obtain ⟨rfl, rfl, rfl⟩ := hcs
      simp only [if_true] at hm
      subst hm
      rw [cells25'] at hi
      refine one_any d (some a) _ _ W b1 o1 b2 o2 hR (fun h => ?_)
      obtain ⟨cs0, hc0, ht0⟩ := hi 0 (by omega)
      obtain ⟨st, c, v, e, rfl⟩ := op_open ht0
      obtain ⟨_, _, hat⟩ := World.cells?_some hc0
      have hfirst := hat 0 (by omega)
      obtain ⟨bl, ol, sp⟩ := a
      have hsp : sp = none := by simpa [Addr.add] using World.cell?_spot hfirst
      subst hsp
      refine ⟨bl, ol, rfl, World.block_lt_of_cell? W _ hfirst, fun i hil => ?_⟩
      obtain ⟨cs1, hc1, ht1⟩ := hi i (by omega)
      obtain ⟨st1, c1, v1, e1, rfl⟩ := op_open ht1
      obtain ⟨_, _, hat1⟩ := World.cells?_some hc1
      simp only [Go.WideShapes.add_plain] at hat1
      exact ⟨st1, c1, v1, e1, hat1 0 (by omega), hat1 1 (by omega), hat1 2 (by omega), hat1 3 (by omega)⟩
  refine key.mono fun e W' ⟨he, hb⟩ => ?_
  subst he
  exact ⟨_, rfl, law_end (tb := 4) (by kernel_rfl) params_read3 (by kernel_rfl) Tryd.underlying4 rfl hW' hA2 rfl hb⟩

theorem one_said : Rows.LroOneWaySaid :=
  OpenClaim.holds_of_wide 3 Tryd.f3 rfl rfl rfl rfl rfl rfl rfl ⟨rfl, rfl, rfl, rfl, rfl⟩ rfl rfl rfl rfl rfl (by kernel_rfl) Tryd.func3 (by kernel_rfl)
    (of_decide_eq_true (by kernel_rfl)) (by unfold Func.isWrapper; first | (rw [if_pos (by decide +kernel)]; kernel_rfl) | (rw [if_neg (by decide +kernel)]; exact ⟨rfl, rfl⟩))
    (fun os started H enc _ => one_lifted os started H enc)

/-- THE TIED CARD. -/
theorem one_card : Rows.LroOneWayCardSaid :=
  Claim7.holds_tied_plain_at .later [] _ _ _ _ one_said (fun _ h => by cases h) (by kernel_rfl) (fun _ h => by cases h) lroOneWay_row_tie rfl ⟨rfl, rfl⟩ (by kernel_rfl) rfl
    (fun f fn hf hfn => by
      obtain rfl : f = 3 := Option.some.inj ((show Tryd.prog.funcNamed "redress/redresslaw23.LroOneWay" = some 3 by kernel_rfl).symm.trans hf) |>.symm
      obtain rfl : fn = Tryd.f3 := (Option.some.inj (Tryd.func3.symm.trans hfn)).symm
      exact ⟨by kernel_rfl, fun j t ht => by
        rw [Tryd.params3] at ht
        have hm : t ∈ [2, 22] := by simpa using Array.mem_of_getElem? ht
        have hall : ([2, 22].all fun u => !Tryd.prog.wantsStandIn u) = true := by kernel_rfl
        exact (show Tryd.prog.wantsStandIn t = false by simpa using List.all_eq_true.1 hall t hm)⟩)
    (by kernel_rfl)
end Go.Proofs.YtfnfbnfjgpfmfaaDoor
