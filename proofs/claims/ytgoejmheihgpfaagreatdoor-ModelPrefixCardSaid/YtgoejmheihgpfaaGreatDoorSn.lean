/-
  redresslaw28's entry, wakes.
-/
import Derived.Test.YtgoejmheihgpfaaGreatDoorSl
namespace Go.Proofs.YtgoejmheihgpfaaGreatDoor
open Go.RowKit

def e0 : Ent := ⟨1, [97, 46, 48, 99], [83], [117], [120], 5⟩
def run0 : Run := ⟨[97], [103], [1, 120, 10, 0], 0, 1, 0, false, 0, []⟩
set_option maxRecDepth 100000 in
set_option maxHeartbeats 4000000 in
theorem entry_any (w : World) : Calls Tryz.prog 21 #[] w fun x w' => x = .returned (.agg #[.int .u64 1, .string ⟨#[97, 46, 48, 99]⟩, .string ⟨#[83]⟩, .string ⟨#[117]⟩, .string ⟨#[120]⟩, .int .i64 5]) ∧ Below w.heap.size w w' := by
  have HBw := Lib.hid (bl1 w (.cells #[.int .u64 1, .string ⟨#[97, 46, 48, 99]⟩, .string ⟨#[83]⟩, .string ⟨#[117]⟩, .string ⟨#[120]⟩, .int .i64 5] 71))
  have hx : (w.alloc (.cells #[.int .u64 1, .string ⟨#[97, 46, 48, 99]⟩, .string ⟨#[83]⟩, .string ⟨#[117]⟩, .string ⟨#[120]⟩, .int .i64 5] 71)).heap[w.heap.size]? = some (.cells #[.int .u64 1, .string ⟨#[97, 46, 48, 99]⟩, .string ⟨#[83]⟩, .string ⟨#[117]⟩, .string ⟨#[120]⟩, .int .i64 5] 71 (0, 0)) := heap_alloc_new _ _
  have HX := Lib.hid hx
  clear hx
  go_enter Tryz.func21, Tryz.ntmps21
  go_wp2_with fail
  have m : ∀ i u, (#[.int .u64 1, .string ⟨#[97, 46, 48, 99]⟩, .string ⟨#[83]⟩, .string ⟨#[117]⟩, .string ⟨#[120]⟩, .int .i64 5] : Array Value)[i]? = some u → (w.alloc (.cells #[.int .u64 1, .string ⟨#[97, 46, 48, 99]⟩, .string ⟨#[83]⟩, .string ⟨#[117]⟩, .string ⟨#[120]⟩, .int .i64 5] 71)).cell? ⟨w.heap.size, i, none⟩ = some u := fun i u h => by simp only [World.cell?, HX.out]; exact h
  exact bodyPost_ret (v := .agg #[.int .u64 1, .string ⟨#[97, 46, 48, 99]⟩, .string ⟨#[83]⟩, .string ⟨#[117]⟩, .string ⟨#[120]⟩, .int .i64 5]) (by simp [results, Tryz.results21, go_sem, m 0 _ rfl, m 1 _ rfl, m 2 _ rfl, m 3 _ rfl, m 4 _ rfl, m 5 _ rfl]) rfl ⟨rfl, HBw.out⟩
theorem guard_acc : Tryz.prog.eqGuardType Tryz.prog.depth 38 = false := by kernel_rfl
theorem held_acc : Tryz.prog.stoodInHeld 38 = false := by kernel_rfl
theorem und_acc : Tryz.prog.underlying 38 = some (.struct (Tryz.prog.fieldsOf 38)) := by kernel_rfl
def accEq (x y : Tx × Int) : Bool := decide (x.1 = y.1) && decide (x.2 = y.2)
theorem accEq_self (x : Tx × Int) : accEq x x = true := by simp [accEq]
theorem acc_eql (x y : Tx × Int) (W : World) : (binOp .eql 38 (.agg #[.string (bT x.1), .int .i64 x.2]) (.agg #[.string (bT y.1), .int .i64 y.2])).run Tryz.prog W = .ok (.bool (accEq x y)) W := by
  rw [run_eql_struct, run_equalIn_agg W 9999 _ _ _ und_acc held_acc]
  simp [go_sem]
  unfold accEq
  simp only [bT_list]
  by_cases h1 : x.1 = y.1
  case neg => simp [h1]
  by_cases h2 : x.2 = y.2
  case neg => simp [h1, h2]
  simp [h1, h2]
theorem acc_eqlg (x y : Tx × Int) (X Y : Operand) (W : World) : (eqGuard .eql 38 X Y (.agg #[.string (bT x.1), .int .i64 x.2]) (.agg #[.string (bT y.1), .int .i64 y.2])).run Tryz.prog W = .ok () W := run_eqGuard_agg W _ _ _ _ _ _ guard_acc
theorem acc_neq (x y : Tx × Int) (W : World) : (binOp .neq 38 (.agg #[.string (bT x.1), .int .i64 x.2]) (.agg #[.string (bT y.1), .int .i64 y.2])).run Tryz.prog W = .ok (.bool (!(accEq x y))) W := by
  rw [run_neq_struct, run_equalIn_agg W 9999 _ _ _ und_acc held_acc]
  simp [go_sem]
  unfold accEq
  simp only [bT_list]
  by_cases h1 : x.1 = y.1
  case neg => simp [h1]
  by_cases h2 : x.2 = y.2
  case neg => simp [h1, h2]
  simp [h1, h2]
theorem acc_neqg (x y : Tx × Int) (X Y : Operand) (W : World) : (eqGuard .neq 38 X Y (.agg #[.string (bT x.1), .int .i64 x.2]) (.agg #[.string (bT y.1), .int .i64 y.2])).run Tryz.prog W = .ok () W := run_eqGuard_agg W _ _ _ _ _ _ guard_acc
/-- a slice of one entry, new -/
theorem slc_new (W : World) : Slc (W.alloc (.cells #[.int .u64 1, .string ⟨#[97, 46, 48, 99]⟩, .string ⟨#[83]⟩, .string ⟨#[117]⟩, .string ⟨#[120]⟩, .int .i64 5] 71)) 6 (.slice (some ⟨W.heap.size, 0, none⟩) [e0].length 1) [e0].length (ecells [e0]) := by
  refine ⟨⟨_, 1, rfl, Nat.le_refl _, by omega, (fun h => by cases h), fun _ => ⟨W.heap.size, 0, rfl, by simp, fun j u hu => ?_⟩⟩, rfl⟩
  rw [Nat.zero_add]
  have hx : (W.alloc (.cells #[.int .u64 1, .string ⟨#[97, 46, 48, 99]⟩, .string ⟨#[83]⟩, .string ⟨#[117]⟩, .string ⟨#[120]⟩, .int .i64 5] 71)).heap[W.heap.size]? = some (.cells #[.int .u64 1, .string ⟨#[97, 46, 48, 99]⟩, .string ⟨#[83]⟩, .string ⟨#[117]⟩, .string ⟨#[120]⟩, .int .i64 5] 71 (0, 0)) := heap_alloc_new _ _
  rw [cell_of_row _ _ j _ _ _ hx, ← Array.getElem?_toList]
  exact hu
set_option maxRecDepth 100000 in
set_option maxHeartbeats 16000000 in
theorem wakes_gen (w : World) (hK : KwIn w) (s : Sch) (hsh : ∀ W, Calls Tryz.prog 20 #[] W fun e w' => ∃ ur us ug, e = .returned (.agg #[.string (bT s.name), ur, us, ug]) ∧ SchO W.heap.size w' s ur us ug ∧ Below W.heap.size W w') (hM : Small s) (ht : (textA' s).2 = 0) (hV : serveA s 0 [] [e0] [] [] 0 0 = true) (hBal : balA s [e0] [] = some [([120], 5)]) (hr : rightR s run0 = true) :
    Calls Tryz.prog 8 #[] w fun x w' => x = .returned (.bool true) ∧ Below w.heap.size w w' := by
  have HSH := Lib.hid (hsh w)
  clear hsh
  have HSTP := Lib.hid (fun W (X : Below w.heap.size w W) ra sa ga rv sv gv (hS : SchR W s (.slice ra s.records.length rv) (.slice sa s.services.length sv) (.slice ga s.sagas.length gv)) => show Calls Tryz.prog 13 #[.agg #[.string (bT s.name), .slice ra s.records.length rv, .slice sa s.services.length sv, .slice ga s.sagas.length gv], .agg #[.int .i64 0, .int .i64 0, .int .i64 0, .int .i64 0, .int .i64 0, .int .i64 0], .int .i64 5, .int .i64 0, .int .i64 0, .int .i64 0, .agg #[.slice none 0 0, .slice none 0 0, .int .i64 0], .agg #[.slice (some ⟨W.heap.size, 0, none⟩) 1 1, .slice none 0 0, .int .i64 0]] (W.alloc (.cells #[.int .u64 1, .string ⟨#[97, 46, 48, 99]⟩, .string ⟨#[83]⟩, .string ⟨#[117]⟩, .string ⟨#[120]⟩, .int .i64 5] 71)) fun x w' => x = .returned (.tuple #[.int .i64 2, .bool true]) ∧ Below (W.alloc (.cells #[.int .u64 1, .string ⟨#[97, 46, 48, 99]⟩, .string ⟨#[83]⟩, .string ⟨#[117]⟩, .string ⟨#[120]⟩, .int .i64 5] 71)).heap.size (W.alloc (.cells #[.int .u64 1, .string ⟨#[97, 46, 48, 99]⟩, .string ⟨#[83]⟩, .string ⟨#[117]⟩, .string ⟨#[120]⟩, .int .i64 5] 71)) w' from
    stepServe_any (W.alloc (.cells #[.int .u64 1, .string ⟨#[97, 46, 48, 99]⟩, .string ⟨#[83]⟩, .string ⟨#[117]⟩, .string ⟨#[120]⟩, .int .i64 5] 71)) (hK.below (X.trans ((bl1 W _).mono X.size))) s ra sa ga none none (some ⟨W.heap.size, 0, none⟩) none rv sv gv 0 0 1 0 0 0 0 0 0 0 5 0 0 0 0 0 [] [e0] [] [] (hS.below (bl1 W _)) hM (Slc.nil _ _) (slc_new W) (Slc.nil _ _) (Slc.nil _ _) (by decide) (by decide) (by decide) (fun e he => by rw [List.mem_singleton.1 he]; decide) ht (by decide) (by decide) (by decide) hV)
  have HBAL := Lib.hid (fun W (X : Below w.heap.size w W) ra sa ga rv sv gv (hS : SchR W s (.slice ra s.records.length rv) (.slice sa s.services.length sv) (.slice ga s.sagas.length gv)) => show Calls Tryz.prog 9 #[.agg #[.string (bT s.name), .slice ra s.records.length rv, .slice sa s.services.length sv, .slice ga s.sagas.length gv], .slice (some ⟨W.heap.size, 0, none⟩) 1 1] (W.alloc (.cells #[.int .u64 1, .string ⟨#[97, 46, 48, 99]⟩, .string ⟨#[83]⟩, .string ⟨#[117]⟩, .string ⟨#[120]⟩, .int .i64 5] 71)) fun x w' => (∃ u, x = .returned (.tuple #[u, .bool true]) ∧ w'.ownsRow (W.alloc (.cells #[.int .u64 1, .string ⟨#[97, 46, 48, 99]⟩, .string ⟨#[83]⟩, .string ⟨#[117]⟩, .string ⟨#[120]⟩, .int .i64 5] 71)).heap.size 38 2 u 1 [.string (bT [120]), .int .i64 5]) ∧ Below (W.alloc (.cells #[.int .u64 1, .string ⟨#[97, 46, 48, 99]⟩, .string ⟨#[83]⟩, .string ⟨#[117]⟩, .string ⟨#[120]⟩, .int .i64 5] 71)).heap.size (W.alloc (.cells #[.int .u64 1, .string ⟨#[97, 46, 48, 99]⟩, .string ⟨#[83]⟩, .string ⟨#[117]⟩, .string ⟨#[120]⟩, .int .i64 5] 71)) w' from
    (balances_any (W.alloc (.cells #[.int .u64 1, .string ⟨#[97, 46, 48, 99]⟩, .string ⟨#[83]⟩, .string ⟨#[117]⟩, .string ⟨#[120]⟩, .int .i64 5] 71)) s _ _ _ (hS.below (bl1 W _)) hM _ [e0] (slc_new W) (by decide) (fun e he => by rw [List.mem_singleton.1 he]; decide)).mono (by
      rintro x w' ⟨⟨hn, -⟩ | ⟨F, u, hf, rfl, hu, -⟩, hb⟩
      · rw [hBal] at hn; cases hn
      · rw [hBal] at hf
        injection hf with hf
        subst hf
        exact ⟨⟨u, rfl, hu⟩, hb⟩))
  have HSHP := Lib.hid (fun W (X : Below w.heap.size w W) ra sa ga rv sv gv (hS : SchR W s (.slice ra s.records.length rv) (.slice sa s.services.length sv) (.slice ga s.sagas.length gv)) => show Calls Tryz.prog 16 #[.agg #[.string (bT s.name), .slice ra s.records.length rv, .slice sa s.services.length sv, .slice ga s.sagas.length gv], .agg #[.string ⟨#[97]⟩, .string ⟨#[103]⟩, .string ⟨#[1, 120, 10, 0]⟩, .int .i64 0, .int .u8 1, .int .i64 0, .bool false, .int .i64 0, .string ⟨#[]⟩], .slice none 0 0] W fun x w' => x = .returned (.bool true) ∧ Below W.heap.size W w' from
    shape0_any W (hK.below X) s ra sa ga rv sv gv hS hM run0 ⟨by decide, by decide, by decide⟩ hr rfl rfl)
  clear hK hM ht hV hBal hr
  go_enter Tryz.func8, Tryz.ntmps8
  go_wp2_with fail
  refine HSH.out.mono ?_
  rintro e w2 ⟨ur, us, ug, rfl, hso, hb2⟩
  obtain ⟨⟨ra, rv, rfl⟩, ⟨sa, sv, rfl⟩, ⟨ga, gv, rfl⟩⟩ := hso.read.shape
  have HS2 := Lib.hid hso.read
  have HB2 := Lib.hid hb2
  clear hso hb2 HSH
  go_upto_region 2 with (fail)
  have HX3 := Lib.hid (heap_alloc_new w2 (.cells #[.string (bT s.name), .slice ra s.records.length rv, .slice sa s.services.length sv, .slice ga s.sagas.length gv] 26))
  have HB3 := Lib.hid (HB2.out.alloc HB2.out.size (.cells #[.string (bT s.name), .slice ra s.records.length rv, .slice sa s.services.length sv, .slice ga s.sagas.length gv] 26))
  have HS3 := Lib.hid (HS2.out.below (bl1 w2 (.cells #[.string (bT s.name), .slice ra s.records.length rv, .slice sa s.services.length sv, .slice ga s.sagas.length gv] 26)))
  generalize w2.alloc (.cells #[.string (bT s.name), .slice ra s.records.length rv, .slice sa s.services.length sv, .slice ga s.sagas.length gv] 26) = w3 at *
  have HLX := Lib.hid (fun (W : World) (h : W.heap[w2.heap.size]? = some (.cells #[.string (bT s.name), .slice ra s.records.length rv, .slice sa s.services.length sv, .slice ga s.sagas.length gv] 26 (0, 0))) => show W.cell? ⟨w2.heap.size, 0, none⟩ = some (.string (bT s.name)) ∧ W.cell? ⟨w2.heap.size, 1, none⟩ = some (.slice ra s.records.length rv) ∧ W.cell? ⟨w2.heap.size, 2, none⟩ = some (.slice sa s.services.length sv) ∧ W.cell? ⟨w2.heap.size, 3, none⟩ = some (.slice ga s.sagas.length gv) from by simp only [World.cell?, h]; exact ⟨rfl, rfl, rfl, rfl⟩)
  have hl3 : w2.heap.size < w3.heap.size := (Array.getElem?_eq_some_iff.1 HX3.out).1
  have HK3 := Lib.hid (fun W (X : Below w3.heap.size w3 W) => HLX.out W ((X.block _ hl3).trans HX3.out))
  have HLK := Lib.hid (fun W (X : Below w3.heap.size w3 W) => show w2.heap.size < W.heap.size from Nat.lt_of_lt_of_le hl3 X.size)
  clear HS2 HX3 hl3
  go_wp2_with fail
  refine wp_region_noPanic ?_
  refine wp_region_held_drew (S := (fun w' : World => w'.cell? ⟨w2.heap.size, 0, none⟩ = some (.string (bT s.name)) ∧ w'.cell? ⟨w2.heap.size, 1, none⟩ = some (.slice ra s.records.length rv) ∧ w'.cell? ⟨w2.heap.size, 2, none⟩ = some (.slice sa s.services.length sv) ∧ w'.cell? ⟨w2.heap.size, 3, none⟩ = some (.slice ga s.sagas.length gv))) (by kernel_rfl) (by (first | with_reducible exact HK3.out _ X2e | with_reducible exact HK3.out _ X2s | with_reducible exact HK3.out _ X2a | with_reducible exact HK3.out _ (show Below w3.heap.size w3 w3.drew from ⟨rfl, rfl, rfl, Nat.le_refl _, fun _ _ => rfl⟩) | exact HK3.out _ (show Below w3.heap.size w3 w3.drew from ⟨rfl, rfl, rfl, Nat.le_refl _, fun _ _ => rfl⟩))) (fun hH20 => ?_)
  refine wpAnyH_take (i := 0) (oi := { dst := Option.some 9, op := Op.load 26 (Operand.tmp 1), type := 26, pos := _, after := #[], guard := Option.none }) (v := ?_) rfl (by kernel_rfl) (by kernel_rfl) (by kernel_rfl) (fun _ _ _ h => h) (Or.inl ⟨by rfl, ?_⟩) (by assumption) ?_
  rotate_left
  · (intro wS hSw; (try dsimp only at hSw); go_simp; try with_reducible rfl)
  try simp only [Act.put, List.setIfInBounds_toArray, List.set_cons_zero, List.set_cons_succ]
  refine wpAnyH_take (i := 1) (oi := { dst := Option.some 10, op := Op.build 42 #[], type := 42, pos := _, after := #[], guard := Option.none }) (v := ?_) rfl (by kernel_rfl) (by kernel_rfl) (by kernel_rfl) (fun _ _ _ h => h) (Or.inl ⟨by rfl, ?_⟩) (by assumption) ?_
  rotate_left
  · (intro wS hSw; (try dsimp only at hSw); go_simp; try with_reducible rfl)
  try simp only [Act.put, List.setIfInBounds_toArray, List.set_cons_zero, List.set_cons_succ]
  refine wpAnyH_take (i := 2) (oi := { dst := Option.some 11, op := Op.build 45 #[], type := 45, pos := _, after := #[], guard := Option.none }) (v := ?_) rfl (by kernel_rfl) (by kernel_rfl) (by kernel_rfl) (fun _ _ _ h => h) (Or.inl ⟨by rfl, ?_⟩) (by assumption) ?_
  rotate_left
  · (intro wS hSw; (try dsimp only at hSw); go_simp; try with_reducible rfl)
  try simp only [Act.put, List.setIfInBounds_toArray, List.set_cons_zero, List.set_cons_succ]
  refine wpAnyH_ready (rs := [3]) (by kernel_rfl) (by simp) ?_
  refine AllReadyH.cons (o := { dst := Option.some 12, op := Op.call { callee := Callee.value (Operand.func 21), args := #[], argTypes := #[] }, type := 71, pos := _, after := #[], guard := Option.none }) rfl (fun K hK => ?_) ?_
  · go_simp
    (first | (go_at_call 21; (refine (entry_any _).mono ?_; rintro e w2a ⟨rfl, hb2a⟩; have X2a := (show Below w3.heap.size w3 w2a from (show Below w3.heap.size w3 w3.drew from ⟨rfl, rfl, rfl, Nat.le_refl _, fun _ _ => rfl⟩).trans hb2a); have X2s := X2a.alloc X2a.size (.cells #[.int .u64 1, .string ⟨#[97, 46, 48, 99]⟩, .string ⟨#[83]⟩, .string ⟨#[117]⟩, .string ⟨#[120]⟩, .int .i64 5] 71))) | (go_at_call 13; (refine (HSTP.out w2a (HB3.out.trans (X2a.mono HB3.out.size)) _ _ _ _ _ _ (HS3.out.below X2a)).mono ?_; rintro e w2e ⟨rfl, hb2e⟩; have X2e := X2s.trans (hb2e.mono X2s.size))))
    refine hK.out _ _ (by (first | with_reducible exact HK3.out _ X2e | with_reducible exact HK3.out _ X2s | with_reducible exact HK3.out _ X2a | with_reducible exact HK3.out _ (show Below w3.heap.size w3 w3.drew from ⟨rfl, rfl, rfl, Nat.le_refl _, fun _ _ => rfl⟩) | exact HK3.out _ (show Below w3.heap.size w3 w3.drew from ⟨rfl, rfl, rfl, Nat.le_refl _, fun _ _ => rfl⟩))) (fun hH21 => ?_)
    clear hK K
    try simp only [Act.put, List.setIfInBounds_toArray, List.set_cons_zero, List.set_cons_succ]
    refine wpAnyH_ready (rs := [4]) (by kernel_rfl) (by simp) ?_
    refine AllReadyH.cons (o := { dst := Option.some 13, op := Op.buildSlice 27 1 #[(0, Operand.tmp 12)], type := 27, pos := _, after := #[{ on := 3, ground := Ground.data }], guard := Option.none }) rfl (fun K hK => ?_) ?_
    · go_simp
      refine hK.out _ _ (by (first | with_reducible exact HK3.out _ X2e | with_reducible exact HK3.out _ X2s | with_reducible exact HK3.out _ X2a | with_reducible exact HK3.out _ (show Below w3.heap.size w3 w3.drew from ⟨rfl, rfl, rfl, Nat.le_refl _, fun _ _ => rfl⟩) | exact HK3.out _ (show Below w3.heap.size w3 w3.drew from ⟨rfl, rfl, rfl, Nat.le_refl _, fun _ _ => rfl⟩))) (fun hH22 => ?_)
      clear hK K
      try simp only [Act.put, List.setIfInBounds_toArray, List.set_cons_zero, List.set_cons_succ]
      refine wpAnyH_take (i := 5) (oi := { dst := Option.some 14, op := Op.build 45 #[(0, Operand.tmp 13)], type := 45, pos := _, after := #[{ on := 4, ground := Ground.data }], guard := Option.none }) (v := ?_) rfl (by kernel_rfl) (by kernel_rfl) (by kernel_rfl) (fun _ _ _ h => h) (Or.inl ⟨by rfl, ?_⟩) (by assumption) ?_
      rotate_left
      · (intro wS hSw; (try dsimp only at hSw); go_simp; try with_reducible rfl)
      try simp only [Act.put, List.setIfInBounds_toArray, List.set_cons_zero, List.set_cons_succ]
      refine wpAnyH_ready (rs := [6]) (by kernel_rfl) (by simp) ?_
      refine AllReadyH.cons (o := { dst := Option.some 15, op := Op.call { callee := Callee.value (Operand.func 13), args := #[Operand.tmp 9, Operand.tmp 10, Operand.const (Value.int IntKind.i64 5), Operand.const (Value.int IntKind.i64 0), Operand.const (Value.int IntKind.i64 0), Operand.const (Value.int IntKind.i64 0), Operand.tmp 11, Operand.tmp 14], argTypes := #[26, 42, 2, 3, 2, 2, 45, 45] }, type := 50, pos := _, after := #[{ on := 0, ground := Ground.data }, { on := 1, ground := Ground.data }, { on := 2, ground := Ground.data }, { on := 5, ground := Ground.data }, { on := 3, ground := Ground.chain }], guard := Option.none }) rfl (fun K hK => ?_) ?_
      · go_simp
        (first | (go_at_call 21; (refine (entry_any _).mono ?_; rintro e w2a ⟨rfl, hb2a⟩; have X2a := (show Below w3.heap.size w3 w2a from (show Below w3.heap.size w3 w3.drew from ⟨rfl, rfl, rfl, Nat.le_refl _, fun _ _ => rfl⟩).trans hb2a); have X2s := X2a.alloc X2a.size (.cells #[.int .u64 1, .string ⟨#[97, 46, 48, 99]⟩, .string ⟨#[83]⟩, .string ⟨#[117]⟩, .string ⟨#[120]⟩, .int .i64 5] 71))) | (go_at_call 13; (refine (HSTP.out w2a (HB3.out.trans (X2a.mono HB3.out.size)) _ _ _ _ _ _ (HS3.out.below X2a)).mono ?_; rintro e w2e ⟨rfl, hb2e⟩; have X2e := X2s.trans (hb2e.mono X2s.size))))
        refine hK.out _ _ (by (first | with_reducible exact HK3.out _ X2e | with_reducible exact HK3.out _ X2s | with_reducible exact HK3.out _ X2a | with_reducible exact HK3.out _ (show Below w3.heap.size w3 w3.drew from ⟨rfl, rfl, rfl, Nat.le_refl _, fun _ _ => rfl⟩) | exact HK3.out _ (show Below w3.heap.size w3 w3.drew from ⟨rfl, rfl, rfl, Nat.le_refl _, fun _ _ => rfl⟩))) (fun hH23 => ?_)
        clear hK K
        try simp only [Act.put, List.setIfInBounds_toArray, List.set_cons_zero, List.set_cons_succ]
        refine wpAnyH_take (i := 7) (oi := { dst := Option.some 8, op := Op.move (Operand.tmp 15), type := 50, pos := _, after := #[{ on := 6, ground := Ground.data }], guard := Option.none }) (v := ?_) rfl (by kernel_rfl) (by kernel_rfl) (by kernel_rfl) (fun _ _ _ h => h) (Or.inl ⟨by rfl, ?_⟩) (by assumption) ?_
        rotate_left
        · (intro wS hSw; (try dsimp only at hSw); go_simp; try with_reducible rfl)
        try simp only [Act.put, List.setIfInBounds_toArray, List.set_cons_zero, List.set_cons_succ]
        refine wpAnyH_take (i := 8) (oi := { dst := Option.some 16, op := Op.extract (Operand.tmp 8) 0, type := 3, pos := _, after := #[{ on := 7, ground := Ground.data }], guard := Option.none }) (v := ?_) rfl (by kernel_rfl) (by kernel_rfl) (by kernel_rfl) (fun _ _ _ h => h) (Or.inl ⟨by rfl, ?_⟩) (by assumption) ?_
        rotate_left
        · (intro wS hSw; (try dsimp only at hSw); go_simp; try with_reducible rfl)
        try simp only [Act.put, List.setIfInBounds_toArray, List.set_cons_zero, List.set_cons_succ]
        refine wpAnyH_take (i := 9) (oi := { dst := Option.some 17, op := Op.extract (Operand.tmp 8) 1, type := 4, pos := _, after := #[{ on := 7, ground := Ground.data }, { on := 10, ground := Ground.gcOnly Departure.lateStores }], guard := Option.none }) (v := ?_) rfl (by kernel_rfl) (by kernel_rfl) (by kernel_rfl) (fun _ _ _ h => h) (Or.inl ⟨by rfl, ?_⟩) (by assumption) ?_
        rotate_left
        · (intro wS hSw; (try dsimp only at hSw); go_simp; try with_reducible rfl)
        try simp only [Act.put, List.setIfInBounds_toArray, List.set_cons_zero, List.set_cons_succ]
        refine wpAnyH_take (i := 10) (oi := { dst := Option.some 2, op := Op.assign (Operand.tmp 16), type := 3, pos := _, after := #[{ on := 8, ground := Ground.data }, { on := 6, ground := Ground.chain }, { on := 0, ground := Ground.phase }, { on := 1, ground := Ground.phase }, { on := 2, ground := Ground.phase }, { on := 3, ground := Ground.phase }, { on := 4, ground := Ground.phase }, { on := 5, ground := Ground.phase }, { on := 6, ground := Ground.phase }, { on := 7, ground := Ground.phase }, { on := 8, ground := Ground.phase }, { on := 9, ground := Ground.textOnly Departure.lateStores }], guard := Option.none }) (v := ?_) rfl (by kernel_rfl) (by kernel_rfl) (by kernel_rfl) (fun _ _ _ h => h) (Or.inl ⟨by rfl, ?_⟩) (by assumption) ?_
        rotate_left
        · (intro wS hSw; (try dsimp only at hSw); go_simp; try with_reducible rfl)
        try simp only [Act.put, List.setIfInBounds_toArray, List.set_cons_zero, List.set_cons_succ]
        refine wpAnyH_take (i := 11) (oi := { dst := Option.some 3, op := Op.assign (Operand.tmp 17), type := 4, pos := _, after := #[{ on := 9, ground := Ground.data }, { on := 10, ground := Ground.chain }, { on := 0, ground := Ground.phase }, { on := 1, ground := Ground.phase }, { on := 2, ground := Ground.phase }, { on := 3, ground := Ground.phase }, { on := 4, ground := Ground.phase }, { on := 5, ground := Ground.phase }, { on := 6, ground := Ground.phase }, { on := 7, ground := Ground.phase }, { on := 8, ground := Ground.phase }, { on := 9, ground := Ground.phase }, { on := 10, ground := Ground.phase }], guard := Option.none }) (v := ?_) rfl (by kernel_rfl) (by kernel_rfl) (by kernel_rfl) (fun _ _ _ h => h) (Or.inl ⟨by rfl, ?_⟩) (by assumption) ?_
        rotate_left
        · (intro wS hSw; (try dsimp only at hSw); go_simp; try with_reducible rfl)
        try simp only [Act.put, List.setIfInBounds_toArray, List.set_cons_zero, List.set_cons_succ]
        refine wpAnyH_done (by kernel_rfl) ?_ _
        refine NoPanic.normal ?_
        clear hH20 hH21 hH22 hH23 hb2a hb2e
        have HB7 := Lib.hid (HB3.out.trans (X2e.mono HB3.out.size))
        have HS7 := Lib.hid (HS3.out.below X2e)
        have HK7 := Lib.hid (fun W (X : Below w2e.heap.size w2e W) => HK3.out W (X2e.trans (X.mono X2e.size)))
        have HLK7 := Lib.hid (fun W (X : Below w2e.heap.size w2e W) => HLK.out W (X2e.trans (X.mono X2e.size)))
        clear X2e X2a X2s
        rename World => w7
        go_wp2_with fail
        refine wp_region_noPanic ?_
        refine wp_region_held_drew (S := (fun w' : World => w'.cell? ⟨w2.heap.size, 0, none⟩ = some (.string (bT s.name)) ∧ w'.cell? ⟨w2.heap.size, 1, none⟩ = some (.slice ra s.records.length rv) ∧ w'.cell? ⟨w2.heap.size, 2, none⟩ = some (.slice sa s.services.length sv) ∧ w'.cell? ⟨w2.heap.size, 3, none⟩ = some (.slice ga s.sagas.length gv))) (by kernel_rfl) (by (first | with_reducible exact HK7.out _ X3e | with_reducible exact HK7.out _ X3s | with_reducible exact HK7.out _ X3a | with_reducible exact HK7.out _ (show Below w7.heap.size w7 w7.drew from ⟨rfl, rfl, rfl, Nat.le_refl _, fun _ _ => rfl⟩) | exact HK7.out _ (show Below w7.heap.size w7 w7.drew from ⟨rfl, rfl, rfl, Nat.le_refl _, fun _ _ => rfl⟩))) (fun hH30 => ?_)
        refine wpAnyH_take (i := 0) (oi := { dst := Option.some 19, op := Op.load 26 (Operand.tmp 1), type := 26, pos := _, after := #[], guard := Option.none }) (v := ?_) rfl (by kernel_rfl) (by kernel_rfl) (by kernel_rfl) (fun _ _ _ h => h) (Or.inl ⟨by rfl, ?_⟩) (by assumption) ?_
        rotate_left
        · (intro wS hSw; (try dsimp only at hSw); go_simp; try with_reducible rfl)
        try simp only [Act.put, List.setIfInBounds_toArray, List.set_cons_zero, List.set_cons_succ]
        refine wpAnyH_ready (rs := [1]) (by kernel_rfl) (by simp) ?_
        refine AllReadyH.cons (o := { dst := Option.some 20, op := Op.call { callee := Callee.value (Operand.func 21), args := #[], argTypes := #[] }, type := 71, pos := _, after := #[], guard := Option.none }) rfl (fun K hK => ?_) ?_
        · go_simp
          (first | (go_at_call 21; (refine (entry_any _).mono ?_; rintro e w3a ⟨rfl, hb3a⟩; have X3a := (show Below w7.heap.size w7 w3a from (show Below w7.heap.size w7 w7.drew from ⟨rfl, rfl, rfl, Nat.le_refl _, fun _ _ => rfl⟩).trans hb3a); have X3s := X3a.alloc X3a.size (.cells #[.int .u64 1, .string ⟨#[97, 46, 48, 99]⟩, .string ⟨#[83]⟩, .string ⟨#[117]⟩, .string ⟨#[120]⟩, .int .i64 5] 71))) | (go_at_call 9; (refine (HBAL.out w3a (HB7.out.trans (X3a.mono HB7.out.size)) _ _ _ _ _ _ (HS7.out.below X3a)).mono ?_; rintro e w3e ⟨⟨u, rfl, hu⟩, hb3e⟩; obtain ⟨ua, uc, rfl⟩ := own_slice hu; have X3e := X3s.trans (hb3e.mono X3s.size))))
          refine hK.out _ _ (by (first | with_reducible exact HK7.out _ X3e | with_reducible exact HK7.out _ X3s | with_reducible exact HK7.out _ X3a | with_reducible exact HK7.out _ (show Below w7.heap.size w7 w7.drew from ⟨rfl, rfl, rfl, Nat.le_refl _, fun _ _ => rfl⟩) | exact HK7.out _ (show Below w7.heap.size w7 w7.drew from ⟨rfl, rfl, rfl, Nat.le_refl _, fun _ _ => rfl⟩))) (fun hH31 => ?_)
          clear hK K
          try simp only [Act.put, List.setIfInBounds_toArray, List.set_cons_zero, List.set_cons_succ]
          refine wpAnyH_ready (rs := [2]) (by kernel_rfl) (by simp) ?_
          refine AllReadyH.cons (o := { dst := Option.some 21, op := Op.buildSlice 27 1 #[(0, Operand.tmp 20)], type := 27, pos := _, after := #[{ on := 1, ground := Ground.data }], guard := Option.none }) rfl (fun K hK => ?_) ?_
          · go_simp
            refine hK.out _ _ (by (first | with_reducible exact HK7.out _ X3e | with_reducible exact HK7.out _ X3s | with_reducible exact HK7.out _ X3a | with_reducible exact HK7.out _ (show Below w7.heap.size w7 w7.drew from ⟨rfl, rfl, rfl, Nat.le_refl _, fun _ _ => rfl⟩) | exact HK7.out _ (show Below w7.heap.size w7 w7.drew from ⟨rfl, rfl, rfl, Nat.le_refl _, fun _ _ => rfl⟩))) (fun hH32 => ?_)
            clear hK K
            try simp only [Act.put, List.setIfInBounds_toArray, List.set_cons_zero, List.set_cons_succ]
            refine wpAnyH_ready (rs := [3]) (by kernel_rfl) (by simp) ?_
            refine AllReadyH.cons (o := { dst := Option.some 22, op := Op.call { callee := Callee.value (Operand.func 9), args := #[Operand.tmp 19, Operand.tmp 21], argTypes := #[26, 27] }, type := 32, pos := _, after := #[{ on := 0, ground := Ground.data }, { on := 2, ground := Ground.data }, { on := 1, ground := Ground.chain }], guard := Option.none }) rfl (fun K hK => ?_) ?_
            · go_simp
              (first | (go_at_call 21; (refine (entry_any _).mono ?_; rintro e w3a ⟨rfl, hb3a⟩; have X3a := (show Below w7.heap.size w7 w3a from (show Below w7.heap.size w7 w7.drew from ⟨rfl, rfl, rfl, Nat.le_refl _, fun _ _ => rfl⟩).trans hb3a); have X3s := X3a.alloc X3a.size (.cells #[.int .u64 1, .string ⟨#[97, 46, 48, 99]⟩, .string ⟨#[83]⟩, .string ⟨#[117]⟩, .string ⟨#[120]⟩, .int .i64 5] 71))) | (go_at_call 9; (refine (HBAL.out w3a (HB7.out.trans (X3a.mono HB7.out.size)) _ _ _ _ _ _ (HS7.out.below X3a)).mono ?_; rintro e w3e ⟨⟨u, rfl, hu⟩, hb3e⟩; obtain ⟨ua, uc, rfl⟩ := own_slice hu; have X3e := X3s.trans (hb3e.mono X3s.size))))
              refine hK.out _ _ (by (first | with_reducible exact HK7.out _ X3e | with_reducible exact HK7.out _ X3s | with_reducible exact HK7.out _ X3a | with_reducible exact HK7.out _ (show Below w7.heap.size w7 w7.drew from ⟨rfl, rfl, rfl, Nat.le_refl _, fun _ _ => rfl⟩) | exact HK7.out _ (show Below w7.heap.size w7 w7.drew from ⟨rfl, rfl, rfl, Nat.le_refl _, fun _ _ => rfl⟩))) (fun hH33 => ?_)
              clear hK K
              try simp only [Act.put, List.setIfInBounds_toArray, List.set_cons_zero, List.set_cons_succ]
              refine wpAnyH_take (i := 4) (oi := { dst := Option.some 18, op := Op.move (Operand.tmp 22), type := 32, pos := _, after := #[{ on := 3, ground := Ground.data }], guard := Option.none }) (v := ?_) rfl (by kernel_rfl) (by kernel_rfl) (by kernel_rfl) (fun _ _ _ h => h) (Or.inl ⟨by rfl, ?_⟩) (by assumption) ?_
              rotate_left
              · (intro wS hSw; (try dsimp only at hSw); go_simp; try with_reducible rfl)
              try simp only [Act.put, List.setIfInBounds_toArray, List.set_cons_zero, List.set_cons_succ]
              refine wpAnyH_take (i := 5) (oi := { dst := Option.some 23, op := Op.extract (Operand.tmp 18) 0, type := 31, pos := _, after := #[{ on := 4, ground := Ground.data }], guard := Option.none }) (v := ?_) rfl (by kernel_rfl) (by kernel_rfl) (by kernel_rfl) (fun _ _ _ h => h) (Or.inl ⟨by rfl, ?_⟩) (by assumption) ?_
              rotate_left
              · (intro wS hSw; (try dsimp only at hSw); go_simp; try with_reducible rfl)
              try simp only [Act.put, List.setIfInBounds_toArray, List.set_cons_zero, List.set_cons_succ]
              refine wpAnyH_take (i := 6) (oi := { dst := Option.some 24, op := Op.extract (Operand.tmp 18) 1, type := 4, pos := _, after := #[{ on := 4, ground := Ground.data }, { on := 7, ground := Ground.gcOnly Departure.lateStores }], guard := Option.none }) (v := ?_) rfl (by kernel_rfl) (by kernel_rfl) (by kernel_rfl) (fun _ _ _ h => h) (Or.inl ⟨by rfl, ?_⟩) (by assumption) ?_
              rotate_left
              · (intro wS hSw; (try dsimp only at hSw); go_simp; try with_reducible rfl)
              try simp only [Act.put, List.setIfInBounds_toArray, List.set_cons_zero, List.set_cons_succ]
              refine wpAnyH_take (i := 7) (oi := { dst := Option.some 4, op := Op.assign (Operand.tmp 23), type := 31, pos := _, after := #[{ on := 5, ground := Ground.data }, { on := 3, ground := Ground.chain }, { on := 0, ground := Ground.phase }, { on := 1, ground := Ground.phase }, { on := 2, ground := Ground.phase }, { on := 3, ground := Ground.phase }, { on := 4, ground := Ground.phase }, { on := 5, ground := Ground.phase }, { on := 6, ground := Ground.textOnly Departure.lateStores }], guard := Option.none }) (v := ?_) rfl (by kernel_rfl) (by kernel_rfl) (by kernel_rfl) (fun _ _ _ h => h) (Or.inl ⟨by rfl, ?_⟩) (by assumption) ?_
              rotate_left
              · (intro wS hSw; (try dsimp only at hSw); go_simp; try with_reducible rfl)
              try simp only [Act.put, List.setIfInBounds_toArray, List.set_cons_zero, List.set_cons_succ]
              refine wpAnyH_take (i := 8) (oi := { dst := Option.some 5, op := Op.assign (Operand.tmp 24), type := 4, pos := _, after := #[{ on := 6, ground := Ground.data }, { on := 7, ground := Ground.chain }, { on := 0, ground := Ground.phase }, { on := 1, ground := Ground.phase }, { on := 2, ground := Ground.phase }, { on := 3, ground := Ground.phase }, { on := 4, ground := Ground.phase }, { on := 5, ground := Ground.phase }, { on := 6, ground := Ground.phase }, { on := 7, ground := Ground.phase }], guard := Option.none }) (v := ?_) rfl (by kernel_rfl) (by kernel_rfl) (by kernel_rfl) (fun _ _ _ h => h) (Or.inl ⟨by rfl, ?_⟩) (by assumption) ?_
              rotate_left
              · (intro wS hSw; (try dsimp only at hSw); go_simp; try with_reducible rfl)
              try simp only [Act.put, List.setIfInBounds_toArray, List.set_cons_zero, List.set_cons_succ]
              refine wpAnyH_done (by kernel_rfl) ?_ _
              refine NoPanic.normal ?_
              clear hH30 hH31 hH32 hH33 hb3a hb3e
              have HB9 := Lib.hid (HB7.out.trans (X3e.mono HB7.out.size))
              have HU9 := Lib.hid (show Slc w3e 2 (.slice ua 1 uc) 1 [.string (bT [120]), .int .i64 5] from Slc.own hu)
              have HS9 := Lib.hid (HS7.out.below X3e)
              have HK9 := Lib.hid (fun W (X : Below w3e.heap.size w3e W) => HK7.out W (X3e.trans (X.mono X3e.size)))
              have HLK9 := Lib.hid (fun W (X : Below w3e.heap.size w3e W) => HLK7.out W (X3e.trans (X.mono X3e.size)))
              clear X3e X3a X3s hu
              rename World => w9
              go_upto_region 5 with (fail)
              have HX10 := Lib.hid (heap_alloc_new w9 (.cells #[.string ⟨#[97]⟩, .string ⟨#[103]⟩, .string ⟨#[1, 120, 10, 0]⟩, .int .i64 0, .int .u8 1, .int .i64 0, .bool false, .int .i64 0, .string ⟨#[]⟩] 53))
              have HB10 := Lib.hid (HB9.out.alloc HB9.out.size (.cells #[.string ⟨#[97]⟩, .string ⟨#[103]⟩, .string ⟨#[1, 120, 10, 0]⟩, .int .i64 0, .int .u8 1, .int .i64 0, .bool false, .int .i64 0, .string ⟨#[]⟩] 53))
              have HS10 := Lib.hid (HS9.out.below (bl1 w9 (.cells #[.string ⟨#[97]⟩, .string ⟨#[103]⟩, .string ⟨#[1, 120, 10, 0]⟩, .int .i64 0, .int .u8 1, .int .i64 0, .bool false, .int .i64 0, .string ⟨#[]⟩] 53)))
              have HU10 := Lib.hid (HU9.out.below (bl1 w9 (.cells #[.string ⟨#[97]⟩, .string ⟨#[103]⟩, .string ⟨#[1, 120, 10, 0]⟩, .int .i64 0, .int .u8 1, .int .i64 0, .bool false, .int .i64 0, .string ⟨#[]⟩] 53)))
              obtain ⟨k0, k1, k2, k3⟩ := HK9.out _ (bl1 w9 (.cells #[.string ⟨#[97]⟩, .string ⟨#[103]⟩, .string ⟨#[1, 120, 10, 0]⟩, .int .i64 0, .int .u8 1, .int .i64 0, .bool false, .int .i64 0, .string ⟨#[]⟩] 53))
              have hlk := HLK9.out _ (bl1 w9 (.cells #[.string ⟨#[97]⟩, .string ⟨#[103]⟩, .string ⟨#[1, 120, 10, 0]⟩, .int .i64 0, .int .u8 1, .int .i64 0, .bool false, .int .i64 0, .string ⟨#[]⟩] 53))
              generalize w9.alloc (.cells #[.string ⟨#[97]⟩, .string ⟨#[103]⟩, .string ⟨#[1, 120, 10, 0]⟩, .int .i64 0, .int .u8 1, .int .i64 0, .bool false, .int .i64 0, .string ⟨#[]⟩] 53) = w10 at *
              have hx := HX10.out
              have hl10 : w9.heap.size < w10.heap.size := (Array.getElem?_eq_some_iff.1 hx).1
              have r0 : w10.cell? ⟨w9.heap.size, 0, none⟩ = some (.string ⟨#[97]⟩) := by simp only [World.cell?, hx]; rfl
              have r1 : w10.cell? ⟨w9.heap.size, 1, none⟩ = some (.string ⟨#[103]⟩) := by simp only [World.cell?, hx]; rfl
              have r2 : w10.cell? ⟨w9.heap.size, 2, none⟩ = some (.string ⟨#[1, 120, 10, 0]⟩) := by simp only [World.cell?, hx]; rfl
              have r3 : w10.cell? ⟨w9.heap.size, 3, none⟩ = some (.int .i64 0) := by simp only [World.cell?, hx]; rfl
              have r4 : w10.cell? ⟨w9.heap.size, 4, none⟩ = some (.int .u8 1) := by simp only [World.cell?, hx]; rfl
              have r5 : w10.cell? ⟨w9.heap.size, 5, none⟩ = some (.int .i64 0) := by simp only [World.cell?, hx]; rfl
              have r6 : w10.cell? ⟨w9.heap.size, 6, none⟩ = some (.bool false) := by simp only [World.cell?, hx]; rfl
              have r7 : w10.cell? ⟨w9.heap.size, 7, none⟩ = some (.int .i64 0) := by simp only [World.cell?, hx]; rfl
              have r8 : w10.cell? ⟨w9.heap.size, 8, none⟩ = some (.string ⟨#[]⟩) := by simp only [World.cell?, hx]; rfl
              clear hx
              obtain ⟨bu, ou, rfl, hbu, hcu⟩ := slc_cells HU10.out (by omega)
              have u0 : w10.cell? ⟨bu, ou, none⟩ = some (.string ⟨#[120]⟩) := hcu 0 _ rfl
              have u1 : w10.cell? ⟨bu, ou + 1, none⟩ = some (.int .i64 5) := hcu 1 _ rfl
              have hqe := fun W => acc_eql ([120], 5) ([120], 5) W
              have hqg := fun X Y W => acc_eqlg ([120], 5) ([120], 5) X Y W
              have hqe2 : ∀ W, (binOp .eql 38 (.agg #[.string ⟨#[120]⟩, .int .i64 5]) (.agg #[.string ⟨#[120]⟩, .int .i64 5])).run Tryz.prog W = .ok (.bool true) W := fun W => by have h := hqe W; rw [accEq_self] at h; exact h
              have hqg2 : ∀ X Y W, (eqGuard .eql 38 X Y (.agg #[.string ⟨#[120]⟩, .int .i64 5]) (.agg #[.string ⟨#[120]⟩, .int .i64 5])).run Tryz.prog W = .ok () W := fun X Y W => hqg X Y W
              clear hqe hqg
              have HSC := Lib.hid (HSHP.out w10 HB10.out _ _ _ _ _ _ HS10.out)
              clear hcu
              go_wp2_with fail
              refine HSC.out.mono ?_
              rintro e w11 ⟨rfl, hb⟩
              have HB11 := Lib.hid (HB10.out.trans (hb.mono HB10.out.size))
              clear hb HSC
              go_wp2_with fail
              exact bodyPost_ret (v := .bool true) (by simp [results, Tryz.results8, go_sem]) rfl ⟨rfl, HB11.out⟩
            exact AllReadyH.nil
          exact AllReadyH.nil
        exact AllReadyH.nil
      exact AllReadyH.nil
    exact AllReadyH.nil
  exact AllReadyH.nil
end Go.Proofs.YtgoejmheihgpfaaGreatDoor
