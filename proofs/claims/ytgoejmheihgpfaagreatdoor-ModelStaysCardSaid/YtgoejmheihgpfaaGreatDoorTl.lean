/- Lemmas for ModelStays' proof. -/
import Derived.Test.YtgoejmheihgpfaaGreatDoorTi
import Derived.Test.YtgoejmheihgpfaaGreatDoorTd
namespace Go.Proofs.YtgoejmheihgpfaaGreatDoor
set_option maxRecDepth 100000
set_option maxHeartbeats 16000000
open Go.RowKit
section
open Go.RowKit
structure Nx (w W : World) (g : Nat) (c : Array Value) (T : TypeId) : Prop where
 blk : W.heap[g]? = some (.cells c T (0, 0))
 oth : ∀ k, k ≠ g → k < w.heap.size → W.heap[k]? = w.heap[k]?
 sz : w.heap.size ≤ W.heap.size
 bel : ∀ B w0, Below B w0 w → B ≤ w.heap.size → B ≤ g → Below B w0 W
theorem blk_lt {w : World} {g : Nat} {o : Obj} (h : w.heap[g]? = some o) : g < w.heap.size := (zq h).1
theorem Nx.alloc (w : World) (c : Array Value) (T : TypeId) : Nx w (w.alloc (.cells c T)) w.heap.size c T :=
 ⟨zw w _, fun _ _ hl => Below.heap_alloc w _ _ hl, by simp, fun _ _ hb h1 _ => hb.alloc h1 _⟩
theorem Nx.row {w : World} {g : Nat} {cur : Array Value} {T : TypeId} (h : w.heap[g]? = some (.cells cur T (0, 0))) (c : Array Value) : Nx w (w.setRow g c) g c T :=
 ⟨setRow_heap w g cur c T _ h, fun _ hk _ => setRow_other w g _ c hk, by simp, fun _ _ hb _ h2 => hb.trans ⟨rfl, rfl, rfl, by simp [World.setRow], fun k hk => setRow_other w g k c (by omega)⟩⟩
theorem Nx.cell {w : World} {g : Nat} {cur : Array Value} {T : TypeId} (h : w.heap[g]? = some (.cells cur T (0, 0))) (j : Nat) (v : Value) : Nx w (w.setCell ⟨g, j, none⟩ v) g (cur.setIfInBounds j v) T :=
 ⟨(set_blk h j v), fun _ hk _ => Below.heap_setCell _ _ _ _ hk, by simp, fun _ _ hb _ h2 => hb.setCell (p := ⟨g, j, none⟩) h2 v⟩
theorem Nx.keep {w W : World} {g k : Nat} {c : Array Value} {T : TypeId} {o : Obj} (X : Nx w W g c T) (hk : k ≠ g) (H : w.heap[k]? = some o) : W.heap[k]? = some o :=
 (X.oth k hk (blk_lt H)).trans H
theorem Nx.keepN {w W : World} {g k : Nat} {c : Array Value} {T : TypeId} {o : Obj} (X : Nx w W g c T) (hg : w.heap.size ≤ g) (H : w.heap[k]? = some o) : W.heap[k]? = some o :=
 X.keep (Nat.ne_of_lt (Nat.lt_of_lt_of_le (blk_lt H) hg)) H
theorem blk_below {w W : World} {k : Nat} {o : Obj} (hb : Below w.heap.size w W) (H : w.heap[k]? = some o) : W.heap[k]? = some o :=
 (hb.block _ (blk_lt H)).trans H
theorem newer {w : World} {g k : Nat} {o : Obj} (hg : w.heap.size ≤ g) (H : w.heap[k]? = some o) : g ≠ k := fun e => by have := blk_lt H; omega
section
variable {P : Program} {ops : Array Oper} {w : World} {Q : Exit → Act → World → Prop} {a : Act} {o : Oper} {rest : List Oper}
theorem wpList_boxG (T : TypeId) (x : Operand) (ho : o.op = .box T x) (hg : o.guard = none) (v : Value) (hx : a.eval x = v) (c : Array Value) (hc : v.cells = c)
  (h : ∀ W g, w.heap.size ≤ g → Nx w W g c T → wpList P ops Q rest (a.put o.dst (.pointer (some ⟨g, 0, none⟩))) W) : wpList P ops Q (o :: rest) a w :=
 wpList_plain hg fun K hK => by
  subst hc hx
  unfold Oper.wp execOp
  simp only [ho, Instr.box, newVar, newRow, Sem.run_bind]
  exact hK _ _ (h _ _ zn (Nx.alloc w _ T))
theorem wpList_allocG (T : TypeId) (ho : o.op = .alloc T) (hg : o.guard = none) (z : Value) (hz : ∀ W, (zeroValue T).run P W = .ok z W) (c : Array Value) (hc : z.cells = c)
  (h : ∀ W g, w.heap.size ≤ g → Nx w W g c T → wpList P ops Q rest (a.put o.dst (.pointer (some ⟨g, 0, none⟩))) W) : wpList P ops Q (o :: rest) a w :=
 wpList_plain hg fun K hK => by
  subst hc
  unfold Oper.wp execOp
  simp only [ho, Instr.alloc, newVar, newRow, Sem.run_bind, hz, Result.andThen_ok]
  exact hK _ _ (h _ _ zn (Nx.alloc w _ T))
theorem wpList_rowG (ty : TypeId) (x y : Operand) (ho : o.op = .store ty x y) (hg : o.guard = none) (g : Nat) (c cur : Array Value) (hx : a.eval x = .pointer (some ⟨g, 0, none⟩)) (hy : a.eval y = .agg c)
  (H : w.heap[g]? = some (.cells cur ty (0, 0))) (hi : (P.info? ty).map (·.size) = some c.size) (hs : cur.size = c.size) (h1 : c.all (·.oneCell') = true)
  (h : ∀ W, Nx w W g c ty → wpList P ops Q rest (a.put o.dst undef) W) : wpList P ops Q (o :: rest) a w :=
 wpList_store_row hg ty x y ho g c hx hy ty cur H hi hs h1 (h _ (Nx.row H c))
theorem wpList_cellG (ty : TypeId) (x y : Operand) (ho : o.op = .store ty x y) (hg : o.guard = none) (g j : Nat) (cur : Array Value) (v : Value) {T : TypeId} (hx : a.eval x = .pointer (some ⟨g, j, none⟩)) (hy : a.eval y = v)
  (H : w.heap[g]? = some (.cells cur T (0, 0))) (hj : j < cur.size) (hi : (P.info? ty).map (·.size) = some 1) (hc : v.cells = #[v]) (h1 : v.oneCell' = true)
  (h : ∀ W, Nx w W g (cur.setIfInBounds j v) T → wpList P ops Q rest (a.put o.dst undef) W) : wpList P ops Q (o :: rest) a w :=
 wpList_plain hg fun K hK => by
  have hadd : (⟨g, j, none⟩ : Addr).add 0 = ⟨g, j, none⟩ := by unfold Addr.add; split <;> simp_all
  have hcell : w.cell? ⟨g, j, none⟩ = some cur[j] := by simp [World.cell?, H, hj]
  have hfro : w.frozen? ⟨g, j, none⟩ = false := by simp [World.frozen?, H]
  have hst : (store ((⟨g, j, none⟩ : Addr).add 0) v).run P w = .ok () (w.setCell ⟨g, j, none⟩ v) := by
   rw [hadd, run_store P w _ v _ h1, hcell]
   simp [hfro]
  unfold Oper.wp execOp
  cases hq : P.info? ty with
  | none => simp [hq] at hi
  | some i =>
   have hs : i.size = 1 := by simpa [hq] using hi
   simp only [ho, hx, hy, Instr.storeAt, Instr.sureAddr, Sem.run_bind, Sem.run_pure, Result.andThen_ok]
   have hrun : (storeVar ty ⟨g, j, none⟩ v).run P w = .ok () (w.setCell ⟨g, j, none⟩ v) := by
    simp [storeVar, sizeOf, typeInfo, hq, hc, hs, storeCells, hst]
   simp only [hrun, Result.andThen_ok]
   exact hK _ _ (h _ (Nx.cell H j v))
theorem wpList_loadC (ty : TypeId) (x : Operand) (ho : o.op = .load ty x) (hw : Region.wanted o (yielded ops a.tmps) = true) (g j : Nat) (hx : a.eval x = .pointer (some ⟨g, j, none⟩)) (v : Value) (hag : ∀ W, (isAgg ty).run P W = .ok false W)
  {cs : Array Value} {T : TypeId} (H : w.heap[g]? = some (.cells cs T (0, 0))) (hv : cs[j]? = some v) (h : wpList P ops Q rest (a.put o.dst v) w) : wpList P ops Q (o :: rest) a w :=
 wpList_loadS ty x ho hw g j hx v (by
  have hcell : w.cell? ⟨g, j, none⟩ = some v := by simp only [World.cell?, H, hv]; rfl
  simp [loadVar, hag, run_load, hcell]) h
theorem wpList_cellI (ty : TypeId) (x y : Operand) (ho : o.op = .store ty x y) (hg : o.guard = none) (g j : Nat) (cur : Array Value) {T : TypeId} {k : IntKind} (hx : a.eval x = .pointer (some ⟨g, j, none⟩)) (hy : ∃ n, a.eval y = .int k n)
  (H : w.heap[g]? = some (.cells cur T (0, 0))) (hj : j < cur.size) (hi : (P.info? ty).map (·.size) = some 1)
  (h : ∀ n W, Nx w W g (cur.setIfInBounds j (.int k n)) T → wpList P ops Q rest (a.put o.dst undef) W) : wpList P ops Q (o :: rest) a w :=
 let ⟨n, hn⟩ := hy
 wpList_cellG ty x y ho hg g j cur (.int k n) hx hn H hj hi rfl rfl (h n)
end
section
variable {P : Program} {ops : Array Oper} {w : World} {Q : Act → Prop} {a : Act} {o : Oper} {rest : List Oper}
end
section
variable {P : Program} {ops : Array Oper} {w : World} {Q : Exit → Act → World → Prop} {a : Act} {o : Oper} {K : Act → World → Prop}
theorem wanted_plain (hg : o.guard = none) : Region.wanted o (yielded ops a.tmps) = true := by unfold Region.wanted; rw [hg]
theorem op_want {X Y : Prop} (hg : o.guard = none) (h : X) : if Region.wanted o (yielded ops a.tmps) = true then X else Y := by rw [if_pos (wanted_plain hg)]; exact h
theorem op_rowG {Y : Prop} (ty : TypeId) (x y : Operand) (ho : o.op = .store ty x y) (hg : o.guard = none) (g : Nat) (c cur : Array Value) (hx : a.eval x = .pointer (some ⟨g, 0, none⟩)) (hy : a.eval y = .agg c)
  (H : w.heap[g]? = some (.cells cur ty (0, 0))) (hi : (P.info? ty).map (·.size) = some c.size) (hs : cur.size = c.size) (h1 : c.all (·.oneCell') = true)
  (h : ∀ W, Nx w W g c ty → K (a.put o.dst undef) W) : if Region.wanted o (yielded ops a.tmps) = true then o.wp P a w K Q else Y :=
 op_want hg (wp_store_row ty x y ho g c hx hy ty cur H hi hs h1 (h _ (Nx.row H c)))
theorem op_allocG {Y : Prop} (T : TypeId) (ho : o.op = .alloc T) (hg : o.guard = none) (z : Value) (hz : ∀ W, (zeroValue T).run P W = .ok z W) (c : Array Value) (hc : z.cells = c)
  (h : ∀ W g, w.heap.size ≤ g → Nx w W g c T → K (a.put o.dst (.pointer (some ⟨g, 0, none⟩))) W) : if Region.wanted o (yielded ops a.tmps) = true then o.wp P a w K Q else Y :=
 op_want hg (by
  subst hc
  unfold Oper.wp execOp
  simp only [ho, Instr.alloc, newVar, newRow, Sem.run_bind, hz, Result.andThen_ok]
  exact h _ _ zn (Nx.alloc w _ T))
theorem op_cellG {Y : Prop} (ty : TypeId) (x y : Operand) (ho : o.op = .store ty x y) (hg : o.guard = none) (g j : Nat) (cur : Array Value) (v : Value) {T : TypeId} (hx : a.eval x = .pointer (some ⟨g, j, none⟩)) (hy : a.eval y = v)
  (H : w.heap[g]? = some (.cells cur T (0, 0))) (hj : j < cur.size) (hi : (P.info? ty).map (·.size) = some 1) (hc : v.cells = #[v]) (h1 : v.oneCell' = true)
  (h : ∀ W, Nx w W g (cur.setIfInBounds j v) T → K (a.put o.dst undef) W) : if Region.wanted o (yielded ops a.tmps) = true then o.wp P a w K Q else Y :=
 op_want hg (by
  have hadd : (⟨g, j, none⟩ : Addr).add 0 = ⟨g, j, none⟩ := by unfold Addr.add; split <;> simp_all
  have hcell : w.cell? ⟨g, j, none⟩ = some cur[j] := by simp [World.cell?, H, hj]
  have hfro : w.frozen? ⟨g, j, none⟩ = false := by simp [World.frozen?, H]
  have hst : (store ((⟨g, j, none⟩ : Addr).add 0) v).run P w = .ok () (w.setCell ⟨g, j, none⟩ v) := by
   rw [hadd, run_store P w _ v _ h1, hcell]
   simp [hfro]
  unfold Oper.wp execOp
  cases hq : P.info? ty with
  | none => simp [hq] at hi
  | some i =>
   have hs : i.size = 1 := by simpa [hq] using hi
   simp only [ho, hx, hy, Instr.storeAt, Instr.sureAddr, Sem.run_bind, Sem.run_pure, Result.andThen_ok]
   have hrun : (storeVar ty ⟨g, j, none⟩ v).run P w = .ok () (w.setCell ⟨g, j, none⟩ v) := by
    simp [storeVar, sizeOf, typeInfo, hq, hc, hs, storeCells, hst]
   simp only [hrun, Result.andThen_ok]
   exact h _ (Nx.cell H j v))
theorem op_cellS {Y : Prop} (ty : TypeId) (x y : Operand) (ho : o.op = .store ty x y) (hg : o.guard = none) (g j : Nat) (cur : Array Value) {T : TypeId} (hx : a.eval x = .pointer (some ⟨g, j, none⟩)) (hy : ∃ b, a.eval y = .string b)
  (H : w.heap[g]? = some (.cells cur T (0, 0))) (hj : j < cur.size) (hi : (P.info? ty).map (·.size) = some 1)
  (h : ∀ v W, Nx w W g (cur.setIfInBounds j (sT v)) T → K (a.put o.dst undef) W) : if Region.wanted o (yielded ops a.tmps) = true then o.wp P a w K Q else Y :=
 let ⟨b, hb⟩ := hy
 op_cellG ty x y ho hg g j cur (sT b.data.toList) hx (hb.trans (by simp [bT])) H hj hi rfl rfl (h _)
theorem run_load_op {ρ : Operand → Value} (ty : TypeId) (x : Operand) (ho : o.op = .load ty x) (b f : Nat) (hx : ρ x = .pointer (some ⟨b, f, none⟩)) (v : Value) (hrun : (loadVar ty ⟨b, f, none⟩).run P w = .ok v w) : (execOp ρ o).run P w = .ok (.value v) w := by
 unfold execOp
 simp only [ho, hx, Instr.loadAt, Instr.sureAddr, Sem.run_bind, Sem.run_pure, Result.andThen_ok, hrun]
theorem run_loadC_op {ρ : Operand → Value} (ty : TypeId) (x : Operand) (ho : o.op = .load ty x) (g j : Nat) (hx : ρ x = .pointer (some ⟨g, j, none⟩)) (v : Value) (hag : ∀ W, (isAgg ty).run P W = .ok false W)
  {cs : Array Value} {T : TypeId} (H : w.heap[g]? = some (.cells cs T (0, 0))) (hv : cs[j]? = some v) : (execOp ρ o).run P w = .ok (.value v) w :=
 run_load_op ty x ho g j hx v (by
  have hcell : w.cell? ⟨g, j, none⟩ = some v := by simp only [World.cell?, H, hv]; rfl
  simp [loadVar, hag, run_load, hcell])
end
theorem load_part {P : Program} {W : World} {g : Nat} {cs : Array Value} {T ty : TypeId} (H : W.heap[g]? = some (.cells cs T (0, 0))) (o : Nat) (c : Array Value) (d : TypeDesc) (hu : P.underlying ty = some d) (hd : (match d with | .struct _ => true | _ => false) = true)
  (hi : (P.info? ty).map (·.size) = some c.size) (hc : cs.extract o (o + c.size) = c) : (loadVar ty ⟨g, o, none⟩).run P W = .ok (.agg c) W := by
 cases d <;> simp at hd
 refine run_loadVar_mid W g o ty c.toList _ (fun j v hv => ?_) hu rfl (by rw [hi]; rfl)
 have hj : j < c.toList.length := (List.getElem?_eq_some_iff.1 hv).1
 have h2 : c[j]? = some v := by simpa using hv
 rw [← hc] at h2
 rw [Array.getElem?_extract] at h2
 simp only [World.cell?, H]
 split at h2
 ·exact h2
 ·cases h2
theorem load_full {P : Program} {W : World} {g : Nat} {cs : Array Value} {T ty : TypeId} (H : W.heap[g]? = some (.cells cs T (0, 0))) (d : TypeDesc) (hu : P.underlying ty = some d) (hd : (match d with | .struct _ => true | _ => false) = true)
  (hi : (P.info? ty).map (·.size) = some cs.size) : (loadVar ty ⟨g, 0, none⟩).run P W = .ok (.agg cs) W := by
 cases d <;> simp at hd
 exact run_loadVar_row W g _ ty cs (0, 0) _ H hu rfl hi
theorem load_f26 {W : World} {g : Nat} {cs : Array Value} {T : TypeId} (H : W.heap[g]? = some (.cells cs T (0, 0))) (hs : cs.size = 4) : (loadVar 26 ⟨g, 0, none⟩).run Tryz.prog W = .ok (.agg cs) W :=
 load_full H _ Tryz.underlying26 rfl (by rw [hs]; kernel_rfl)
theorem load_t26 {W : World} {g : Nat} {cs : Array Value} {T : TypeId} (H : W.heap[g]? = some (.cells cs T (0, 0))) (o : Nat) (c : Array Value) (hs : c.size = 4) (hc : cs.extract o (o + 4) = c) : (loadVar 26 ⟨g, o, none⟩).run Tryz.prog W = .ok (.agg c) W :=
 load_part H o c _ Tryz.underlying26 rfl (by rw [hs]; kernel_rfl) (by rw [hs]; exact hc)
theorem load_f53 {W : World} {g : Nat} {cs : Array Value} {T : TypeId} (H : W.heap[g]? = some (.cells cs T (0, 0))) (hs : cs.size = 9) : (loadVar 53 ⟨g, 0, none⟩).run Tryz.prog W = .ok (.agg cs) W :=
 load_full H _ Tryz.underlying53 rfl (by rw [hs]; kernel_rfl)
theorem load_t53 {W : World} {g : Nat} {cs : Array Value} {T : TypeId} (H : W.heap[g]? = some (.cells cs T (0, 0))) (o : Nat) (c : Array Value) (hs : c.size = 9) (hc : cs.extract o (o + 9) = c) : (loadVar 53 ⟨g, o, none⟩).run Tryz.prog W = .ok (.agg c) W :=
 load_part H o c _ Tryz.underlying53 rfl (by rw [hs]; kernel_rfl) (by rw [hs]; exact hc)
theorem load_f55 {W : World} {g : Nat} {cs : Array Value} {T : TypeId} (H : W.heap[g]? = some (.cells cs T (0, 0))) (hs : cs.size = 4) : (loadVar 55 ⟨g, 0, none⟩).run Tryz.prog W = .ok (.agg cs) W :=
 load_full H _ Tryz.underlying55 rfl (by rw [hs]; kernel_rfl)
theorem load_t55 {W : World} {g : Nat} {cs : Array Value} {T : TypeId} (H : W.heap[g]? = some (.cells cs T (0, 0))) (o : Nat) (c : Array Value) (hs : c.size = 4) (hc : cs.extract o (o + 4) = c) : (loadVar 55 ⟨g, o, none⟩).run Tryz.prog W = .ok (.agg c) W :=
 load_part H o c _ Tryz.underlying55 rfl (by rw [hs]; kernel_rfl) (by rw [hs]; exact hc)
theorem load_f63 {W : World} {g : Nat} {cs : Array Value} {T : TypeId} (H : W.heap[g]? = some (.cells cs T (0, 0))) (hs : cs.size = 10) : (loadVar 63 ⟨g, 0, none⟩).run Tryz.prog W = .ok (.agg cs) W :=
 load_full H _ Tryz.underlying63 rfl (by rw [hs]; kernel_rfl)
theorem load_f102 {W : World} {g : Nat} {cs : Array Value} {T : TypeId} (H : W.heap[g]? = some (.cells cs T (0, 0))) (hs : cs.size = 20) : (loadVar 102 ⟨g, 0, none⟩).run Tryz.prog W = .ok (.agg cs) W :=
 load_full H _ Tryz.underlying102 rfl (by rw [hs]; kernel_rfl)
theorem load_f231 {W : World} {g : Nat} {cs : Array Value} {T : TypeId} (H : W.heap[g]? = some (.cells cs T (0, 0))) (hs : cs.size = 14) : (loadVar 231 ⟨g, 0, none⟩).run Tryz.prog W = .ok (.agg cs) W :=
 load_full H _ Tryz.underlying231 rfl (by rw [hs]; kernel_rfl)
theorem load_f45 {W : World} {g : Nat} {cs : Array Value} {T : TypeId} (H : W.heap[g]? = some (.cells cs T (0, 0))) (hs : cs.size = 3) : (loadVar 45 ⟨g, 0, none⟩).run Tryz.prog W = .ok (.agg cs) W :=
 load_full H _ Tryz.underlying45 rfl (by rw [hs]; kernel_rfl)
theorem agg_t3 (W : World) : (isAgg 3).run Tryz.prog W = .ok false W := by simp [isAgg, run_underlying Tryz.underlying3]
theorem agg_t4 (W : World) : (isAgg 4).run Tryz.prog W = .ok false W := by simp [isAgg, run_underlying Tryz.underlying4]
theorem agg_t5 (W : World) : (isAgg 5).run Tryz.prog W = .ok false W := by simp [isAgg, run_underlying Tryz.underlying5]
theorem agg_t9 (W : World) : (isAgg 9).run Tryz.prog W = .ok false W := by simp [isAgg, run_underlying Tryz.underlying9]
theorem agg_t43 (W : World) : (isAgg 43).run Tryz.prog W = .ok false W := by simp [isAgg, run_underlying Tryz.underlying43]
theorem zinfo_t53 : (Tryz.prog.info? 53).map (·.zero) = some (some (.agg #[eS, eS, eS, iV 0, .int .u8 0, iV 0, .bool false, iV 0, eS])) := by kernel_rfl
theorem zero_t53 (W : World) : (zeroValue 53).run Tryz.prog W = .ok (.agg #[eS, eS, eS, iV 0, .int .u8 0, iV 0, .bool false, iV 0, eS]) W := zo zinfo_t53 W
theorem zinfo_t63 : (Tryz.prog.info? 63).map (·.zero) = some (some (.agg #[.int .u8 0, iV 0, iV 0, .int .u64 0, eS, .int .u64 0, eS, eS, iV 0, eS])) := by kernel_rfl
theorem zero_t63 (W : World) : (zeroValue 63).run Tryz.prog W = .ok (.agg #[.int .u8 0, iV 0, iV 0, .int .u64 0, eS, .int .u64 0, eS, eS, iV 0, eS]) W := zo zinfo_t63 W
theorem zinfo_t55 : (Tryz.prog.info? 55).map (·.zero) = some (some (.agg #[iV 0, iV 0, eS, iV 0])) := by kernel_rfl
theorem zero_t55 (W : World) : (zeroValue 55).run Tryz.prog W = .ok (.agg #[iV 0, iV 0, eS, iV 0]) W := zo zinfo_t55 W
theorem zinfo_t57 : (Tryz.prog.info? 57).map (·.zero) = some (some (.agg #[eS, eS, eS, iV 0, .int .u8 0, iV 0, .bool false, iV 0, eS, iV 0, iV 0, eS, iV 0, .bool false])) := by kernel_rfl
theorem zero_t57 (W : World) : (zeroValue 57).run Tryz.prog W = .ok (.agg #[eS, eS, eS, iV 0, .int .u8 0, iV 0, .bool false, iV 0, eS, iV 0, iV 0, eS, iV 0, .bool false]) W := zo zinfo_t57 W
theorem zinfo_t231 : (Tryz.prog.info? 231).map (·.zero) = some (some (.agg #[eS, eS, eS, iV 0, .int .u8 0, iV 0, .bool false, iV 0, eS, eS, .slice none 0 0, .slice none 0 0, .slice none 0 0, iV 0])) := by kernel_rfl
theorem zero_t231 (W : World) : (zeroValue 231).run Tryz.prog W = .ok (.agg #[eS, eS, eS, iV 0, .int .u8 0, iV 0, .bool false, iV 0, eS, eS, .slice none 0 0, .slice none 0 0, .slice none 0 0, iV 0]) W := zo zinfo_t231 W
end
theorem zc (n : Tmp) {P : Program} {ops : Array Oper} {w : World} {Q : Exit → Act → World → Prop} {a : Act} {rest : List Oper} {op : Op} {ty : TypeId} {pos : String} {after : Array Edge} {g : Option (Nat × Bool)}
  (h : wpList P ops Q (Oper.mk (some n) op ty pos after g :: rest) a w) : wpList P ops Q (Oper.mk (some n) op ty pos after g :: rest) a w := h
theorem zd (t : TypeId) (p : Tmp) {P : Program} {ops : Array Oper} {w : World} {Q : Exit → Act → World → Prop} {a : Act} {rest : List Oper} {y : Operand} {d : Option Tmp} {ty : TypeId} {pos : String} {after : Array Edge} {g : Option (Nat × Bool)}
  (h : wpList P ops Q (Oper.mk d (.store t (.tmp p) y) ty pos after g :: rest) a w) : wpList P ops Q (Oper.mk d (.store t (.tmp p) y) ty pos after g :: rest) a w := h
section
open Go.RowKit
section
variable {P : Program} {ops : Array Oper} {w : World} {Q : Exit → Act → World → Prop} {a : Act} {o : Oper} {rest : List Oper} {K : Act → World → Prop}
theorem zS (ty : TypeId) (p : Tmp) (f : Nat) {b : Nat} {v : Value} (hrun : (loadVar ty ⟨b, f, none⟩).run P w = .ok v w) (h : wpList P ops Q rest (a.put o.dst v) w) (ho : o.op = .load ty (.tmp p) := by rfl) (hw : Region.wanted o (yielded ops a.tmps) = true := by rfl) (hx : a.eval (.tmp p) = .pointer (some ⟨b, f, none⟩) := by rfl) : wpList P ops Q (o :: rest) a w :=
 wpList_loadS ty (.tmp p) ho hw b f hx v hrun h
theorem zV (ty : TypeId) (p : Tmp) (j : Nat) {g : Nat} {l : List Value} {T : TypeId} {v : Value} (hag : ∀ W, (isAgg ty).run P W = .ok false W) (H : Hid (w.heap[g]? = some (.cells l.toArray T (0, 0)))) (hv : l[j]? = some v) (h : wpList P ops Q rest (a.put o.dst v) w) (ho : o.op = .load ty (.tmp p) := by rfl) (hw : Region.wanted o (yielded ops a.tmps) = true := by rfl) (hx : a.eval (.tmp p) = .pointer (some ⟨g, j, none⟩) := by rfl) : wpList P ops Q (o :: rest) a w :=
 wpList_loadC ty (.tmp p) ho hw g j hx v hag H.out (by simpa using hv) h
theorem zW (ty : TypeId) (p q : Tmp) {g : Nat} {l cur : List Value} (hy : a.eval (.tmp q) = .agg l.toArray) (H : Hid (w.heap[g]? = some (.cells cur.toArray ty (0, 0)))) (h : ∀ W, Nx w W g l.toArray ty → wpList P ops Q rest (a.put o.dst undef) W) (ho : o.op = .store ty (.tmp p) (.tmp q) := by rfl) (hg : o.guard = none := by rfl) (hx : a.eval (.tmp p) = .pointer (some ⟨g, 0, none⟩) := by rfl) (hi : (P.info? ty).map (·.size) = some l.toArray.size := by kernel_rfl) (hs : cur.toArray.size = l.toArray.size := by rfl) (h1 : l.toArray.all (·.oneCell') = true := by kernel_rfl) : wpList P ops Q (o :: rest) a w :=
 wpList_rowG ty (.tmp p) (.tmp q) ho hg g _ _ hx hy H.out hi hs h1 h
theorem zP {Y : Prop} (ty : TypeId) (p q : Tmp) {g : Nat} {l cur : List Value} (hy : a.eval (.tmp q) = .agg l.toArray) (H : Hid (w.heap[g]? = some (.cells cur.toArray ty (0, 0)))) (h : ∀ W, Nx w W g l.toArray ty → K (a.put o.dst undef) W) (ho : o.op = .store ty (.tmp p) (.tmp q) := by rfl) (hg : o.guard = none := by rfl) (hx : a.eval (.tmp p) = .pointer (some ⟨g, 0, none⟩) := by rfl) (hi : (P.info? ty).map (·.size) = some l.toArray.size := by kernel_rfl) (hs : cur.toArray.size = l.toArray.size := by rfl) (h1 : l.toArray.all (·.oneCell') = true := by kernel_rfl) : if Region.wanted o (yielded ops a.tmps) = true then o.wp P a w K Q else Y :=
 op_rowG ty (.tmp p) (.tmp q) ho hg g _ _ hx hy H.out hi hs h1 h
theorem zA (T : TypeId) {l : List Value} (hz : ∀ W, (zeroValue T).run P W = .ok (.agg l.toArray) W) (h : ∀ W g, w.heap.size ≤ g → Nx w W g l.toArray T → wpList P ops Q rest (a.put o.dst (.pointer (some ⟨g, 0, none⟩))) W) (ho : o.op = .alloc T := by rfl) (hg : o.guard = none := by rfl) : wpList P ops Q (o :: rest) a w :=
 wpList_allocG T ho hg _ hz _ rfl h
theorem zQ {Y : Prop} (T : TypeId) {l : List Value} (hz : ∀ W, (zeroValue T).run P W = .ok (.agg l.toArray) W) (h : ∀ W g, w.heap.size ≤ g → Nx w W g l.toArray T → K (a.put o.dst (.pointer (some ⟨g, 0, none⟩))) W) (ho : o.op = .alloc T := by rfl) (hg : o.guard = none := by rfl) : if Region.wanted o (yielded ops a.tmps) = true then o.wp P a w K Q else Y :=
 op_allocG T ho hg _ hz _ rfl h
theorem zO (T : TypeId) (p : Tmp) {l : List Value} (hx : a.eval (.tmp p) = .agg l.toArray) (h : ∀ W g, w.heap.size ≤ g → Nx w W g l.toArray T → wpList P ops Q rest (a.put o.dst (.pointer (some ⟨g, 0, none⟩))) W) (ho : o.op = .box T (.tmp p) := by rfl) (hg : o.guard = none := by rfl) : wpList P ops Q (o :: rest) a w :=
 wpList_boxG T (.tmp p) ho hg _ hx _ rfl h
end
abbrev sW (s : Sch) (ra sa ga la ma lb mb : Option Addr) (rv sv gv lc mc le me : Nat) (pf pc pn pd ps pm kp nn th nw da db : Int) (L R : List Ent) (M N : List Mrk) : Array Value := #[sT s.name, .slice ra s.records.length rv, .slice sa s.services.length sv, .slice ga s.sagas.length gv, iV pf, iV pc, iV pn, iV pd, iV ps, iV pm, iV kp, iV nn, iV th, iV nw, .slice la L.length lc, .slice ma M.length mc, iV da, .slice lb R.length le, .slice mb N.length me, iV db]
theorem zE {w0 w W : World} {g : Nat} {c : Array Value} {T : TypeId} (X : Nx w W g c T) (H : Hid (Below w0.heap.size w0 w)) (hg : w0.heap.size ≤ g) : Hid (Below w0.heap.size w0 W) := zD (X.bel _ _ H.out H.out.size hg)
theorem zH {w W : World} {g k : Nat} {c : Array Value} {T : TypeId} {o : Obj} (X : Nx w W g c T) (hk : k ≠ g) (H : Hid (w.heap[k]? = some o)) : Hid (W.heap[k]? = some o) := zD (X.keep hk H.out)
theorem zN {w W : World} {g k : Nat} {c : Array Value} {T : TypeId} {o : Obj} (X : Nx w W g c T) (hg : w.heap.size ≤ g) (H : Hid (w.heap[k]? = some o)) : Hid (W.heap[k]? = some o) := zD (X.keepN hg H.out)
theorem zM {w0 w : World} {g : Nat} (H : Hid (Below w0.heap.size w0 w)) (hg : w.heap.size ≤ g) : w0.heap.size ≤ g := Nat.le_trans H.out.size hg
theorem zr {fn : Func} {R : Ending → World → Prop} {a : Act} {w : World} {p q r s : Tmp} (hf : fn.results = #[.cell p 53, .cell q 63, .tmp r, .tmp s]) {g0 g1 : Nat} {l0 l1 : List Value} (H0 : Hid (w.heap[g0]? = some (.cells l0.toArray 53 (0, 0)))) (H1 : Hid (w.heap[g1]? = some (.cells l1.toArray 63 (0, 0))))
  (hR : R (.returned (.tuple #[.agg l0.toArray, .agg l1.toArray, a.tmps.getD r undef, a.tmps.getD s undef])) w) (h0 : l0.length = 9 := by rfl) (h1 : l1.length = 10 := by rfl) (hp : a.tmps.getD p undef = .pointer (some ⟨g0, 0, none⟩) := by rfl) (hq : a.tmps.getD q undef = .pointer (some ⟨g1, 0, none⟩) := by rfl) (hd : a.defers = [] := by rfl) : bodyPost Tryz.prog fn R .ret a w :=
 ⟨hd, _, by
  have e0 := load_f53 H0.out (by simpa using h0)
  have e1 := load_f63 H1.out (by simpa using h1)
  simp only [Array.getD_eq_getD_getElem?] at hp hq
  simp [results, hf, hp, hq, asAddr, e0, e1, Sem.run_bind, Sem.run_pure, Result.andThen_ok], hR⟩
theorem zC {P : Program} {ops : Array Oper} {w : World} {Q : Exit → Act → World → Prop} {a : Act} {o : Oper} {rest : List Oper} (ty : TypeId) (p : Tmp) (y : Operand) (j : Nat) (v : Value) {g : Nat} {l l' : List Value} {T : TypeId} (H : Hid (w.heap[g]? = some (.cells l.toArray T (0, 0)))) (h : ∀ W, Nx w W g l'.toArray T → wpList P ops Q rest (a.put o.dst undef) W)
  (ho : o.op = .store ty (.tmp p) y := by rfl) (hg : o.guard = none := by rfl) (hx : a.eval (.tmp p) = .pointer (some ⟨g, j, none⟩) := by rfl) (hy : a.eval y = v := by rfl) (hj : j < l.toArray.size := by simp) (hi : (P.info? ty).map (·.size) = some 1 := by kernel_rfl) (hc : v.cells = #[v] := by rfl) (h1 : v.oneCell' = true := by rfl) (hl : l.set j v = l' := by simp only [zY, zZ] <;> rfl) : wpList P ops Q (o :: rest) a w :=
 wpList_cellG ty (.tmp p) y ho hg g j l.toArray v hx hy H.out hj hi hc h1 (fun W X => h W (by rw [List.setIfInBounds_toArray, hl] at X; exact X))
end
end Go.Proofs.YtgoejmheihgpfaaGreatDoor
