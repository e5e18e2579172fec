/-
  package store: View.entry, View.Get, Get (a store without tables).
-/
import Derived.Test.YtcohbfabcdjefaaGreatDoorEp
namespace Go.Proofs.YtcohbfabcdjefaaGreatDoor
open Go.RowKit Go.Maps

variable {A B : Nat} {w : World} {sb mb db m lb nb : Nat} {M : List It} {logged n z : Nat}
theorem SD.get (h : SD A B w sb mb db m lb nb M logged n z) (k : ByteArray) (hM : M.length ≤ 1000000) : Calls Tryz.prog 106 #[.pointer (some ⟨mb, 0, none⟩), .string k] w fun e w' => e = .returned (getV (getL M k)) ∧ Below w.heap.size w w' := by
  obtain ⟨u, h1, h2⟩ := h.mem
  exact get_any w mb u false M k h1 (OwnI.rd h2) h.up hM
theorem ix4_0 (W : World) : (Instr.index 101 (.agg #[.slice none 0 0, .slice none 0 0, .slice none 0 0, .slice none 0 0]) (.int .i64 0)).run Tryz.prog W = .ok (.slice none 0 0) W := by kernel_rfl
theorem ix4_1 (W : World) : (Instr.index 101 (.agg #[.slice none 0 0, .slice none 0 0, .slice none 0 0, .slice none 0 0]) (.int .i64 1)).run Tryz.prog W = .ok (.slice none 0 0) W := by kernel_rfl
theorem ix4_2 (W : World) : (Instr.index 101 (.agg #[.slice none 0 0, .slice none 0 0, .slice none 0 0, .slice none 0 0]) (.int .i64 2)).run Tryz.prog W = .ok (.slice none 0 0) W := by kernel_rfl
theorem ix4_3 (W : World) : (Instr.index 101 (.agg #[.slice none 0 0, .slice none 0 0, .slice none 0 0, .slice none 0 0]) (.int .i64 3)).run Tryz.prog W = .ok (.slice none 0 0) W := by kernel_rfl
def entC : Array Value := #[.string ⟨#[]⟩, .string ⟨#[]⟩, .bool false]
set_option maxRecDepth 100000 in
set_option maxHeartbeats 2000000 in
theorem entry_any (h : SD A B w sb mb db m lb nb M logged n z) (k : ByteArray) (hM : M.length ≤ 1000000) :
    Calls Tryz.prog 178 #[.pointer (some ⟨sb, 0, none⟩), .string k] w fun e w' => e = .returned (getV (getL M k)) ∧ Below w.heap.size w w' := by
  obtain ⟨W1, hW1⟩ : ∃ W1, W1 = w.alloc (.cells #[.string ⟨#[]⟩, .string ⟨#[]⟩, .bool false] 99 (0, 0)) := ⟨_, rfl⟩
  have hn1 : W1.heap[w.heap.size]? = some (.cells #[.string ⟨#[]⟩, .string ⟨#[]⟩, .bool false] 99 (0, 0)) := by rw [hW1]; exact heap_alloc_new w _
  have hB1 : Below w.heap.size w W1 := by rw [hW1]; exact bl1 w _
  have hlt1 : w.heap.size < W1.heap.size := heap_lt hn1
  have H1 := h.below hB1
  have s0 : w.cell? ⟨sb, 0, none⟩ = some (.pointer (some ⟨mb, 0, none⟩)) := h.st.cell 0
  have sA : (w.alloc (.cells #[.string ⟨#[]⟩, .string ⟨#[]⟩, .bool false] 99 (0, 0))).cell? ⟨sb, 0, none⟩ = some (.pointer (some ⟨mb, 0, none⟩)) := by rw [← hW1]; exact H1.st.cell 0
  have HG := Lib.hid (H1.get k hM)
  have HH1 := Lib.hid H1
  have HB1 := Lib.hid hB1
  have HE := Lib.hid hW1
  clear h hB1 H1 hW1
  go_enter Tryz.func178, Tryz.ntmps178
  go_wp2_with fail
  rw [← HE.out]
  refine HG.out.mono ?_
  rintro e w2 ⟨rfl, hb2⟩
  have hn2 : w2.heap[w.heap.size]? = some (.cells #[.string ⟨#[]⟩, .string ⟨#[]⟩, .bool false] 99 (0, 0)) := by rw [hb2.block _ hlt1]; exact hn1
  have HB2 := Lib.hid (HB1.out.trans (hb2.mono HB1.out.size))
  have H2 := Lib.hid (HH1.out.below hb2)
  have hlt2 : w.heap.size < w2.heap.size := heap_lt hn2
  clear hb2 hn1 HG HE s0 HH1 HB1
  have n0 : w2.cell? ⟨w.heap.size, 0, none⟩ = some (.string ⟨#[]⟩) := by simp [World.cell?, hn2]
  have n1 : w2.cell? ⟨w.heap.size, 1, none⟩ = some (.string ⟨#[]⟩) := by simp [World.cell?, hn2]
  have n2 : w2.cell? ⟨w.heap.size, 2, none⟩ = some (.bool false) := by simp [World.cell?, hn2]
  have f0 : w2.frozen? ⟨w.heap.size, 0, none⟩ = false := by simp [World.frozen?, hn2]
  have f1 : w2.frozen? ⟨w.heap.size, 1, none⟩ = false := by simp [World.frozen?, hn2]
  have f2 : w2.frozen? ⟨w.heap.size, 2, none⟩ = false := by simp [World.frozen?, hn2]
  have hslt : sb < w2.heap.size := H2.out.st.lt
  have l1 : w2.cell? ⟨sb, 1, none⟩ = some (.slice none 0 0) := H2.out.st.cell 1
  have l2 : w2.cell? ⟨sb, 2, none⟩ = some (.slice none 0 0) := H2.out.st.cell 2
  have l3 : w2.cell? ⟨sb, 3, none⟩ = some (.slice none 0 0) := H2.out.st.cell 3
  have l4 : w2.cell? ⟨sb, 4, none⟩ = some (.slice none 0 0) := H2.out.st.cell 4
  have HFZ := Lib.hid (fun j => show w2.frozen? ⟨w.heap.size, j, none⟩ = false by simp [World.frozen?, hn2])
  clear hn2
  cases hget : getL M k with
  | some x =>
    unfold getV entv
    go_wp2_with fail
    exact bodyPost_ret (v := .tuple #[entv x, .bool true]) (by simp [results, Tryz.results178, go_sem, entv, n0, n1, n2, hlt2]) rfl ⟨by rw [hget]; rfl, (((HB2.out.setCell (p := ⟨w.heap.size, 0, none⟩) (Nat.le_refl _) _).setCell (p := ⟨w.heap.size, 1, none⟩) (Nat.le_refl _) _).setCell (p := ⟨w.heap.size, 2, none⟩) (Nat.le_refl _) _).alloc (by simp; omega) _⟩
  | none =>
    unfold getV noEnt
    go_wp2_with fail
    obtain ⟨W3, hW3⟩ : ∃ W3, W3 = w2.alloc (.cells #[.string ⟨#[]⟩, .string ⟨#[]⟩, .bool false] 99 (0, 0)) := ⟨_, rfl⟩
    have n0 : W3.cell? ⟨w.heap.size, 0, none⟩ = some (.string ⟨#[]⟩) := by rw [hW3, World.cell?_alloc_lt w2 _ _ hlt2]; exact n0
    have n1 : W3.cell? ⟨w.heap.size, 1, none⟩ = some (.string ⟨#[]⟩) := by rw [hW3, World.cell?_alloc_lt w2 _ _ hlt2]; exact n1
    have n2 : W3.cell? ⟨w.heap.size, 2, none⟩ = some (.bool false) := by rw [hW3, World.cell?_alloc_lt w2 _ _ hlt2]; exact n2
    have fz : ∀ j, W3.frozen? ⟨w.heap.size, j, none⟩ = false := fun j => by rw [hW3]; exact (World.frozen?_of_block (w := w2) (heap_alloc_old w2 _ hlt2)).trans (HFZ.out j)
    have f0 := fz 0
    have f1 := fz 1
    have f2 := fz 2
    have HB3 := Lib.hid (show Below w.heap.size w W3 by rw [hW3]; exact HB2.out.alloc HB2.out.size _)
    rw [← hW3]
    clear hW3 fz l1 l2 l3 l4 hslt
    go_loopw [29] (fun i wr => ∃ k : Nat, k ≤ 4 ∧ i = .int .i64 k ∧ wr = W3) (fun i _ => 4 - (intOf i).toNat)
    case atStart => exact ⟨0, by omega, rfl, rfl⟩
    case round =>
      obtain ⟨k, hk, rfl, rfl⟩ := hrel
      obtain rfl | rfl | rfl | rfl | rfl : k = 0 ∨ k = 1 ∨ k = 2 ∨ k = 3 ∨ k = 4 := by omega
      rotate_right 1
      · go_wp2_with fail
        exact bodyPost_ret (v := .tuple #[noEnt, .bool false]) (by simp [results, Tryz.results178, go_sem, noEnt, n0, n1, n2]) rfl ⟨by rw [hget]; rfl, ((HB3.out.setCell (p := ⟨w.heap.size, 0, none⟩) (Nat.le_refl _) _).setCell (p := ⟨w.heap.size, 1, none⟩) (Nat.le_refl _) _).setCell (p := ⟨w.heap.size, 2, none⟩) (Nat.le_refl _) _⟩
      all_goals
        have ix0 := ix4_0 wr
        have ix1 := ix4_1 wr
        have ix2 := ix4_2 wr
        have ix3 := ix4_3 wr
        go_wp2_with fail
        go_loopw [34] (fun j w' => j = .int .i64 0 ∧ w' = wr) (fun _ _ => 0)
        case atStart => exact ⟨rfl, rfl⟩
        case round =>
          obtain ⟨rfl, rfl⟩ := hrel
          go_wp2_with fail
          first | exact ⟨⟨1, by omega, rfl, trivial⟩, by simp [intOf]⟩ | exact ⟨⟨2, by omega, rfl, trivial⟩, by simp [intOf]⟩ | exact ⟨⟨3, by omega, rfl, trivial⟩, by simp [intOf]⟩ | exact ⟨⟨4, by omega, rfl, trivial⟩, by simp [intOf]⟩
/-- what a store answers -/
def askV (o : Option It) : Value := match o with | some x => .tuple #[.string x.val, .bool (!x.gone)] | none => .tuple #[.string ⟨#[]⟩, .bool false]
set_option maxRecDepth 100000 in
theorem vget_any (h : SD A B w sb mb db m lb nb M logged n z) (k : ByteArray) (hM : M.length ≤ 1000000) :
    Calls Tryz.prog 115 #[.pointer (some ⟨sb, 0, none⟩), .string k] w fun e w' => e = .returned (askV (getL M k)) ∧ Below w.heap.size w w' := by
  have HE := Lib.hid (entry_any h k hM)
  clear h
  cases hget : getL M k with
  | some x =>
    rw [hget] at HE
    unfold getV entv at HE
    unfold askV
    clear hget
    go_enter Tryz.func115, Tryz.ntmps115
    go_wp2_with fail
    refine HE.out.mono ?_
    rintro e w1 ⟨rfl, hb1⟩
    have HB := Lib.hid hb1
    clear hb1 HE
    cases hg : x.gone
    · go_wp2_with fail
      obtain ⟨W, hW⟩ : ∃ W, W = w1.alloc (.cells #[.string x.key, .string x.val, .bool false] 99 (0, 0)) := ⟨_, rfl⟩
      have q : W.heap[w1.heap.size]? = some (.cells #[.string x.key, .string x.val, .bool false] 99 (0, 0)) := by rw [hW]; exact heap_alloc_new w1 _
      have HW := Lib.hid (show Below w.heap.size w W by rw [hW]; exact HB.out.alloc HB.out.size _)
      rw [← hW]
      clear hW
      have q1 : W.cell? ⟨w1.heap.size, 1, none⟩ = some (.string x.val) := by simp [World.cell?, q]
      have q2 : W.cell? ⟨w1.heap.size, 2, none⟩ = some (.bool false) := by simp [World.cell?, q]
      clear q
      go_quiet (fail)
      go_wp2_with fail
      go_ret2
      exact ⟨by rw [hg]; rfl, below_drewN HW.out nq⟩
    · go_wp2_with fail
      obtain ⟨W, hW⟩ : ∃ W, W = w1.alloc (.cells #[.string x.key, .string x.val, .bool true] 99 (0, 0)) := ⟨_, rfl⟩
      have q : W.heap[w1.heap.size]? = some (.cells #[.string x.key, .string x.val, .bool true] 99 (0, 0)) := by rw [hW]; exact heap_alloc_new w1 _
      have HW := Lib.hid (show Below w.heap.size w W by rw [hW]; exact HB.out.alloc HB.out.size _)
      rw [← hW]
      clear hW
      have q1 : W.cell? ⟨w1.heap.size, 1, none⟩ = some (.string x.val) := by simp [World.cell?, q]
      have q2 : W.cell? ⟨w1.heap.size, 2, none⟩ = some (.bool true) := by simp [World.cell?, q]
      clear q
      go_quiet (fail)
      go_wp2_with fail
      go_ret2
      exact ⟨by rw [hg]; rfl, below_drewN HW.out nq⟩
  | none =>
    rw [hget] at HE
    unfold getV noEnt at HE
    unfold askV
    clear hget
    go_enter Tryz.func115, Tryz.ntmps115
    go_wp2_with fail
    refine HE.out.mono ?_
    rintro e w1 ⟨rfl, hb1⟩
    have HB := Lib.hid hb1
    clear hb1 HE
    go_wp2_with fail
    obtain ⟨W, hW⟩ : ∃ W, W = w1.alloc (.cells #[.string ⟨#[]⟩, .string ⟨#[]⟩, .bool false] 99 (0, 0)) := ⟨_, rfl⟩
    have q : W.heap[w1.heap.size]? = some (.cells #[.string ⟨#[]⟩, .string ⟨#[]⟩, .bool false] 99 (0, 0)) := by rw [hW]; exact heap_alloc_new w1 _
    have HW := Lib.hid (show Below w.heap.size w W by rw [hW]; exact HB.out.alloc HB.out.size _)
    rw [← hW]
    clear hW
    have q1 : W.cell? ⟨w1.heap.size, 1, none⟩ = some (.string ⟨#[]⟩) := by simp [World.cell?, q]
    have q2 : W.cell? ⟨w1.heap.size, 2, none⟩ = some (.bool false) := by simp [World.cell?, q]
    clear q
    go_quiet (fail)
    go_wp2_with fail
    go_ret2
    exact ⟨rfl, below_drewN HW.out nq⟩
theorem sget_any (h : SD A B w sb mb db m lb nb M logged n z) (k : ByteArray) (hM : M.length ≤ 1000000) :
    Calls Tryz.prog 61 #[.pointer (some ⟨sb, 0, none⟩), .string k] w fun e w' => e = .returned (askV (getL M k)) ∧ Below w.heap.size w w' := by
  have s5 : w.cell? ⟨sb, 5, none⟩ = some (.pointer (some ⟨db, 0, none⟩)) := h.st.cell 5
  have HE := Lib.hid (vget_any h k hM)
  clear h
  have hk : ∃ v b, askV (getL M k) = .tuple #[.string v, .bool b] := by
    cases getL M k with
    | some x => exact ⟨_, _, rfl⟩
    | none => exact ⟨_, _, rfl⟩
  obtain ⟨v, b, hv⟩ := hk
  rw [hv] at HE ⊢
  clear hv
  go_enter Tryz.func61, Tryz.ntmps61
  go_wp2_with fail
  refine HE.out.mono ?_
  rintro e w1 ⟨rfl, hb1⟩
  have HB := Lib.hid hb1
  clear hb1
  go_wp2_with fail
  go_ret2
  exact ⟨rfl, HB.out⟩
end Go.Proofs.YtcohbfabcdjefaaGreatDoor
