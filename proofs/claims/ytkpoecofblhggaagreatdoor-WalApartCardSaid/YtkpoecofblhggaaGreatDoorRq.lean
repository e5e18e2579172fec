/-
  A region that draws its order, within the round of a range over a function: one walk of the order of the text serves, where its operations only read.
-/
import Derived.Sort.BigQuietIn
import Derived.RangeFuncCalls
namespace Go.Proofs.YtkpoecofblhggaaGreatDoor
open Go.RowKit

variable {F : Fence} {n : Nat} {P : Program} {ops : Array Oper} {Q : Exit → Act → World → Prop}
theorem uponIn_round {o : Oper} {a : Act} {K K' : Act → World → Prop} (l : Nat) (h : ∀ a w, K a w → K' a w) (r : Result Next) (hh : o.uponIn F n P a K Q r) : o.uponIn (F.inRound l) n P a K' Q r := by
  cases r with
  | ok x w' =>
    cases x <;> simp only [Oper.uponIn] at hh ⊢ <;>
      first
        | exact h _ _ hh
        | exact ⟨hh.1, CallsIn.inRound l (CallsIn.mono hh.2 (fun e w'' he => by cases e <;> first | exact h _ _ he | exact he))⟩
        | exact ⟨hh.1, RowsIn.mono (F := F.inRound l) hh.2 (fun _ _ he => h _ _ he)⟩
        | exact ⟨hh.1, RoundIn.mono (F := F.inRound l) hh.2 (fun e w'' he => by cases e <;> first | exact h _ _ he | exact he)⟩
  | halt x w' => cases x <;> simp only [Oper.uponIn] at hh ⊢ <;> exact hh
/-- no operation is a 'defer' statement -/
def noDefer (ops : Array Oper) : Bool := ops.toList.all fun o => match o.op with | .defer _ => false | _ => true
theorem noDefer_at (h : noDefer ops = true) {i : Nat} {o : Oper} (ho : ops[i]? = some o) (c) : o.op ≠ .defer c := fun e => by
  have hm : o ∈ ops.toList := by
    have := List.mem_of_getElem? (l := ops.toList) (i := i) (by simpa using ho)
    exact this
  have := List.all_eq_true.1 h o hm
  rw [e] at this
  cases this
theorem opsIn_round (l : Nat) (hro : F.round = none) (hnd : noDefer ops = true) : ∀ (is : List Nat) (a : Act) (w : World), wpOpsIn F n P ops Q is a w → wpOpsIn (F.inRound l) n P ops Q is a w
  | [], _, _, h => h
  | i :: is, a, w, h => by
    simp only [wpOpsIn] at h ⊢
    cases ho : ops[i]? with
    | none => simp only [ho] at h; exact opsIn_round l hro hnd is a w h
    | some o =>
      simp only [ho] at h
      have hd := noDefer_at hnd ho
      by_cases hw : Region.wanted o (yielded ops a.tmps) = true
      · simp only [hw, if_true] at h ⊢
        unfold Oper.wpIn at h ⊢
        refine ⟨h.1, ?_⟩
        have h2 := h.2
        rw [Oper.semAt_eq _ _ _ hd] at h2 ⊢
        exact uponIn_round l (fun a' w' => opsIn_round l hro hnd is a' w') _ h2
      · simp only [hw] at h ⊢
        exact ⟨h.1, opsIn_round l hro hnd is _ w h.2⟩
theorem wpIn_region_round {id : Nat} {a : Act} {w : World} {L : List Oper} (l : Nat) (hro : F.round = none) (hm : P.follows .mixedOrders = true) (hB : Region.lexB .any L.toArray = true) (hnd : noDefer L.toArray = true)
    (h : wpQuietIn F n P L.toArray (fun w' => ∃ n, w' = w.drewN n) (fun a' => ∀ w', (∃ n, w' = w.drewN n) → Q .normal a' w') L a) : (Code.region id L.toArray true).wpIn (F.inRound l) n P Q a w := by
  have hB' := hB
  simp only [Region.lexB, Bool.and_eq_true] at hB'
  refine wpIn_region_draw fun t => ?_
  simp only [Region.schedule, hm, Bool.true_or, if_true]
  refine opsIn_round l hro hnd _ _ _ (wpAnyIn_sound _ t _ a _ ?_)
  refine wpAnyIn_of_quiet (Q := fun a' => ∀ w', (∃ n, w' = w.drewN n) → Q .normal a' w') hro (fun _ w' hw' h => h w' hw') _ _ _ _ ⟨1, rfl⟩ ?_
  have := wpAnyQIn_lex (F := F) (n := n) (C := fun w' => ∃ n, w' = w.drewN n) (md := .any) hB'.1 L.toArray.toList 0 (Array.replicate L.toArray.size false) a (by simp) (by simpa using hB'.2) (by simpa using h)
  simpa using this
end Go.Proofs.YtkpoecofblhggaaGreatDoor
