/-
  Plain: what an 'Append' makes of a log whose disk's power may fail.
-/
import Derived.Test.YtkpoecofblhggaaGreatDoorPc
namespace Go.Proofs.YtkpoecofblhggaaGreatDoor
open Go.RowKit Go.Maps

variable {log : ByteArray} {P : List ByteArray} {sure : Nat} {L : List Sy} {p : Sy} {f : Int} {b : ByteArray}
/-- the record is put behind, or the power has failed and it may be -/
def Put (log : ByteArray) (P : List ByteArray) (sure : Nat) (b : ByteArray) (f : Int) (r : Rs) : Prop :=
  (∃ L' p' f', r = (0, DU (fsL log L' p') f', xOf log (P ++ [b]) L' p') ∧ Live log (P ++ [b]) sure L' p' ∧ 0 ≤ f' ∧ (f = 0 → f' = 0)) ∨
  ∃ L' p' P' x', r = (7, DW (fsL log L' p'), x') ∧ Live log P' sure L' p' ∧ (P' = P ∨ P' = P ++ [b]) ∧ x'.log = log
theorem Put.mono {g : Int} {r : Rs} (h : f = 0 → g = 0) (hp : Put log P sure b g r) : Put log P sure b f r := by
  rcases hp with ⟨L', p', f', h1, h2, h3, h4⟩ | hp
  · exact .inl ⟨L', p', f', h1, h2, h3, fun e => h4 (h e)⟩
  · exact .inr hp
theorem fsL_more (h : Live log P sure L p) (b : ByteArray) : fput (fsL log L p) (fileL log p.1.fr) ⟨p.1.data ++ frame b, p.2⟩ = fsL log L (more p b) := fput_last h.ahead _ _
theorem fsL_synced (h : Live log P sure L p) : fput (fsL log L p) (fileL log p.1.fr) ⟨p.1.data, p.1.data.size⟩ = fsL log L (synced p) := fput_last h.ahead _ _
theorem toldX_log (e : Int) (x : Lg) : (toldX e x).log = x.log := by unfold toldX; split <;> rfl
theorem xOf_more : xOf log (P ++ [b]) L (more p b) = { xOf log P L p with size := (xOf log P L p).size + (frame b).size, last := (xOf log P L p).last + 1 } := by
  unfold xOf more
  simp only [List.length_append, List.length_cons, List.length_nil, ByteArray.size_append]
theorem Live.putS (h : Live log P sure L p) (hf : 0 ≤ f) (hb : b.size ≤ 65536) (hs : p.1.data.size + (frame b).size ≤ 1048576) : Put log P sure b f (Proofs.YtkpoecofblhggaaGreatDoor.putS b (0, DU (fsL log L p) f, xOf log P L p)) := by
  have ha := du_append (f := f) (y := frame b) h.get hs
  rw [fsL_more h b] at ha
  have e : (xOf log P L p).nm = fileL log p.1.fr := rfl
  unfold Proofs.YtkpoecofblhggaaGreatDoor.putS
  dsimp only
  rw [e]
  by_cases h1 : f = 1
  · rw [(ha.2 h1).1, (ha.2 h1).2, if_neg (by decide)]
    exact .inr ⟨L, Proofs.YtkpoecofblhggaaGreatDoor.more p b, P ++ [b], _, rfl, h.more hb, .inr rfl, toldX_log _ _⟩
  · rw [(ha.1 h1).1, (ha.1 h1).2, if_pos rfl, ← xOf_more]
    exact .inl ⟨L, Proofs.YtkpoecofblhggaaGreatDoor.more p b, fdec f, rfl, h.more hb, fdec_nn hf, fun e => by subst e; rfl⟩
theorem Live.append (h : Live log P sure L p) (hok : logOk log.data.toList = true) (hf : 0 ≤ f) (hb : b.size ≤ 65536) (hP : flen P + (frame b).size ≤ 1000000) (hn : P.length + 1 < 98) : Put log P sure b f (appendS (DU (fsL log L p) f) (xOf log P L p) b) := by
  have hsz := h.le
  have e : (xOf log P L p).nm = fileL log p.1.fr := rfl
  by_cases hz : 16384 ≤ p.1.data.size
  · have hne : p.1.bs ≠ [] := by
      intro e1
      have := h.size
      rw [e1] at this
      have h2 : flen [] = 0 := rfl
      omega
    have hsy := du_sync (f := f) h.get
    rw [fsL_synced h] at hsy
    by_cases h1 : f = 1
    · rw [turn_no hb h.off hz (by rw [e, (hsy.2 h1).1]; decide), e, (hsy.2 h1).1, (hsy.2 h1).2]
      exact .inr ⟨L, p, P, _, rfl, h, .inl rfl, toldX_log _ _⟩
    · have hs := h.synced h.count
      have hlen : P.length = (Proofs.YtkpoecofblhggaaGreatDoor.bods (sgs L)).length + p.1.bs.length := by rw [← h.bodsE, List.length_append]
      have hpos : 0 < p.1.bs.length := List.length_pos_iff.2 hne
      have hfr := h.fr
      have hfr2 := hs.fresh hne (by omega)
      have hai : Ahead (fsL log L (Proofs.YtkpoecofblhggaaGreatDoor.synced p)) (fileL log (P.length + 1)) := by
        rw [← fsL_eq]
        exact hfr2.ahead
      have hcr := du_create (f := fdec f) (name_file hok (P.length + 1)) (fget_ahead hai) (by
        have := h.len
        unfold fsL fsOf
        simp only [List.length_append, List.length_map, List.length_cons, List.length_nil]
        omega)
      have hro : rotateS (syncD (DU (fsL log L p) f) (xOf log P L p).nm) (xOf log P L p) = (createE (DU (fsL log L (Proofs.YtkpoecofblhggaaGreatDoor.synced p)) (fdec f)) (fileL log (P.length + 1)), createD (DU (fsL log L (Proofs.YtkpoecofblhggaaGreatDoor.synced p)) (fdec f)) (fileL log (P.length + 1)), if createE (DU (fsL log L (Proofs.YtkpoecofblhggaaGreatDoor.synced p)) (fdec f)) (fileL log (P.length + 1)) = 0 then xOf log P (L ++ [Proofs.YtkpoecofblhggaaGreatDoor.synced p]) (Proofs.YtkpoecofblhggaaGreatDoor.fresh (P.length + 1)) else xOf log P L p) := by
        rw [e, (hsy.1 h1).2]
        unfold rotateS
        rw [if_neg (show ¬ (xOf log P L p).last < (xOf log P L p).fr by show ¬ P.length < p.1.fr; omega)]
        have ex : xOf log P (L ++ [Proofs.YtkpoecofblhggaaGreatDoor.synced p]) (Proofs.YtkpoecofblhggaaGreatDoor.fresh (P.length + 1)) = { xOf log P L p with fr := P.length + 1, size := 0, old := L.map (·.1.fr) ++ [p.1.fr] } := by
          unfold xOf Proofs.YtkpoecofblhggaaGreatDoor.fresh Proofs.YtkpoecofblhggaaGreatDoor.synced
          simp
          rfl
        rw [ex]
        rfl
      by_cases h2 : fdec f = 1
      · rw [(hcr.2 h2).1, (hcr.2 h2).2, if_neg (by decide)] at hro
        rw [turn_no2 hb h.off hz (by rw [e]; exact (hsy.1 h1).1) hro (by decide)]
        exact .inr ⟨L, Proofs.YtkpoecofblhggaaGreatDoor.synced p, P, _, rfl, hs, .inl rfl, toldX_log _ _⟩
      · rw [(hcr.1 h2).1, (hcr.1 h2).2, if_pos rfl, fput_end hai] at hro
        rw [turn_yes hb h.off hz (by rw [e]; exact (hsy.1 h1).1) hro]
        have ef : fsL log L (Proofs.YtkpoecofblhggaaGreatDoor.synced p) ++ [(fileL log (P.length + 1), (⟨⟨#[]⟩, 0⟩ : Fl))] = fsL log (L ++ [Proofs.YtkpoecofblhggaaGreatDoor.synced p]) (Proofs.YtkpoecofblhggaaGreatDoor.fresh (P.length + 1)) := by
          rw [← fsL_eq]; rfl
        rw [ef]
        exact (hfr2.putS (fdec_nn (fdec_nn hf)) hb (by show 0 + _ ≤ _; omega)).mono (fun e => by subst e; rfl)
  · unfold appendS addS
    rw [if_neg (by omega), if_pos h.off, off_zero h.off, if_neg (show ¬ 16384 ≤ (xOf log P L p).size from hz)]
    exact h.putS hf hb (by omega)
/-- 'Sync' of a log without a fuse -/
theorem Live.sync (h : Live log P sure L p) : syncS (DU (fsL log L p) 0) (xOf log P L p) = (0, DU (fsL log L (Proofs.YtkpoecofblhggaaGreatDoor.synced p)) 0, xOf log P L (Proofs.YtkpoecofblhggaaGreatDoor.synced p)) := by
  have e : (xOf log P L p).nm = fileL log p.1.fr := rfl
  have hsy := (du_sync (f := 0) h.get).1 (by decide)
  rw [fsL_synced h] at hsy
  unfold syncS
  rw [if_pos h.off, off_zero h.off]
  unfold syncT
  rw [e, hsy.1, hsy.2]
  rfl
end Go.Proofs.YtkpoecofblhggaaGreatDoor
