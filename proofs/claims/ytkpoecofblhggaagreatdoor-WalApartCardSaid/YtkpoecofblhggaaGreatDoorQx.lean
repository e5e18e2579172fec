/-
  Plain: a log on a disk of its own, without a fuse, whose first record's number is n0.
-/
import Derived.Test.YtkpoecofblhggaaGreatDoorPc
import Derived.Test.YtkpoecofblhggaaGreatDoorOk
import Derived.Test.YtkpoecofblhggaaGreatDoorQs
import Derived.Test.YtkpoecofblhggaaGreatDoorNm
namespace Go.Proofs.YtkpoecofblhggaaGreatDoor
section
open Go.RowKit Go.Maps

structure Lv (log : ByteArray) (n0 : Nat) (P : List ByteArray) (L : List Sy) (p : Sy) : Prop where
  pos : 1 ≤ n0
  inc : Inc (L ++ [p])
  chain : Chain n0 (sgs L ++ [p.1])
  bods : bods (sgs L ++ [p.1]) = P
  all : ∀ q ∈ L ++ [p], q.1.data.data.toList = frames q.1.bs ∧ q.1.t = []
  old : ∀ q ∈ L, q.1.bs ≠ []
  small : ∀ b ∈ P, b.size ≤ 65536
variable {log : ByteArray} {n0 : Nat} {P : List ByteArray} {L : List Sy} {p : Sy} {b : ByteArray}
def xL (log : ByteArray) (n0 : Nat) (P : List ByteArray) (L : List Sy) (p : Sy) : Lg := ⟨log, p.1.fr, p.1.data.size, L.map (·.1.fr), n0 - 1 + P.length, false⟩
theorem Lv.ahead (h : Lv log n0 P L p) : Ahead (fsOf log L) (fileL log p.1.fr) := Inc.ahead (h.inc.2 p (by simp)).2 h.inc.init.2
theorem Lv.get (h : Lv log n0 P L p) : fget (fsL log L p) (fileL log p.1.fr) = some ⟨p.1.data, p.2⟩ := fget_end h.ahead _
theorem Lv.bodsE (h : Lv log n0 P L p) : Proofs.YtkpoecofblhggaaGreatDoor.bods (sgs L) ++ p.1.bs = P := by rw [← h.bods, bods_append, bods_one]
theorem Lv.fr (h : Lv log n0 P L p) : p.1.fr = n0 + (Proofs.YtkpoecofblhggaaGreatDoor.bods (sgs L)).length := ((chain_snoc n0 (sgs L) p.1).1 h.chain).2
theorem Lv.size (h : Lv log n0 P L p) : p.1.data.size = flen p.1.bs := size_of (h.all p (by simp)).1
theorem Lv.le (h : Lv log n0 P L p) : p.1.data.size ≤ flen P := by rw [h.size, ← h.bodsE, flen_append]; omega
theorem Lv.lenP (h : Lv log n0 P L p) : P.length = (Proofs.YtkpoecofblhggaaGreatDoor.bods (sgs L)).length + p.1.bs.length := by rw [← h.bodsE, List.length_append]
theorem Lv.off (h : Lv log n0 P L p) : offE (DU (fsL log L p) 0) (xL log n0 P L p) = 0 := du_off (x := xL log n0 P L p) h.get rfl rfl
theorem Lv.more (h : Lv log n0 P L p) (hb : b.size ≤ 65536) : Lv log n0 (P ++ [b]) L (more p b) := by
  have hi := h.inc.init
  have hp := h.inc.2 p (by simp)
  refine ⟨h.pos, hi.1.snoc hi.2 hp.1 hp.2, (chain_snoc _ _ _).2 ⟨((chain_snoc _ _ _).1 h.chain).1, ((chain_snoc _ _ _).1 h.chain).2⟩, ?_, fun q hq => ?_, h.old, fun x hx => ?_⟩
  · rw [bods_append, bods_one]
    show _ ++ (p.1.bs ++ [b]) = _
    rw [← List.append_assoc, h.bodsE]
  · rcases List.mem_append.1 hq with hq | hq
    · exact h.all q (List.mem_append_left _ hq)
    · rw [List.mem_singleton.1 hq]
      refine ⟨?_, rfl⟩
      show (p.1.data ++ frame b).data.toList = frames (p.1.bs ++ [b])
      rw [app_list, frames_append, frames_one, (h.all p (by simp)).1]
  · rcases List.mem_append.1 hx with hx | hx
    · exact h.small x hx
    · rw [List.mem_singleton.1 hx]; exact hb
theorem Lv.sync (h : Lv log n0 P L p) : Lv log n0 P L (synced p) := by
  have hi := h.inc.init
  have hp := h.inc.2 p (by simp)
  refine ⟨h.pos, hi.1.snoc hi.2 hp.1 hp.2, h.chain, h.bods, fun q hq => ?_, h.old, h.small⟩
  rcases List.mem_append.1 hq with hq | hq
  · exact h.all q (List.mem_append_left _ hq)
  · rw [List.mem_singleton.1 hq]; exact h.all p (by simp)
theorem Lv.fresh (h : Lv log n0 P L p) (hne : p.1.bs ≠ []) (hl : n0 + P.length < 100) : Lv log n0 P (L ++ [p]) (Proofs.YtkpoecofblhggaaGreatDoor.fresh (n0 + P.length)) := by
  have hfr := h.fr
  have hlen := h.lenP
  have hpos : 0 < p.1.bs.length := List.length_pos_iff.2 hne
  have h1 := h.pos
  have e1 : Proofs.YtkpoecofblhggaaGreatDoor.bods (sgs (L ++ [p])) = P := by rw [sgs_append, sgs_one, h.bods]
  refine ⟨h.pos, h.inc.snoc (fun q hq => ?_) (by show 1 ≤ n0 + P.length; omega) hl, (chain_snoc _ _ _).2 ⟨by rw [sgs_append, sgs_one]; exact h.chain, by rw [e1]; rfl⟩, ?_, fun q hq => ?_, fun q hq => ?_, h.small⟩
  · show q.1.fr < n0 + P.length
    rcases List.mem_append.1 hq with hq | hq
    · have := h.inc.init.2 q hq; omega
    · rw [List.mem_singleton.1 hq]; omega
  · rw [bods_append, e1, bods_one]; exact List.append_nil _
  · rcases List.mem_append.1 hq with hq | hq
    · exact h.all q hq
    · rw [List.mem_singleton.1 hq]; exact ⟨rfl, rfl⟩
  · rcases List.mem_append.1 hq with hq | hq
    · exact h.old q hq
    · rw [List.mem_singleton.1 hq]; exact hne
theorem Lv.more_eq (h : Lv log n0 P L p) (b : ByteArray) : fput (fsL log L p) (fileL log p.1.fr) ⟨p.1.data ++ frame b, p.2⟩ = fsL log L (Proofs.YtkpoecofblhggaaGreatDoor.more p b) := fput_last h.ahead _ _
theorem Lv.sync_eq (h : Lv log n0 P L p) : fput (fsL log L p) (fileL log p.1.fr) ⟨p.1.data, p.1.data.size⟩ = fsL log L (synced p) := fput_last h.ahead _ _
theorem xL_more : xL log n0 (P ++ [b]) L (more p b) = { xL log n0 P L p with size := (xL log n0 P L p).size + (frame b).size, last := (xL log n0 P L p).last + 1 } := by
  unfold xL more
  simp only [List.length_append, List.length_cons, List.length_nil, ByteArray.size_append]
  rfl
theorem Lv.putS (h : Lv log n0 P L p) (hb : b.size ≤ 65536) (hs : p.1.data.size + (frame b).size ≤ 1048576) : Proofs.YtkpoecofblhggaaGreatDoor.putS b (0, DU (fsL log L p) 0, xL log n0 P L p) = (0, DU (fsL log L (Proofs.YtkpoecofblhggaaGreatDoor.more p b)) 0, xL log n0 (P ++ [b]) L (Proofs.YtkpoecofblhggaaGreatDoor.more p b)) := by
  have ha := (du_append (f := 0) (y := frame b) h.get hs).1 (by decide)
  rw [h.more_eq b] at ha
  have e : (xL log n0 P L p).nm = fileL log p.1.fr := rfl
  unfold Proofs.YtkpoecofblhggaaGreatDoor.putS
  dsimp only
  rw [e, ha.1, ha.2, if_pos rfl, ← xL_more]
  rfl
/-- synced, and gone on in a new file -/
theorem Lv.turn (h : Lv log n0 P L p) (hok : logOk log.data.toList = true) (hne : p.1.bs ≠ []) (hn : n0 + P.length < 100) : syncE (DU (fsL log L p) 0) (xL log n0 P L p).nm = 0 ∧ rotateS (syncD (DU (fsL log L p) 0) (xL log n0 P L p).nm) (xL log n0 P L p) = (0, DU (fsL log (L ++ [synced p]) (Proofs.YtkpoecofblhggaaGreatDoor.fresh (n0 + P.length))) 0, xL log n0 P (L ++ [synced p]) (Proofs.YtkpoecofblhggaaGreatDoor.fresh (n0 + P.length))) ∧ Lv log n0 P (L ++ [synced p]) (Proofs.YtkpoecofblhggaaGreatDoor.fresh (n0 + P.length)) := by
  have e : (xL log n0 P L p).nm = fileL log p.1.fr := rfl
  have hsy := (du_sync (f := 0) h.get).1 (by decide)
  rw [h.sync_eq] at hsy
  have hpos : 0 < p.1.bs.length := List.length_pos_iff.2 hne
  have hlen := h.lenP
  have hfr := h.fr
  have h1 := h.pos
  have hf2 := h.sync.fresh hne hn
  have hai : Ahead (fsL log L (synced p)) (fileL log (n0 + P.length)) := by rw [← fsL_eq]; exact hf2.ahead
  have hlenL := inc_len h.inc
  rw [List.length_append] at hlenL
  have hcr := (du_create (f := 0) (name_file hok (n0 + P.length)) (fget_ahead hai) (by rw [fsL_len]; simp at hlenL; omega)).1 (by decide)
  rw [fput_end hai] at hcr
  refine ⟨by rw [e]; exact hsy.1, ?_, hf2⟩
  rw [e, hsy.2]
  unfold rotateS
  rw [if_neg (show ¬ (xL log n0 P L p).last < (xL log n0 P L p).fr by show ¬ n0 - 1 + P.length < p.1.fr; omega)]
  have el : (xL log n0 P L p).last + 1 = n0 + P.length := by show n0 - 1 + P.length + 1 = _; omega
  rw [el]
  have ec1 : createE (DU (fsL log L (synced p)) (fdec 0)) (fileL (xL log n0 P L p).log (n0 + P.length)) = 0 := hcr.1
  rw [ec1, if_pos rfl]
  refine Prod.ext rfl (Prod.ext (hcr.2.trans ?_) ?_)
  · rw [← fsL_eq, ← fsL_eq, fsOf_append log (L ++ [synced p])]
    rfl
  · unfold xL Proofs.YtkpoecofblhggaaGreatDoor.fresh
    simp
    exact ⟨rfl, rfl⟩
theorem Lv.append (h : Lv log n0 P L p) (hok : logOk log.data.toList = true) (hb : b.size ≤ 65536) (hP : flen P + (frame b).size ≤ 1000000) (hn : n0 + P.length < 100) : ∃ L' p', appendS (DU (fsL log L p) 0) (xL log n0 P L p) b = (0, DU (fsL log L' p') 0, xL log n0 (P ++ [b]) L' p') ∧ Lv log n0 (P ++ [b]) L' p' := by
  have hsz := h.le
  by_cases hz : 16384 ≤ p.1.data.size
  · have hne : p.1.bs ≠ [] := by
      intro e1
      have := h.size
      rw [e1] at this
      have h2 : flen [] = 0 := rfl
      omega
    obtain ⟨h1, h2, h3⟩ := h.turn hok hne hn
    rw [turn_yes hb h.off hz h1 h2, h3.putS hb (by show 0 + _ ≤ _; omega)]
    exact ⟨_, _, rfl, h3.more hb⟩
  · unfold appendS addS
    rw [if_neg (by omega), if_pos h.off, off_zero h.off, if_neg (show ¬ 16384 ≤ (xL log n0 P L p).size from hz), h.putS hb (by omega)]
    exact ⟨_, _, rfl, h.more hb⟩
end

section
open Go.RowKit Go.Maps

variable {log : ByteArray} {n0 : Nat} {P : List ByteArray} {L r : List Sy} {p q : Sy}
/-- the first file is no more -/
theorem Lv.tail (h : Lv log n0 P (q :: r) p) : Lv log (n0 + q.1.bs.length) (P.drop q.1.bs.length) r p ∧ P.length = q.1.bs.length + (P.drop q.1.bs.length).length ∧ q.1.fr = n0 ∧ (r.map (·.1.fr)).headD p.1.fr = n0 + q.1.bs.length ∧ fdel (fsL log (q :: r) p) (fileL log q.1.fr) = fsL log r p ∧ fget (fsL log (q :: r) p) (fileL log q.1.fr) = some ⟨q.1.data, q.2⟩ := by
  have hb : q.1.bs ++ Proofs.YtkpoecofblhggaaGreatDoor.bods (sgs r ++ [p.1]) = P := by rw [← h.bods]; simp [sgs, Proofs.YtkpoecofblhggaaGreatDoor.bods]
  have hi := h.inc
  have hpw := List.pairwise_cons.1 (show ((q :: (r ++ [p])) : List Sy).Pairwise (fun a b => a.1.fr < b.1.fr) from hi.1)
  have hch : q.1.fr = n0 ∧ Chain (n0 + q.1.bs.length) (sgs r ++ [p.1]) := h.chain
  have hd : P.drop q.1.bs.length = Proofs.YtkpoecofblhggaaGreatDoor.bods (sgs r ++ [p.1]) := by rw [← hb, List.drop_left]
  refine ⟨⟨by have := h.pos; omega, ⟨hpw.2, fun a ha => hi.2 a (List.mem_cons_of_mem _ ha)⟩, hch.2, hd.symm, fun a ha => h.all a (List.mem_cons_of_mem _ ha), fun a ha => h.old a (List.mem_cons_of_mem _ ha), fun b hb2 => h.small b (List.mem_of_mem_drop hb2)⟩, ?_, hch.1, ?_, ?_, ?_⟩
  · rw [hd, ← hb, List.length_append]
  · cases r with
    | nil => exact hch.2.1
    | cons a r => exact hch.2.1
  · unfold fsL
    show fdel (ent log q :: (fsOf log r ++ [ent log p])) _ = _
    unfold fdel
    rw [List.filter_cons_of_neg (by simp [ent]), List.filter_eq_self]
    intro y hy
    rw [← show fsOf log (r ++ [p]) = fsOf log r ++ [ent log p] from fsL_eq log r p] at hy
    obtain ⟨a, ha, rfl⟩ := List.mem_map.1 hy
    have h1 := hpw.1 a ha
    have h2 := (hi.2 a (List.mem_cons_of_mem _ ha)).2
    have hne : fileL log a.1.fr ≠ fileL log q.1.fr := fun e => by have := fileL_inj (by omega) (by omega) e; omega
    simpa [ent] using hne
  · rw [← fsL_eq]
    exact fget_fsOf hi (by simp)
theorem Lv.go (m : Int) : ∀ (L : List Sy) {n0 : Nat} {P : List ByteArray}, Lv log n0 P L p → ∃ n1 P1 L1, goS m L.length (DU (fsL log L p) 0) (xL log n0 P L p) = (0, DU (fsL log L1 p) 0, xL log n1 P1 L1 p) ∧ Lv log n1 P1 L1 p ∧ n1 + P1.length = n0 + P.length ∧ P1 <:+ P
  | [], n0, P, h => ⟨n0, P, [], rfl, h, rfl, List.suffix_refl _⟩
  | q :: r, n0, P, h => by
    obtain ⟨h1, h2, h3, h4, h5, h6⟩ := h.tail
    have ho : (xL log n0 P (q :: r) p).old = q.1.fr :: r.map (·.1.fr) := rfl
    have hl : (q :: r).length = (xL log n0 P (q :: r) p).old.length := by rw [ho]; simp
    have hh : ((r.map (·.1.fr)).headD (xL log n0 P (q :: r) p).fr) = n0 + q.1.bs.length := h4
    rw [hl]
    by_cases hm : m < (((r.map (·.1.fr)).headD (xL log n0 P (q :: r) p).fr : Nat) : Int) - 1
    · rw [goS_stop ho hm]
      exact ⟨n0, P, q :: r, rfl, h, rfl, List.suffix_refl _⟩
    · have hE : removeE (DU (fsL log (q :: r) p) 0) (fileL (xL log n0 P (q :: r) p).log q.1.fr) = 0 := by
        show removeE (DU (fsL log (q :: r) p) 0) (fileL log q.1.fr) = 0
        simp [removeE, DU, h6, chgE]
      have hD : removeD (DU (fsL log (q :: r) p) 0) (fileL (xL log n0 P (q :: r) p).log q.1.fr) = DU (fsL log r p) 0 := by
        show removeD (DU (fsL log (q :: r) p) 0) (fileL log q.1.fr) = _
        have e : removeD (DU (fsL log (q :: r) p) 0) (fileL log q.1.fr) = chg (DU (fsL log (q :: r) p) 0) (fun F => fdel F (fileL log q.1.fr)) false := by simp [removeD, DU, h6]
        rw [e, du_chg _ _ (by decide), h5]
        rfl
      rw [goS_next ho hm hE, hD]
      obtain ⟨n1, P1, L1, e1, e2, e3, e4⟩ := Lv.go m r h1
      have hx : ({ xL log n0 P (q :: r) p with old := r.map (·.1.fr) } : Lg) = xL log (n0 + q.1.bs.length) (P.drop q.1.bs.length) r p := by
        unfold xL
        have := h.pos
        simp only [Lg.mk.injEq, true_and, and_true]
        omega
      rw [hx, List.length_map]
      exact ⟨n1, P1, L1, e1, e2, by omega, e4.trans (List.drop_suffix _ _)⟩
/-- 'Drop' -/
theorem Lv.drop (h : Lv log n0 P L p) (hok : logOk log.data.toList = true) (hn : n0 + P.length < 100) (m : Int) : ∃ n1 P1 L1 p1, dropS (DU (fsL log L p) 0) (xL log n0 P L p) m = (0, DU (fsL log L1 p1) 0, xL log n1 P1 L1 p1) ∧ Lv log n1 P1 L1 p1 ∧ n1 + P1.length = n0 + P.length ∧ P1 <:+ P := by
  by_cases hc : ((xL log n0 P L p).last : Int) ≤ m ∧ (xL log n0 P L p).fr ≤ (xL log n0 P L p).last
  · have hfr := h.fr
    have hlen := h.lenP
    have hpos := h.pos
    have hne : p.1.bs ≠ [] := fun e => by
      have h2 : p.1.fr ≤ n0 - 1 + P.length := hc.2
      rw [e] at hlen
      simp at hlen
      omega
    obtain ⟨h1, h2, h3⟩ := h.turn hok hne hn
    rw [drop_all h.off hc.1 hc.2 h1 h2]
    obtain ⟨n1, P1, L1, e1, e2, e3, e4⟩ := Lv.go m (L ++ [synced p]) h3
    have hl : (xL log n0 P (L ++ [synced p]) (Proofs.YtkpoecofblhggaaGreatDoor.fresh (n0 + P.length))).old.length = (L ++ [synced p]).length := by show (List.map _ _).length = _; rw [List.length_map]
    rw [hl, e1]
    exact ⟨n1, P1, L1, _, rfl, e2, e3, e4⟩
  · rw [drop_go h.off hc]
    obtain ⟨n1, P1, L1, e1, e2, e3, e4⟩ := Lv.go m L h
    have hl : (xL log n0 P L p).old.length = L.length := by show (List.map _ _).length = _; rw [List.length_map]
    rw [hl, e1]
    exact ⟨n1, P1, L1, _, rfl, e2, e3, e4⟩
theorem Lv.syncS (h : Lv log n0 P L p) : Proofs.YtkpoecofblhggaaGreatDoor.syncS (DU (fsL log L p) 0) (xL log n0 P L p) = (0, DU (fsL log L (synced p)) 0, xL log n0 P L (synced p)) := by
  have e : (xL log n0 P L p).nm = fileL log p.1.fr := rfl
  have hsy := (du_sync (f := 0) h.get).1 (by decide)
  rw [h.sync_eq] at hsy
  unfold Proofs.YtkpoecofblhggaaGreatDoor.syncS
  rw [if_pos h.off, off_zero h.off]
  unfold syncT
  rw [e, hsy.1, hsy.2]
  rfl
end

section
open Go.RowKit Go.Maps

theorem nums_mem {log : ByteArray} {l : List Nm} {k : Nat} : k ∈ nums log l ↔ (1 ≤ k ∧ k < 100) ∧ fileL log k ∈ l := by
  unfold nums
  rw [List.mem_filterMap]
  constructor
  · rintro ⟨nm, hm, hn⟩
    obtain ⟨h1, h2, h3⟩ := numOf_some hn
    exact ⟨⟨h2, h3⟩, h1 ▸ hm⟩
  · rintro ⟨⟨h1, h2⟩, hm⟩
    exact ⟨_, hm, numOf_file h1 h2⟩
theorem nums_rise {log : ByteArray} : ∀ {l : List Nm}, l.Pairwise (fun x y => bytesBefore x y = true) → (nums log l).Pairwise (fun x y => x < y)
  | [], _ => List.Pairwise.nil
  | nm :: r, h => by
    have h' := List.pairwise_cons.1 h
    have ih := nums_rise (log := log) h'.2
    cases hn : numOf log nm with
    | none =>
      have e : nums log (nm :: r) = nums log r := by unfold nums; rw [List.filterMap_cons, hn]
      rw [e]; exact ih
    | some k =>
      have e : nums log (nm :: r) = k :: nums log r := by unfold nums; rw [List.filterMap_cons, hn]
      rw [e]
      refine List.pairwise_cons.2 ⟨fun j hj => ?_, ih⟩
      obtain ⟨h1, h2, h3⟩ := numOf_some hn
      obtain ⟨h4, h5⟩ := nums_mem.1 hj
      have hb := h'.1 _ h5
      rw [h1] at hb
      rcases Nat.lt_trichotomy k j with h6 | h6 | h6
      · exact h6
      · subst h6; exact absurd rfl (before_ne hb)
      · have := before_asymm hb
        rw [file_before h6 h3] at this
        cases this
theorem names_up {F : Fs} (h : F.Pairwise (fun x y => bytesBefore x.1 y.1 = true)) : (names F).Pairwise (fun x y => bytesBefore x y = true) := by
  unfold names; rw [List.pairwise_map]; exact h
theorem mem_names {F : Fs} {k : Nm} : k ∈ names F ↔ fget F k ≠ none := by
  unfold names
  rw [List.mem_map]
  constructor
  · rintro ⟨y, hy, rfl⟩ e
    exact fget_none.1 e y.2 hy
  · intro h
    cases hg : fget F k with
    | none => exact absurd hg h
    | some f => exact ⟨_, get_mem hg, rfl⟩
/-- alike disks have alike numbers -/
theorem Sim.nums {log : ByteArray} {d c : Dk} (h : Sim log d c) : Proofs.YtkpoecofblhggaaGreatDoor.nums log (names d.fs) = Proofs.YtkpoecofblhggaaGreatDoor.nums log (names c.fs) := by
  have h1 := nums_rise (log := log) (names_up h.fd.up)
  have h2 := nums_rise (log := log) (names_up h.fc.up)
  have n1 : (Proofs.YtkpoecofblhggaaGreatDoor.nums log (names d.fs)).Nodup := h1.imp (fun hab => Nat.ne_of_lt hab)
  have n2 : (Proofs.YtkpoecofblhggaaGreatDoor.nums log (names c.fs)).Nodup := h2.imp (fun hab => Nat.ne_of_lt hab)
  refine List.Perm.eq_of_pairwise (le := fun x y => x < y) (fun a b _ _ h3 h4 => by omega) h1 h2 ((List.perm_ext_iff_of_nodup n1 n2).2 fun k => ?_)
  rw [nums_mem, nums_mem, mem_names, mem_names, show fileL log k = preL log ++ num12 k from rfl, h.files]
end

section
open Go.RowKit Go.Maps

theorem flen_mem {q : Sy} : ∀ {M : List Sy}, q ∈ M → flen q.1.bs ≤ flen (bods (sgs M))
  | x :: r, hm => by
    have e : bods (sgs (x :: r)) = x.1.bs ++ bods (sgs r) := by simp [sgs, bods]
    rw [e, flen_append]
    rcases List.mem_cons.1 hm with hm | hm
    · subst hm; omega
    · have := flen_mem hm; omega
theorem Sim.reopen {w : World} {db m : Nat} {log : ByteArray} {n0 : Nat} {P : List ByteArray} {L : List Sy} {p : Sy} {d : Dk} (hs : Sim log d (DU (fsL log L p) 0)) (hv : Lv log n0 P L p) (hd : DAt w db m d) (hl : log.size ≤ 1000) (hok : logOk log.data.toList = true) (hn : n0 + P.length ≤ 99) (hP : flen P ≤ 1000000)
    (hO : ∀ nm ∈ names d.fs, numOf log nm = none → Other log nm) :
    Calls Tryz.prog 9 #[.pointer (some ⟨db, 0, none⟩), .string log] w (OpenR w db m (syncD d (fileL log p.1.fr)) (xL log n0 P L p) (numb n0 P)) := by
  have hb : bods (sgs L ++ [p.1]) = P := hv.bods
  have hsg : sgs L ++ [p.1] = sgs (L ++ [p]) := by rw [sgs_append, sgs_one]
  have hlenL := inc_len hv.inc
  rw [List.length_append] at hlenL
  have hfs : (DU (fsL log L p) 0).fs = fsOf log (L ++ [p]) := (fsL_eq log L p).symm
  have hx : scanX log n0 (sgs L ++ [p.1]) p.1 = xL log n0 P L p := by
    unfold scanX xL
    rw [froms_last, hb]
    have := hv.pos
    simp only [Lg.mk.injEq, true_and, and_true]
    omega
  have hsc : scanS d log n0 (sgs L ++ [p.1]) p.1 = (0, syncD d (fileL log p.1.fr), xL log n0 P L p) := by
    unfold scanS; rw [if_pos hv.size.symm, hx]
  have ho := wopen_scan w db m d log n0 (sgs L ++ [p.1]) p.1 hl hok hd hs.fd hs.ed.1 hs.ed.2.1 hO
    (by rw [hs.nums, hfs, nums_sorted hv.inc, hsg]; rfl) (by simp) hv.chain
    (fun g hg => by
      rw [hsg] at hg
      obtain ⟨q, hq, rfl⟩ := List.mem_map.1 hg
      obtain ⟨h1, h2⟩ := hv.all q hq
      have h5 := hv.inc.2 q hq
      have hz : q.1.data.size ≤ flen P := by
        rw [size_of h1, ← hb, hsg]; exact flen_mem hq
      have hT : Text q.1.data q.1.bs q.1.t := ⟨by rw [h2, List.append_nil]; exact h1, fun b hb2 => hv.small b (by
        rw [← hb, hsg]
        unfold bods
        rw [List.mem_flatMap]
        exact ⟨q.1, List.mem_map.2 ⟨q, hq, rfl⟩, hb2⟩)⟩
      refine ⟨hT, torn_ends hT (by rw [h2]; exact torn_nil) (by omega), ⟨q.2, ?_⟩, h5.1, h5.2, by omega⟩
      have hg2 := fget_fsOf (log := log) hv.inc hq
      rw [← hfs] at hg2
      exact (hs.files (num12 q.1.fr)).trans hg2)
    (by unfold sgs; simp at hlenL ⊢; omega) (by rw [hb]; omega) (by rw [hsc])
  rw [hsc, hb] at ho
  exact ho
end
end Go.Proofs.YtkpoecofblhggaaGreatDoor
