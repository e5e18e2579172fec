/-
  Plain: the power is lost; what an opening leaves.
-/
import Derived.Test.YtkpoecofblhggaaGreatDoorPd
namespace Go.Proofs.YtkpoecofblhggaaGreatDoor
open Go.RowKit Go.Maps

/-- the files of a log, all synced; its whole records are A -/
structure St (log : ByteArray) (A : List ByteArray) (L : List Sy) (p : Sy) : Prop where
  inc : Inc (L ++ [p])
  chain : Chain 1 (sgs L ++ [p.1])
  bods : bods (sgs L ++ [p.1]) = A
  ok : ∀ q ∈ L ++ [p], Text q.1.data q.1.bs q.1.t ∧ Torn q.1.t ∧ q.2 = q.1.data.size ∧ q.1.data.size ≤ 1048576
variable {log : ByteArray} {A P : List ByteArray} {sure : Nat} {L : List Sy} {p : Sy} {f : Int} {b : ByteArray}
theorem crash_old : ∀ (F : Fs) (ks : List Int) (G : Fs), (∀ x ∈ F, x.2.data.size = x.2.syn) → crashF ks (F ++ G) = F ++ crashF ks G
  | [], _, _, _ => rfl
  | x :: r, ks, G, h => by
    rw [List.cons_append, crashF, if_pos (h x (List.mem_cons_self ..)), crash_old r ks G fun y hy => h y (List.mem_cons_of_mem _ hy)]
    rfl
theorem crash_one (k : Nm) (y : ByteArray) (s : Nat) (hs : s ≤ y.size) (ks : List Int) : ∃ c, s ≤ c ∧ c ≤ y.size ∧ crashF ks [(k, ⟨y, s⟩)] = [(k, ⟨y.extract 0 c, c⟩)] := by
  by_cases h : y.size = s
  · refine ⟨s, Nat.le_refl _, hs, ?_⟩
    have e : y.extract 0 s = y := ba_ext (by rw [ext_list, ← h, ← len_list y, List.drop_zero, Nat.sub_zero, List.take_length])
    rw [e]
    simp [crashF, h]
  · refine ⟨stays ks (y.size - s) + s, by omega, ?_, ?_⟩
    · unfold stays; omega
    · simp [crashF, h]
theorem St.synced (h : St log A L p) : ∀ x ∈ fsL log L p, x.2.data.size = x.2.syn := fun x hx => by
  rw [← fsL_eq] at hx
  obtain ⟨q, hq, rfl⟩ := List.mem_map.1 hx
  exact (h.ok q hq).2.2.1.symm
theorem St.crash (h : St log A L p) (ks : List Int) : crashF ks (fsL log L p) = fsL log L p := by
  have := crash_old (fsL log L p) ks [] h.synced
  rwa [List.append_nil, show crashF ks [] = [] from by cases ks <;> rfl, List.append_nil] at this
theorem Live.crash (h : Live log P sure L p) (ks : List Int) (hP : flen P ≤ 1000000) : ∃ A q, crashF ks (fsL log L p) = fsL log L q ∧ St log A L q ∧ A <+: P ∧ sure ≤ A.length := by
  obtain ⟨c, c1, c2, c3⟩ := crash_one (fileL log p.1.fr) p.1.data p.2 h.syn ks
  have hpm : p ∈ L ++ [p] := by simp
  have hall := h.all p hpm
  have hsm : ∀ q ∈ L ++ [p], ∀ b ∈ q.1.bs, b.size ≤ 65536 := fun q hq b hb => h.small b (by
    rw [← h.bods]
    unfold Proofs.YtkpoecofblhggaaGreatDoor.bods
    rw [List.mem_flatMap]
    exact ⟨q.1, by
      have : q.1 ∈ sgs (L ++ [p]) := List.mem_map.2 ⟨q, hq, rfl⟩
      rwa [sgs_append, sgs_one] at this, hb⟩)
  obtain ⟨j, t, j1, j2, j3, j4⟩ := cut_text p.1.bs c (hsm p hpm) (by rw [← h.size]; exact c2)
  obtain ⟨k, k1, k2, k3⟩ := h.sure
  have hkj := j4 k k1 (by omega)
  have hi := h.inc.init
  have hp := h.inc.2 p hpm
  have hch := (chain_snoc 1 (sgs L) p.1).1 h.chain
  have hle := h.le
  refine ⟨Proofs.YtkpoecofblhggaaGreatDoor.bods (sgs L) ++ p.1.bs.take j, (⟨p.1.fr, p.1.bs.take j, t, p.1.data.extract 0 c⟩, c), ?_, ⟨hi.1.snoc hi.2 hp.1 hp.2, (chain_snoc _ _ _).2 ⟨hch.1, hch.2⟩, by rw [bods_append, bods_one], fun q hq => ?_⟩, ?_, ?_⟩
  · unfold fsL
    rw [crash_old _ _ _ (fun x hx => by
      obtain ⟨q, hq, rfl⟩ := List.mem_map.1 hx
      exact (h.old q hq).2.symm)]
    congr 1
  · rcases List.mem_append.1 hq with hq | hq
    · have hqm : q ∈ L ++ [p] := List.mem_append_left _ hq
      have hlq : q.1.data.size ≤ flen P := by
        rw [size_of (h.all q hqm), ← h.bodsE, flen_append]
        have : ∀ (M : List Sy), q ∈ M → flen q.1.bs ≤ flen (Proofs.YtkpoecofblhggaaGreatDoor.bods (sgs M)) := by
          intro M
          induction M with
          | nil => intro hm; cases hm
          | cons x r ih =>
            intro hm
            have e : Proofs.YtkpoecofblhggaaGreatDoor.bods (sgs (x :: r)) = x.1.bs ++ Proofs.YtkpoecofblhggaaGreatDoor.bods (sgs r) := by simp [sgs, Proofs.YtkpoecofblhggaaGreatDoor.bods]
            rw [e, flen_append]
            rcases List.mem_cons.1 hm with hm | hm
            · subst hm; omega
            · have := ih hm; omega
        have := this L hq
        omega
      exact ⟨⟨by rw [h.tl q hqm, List.append_nil]; exact h.all q hqm, hsm q hqm⟩, by rw [h.tl q hqm]; exact torn_nil, (h.old q hq).2, by omega⟩
    · rw [List.mem_singleton.1 hq]
      have hsz : (p.1.data.extract 0 c).size = c := by rw [ByteArray.size_extract]; omega
      refine ⟨⟨?_, fun b hb => hsm p hpm b (List.mem_of_mem_take hb)⟩, j3, hsz.symm, by show (p.1.data.extract 0 c).size ≤ _; omega⟩
      show (p.1.data.extract 0 c).data.toList = frames (p.1.bs.take j) ++ t
      rw [ext_list, hall, List.drop_zero, Nat.sub_zero, j2]
  · rw [← h.bodsE]
    exact List.prefix_append_right_inj _ |>.2 (List.take_prefix _ _)
  · rw [List.length_append, List.length_take]; omega
theorem St.ahead (h : St log A L p) : Ahead (fsOf log L) (fileL log p.1.fr) := Inc.ahead (h.inc.2 p (by simp)).2 h.inc.init.2
theorem St.get (h : St log A L p) : fget (fsL log L p) (fileL log p.1.fr) = some ⟨p.1.data, p.2⟩ := fget_end h.ahead _
theorem St.bodsE (h : St log A L p) : Proofs.YtkpoecofblhggaaGreatDoor.bods (sgs L) ++ p.1.bs = A := by rw [← h.bods, bods_append, bods_one]
theorem St.fr (h : St log A L p) : p.1.fr = 1 + (Proofs.YtkpoecofblhggaaGreatDoor.bods (sgs L)).length := ((chain_snoc 1 (sgs L) p.1).1 h.chain).2
theorem St.lenA (h : St log A L p) : A.length = (Proofs.YtkpoecofblhggaaGreatDoor.bods (sgs L)).length + p.1.bs.length := by rw [← h.bodsE, List.length_append]
theorem inc_len {M : List Sy} (h : Inc M) : M.length ≤ 99 := by
  have : ∀ (M : List Sy) (n : Nat), M.Pairwise (fun a b => a.1.fr < b.1.fr) → (∀ q ∈ M, n ≤ q.1.fr ∧ q.1.fr < 100) → M.length + n ≤ 100 ∨ M = [] := by
    intro M
    induction M with
    | nil => intro n _ _; exact .inr rfl
    | cons q r ih =>
      intro n hp hq
      have hp' := List.pairwise_cons.1 hp
      have h2 := hq q (List.mem_cons_self ..)
      rcases ih (n + 1) hp'.2 (fun x hx => ⟨by have := hp'.1 x hx; omega, (hq x (List.mem_cons_of_mem _ hx)).2⟩) with h3 | h3
      · left; rw [List.length_cons]; omega
      · subst h3; left; simp; omega
  rcases this M 1 h.1 h.2 with h2 | h2
  · omega
  · rw [h2]; simp
theorem fsL_len (log : ByteArray) (L : List Sy) (p : Sy) : (fsL log L p).length = L.length + 1 := by unfold fsL fsOf; simp
theorem fsL_same (h : St log A L p) : fput (fsL log L p) (fileL log p.1.fr) ⟨p.1.data, p.1.data.size⟩ = fsL log L p := by
  have := fput_last h.ahead ⟨p.1.data, p.2⟩ ⟨p.1.data, p.1.data.size⟩
  have e : fsL log L p = fsOf log L ++ [(fileL log p.1.fr, (⟨p.1.data, p.2⟩ : Fl))] := rfl
  rw [e, this, (h.ok p (by simp)).2.2.1]
/-- a new file behind one that may be torn -/
theorem St.fresh (h : St log A L p) (hne : p.1.bs ≠ []) (hl : A.length + 1 < 100) : St log A (L ++ [p]) (Proofs.YtkpoecofblhggaaGreatDoor.fresh (A.length + 1)) := by
  have hfr := h.fr
  have hlen := h.lenA
  have hpos : 0 < p.1.bs.length := List.length_pos_iff.2 hne
  have e1 : Proofs.YtkpoecofblhggaaGreatDoor.bods (sgs (L ++ [p])) = A := by rw [sgs_append, sgs_one, h.bods]
  refine ⟨h.inc.snoc (fun q hq => ?_) (by show 1 ≤ A.length + 1; omega) hl, (chain_snoc _ _ _).2 ⟨by rw [sgs_append, sgs_one]; exact h.chain, by rw [e1]; show A.length + 1 = _; omega⟩, ?_, fun q hq => ?_⟩
  · show q.1.fr < A.length + 1
    rcases List.mem_append.1 hq with hq | hq
    · have := h.inc.init.2 q hq
      omega
    · rw [List.mem_singleton.1 hq]
      omega
  · rw [bods_append, e1, bods_one]; exact List.append_nil _
  · rcases List.mem_append.1 hq with hq | hq
    · exact h.ok q hq
    · rw [List.mem_singleton.1 hq]; exact ⟨⟨rfl, fun b hb => by cases hb⟩, torn_nil, rfl, by show 0 ≤ _; omega⟩
/-- the last file empty -/
theorem St.empty (h : St log A L p) (he : p.1.bs = []) : St log A L (Proofs.YtkpoecofblhggaaGreatDoor.fresh p.1.fr) := by
  have hi := h.inc.init
  have hp := h.inc.2 p (by simp)
  have hch := (chain_snoc 1 (sgs L) p.1).1 h.chain
  refine ⟨hi.1.snoc hi.2 hp.1 hp.2, (chain_snoc _ _ _).2 ⟨hch.1, hch.2⟩, ?_, fun q hq => ?_⟩
  · rw [bods_append, bods_one, ← h.bodsE, he]; rfl
  · rcases List.mem_append.1 hq with hq | hq
    · exact h.ok q (List.mem_append_left _ hq)
    · rw [List.mem_singleton.1 hq]; exact ⟨⟨rfl, fun b hb => by cases hb⟩, torn_nil, rfl, by show 0 ≤ _; omega⟩
theorem froms_last (L : List Sy) (p : Sy) : (froms (sgs L ++ [p.1])).dropLast = L.map (·.1.fr) := by
  unfold froms sgs
  rw [List.map_append, List.map_cons, List.map_nil, List.dropLast_concat, List.map_map]
  rfl
/-- what 'scan' makes of such files -/
theorem St.scan (h : St log A L p) (hok : logOk log.data.toList = true) (hn : A.length + 1 < 99) : ∃ L2 p2, scanS (DU (fsL log L p) 0) log 1 (sgs L ++ [p.1]) p.1 = (0, DU (fsL log L2 p2) 0, xOf log A L2 p2) ∧ St log A L2 p2 ∧ p2.1.t = [] := by
  have hsy := (du_sync (f := 0) h.get).1 (by decide)
  rw [fsL_same h] at hsy
  have hd : syncD (DU (fsL log L p) 0) (fileL log p.1.fr) = DU (fsL log L p) 0 := hsy.2
  have hx : scanX log 1 (sgs L ++ [p.1]) p.1 = xOf log A L p := by
    unfold scanX xOf
    rw [froms_last, h.bods, Nat.add_sub_cancel_left]
  have hT := (h.ok p (by simp)).1
  have hl := hT.len
  rw [offs_all] at hl
  unfold scanS
  rw [hd, hx]
  by_cases hw : flen p.1.bs = p.1.data.size
  · rw [if_pos hw]
    exact ⟨L, p, rfl, h, List.eq_nil_of_length_eq_zero (by omega)⟩
  · rw [if_neg hw]
    unfold rotateS
    by_cases he : p.1.bs = []
    · have hlen := h.lenA
      have hfr := h.fr
      rw [he] at hlen
      rw [if_pos (show (xOf log A L p).last < (xOf log A L p).fr by show A.length < p.1.fr; rw [hlen, hfr]; simp)]
      have haf : Ahead (fsL log L p) (freshL log) := by rw [← fsL_eq]; exact Inc.ahead_fresh log _
      have hlenL := inc_len h.inc
      rw [List.length_append] at hlenL
      have hcr := (du_create (f := 0) (name_fresh hok) (fget_ahead haf) (by rw [fsL_len]; simp at hlenL; omega)).1 (by decide)
      rw [fput_end haf] at hcr
      refine ⟨L, Proofs.YtkpoecofblhggaaGreatDoor.fresh p.1.fr, ?_, h.empty he, rfl⟩
      have ec1 : createE (DU (fsL log L p) 0) (freshL (xOf log A L p).log) = 0 := hcr.1
      have ec2 : createD (DU (fsL log L p) 0) (freshL (xOf log A L p).log) = DU (fsL log L p ++ [(freshL log, (⟨⟨#[]⟩, 0⟩ : Fl))]) (fdec 0) := hcr.2
      unfold emptyS
      rw [if_pos (.inl ec1), ec2]
      have hg := fget_end haf ⟨⟨#[]⟩, 0⟩
      have hre : renameE (DU (fsL log L p ++ [(freshL log, (⟨⟨#[]⟩, 0⟩ : Fl))]) (fdec 0)) (freshL log) (fileL log p.1.fr) = 0 := by
        simp [renameE, DU, hg, name_file hok, chgE, fdec]
      have hrd : renameD (DU (fsL log L p ++ [(freshL log, (⟨⟨#[]⟩, 0⟩ : Fl))]) (fdec 0)) (freshL log) (fileL log p.1.fr) = DU (fsL log L (Proofs.YtkpoecofblhggaaGreatDoor.fresh p.1.fr)) 0 := by
        have e2 : renameD (DU (fsL log L p ++ [(freshL log, (⟨⟨#[]⟩, 0⟩ : Fl))]) (fdec 0)) (freshL log) (fileL log p.1.fr) = chg (DU (fsL log L p ++ [(freshL log, (⟨⟨#[]⟩, 0⟩ : Fl))]) (fdec 0)) (fun F => fput (fdel F (freshL log)) (fileL log p.1.fr) ⟨⟨#[]⟩, 0⟩) false := by
          simp [renameD, DU, hg, name_file hok]
        rw [e2, du_chg _ _ (by decide), fdel_end haf]
        show DU (fput (fsOf log L ++ [(fileL log p.1.fr, (⟨p.1.data, p.2⟩ : Fl))]) (fileL log p.1.fr) ⟨⟨#[]⟩, 0⟩) _ = _
        rw [fput_last h.ahead]
        rfl
      exact Prod.ext hre (Prod.ext hrd rfl)
    · have hpos : 0 < p.1.bs.length := List.length_pos_iff.2 he
      have hlen := h.lenA
      have hfr := h.fr
      rw [if_neg (show ¬ (xOf log A L p).last < (xOf log A L p).fr by show ¬ A.length < p.1.fr; omega)]
      have hf2 := h.fresh he (by omega)
      have hai : Ahead (fsL log L p) (fileL log (A.length + 1)) := by rw [← fsL_eq]; exact hf2.ahead
      have hlenL := inc_len h.inc
      rw [List.length_append] at hlenL
      have hcr := (du_create (f := 0) (name_file hok (A.length + 1)) (fget_ahead hai) (by rw [fsL_len]; simp at hlenL; omega)).1 (by decide)
      rw [fput_end hai] at hcr
      have ec1 : createE (DU (fsL log L p) 0) (fileL (xOf log A L p).log ((xOf log A L p).last + 1)) = 0 := hcr.1
      refine ⟨L ++ [p], Proofs.YtkpoecofblhggaaGreatDoor.fresh (A.length + 1), ?_, hf2, rfl⟩
      rw [ec1, if_pos rfl]
      refine Prod.ext rfl (Prod.ext (hcr.2.trans ?_) ?_)
      · rw [← fsL_eq, ← fsL_eq, fsOf_append log (L ++ [p])]
        rfl
      · unfold xOf Proofs.YtkpoecofblhggaaGreatDoor.fresh
        simp
        rfl
theorem St.off (h : St log A L p) : offE (DU (fsL log L p) f) (xOf log A L p) = 0 := du_off (x := xOf log A L p) h.get rfl rfl
/-- one record more, behind an opening -/
theorem St.append (h : St log A L p) (hok : logOk log.data.toList = true) (ht : p.1.t = []) (hb : b.size ≤ 65000) (hz : p.1.data.size ≤ 900000) (hn : A.length + 1 < 98) : ∃ d' x', appendS (DU (fsL log L p) 0) (xOf log A L p) b = (0, d', x') ∧ x'.last = A.length + 1 := by
  have e : (xOf log A L p).nm = fileL log p.1.fr := rfl
  have hfs := frame_size b
  have hput : ∀ {L : List Sy} {p : Sy}, St log A L p → p.1.data.size ≤ 900000 → ∃ d' x', Proofs.YtkpoecofblhggaaGreatDoor.putS b (0, DU (fsL log L p) 0, xOf log A L p) = (0, d', x') ∧ x'.last = A.length + 1 := fun {L p} h hz => by
    have ha := (du_append (f := 0) (y := frame b) h.get (by show p.1.data.size + _ ≤ _; omega)).1 (by decide)
    have e : (xOf log A L p).nm = fileL log p.1.fr := rfl
    unfold Proofs.YtkpoecofblhggaaGreatDoor.putS
    dsimp only
    rw [e, ha.1, if_pos rfl]
    exact ⟨_, _, rfl, rfl⟩
  by_cases hz : 16384 ≤ p.1.data.size
  · have hT := (h.ok p (by simp)).1
    have hl := hT.len
    rw [offs_all, ht] at hl
    have hne : p.1.bs ≠ [] := by
      intro e1
      rw [e1] at hl
      have h2 : flen [] = 0 := rfl
      simp at hl
      omega
    have hsy := (du_sync (f := 0) h.get).1 (by decide)
    rw [fsL_same h] at hsy
    have hpos : 0 < p.1.bs.length := List.length_pos_iff.2 hne
    have hlen := h.lenA
    have hfr := h.fr
    have hf2 := h.fresh hne (by omega)
    have hai : Ahead (fsL log L p) (fileL log (A.length + 1)) := by rw [← fsL_eq]; exact hf2.ahead
    have hlenL := inc_len h.inc
    rw [List.length_append] at hlenL
    have hcr := (du_create (f := 0) (name_file hok (A.length + 1)) (fget_ahead hai) (by rw [fsL_len]; simp at hlenL; omega)).1 (by decide)
    rw [fput_end hai] at hcr
    have hro : rotateS (syncD (DU (fsL log L p) 0) (xOf log A L p).nm) (xOf log A L p) = (0, DU (fsL log (L ++ [p]) (Proofs.YtkpoecofblhggaaGreatDoor.fresh (A.length + 1))) 0, xOf log A (L ++ [p]) (Proofs.YtkpoecofblhggaaGreatDoor.fresh (A.length + 1))) := by
      rw [e, hsy.2]
      unfold rotateS
      rw [if_neg (show ¬ (xOf log A L p).last < (xOf log A L p).fr by show ¬ A.length < p.1.fr; omega)]
      have ec1 : createE (DU (fsL log L p) (fdec 0)) (fileL (xOf log A L p).log ((xOf log A L p).last + 1)) = 0 := hcr.1
      rw [ec1, if_pos rfl]
      refine Prod.ext rfl (Prod.ext (hcr.2.trans ?_) ?_)
      · rw [← fsL_eq, ← fsL_eq, fsOf_append log (L ++ [p])]
        rfl
      · unfold xOf Proofs.YtkpoecofblhggaaGreatDoor.fresh
        simp
        rfl
    rw [turn_yes (by omega) h.off hz (by rw [e]; exact hsy.1) hro]
    exact hput hf2 (by show 0 ≤ _; omega)
  · unfold appendS addS
    rw [if_neg (by omega), if_pos h.off, off_zero h.off, if_neg (show ¬ 16384 ≤ (xOf log A L p).size from hz)]
    exact hput h (by omega)
end Go.Proofs.YtkpoecofblhggaaGreatDoor
