/-
  The plain law of DiskLasts: what is known of files stays known (no program in sight).
-/
import Derived.Test.YtmhflhbogkkblaaSu
namespace Go.Proofs.Ytmhflhbogkkblaa
open Go.RowKit Go.Maps

/-- a file has the bytes p.2 at its head, synced -/
def KnownF (F : Fs) (p : P2) : Prop := ∃ f, fget F p.1.data.toList = some f ∧ p.2.size ≤ f.syn ∧ p.2.size ≤ f.data.size ∧ f.data.extract 0 p.2.size = p.2
def SureF (F : Fs) (L : List P2) : Prop := ∀ p ∈ L, KnownF F p
theorem bytes_take (x y : ByteArray) (n : Nat) (h : n ≤ x.size) : (x ++ y).extract 0 n = x.extract 0 n := by
  apply ByteArray.ext
  simp only [ByteArray.data_extract, ByteArray.data_append]
  apply Array.ext'
  simp only [Array.toList_extract, Array.toList_append, List.extract_eq_take_drop, List.drop_zero, Nat.sub_zero]
  exact List.take_append_of_le_length (by simpa using h)
theorem bytes_all (x : ByteArray) : x.extract 0 x.size = x := by
  apply ByteArray.ext
  simp only [ByteArray.data_extract]
  show x.data.extract 0 x.data.size = x.data
  simp
theorem bytes_two (x : ByteArray) (n m : Nat) (h : m ≤ n) : (x.extract 0 n).extract 0 m = x.extract 0 m := by
  apply ByteArray.ext
  simp only [ByteArray.data_extract, Array.extract_extract]
  congr 1
  omega
theorem KnownF.put {F : Fs} (hF : F.Pairwise (fun x y => bytesBefore x.1 y.1 = true)) {p : P2} (h : KnownF F p) {k : Nm} {g : Fl} (hk : ∀ f, fget F k = some f → f.syn ≤ g.syn ∧ f.data.size ≤ g.data.size ∧ g.data.extract 0 f.data.size = f.data) : KnownF (fput F k g) p := by
  obtain ⟨f, h1, h2, h3, h4⟩ := h
  by_cases e : p.1.data.toList = k
  · obtain ⟨k1, k2, k3⟩ := hk f (by rw [← e]; exact h1)
    refine ⟨g, by rw [e]; exact fget_put_same hF k g, by omega, by omega, ?_⟩
    rw [← h4, ← k3]
    simp only [ByteArray.size_extract]
    rw [bytes_two _ _ _ (by omega)]
    congr 1
    omega
  · exact ⟨f, by rw [fget_put_ne hF k g e]; exact h1, h2, h3, h4⟩
theorem KnownF.del {F : Fs} {p : P2} (h : KnownF F p) {k : Nm} (hk : p.1.data.toList ≠ k) : KnownF (fdel F k) p := by
  obtain ⟨f, h1, h2⟩ := h
  exact ⟨f, by rw [fget_del_ne k hk]; exact h1, h2⟩
theorem KnownF.fresh {F : Fs} (hF : F.Pairwise (fun x y => bytesBefore x.1 y.1 = true)) {p : P2} (h : KnownF F p) {k : Nm} {g : Fl} (hk : p.1.data.toList ≠ k) : KnownF (fput F k g) p := by
  obtain ⟨f, h1, h2⟩ := h
  exact ⟨f, by rw [fget_put_ne hF k g hk]; exact h1, h2⟩

/-- either the files are G's, or they are as they were -/
theorem chg_fs (d : Dk) (G : Fs → Fs) (be : Bool) : (chg d G be).fs = G d.fs ∨ (chg d G be).fs = d.fs := by
  unfold chg
  split
  · cases be
    · exact .inr rfl
    · exact .inl rfl
  · exact .inl rfl
theorem chg_ok {d : Dk} {G : Fs → Fs} (h : chgE d = 0) (be : Bool) : (chg d G be).fs = G d.fs ∧ (chg d G be).down = d.down := by
  unfold chgE at h
  unfold chg
  split
  · rename_i hf; rw [if_pos hf] at h; cases h
  · exact ⟨rfl, rfl⟩
theorem chg_no {d : Dk} {G : Fs → Fs} (h : chgE d ≠ 0) : (chg d G false).fs = d.fs := by
  unfold chgE at h
  unfold chg
  split
  · rfl
  · rename_i hf; rw [if_neg hf] at h; exact absurd rfl h
theorem sure_chg {d : Dk} {L : List P2} (h : SureF d.fs L) (G : Fs → Fs) (be : Bool) (hg : ∀ p ∈ L, KnownF (G d.fs) p) : SureF (chg d G be).fs L := by
  rcases chg_fs d G be with e | e <;> rw [e]
  · exact hg
  · exact h
theorem sure_create {d : Dk} (ok : Fit d) {L : List P2} (h : SureF d.fs L) (k : Nm) : SureF (createD d k).fs L := by
  unfold createD
  split; · exact h
  split; · exact h
  split; · exact h
  split; · exact h
  rename_i _ _ hn _
  refine sure_chg h _ _ fun p hp => (h p hp).put ok.up fun f hf => ?_
  rw [hf] at hn
  simp at hn
theorem sure_append {d : Dk} (ok : Fit d) {L : List P2} (h : SureF d.fs L) (k : Nm) (x : ByteArray) : SureF (appendD d k x).fs L := by
  unfold appendD
  split; · exact h
  split; · exact h
  split; · exact h
  split; · exact h
  rename_i y hy _ _
  refine sure_chg h _ _ fun p hp => (h p hp).put ok.up fun f hf => ?_
  rw [hy] at hf
  cases hf
  exact ⟨Nat.le_refl _, by simp only [ByteArray.size_append]; omega, by rw [bytes_take _ _ _ (Nat.le_refl _), bytes_all]⟩
theorem sure_sync {d : Dk} (ok : Fit d) {L : List P2} (h : SureF d.fs L) (k : Nm) : SureF (syncD d k).fs L := by
  unfold syncD
  split; · exact h
  split; · exact h
  rename_i y hy
  refine sure_chg h _ _ fun p hp => (h p hp).put ok.up fun f hf => ?_
  rw [hy] at hf
  cases hf
  exact ⟨ok.syn _ (get_mem hy), Nat.le_refl _, bytes_all _⟩
theorem dropL_mem {L : List P2} {name : ByteArray} {p : P2} (h : p ∈ dropL L name) : p ∈ L ∧ p.1.data.toList ≠ name.data.toList := by
  unfold dropL at h
  obtain ⟨h1, h2⟩ := List.mem_filter.1 h
  refine ⟨h1, fun e => ?_⟩
  have : (p.1.toList == name.toList) = true := by rw [ByteArray.toList_eq, ByteArray.toList_eq, e]; simp
  rw [this] at h2
  cases h2
theorem dropL_len (L : List P2) (name : ByteArray) : (dropL L name).length ≤ L.length := List.length_filter_le _ _
theorem sure_synced {d : Dk} (ok : Fit d) {L : List P2} (h : SureF d.fs L) (name : ByteArray) (he : syncE d name.data.toList = 0) :
    readS (syncD d name.data.toList) name.data.toList = readS d name.data.toList ∧ SureF (syncD d name.data.toList).fs (dropL L name ++ [(name, readS d name.data.toList)]) := by
  unfold syncE at he
  split at he; · cases he
  split at he; · cases he
  rename_i hd hn
  have hdf : d.down = false := by simpa using hd
  cases hy : fget d.fs name.data.toList with
  | none => rw [hy] at hn; simp at hn
  | some y =>
    have e : syncD d name.data.toList = chg d (fun F => fput F name.data.toList ⟨y.data, y.data.size⟩) false := by simp [syncD, hdf, hy]
    have hc := chg_ok (G := fun F => fput F name.data.toList ⟨y.data, y.data.size⟩) he false
    have hs : readS d name.data.toList = y.data := by simp [readS, hdf, hy]
    have hg : fget (syncD d name.data.toList).fs name.data.toList = some ⟨y.data, y.data.size⟩ := by rw [e, hc.1]; exact fget_put_same ok.up _ _
    refine ⟨?_, fun p hp => ?_⟩
    · rw [hs]; unfold readS; rw [hg, e, hc.2, hdf]; simp
    · rcases List.mem_append.1 hp with hp | hp
      · exact sure_sync ok h name.data.toList p (dropL_mem hp).1
      · rw [List.mem_singleton.1 hp, hs]
        exact ⟨_, hg, Nat.le_refl _, Nat.le_refl _, bytes_all _⟩
theorem sure_remove {d : Dk} {L : List P2} (h : SureF d.fs L) (name : ByteArray) : (removeE d name.data.toList ≠ 0 → SureF (removeD d name.data.toList).fs L) ∧ SureF (removeD d name.data.toList).fs (dropL L name) := by
  refine ⟨fun he => ?_, fun p hp => ?_⟩
  · unfold removeD
    unfold removeE at he
    split; · exact h
    split; · exact h
    rename_i h1 h2
    rw [if_neg h1, if_neg h2] at he
    rw [chg_no he]
    exact h
  · obtain ⟨h1, h2⟩ := dropL_mem hp
    unfold removeD
    split; · exact h p h1
    split; · exact h p h1
    rcases chg_fs d (fun F => fdel F name.data.toList) false with e | e <;> rw [e]
    · exact (h p h1).del h2
    · exact h p h1
/-- a rename that went -/
theorem sure_renamed {d : Dk} (ok : Fit d) {L : List P2} (h : SureF d.fs L) (a b : ByteArray) (he : renameE d a.data.toList b.data.toList = 0) :
    (a.data.toList = b.data.toList → SureF (renameD d a.data.toList b.data.toList).fs L) ∧
    (a.data.toList ≠ b.data.toList → SureF (renameD d a.data.toList b.data.toList).fs (dropL (dropL L a) b) ∧ (ofB L a = true → KnownF (renameD d a.data.toList b.data.toList).fs (b, ofS L a))) := by
  unfold renameE at he
  split at he; · cases he
  split at he; · cases he
  split at he; · cases he
  rename_i hd hn hb
  have hdf : d.down = false := by simpa using hd
  cases hy : fget d.fs a.data.toList with
  | none => rw [hy] at hn; simp at hn
  | some y =>
    have e : renameD d a.data.toList b.data.toList = chg d (fun F => fput (fdel F a.data.toList) b.data.toList y) false := by simp [renameD, hdf, hy, hb]
    have hc := chg_ok (G := fun F => fput (fdel F a.data.toList) b.data.toList y) he false
    rw [e, hc.1]
    refine ⟨fun hab => ?_, fun hab => ⟨fun p hp => ?_, fun hB => ?_⟩⟩
    · rw [← hab, rename_self ok.up hy]; exact h
    · obtain ⟨h1, h2⟩ := dropL_mem hp
      obtain ⟨h3, h4⟩ := dropL_mem h1
      exact ((h p h3).del h4).fresh (up_del ok.up _) h2
    · unfold ofB at hB
      unfold ofS
      cases hf : L.find? (fun p => p.1.toList == a.toList) with
      | none => rw [hf] at hB; cases hB
      | some p =>
        have hm := List.mem_of_find?_eq_some hf
        have hp := List.find?_some hf
        have hpa : p.1.data.toList = a.data.toList := by
          have : p.1.toList = a.toList := by simpa using hp
          rw [ByteArray.toList_eq, ByteArray.toList_eq] at this
          exact this
        obtain ⟨f, h1, h2, h3, h4⟩ := h p hm
        rw [hpa, hy] at h1
        cases h1
        exact ⟨y, fget_put_same (up_del ok.up _) _ _, h2, h3, h4⟩
theorem sure_unrenamed {d : Dk} {L : List P2} (h : SureF d.fs L) (a b : Nm) (he : renameE d a b ≠ 0) : SureF (renameD d a b).fs L := by
  unfold renameE at he
  unfold renameD
  split; · exact h
  split; · exact h
  split; · exact h
  rename_i hd _ y hy hb
  rw [if_neg hd, hy, if_neg hb] at he
  rw [chg_no (by simpa using he)]
  exact h

/-- a file behind a crash -/
structure Cut (x y : Nm × Fl) : Prop where
  nm : y.1 = x.1
  le : y.2.data.size ≤ x.2.data.size
  ge : x.2.syn ≤ y.2.data.size
  syn : y.2.syn = y.2.data.size
  pre : x.2.data.extract 0 y.2.data.size = y.2.data
theorem crash_at : ∀ (ks : List Int) (F : Fs), (∀ x ∈ F, x.2.syn ≤ x.2.data.size) → ∀ i (hi : i < F.length) (hj : i < (crashF ks F).length), Cut F[i] (crashF ks F)[i]
  | _, [], _, i, hi, _ => absurd hi (by simp)
  | ks, x :: r, h, 0, hi, hj => by
    have hx := h x (List.mem_cons_self ..)
    by_cases e : x.2.data.size = x.2.syn
    · simp only [crashF, if_pos e, List.getElem_cons_zero]
      exact ⟨rfl, Nat.le_refl _, hx, e.symm, bytes_all _⟩
    · simp only [crashF, if_neg e, List.getElem_cons_zero]
      have hs := stays_le ks (x.2.data.size - x.2.syn)
      have hsz : (x.2.data.extract 0 (stays ks (x.2.data.size - x.2.syn) + x.2.syn)).size = stays ks (x.2.data.size - x.2.syn) + x.2.syn := by
        simp only [ByteArray.size_extract]; omega
      exact ⟨rfl, by dsimp only; omega, by dsimp only; omega, by dsimp only; omega, by dsimp only; rw [hsz]⟩
  | ks, x :: r, h, i + 1, hi, hj => by
    have hr : ∀ y ∈ r, y.2.syn ≤ y.2.data.size := fun y hy => h y (List.mem_cons_of_mem _ hy)
    by_cases e : x.2.data.size = x.2.syn
    · simp only [crashF, if_pos e, List.getElem_cons_succ] at hj ⊢
      exact crash_at ks r hr i (by simpa using hi) _
    · simp only [crashF, if_neg e, List.getElem_cons_succ] at hj ⊢
      exact crash_at ks.tail r hr i (by simpa using hi) _
theorem crash_idem : ∀ (ks : List Int) (G : Fs), (∀ x ∈ G, x.2.data.size = x.2.syn) → crashF ks G = G
  | _, [], _ => rfl
  | ks, x :: r, h => by
    rw [crashF, if_pos (h x (List.mem_cons_self ..)), crash_idem ks r (fun y hy => h y (List.mem_cons_of_mem _ hy))]
theorem crash_synced {ks : List Int} {F : Fs} (h : ∀ x ∈ F, x.2.syn ≤ x.2.data.size) : ∀ x ∈ crashF ks F, x.2.data.size = x.2.syn := by
  intro x hx
  obtain ⟨i, hi, rfl⟩ := List.getElem_of_mem hx
  exact (crash_at ks F h i (by rw [crash_len] at hi; exact hi) hi).syn.symm
theorem sure_crash {d : Dk} (ok : Fit d) {L : List P2} (h : SureF d.fs L) (ks : List Int) : SureF (crashF ks d.fs) L := by
  intro p hp
  obtain ⟨f, h1, h2, h3, h4⟩ := h p hp
  have hm := get_mem h1
  obtain ⟨i, hi, he⟩ := List.getElem_of_mem hm
  have hj : i < (crashF ks d.fs).length := by rw [crash_len]; exact hi
  have hc := crash_at ks d.fs ok.syn i hi hj
  rw [he] at hc
  have hup : (crashF ks d.fs).Pairwise (fun x y => bytesBefore x.1 y.1 = true) := (ok.good.crash ks).up
  have hg := get_at hup i hj
  rw [hc.nm] at hg
  have := hc.ge
  have := hc.le
  have := hc.syn
  dsimp only at *
  refine ⟨_, hg, by omega, by omega, ?_⟩
  rw [← hc.pre, bytes_two _ _ _ (by omega)]
  exact h4
/-- the disk behind a crash and a start -/
def again (d : Dk) (ks : List Int) : Dk := { d with fs := crashF ks d.fs, down := false, fuse := 0 }
theorem again_is {d : Dk} (ok : Fit d) (ks : List Int) : startD { d with fs := crashF ks d.fs, down := true, fuse := 0 } = again d ks := by
  unfold startD again
  rw [if_pos rfl]
  dsimp only
  rw [crash_idem [] _ (crash_synced ok.syn)]
theorem begun_again {d : Dk} (ok : Fit d) (hu : d.down = false) (ks : List Int) : Begun (again d ks) d := by
  refine ⟨rfl, hu, crash_names ks d.fs, fun i hi hj => ?_⟩
  have hc := crash_at ks d.fs ok.syn i hj hi
  exact ⟨hc.le, hc.pre⟩
/-- what the law asks of each file that is known -/
theorem KnownF.reads {d : Dk} (ok : Fit d) (hu : d.down = false) {p : P2} (h : KnownF d.fs p) :
    ∃ s : ByteArray, readE d p.1.data.toList = 0 ∧ readS d p.1.data.toList = s ∧ p.2.size ≤ s.size ∧ s.size ≤ 1048576 ∧ s.extract 0 p.2.size = p.2 ∧ p.1.size ≤ maxLen := by
  obtain ⟨f, h1, h2, h3, h4⟩ := h
  have hn := ok.nm _ (get_mem h1)
  have hs := ok.sz _ (get_mem h1)
  dsimp only at hn hs
  refine ⟨f.data, by simp [readE, hu, h1], by simp [readS, hu, h1], h3, hs, h4, ?_⟩
  rw [Array.length_toList] at hn
  unfold maxLen
  show p.1.data.size ≤ _
  omega
end Go.Proofs.Ytmhflhbogkkblaa
