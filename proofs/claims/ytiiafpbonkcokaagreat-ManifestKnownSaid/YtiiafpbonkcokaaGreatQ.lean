/-
  That a disk stays fit, whatever is done to it (no program in sight).
-/
import Derived.Test.YtiiafpbonkcokaaGreatO
namespace Go.Proofs.YtiiafpbonkcokaaGreat
open Go.RowKit Go.Maps

theorem mem_fins {a : Nm × Fl} : ∀ {F : Fs} {x : Nm × Fl}, x ∈ fins a F ↔ x = a ∨ x ∈ F
  | [], x => by simp [fins]
  | y :: r, x => by
    unfold fins
    split
    · simp
    · rw [List.mem_cons, mem_fins, List.mem_cons]
      constructor
      · rintro (h | h | h)
        · exact .inr (.inl h)
        · exact .inl h
        · exact .inr (.inr h)
      · rintro (h | h | h)
        · exact .inr (.inl h)
        · exact .inl h
        · exact .inr (.inr h)
theorem fins_len {a : Nm × Fl} : ∀ {F : Fs}, (fins a F).length = F.length + 1
  | [] => rfl
  | y :: r => by
    unfold fins
    split
    · simp
    · simp [fins_len (F := r)]
theorem fins_up {a : Nm × Fl} : ∀ {F : Fs}, F.Pairwise (fun x y => bytesBefore x.1 y.1 = true) → (∀ y ∈ F, y.1 ≠ a.1) → (fins a F).Pairwise (fun x y => bytesBefore x.1 y.1 = true)
  | [], _, _ => by simp [fins]
  | y :: r, h, hn => by
    have h' := List.pairwise_cons.1 h
    unfold fins
    split
    · rename_i hb
      refine List.pairwise_cons.2 ⟨fun z hz => ?_, h⟩
      rcases List.mem_cons.1 hz with rfl | hz
      · exact hb
      · exact (before_lt _ _).2 (List.lt_trans ((before_lt _ _).1 hb) ((before_lt _ _).1 (h'.1 z hz)))
    · rename_i hb
      refine List.pairwise_cons.2 ⟨fun z hz => ?_, fins_up h'.2 (fun z hz => hn z (List.mem_cons_of_mem _ hz))⟩
      rcases mem_fins.1 hz with rfl | hz
      · have hlt : ¬ z.1 < y.1 := fun e => hb ((before_lt _ _).2 e)
        have hne := hn y (List.mem_cons_self ..)
        have hle : y.1 ≤ z.1 := List.not_lt.1 hlt
        refine (before_lt _ _).2 ?_
        rcases Decidable.em (y.1 < z.1) with h3 | h3
        · exact h3
        · exact absurd (List.le_antisymm hle (List.not_lt.1 h3)) hne
      · exact h'.1 z hz

/-- what the files of a fit disk are -/
structure Good (F : Fs) : Prop where
  sz : ∀ x ∈ F, x.2.data.size ≤ 1048576
  syn : ∀ x ∈ F, x.2.syn ≤ x.2.data.size
  nm : ∀ x ∈ F, x.1.length ≤ 32
  up : F.Pairwise (fun x y => bytesBefore x.1 y.1 = true)
theorem mem_fdel {F : Fs} {k : Nm} {x : Nm × Fl} : x ∈ fdel F k ↔ x ∈ F ∧ x.1 ≠ k := by
  unfold fdel; simp
theorem Good.del {F : Fs} (h : Good F) (k : Nm) : Good (fdel F k) :=
  ⟨fun x hx => h.sz x (mem_fdel.1 hx).1, fun x hx => h.syn x (mem_fdel.1 hx).1, fun x hx => h.nm x (mem_fdel.1 hx).1, h.up.filter _⟩
theorem Good.put {F : Fs} (h : Good F) (k : Nm) (f : Fl) (h1 : f.data.size ≤ 1048576) (h2 : f.syn ≤ f.data.size) (h3 : k.length ≤ 32) : Good (fput F k f) := by
  have hd := h.del k
  refine ⟨fun x hx => ?_, fun x hx => ?_, fun x hx => ?_, fins_up hd.up (fun y hy => (mem_fdel.1 hy).2)⟩
  · rcases mem_fins.1 hx with rfl | hx
    · exact h1
    · exact hd.sz x hx
  · rcases mem_fins.1 hx with rfl | hx
    · exact h2
    · exact hd.syn x hx
  · rcases mem_fins.1 hx with rfl | hx
    · exact h3
    · exact hd.nm x hx
theorem del_len (F : Fs) (k : Nm) : (fdel F k).length ≤ F.length := List.length_filter_le _ _
theorem del_lt {F : Fs} {k : Nm} {y : Fl} (h : fget F k = some y) : (fdel F k).length < F.length := by
  have hm := get_mem h
  unfold fdel
  refine Nat.lt_of_le_of_ne (List.length_filter_le _ _) (fun e => ?_)
  have := List.length_filter_eq_length_iff.1 e _ hm
  simp at this
theorem put_len (F : Fs) (k : Nm) (f : Fl) : (fput F k f).length = (fdel F k).length + 1 := fins_len
theorem Fit.good {d : Dk} (h : Fit d) : Good d.fs := ⟨h.sz, h.syn, h.nm, h.up⟩
theorem Fit.chg {d : Dk} (h : Fit d) (G : Fs → Fs) (be : Bool) (hg : Good (G d.fs)) (hl : (G d.fs).length ≤ 256) : Fit (chg d G be) := by
  unfold YtiiafpbonkcokaaGreat.chg
  have h1 := h.flo
  have h2 := h.fhi
  split
  · cases be
    · exact ⟨h.len, by simp, by simp, h.rlo, h.rhi, h.sz, h.syn, h.nm, h.up⟩
    · exact ⟨hl, by simp, by simp, h.rlo, h.rhi, hg.sz, hg.syn, hg.nm, hg.up⟩
  · refine ⟨hl, ?_, ?_, h.rlo, h.rhi, hg.sz, hg.syn, hg.nm, hg.up⟩
    · dsimp only; split <;> omega
    · dsimp only; split <;> omega
theorem Fit.create {d : Dk} (h : Fit d) (k : Nm) : Fit (createD d k) := by
  unfold createD
  split; · exact h
  split; · exact h
  split; · exact h
  split; · exact h
  rename_i hn _ hl
  have hk : k.length ≤ 32 := by
    have : nameB k = true := by simpa using hn
    unfold nameB at this; simp at this; exact this.2
  refine h.chg _ _ (h.good.put k _ (by simp [ByteArray.size]) (by simp) hk) ?_
  have := put_len d.fs k ⟨⟨#[]⟩, 0⟩
  have := del_len d.fs k
  omega
theorem Fit.remove {d : Dk} (h : Fit d) (k : Nm) : Fit (removeD d k) := by
  unfold removeD
  split; · exact h
  split; · exact h
  exact h.chg _ _ (h.good.del k) (Nat.le_trans (del_len _ _) h.len)
theorem Fit.sync {d : Dk} (h : Fit d) (k : Nm) : Fit (syncD d k) := by
  unfold syncD
  split; · exact h
  split; · exact h
  rename_i y hy
  refine h.chg _ _ (h.good.put k _ (h.sz _ (get_mem hy)) (Nat.le_refl _) (h.nm _ (get_mem hy))) ?_
  have := put_len d.fs k ⟨y.data, y.data.size⟩
  have := del_lt hy
  have := h.len
  omega
theorem Fit.rename {d : Dk} (h : Fit d) (k j : Nm) : Fit (renameD d k j) := by
  unfold renameD
  split; · exact h
  split; · exact h
  rename_i y hy
  split; · exact h
  rename_i hn
  have hk : j.length ≤ 32 := by
    have : nameB j = true := by simpa using hn
    unfold nameB at this; simp at this; exact this.2
  refine h.chg _ _ ((h.good.del k).put j _ (h.sz _ (get_mem hy)) (h.syn _ (get_mem hy)) hk) ?_
  have := put_len (fdel d.fs k) j y
  have := del_len (fdel d.fs k) j
  have := del_lt hy
  have := h.len
  omega
theorem Fit.append {d : Dk} (h : Fit d) (k : Nm) (x : ByteArray) : Fit (appendD d k x) := by
  unfold appendD
  split; · exact h
  split; · exact h
  rename_i y hy
  split; · exact h
  split; · exact h
  rename_i hs _
  have hs1 : y.syn ≤ y.data.size := h.syn _ (get_mem hy)
  refine h.chg _ _ (h.good.put k _ (by simp; omega) (by simp; omega) (h.nm _ (get_mem hy))) ?_
  have := put_len d.fs k ⟨y.data ++ x, y.syn⟩
  have := del_lt hy
  have := h.len
  omega
theorem crash_names : ∀ (ks : List Int) (F : Fs), (crashF ks F).map (·.1) = F.map (·.1)
  | _, [] => rfl
  | ks, x :: r => by
    unfold crashF
    split <;> simp [crash_names]
theorem crash_sz : ∀ (ks : List Int) (F : Fs), (∀ x ∈ F, x.2.data.size ≤ 1048576 ∧ x.2.syn ≤ x.2.data.size) → ∀ x ∈ crashF ks F, x.2.data.size ≤ 1048576 ∧ x.2.syn ≤ x.2.data.size
  | _, [], _, _, hx => by simp [crashF] at hx
  | ks, y :: r, h, x, hx => by
    have hy := h y (List.mem_cons_self ..)
    have hr := fun ks' => crash_sz ks' r (fun z hz => h z (List.mem_cons_of_mem _ hz))
    unfold crashF at hx
    split at hx
    · rcases List.mem_cons.1 hx with rfl | hx
      · exact hy
      · exact hr _ x hx
    · rcases List.mem_cons.1 hx with rfl | hx
      · have := stays_le ks (y.2.data.size - y.2.syn)
        simp only [ByteArray.size_extract]
        omega
      · exact hr _ x hx
theorem Good.crash {F : Fs} (h : Good F) (ks : List Int) : Good (crashF ks F) := by
  have e := crash_sz ks F (fun x hx => ⟨h.sz x hx, h.syn x hx⟩)
  have hn := crash_names ks F
  refine ⟨fun x hx => (e x hx).1, fun x hx => (e x hx).2, fun x hx => ?_, ?_⟩
  · have : x.1 ∈ F.map (·.1) := by rw [← hn]; exact List.mem_map_of_mem hx
    obtain ⟨z, hz, hze⟩ := List.mem_map.1 this
    rw [← hze]; exact h.nm z hz
  · have h1 : (F.map (·.1)).Pairwise (fun a b => bytesBefore a b = true) := List.pairwise_map.2 h.up
    rw [← hn] at h1
    exact List.pairwise_map.1 h1
theorem crash_len (ks : List Int) (F : Fs) : (crashF ks F).length = F.length := by
  have := congrArg List.length (crash_names ks F)
  simpa using this
theorem Fit.crash {d : Dk} (h : Fit d) (ks : List Int) (b : Bool) : Fit { d with fs := crashF ks d.fs, down := b, fuse := 0 } := by
  have g := h.good.crash ks
  exact ⟨by show (crashF ks d.fs).length ≤ 256; rw [crash_len]; exact h.len, by simp, by simp, h.rlo, h.rhi, g.sz, g.syn, g.nm, g.up⟩
theorem Fit.start {d : Dk} (h : Fit d) : Fit (startD d) := by
  unfold startD
  split
  · exact h.crash [] false
  · exact h
theorem Fit.d0 : Fit d0 := ⟨by simp [YtiiafpbonkcokaaGreat.d0], by simp [YtiiafpbonkcokaaGreat.d0], by simp [YtiiafpbonkcokaaGreat.d0], by simp [YtiiafpbonkcokaaGreat.d0], by simp [YtiiafpbonkcokaaGreat.d0], by simp [YtiiafpbonkcokaaGreat.d0], by simp [YtiiafpbonkcokaaGreat.d0], by simp [YtiiafpbonkcokaaGreat.d0], by simp [YtiiafpbonkcokaaGreat.d0]⟩
end Go.Proofs.YtiiafpbonkcokaaGreat
