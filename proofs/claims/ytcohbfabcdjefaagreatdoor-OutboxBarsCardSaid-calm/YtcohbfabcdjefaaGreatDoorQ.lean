/-
  Joined: K, A3, L, O, Q.
-/
import Derived.Test.YtcohbfabcdjefaaGreatDoorJ
import Derived.Test.YtcohbfabcdjefaaGreatDoorS
import Derived.Test.YtcohbfabcdjefaaGreatDoorH
namespace Go.Proofs.YtcohbfabcdjefaaGreatDoor
open Go.RowKit Go.Maps

theorem before_lt : ∀ a b : Nm, bytesBefore a b = true ↔ a < b
  | [], [] => by simp [bytesBefore]
  | [], _ :: _ => by simp [bytesBefore]
  | _ :: _, [] => by simp [bytesBefore]
  | a :: r, b :: s => by
    rw [List.cons_lt_cons_iff]
    simp only [bytesBefore, Bool.or_eq_true, decide_eq_true_eq, Bool.and_eq_true, beq_iff_eq, before_lt r s]
def names (F : Fs) : List Nm := F.map (·.1)
theorem strKeys_dat (F : Fs) : strKeys (dat F) = names F := by
  simp only [strKeys, dat, names, List.map_map]
  rfl
theorem sorted_names {F : Fs} (h : F.Pairwise (fun x y => bytesBefore x.1 y.1 = true)) : (names F).mergeSort leB = names F := by
  refine List.mergeSort_of_pairwise ?_
  unfold names
  rw [List.pairwise_map]
  refine h.imp (fun hxy => ?_)
  have := (before_lt _ _).1 hxy
  simp only [decide_eq_true_eq]
  exact List.le_of_lt this

/-- v is a slice from block B on that holds the texts l -/
def StrsAt (w : World) (B : Nat) (v : Value) (l : List Nm) : Prop := w.ownsRow B 9 1 v l.length (l.map encStr) ∧ (v = .slice none 0 0 ↔ l = [])

theorem keys_call (m : Nat) (W : World) : Calls Tryz.prog 136 #[.map (some m)] W fun e w' => e = .returned (.func (.func 199) #[] #[.pointer (some ⟨W.heap.size, 0, none⟩)]) ∧ w' = W.alloc (.cells #[.map (some m)] 58) :=
  callsIn_wide.1 (Tryz.maps_Keys_136 (some m) W)

theorem sorted_call (w : World) (m : Nat) (F : Fs) (h : HasMap w m F) (hn : F.length ≤ 256) (hup : F.Pairwise (fun x y => bytesBefore x.1 y.1 = true)) :
    Calls Tryz.prog 135 #[.func (.func 199) #[] #[.pointer (some ⟨w.heap.size, 0, none⟩)]] (w.alloc (.cells #[.map (some m)] 58)) fun e w' =>
      (∃ v, e = .returned v ∧ StrsAt w' w.heap.size v (names F)) ∧ Below w.heap.size w w' := by
  have hsz : Maps.size (dat F) ≤ 256 := by rw [dat_size]; exact hn
  refine (callsIn_wide.1 (Tryz.slices_Sorted_keys_135_136 m F.length (dat F) fileElem w h (by unfold maxLen; omega) (by omega))).mono ?_
  rintro e w' ⟨v, ss, rfl, hp, hrow, hnil, hb⟩
  rw [strKeys_dat] at hp
  have e1 : ss.mergeSort (fun x y => decide (x ≤ y)) = names F := (mergeSort_of_perm hp).trans (sorted_names hup)
  have e2 : ss.length = (names F).length := hp.length_eq
  rw [e1, e2] at hrow
  refine ⟨⟨v, rfl, ?_, hnil.trans ⟨fun e => ?_, fun e => ?_⟩⟩, ((Below.refl _ _).alloc (Nat.le_refl _) _).trans (hb.mono (by simp))⟩
  · obtain ⟨h1, h2⟩ := hrow
    refine ⟨h1, ?_⟩
    rcases h2 with h2 | ⟨g, cap, cur, hv, hg, r⟩
    · exact .inl h2
    · exact .inr ⟨g, cap, cur, hv, by simp at hg; omega, r⟩
  · subst e; simpa using hp
  · rw [e] at hp; simpa using hp

theorem list_any (w : World) (b m : Nat) (d : Dk) (h : DAt w b m d) (ok : Fit d) :
    Calls Tryz.prog 73 #[.pointer (some ⟨b, 0, none⟩)] w fun e w' => (∃ v, e = .returned v ∧ StrsAt w' w.heap.size v (names d.fs)) ∧ Below w.heap.size w w' := by
  have c0 := h.c0
  have HC := Lib.hid (sorted_call w m d.fs h.map ok.len ok.up)
  clear h ok
  go_enter Tryz.func73, Tryz.ntmps73
  go_wp2_with fail
  refine (keys_call m _).mono ?_
  rintro e w1 ⟨rfl, rfl⟩
  go_wp2_with fail
  refine HC.out.mono ?_
  rintro e w1 ⟨⟨v, rfl, hs⟩, hb⟩
  have HS := Lib.hid hs
  have HB := Lib.hid hb
  clear hs hb HC
  go_wp2_with fail
  go_ret
  exact ⟨⟨v, rfl, HS.out⟩, HB.out⟩
theorem list_nil (w : World) : Calls Tryz.prog 73 #[.pointer none] w fun e w' => e = .returned (.slice none 0 0) ∧ w = w' := by
  go_enter Tryz.func73, Tryz.ntmps73
  go_wp2
  go_ret
  exact ⟨rfl, rfl⟩
end Go.Proofs.YtcohbfabcdjefaaGreatDoor
namespace Go.Proofs.YtcohbfabcdjefaaGreatDoor

/-- how much of a tail of t bytes stays -/
def stays (ks : List Int) (t : Nat) : Nat := (min (max (ks.headD 0) 0) (t : Int)).toNat
/-- the files behind a crash: tails are cut by what 'keep' still has -/
def crashF : List Int → Fs → Fs
  | _, [] => []
  | ks, x :: r =>
    if x.2.data.size = x.2.syn then x :: crashF ks r
    else (x.1, ⟨x.2.data.extract 0 (stays ks (x.2.data.size - x.2.syn) + x.2.syn), stays ks (x.2.data.size - x.2.syn) + x.2.syn⟩) :: crashF ks.tail r

theorem fins_front {x : Nm × Fl} : ∀ {P R : Fs}, (∀ y ∈ P, bytesBefore x.1 y.1 = false) → (∀ y ∈ R, bytesBefore x.1 y.1 = true) → fins x (P ++ R) = P ++ x :: R
  | [], [], _, _ => rfl
  | [], y :: R, _, h => by simp [fins, h y (List.mem_cons_self ..)]
  | y :: P, R, h, h2 => by
    simp only [List.cons_append, fins, h y (List.mem_cons_self ..), Bool.false_eq_true, if_false]
    rw [fins_front (fun z hz => h z (List.mem_cons_of_mem _ hz)) h2]
theorem before_asymm : ∀ {a b : Nm}, bytesBefore a b = true → bytesBefore b a = false
  | [], [], h => by simp [bytesBefore] at h
  | [], _ :: _, _ => rfl
  | _ :: _, [], h => by simp [bytesBefore] at h
  | a :: r, b :: s, h => by
    simp only [bytesBefore, Bool.or_eq_true, decide_eq_true_eq, Bool.and_eq_true, beq_iff_eq] at h
    simp only [bytesBefore, Bool.or_eq_false_iff, decide_eq_false_iff_not, Bool.and_eq_false_iff, beq_eq_false_iff_ne]
    rcases h with h | ⟨rfl, h⟩
    · exact ⟨fun h' => absurd (UInt8.lt_trans h h') (UInt8.lt_irrefl _), .inl (fun e => by subst e; exact UInt8.lt_irrefl _ h)⟩
    · exact ⟨UInt8.lt_irrefl _, .inr (before_asymm h)⟩
theorem put_mid {P R : Fs} {x : Nm × Fl} (h : (P ++ x :: R).Pairwise (fun x y => bytesBefore x.1 y.1 = true)) (f : Fl) : fput (P ++ x :: R) x.1 f = P ++ (x.1, f) :: R := by
  rw [List.pairwise_append] at h
  obtain ⟨_, h2, h3⟩ := h
  rw [List.pairwise_cons] at h2
  have e : fdel (P ++ x :: R) x.1 = P ++ R := by
    unfold fdel
    rw [List.filter_append, List.filter_cons]
    have e1 : P.filter (fun y => !(y.1 == x.1)) = P := List.filter_eq_self.2 (fun y hy => by
      have := before_ne (h3 y hy x (List.mem_cons_self ..)); simpa using this)
    have e2 : R.filter (fun y => !(y.1 == x.1)) = R := List.filter_eq_self.2 (fun y hy => by
      have := before_ne (h2.1 y hy); simpa using fun e => this e.symm)
    rw [e1, e2]; simp
  unfold fput
  rw [e]
  exact fins_front (fun y hy => before_asymm (h3 y hy x (List.mem_cons_self ..))) (fun y hy => h2.1 y hy)
theorem get_mid {P R : Fs} {x : Nm × Fl} (h : (P ++ x :: R).Pairwise (fun x y => bytesBefore x.1 y.1 = true)) : fget (P ++ x :: R) x.1 = some x.2 := by
  rw [List.pairwise_append] at h
  obtain ⟨_, h2, h3⟩ := h
  unfold fget
  rw [List.find?_append]
  have : P.find? (fun y => y.1 == x.1) = none := List.find?_eq_none.2 (fun y hy => by
    have := before_ne (h3 y hy x (List.mem_cons_self ..)); simpa using this)
  rw [this]
  simp
theorem names_mid {P R : Fs} {k : Nm} {f g : Fl} (h : (P ++ (k, f) :: R).Pairwise (fun x y => bytesBefore x.1 y.1 = true)) : (P ++ (k, g) :: R).Pairwise (fun x y => bytesBefore x.1 y.1 = true) := by
  rw [List.pairwise_append, List.pairwise_cons] at h ⊢
  obtain ⟨h1, h2, h3⟩ := h
  refine ⟨h1, ⟨h2.1, h2.2⟩, fun a ha b hb => ?_⟩
  rcases List.mem_cons.1 hb with rfl | hb
  · exact h3 a ha (k, f) (List.mem_cons_self ..)
  · exact h3 a ha b (List.mem_cons_of_mem _ hb)
theorem stays_le (ks : List Int) (t : Nat) : stays ks t ≤ t := by unfold stays; omega
end Go.Proofs.YtcohbfabcdjefaaGreatDoor
namespace Go.Proofs.YtcohbfabcdjefaaGreatDoor
open Go.RowKit Go.Maps

theorem StrsAt.row {w : World} {B : Nat} {v : Value} {l : List Nm} (h : StrsAt w B v l) (hl : l ≠ []) :
    ∃ g cap, v = .slice (some ⟨g, 0, none⟩) l.length cap ∧ B ≤ g ∧ g < w.heap.size ∧ ∀ i (hi : i < l.length), w.cell? ⟨g, i, none⟩ = some (.string ⟨l[i].toArray⟩) := by
  obtain ⟨⟨h1, h2⟩, hn⟩ := h
  rcases h2 with ⟨hv, _⟩ | ⟨g, cap, cur, hv, hg, hb, hnc, _, hcs, ht⟩
  · exact absurd (hn.1 hv) hl
  · refine ⟨g, cap, hv, hg, (Array.getElem?_eq_some_iff.1 hb).1, fun i hi => ?_⟩
    have e : w.cell? ⟨g, i, none⟩ = cur[i]? := by simp [World.cell?, hb]
    rw [e]
    have h3 : (cur.toList.take (l.length * 1))[i]? = (l.map encStr)[i]? := by rw [ht]
    rw [List.getElem?_take, if_pos (by omega), List.getElem?_map, List.getElem?_eq_getElem hi] at h3
    simpa [encStr] using h3

/-- the state of a crash behind i files: what is done, what is to come, how many numbers are used up -/
def CrashAt (w : World) (b m : Nat) (d : Dk) (ks : List Int) (wr : World) (i k : Nat) : Prop :=
  ∃ done : Fs, i ≤ d.fs.length ∧ k ≤ i ∧ done.map (·.1) = (d.fs.take i).map (·.1) ∧ DAt wr b m { d with fs := done ++ d.fs.drop i, down := true, fuse := 0 } ∧ But [b, m] w wr ∧
    crashF ks d.fs = done ++ crashF (ks.drop k) (d.fs.drop i) ∧ (done ++ d.fs.drop i).Pairwise (fun x y => bytesBefore x.1 y.1 = true)

/-- one step of it -/
theorem CrashAt.at {w : World} {b m : Nat} {d : Dk} {ks : List Int} {wr : World} {i k : Nat} (h : CrashAt w b m d ks wr i k) (hi : i < d.fs.length) :
    ∃ (P R : Fs), d.fs.drop i = d.fs[i] :: R ∧ DAt wr b m { d with fs := P ++ d.fs[i] :: R, down := true, fuse := 0 } ∧ But [b, m] w wr ∧
      (P ++ d.fs[i] :: R).Pairwise (fun x y => bytesBefore x.1 y.1 = true) ∧ fget (P ++ d.fs[i] :: R) d.fs[i].1 = some d.fs[i].2 ∧ (P ++ d.fs[i] :: R).length = d.fs.length ∧
      (d.fs[i].2.data.size = d.fs[i].2.syn → ∀ w', DAt w' b m { d with fs := P ++ d.fs[i] :: R, down := true, fuse := 0 } → But [b, m] w w' → CrashAt w b m d ks w' (i + 1) k) ∧
      (d.fs[i].2.data.size ≠ d.fs[i].2.syn → ∀ w' (n : Nat), n = stays (ks.drop k) (d.fs[i].2.data.size - d.fs[i].2.syn) + d.fs[i].2.syn →
        DAt w' b m { d with fs := fput (P ++ d.fs[i] :: R) d.fs[i].1 ⟨d.fs[i].2.data.extract 0 n, n⟩, down := true, fuse := 0 } → But [b, m] w w' → CrashAt w b m d ks w' (i + 1) (k + 1)) := by
  obtain ⟨P, hil, hki, hnm, hD, hB, hc, hp⟩ := h
  have hdr : d.fs.drop i = d.fs[i] :: d.fs.drop (i + 1) := List.drop_eq_getElem_cons hi
  rw [hdr] at hD hc hp
  have hlen : P.length = i := by
    have := congrArg List.length hnm
    simp at this; omega
  have htake : (d.fs.take (i + 1)).map (·.1) = P.map (·.1) ++ [d.fs[i].1] := by
    rw [List.take_succ_eq_append_getElem hi, List.map_append, hnm]; rfl
  refine ⟨P, d.fs.drop (i + 1), hdr, hD, hB, hp, get_mid hp, by simp; omega, fun he w' hD' hB' => ?_, fun he w' n hn hD' hB' => ?_⟩
  · refine ⟨P ++ [d.fs[i]], by omega, by omega, ?_, ?_, hB', ?_, ?_⟩
    · rw [htake, List.map_append]; rfl
    · simpa using hD'
    · rw [hc, crashF, if_pos he]; simp
    · simpa using hp
  · rw [put_mid hp] at hD'
    refine ⟨P ++ [(d.fs[i].1, ⟨d.fs[i].2.data.extract 0 n, n⟩)], by omega, by omega, ?_, ?_, hB', ?_, ?_⟩
    · rw [htake, List.map_append]; rfl
    · simpa using hD'
    · rw [hc, crashF, if_neg he, ← hn]
      simp
    · have := names_mid (k := d.fs[i].1) (f := d.fs[i].2) (g := ⟨d.fs[i].2.data.extract 0 n, n⟩) hp
      simpa using this

theorem cell_lt {w : World} {b o : Nat} {v : Value} (h : w.cell? ⟨b, o, none⟩ = some v) : b < w.heap.size := by
  unfold World.cell? at h
  simp only at h
  cases hh : w.heap[b]? with
  | none => rw [hh] at h; cases h
  | some o => exact (Array.getElem?_eq_some_iff.1 hh).1
theorem cell_alloc {w : World} {b o : Nat} {v : Value} (h : w.cell? ⟨b, o, none⟩ = some v) (x : Obj) : (w.alloc x).cell? ⟨b, o, none⟩ = some v := by
  rw [((But.refl [] w).alloc x).cell (cell_lt h) (by simp), h]
end Go.Proofs.YtcohbfabcdjefaaGreatDoor
namespace Go.Proofs.YtcohbfabcdjefaaGreatDoor
open Go.RowKit Go.Maps

/-- the disk behind 'Start' -/
def startD (d : Dk) : Dk := if d.down then { d with fs := crashF [] d.fs, down := false, fuse := 0 } else d
theorem create_nil (w : World) (s : ByteArray) :
    Calls Tryz.prog 150 #[.pointer none, .string s] w fun e w' => e = .returned (.int .i64 2) ∧ Below w.heap.size w w' := by
  go_enter Tryz.func150, Tryz.ntmps150
  go_wp2_with fail
  refine (off_nil _).mono ?_
  rintro e w1 ⟨rfl, rfl⟩
  go_wp2_with fail
  go_ret
  exact ⟨rfl, bl2 _ _ _⟩

theorem append_nil (w : World) (s x : ByteArray) :
    Calls Tryz.prog 164 #[.pointer none, .string s, .string x] w fun e w' => e = .returned (.int .i64 2) ∧ Below w.heap.size w w' := by
  go_enter Tryz.func164, Tryz.ntmps164
  go_wp2_with fail
  refine (off_nil _).mono ?_
  rintro e w1 ⟨rfl, rfl⟩
  go_wp2_with fail
  go_ret
  exact ⟨rfl, bl3 _ _ _ _⟩

theorem remove_nil (w : World) (s : ByteArray) :
    Calls Tryz.prog 78 #[.pointer none, .string s] w fun e w' => e = .returned (.int .i64 2) ∧ Below w.heap.size w w' := by
  go_enter Tryz.func78, Tryz.ntmps78
  go_wp2_with fail
  refine (off_nil _).mono ?_
  rintro e w1 ⟨rfl, rfl⟩
  go_wp2_with fail
  go_ret
  exact ⟨rfl, bl2 _ _ _⟩

theorem sync_nil (w : World) (s : ByteArray) :
    Calls Tryz.prog 151 #[.pointer none, .string s] w fun e w' => e = .returned (.int .i64 2) ∧ Below w.heap.size w w' := by
  go_enter Tryz.func151, Tryz.ntmps151
  go_wp2_with fail
  refine (off_nil _).mono ?_
  rintro e w1 ⟨rfl, rfl⟩
  go_wp2_with fail
  go_ret
  exact ⟨rfl, bl2 _ _ _⟩

theorem rename_nil (w : World) (s x : ByteArray) :
    Calls Tryz.prog 256 #[.pointer none, .string s, .string x] w fun e w' => e = .returned (.int .i64 2) ∧ Below w.heap.size w w' := by
  go_enter Tryz.func256, Tryz.ntmps256
  go_wp2_with fail
  refine (off_nil _).mono ?_
  rintro e w1 ⟨rfl, rfl⟩
  go_wp2_with fail
  go_ret
  exact ⟨rfl, bl3 _ _ _ _⟩

theorem used_nil (w : World) :
    Calls Tryz.prog 214 #[.pointer none] w fun e w' => e = .returned (.int .i64 0) ∧ w = w' := by
  go_enter Tryz.func214, Tryz.ntmps214
  go_wp2_with fail
  go_ret
  exact ⟨rfl, rfl⟩

theorem down_nil (w : World) :
    Calls Tryz.prog 86 #[.pointer none] w fun e w' => e = .returned (.bool true) ∧ w = w' := by
  go_enter Tryz.func86, Tryz.ntmps86
  go_wp2_with fail
  go_ret
  exact ⟨rfl, rfl⟩

end Go.Proofs.YtcohbfabcdjefaaGreatDoor
namespace Go.Proofs.YtcohbfabcdjefaaGreatDoor
open Go.RowKit Go.Maps

theorem mem_fins {a : Nm × Fl} : ∀ {F : Fs} {x : Nm × Fl}, x ∈ fins a F ↔ x = a ∨ x ∈ F
  | [], x => by simp [fins]
  | y :: r, x => by
    unfold fins
    split
    · simp
    · rw [List.mem_cons, mem_fins, List.mem_cons]
      constructor
      · rintro (h | h | h)
        · exact .inr (.inl h)
        · exact .inl h
        · exact .inr (.inr h)
      · rintro (h | h | h)
        · exact .inr (.inl h)
        · exact .inl h
        · exact .inr (.inr h)
theorem fins_len {a : Nm × Fl} : ∀ {F : Fs}, (fins a F).length = F.length + 1
  | [] => rfl
  | y :: r => by
    unfold fins
    split
    · simp
    · simp [fins_len (F := r)]
theorem fins_up {a : Nm × Fl} : ∀ {F : Fs}, F.Pairwise (fun x y => bytesBefore x.1 y.1 = true) → (∀ y ∈ F, y.1 ≠ a.1) → (fins a F).Pairwise (fun x y => bytesBefore x.1 y.1 = true)
  | [], _, _ => by simp [fins]
  | y :: r, h, hn => by
    have h' := List.pairwise_cons.1 h
    unfold fins
    split
    · rename_i hb
      refine List.pairwise_cons.2 ⟨fun z hz => ?_, h⟩
      rcases List.mem_cons.1 hz with rfl | hz
      · exact hb
      · exact (before_lt _ _).2 (List.lt_trans ((before_lt _ _).1 hb) ((before_lt _ _).1 (h'.1 z hz)))
    · rename_i hb
      refine List.pairwise_cons.2 ⟨fun z hz => ?_, fins_up h'.2 (fun z hz => hn z (List.mem_cons_of_mem _ hz))⟩
      rcases mem_fins.1 hz with rfl | hz
      · have hlt : ¬ z.1 < y.1 := fun e => hb ((before_lt _ _).2 e)
        have hne := hn y (List.mem_cons_self ..)
        have hle : y.1 ≤ z.1 := List.not_lt.1 hlt
        refine (before_lt _ _).2 ?_
        rcases Decidable.em (y.1 < z.1) with h3 | h3
        · exact h3
        · exact absurd (List.le_antisymm hle (List.not_lt.1 h3)) hne
      · exact h'.1 z hz

/-- what the files of a fit disk are -/
structure Good (F : Fs) : Prop where
  sz : ∀ x ∈ F, x.2.data.size ≤ 1048576
  syn : ∀ x ∈ F, x.2.syn ≤ x.2.data.size
  nm : ∀ x ∈ F, x.1.length ≤ 32
  up : F.Pairwise (fun x y => bytesBefore x.1 y.1 = true)
theorem mem_fdel {F : Fs} {k : Nm} {x : Nm × Fl} : x ∈ fdel F k ↔ x ∈ F ∧ x.1 ≠ k := by
  unfold fdel; simp
theorem Good.del {F : Fs} (h : Good F) (k : Nm) : Good (fdel F k) :=
  ⟨fun x hx => h.sz x (mem_fdel.1 hx).1, fun x hx => h.syn x (mem_fdel.1 hx).1, fun x hx => h.nm x (mem_fdel.1 hx).1, h.up.filter _⟩
theorem Good.put {F : Fs} (h : Good F) (k : Nm) (f : Fl) (h1 : f.data.size ≤ 1048576) (h2 : f.syn ≤ f.data.size) (h3 : k.length ≤ 32) : Good (fput F k f) := by
  have hd := h.del k
  refine ⟨fun x hx => ?_, fun x hx => ?_, fun x hx => ?_, fins_up hd.up (fun y hy => (mem_fdel.1 hy).2)⟩
  · rcases mem_fins.1 hx with rfl | hx
    · exact h1
    · exact hd.sz x hx
  · rcases mem_fins.1 hx with rfl | hx
    · exact h2
    · exact hd.syn x hx
  · rcases mem_fins.1 hx with rfl | hx
    · exact h3
    · exact hd.nm x hx
theorem del_len (F : Fs) (k : Nm) : (fdel F k).length ≤ F.length := List.length_filter_le _ _
theorem del_lt {F : Fs} {k : Nm} {y : Fl} (h : fget F k = some y) : (fdel F k).length < F.length := by
  have hm := get_mem h
  unfold fdel
  refine Nat.lt_of_le_of_ne (List.length_filter_le _ _) (fun e => ?_)
  have := List.length_filter_eq_length_iff.1 e _ hm
  simp at this
theorem put_len (F : Fs) (k : Nm) (f : Fl) : (fput F k f).length = (fdel F k).length + 1 := fins_len
theorem Fit.good {d : Dk} (h : Fit d) : Good d.fs := ⟨h.sz, h.syn, h.nm, h.up⟩
theorem Fit.chg {d : Dk} (h : Fit d) (G : Fs → Fs) (be : Bool) (hg : Good (G d.fs)) (hl : (G d.fs).length ≤ 256) : Fit (chg d G be) := by
  unfold YtcohbfabcdjefaaGreatDoor.chg
  have h1 := h.flo
  have h2 := h.fhi
  split
  · cases be
    · exact ⟨h.len, by simp, by simp, h.rlo, h.rhi, h.sz, h.syn, h.nm, h.up⟩
    · exact ⟨hl, by simp, by simp, h.rlo, h.rhi, hg.sz, hg.syn, hg.nm, hg.up⟩
  · refine ⟨hl, ?_, ?_, h.rlo, h.rhi, hg.sz, hg.syn, hg.nm, hg.up⟩
    · dsimp only; split <;> omega
    · dsimp only; split <;> omega
theorem Fit.create {d : Dk} (h : Fit d) (k : Nm) : Fit (createD d k) := by
  unfold createD
  split; · exact h
  split; · exact h
  split; · exact h
  split; · exact h
  rename_i hn _ hl
  have hk : k.length ≤ 32 := by
    have : nameB k = true := by simpa using hn
    unfold nameB at this; simp at this; exact this.2
  refine h.chg _ _ (h.good.put k _ (by simp [ByteArray.size]) (by simp) hk) ?_
  have := put_len d.fs k ⟨⟨#[]⟩, 0⟩
  have := del_len d.fs k
  omega
theorem Fit.remove {d : Dk} (h : Fit d) (k : Nm) : Fit (removeD d k) := by
  unfold removeD
  split; · exact h
  split; · exact h
  exact h.chg _ _ (h.good.del k) (Nat.le_trans (del_len _ _) h.len)
theorem Fit.sync {d : Dk} (h : Fit d) (k : Nm) : Fit (syncD d k) := by
  unfold syncD
  split; · exact h
  split; · exact h
  rename_i y hy
  refine h.chg _ _ (h.good.put k _ (h.sz _ (get_mem hy)) (Nat.le_refl _) (h.nm _ (get_mem hy))) ?_
  have := put_len d.fs k ⟨y.data, y.data.size⟩
  have := del_lt hy
  have := h.len
  omega
theorem Fit.rename {d : Dk} (h : Fit d) (k j : Nm) : Fit (renameD d k j) := by
  unfold renameD
  split; · exact h
  split; · exact h
  rename_i y hy
  split; · exact h
  rename_i hn
  have hk : j.length ≤ 32 := by
    have : nameB j = true := by simpa using hn
    unfold nameB at this; simp at this; exact this.2
  refine h.chg _ _ ((h.good.del k).put j _ (h.sz _ (get_mem hy)) (h.syn _ (get_mem hy)) hk) ?_
  have := put_len (fdel d.fs k) j y
  have := del_len (fdel d.fs k) j
  have := del_lt hy
  have := h.len
  omega
theorem Fit.append {d : Dk} (h : Fit d) (k : Nm) (x : ByteArray) : Fit (appendD d k x) := by
  unfold appendD
  split; · exact h
  split; · exact h
  rename_i y hy
  split; · exact h
  split; · exact h
  rename_i hs _
  have hs1 : y.syn ≤ y.data.size := h.syn _ (get_mem hy)
  refine h.chg _ _ (h.good.put k _ (by simp; omega) (by simp; omega) (h.nm _ (get_mem hy))) ?_
  have := put_len d.fs k ⟨y.data ++ x, y.syn⟩
  have := del_lt hy
  have := h.len
  omega
theorem crash_names : ∀ (ks : List Int) (F : Fs), (crashF ks F).map (·.1) = F.map (·.1)
  | _, [] => rfl
  | ks, x :: r => by
    unfold crashF
    split <;> simp [crash_names]
theorem crash_sz : ∀ (ks : List Int) (F : Fs), (∀ x ∈ F, x.2.data.size ≤ 1048576 ∧ x.2.syn ≤ x.2.data.size) → ∀ x ∈ crashF ks F, x.2.data.size ≤ 1048576 ∧ x.2.syn ≤ x.2.data.size
  | _, [], _, _, hx => by simp [crashF] at hx
  | ks, y :: r, h, x, hx => by
    have hy := h y (List.mem_cons_self ..)
    have hr := fun ks' => crash_sz ks' r (fun z hz => h z (List.mem_cons_of_mem _ hz))
    unfold crashF at hx
    split at hx
    · rcases List.mem_cons.1 hx with rfl | hx
      · exact hy
      · exact hr _ x hx
    · rcases List.mem_cons.1 hx with rfl | hx
      · have := stays_le ks (y.2.data.size - y.2.syn)
        simp only [ByteArray.size_extract]
        omega
      · exact hr _ x hx
theorem Good.crash {F : Fs} (h : Good F) (ks : List Int) : Good (crashF ks F) := by
  have e := crash_sz ks F (fun x hx => ⟨h.sz x hx, h.syn x hx⟩)
  have hn := crash_names ks F
  refine ⟨fun x hx => (e x hx).1, fun x hx => (e x hx).2, fun x hx => ?_, ?_⟩
  · have : x.1 ∈ F.map (·.1) := by rw [← hn]; exact List.mem_map_of_mem hx
    obtain ⟨z, hz, hze⟩ := List.mem_map.1 this
    rw [← hze]; exact h.nm z hz
  · have h1 : (F.map (·.1)).Pairwise (fun a b => bytesBefore a b = true) := List.pairwise_map.2 h.up
    rw [← hn] at h1
    exact List.pairwise_map.1 h1
theorem crash_len (ks : List Int) (F : Fs) : (crashF ks F).length = F.length := by
  have := congrArg List.length (crash_names ks F)
  simpa using this
theorem Fit.crash {d : Dk} (h : Fit d) (ks : List Int) (b : Bool) : Fit { d with fs := crashF ks d.fs, down := b, fuse := 0 } := by
  have g := h.good.crash ks
  exact ⟨by show (crashF ks d.fs).length ≤ 256; rw [crash_len]; exact h.len, by simp, by simp, h.rlo, h.rhi, g.sz, g.syn, g.nm, g.up⟩
theorem Fit.start {d : Dk} (h : Fit d) : Fit (startD d) := by
  unfold startD
  split
  · exact h.crash [] false
  · exact h
theorem Fit.d0 : Fit d0 := ⟨by simp [YtcohbfabcdjefaaGreatDoor.d0], by simp [YtcohbfabcdjefaaGreatDoor.d0], by simp [YtcohbfabcdjefaaGreatDoor.d0], by simp [YtcohbfabcdjefaaGreatDoor.d0], by simp [YtcohbfabcdjefaaGreatDoor.d0], by simp [YtcohbfabcdjefaaGreatDoor.d0], by simp [YtcohbfabcdjefaaGreatDoor.d0], by simp [YtcohbfabcdjefaaGreatDoor.d0], by simp [YtcohbfabcdjefaaGreatDoor.d0]⟩
end Go.Proofs.YtcohbfabcdjefaaGreatDoor
