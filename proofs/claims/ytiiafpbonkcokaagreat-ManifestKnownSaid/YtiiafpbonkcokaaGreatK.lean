/-
  'List', for every disk: the names, as they rise.
-/
import Derived.Test.YtiiafpbonkcokaaGreatJ
import Derived.Test.YtiiafpbonkcokaaGreatS
namespace Go.Proofs.YtiiafpbonkcokaaGreat
open Go.RowKit Go.Maps

theorem before_lt : ∀ a b : Nm, bytesBefore a b = true ↔ a < b
  | [], [] => by simp [bytesBefore]
  | [], _ :: _ => by simp [bytesBefore]
  | _ :: _, [] => by simp [bytesBefore]
  | a :: r, b :: s => by
    rw [List.cons_lt_cons_iff]
    simp only [bytesBefore, Bool.or_eq_true, decide_eq_true_eq, Bool.and_eq_true, beq_iff_eq, before_lt r s]
def names (F : Fs) : List Nm := F.map (·.1)
theorem strKeys_dat (F : Fs) : strKeys (dat F) = names F := by
  simp only [strKeys, dat, names, List.map_map]
  rfl
theorem sorted_names {F : Fs} (h : F.Pairwise (fun x y => bytesBefore x.1 y.1 = true)) : (names F).mergeSort leB = names F := by
  refine List.mergeSort_of_pairwise ?_
  unfold names
  rw [List.pairwise_map]
  refine h.imp (fun hxy => ?_)
  have := (before_lt _ _).1 hxy
  simp only [decide_eq_true_eq]
  exact List.le_of_lt this

/-- v is a slice from block B on that holds the texts l -/
def StrsAt (w : World) (B : Nat) (v : Value) (l : List Nm) : Prop := w.ownsRow B 9 1 v l.length (l.map encStr) ∧ (v = .slice none 0 0 ↔ l = [])

theorem keys_call (m : Nat) (W : World) : Calls Tryz.prog 65 #[.map (some m)] W fun e w' => e = .returned (.func (.func 90) #[] #[.pointer (some ⟨W.heap.size, 0, none⟩)]) ∧ w' = W.alloc (.cells #[.map (some m)] 89) :=
  callsIn_wide.1 (Tryz.maps_Keys_65 (some m) W)

theorem sorted_call (w : World) (m : Nat) (F : Fs) (h : HasMap w m F) (hn : F.length ≤ 256) (hup : F.Pairwise (fun x y => bytesBefore x.1 y.1 = true)) :
    Calls Tryz.prog 64 #[.func (.func 90) #[] #[.pointer (some ⟨w.heap.size, 0, none⟩)]] (w.alloc (.cells #[.map (some m)] 89)) fun e w' =>
      (∃ v, e = .returned v ∧ StrsAt w' w.heap.size v (names F)) ∧ Below w.heap.size w w' := by
  have hsz : Maps.size (dat F) ≤ 256 := by rw [dat_size]; exact hn
  refine (callsIn_wide.1 (Tryz.slices_Sorted_keys_64_65 m F.length (dat F) fileElem w h (by unfold maxLen; omega) (by omega))).mono ?_
  rintro e w' ⟨v, ss, rfl, hp, hrow, hnil, hb⟩
  rw [strKeys_dat] at hp
  have e1 : ss.mergeSort (fun x y => decide (x ≤ y)) = names F := (mergeSort_of_perm hp).trans (sorted_names hup)
  have e2 : ss.length = (names F).length := hp.length_eq
  rw [e1, e2] at hrow
  refine ⟨⟨v, rfl, ?_, hnil.trans ⟨fun e => ?_, fun e => ?_⟩⟩, ((Below.refl _ _).alloc (Nat.le_refl _) _).trans (hb.mono (by simp))⟩
  · obtain ⟨h1, h2⟩ := hrow
    refine ⟨h1, ?_⟩
    rcases h2 with h2 | ⟨g, cap, cur, hv, hg, r⟩
    · exact .inl h2
    · exact .inr ⟨g, cap, cur, hv, by simp at hg; omega, r⟩
  · subst e; simpa using hp
  · rw [e] at hp; simpa using hp

theorem list_any (w : World) (b m : Nat) (d : Dk) (h : DAt w b m d) (ok : Fit d) :
    Calls Tryz.prog 49 #[.pointer (some ⟨b, 0, none⟩)] w fun e w' => (∃ v, e = .returned v ∧ StrsAt w' w.heap.size v (names d.fs)) ∧ Below w.heap.size w w' := by
  have c0 := h.c0
  have HC := Lib.hid (sorted_call w m d.fs h.map ok.len ok.up)
  clear h ok
  go_enter Tryz.func49, Tryz.ntmps49
  go_wp2_with fail
  refine (keys_call m _).mono ?_
  rintro e w1 ⟨rfl, rfl⟩
  go_wp2_with fail
  refine HC.out.mono ?_
  rintro e w1 ⟨⟨v, rfl, hs⟩, hb⟩
  have HS := Lib.hid hs
  have HB := Lib.hid hb
  clear hs hb HC
  go_wp2_with fail
  go_ret
  exact ⟨⟨v, rfl, HS.out⟩, HB.out⟩
theorem list_nil (w : World) : Calls Tryz.prog 49 #[.pointer none] w fun e w' => e = .returned (.slice none 0 0) ∧ w = w' := by
  go_enter Tryz.func49, Tryz.ntmps49
  go_wp2
  go_ret
  exact ⟨rfl, rfl⟩
end Go.Proofs.YtiiafpbonkcokaaGreat
