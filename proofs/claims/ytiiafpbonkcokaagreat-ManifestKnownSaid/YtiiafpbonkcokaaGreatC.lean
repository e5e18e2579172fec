/-
  A disk in memory ('DAt'); 'off', 'named', for every argument.
-/
import Derived.Test.YtiiafpbonkcokaaGreatB
namespace Go.Proofs.YtiiafpbonkcokaaGreat
open Go.RowKit Go.Maps

/-- a disk -/
structure Dk where
  fs : Fs
  down : Bool
  fuse : Int
  room : Int
/-- block b holds a disk, whose map is block m -/
structure DAt (w : World) (b m : Nat) (d : Dk) : Prop where
  c0 : w.cell? ⟨b, 0, none⟩ = some (.map (some m))
  c1 : w.cell? ⟨b, 1, none⟩ = some (.bool d.down)
  c2 : w.cell? ⟨b, 2, none⟩ = some (.int .i64 d.fuse)
  c3 : w.cell? ⟨b, 3, none⟩ = some (.int .i64 d.room)
  f0 : w.frozen? ⟨b, 0, none⟩ = false
  f1 : w.frozen? ⟨b, 1, none⟩ = false
  f2 : w.frozen? ⟨b, 2, none⟩ = false
  f3 : w.frozen? ⟨b, 3, none⟩ = false
  lt : b < w.heap.size
  map : HasMap w m d.fs
theorem DAt.ne {w : World} {b m : Nat} {d : Dk} (h : DAt w b m d) : b ≠ m := h.map.ne_cell h.c0
theorem DAt.but {w w' : World} {b m : Nat} {d : Dk} {l : List Nat} (h : DAt w b m d) (hb : But l w w') (h1 : b ∉ l) (h2 : m ∉ l) : DAt w' b m d :=
  ⟨(hb.cell h.lt h1).trans h.c0, (hb.cell h.lt h1).trans h.c1, (hb.cell h.lt h1).trans h.c2, (hb.cell h.lt h1).trans h.c3,
   (hb.frozen h.lt h1).trans h.f0, (hb.frozen h.lt h1).trans h.f1, (hb.frozen h.lt h1).trans h.f2, (hb.frozen h.lt h1).trans h.f3, Nat.lt_of_lt_of_le h.lt hb.size, h.map.heap (hb.block m h.map.lt h2)⟩
theorem DAt.below {w w' : World} {b m : Nat} {d : Dk} (h : DAt w b m d) (hb : Below w.heap.size w w') : DAt w' b m d :=
  h.but (l := []) (.of_below hb) (by simp) (by simp)
theorem bl1 (w : World) (x : Obj) : Below w.heap.size w (w.alloc x) := (Below.refl _ _).alloc (Nat.le_refl _) _
theorem bl2 (w : World) (x y : Obj) : Below w.heap.size w ((w.alloc x).alloc y) := (bl1 w x).alloc (by simp) _
theorem bl3 (w : World) (x y z : Obj) : Below w.heap.size w (((w.alloc x).alloc y).alloc z) := (bl2 w x y).alloc (by simp; omega) _
theorem ret_int {k : IntKind} {a b : Int} (h : a = b) : Ending.returned (.int k a) = .returned (.int k b) := by rw [h]
theorem ret_bool {a b : Bool} (h : a = b) : Ending.returned (.bool a) = .returned (.bool b) := by rw [h]

theorem off_nil (w : World) : Calls Tryz.prog 54 #[.pointer none] w fun e w' => e = .returned (.int .i64 2) ∧ w = w' := by
  go_enter Tryz.func54, Tryz.ntmps54
  go_wp2
  go_ret
  exact ⟨rfl, rfl⟩
theorem off_up (w : World) (b : Nat) (h : w.cell? ⟨b, 1, none⟩ = some (.bool false)) : Calls Tryz.prog 54 #[.pointer (some ⟨b, 0, none⟩)] w fun e w' => e = .returned (.int .i64 0) ∧ w = w' := by
  go_enter Tryz.func54, Tryz.ntmps54
  go_wp2
  go_ret
  exact ⟨rfl, rfl⟩
theorem off_down (w : World) (b : Nat) (h : w.cell? ⟨b, 1, none⟩ = some (.bool true)) : Calls Tryz.prog 54 #[.pointer (some ⟨b, 0, none⟩)] w fun e w' => e = .returned (.int .i64 7) ∧ w = w' := by
  go_enter Tryz.func54, Tryz.ntmps54
  go_wp2
  go_ret
  exact ⟨rfl, rfl⟩

/-- may a byte stand in a name? -/
def okc (c : UInt8) : Bool := (97 ≤ c && c ≤ 122) || (48 ≤ c && c ≤ 57) || c == 46 || c == 45
/-- is a text a name? -/
def nameB (l : Nm) : Bool := l.all okc && decide (0 < l.length) && decide (l.length ≤ 32)

theorem okc_iff (c : UInt8) : okc c = true ↔ (97 ≤ (c.toNat : Int) ∧ (c.toNat : Int) ≤ 122) ∨ (48 ≤ (c.toNat : Int) ∧ (c.toNat : Int) ≤ 57) ∨ (c.toNat : Int) = 46 ∨ (c.toNat : Int) = 45 := by
  have h46 : c = 46 ↔ (c.toNat : Int) = 46 := ⟨fun h => by subst h; rfl, fun h => UInt8.toNat_inj.1 (by show c.toNat = 46; omega)⟩
  have h45 : c = 45 ↔ (c.toNat : Int) = 45 := ⟨fun h => by subst h; rfl, fun h => UInt8.toNat_inj.1 (by show c.toNat = 45; omega)⟩
  simp only [okc, Bool.or_eq_true, Bool.and_eq_true, decide_eq_true_eq, beq_iff_eq, h46, h45, UInt8.le_iff_toNat_le]
  have a : (97 : UInt8).toNat = 97 := rfl
  have b : (122 : UInt8).toNat = 122 := rfl
  have d : (48 : UInt8).toNat = 48 := rfl
  have e : (57 : UInt8).toNat = 57 := rfl
  rw [a, b, d, e]
  omega

theorem name_all (s : ByteArray) (h : ∀ (j : Nat) (h : j < s.size), okc s[j] = true) : nameB s.data.toList = (decide (0 < s.size) && decide (s.size ≤ 32)) := by
  have hall : s.data.toList.all okc = true := by
    rw [List.all_eq_true]
    intro x hx
    obtain ⟨j, hj, rfl⟩ := List.getElem_of_mem hx
    have := h j (by simpa using hj)
    simp only [Array.getElem_toList]
    exact this
  simp only [nameB, hall, Bool.true_and, Array.length_toList]
  rfl
theorem name_bad (s : ByteArray) (k : Nat) (hk : k < s.size) (h : okc s[k] = false) : nameB s.data.toList = false := by
  have hall : s.data.toList.all okc = false := by
    rw [List.all_eq_false]
    refine ⟨s[k], ?_, by simp [h]⟩
    exact List.mem_iff_getElem.2 ⟨k, by simpa using hk, by simp; rfl⟩
  simp [nameB, hall]

set_option maxHeartbeats 400000 in
theorem named_any (s : ByteArray) (w : World) (hs : s.size ≤ maxLen) :
    Calls Tryz.prog 55 #[.string s] w fun e w' => e = .returned (.bool (nameB s.data.toList)) ∧ w = w' := by
  unfold maxLen at hs
  go_enter Tryz.func55, Tryz.ntmps55
  go_wp2
  go_loop [7] (fun i => ∃ k : Nat, k ≤ s.size ∧ i = .int .i64 k ∧ Hid (∀ (j : Nat) (h : j < s.size), j < k → okc s[j] = true)) (fun i => s.size - (intOf i).toNat)
  case atStart => exact ⟨0, Nat.zero_le _, rfl, fun j _ h => by omega⟩
  case round =>
    obtain ⟨k, hk, rfl, HA⟩ := hrel
    by_cases hlt : k < s.size
    · have step : okc s[k] = true → Hid (∀ (j : Nat) (h : j < s.size), j < k + 1 → okc s[j] = true) := fun hok j hj hjk => by
        by_cases e : j = k
        · subst e; exact hok
        · exact HA.out j hj (by omega)
      have HS := Lib.hid step
      have HB := Lib.hid (name_bad s k hlt)
      have HI := Lib.hid (okc_iff s[k])
      clear step HA
      go_wp2
      all_goals first
        | (go_ret
           refine ⟨ret_bool (HB.out (Bool.eq_false_iff.2 fun hc => ?_)).symm, rfl⟩
           have h1 := HI.out.1 hc
           go_tidy
           simp only [bne_iff_ne, ne_eq] at *
           omega)
        | (refine ⟨⟨k + 1, by omega, by go_num, HS.out (HI.out.2 ?_)⟩, by simp [intOf]; omega⟩
           go_tidy
           simp only [bne_eq_false_iff_eq] at *
           omega)
    · have hk' : k = s.size := by omega
      have hn := name_all s (fun j hj => HA.out j hj (by omega))
      have HN := Lib.hid hn
      clear hn HA hk'
      go_wp2
      all_goals
        go_ret
        refine ⟨ret_bool ?_, rfl⟩
        rw [HN.out]
        clear HN
        go_tidy
        first | (simp [*]; done) | (simp [*]; omega)
end Go.Proofs.YtiiafpbonkcokaaGreat
