/-
  Joined: A2, H.
-/
import Derived.Test.YtcohbfabcdjefaaGreatDoorD
import Derived.Test.YtcohbfabcdjefaaGreatDoorG
import Derived.Maps.RangeWalk
import Derived.Sort.KeysCollected
namespace Go.Proofs.YtcohbfabcdjefaaGreatDoor
open Go.Maps

def total (F : Fs) : Nat := (F.map (fun x => x.2.data.size)).sum
/-- those that are counted already: 'left' tells which are still to come -/
def counted (F : Fs) (left : Lit → Bool) : Nat := total (F.filter fun x => !left (.string x.1))
theorem total_cons (x : Nm × Fl) (F : Fs) : total (x :: F) = x.2.data.size + total F := by simp [total]
theorem counted_cons (x : Nm × Fl) (F : Fs) (left : Lit → Bool) : counted (x :: F) left = (if left (.string x.1) then 0 else x.2.data.size) + counted F left := by
  unfold counted
  rw [List.filter_cons]
  cases left (.string x.1) <;> simp [total_cons]
theorem counted_none (F : Fs) (left : Lit → Bool) (h : ∀ x ∈ F, left (.string x.1) = true) : counted F left = 0 := by
  induction F with
  | nil => rfl
  | cons x r ih => rw [counted_cons, h x (List.mem_cons_self ..), ih (fun y hy => h y (List.mem_cons_of_mem _ hy))]; rfl
theorem counted_all (F : Fs) (left : Lit → Bool) (h : ∀ kl, left kl = false) : counted F left = total F := by
  induction F with
  | nil => rfl
  | cons x r ih => rw [counted_cons, h, ih, total_cons]; rfl
theorem has_dent {F : Fs} {x : Nm × Fl} (h : x ∈ F) : Maps.has (dat F) (.string x.1) = true := by
  rw [dat_has, fhas, List.any_eq_true]
  exact ⟨x, h, by simp⟩
theorem counted_same (F : Fs) (left left' : Lit → Bool) (h : ∀ x ∈ F, left (.string x.1) = left' (.string x.1)) : counted F left = counted F left' := by
  induction F with
  | nil => rfl
  | cons x r ih => rw [counted_cons, counted_cons, h x (List.mem_cons_self ..), ih (fun y hy => h y (List.mem_cons_of_mem _ hy))]
theorem before_ne {a b : Nm} (h : bytesBefore a b = true) : a ≠ b := by
  rintro rfl
  have irr : ∀ l : Nm, bytesBefore l l = false := by
    intro l
    induction l with
    | nil => rfl
    | cons x r ih => simp [bytesBefore, ih]
  rw [irr] at h
  cases h
theorem counted_step {F : Fs} (hup : F.Pairwise (fun x y => bytesBefore x.1 y.1 = true)) {k : Nm} {f : Fl} (hg : fget F k = some f) (left : Lit → Bool) (hl : left (.string k) = true) :
    counted F (fun z => left z && !z.sameKey (.string k)) = counted F left + f.data.size := by
  induction F with
  | nil => simp [fget] at hg
  | cons x r ih =>
    rw [List.pairwise_cons] at hup
    rw [counted_cons, counted_cons]
    simp only [fget, List.find?_cons] at hg
    cases hx : x.1 == k with
    | true =>
      rw [hx] at hg
      simp only [Option.map_some, Option.some.injEq] at hg
      have hk : x.1 = k := by simpa using hx
      have e : (Lit.string x.1).sameKey (.string k) = true := by rw [sameKey_str]; exact hx
      rw [hk] at e ⊢
      rw [hl, e]
      have hr : counted r (fun z => left z && !z.sameKey (.string k)) = counted r left := by
        refine counted_same _ _ _ (fun y hy => ?_)
        have hne : y.1 ≠ k := fun e => before_ne (hup.1 y hy) (hk.trans e.symm)
        have : (Lit.string y.1).sameKey (.string k) = false := by rw [sameKey_str]; simpa using hne
        rw [this]; simp
      rw [hr, ← hg]
      simp
      omega
    | false =>
      rw [hx] at hg
      have e : (Lit.string x.1).sameKey (.string k) = false := by rw [sameKey_str]; exact hx
      rw [e, ih hup.2 hg]
      simp
      omega
theorem total_le (F : Fs) (h : ∀ x ∈ F, x.2.data.size ≤ 1048576) : total F ≤ F.length * 1048576 := by
  induction F with
  | nil => simp [total]
  | cons x r ih =>
    rw [total_cons, List.length_cons]
    have := h x (List.mem_cons_self ..)
    have := ih (fun y hy => h y (List.mem_cons_of_mem _ hy))
    omega
theorem counted_le (F : Fs) (left : Lit → Bool) : counted F left ≤ total F := by
  induction F with
  | nil => simp [counted, total]
  | cons x r ih =>
    rw [counted_cons, total_cons]
    split <;> omega
end Go.Proofs.YtcohbfabcdjefaaGreatDoor
namespace Go.Proofs.YtcohbfabcdjefaaGreatDoor
open Go.RowKit Go.Maps

set_option maxHeartbeats 400000 in
theorem used_any (w : World) (b m : Nat) (d : Dk) (h : DAt w b m d) (ok : Fit d) :
    Calls Tryz.prog 214 #[.pointer (some ⟨b, 0, none⟩)] w fun e w' => e = .returned (.int .i64 (total d.fs)) ∧ Below w.heap.size w w' := by
  have c0 := h.c0
  have hown := h.map
  have HT := Lib.hid (show total d.fs ≤ 268435456 by have := total_le d.fs ok.sz; have := ok.len; omega)
  have HU := Lib.hid ok.up
  unfold HasMap at hown
  have HO := Lib.hid hown
  clear hown h ok
  go_enter Tryz.func214, Tryz.ntmps214
  go_wp2_with (first
    | (at_range; refine wpList_range_own _ rfl _ 58 rfl 9 215 keyLaw Tryz.underlying58 fileElem m d.fs.length (dat d.fs) rfl HO.out ?_; intro w0 hrg0 hg0 hs0)
    | fail)
  go_frame
  have HG0 := Lib.hid hg0
  have HR0 := Lib.hid hrg0
  clear hg0 hrg0 hs0
  go_loopw [3] (fun n wr => ∃ (left : Lit → Bool) (cnt : Nat), n = .int .i64 (counted d.fs left) ∧ Hid (wr.ranges Tryz.prog 9 fileElem m w.heap.size d.fs.length (dat d.fs) left cnt) ∧ Hid (Below w.heap.size w wr))
    (fun _ wr => wr.rangeLeft m w.heap.size)
  case atStart =>
    refine ⟨_, _, ?_, HR0, (Below.refl _ _).grown HG0.out (Nat.le_refl _) (fun k hk => by cases hk)⟩
    rw [counted_none _ _ (fun x hx => has_dent hx)]; rfl
  case round =>
    obtain ⟨left, cnt, rfl, HR, HB⟩ := hrel
    have hle := counted_le d.fs left
    have hle2 := HT.out
    go_wp2_with (first
      | (at_next; refine wpList_next_ranges _ rfl _ rfl 9 keyLaw fileElem (fun l : List UInt8 => Value.string ⟨l.toArray⟩) (fun v : Value => v) (fun key kl hk => by obtain ⟨x, hx, _⟩ := Maps.keyOf_str Tryz.underlying9 hk; exact ⟨x, hx⟩) (fun v y hv => ⟨v, rfl⟩) m w.heap.size d.fs.length _ _ _ rfl HR.out ?_ ?_)
      | fail)
    · intro _ hl0
      have HL := Lib.hid hl0
      clear hl0
      go_wp2
      go_ret
      exact ⟨ret_int (by rw [counted_all _ _ HL.out]), HB.out⟩
    · intro x c kl yd yp w2 cnt2 hkey hlk hv hat hrg2 hlt hg2 hs2 hen
      obtain ⟨x', ex, rfl, _⟩ := Maps.keyOf_str Tryz.underlying9 hkey
      obtain rfl : x = x' := encStr_inj ex
      clear hkey ex hs2
      simp only [fileElem, Option.some.injEq, Prod.mk.injEq] at hv
      obtain ⟨rfl, rfl⟩ := hv
      have hx : ∃ f, fget d.fs x = some f ∧ c = fval f := by
        have h1 := hat .nil
        rw [dat_at] at h1
        cases hf : fget d.fs x with
        | none => rw [hf] at h1; cases h1
        | some f => rw [hf] at h1; exact ⟨f, rfl, by simpa using h1.symm⟩
      obtain ⟨f, hf, rfl⟩ := hx
      have hst := counted_step HU.out hf left hlk
      have hle3 := counted_le d.fs (fun z => left z && !z.sameKey (.string x))
      have HS := Lib.hid hst
      have hsum : counted d.fs left + f.data.size ≤ total d.fs := by omega
      have HB2 := Lib.hid (HB.out.grown hg2 HB.out.size (fun j hj => by cases hj; exact Nat.le_refl _))
      have HR2 := Lib.hid hrg2
      have HLT := Lib.hid hlt
      clear hat hst hg2 hrg2 hlt hf hle3
      replace hen : (Instr.entry (.pointer (some ⟨w.heap.size, 0, none⟩))).run Tryz.prog w2 = .ok (.tuple #[.string ⟨x.toArray⟩, .agg #[.string f.data, .int .i64 f.syn]]) w2 := hen
      simp only [fval]
      go_wp2_with fail
      go_roundw
      case rel =>
        refine ⟨_, cnt2, ?_, HR2.out.alloc _, HB2.out.alloc HB2.out.size _⟩
        rw [HS.out]; go_num
      case measure => rw [(HR2.out.alloc _).left_eq, HR.out.left_eq]; exact HLT.out
end Go.Proofs.YtcohbfabcdjefaaGreatDoor
