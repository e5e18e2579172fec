/-
  'Used', for every disk.
-/
import Derived.Test.YtiiafpbonkcokaaGreatG
import Derived.Test.YtiiafpbonkcokaaGreatA2
import Derived.Maps.RangeWalk
import Derived.Sort.KeysCollected
namespace Go.Proofs.YtiiafpbonkcokaaGreat
open Go.RowKit Go.Maps

set_option maxHeartbeats 400000 in
theorem used_any (w : World) (b m : Nat) (d : Dk) (h : DAt w b m d) (ok : Fit d) :
    Calls Tryz.prog 92 #[.pointer (some ⟨b, 0, none⟩)] w fun e w' => e = .returned (.int .i64 (total d.fs)) ∧ Below w.heap.size w w' := by
  have c0 := h.c0
  have hown := h.map
  have HT := Lib.hid (show total d.fs ≤ 268435456 by have := total_le d.fs ok.sz; have := ok.len; omega)
  have HU := Lib.hid ok.up
  unfold HasMap at hown
  have HO := Lib.hid hown
  clear hown h ok
  go_enter Tryz.func92, Tryz.ntmps92
  go_wp2_with (first
    | (at_range; refine wpList_range_own _ rfl _ 89 rfl 9 95 keyLaw Tryz.underlying89 fileElem m d.fs.length (dat d.fs) rfl HO.out ?_; intro w0 hrg0 hg0 hs0)
    | fail)
  go_frame
  have HG0 := Lib.hid hg0
  have HR0 := Lib.hid hrg0
  clear hg0 hrg0 hs0
  go_loopw [3] (fun n wr => ∃ (left : Lit → Bool) (cnt : Nat), n = .int .i64 (counted d.fs left) ∧ Hid (wr.ranges Tryz.prog 9 fileElem m w.heap.size d.fs.length (dat d.fs) left cnt) ∧ Hid (Below w.heap.size w wr))
    (fun _ wr => wr.rangeLeft m w.heap.size)
  case atStart =>
    refine ⟨_, _, ?_, HR0, (Below.refl _ _).grown HG0.out (Nat.le_refl _) (fun k hk => by cases hk)⟩
    rw [counted_none _ _ (fun x hx => has_dent hx)]; rfl
  case round =>
    obtain ⟨left, cnt, rfl, HR, HB⟩ := hrel
    have hle := counted_le d.fs left
    have hle2 := HT.out
    go_wp2_with (first
      | (at_next; refine wpList_next_ranges _ rfl _ rfl 9 keyLaw fileElem (fun l : List UInt8 => Value.string ⟨l.toArray⟩) (fun v : Value => v) (fun key kl hk => by obtain ⟨x, hx, _⟩ := Maps.keyOf_str Tryz.underlying9 hk; exact ⟨x, hx⟩) (fun v y hv => ⟨v, rfl⟩) m w.heap.size d.fs.length _ _ _ rfl HR.out ?_ ?_)
      | fail)
    · intro _ hl0
      have HL := Lib.hid hl0
      clear hl0
      go_wp2
      go_ret
      exact ⟨ret_int (by rw [counted_all _ _ HL.out]), HB.out⟩
    · intro x c kl yd yp w2 cnt2 hkey hlk hv hat hrg2 hlt hg2 hs2 hen
      obtain ⟨x', ex, rfl, _⟩ := Maps.keyOf_str Tryz.underlying9 hkey
      obtain rfl : x = x' := encStr_inj ex
      clear hkey ex hs2
      simp only [fileElem, Option.some.injEq, Prod.mk.injEq] at hv
      obtain ⟨rfl, rfl⟩ := hv
      have hx : ∃ f, fget d.fs x = some f ∧ c = fval f := by
        have h1 := hat .nil
        rw [dat_at] at h1
        cases hf : fget d.fs x with
        | none => rw [hf] at h1; cases h1
        | some f => rw [hf] at h1; exact ⟨f, rfl, by simpa using h1.symm⟩
      obtain ⟨f, hf, rfl⟩ := hx
      have hst := counted_step HU.out hf left hlk
      have hle3 := counted_le d.fs (fun z => left z && !z.sameKey (.string x))
      have HS := Lib.hid hst
      have hsum : counted d.fs left + f.data.size ≤ total d.fs := by omega
      have HB2 := Lib.hid (HB.out.grown hg2 HB.out.size (fun j hj => by cases hj; exact Nat.le_refl _))
      have HR2 := Lib.hid hrg2
      have HLT := Lib.hid hlt
      clear hat hst hg2 hrg2 hlt hf hle3
      replace hen : (Instr.entry (.pointer (some ⟨w.heap.size, 0, none⟩))).run Tryz.prog w2 = .ok (.tuple #[.string ⟨x.toArray⟩, .agg #[.string f.data, .int .i64 f.syn]]) w2 := hen
      simp only [fval]
      go_wp2_with fail
      go_roundw
      case rel =>
        refine ⟨_, cnt2, ?_, HR2.out.alloc _, HB2.out.alloc HB2.out.size _⟩
        rw [HS.out]; go_num
      case measure => rw [(HR2.out.alloc _).left_eq, HR.out.left_eq]; exact HLT.out
end Go.Proofs.YtiiafpbonkcokaaGreat
