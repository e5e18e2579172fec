/-
  'maps.Equal' at two maps that read alike; 'Same' at two disks that are alike.
-/
import Derived.Test.YtmhflhbogkkblaaP
import Derived.Maps.RangeWalk
import Derived.Sort.KeysCollected
import Derived.Laws.StructEq
import Derived.Deep.QuietTactic
import Derived.BigQuiet
import Derived.StillTailTactics
namespace Go.Proofs.Ytmhflhbogkkblaa
open Go.RowKit Go.Maps

set_option maxRecDepth 100000 in
set_option maxHeartbeats 1000000 in
theorem equal_call (w : World) (m n : Nat) (F : Fs) (h : HasMap w m F) (h2 : HasMap w n F) (hnm : ∀ x ∈ F, x.1.length ≤ 32) :
    Calls Try.prog 44 #[.map (some m), .map (some n)] w fun e w' => e = .returned (.bool true) ∧ Below w.heap.size w w' := by
  have hlen1 := h.len
  have hlen2 := h2.len
  have hown := h
  unfold HasMap at hown
  have HO := Lib.hid hown
  have H2 := Lib.hid h2
  have HN := Lib.hid hnm
  clear hown h h2 hnm
  go_enter Try.func44, Try.ntmps44
  go_wp2_with (first
    | (at_range; refine wpList_range_own _ rfl _ 57 rfl 9 62 keyLaw Try.underlying57 fileElem m F.length (dat F) rfl HO.out ?_; intro w0 hrg0 hg0 hs0)
    | fail)
  go_frame
  have HG0 := Lib.hid hg0
  have HR0 := Lib.hid hrg0
  clear hg0 hrg0 hs0 hlen1 hlen2
  go_loopw [5] (fun _ wr => ∃ (left : Lit → Bool) (cnt : Nat), Hid (wr.ranges Try.prog 9 fileElem m w.heap.size F.length (dat F) left cnt) ∧ Hid (Below w.heap.size w wr))
    (fun _ wr => wr.rangeLeft m w.heap.size)
  case atStart =>
    exact ⟨_, _, HR0, (Below.refl _ _).grown HG0.out (Nat.le_refl _) (fun k hk => by cases hk)⟩
  case round =>
    obtain ⟨left, cnt, HR, HB⟩ := hrel
    go_wp2_with (first
      | (at_next; refine wpList_next_ranges _ rfl _ rfl 9 keyLaw fileElem (fun l : List UInt8 => Value.string ⟨l.toArray⟩) (fun v : Value => v) (fun key kl hk => by obtain ⟨x, hx, _⟩ := Maps.keyOf_str Try.underlying9 hk; exact ⟨x, hx⟩) (fun v y hv => ⟨v, rfl⟩) m w.heap.size F.length _ _ _ rfl HR.out ?_ ?_)
      | fail)
    · intro _ hl0
      clear hl0
      go_wp2
      go_ret
      exact ⟨rfl, HB.out⟩
    · intro x c kl yd yp w2 cnt2 hkey hlk hv hat hrg2 hlt hg2 hs2 hen
      obtain ⟨x', ex, rfl, _⟩ := Maps.keyOf_str Try.underlying9 hkey
      obtain rfl : x = x' := encStr_inj ex
      clear hkey ex hs2 hlk
      simp only [fileElem, Option.some.injEq, Prod.mk.injEq] at hv
      obtain ⟨rfl, rfl⟩ := hv
      have hx : ∃ f, fget F x = some f ∧ c = fval f := by
        have h1 := hat .nil
        rw [dat_at] at h1
        cases hf : fget F x with
        | none => rw [hf] at h1; cases h1
        | some f => rw [hf] at h1; exact ⟨f, rfl, by simpa using h1.symm⟩
      obtain ⟨f, hf, rfl⟩ := hx
      have HB2 := Lib.hid (HB.out.grown hg2 HB.out.size (fun j hj => by cases hj; exact Nat.le_refl _))
      have hm2 : HasMap w2 n F := H2.out.heap (HB2.out.block n H2.out.lt)
      have hlk := (hm2.alloc (.cells #[.string f.data, .int .i64 f.syn] 62)).look_ok (s := ⟨x.toArray⟩) (by have := HN.out _ (get_mem hf); unfold maxLen; simp [ByteArray.size] at this ⊢; omega)
      rw [show found F (ByteArray.data ⟨x.toArray⟩).toList = .agg #[.string f.data, .int .i64 f.syn] from (found_some (by simpa using hf)).1, show fhas F (ByteArray.data ⟨x.toArray⟩).toList = true from by rw [fhas_get]; simp [hf]] at hlk
      have HR2 := Lib.hid hrg2
      have HLT := Lib.hid hlt
      clear hat hg2 hrg2 hlt hf hm2
      replace hen : (Instr.entry (.pointer (some ⟨w.heap.size, 0, none⟩))).run Try.prog w2 = .ok (.tuple #[.string ⟨x.toArray⟩, .agg #[.string f.data, .int .i64 f.syn]]) w2 := hen
      simp only [fval]
      go_wp2_with fail
      have hr3 := (HR2.out.alloc (.cells #[.string f.data, .int .i64 f.syn] 62)).alloc (.cells #[.string f.data, .int .i64 f.syn] 62)
      refine ⟨⟨_, cnt2, Lib.hid hr3, Lib.hid ((HB2.out.alloc HB2.out.size _).alloc (by simp; have := HB2.out.size; omega) _)⟩, ?_⟩
      rw [hr3.left_eq, HR.out.left_eq]
      exact HLT.out

set_option maxRecDepth 100000 in
set_option maxHeartbeats 1000000 in
/-- two disks that are alike, one and the same too -/
theorem same_any (w : World) (b m c n : Nat) (d : Dk) (h : DAt w b m d) (h2 : DAt w c n d) (ok : Fit d) :
    Calls Try.prog 31 #[.pointer (some ⟨b, 0, none⟩), .pointer (some ⟨c, 0, none⟩)] w fun e w' => e = .returned (.bool true) ∧ Below w.heap.size w w' := by
  have a0 := h.c0
  have a1 := h.c1
  have a2 := h.c2
  have a3 := h.c3
  have c0 := h2.c0
  have c1 := h2.c1
  have c2 := h2.c2
  have c3 := h2.c3
  have HD := Lib.hid h
  have HE := Lib.hid h2
  have HK := Lib.hid ok
  clear h h2 ok
  go_enter Try.func31, Try.ntmps31
  go_wp2_with fail
  go_still_tail 40, (by kernel_rfl)
  change wpList _ _ _ _ _ w.drew
  have HD1 := Lib.hid HD.out.drew
  have HE1 := Lib.hid HE.out.drew
  have HB1 := Lib.hid (show Below w.heap.size w w.drew from (Below.refl _ _).drew)
  have HZ := Lib.hid (show w.drew.heap.size = w.heap.size from rfl)
  generalize w.drew = w2 at *
  go_wp2_with fail
  refine (equal_call _ m n d.fs HD1.out.map HE1.out.map HK.out.nm).mono ?_
  rintro e w3 ⟨rfl, hb⟩
  have HB3 := Lib.hid (HB1.out.trans (hb.mono HB1.out.size))
  clear hb
  go_wp2_with fail
  go_ret
  exact ⟨rfl, HB3.out⟩
theorem same_nil (w : World) : Calls Try.prog 31 #[.pointer none, .pointer none] w fun e w' => e = .returned (.bool true) ∧ w = w' := by
  go_enter Try.func31, Try.ntmps31
  go_wp2
  go_ret
  exact ⟨rfl, rfl⟩
end Go.Proofs.Ytmhflhbogkkblaa
