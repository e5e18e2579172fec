/-
  'Append' and 'Drop' of any log, told in one contract each.
-/
import Derived.Test.YtkpoecofblhggaaGreatDoorOk
namespace Go.Proofs.YtkpoecofblhggaaGreatDoor
open Go.RowKit Go.Maps

theorem wappend_any (w : World) (b sb ob db m : Nat) (d : Dk) (x : Lg) (s : ByteArray) (h : WD w b sb ob db m d x) (hl : x.log.size ≤ 1000) (hla : x.last < 98) (hol : x.old.length ≤ 1000) (hz : x.size ≤ 1048576) (hs : s.size ≤ maxLen) :
    Calls Tryz.prog 10 #[.pointer (some ⟨b, 0, none⟩), .string s] w (ApP w b sb ob db m d x s) := by
  by_cases hb : 65536 < s.size
  · exact wappend_long w b sb ob db m d x s h hs hb
  by_cases ho : offE d x = 0
  · by_cases hz2 : 16384 ≤ x.size
    · exact wappend_turn w b sb ob db m d x s h hl hla hol hz2 hz (by omega) ho
    · exact wappend_put w b sb ob db m d x s h hl hla (by omega) (by omega) ho
  · exact wappend_off w b sb ob db m d x s h hl (by omega) ho
theorem wdrop_any (w : World) (b sb ob db m : Nat) (d : Dk) (x : Lg) (n : Int) (h : WD w b sb ob db m d x) (hl : x.log.size ≤ 1000) (hol : x.old.length ≤ 999) (ho1 : ∀ k ∈ x.old, k < 100) (hfr : x.fr < 100) (hla : x.last < 99) :
    Calls Tryz.prog 18 #[.pointer (some ⟨b, 0, none⟩), .int .i64 n] w (DropP w b sb ob db m (dropS d x n)) := by
  by_cases ho : offE d x = 0
  · by_cases hn : (x.last : Int) ≤ n ∧ x.fr ≤ x.last
    · exact wdrop_turn w b sb ob db m d x n h hl hol ho1 hfr hla ho hn.1 hn.2
    · exact wdrop_go w b sb ob db m d x n h hl (by omega) ho1 hfr (by omega) ho hn
  · exact wdrop_off w b sb ob db m d x n h hl ho
end Go.Proofs.YtkpoecofblhggaaGreatDoor
