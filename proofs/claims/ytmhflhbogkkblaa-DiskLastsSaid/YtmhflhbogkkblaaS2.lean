/-
  What the kit proves of maps.Clone, laid at this translation by the kit's own program (lay-plain.mjs).
-/
import Derived.Shelf.SlMaps.Clone
import Derived.Ground.SlmcProg
import Derived.Test.YtmhflhbogkkblaaProg
namespace Go.Proofs
open Go.Shelf
def Try.clone_ren : Go.Shelf.Ren := ⟨fun | 5 => 43 | 7 => 48 | n => n, fun | 23 => 57 | 25 => 9 | 3 => 62 | 4 => 4 | 20 => 20 | n => n, fun | n => n⟩
theorem Try.clone : Go.Proofs.SlLaysW.n5 Try.prog Try.clone_ren := {
  mixed := by kernel_rfl
  f5 := ⟨Try.f43.name, by decide, Try.func43.trans (congrArg some (by kernel_rfl))⟩
  f7 := Try.func48.trans (congrArg some (by kernel_rfl))
  t4 := Try.underlying4
  a4 := Try.isAgg4
  z4 := Try.sizeOf4
  v4 := Try.zeroValue4
  t20 := Try.underlying20
  a20 := Try.isAgg20
  z20 := Try.sizeOf20
  v20 := Try.zeroValue20
  t23 := Try.underlying57
  a23 := Try.isAgg57
  z23 := Try.sizeOf57
  v23 := Try.zeroValue57 }
end Go.Proofs
