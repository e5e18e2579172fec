/-
  What the kit proves of slices.Sorted(maps.Keys(m)), laid at this translation by the kit's own programs (lay-iter.mjs, lay-plain.mjs).
-/
import Derived.Shelf.SlIter.Nil
import Derived.Shelf.SortM.Plain
import Derived.Shelf.SortM.SortNone
import Derived.Ground.GgzProg
import Derived.Ground.SlgmProg
import Derived.Test.YtcohbfabcdjefaaGreatDoorProg
namespace Go.Proofs
open Go.RowKit Go.Maps Go.Sort Go.Shelf
def Tryz.keys136_ren : Go.Shelf.Ren := ⟨fun | 7 => 136 | 10 => 199 | n => n, fun | 23 => 58 | 26 => 9 | 3 => 215 | 28 => 218 | 0 => 0 | 27 => 217 | 33 => 161 | 4 => 4 | n => n, fun | n => n⟩
theorem Tryz.keys136 : Go.Proofs.SlLaysZ.n7 Tryz.prog Tryz.keys136_ren := {
  mixed := by kernel_rfl
  f7 := ⟨Tryz.f136.name, by decide, Tryz.func136.trans (congrArg some (by kernel_rfl))⟩
  f10 := ⟨Tryz.f199.name, by decide, Tryz.func199.trans (congrArg some (by kernel_rfl))⟩
  t0 := Tryz.underlying0
  a0 := Tryz.isAgg0
  z0 := Tryz.sizeOf0
  v0 := Tryz.zeroValue0
  t4 := Tryz.underlying4
  a4 := Tryz.isAgg4
  z4 := Tryz.sizeOf4
  v4 := Tryz.zeroValue4
  t23 := Tryz.underlying58
  a23 := Tryz.isAgg58
  z23 := Tryz.sizeOf58
  v23 := Tryz.zeroValue58
  t26 := Tryz.underlying9
  a26 := Tryz.isAgg9
  z26 := Tryz.sizeOf9
  v26 := Tryz.zeroValue9
  t27 := Tryz.underlying217
  a27 := Tryz.isAgg217
  z27 := Tryz.sizeOf217
  v27 := Tryz.zeroValue217
  t28 := Tryz.underlying218
  a28 := Tryz.isAgg218
  z28 := Tryz.sizeOf218
  v28 := Tryz.zeroValue218
  t33 := Tryz.underlying161
  a33 := Tryz.isAgg161
  z33 := Tryz.sizeOf161
  v33 := Tryz.zeroValue161 }
def Tryz.sorted135_ren : Go.Shelf.Ren := ⟨fun | 6 => 135 | 8 => 197 | 9 => 198 | 11 => 243 | 13 => 204 | 12 => 244 | 23 => 255 | 24 => 174 | 14 => 279 | 15 => 280 | 16 => 281 | 17 => 282 | 18 => 283 | 19 => 284 | 20 => 285 | 21 => 286 | 22 => 287 | 25 => 307 | 26 => 289 | 27 => 290 | 28 => 308 | 29 => 309 | 30 => 310 | 31 => 313 | n => n, fun | 26 => 9 | 28 => 218 | 24 => 84 | 0 => 0 | 3 => 3 | 37 => 188 | 48 => 182 | 50 => 31 | 4 => 4 | 40 => 318 | 39 => 317 | 45 => 154 | 5 => 5 | 9 => 9 | 51 => 348 | 55 => 336 | 57 => 361 | 58 => 362 | 33 => 161 | n => n, fun | n => n⟩
theorem Tryz.sorted135 : Go.Proofs.SlLaysZ.n6 Tryz.prog Tryz.sorted135_ren := {
  mixed := by kernel_rfl
  f6 := ⟨Tryz.f135.name, by decide, Tryz.func135.trans (congrArg some (by kernel_rfl))⟩
  f8 := ⟨Tryz.f197.name, by decide, Tryz.func197.trans (congrArg some (by kernel_rfl))⟩
  f11 := ⟨Tryz.f243.name, by decide, Tryz.func243.trans (congrArg some (by kernel_rfl))⟩
  t0 := Tryz.underlying0
  a0 := Tryz.isAgg0
  z0 := Tryz.sizeOf0
  v0 := Tryz.zeroValue0
  t24 := Tryz.underlying84
  a24 := Tryz.isAgg84
  z24 := Tryz.sizeOf84
  v24 := Tryz.zeroValue84
  t26 := Tryz.underlying9
  a26 := Tryz.isAgg9
  z26 := Tryz.sizeOf9
  v26 := Tryz.zeroValue9
  t28 := Tryz.underlying218
  a28 := Tryz.isAgg218
  z28 := Tryz.sizeOf218
  v28 := Tryz.zeroValue218
  i26 := by kernel_rfl }
def Tryz.sort198_ren : Go.Shelf.Ren := ⟨fun | 6 => 198 | 8 => 204 | 9 => 244 | 19 => 255 | 20 => 174 | 21 => 279 | 22 => 280 | 23 => 281 | 24 => 282 | 25 => 283 | 26 => 284 | 27 => 285 | 28 => 286 | 29 => 287 | 36 => 307 | 31 => 289 | 32 => 290 | 37 => 308 | 38 => 309 | 39 => 310 | 41 => 313 | n => n, fun | 27 => 84 | 29 => 9 | 3 => 3 | 32 => 188 | 26 => 84 | 0 => 0 | 44 => 182 | 46 => 31 | 4 => 4 | 36 => 318 | 35 => 317 | 41 => 154 | 5 => 5 | 9 => 9 | 53 => 348 | 57 => 336 | 63 => 361 | 64 => 362 | n => n, fun | n => n⟩
theorem Tryz.sort198 : Go.Proofs.SlLaysM.n6 Tryz.prog Tryz.sort198_ren := {
  mixed := by kernel_rfl
  f6 := ⟨Tryz.f198.name, by decide, Tryz.func198.trans (congrArg some (by kernel_rfl))⟩
  f8 := Tryz.func204.trans (congrArg some (by kernel_rfl))
  f9 := ⟨Tryz.f244.name, by decide, Tryz.func244.trans (congrArg some (by kernel_rfl))⟩
  f19 := Tryz.func255.trans (congrArg some (by kernel_rfl))
  f20 := Tryz.func174.trans (congrArg some (by kernel_rfl))
  f21 := ⟨Tryz.f279.name, by decide, Tryz.func279.trans (congrArg some (by kernel_rfl))⟩
  f22 := ⟨Tryz.f280.name, by decide, Tryz.func280.trans (congrArg some (by kernel_rfl))⟩
  f23 := ⟨Tryz.f281.name, by decide, Tryz.func281.trans (congrArg some (by kernel_rfl))⟩
  f24 := ⟨Tryz.f282.name, by decide, Tryz.func282.trans (congrArg some (by kernel_rfl))⟩
  f25 := ⟨Tryz.f283.name, by decide, Tryz.func283.trans (congrArg some (by kernel_rfl))⟩
  f26 := ⟨Tryz.f284.name, by decide, Tryz.func284.trans (congrArg some (by kernel_rfl))⟩
  f27 := ⟨Tryz.f285.name, by decide, Tryz.func285.trans (congrArg some (by kernel_rfl))⟩
  f28 := ⟨Tryz.f286.name, by decide, Tryz.func286.trans (congrArg some (by kernel_rfl))⟩
  f29 := ⟨Tryz.f287.name, by decide, Tryz.func287.trans (congrArg some (by kernel_rfl))⟩
  f31 := Tryz.func289.trans (congrArg some (by kernel_rfl))
  f32 := Tryz.func290.trans (congrArg some (by kernel_rfl))
  f36 := ⟨Tryz.f307.name, by decide, Tryz.func307.trans (congrArg some (by kernel_rfl))⟩
  f37 := ⟨Tryz.f308.name, by decide, Tryz.func308.trans (congrArg some (by kernel_rfl))⟩
  f38 := ⟨Tryz.f309.name, by decide, Tryz.func309.trans (congrArg some (by kernel_rfl))⟩
  f39 := ⟨Tryz.f310.name, by decide, Tryz.func310.trans (congrArg some (by kernel_rfl))⟩
  f41 := ⟨Tryz.f313.name, by decide, Tryz.func313.trans (congrArg some (by kernel_rfl))⟩
  t0 := Tryz.underlying0
  a0 := Tryz.isAgg0
  z0 := Tryz.sizeOf0
  v0 := Tryz.zeroValue0
  t3 := Tryz.underlying3
  a3 := Tryz.isAgg3
  z3 := Tryz.sizeOf3
  v3 := Tryz.zeroValue3
  t4 := Tryz.underlying4
  a4 := Tryz.isAgg4
  z4 := Tryz.sizeOf4
  v4 := Tryz.zeroValue4
  t5 := Tryz.underlying5
  a5 := Tryz.isAgg5
  z5 := Tryz.sizeOf5
  v5 := Tryz.zeroValue5
  t9 := Tryz.underlying9
  a9 := Tryz.isAgg9
  z9 := Tryz.sizeOf9
  v9 := Tryz.zeroValue9
  t26 := Tryz.underlying84
  a26 := Tryz.isAgg84
  z26 := Tryz.sizeOf84
  v26 := Tryz.zeroValue84
  t27 := Tryz.underlying84
  a27 := Tryz.isAgg84
  z27 := Tryz.sizeOf84
  v27 := Tryz.zeroValue84
  t29 := Tryz.underlying9
  a29 := Tryz.isAgg9
  z29 := Tryz.sizeOf9
  v29 := Tryz.zeroValue9
  t32 := Tryz.underlying188
  a32 := Tryz.isAgg188
  z32 := Tryz.sizeOf188
  v32 := Tryz.zeroValue188
  t35 := Tryz.underlying317
  a35 := Tryz.isAgg317
  z35 := Tryz.sizeOf317
  v35 := Tryz.zeroValue317
  t36 := Tryz.underlying318
  a36 := Tryz.isAgg318
  z36 := Tryz.sizeOf318
  v36 := Tryz.zeroValue318
  t41 := Tryz.underlying154
  a41 := Tryz.isAgg154
  z41 := Tryz.sizeOf154
  v41 := Tryz.zeroValue154
  t44 := Tryz.underlying182
  a44 := Tryz.isAgg182
  z44 := Tryz.sizeOf182
  v44 := Tryz.zeroValue182
  t46 := Tryz.underlying31
  a46 := Tryz.isAgg31
  z46 := Tryz.sizeOf31
  v46 := Tryz.zeroValue31
  t53 := Tryz.underlying348
  a53 := Tryz.isAgg348
  z53 := Tryz.sizeOf348
  v53 := Tryz.zeroValue348
  t57 := Tryz.underlying336
  a57 := Tryz.isAgg336
  z57 := Tryz.sizeOf336
  v57 := Tryz.zeroValue336
  t63 := Tryz.underlying361
  a63 := Tryz.isAgg361
  z63 := Tryz.sizeOf361
  v63 := Tryz.zeroValue361
  t64 := Tryz.underlying362
  a64 := Tryz.isAgg362
  z64 := Tryz.sizeOf362
  v64 := Tryz.zeroValue362 }

/-- slices.Sort's two contracts at this dump, at the fence that asks nothing. -/
theorem Tryz.sorts135 (m : Nat) : AnyZ.SortsIn Tryz.prog Tryz.sorted135_ren Fence.wide m :=
  ⟨fun blk off cap ss W hH hblk hsz => callsIn_wide.2 (AnyM.slices_Sort_string Tryz.sort198 blk off cap ss W hH hblk hsz),
   fun p cap W => callsIn_wide.2 (AnyM.slices_Sort_string_none Tryz.sort198 p cap W)⟩

/-- **maps.Keys[map[string]redress/disk.file,string,redress/disk.file], at whatever map, the nil one too:** a function value over ONE NEW BLOCK, which holds the map. -/
theorem Tryz.maps_Keys_136 (mb : Option Nat) (W : World) : CallsIn Fence.wide 5 Tryz.prog 136 #[.map mb] W fun e w' => e = .returned (.func (.func 199) #[] #[.pointer (some ⟨W.heap.size, 0, none⟩)]) ∧ w' = W.alloc (.cells #[.map mb] 58) :=
  AnyZ.keys_in Tryz.keys136 Fence.wide 5 trivial rfl mb W

set_option maxHeartbeats 1000000 in
/-- **slices.Sorted[string] AT WHAT maps.Keys[map[string]redress/disk.file,string,redress/disk.file] HANDED BACK FOR A MAP THAT IS NOT nil** ('w': the world AHEAD of maps.Keys' call): A NEW SLICE THAT HOLDS THE MAP's KEYS, SORTED; nil just where it has none; nothing that lay before has turned. -/
theorem Tryz.slices_Sorted_keys_135_136 {H : Type} (b nn : Nat) (D0 : DataW H) (R : Value → Option (DataW H × List MemPlace)) (w : World) (hown : w.ownsMap Tryz.prog 9 R b nn D0) (hmax : Maps.size D0 ≤ maxLen) (hbytes : Maps.size D0 * 16 ≤ 140737488355328) :
    CallsIn Fence.wide 5 Tryz.prog 135 #[.func (.func 199) #[] #[.pointer (some ⟨w.heap.size, 0, none⟩)]] (w.alloc (.cells #[.map (some b)] 58)) fun e w' => ∃ (v : Value) (ss : List (List UInt8)), e = .returned v ∧ ss.Perm (strKeys D0) ∧
      w'.ownsRow (w.alloc (.cells #[.map (some b)] 58)).heap.size 9 1 v ss.length ((ss.mergeSort (fun x y => decide (x ≤ y))).map encStr) ∧ (v = .slice none 0 0 ↔ ss = []) ∧ Below (w.alloc (.cells #[.map (some b)] 58)).heap.size (w.alloc (.cells #[.map (some b)] 58)) w' := by
  have hbl := hown.lt
  have hseq : SeqGives Fence.wide 2 Tryz.prog 199 #[.pointer (some ⟨w.heap.size, 0, none⟩)] encStr (fun ss => ss.Perm (strKeys D0)) (Maps.size D0) (w.alloc (.cells #[.map (some b)] 58)) :=
    AnyZ.keys_gives (ρ := Tryz.keys136_ren) { Tryz.keys136 with } Fence.wide _ trivial rfl (by omega) w.heap.size b nn D0 _ (by simp) (by simp) (by
      obtain ⟨es, clock, hb, Ft, hs, hD⟩ := hown
      exact ⟨es, clock, (Below.heap_alloc _ _ b hbl).trans hb, Ft, hs, hD⟩)
  exact AnyZ.sorted_in Tryz.sorted135 Fence.wide 5 trivial trivial trivial trivial rfl (by omega) (Tryz.sorts135 _) (enters_of Tryz.func198 (by kernel_rfl) rfl) 199 #[.pointer (some ⟨w.heap.size, 0, none⟩)] trivial (enters_of Tryz.func199 (by kernel_rfl) rfl) _ _ hmax hbytes _ hseq

set_option maxHeartbeats 1000000 in
/-- **.. AND FOR THE nil MAP: nil.** -/
theorem Tryz.slices_Sorted_keys_nil_135_136 (w : World) :
    CallsIn Fence.wide 5 Tryz.prog 135 #[.func (.func 199) #[] #[.pointer (some ⟨w.heap.size, 0, none⟩)]] (w.alloc (.cells #[.map none] 58)) fun e w' => ∃ (v : Value) (ss : List (List UInt8)), e = .returned v ∧ ss = [] ∧
      w'.ownsRow (w.alloc (.cells #[.map none] 58)).heap.size 9 1 v ss.length ((ss.mergeSort (fun x y => decide (x ≤ y))).map encStr) ∧ (v = .slice none 0 0 ↔ ss = []) ∧ Below (w.alloc (.cells #[.map none] 58)).heap.size (w.alloc (.cells #[.map none] 58)) w' := by
  have hseq : SeqGives Fence.wide 2 Tryz.prog 199 #[.pointer (some ⟨w.heap.size, 0, none⟩)] encStr (fun ss : List (List UInt8) => ss = []) 0 (w.alloc (.cells #[.map none] 58)) :=
    AnyZ.keys_gives_nil (ρ := Tryz.keys136_ren) { Tryz.keys136 with } Fence.wide _ trivial rfl w.heap.size _ (by simp) (by simp)
  exact AnyZ.sorted_in Tryz.sorted135 Fence.wide 5 trivial trivial trivial trivial rfl (by omega) (Tryz.sorts135 _) (enters_of Tryz.func198 (by kernel_rfl) rfl) 199 #[.pointer (some ⟨w.heap.size, 0, none⟩)] trivial (enters_of Tryz.func199 (by kernel_rfl) rfl) _ 0 (Nat.zero_le _) (by omega) _ hseq
end Go.Proofs
