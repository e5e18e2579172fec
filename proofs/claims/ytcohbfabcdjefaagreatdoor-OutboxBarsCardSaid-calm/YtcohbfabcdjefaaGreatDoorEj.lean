/-
  package store: pack.
-/
import Derived.Test.YtcohbfabcdjefaaGreatDoorEi
namespace Go.Proofs.YtcohbfabcdjefaaGreatDoor
open Go.RowKit Go.Maps

def hd4 (g : UInt8) (k v : Nat) : List UInt8 := [g, UInt8.ofNat (k % 256), UInt8.ofNat (v % 256), UInt8.ofNat (v / 256 % 256)]
theorem hd4_cells (g : UInt8) (k v : Nat) (hk : k ≤ 128) (hv : v ≤ 16384) : Lib.byteCells (hd4 g k v) = [.int .u8 g.toNat, .int .u8 (k : Int), .int .u8 ((v : Int) % 256), .int .u8 ((v : Int) / 256)] := by
  unfold hd4 Lib.byteCells
  simp only [List.map_cons, List.map_nil, toNat_ofNat_mod]
  rw [show (k : Int) % 256 = k by omega, show ((v / 256 : Nat) : Int) % 256 = (v : Int) / 256 by omega]
theorem u8_at {w : World} {b : Nat} {cs : List Value} {T : TypeId} {fr : Nat × Nat} (h : w.heap[b]? = some (.cells cs.toArray T fr)) : ∀ j u, cs[j]? = some u → w.cell? ((⟨b, 0, none⟩ : Addr).add j) = some u := fun j u hj => by
  rw [Addr.add_lit]
  simp only [World.cell?, h]
  simpa using hj
set_option maxRecDepth 100000 in
set_option maxHeartbeats 2000000 in
theorem pack_any (w : World) (v : Value) (L : List It) (h : RdE w v L) (hg : GoodE L) : Calls Tryz.prog 50 #[v] w fun e w' => ∃ s : ByteArray, e = .returned (.string s) ∧ s.size = 4 * L.length + sumE L ∧ Below w.heap.size w w' := by
  obtain ⟨a, c, rfl, h1, h2, h3⟩ := h
  have H3 := Lib.hid h3
  have HG := Lib.hid hg
  have hlen := hg.len
  have hsum := hg.sum
  clear h3 hg
  unfold maxLen at h2
  go_enter Tryz.func50, Tryz.ntmps50
  have HF := Lib.hid (Lib.fresh_isBuilder 181 5 w)
  have HBF := Lib.hid (bl1 w (.cells #[.pointer none, .slice none 0 0] 181))
  go_wp2_with fail
  go_loopw [9] (fun x wr => ∃ (i : Nat) (l : List UInt8), i ≤ L.length ∧ x = .int .i64 i ∧ l.length = 4 * i + sumE (L.take i) ∧ Hid (IsB w.heap.size w.heap.size (Lib.byteCells l) wr) ∧ Hid (Below w.heap.size w wr)) (fun x _ => L.length - (intOf x).toNat)
  case atStart => exact ⟨0, [], Nat.zero_le _, rfl, rfl, HF, HBF⟩
  case round =>
    obtain ⟨i, l, hi, rfl, hll, HI, HB⟩ := hrel
    by_cases hlt : i < L.length
    · obtain ⟨b, rfl, hb, hrow⟩ := H3.out (by omega)
      have f := (hrow i hlt).block (HB.out.block b hb)
      have ho := HG.out.each _ (List.getElem_mem hlt)
      have hs := sumE_succ L i hlt
      have hs2 := sumE_take L (i + 1)
      obtain ⟨S', hS'⟩ : ∃ S', S' = sumE (L.take (i + 1)) := ⟨_, rfl⟩
      rw [← hS'] at hs hs2
      have HS' := Lib.hid hS'
      clear hS' hrow
      generalize L[i] = x at *
      have p0 := f.c0
      have p1 := f.c1
      have p2 := f.c2
      have k1 := ho.key
      have k2 := ho.val
      clear f ho
      cases hgn : x.gone with
      | true =>
        rw [hgn] at p2
        obtain ⟨W, hW⟩ : ∃ W, W = (wr.alloc (.cells #[.string x.key, .string x.val, .bool true] 99 (0, 0))).alloc (.cells #[.int .u8 1, .int .u8 (x.key.size : Int), .int .u8 ((x.val.size : Int) % 256), .int .u8 ((x.val.size : Int) / 256)] 5 (0, 0)) := ⟨_, rfl⟩
        have HBW := Lib.hid (show Below wr.heap.size wr W by rw [hW]; exact (bl1 wr _).alloc (by simp) _)
        have q4 : W.heap[wr.heap.size + 1]? = some (.cells [.int .u8 1, .int .u8 (x.key.size : Int), .int .u8 ((x.val.size : Int) % 256), .int .u8 ((x.val.size : Int) / 256)].toArray 5 (0, 0)) := by rw [hW]; have := heap_alloc_new (wr.alloc (.cells #[.string x.key, .string x.val, .bool true] 99 (0, 0))) (.cells #[.int .u8 1, .int .u8 (x.key.size : Int), .int .u8 ((x.val.size : Int) % 256), .int .u8 ((x.val.size : Int) / 256)] 5 (0, 0)); simpa using this
        have q3 : W.heap[wr.heap.size]? = some (.cells #[.string x.key, .string x.val, .bool true] 99 (0, 0)) := by rw [hW, heap_alloc_old _ _ (by simp)]; exact heap_alloc_new wr _
        have hbw : w.heap.size < wr.heap.size := by rcases HI.out with h | h <;> exact h.lt
        have hbc : (Lib.byteCells l).length = l.length := Lib.byteCells_length l
        have HWR := Lib.hid (write_any w.heap.size w.heap.size (Lib.byteCells l) ⟨wr.heap.size + 1, 0, none⟩ 4 4 (Lib.byteCells (hd4 1 x.key.size x.val.size)) W (isB_below HI.out HBW.out) rfl (by rw [hd4_cells _ _ _ k1 k2]; exact u8_at q4) (by show wr.heap.size + 1 ≠ _; omega) (Lib.byteCells_one _) (by rw [hbc]; omega) (by have := HBW.out.size; omega))
        have HE := Lib.hid hW
        have HQ := Lib.hid q3
        clear hW q4 q3
        go_wp2_with fail
        rw [← HE.out]
        refine HWR.out.mono ?_
        rintro e w2 ⟨rfl, hat, hb2, hkt⟩
        have hq2 := (hkt _ _ _ _ HQ.out (by omega) (by decide)).trans HQ.out
        have HI2 := Lib.hid (show IsB w.heap.size w.heap.size (Lib.byteCells (l ++ hd4 1 x.key.size x.val.size)) w2 from .inr (by rw [Lib.byteCells_append]; exact hat))
        have HB2 := Lib.hid ((HB.out.trans (HBW.out.mono HB.out.size)).trans hb2)
        have r0 : w2.cell? ⟨wr.heap.size, 0, none⟩ = some (.string x.key) := by simp [World.cell?, hq2]
        have r1 : w2.cell? ⟨wr.heap.size, 1, none⟩ = some (.string x.val) := by simp [World.cell?, hq2]
        have c1 : ¬ (9223372036854775807 < x.key.size + x.val.size) := by omega
        have hbc2 : (Lib.byteCells (l ++ hd4 1 x.key.size x.val.size)).length = l.length + 4 := by rw [Lib.byteCells_length, List.length_append]; rfl
        have hks : (x.key ++ x.val).size = x.key.size + x.val.size := ByteArray.size_append
        have HWS := Lib.hid (writeS_any w.heap.size w.heap.size (Lib.byteCells (l ++ hd4 1 x.key.size x.val.size)) (x.key ++ x.val) w2 HI2.out (by rw [hbc2, hks]; omega) HB2.out.size)
        clear hat hb2 hkt hq2 HE HQ HBW
        go_wp2_with fail
        refine HWS.out.mono ?_
        rintro e w3 ⟨rfl, hat, hb3⟩
        have HI3 := Lib.hid (show IsB w.heap.size w.heap.size (Lib.byteCells (l ++ hd4 1 x.key.size x.val.size ++ (x.key ++ x.val).data.toList)) w3 from .inr (by rw [Lib.byteCells_append, ← Lib.strCells_eq]; exact hat))
        have HB3 := Lib.hid (HB2.out.trans hb3)
        have hsl : (x.key ++ x.val).data.toList.length = x.key.size + x.val.size := by rw [Array.length_toList, ByteArray.size_data, hks]
        clear hat hb3
        go_wp2_with fail
        exact ⟨⟨i + 1, l ++ hd4 1 x.key.size x.val.size ++ (x.key ++ x.val).data.toList, hlt, by go_num, by rw [List.length_append, List.length_append, hsl, hll, ← HS'.out, show (hd4 1 x.key.size x.val.size).length = 4 from rfl]; unfold szE at hs; omega, HI3, HB3⟩, by simp [intOf]; omega⟩
      | false =>
        rw [hgn] at p2
        obtain ⟨W, hW⟩ : ∃ W, W = (wr.alloc (.cells #[.string x.key, .string x.val, .bool false] 99 (0, 0))).alloc (.cells #[.int .u8 0, .int .u8 (x.key.size : Int), .int .u8 ((x.val.size : Int) % 256), .int .u8 ((x.val.size : Int) / 256)] 5 (0, 0)) := ⟨_, rfl⟩
        have HBW := Lib.hid (show Below wr.heap.size wr W by rw [hW]; exact (bl1 wr _).alloc (by simp) _)
        have q4 : W.heap[wr.heap.size + 1]? = some (.cells [.int .u8 0, .int .u8 (x.key.size : Int), .int .u8 ((x.val.size : Int) % 256), .int .u8 ((x.val.size : Int) / 256)].toArray 5 (0, 0)) := by rw [hW]; have := heap_alloc_new (wr.alloc (.cells #[.string x.key, .string x.val, .bool false] 99 (0, 0))) (.cells #[.int .u8 0, .int .u8 (x.key.size : Int), .int .u8 ((x.val.size : Int) % 256), .int .u8 ((x.val.size : Int) / 256)] 5 (0, 0)); simpa using this
        have q3 : W.heap[wr.heap.size]? = some (.cells #[.string x.key, .string x.val, .bool false] 99 (0, 0)) := by rw [hW, heap_alloc_old _ _ (by simp)]; exact heap_alloc_new wr _
        have hbw : w.heap.size < wr.heap.size := by rcases HI.out with h | h <;> exact h.lt
        have hbc : (Lib.byteCells l).length = l.length := Lib.byteCells_length l
        have HWR := Lib.hid (write_any w.heap.size w.heap.size (Lib.byteCells l) ⟨wr.heap.size + 1, 0, none⟩ 4 4 (Lib.byteCells (hd4 0 x.key.size x.val.size)) W (isB_below HI.out HBW.out) rfl (by rw [hd4_cells _ _ _ k1 k2]; exact u8_at q4) (by show wr.heap.size + 1 ≠ _; omega) (Lib.byteCells_one _) (by rw [hbc]; omega) (by have := HBW.out.size; omega))
        have HE := Lib.hid hW
        have HQ := Lib.hid q3
        clear hW q4 q3
        go_wp2_with fail
        rw [← HE.out]
        refine HWR.out.mono ?_
        rintro e w2 ⟨rfl, hat, hb2, hkt⟩
        have hq2 := (hkt _ _ _ _ HQ.out (by omega) (by decide)).trans HQ.out
        have HI2 := Lib.hid (show IsB w.heap.size w.heap.size (Lib.byteCells (l ++ hd4 0 x.key.size x.val.size)) w2 from .inr (by rw [Lib.byteCells_append]; exact hat))
        have HB2 := Lib.hid ((HB.out.trans (HBW.out.mono HB.out.size)).trans hb2)
        have r0 : w2.cell? ⟨wr.heap.size, 0, none⟩ = some (.string x.key) := by simp [World.cell?, hq2]
        have r1 : w2.cell? ⟨wr.heap.size, 1, none⟩ = some (.string x.val) := by simp [World.cell?, hq2]
        have c1 : ¬ (9223372036854775807 < x.key.size + x.val.size) := by omega
        have hbc2 : (Lib.byteCells (l ++ hd4 0 x.key.size x.val.size)).length = l.length + 4 := by rw [Lib.byteCells_length, List.length_append]; rfl
        have hks : (x.key ++ x.val).size = x.key.size + x.val.size := ByteArray.size_append
        have HWS := Lib.hid (writeS_any w.heap.size w.heap.size (Lib.byteCells (l ++ hd4 0 x.key.size x.val.size)) (x.key ++ x.val) w2 HI2.out (by rw [hbc2, hks]; omega) HB2.out.size)
        clear hat hb2 hkt hq2 HE HQ HBW
        go_wp2_with fail
        refine HWS.out.mono ?_
        rintro e w3 ⟨rfl, hat, hb3⟩
        have HI3 := Lib.hid (show IsB w.heap.size w.heap.size (Lib.byteCells (l ++ hd4 0 x.key.size x.val.size ++ (x.key ++ x.val).data.toList)) w3 from .inr (by rw [Lib.byteCells_append, ← Lib.strCells_eq]; exact hat))
        have HB3 := Lib.hid (HB2.out.trans hb3)
        have hsl : (x.key ++ x.val).data.toList.length = x.key.size + x.val.size := by rw [Array.length_toList, ByteArray.size_data, hks]
        clear hat hb3
        go_wp2_with fail
        exact ⟨⟨i + 1, l ++ hd4 0 x.key.size x.val.size ++ (x.key ++ x.val).data.toList, hlt, by go_num, by rw [List.length_append, List.length_append, hsl, hll, ← HS'.out, show (hd4 0 x.key.size x.val.size).length = 4 from rfl]; unfold szE at hs; omega, HI3, HB3⟩, by simp [intOf]; omega⟩
    · have hin : i = L.length := by omega
      subst hin
      rw [List.take_length] at hll
      have HST := Lib.hid (Tryz.Builder_String_any w.heap.size w.heap.size l wr HI.out HB.out.size)
      have hlz : (⟨l.toArray⟩ : ByteArray).size = l.length := by rw [← ByteArray.size_data]; simp
      generalize (⟨l.toArray⟩ : ByteArray) = t at *
      go_wp2_with fail
      refine HST.out.mono ?_
      rintro e w4 ⟨rfl, hb4⟩
      have HB4 := Lib.hid (HB.out.trans hb4)
      clear hb4
      go_wp2_with fail
      go_ret
      exact ⟨_, rfl, hlz.trans hll, HB4.out⟩
end Go.Proofs.YtcohbfabcdjefaaGreatDoor
