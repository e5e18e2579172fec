/-
  'Twin', for every disk.
-/
import Derived.Test.YtmhflhbogkkblaaO
import Derived.Test.YtmhflhbogkkblaaS2
namespace Go.Proofs.Ytmhflhbogkkblaa
open Go.RowKit Go.Maps Go.Shelf

theorem clone_call (w : World) (m : Nat) (F : Fs) (h : HasMap w m F) : Calls Try.prog 43 #[.map (some m)] w fun e w' => e = .returned (.map (some w.heap.size)) ∧ HasMap w' w.heap.size F ∧ Below w.heap.size w w' := by
  have hcon := AnyW.maps_Clone_owns Try.clone _ _ _ _ _ w h
  change Calls Try.prog 43 _ _ _ at hcon
  exact hcon.mono fun e w' ⟨h1, h2, _, h4⟩ => ⟨h1, h2, h4⟩

theorem twin_any (w : World) (b m : Nat) (d : Dk) (h : DAt w b m d) :
    Calls Try.prog 25 #[.pointer (some ⟨b, 0, none⟩)] w fun e w' => ∃ t m', e = .returned (.pointer (some ⟨t, 0, none⟩)) ∧ w.heap.size ≤ t ∧ w.heap.size ≤ m' ∧ DAt w' t m' d ∧ Below w.heap.size w w' := by
  have c0 := h.c0
  have c1 := h.c1
  have c2 := h.c2
  have c3 := h.c3
  have bl := h.lt
  have HD := Lib.hid h
  clear h
  go_enter Try.func25, Try.ntmps25
  go_wp2_with fail
  refine (clone_call _ m d.fs (HD.out.map.alloc _)).mono ?_
  rintro e w1 ⟨rfl, hm, hb⟩
  have hB : But [] _ w1 := .of_below hb
  have hsz : w.heap.size < w1.heap.size := by have := hB.size; simp at this; omega
  have t0 := (hB.cell (b := w.heap.size) (o := 0) (by simp) (by simp)).trans (show _ = some (.map (some m)) by simp [go_sem])
  have t1 := (hB.cell (b := w.heap.size) (o := 1) (by simp) (by simp)).trans (show _ = some (.bool d.down) by simp [go_sem])
  have t2 := (hB.cell (b := w.heap.size) (o := 2) (by simp) (by simp)).trans (show _ = some (.int .i64 d.fuse) by simp [go_sem])
  have t3 := (hB.cell (b := w.heap.size) (o := 3) (by simp) (by simp)).trans (show _ = some (.int .i64 d.room) by simp [go_sem])
  have g0 := (hB.frozen (b := w.heap.size) (o := 0) (by simp) (by simp)).trans (show _ = false by simp [go_sem])
  have g1 := (hB.frozen (b := w.heap.size) (o := 1) (by simp) (by simp)).trans (show _ = false by simp [go_sem])
  have g2 := (hB.frozen (b := w.heap.size) (o := 2) (by simp) (by simp)).trans (show _ = false by simp [go_sem])
  have g3 := (hB.frozen (b := w.heap.size) (o := 3) (by simp) (by simp)).trans (show _ = false by simp [go_sem])
  have HM := Lib.hid hm
  have HB := Lib.hid hb
  clear hm hb hB
  go_wp2_with fail
  go_ret
  refine ⟨w.heap.size, _, rfl, Nat.le_refl _, ?_, ⟨?_, ?_, ?_, ?_, ?_, ?_, ?_, ?_, ?_, HM.out.setCell _ _⟩, ?_⟩
  · simp
  all_goals first | (simp [go_sem, *]; done) | skip
  exact ((bl1 w _).trans (HB.out.mono (by simp))).setCell (Nat.le_refl _) _
end Go.Proofs.Ytmhflhbogkkblaa
