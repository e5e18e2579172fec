/-
  ManifestKnown: the walk (printed by mkKn.py).
-/
import Derived.Test.YtiiafpbonkcokaaGreatKn2
import Derived.Deep.DeepCutAuto
import Derived.Deep.RegionHeld3
namespace Go.Proofs.YtiiafpbonkcokaaGreat
open Go.RowKit Go.Maps

set_option maxRecDepth 100000 in
set_option maxHeartbeats 16000000 in
theorem known_walk (W : World) : Calls Tryz.prog 3 #[] W fun e w' => e = .returned (.bool true) ∧ Below W.heap.size W w' := by
  go_enter Tryz.func3, Tryz.ntmps3
  go_wp2_with fail
  refine (one_any W).mono ?_
  rintro e w1 ⟨rfl, hb1⟩
  have HB1 := Lib.hid hb1
  clear hb1
  go_wp2_with fail
  refine (ap1 _ _ (heap_alloc_new w1 _)).mono ?_
  rintro e w2 ⟨a2, c2, rfl, hr2, hb2⟩
  have HB2 := Lib.hid (bel_alloc (bel_step (bel_alloc HB1.out _) hb2) (.cells #[.int .i64 2, .int .i64 0, .slice a2 1 c2] 24))
  have HS2 := Lib.hid (show StAt (w2.alloc (.cells #[.int .i64 2, .int .i64 0, .slice a2 1 c2] 24)) w2.heap.size ⟨2, 0, [f1]⟩ from ⟨_, heap_alloc_new w2 _, (hr2.below (bl1 w2 _)).wider (fun _ _ _ => trivial)⟩)
  clear hr2 hb2
  go_upto_region 2 with (fail)
  generalize w2.alloc (.cells #[.int .i64 2, .int .i64 0, .slice a2 1 c2] 24) = W2 at *
  generalize w2.heap.size = bs at *
  clear HB1
  obtain ⟨vf, hbs, hfs⟩ := HS2.out.ex
  obtain ⟨a2, c2, rfl⟩ := shape_of hfs
  have HFS := Lib.hid (fun (V : World) (h : Below W2.heap.size W2 V) => show FRow (fun _ => True) V (.slice a2 1 c2) [f1] from hfs.below h)
  have HCS := Lib.hid (show ∀ V, Below W2.heap.size W2 V → V.cell? ⟨bs, 0, none⟩ = some (.int .i64 2) ∧ V.cell? ⟨bs, 1, none⟩ = some (.int .i64 0) ∧ V.cell? ⟨bs, 2, none⟩ = some (.slice a2 1 c2) from fun V h => by
    have hb := (h.block bs (heap_lt hbs)).trans hbs
    exact ⟨by simp [World.cell?, hb], by simp [World.cell?, hb], by simp [World.cell?, hb]⟩)
  clear hfs hbs
  have HOT := Lib.hid other_any
  have HAP := Lib.hid ap2
  go_cut [3, 4] (fun v3 v4 wc => KnR W2 wc ⟨3, 5, [f2]⟩ 0 v3 v4)
  case first =>
    go_region_held3 (fun w' => w'.cell? ⟨bs, 0, none⟩ = some (.int .i64 2) ∧ w'.cell? ⟨bs, 1, none⟩ = some (.int .i64 0) ∧ w'.cell? ⟨bs, 2, none⟩ = some (.slice a2 1 c2))
      (first | (with_reducible refine HCS.out _ ?_; repeat (first | with_reducible exact Below.refl _ _ | with_reducible assumption | with_reducible refine Below.drew ?_ | with_reducible refine bel_alloc ?_ _ | (with_reducible refine bel_store ?_ ?_ _ _; rotate_left; first | exact Nat.le_refl _ | omega | (focus (simp; omega))) | with_reducible refine bel_step ?_ hbO | with_reducible refine bel_step ?_ hbA)))
      (first
        | (go_at_call 9; ((with_reducible refine (HOT.out _).mono ?_); rintro e wO ⟨rfl, hbO⟩; refine use_fact (T := Below W2.heap.size W2 wO) ?_ (fun hyO => ?_); (focus (repeat (first | with_reducible exact Below.refl _ _ | with_reducible assumption | with_reducible refine Below.drew ?_ | with_reducible refine bel_alloc ?_ _ | (with_reducible refine bel_store ?_ ?_ _ _; rotate_left; first | exact Nat.le_refl _ | omega | (focus (simp; omega))) | with_reducible refine bel_step ?_ hbO))); have hzO := hyO.size))
        | (go_at_call 7; ((with_reducible refine (HAP.out _ _ _ _ _ ?_ ?_ ?_).mono ?_); rotate_left 3; rintro e wA ⟨a3, c3, rfl, hrA, hbA⟩; rotate_left; (with_reducible refine HFS.out _ ?_; repeat (first | with_reducible exact Below.refl _ _ | with_reducible assumption | with_reducible refine Below.drew ?_ | with_reducible refine bel_alloc ?_ _ | (with_reducible refine bel_store ?_ ?_ _ _; rotate_left; first | exact Nat.le_refl _ | omega | (focus (simp; omega))) | with_reducible refine bel_step ?_ hbO)); (repeat (first | with_reducible exact heap_alloc_new _ _ | (with_reducible refine heap_alloc_at _ _ ?_; first | rfl | (focus (simp; done))) | with_reducible refine blk_drew ?_ | with_reducible refine blk_alloc ?_ _ | with_reducible refine blk_below ?_ hbO)); (repeat (first | with_reducible exact heap_alloc_new _ _ | (with_reducible refine heap_alloc_at _ _ ?_; first | rfl | (focus (simp; done))) | with_reducible refine blk_drew ?_ | with_reducible refine blk_alloc ?_ _ | with_reducible refine blk_below ?_ hbO)); refine use_fact (T := Below W2.heap.size W2 wA) ?_ (fun hyA => ?_); (focus (repeat (first | with_reducible exact Below.refl _ _ | with_reducible assumption | with_reducible refine Below.drew ?_ | with_reducible refine bel_alloc ?_ _ | (with_reducible refine bel_store ?_ ?_ _ _; rotate_left; first | exact Nat.le_refl _ | omega | (focus (simp; omega))) | with_reducible refine bel_step ?_ hbO | with_reducible refine bel_step ?_ hbA))); first | (refine use_fact (T := wA.heap[W2.heap.size]? = some (.cells #[.int .i64 0, .int .i64 0, .slice none 0 0] 24 (0, 0))) ?_ (fun zb => ?_); (focus (with_reducible refine blk_below ?_ hbA; (repeat (first | with_reducible exact heap_alloc_new _ _ | (with_reducible refine heap_alloc_at _ _ ?_; first | rfl | (focus (simp; done))) | with_reducible refine blk_drew ?_ | with_reducible refine blk_alloc ?_ _ | with_reducible refine blk_below ?_ hbO)); done)); obtain ⟨z0, z1, z2, z3, z4, z5⟩ := blk3 zb) | (refine use_fact (T := wA.heap[(W2.heap.size + 1)]? = some (.cells #[.int .i64 0, .int .i64 0, .slice none 0 0] 24 (0, 0))) ?_ (fun zb => ?_); (focus (with_reducible refine blk_below ?_ hbA; (repeat (first | with_reducible exact heap_alloc_new _ _ | (with_reducible refine heap_alloc_at _ _ ?_; first | rfl | (focus (simp; done))) | with_reducible refine blk_drew ?_ | with_reducible refine blk_alloc ?_ _ | with_reducible refine blk_below ?_ hbO)); done)); obtain ⟨z0, z1, z2, z3, z4, z5⟩ := blk3 zb) | (refine use_fact (T := wA.heap[wO.heap.size]? = some (.cells #[.int .i64 0, .int .i64 0, .slice none 0 0] 24 (0, 0))) ?_ (fun zb => ?_); (focus (with_reducible refine blk_below ?_ hbA; (repeat (first | with_reducible exact heap_alloc_new _ _ | (with_reducible refine heap_alloc_at _ _ ?_; first | rfl | (focus (simp; done))) | with_reducible refine blk_drew ?_ | with_reducible refine blk_alloc ?_ _ | with_reducible refine blk_below ?_ hbO)); done)); obtain ⟨z0, z1, z2, z3, z4, z5⟩ := blk3 zb) | (refine use_fact (T := wA.heap[(wO.heap.size + 1)]? = some (.cells #[.int .i64 0, .int .i64 0, .slice none 0 0] 24 (0, 0))) ?_ (fun zb => ?_); (focus (with_reducible refine blk_below ?_ hbA; (repeat (first | with_reducible exact heap_alloc_new _ _ | (with_reducible refine heap_alloc_at _ _ ?_; first | rfl | (focus (simp; done))) | with_reducible refine blk_drew ?_ | with_reducible refine blk_alloc ?_ _ | with_reducible refine blk_below ?_ hbO)); done)); obtain ⟨z0, z1, z2, z3, z4, z5⟩ := blk3 zb) | (refine use_fact (T := wA.heap[(wO.heap.size + 1 + 1)]? = some (.cells #[.int .i64 0, .int .i64 0, .slice none 0 0] 24 (0, 0))) ?_ (fun zb => ?_); (focus (with_reducible refine blk_below ?_ hbA; (repeat (first | with_reducible exact heap_alloc_new _ _ | (with_reducible refine heap_alloc_at _ _ ?_; first | rfl | (focus (simp; done))) | with_reducible refine blk_drew ?_ | with_reducible refine blk_alloc ?_ _ | with_reducible refine blk_below ?_ hbO)); done)); obtain ⟨z0, z1, z2, z3, z4, z5⟩ := blk3 zb) | skip)))
    all_goals
      go_wp2_with fail
      go_meet
      case rel => first | with_reducible exact knr_alloc hyA hrA | (with_reducible refine knr_set hyA hrA zb ?_ ?_ <;> first | exact Nat.le_refl _ | omega | (have hs := hbO.size; simp at hs ⊢; omega) | (have hs := hbO.size; simp at hs ⊢))
  case rest =>
    obtain ⟨kt, rfl, rfl, hbw, hst⟩ := hcut
    have HS3 := Lib.hid (HS2.out.below hbw)
    have HT3 := Lib.hid hst
    have HB3 := Lib.hid (bel_step HB2.out hbw)
    clear hbw hst HS2 HB2 HFS HCS HAP HOT
    go_wp2_with fail
    refine (ap3 _ _ (heap_alloc_new wc _)).mono ?_
    rintro e w4 ⟨a4, c4, rfl, hr4, hb4⟩
    have hy := bel_alloc (bel_step (bel_alloc (Below.refl _ wc) _) hb4) (.cells #[.int .i64 0, .int .i64 0, .slice a4 0 c4] 24)
    have HS4 := Lib.hid (HS3.out.below hy)
    have HT4 := Lib.hid (HT3.out.below hy)
    have HB4 := Lib.hid (bel_step HB3.out hy)
    clear hy hr4 hb4 HS3 HT3 HB3
    go_wp2_with fail
    refine (one_any _).mono ?_
    rintro e w5 ⟨rfl, hb5⟩
    have HS5 := Lib.hid (HS4.out.below hb5)
    have HT5 := Lib.hid (HT4.out.below hb5)
    have HB5 := Lib.hid (bel_step HB4.out hb5)
    clear hb5 HS4 HT4 HB4
    go_wp2_with fail
    refine (ap4 _ _ (heap_alloc_new w5 _)).mono ?_
    rintro e w6 ⟨a6, c6, rfl, hr6, hb6⟩
    have hy := bel_alloc (bel_step (bel_alloc (Below.refl _ w5) _) hb6) (.cells #[.int .i64 0, .int .i64 0, .slice a6 0 c6] 24)
    have HS6 := Lib.hid (HS5.out.below hy)
    have HT6 := Lib.hid (HT5.out.below hy)
    have HB6 := Lib.hid (bel_step HB5.out hy)
    clear hy hr6 hb6 HS5 HT5 HB5
    go_upto_region 5 with (fail)
    generalize w6.alloc (.cells #[.int .i64 0, .int .i64 0, .slice a6 0 c6] 24) = W5 at *
    generalize w6.heap.size = k6 at *
    generalize w4.heap.size = k4 at *
    obtain ⟨vf, hbs, hfs⟩ := HS6.out.ex
    obtain ⟨a6, c6, rfl⟩ := shape_of hfs
    have HFS := Lib.hid (fun (V : World) (h : Below W5.heap.size W5 V) => show FRow (fun _ => True) V (.slice a6 1 c6) [f1] from hfs.below h)
    have HCS := Lib.hid (show ∀ V, Below W5.heap.size W5 V → V.cell? ⟨bs, 0, none⟩ = some (.int .i64 2) ∧ V.cell? ⟨bs, 1, none⟩ = some (.int .i64 0) ∧ V.cell? ⟨bs, 2, none⟩ = some (.slice a6 1 c6) from fun V h => by
      have hb := (h.block bs (heap_lt hbs)).trans hbs
      exact ⟨by simp [World.cell?, hb], by simp [World.cell?, hb], by simp [World.cell?, hb]⟩)
    clear hfs hbs
    have HOT := Lib.hid one_any
    have HAP := Lib.hid ap5
    go_cut [9, 10] (fun v3 v4 wc => KnR W5 wc ⟨0, 0, []⟩ 5 v3 v4)
    case first =>
      go_region_held3 (fun w' => w'.cell? ⟨bs, 0, none⟩ = some (.int .i64 2) ∧ w'.cell? ⟨bs, 1, none⟩ = some (.int .i64 0) ∧ w'.cell? ⟨bs, 2, none⟩ = some (.slice a6 1 c6))
        (first | (with_reducible refine HCS.out _ ?_; repeat (first | with_reducible exact Below.refl _ _ | with_reducible assumption | with_reducible refine Below.drew ?_ | with_reducible refine bel_alloc ?_ _ | (with_reducible refine bel_store ?_ ?_ _ _; rotate_left; first | exact Nat.le_refl _ | omega | (focus (simp; omega))) | with_reducible refine bel_step ?_ hbO | with_reducible refine bel_step ?_ hbA)))
        (first
          | (go_at_call 8; ((with_reducible refine (HOT.out _).mono ?_); rintro e wO ⟨rfl, hbO⟩; refine use_fact (T := Below W5.heap.size W5 wO) ?_ (fun hyO => ?_); (focus (repeat (first | with_reducible exact Below.refl _ _ | with_reducible assumption | with_reducible refine Below.drew ?_ | with_reducible refine bel_alloc ?_ _ | (with_reducible refine bel_store ?_ ?_ _ _; rotate_left; first | exact Nat.le_refl _ | omega | (focus (simp; omega))) | with_reducible refine bel_step ?_ hbO))); have hzO := hyO.size))
          | (go_at_call 7; ((with_reducible refine (HAP.out _ _ _ _ ?_ ?_).mono ?_); rotate_left 2; rintro e wA ⟨a3, c3, rfl, hrA, hbA⟩; rotate_left; (with_reducible refine HFS.out _ ?_; repeat (first | with_reducible exact Below.refl _ _ | with_reducible assumption | with_reducible refine Below.drew ?_ | with_reducible refine bel_alloc ?_ _ | (with_reducible refine bel_store ?_ ?_ _ _; rotate_left; first | exact Nat.le_refl _ | omega | (focus (simp; omega))) | with_reducible refine bel_step ?_ hbO)); (repeat (first | with_reducible exact heap_alloc_new _ _ | (with_reducible refine heap_alloc_at _ _ ?_; first | rfl | (focus (simp; done))) | with_reducible refine blk_drew ?_ | with_reducible refine blk_alloc ?_ _ | with_reducible refine blk_below ?_ hbO)); refine use_fact (T := Below W5.heap.size W5 wA) ?_ (fun hyA => ?_); (focus (repeat (first | with_reducible exact Below.refl _ _ | with_reducible assumption | with_reducible refine Below.drew ?_ | with_reducible refine bel_alloc ?_ _ | (with_reducible refine bel_store ?_ ?_ _ _; rotate_left; first | exact Nat.le_refl _ | omega | (focus (simp; omega))) | with_reducible refine bel_step ?_ hbO | with_reducible refine bel_step ?_ hbA))); first | (refine use_fact (T := wA.heap[W5.heap.size]? = some (.cells #[.int .i64 0, .int .i64 0, .slice none 0 0] 24 (0, 0))) ?_ (fun zb => ?_); (focus (with_reducible refine blk_below ?_ hbA; (repeat (first | with_reducible exact heap_alloc_new _ _ | (with_reducible refine heap_alloc_at _ _ ?_; first | rfl | (focus (simp; done))) | with_reducible refine blk_drew ?_ | with_reducible refine blk_alloc ?_ _ | with_reducible refine blk_below ?_ hbO)); done)); obtain ⟨z0, z1, z2, z3, z4, z5⟩ := blk3 zb) | (refine use_fact (T := wA.heap[wO.heap.size]? = some (.cells #[.int .i64 0, .int .i64 0, .slice none 0 0] 24 (0, 0))) ?_ (fun zb => ?_); (focus (with_reducible refine blk_below ?_ hbA; (repeat (first | with_reducible exact heap_alloc_new _ _ | (with_reducible refine heap_alloc_at _ _ ?_; first | rfl | (focus (simp; done))) | with_reducible refine blk_drew ?_ | with_reducible refine blk_alloc ?_ _ | with_reducible refine blk_below ?_ hbO)); done)); obtain ⟨z0, z1, z2, z3, z4, z5⟩ := blk3 zb) | (refine use_fact (T := wA.heap[(wO.heap.size + 1)]? = some (.cells #[.int .i64 0, .int .i64 0, .slice none 0 0] 24 (0, 0))) ?_ (fun zb => ?_); (focus (with_reducible refine blk_below ?_ hbA; (repeat (first | with_reducible exact heap_alloc_new _ _ | (with_reducible refine heap_alloc_at _ _ ?_; first | rfl | (focus (simp; done))) | with_reducible refine blk_drew ?_ | with_reducible refine blk_alloc ?_ _ | with_reducible refine blk_below ?_ hbO)); done)); obtain ⟨z0, z1, z2, z3, z4, z5⟩ := blk3 zb) | skip)))
      all_goals
        go_wp2_with fail
        go_meet
        case rel => first | with_reducible exact knr_alloc hyA hrA | (with_reducible refine knr_set hyA hrA zb ?_ ?_ <;> first | exact Nat.le_refl _ | omega | (have hs := hbO.size; simp at hs ⊢; omega) | (have hs := hbO.size; simp at hs ⊢))
    case rest =>
      obtain ⟨k9, rfl, rfl, hbw, hst⟩ := hcut
      have HT7 := Lib.hid (HT6.out.below hbw)
      have HB7 := Lib.hid (bel_step HB6.out hbw)
      clear hbw hst HS6 HT6 HB6 HFS HCS HAP HOT
      go_upto_region 6 with (fail)
      obtain ⟨vt, hbs, hfs⟩ := HT7.out.ex
      obtain ⟨a7, c7, rfl⟩ := shape_of hfs
      have HFS := Lib.hid (fun (V : World) (h : Below wc.heap.size wc V) => show FRow (fun _ => True) V (.slice a7 1 c7) [f2] from hfs.below h)
      have HCS := Lib.hid (show ∀ V, Below wc.heap.size wc V → V.cell? ⟨kt, 0, none⟩ = some (.int .i64 3) ∧ V.cell? ⟨kt, 1, none⟩ = some (.int .i64 5) ∧ V.cell? ⟨kt, 2, none⟩ = some (.slice a7 1 c7) from fun V h => by
        have hb := (h.block kt (heap_lt hbs)).trans hbs
        exact ⟨by simp [World.cell?, hb], by simp [World.cell?, hb], by simp [World.cell?, hb]⟩)
      clear hfs hbs
      have HOT := Lib.hid other_any
      have HSM := Lib.hid sm6
      go_region_held3 (fun w' => w'.cell? ⟨kt, 0, none⟩ = some (.int .i64 3) ∧ w'.cell? ⟨kt, 1, none⟩ = some (.int .i64 5) ∧ w'.cell? ⟨kt, 2, none⟩ = some (.slice a7 1 c7))
        (first | (with_reducible refine HCS.out _ ?_; repeat (first | with_reducible exact Below.refl _ _ | with_reducible assumption | with_reducible refine Below.drew ?_ | with_reducible refine bel_alloc ?_ _ | (with_reducible refine bel_store ?_ ?_ _ _; rotate_left; first | exact Nat.le_refl _ | omega | (focus (simp; omega))) | with_reducible refine bel_step ?_ hbO | with_reducible refine bel_step ?_ hbS)))
        (first
          | (go_at_call 9; ((with_reducible refine (HOT.out _).mono ?_); rintro e wO ⟨rfl, hbO⟩; refine use_fact (T := Below wc.heap.size wc wO) ?_ (fun hyO => ?_); (focus (repeat (first | with_reducible exact Below.refl _ _ | with_reducible assumption | with_reducible refine Below.drew ?_ | with_reducible refine bel_alloc ?_ _ | (with_reducible refine bel_store ?_ ?_ _ _; rotate_left; first | exact Nat.le_refl _ | omega | (focus (simp; omega))) | with_reducible refine bel_step ?_ hbO)))))
          | (go_at_call 10; ((with_reducible refine (HSM.out _ _ _ _ ?_ ?_).mono ?_); rotate_left 2; rintro e wS ⟨rfl, hbS⟩; rotate_left; (with_reducible refine HFS.out _ ?_; repeat (first | with_reducible exact Below.refl _ _ | with_reducible assumption | with_reducible refine Below.drew ?_ | with_reducible refine bel_alloc ?_ _ | (with_reducible refine bel_store ?_ ?_ _ _; rotate_left; first | exact Nat.le_refl _ | omega | (focus (simp; omega))) | with_reducible refine bel_step ?_ hbO)); (repeat (first | with_reducible exact heap_alloc_new _ _ | (with_reducible refine heap_alloc_at _ _ ?_; first | rfl | (focus (simp; done))) | with_reducible refine blk_drew ?_ | with_reducible refine blk_alloc ?_ _ | with_reducible refine blk_below ?_ hbO)); refine use_fact (T := Below wc.heap.size wc wS) ?_ (fun hyS => ?_); (focus (repeat (first | with_reducible exact Below.refl _ _ | with_reducible assumption | with_reducible refine Below.drew ?_ | with_reducible refine bel_alloc ?_ _ | (with_reducible refine bel_store ?_ ?_ _ _; rotate_left; first | exact Nat.le_refl _ | omega | (focus (simp; omega))) | with_reducible refine bel_step ?_ hbO | with_reducible refine bel_step ?_ hbS))))))
      all_goals
        have HB8 := Lib.hid (bel_step HB7.out hyS)
        clear hyS hyO hbS hbO HB7 HFS HCS HOT HSM HT7
        go_upto_region 9 with (fail)
        have HB9 := Lib.hid (bel_alloc HB8.out (.cells #[.int .i64 3, .int .i64 1, .int .i64 2, .string ⟨#[97]⟩, .string ⟨#[99]⟩] 29))
        have HC9 := Lib.hid (show ∀ V, Below (wS.alloc (.cells #[.int .i64 3, .int .i64 1, .int .i64 2, .string ⟨#[97]⟩, .string ⟨#[99]⟩] 29)).heap.size (wS.alloc (.cells #[.int .i64 3, .int .i64 1, .int .i64 2, .string ⟨#[97]⟩, .string ⟨#[99]⟩] 29)) V → V.cell? ⟨wS.heap.size, 0, none⟩ = some (.int .i64 3) ∧ V.cell? ⟨wS.heap.size, 1, none⟩ = some (.int .i64 1) ∧ V.cell? ⟨wS.heap.size, 2, none⟩ = some (.int .i64 2) ∧ V.cell? ⟨wS.heap.size, 3, none⟩ = some (.string ⟨#[97]⟩) ∧ V.cell? ⟨wS.heap.size, 4, none⟩ = some (.string ⟨#[99]⟩) from fun V h => by
          have hb := (h.block wS.heap.size (heap_lt (heap_alloc_new wS _))).trans (heap_alloc_new wS (.cells #[.int .i64 3, .int .i64 1, .int .i64 2, .string ⟨#[97]⟩, .string ⟨#[99]⟩] 29))
          exact ⟨by simp [World.cell?, hb], by simp [World.cell?, hb], by simp [World.cell?, hb], by simp [World.cell?, hb], by simp [World.cell?, hb]⟩)
        clear HB8
        generalize wS.alloc (.cells #[.int .i64 3, .int .i64 1, .int .i64 2, .string ⟨#[97]⟩, .string ⟨#[99]⟩] 29) = W9 at *
        generalize wS.heap.size = k8 at *
        have HON := Lib.hid one_any
        have HOT := Lib.hid other_any
        have HK1 := Lib.hid ck1
        have HK2 := Lib.hid ck2
        have HK3 := Lib.hid ck3
        go_region_held3 (fun w' => w'.cell? ⟨k8, 0, none⟩ = some (.int .i64 3) ∧ w'.cell? ⟨k8, 1, none⟩ = some (.int .i64 1) ∧ w'.cell? ⟨k8, 2, none⟩ = some (.int .i64 2) ∧ w'.cell? ⟨k8, 3, none⟩ = some (.string ⟨#[97]⟩) ∧ w'.cell? ⟨k8, 4, none⟩ = some (.string ⟨#[99]⟩))
          (first | (with_reducible refine HC9.out _ ?_; repeat (first | with_reducible exact Below.refl _ _ | with_reducible assumption | with_reducible refine Below.drew ?_ | with_reducible refine bel_alloc ?_ _ | (with_reducible refine bel_store ?_ ?_ _ _; rotate_left; first | exact Nat.le_refl _ | omega | (focus (simp; omega))))))
          (first
            | (go_at_call 8; ((with_reducible refine (HON.out _).mono ?_); rintro e wO ⟨rfl, hbX⟩; refine use_fact (T := Below W9.heap.size W9 wO) ?_ (fun hywO => ?_); (focus (repeat (first | with_reducible exact Below.refl _ _ | with_reducible assumption | with_reducible refine Below.drew ?_ | with_reducible refine bel_alloc ?_ _ | (with_reducible refine bel_store ?_ ?_ _ _; rotate_left; first | exact Nat.le_refl _ | omega | (focus (simp; omega))) | with_reducible refine bel_step ?_ hbX))); clear hbX))
            | (go_at_call 9; ((with_reducible refine (HOT.out _).mono ?_); rintro e wP ⟨rfl, hbX⟩; refine use_fact (T := Below W9.heap.size W9 wP) ?_ (fun hywP => ?_); (focus (repeat (first | with_reducible exact Below.refl _ _ | with_reducible assumption | with_reducible refine Below.drew ?_ | with_reducible refine bel_alloc ?_ _ | (with_reducible refine bel_store ?_ ?_ _ _; rotate_left; first | exact Nat.le_refl _ | omega | (focus (simp; omega))) | with_reducible refine bel_step ?_ hbX))); clear hbX))
            | (go_at_call 11; ((with_reducible refine (HK1.out _ _ ?_).mono ?_); rotate_left; rintro e wQ ⟨rfl, hbX⟩; refine use_fact (T := Below W9.heap.size W9 wQ) ?_ (fun hywQ => ?_); (focus (repeat (first | with_reducible exact Below.refl _ _ | with_reducible assumption | with_reducible refine Below.drew ?_ | with_reducible refine bel_alloc ?_ _ | (with_reducible refine bel_store ?_ ?_ _ _; rotate_left; first | exact Nat.le_refl _ | omega | (focus (simp; omega))) | with_reducible refine bel_step ?_ hbX))); clear hbX; rotate_left; (repeat (first | with_reducible exact heap_alloc_new _ _ | (with_reducible refine heap_alloc_at _ _ ?_; first | rfl | (focus (simp; done))) | with_reducible refine blk_drew ?_ | with_reducible refine blk_alloc ?_ _))))
            | (go_at_call 11; ((with_reducible refine (HK2.out _ _ ?_).mono ?_); rotate_left; rintro e wR ⟨rfl, hbX⟩; refine use_fact (T := Below W9.heap.size W9 wR) ?_ (fun hywR => ?_); (focus (repeat (first | with_reducible exact Below.refl _ _ | with_reducible assumption | with_reducible refine Below.drew ?_ | with_reducible refine bel_alloc ?_ _ | (with_reducible refine bel_store ?_ ?_ _ _; rotate_left; first | exact Nat.le_refl _ | omega | (focus (simp; omega))) | with_reducible refine bel_step ?_ hbX))); clear hbX; rotate_left; (repeat (first | with_reducible exact heap_alloc_new _ _ | (with_reducible refine heap_alloc_at _ _ ?_; first | rfl | (focus (simp; done))) | with_reducible refine blk_drew ?_ | with_reducible refine blk_alloc ?_ _))))
            | (go_at_call 11; ((with_reducible refine (HK3.out _).mono ?_); rintro e wT ⟨rfl, hbX⟩; refine use_fact (T := Below W9.heap.size W9 wT) ?_ (fun hywT => ?_); (focus (repeat (first | with_reducible exact Below.refl _ _ | with_reducible assumption | with_reducible refine Below.drew ?_ | with_reducible refine bel_alloc ?_ _ | (with_reducible refine bel_store ?_ ?_ _ _; rotate_left; first | exact Nat.le_refl _ | omega | (focus (simp; omega))) | with_reducible refine bel_step ?_ hbX))); clear hbX)))
        all_goals
          have HB10 := Lib.hid (bel_step HB9.out hywT)
          clear hywO hywP hywQ hywR hywT HB9 HC9 HON HOT HK1 HK2 HK3
          go_wp2_with fail
          refine (open_nil _).mono ?_
          rintro e wa ⟨rfl, rfl⟩
          have H1 := Lib.hid (In.new (w0 := W) HB10.out)
          clear HB10
          go_wp2_with fail
          refine H1.out.mono ?_
          rintro e wb ⟨rfl, hi⟩
          have H2 := Lib.hid (hi.crash none 0 0 [] rfl (by omega) (by omega) rfl)
          clear hi H1
          go_wp2_with fail
          refine H2.out.mono ?_
          rintro e wc ⟨rfl, hi⟩
          have H3 := Lib.hid (open_bad _ _ _ _ hi.dat 7 rfl (by decide) (by decide))
          have HB11 := Lib.hid hi.bel
          clear hi H2
          go_wp2_with fail
          refine H3.out.mono ?_
          rintro e wd ⟨rfl, hbd⟩
          have HB12 := Lib.hid (bel_step HB11.out hbd)
          clear hbd HB11 H3
          go_wp2_with fail
          refine (awake_any _).mono ?_
          rintro e we ⟨rfl, hbe⟩
          have HB13 := Lib.hid (bel_step HB12.out hbe)
          clear hbe HB12
          go_wp2_with fail
          refine (cm_nil _).mono ?_
          rintro e wf ⟨rfl, hbf⟩
          have HB14 := Lib.hid (bel_step HB13.out hbf)
          clear hbf HB13
          go_wp2_with fail
          refine (st_nil _).mono ?_
          rintro e wg ⟨rfl, hbg⟩
          have HB15 := Lib.hid (bel_step HB14.out hbg)
          clear hbg HB14
          go_wp2_with fail
          refine (sm16 _).mono ?_
          rintro e wh ⟨rfl, hbh⟩
          have HB16 := Lib.hid (bel_alloc (bel_step HB15.out hbh) (.cells #[.pointer none, .int .i64 0, .int .i64 0, .slice none 0 0, .bool false] 50))
          clear hbh HB15
          go_wp2_with fail
          refine (cm_none _ _ (by simp [go_sem])).mono ?_
          rintro e wi ⟨rfl, hbi⟩
          have HB17 := Lib.hid (bel_step HB16.out hbi)
          clear hbi HB16
          go_wp2_with fail
          go_ret
          exact ⟨rfl, HB17.out⟩
end Go.Proofs.YtiiafpbonkcokaaGreat
