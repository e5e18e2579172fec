/-
  redressref28.Balances.
-/
import Derived.Test.YtgoejmheihgpfaaGreatDoorRy
import Derived.Deep.CutBlock
namespace Go.Proofs.YtgoejmheihgpfaaGreatDoor
open Go.RowKit

theorem put_there {F : Mp} {a : Tx} (hu : Up F) (hp : posR F a < F.length) (he : F[posR F a].1 = a) : (∀ n, mput F a n = F.set (posR F a) (a, n)) ∧ F[posR F a]? = some (a, mget F a) := by
  have hr : restR F a = F.drop (posR F a + 1) := by
    unfold restR thereR
    rw [List.getElem?_eq_getElem hp]
    simp [he]
  refine ⟨fun n => ?_, ?_⟩
  · rw [mput_at hu n, hr, List.set_eq_take_append_cons_drop, if_pos hp]
  · rw [List.getElem?_eq_getElem hp, mget_at hu, dif_pos hp, if_pos he]
    have : F[posR F a] = (F[posR F a].1, F[posR F a].2) := rfl
    rw [this, he]
def insR (F : Mp) (a : Tx) : Mp := F.take (posR F a) ++ ([(a, 0)] ++ F.drop (posR F a))
theorem insR_len (F : Mp) (a : Tx) : (insR F a).length = F.length + 1 := by
  have := posR_le F a
  unfold insR
  simp only [List.length_append, List.length_take, List.length_drop, List.length_cons, List.length_nil]
  omega
theorem put_not {F : Mp} {a : Tx} (hu : Up F) (h : ∀ (hp : posR F a < F.length), F[posR F a].1 ≠ a) : (∀ n, mput F a n = (insR F a).set (posR F a) (a, n)) ∧ (insR F a)[posR F a]? = some (a, mget F a) := by
  have hl : (F.take (posR F a)).length = posR F a := by rw [List.length_take]; have := posR_le F a; omega
  have hr : restR F a = F.drop (posR F a) := by
    unfold restR thereR
    by_cases hp : posR F a < F.length
    · rw [List.getElem?_eq_getElem hp]
      simp [h hp]
    · rw [List.getElem?_eq_none (by omega)]; rfl
  have hg : mget F a = 0 := by
    rw [mget_at hu]
    by_cases hp : posR F a < F.length
    · rw [dif_pos hp, if_neg (h hp)]
    · rw [dif_neg hp]
  refine ⟨fun n => ?_, ?_⟩
  · rw [mput_at hu n, hr]
    unfold insR
    rw [List.set_append_right _ _ (by omega), hl, Nat.sub_self]
    rfl
  · unfold insR
    rw [List.getElem?_append_right (by omega), hl, Nat.sub_self, hg]
    rfl
theorem bytesLess_lt : ∀ (x y : List UInt8), Op.bytesLess x y = decide (x < y)
  | [], [] => by simp [Op.bytesLess]
  | _ :: _, [] => by simp [Op.bytesLess]
  | [], _ :: _ => by simp [Op.bytesLess]
  | a :: x, b :: y => by
    rw [Op.bytesLess, bytesLess_lt x y]
    simp only [List.cons_lt_cons_iff]
    by_cases h1 : a < b <;> by_cases h2 : a = b <;> by_cases h3 : x < y <;> simp [h1, h2, h3]
theorem own_type {w : World} {B : Nat} {T T' : TypeId} {z : Nat} {v : Value} {n : Nat} {xs : List Value} {k : Nat} {cs : Array Value} (h : w.ownsRow B T z v n xs) (hk : w.heap[k]? = some (.cells cs T' (0, 0))) (hne : T' ≠ T) : v.ownBlock ≠ some k := by
  rcases h.2 with ⟨rfl, _⟩ | ⟨g, cap, cur, rfl, _, hg, _⟩
  · intro e; cases e
  · intro e
    have : g = k := by simpa [Value.ownBlock] using e
    subst this
    rw [hk] at hg; injection hg with e2; injection e2 with _ e3; exact hne e3
theorem accells_set : ∀ {G : Mp} {p : Nat} {a : Tx} {m : Int} (_ : G[p]? = some (a, m)) (n : Int), (accells G).set (p * 2 + 1) (.int .i64 n) = accells (G.set p (a, n))
  | [], _, _, _, h, _ => by simp at h
  | x :: G, 0, a, m, h, n => by
    have h : x = (a, m) := by simpa using h
    subst h
    rfl
  | x :: G, p + 1, a, m, h, n => by
    have h : G[p]? = some (a, m) := by simpa using h
    rw [show (p + 1) * 2 + 1 = p * 2 + 1 + 2 by omega]
    show Value.string (bT x.1) :: Value.int .i64 x.2 :: (accells G).set (p * 2 + 1) (.int .i64 n) = Value.string (bT x.1) :: Value.int .i64 x.2 :: accells (G.set p (a, n))
    rw [accells_set h n]
set_option maxRecDepth 100000 in
set_option maxHeartbeats 16000000 in
theorem rbalances_any (w : World) (s : Sch) (ur us ug : Value) (hS : SchR w s ur us ug) (hM : Small s) (v : Value) (l : List Ent) (hl : Slc w 6 v l.length (ecells l)) (hn : l.length ≤ 1000) (hacc : ∀ e ∈ l, e.acc.length ≤ 1000000) :
    Calls Tryz.prog 10 #[.agg #[.string (bT s.name), ur, us, ug], v] w fun x w' => ((balA s l [] = none ∧ x = .returned (.tuple #[.slice none 0 0, .bool false])) ∨ ∃ F u, balA s l [] = some F ∧ x = .returned (.tuple #[u, .bool true]) ∧ w'.ownsRow w.heap.size 39 2 u F.length (accells F) ∧ Up F) ∧ Below w.heap.size w w' := by
  obtain ⟨⟨ra, rv, rfl⟩, ⟨sa, sv, rfl⟩, ⟨ga, gv, rfl⟩⟩ := hS.shape
  obtain ⟨la, lc, rfl⟩ := hl.shape
  have HME := Lib.hid (fun W (h : Below w.heap.size w W) a b => rmethod_any W s _ _ _ (hS.below h) hM a b)
  have HSL := Lib.hid hl
  have HAC := Lib.hid hacc
  obtain ⟨i0, hi0, hz0, hz1, hz2⟩ := info_parts info_ra
  generalize hR0 : balA s l [] = R at *
  have HB0 := Lib.hid hR0
  clear hS hM hl hacc hR0
  go_enter Tryz.func10, Tryz.ntmps10
  go_wp2_with fail
  generalize hwb : w.alloc (.cells #[.string (bT s.name), .slice ra s.records.length rv, .slice sa s.services.length sv, .slice ga s.sagas.length gv] 26) = wb
  have HBb := Lib.hid (show Below w.heap.size w wb from hwb ▸ bl1 w _)
  have HXb := Lib.hid (show wb.heap[w.heap.size]? = some (.cells #[.string (bT s.name), .slice ra s.records.length rv, .slice sa s.services.length sv, .slice ga s.sagas.length gv] 26 (0, 0)) from hwb ▸ heap_alloc_new _ _)
  have hzb : wb.heap.size = w.heap.size + 1 := by rw [← hwb]; simp
  have HZB := Lib.hid hzb
  clear hwb hzb
  have HBL := Lib.hid (show balA s (l.drop 0) [] = R from HB0.out)
  clear HB0
  go_loopw [6, 7] (fun vo vi wr => ∃ (k : Nat) (F : Mp), k ≤ l.length ∧ F.length ≤ k ∧ vi = .int .i64 (k : Nat) ∧ Hid (Below wb.heap.size wb wr) ∧ Hid (wr.ownsRow wb.heap.size 39 2 vo F.length (accells F)) ∧ Hid (Up F ∧ InF F ∧ LenF F) ∧ Hid (balA s (l.drop k) F = R)) (fun _ vi _ => l.length - (intOf vi).toNat)
  case atStart => exact ⟨0, [], by omega, Nat.le_refl _, rfl, Lib.hid (Below.refl _ _), Lib.hid (World.ownsRow_nil _ _ _ _), Lib.hid ⟨List.Pairwise.nil, (fun _ h => by cases h), fun _ h => by cases h⟩, HBL⟩
  case round =>
    clear HBL
    rename World => wo
    obtain ⟨k, F, hk, hFk, rfl, HB, HO, HU, HR⟩ := hrel
    obtain ⟨oa, oc, rfl⟩ := own_slice HO.out
    have HBw := Lib.hid (show Below w.heap.size w wo from HBb.out.trans (HB.out.mono HBb.out.size))
    by_cases hlt : k < l.length
    case neg =>
      have HRe := Lib.hid (show R = some F from by rw [← HR.out, List.drop_eq_nil_of_le (by omega)]; rfl)
      go_wp2_with fail
      exact bodyPost_ret (v := .tuple #[.slice oa F.length oc, .bool true]) (by simp [results, Tryz.results10, go_sem]) rfl ⟨.inr ⟨F, _, HRe.out, rfl, own_base HO.out HBb.out.size, HU.out.1⟩, HBw.out⟩
    obtain ⟨b9, o9, rfl, hb9, p0, p1, p2, p3, p4, p5⟩ := ent_at (HSL.out.below HBw.out) hlt
    have HRk := Lib.hid (show R = if okE s l[k] = true ∧ inA (newN s F l[k]) = true then balA s (l.drop (k + 1)) (mput F l[k].acc (newN s F l[k])) else none from by rw [← HR.out, List.drop_eq_getElem_cons hlt]; rfl)
    have hac := HAC.out _ (List.getElem_mem hlt)
    generalize l[k] = e at *
    have hxo := (HB.out.block w.heap.size (by have := HZB.out; omega)).trans HXb.out
    have hlo : w.heap.size < wo.heap.size := (Array.getElem?_eq_some_iff.1 hxo).1
    have HXo := Lib.hid hxo
    clear hxo HR
    go_upto_region 6 with (fail)
    have HXe := Lib.hid (heap_alloc_new wo (.cells #[.int .u64 e.stamp, .string (bT e.key), .string (bT e.sv), .string (bT e.mt), .string (bT e.acc), .int .i64 e.am] 71))
    have HX1 := Lib.hid ((Below.heap_alloc wo (.cells #[.int .u64 e.stamp, .string (bT e.key), .string (bT e.sv), .string (bT e.mt), .string (bT e.acc), .int .i64 e.am] 71) _ hlo).trans HXo.out)
    have HB1 := Lib.hid (HB.out.alloc HB.out.size (.cells #[.int .u64 e.stamp, .string (bT e.key), .string (bT e.sv), .string (bT e.mt), .string (bT e.acc), .int .i64 e.am] 71))
    have HO1 := Lib.hid (own_below HO.out (bl1 wo (.cells #[.int .u64 e.stamp, .string (bT e.key), .string (bT e.sv), .string (bT e.mt), .string (bT e.acc), .int .i64 e.am] 71)))
    generalize wo.alloc (.cells #[.int .u64 e.stamp, .string (bT e.key), .string (bT e.sv), .string (bT e.mt), .string (bT e.acc), .int .i64 e.am] 71) = w1 at *
    have e4 : ∀ W, Below w1.heap.size w1 W → W.cell? ⟨wo.heap.size, 0, none⟩ = some (.int .u64 e.stamp) ∧ W.cell? ⟨wo.heap.size, 2, none⟩ = some (.string (bT e.sv)) ∧ W.cell? ⟨wo.heap.size, 3, none⟩ = some (.string (bT e.mt)) ∧ W.cell? ⟨wo.heap.size, 4, none⟩ = some (.string (bT e.acc)) ∧ W.cell? ⟨wo.heap.size, 5, none⟩ = some (.int .i64 e.am) := fun W h => by
      have := (h.block _ (Array.getElem?_eq_some_iff.1 HXe.out).1).trans HXe.out
      simp [World.cell?, this]
    have HE4 := Lib.hid e4
    obtain ⟨r0, r2, r3, r4, r5⟩ := e4 w1 (Below.refl _ _)
    have hx1 := HX1.out
    have x0 : w1.cell? ⟨w.heap.size, 0, none⟩ = some (.string (bT s.name)) := by simp only [World.cell?, hx1]; rfl
    have x1 : w1.cell? ⟨w.heap.size, 1, none⟩ = some (.slice ra s.records.length rv) := by simp only [World.cell?, hx1]; rfl
    have x2 : w1.cell? ⟨w.heap.size, 2, none⟩ = some (.slice sa s.services.length sv) := by simp only [World.cell?, hx1]; rfl
    have x3 : w1.cell? ⟨w.heap.size, 3, none⟩ = some (.slice ga s.sagas.length gv) := by simp only [World.cell?, hx1]; rfl
    clear hx1 e4 p0 p1 p2 p3 p4 p5
    have HOK := Lib.hid (show okE s e = ((mthOf s e.sv e.mt).isSome && decide (1 ≤ e.acc.length) && decide (e.acc.length ≤ 64) && decide (0 ≤ e.am) && decide (e.am ≤ 1099511627776)) from rfl)
    have HNN := Lib.hid (show newN s F e = effA (mOr (mthOf s e.sv e.mt)).effect (mget F e.acc) e.am from rfl)
    have HMc := Lib.hid (HME.out w1 (HBb.out.trans (HB1.out.mono HBb.out.size)) e.sv e.mt)
    generalize okE s e = OK at *
    generalize newN s F e = NN at *
    generalize mthOf s e.sv e.mt = M at *
    generalize mOr M = mm at *
    obtain ⟨mn, ma, mr, me, mu⟩ := mm
    unfold mV at HMc
    go_wp2_with fail
    refine HMc.out.mono ?_
    rintro e' w2 ⟨rfl, hb⟩
    have HB2 := Lib.hid (HB1.out.trans (hb.mono HB1.out.size))
    have HO2 := Lib.hid (own_below HO1.out hb)
    have HD2 := Lib.hid hb
    clear hb HMc x0 x1 x2 x3 r0 r2 r3 r4 r5 HO HO1
    go_upto_region 7 with (fail)
    have HMM := Lib.hid (heap_alloc_new w2 (.cells #[.string (bT mn), .string (bT ma), .int .u8 (mr : Nat), .string (bT me), .string (bT mu)] 92))
    have HB3 := Lib.hid (HB2.out.alloc HB2.out.size (.cells #[.string (bT mn), .string (bT ma), .int .u8 (mr : Nat), .string (bT me), .string (bT mu)] 92))
    have HD3 := Lib.hid (HD2.out.alloc HD2.out.size (.cells #[.string (bT mn), .string (bT ma), .int .u8 (mr : Nat), .string (bT me), .string (bT mu)] 92))
    have HO3 := Lib.hid (own_below HO2.out (bl1 w2 (.cells #[.string (bT mn), .string (bT ma), .int .u8 (mr : Nat), .string (bT me), .string (bT mu)] 92)))
    generalize w2.alloc (.cells #[.string (bT mn), .string (bT ma), .int .u8 (mr : Nat), .string (bT me), .string (bT mu)] 92) = w3 at *
    obtain ⟨r0, r2, r3, r4, r5⟩ := HE4.out w3 HD3.out
    have hml : w2.heap.size < w3.heap.size := (Array.getElem?_eq_some_iff.1 HMM.out).1
    have hsz := bT_size e.acc
    have HBw3 := Lib.hid (show Below w.heap.size w w3 from HBb.out.trans (HB3.out.mono HBb.out.size))
    clear HO2
    cases hM : M.isSome with
    | false =>
      have HE := Lib.hid (show R = none from HRk.out.trans (if_neg (fun h => by have h1 := h.1; rw [show OK = false from by rw [HOK.out, hM]; rfl] at h1; cases h1)))
      go_wp2_with fail
      exact bodyPost_ret (v := .tuple #[.slice none 0 0, .bool false]) (by simp [results, Tryz.results10, go_sem]) rfl ⟨.inl ⟨HE.out, rfl⟩, HBw3.out⟩
    | true =>
      by_cases t0 : e.acc.length = 0
      · have e0 : ((e.acc.length : Int) == 0) = true := by rw [beq_iff_eq]; omega
        have HNu := Lib.hid (show OK = false from by rw [HOK.out, hM]; simp only [Bool.true_and, Bool.and_eq_false_iff, decide_eq_false_iff_not]; omega)
        have HE := Lib.hid (show R = none from HRk.out.trans (if_neg (fun h => by have h1 := h.1; rw [show OK = false from by exact HNu.out] at h1; cases h1)))
        go_wp2_with fail
        exact bodyPost_ret (v := .tuple #[.slice none 0 0, .bool false]) (by simp [results, Tryz.results10, go_sem]) rfl ⟨.inl ⟨HE.out, rfl⟩, HBw3.out⟩
      have e0 : ((e.acc.length : Int) == 0) = false := by rw [beq_eq_false_iff_ne]; omega
      by_cases t1 : 64 < (e.acc.length : Int)
      · have e1 : decide (64 < (e.acc.length : Int)) = true := decide_eq_true t1
        have HNu := Lib.hid (show OK = false from by rw [HOK.out, hM]; simp only [Bool.true_and, Bool.and_eq_false_iff, decide_eq_false_iff_not]; omega)
        have HE := Lib.hid (show R = none from HRk.out.trans (if_neg (fun h => by have h1 := h.1; rw [show OK = false from by exact HNu.out] at h1; cases h1)))
        go_wp2_with fail
        exact bodyPost_ret (v := .tuple #[.slice none 0 0, .bool false]) (by simp [results, Tryz.results10, go_sem]) rfl ⟨.inl ⟨HE.out, rfl⟩, HBw3.out⟩
      have e1 : decide (64 < (e.acc.length : Int)) = false := decide_eq_false t1
      by_cases t2 : e.am < 0
      · have e2 : decide (e.am < 0) = true := decide_eq_true t2
        have HNu := Lib.hid (show OK = false from by rw [HOK.out, hM]; simp only [Bool.true_and, Bool.and_eq_false_iff, decide_eq_false_iff_not]; omega)
        have HE := Lib.hid (show R = none from HRk.out.trans (if_neg (fun h => by have h1 := h.1; rw [show OK = false from by exact HNu.out] at h1; cases h1)))
        go_wp2_with fail
        exact bodyPost_ret (v := .tuple #[.slice none 0 0, .bool false]) (by simp [results, Tryz.results10, go_sem]) rfl ⟨.inl ⟨HE.out, rfl⟩, HBw3.out⟩
      have e2 : decide (e.am < 0) = false := decide_eq_false t2
      by_cases t3 : 1099511627776 < e.am
      · have e3 : decide (1099511627776 < e.am) = true := decide_eq_true t3
        have HNu := Lib.hid (show OK = false from by rw [HOK.out, hM]; simp only [Bool.true_and, Bool.and_eq_false_iff, decide_eq_false_iff_not]; omega)
        have HE := Lib.hid (show R = none from HRk.out.trans (if_neg (fun h => by have h1 := h.1; rw [show OK = false from by exact HNu.out] at h1; cases h1)))
        go_wp2_with fail
        exact bodyPost_ret (v := .tuple #[.slice none 0 0, .bool false]) (by simp [results, Tryz.results10, go_sem]) rfl ⟨.inl ⟨HE.out, rfl⟩, HBw3.out⟩
      have e3 : decide (1099511627776 < e.am) = false := decide_eq_false t3
      have HOk := Lib.hid (show OK = true from by rw [HOK.out, hM]; simp only [Bool.true_and, Bool.and_eq_true, decide_eq_true_eq]; omega)
      have HPG := Lib.hid (fun (j : Nat) (h : j < posR F e.acc) (hj : j < F.length) => posR_lt h hj)
      have hpl := posR_le F e.acc
      generalize hpos : posR F e.acc = p at *
      go_upto_block 2 with (fail)
      go_cut [11] (fun vk wc => vk = .int .i64 (p : Nat) ∧ Hid (Below w3.heap.size w3 wc))
      case first =>
        go_wp2_with fail
        go_loopw [11] (fun vk wr => ∃ j : Nat, j ≤ p ∧ vk = .int .i64 (j : Nat) ∧ Hid (Below w3.heap.size w3 wr)) (fun vk _ => p - (intOf vk).toNat)
        case atStart => exact ⟨0, by omega, rfl, Lib.hid (Below.refl _ _)⟩
        case round =>
          rename World => wr
          obtain ⟨j, hj, rfl, HBr⟩ := hrel
          have HOr := Lib.hid (own_below HO3.out HBr.out)
          obtain ⟨r0, r2, r3, r4, r5⟩ := HE4.out wr (HD3.out.trans (HBr.out.mono HD3.out.size))
          have HBn := Lib.hid (fun n => show Below w3.heap.size w3 (wr.drewN n) from ⟨HBr.out.os, HBr.out.tape, HBr.out.output, HBr.out.size, HBr.out.block⟩)
          by_cases hjp : j < p
          · have hjl : j < F.length := by omega
            have HLT := Lib.hid (HPG.out j hjp hjl)
            obtain ⟨b7, o7, rfl, hb7, hcs⟩ := slc_cells (Slc.own HOr.out) (by omega)
            have q0 := hcs _ _ (accells_at F j hjl).1
            have dl : decide ((j : Int) < (F.length : Int)) = true := by rw [decide_eq_true_eq]; omega
            have hi1 : (0 : Int) ≤ (j : Int) := by omega
            have hi2 : (j : Int) < (F.length : Int) := by omega
            have bl : Op.bytesLess (bT F[j].1).toList (bT e.acc).toList = true := by rw [bytesLess_lt, bT_list, bT_list]; exact decide_eq_true HLT.out
            generalize F[j] = fj at *
            clear hcs
            go_wp2_with fail
            go_quiet (fail)
            have HB4 := Lib.hid (HBn.out nq)
            have hwk : IntKind.i64.wrap ((j : Int) + 1) = (j : Int) + 1 := IntWalk.i64_in _ (by omega)
            go_wp2_with fail
            exact ⟨⟨j + 1, by omega, by go_num, HB4⟩, by simp [intOf]; omega⟩
          obtain rfl : j = p := by omega
          by_cases hjl : j < F.length
          · have HGE := Lib.hid (show ¬ F[j].1 < e.acc from by subst hpos; exact posR_ge hjl)
            obtain ⟨b7, o7, rfl, hb7, hcs⟩ := slc_cells (Slc.own HOr.out) (by omega)
            have q0 := hcs _ _ (accells_at F j hjl).1
            have dl : decide ((j : Int) < (F.length : Int)) = true := by rw [decide_eq_true_eq]; omega
            have hi1 : (0 : Int) ≤ (j : Int) := by omega
            have hi2 : (j : Int) < (F.length : Int) := by omega
            have bl : Op.bytesLess (bT F[j].1).toList (bT e.acc).toList = false := by rw [bytesLess_lt, bT_list, bT_list]; exact decide_eq_false HGE.out
            clear hcs
            go_wp2_with fail
            go_quiet (fail)
            have HB4 := Lib.hid (HBn.out nq)
            go_wp2_with fail
            go_meet
            exact ⟨rfl, HB4⟩
          · have dl : decide ((j : Int) < (F.length : Int)) = false := by rw [decide_eq_false_iff_not]; omega
            go_wp2_with fail
            go_quiet (fail)
            have HB4 := Lib.hid (HBn.out nq)
            go_wp2_with fail
            go_meet
            exact ⟨rfl, HB4⟩
      case rest =>
        clear HPG
        obtain ⟨rfl, HBc⟩ := hcut
        have HOc := Lib.hid (own_below HO3.out HBc.out)
        have HBb3 := Lib.hid (HB3.out.trans (HBc.out.mono HB3.out.size))
        have HEc := Lib.hid ((HBc.out.block _ (Nat.lt_of_lt_of_le (Array.getElem?_eq_some_iff.1 HXe.out).1 HD3.out.size)).trans ((HD3.out.block _ (Array.getElem?_eq_some_iff.1 HXe.out).1).trans HXe.out))
        have HMc := Lib.hid ((HBc.out.block _ hml).trans HMM.out)
        have hFl : F.length ≤ 1000 := by omega
        have hel : wo.heap.size < wc.heap.size := (Array.getElem?_eq_some_iff.1 HEc.out).1
        have hmc : w2.heap.size < wc.heap.size := (Array.getElem?_eq_some_iff.1 HMc.out).1
        clear HXe HMM HO3 HB3 HD3 HB2 HD2 HB1 HB HBc HX1 HXo r0 r2 r3 r4 r5
        go_step
        go_step
        go_cut [6] (fun vo wx => ∃ (G : Mp) (a : Option Addr) (c : Nat), vo = .slice a G.length c ∧ Hid (wx.ownsRow wb.heap.size 39 2 vo G.length (accells G)) ∧ Hid (Below wb.heap.size wb wx) ∧ Hid (wx.heap[wo.heap.size]? = some (.cells #[.int .u64 e.stamp, .string (bT e.key), .string (bT e.sv), .string (bT e.mt), .string (bT e.acc), .int .i64 e.am] 71 (0, 0)) ∧ wx.heap[w2.heap.size]? = some (.cells #[.string (bT mn), .string (bT ma), .int .u8 (mr : Nat), .string (bT me), .string (bT mu)] 92 (0, 0))) ∧ Hid ((∀ n, mput F e.acc n = G.set p (e.acc, n)) ∧ G[p]? = some (e.acc, mget F e.acc)) ∧ G.length ≤ F.length + 1)
        case first =>
          have y4 : ∀ n, (wc.drewN n).cell? ⟨wo.heap.size, 4, none⟩ = some (.string (bT e.acc)) := fun n => by
            show wc.cell? _ = _
            simp only [World.cell?, HEc.out]; rfl
          have y40 := y4 0
          have HNB := Lib.hid (fun n => show Below wc.heap.size wc (wc.drewN n) from ⟨rfl, rfl, rfl, Nat.le_refl _, fun _ _ => rfl⟩)
          by_cases hpf : p < F.length
          · obtain ⟨b7, o7, rfl, hb7, hcs⟩ := slc_cells (Slc.own HOc.out) (by omega)
            have q0 := hcs _ _ (accells_at F p hpf).1
            have dk : ((p : Int) == (F.length : Int)) = false := by rw [beq_eq_false_iff_ne]; omega
            have hi1 : (0 : Int) ≤ (p : Int) := by omega
            have hi2 : (p : Int) < (F.length : Int) := by omega
            have e_n := bT_same (F[p].1) e.acc
            clear hcs
            by_cases he : F[p].1 = e.acc
            · have HPT := Lib.hid (show (∀ n, mput F e.acc n = F.set p (e.acc, n)) ∧ F[p]? = some (e.acc, mget F e.acc) from by subst hpos; exact put_there HU.out.1 hpf he)
              rw [decide_eq_true he] at e_n
              have f_n : (!((bT F[p].1).toList == (bT e.acc).toList)) = false := by rw [e_n]; rfl
              clear he
              go_wp2_with fail
              go_quiet (fail)
              go_wp2_with fail
              go_meet
              exact ⟨F, _, _, rfl, own_below HOc.out (HNB.out nq), HBb3.out.trans ((HNB.out nq).mono (by have := HBb3.out.size; omega)), ⟨HEc.out, HMc.out⟩, HPT.out, by omega⟩
            · have HPT := Lib.hid (show (∀ n, mput F e.acc n = (insR F e.acc).set p (e.acc, n)) ∧ (insR F e.acc)[p]? = some (e.acc, mget F e.acc) from by subst hpos; exact put_not HU.out.1 (fun _ => he))
              rw [decide_eq_false he] at e_n
              have f_n : (!((bT F[p].1).toList == (bT e.acc).toList)) = true := by rw [e_n]; rfl
              clear he
              go_wp2_with fail
              go_quiet (fail)
              have HWd := Lib.hid (HNB.out nq)
              have HOd := Lib.hid (own_below HOc.out (HNB.out nq))
              have HBd := Lib.hid (show Below wb.heap.size wb (wc.drewN nq) from HBb3.out.trans ((HNB.out nq).mono (by have := HBb3.out.size; omega)))
              have HEd := Lib.hid ((HWd.out.block _ hel).trans HEc.out)
              have HMd := Lib.hid ((HWd.out.block _ hmc).trans HMc.out)
              generalize wc.drewN nq = wd at *
              have hed : wo.heap.size < wd.heap.size := (Array.getElem?_eq_some_iff.1 HEd.out).1
              have hmd : w2.heap.size < wd.heap.size := (Array.getElem?_eq_some_iff.1 HMd.out).1
              have hoc : F.length ≤ oc := by obtain ⟨⟨_, _, e, h, _⟩, _⟩ := Slc.own HOd.out; cases e; exact h
              have HFR := Lib.hid (slc_front (Slc.own HOd.out) p hpl)
              have htl : (F.take p).length = p := by rw [List.length_take]; omega
              have HTL := Lib.hid htl
              clear htl
              have hbd := HBd.out.size
              have hob : b7 < wd.heap.size := (own_ge HOd.out _ rfl).2
              have hp1 : (p : Int) ≤ (oc : Int) := by omega
              have hp2 : p ≤ oc := by omega
              go_upto_region 15 with (first
                | (at_builtin; refine wpList_append_accs rfl _ _ rfl wd.heap.size i0 hi0 hz0 hz1 hz2 (.slice none 0 0) 0 [] rfl (World.ownsRow_nil _ _ _ _) _ (F.take p) rfl HFR.out (by rw [HTL.out]; omega) (Nat.le_refl _) ?_; intro v6 w6 hown6 hgrow6; rw [HTL.out, Nat.zero_add, List.nil_append] at hown6; obtain ⟨xa, xc, rfl⟩ := own_slice hown6; have HO6 := Lib.hid hown6; have HW6 := Lib.hid (show Below wd.heap.size wd w6 from ⟨hgrow6.os, hgrow6.tape, hgrow6.output, hgrow6.size, fun k hk => hgrow6.block k hk (fun e => by cases e)⟩); clear hown6 hgrow6))
              have HE6 := Lib.hid ((HW6.out.block _ hed).trans HEd.out)
              have y46 : w6.cell? ⟨wo.heap.size, 4, none⟩ = some (.string (bT e.acc)) := by simp only [World.cell?, HE6.out]; rfl
              have HO6' := Lib.hid (own_ge HO6.out)
              have hwd6 := HW6.out.size
              go_upto_region 16 with (first
                | (at_builtin; refine wpList_append_own _ rfl _ _ 34 rfl wd.heap.size 39 i0 (.agg #[.string ⟨#[]⟩, .int .i64 0]) 2 24 Tryz.underlying34 hi0 hz0 hz1 hz2 rfl (by decide) _ _ _ rfl (HO6.out.alloc _) ⟨w6.heap.size, 0, none⟩ 1 1 [.string (bT e.acc), .int .i64 0] rfl rfl (World.news_of_block (cs := #[.string (bT e.acc), .int .i64 0]) (t := 39) (fr := (0, 0)) (heap_alloc_new w6 _)) (by simp [Value.oneCell']) (by unfold maxLen; omega) (by omega) (by simp; omega) ?_; intro v7 w7 hown7 hgrow7 _; obtain ⟨ya, yc, rfl⟩ := own_slice hown7; have HW7 := Lib.hid (srt_round HO6'.out HW6.out hgrow7); have HO7 := Lib.hid hown7; clear hown7 hgrow7))
              have hop : ¬ oc = p := by omega
              have HBK := Lib.hid ((slc_back (Slc.own HOd.out) p hpl (some ⟨b7, o7 + p * 2, none⟩) (by rw [if_neg hop])).below HW7.out)
              have hdl : (F.drop p).length = F.length - p := by rw [List.length_drop]
              have HDL := Lib.hid hdl
              clear hdl
              have HO7' := Lib.hid (own_ge HO7.out)
              have hwd7 := HW7.out.size
              have hp3 : (p : Int) ≤ (F.length : Int) := by omega
              have HLN := Lib.hid (show p + 1 + (F.length - p) = (insR F e.acc).length from by rw [insR_len]; omega)
              have HIC := Lib.hid (show accells (F.take p) ++ [.string (bT e.acc), .int .i64 0] ++ accells (F.drop p) = accells (insR F e.acc) from by subst hpos; unfold insR accells; simp)
              go_wp2_with (first
                | (at_builtin; refine wpList_append_accs rfl _ _ rfl wd.heap.size i0 hi0 hz0 hz1 hz2 (.slice ya (p + 1) yc) (p + 1) _ rfl HO7.out _ (F.drop p) rfl HBK.out (by rw [HDL.out]; omega) (by omega) ?_; intro v8 w8 hown8 hgrow8; rw [HDL.out, HLN.out, HIC.out] at hown8; obtain ⟨za, zc, rfl⟩ := own_slice hown8; have HO8 := Lib.hid hown8; have HW8 := Lib.hid (HW7.out.grown hgrow8 (by omega) (fun k e => (HO7'.out k e).1)); clear hown8 hgrow8))
              go_meet
              exact ⟨insR F e.acc, _, _, rfl, own_base HO8.out hbd, HBd.out.trans (HW8.out.mono hbd), ⟨(HW8.out.block _ hed).trans HEd.out, (HW8.out.block _ hmd).trans HMd.out⟩, HPT.out, by rw [insR_len]; omega⟩
          · have HPT := Lib.hid (show (∀ n, mput F e.acc n = (insR F e.acc).set p (e.acc, n)) ∧ (insR F e.acc)[p]? = some (e.acc, mget F e.acc) from by subst hpos; exact put_not HU.out.1 (fun h => absurd h hpf))
            have dk : ((p : Int) == (F.length : Int)) = true := by rw [beq_iff_eq]; omega
            rcases HOc.out.2 with ⟨hnil, hzl⟩ | ⟨g9, cap9, cur9, hform, _⟩
            · have hF0 : F = [] := List.eq_nil_of_length_eq_zero hzl
              subst hF0
              injection hnil with e1 e2 e3
              subst e1 e3
              obtain rfl : p = 0 := by simpa using hpl
              have SN := Lib.hid (fun (W : World) => show Slc W 2 (.slice none 0 0) ([] : Mp).length (accells []) from ⟨⟨none, 0, rfl, Nat.le_refl _, by omega, fun _ => rfl, fun h => absurd h (by simp)⟩, rfl⟩)
              go_wp2_with fail
              go_quiet (fail)
              have HWd := Lib.hid (HNB.out nq)
              have HOd := Lib.hid (own_below HOc.out (HNB.out nq))
              have HBd := Lib.hid (show Below wb.heap.size wb (wc.drewN nq) from HBb3.out.trans ((HNB.out nq).mono (by have := HBb3.out.size; omega)))
              have HEd := Lib.hid ((HWd.out.block _ hel).trans HEc.out)
              have HMd := Lib.hid ((HWd.out.block _ hmc).trans HMc.out)
              generalize wc.drewN nq = wd at *
              have hed : wo.heap.size < wd.heap.size := (Array.getElem?_eq_some_iff.1 HEd.out).1
              have hmd : w2.heap.size < wd.heap.size := (Array.getElem?_eq_some_iff.1 HMd.out).1
              have hoc : 0 ≤ 0 := Nat.le_refl _
              have HFR := Lib.hid (SN.out wd)
              have htl : ([] : Mp).length = 0 := by rfl
              have HTL := Lib.hid htl
              clear htl
              have hbd := HBd.out.size
              have hp1 : (0 : Int) ≤ (0 : Int) := by omega
              have hp2 : 0 ≤ 0 := by omega
              go_upto_region 15 with (first
                | (at_builtin; refine wpList_append_accs rfl _ _ rfl wd.heap.size i0 hi0 hz0 hz1 hz2 (.slice none 0 0) 0 [] rfl (World.ownsRow_nil _ _ _ _) _ [] rfl HFR.out (by rw [HTL.out]; omega) (Nat.le_refl _) ?_; intro v6 w6 hown6 hgrow6; rw [HTL.out, Nat.zero_add, List.nil_append] at hown6; obtain ⟨xa, xc, rfl⟩ := own_slice hown6; have HO6 := Lib.hid hown6; have HW6 := Lib.hid (show Below wd.heap.size wd w6 from ⟨hgrow6.os, hgrow6.tape, hgrow6.output, hgrow6.size, fun k hk => hgrow6.block k hk (fun e => by cases e)⟩); clear hown6 hgrow6))
              have HE6 := Lib.hid ((HW6.out.block _ hed).trans HEd.out)
              have y46 : w6.cell? ⟨wo.heap.size, 4, none⟩ = some (.string (bT e.acc)) := by simp only [World.cell?, HE6.out]; rfl
              have HO6' := Lib.hid (own_ge HO6.out)
              have hwd6 := HW6.out.size
              go_upto_region 16 with (first
                | (at_builtin; refine wpList_append_own _ rfl _ _ 34 rfl wd.heap.size 39 i0 (.agg #[.string ⟨#[]⟩, .int .i64 0]) 2 24 Tryz.underlying34 hi0 hz0 hz1 hz2 rfl (by decide) _ _ _ rfl (HO6.out.alloc _) ⟨w6.heap.size, 0, none⟩ 1 1 [.string (bT e.acc), .int .i64 0] rfl rfl (World.news_of_block (cs := #[.string (bT e.acc), .int .i64 0]) (t := 39) (fr := (0, 0)) (heap_alloc_new w6 _)) (by simp [Value.oneCell']) (by unfold maxLen; omega) (by omega) (by simp; omega) ?_; intro v7 w7 hown7 hgrow7 _; obtain ⟨ya, yc, rfl⟩ := own_slice hown7; have HW7 := Lib.hid (srt_round HO6'.out HW6.out hgrow7); have HO7 := Lib.hid hown7; clear hown7 hgrow7))
              have HBK := Lib.hid (SN.out w7)
              have hdl : ([] : Mp).length = 0 - 0 := by rfl
              have HDL := Lib.hid hdl
              clear hdl
              have HO7' := Lib.hid (own_ge HO7.out)
              have hwd7 := HW7.out.size
              have hp3 : (0 : Int) ≤ (0 : Int) := by omega
              have HLN := Lib.hid (show 0 + 1 + (0 - 0) = (insR [] e.acc).length from by rw [insR_len]; omega)
              have HIC := Lib.hid (show accells [] ++ [.string (bT e.acc), .int .i64 0] ++ accells [] = accells (insR [] e.acc) from by unfold insR accells; rw [hpos]; simp)
              go_wp2_with (first
                | (at_builtin; refine wpList_append_accs rfl _ _ rfl wd.heap.size i0 hi0 hz0 hz1 hz2 (.slice ya (0 + 1) yc) (0 + 1) _ rfl HO7.out _ [] rfl HBK.out (by rw [HDL.out]; omega) (by omega) ?_; intro v8 w8 hown8 hgrow8; rw [HDL.out, HLN.out, HIC.out] at hown8; obtain ⟨za, zc, rfl⟩ := own_slice hown8; have HO8 := Lib.hid hown8; have HW8 := Lib.hid (HW7.out.grown hgrow8 (by omega) (fun k e => (HO7'.out k e).1)); clear hown8 hgrow8))
              all_goals
                go_meet
                exact ⟨insR [] e.acc, _, _, rfl, own_base HO8.out hbd, HBd.out.trans (HW8.out.mono hbd), ⟨(HW8.out.block _ hed).trans HEd.out, (HW8.out.block _ hmd).trans HMd.out⟩, HPT.out, by rw [insR_len]; omega⟩
            · cases hform
              go_wp2_with fail
              go_quiet (fail)
              have HWd := Lib.hid (HNB.out nq)
              have HOd := Lib.hid (own_below HOc.out (HNB.out nq))
              have HBd := Lib.hid (show Below wb.heap.size wb (wc.drewN nq) from HBb3.out.trans ((HNB.out nq).mono (by have := HBb3.out.size; omega)))
              have HEd := Lib.hid ((HWd.out.block _ hel).trans HEc.out)
              have HMd := Lib.hid ((HWd.out.block _ hmc).trans HMc.out)
              generalize wc.drewN nq = wd at *
              have hed : wo.heap.size < wd.heap.size := (Array.getElem?_eq_some_iff.1 HEd.out).1
              have hmd : w2.heap.size < wd.heap.size := (Array.getElem?_eq_some_iff.1 HMd.out).1
              have hoc : F.length ≤ oc := by obtain ⟨⟨_, _, e, h, _⟩, _⟩ := Slc.own HOd.out; cases e; exact h
              have HFR := Lib.hid (slc_front (Slc.own HOd.out) p hpl)
              have htl : (F.take p).length = p := by rw [List.length_take]; omega
              have HTL := Lib.hid htl
              clear htl
              have hbd := HBd.out.size
              have hp1 : (p : Int) ≤ (oc : Int) := by omega
              have hp2 : p ≤ oc := by omega
              go_upto_region 15 with (first
                | (at_builtin; refine wpList_append_accs rfl _ _ rfl wd.heap.size i0 hi0 hz0 hz1 hz2 (.slice none 0 0) 0 [] rfl (World.ownsRow_nil _ _ _ _) _ (F.take p) rfl HFR.out (by rw [HTL.out]; omega) (Nat.le_refl _) ?_; intro v6 w6 hown6 hgrow6; rw [HTL.out, Nat.zero_add, List.nil_append] at hown6; obtain ⟨xa, xc, rfl⟩ := own_slice hown6; have HO6 := Lib.hid hown6; have HW6 := Lib.hid (show Below wd.heap.size wd w6 from ⟨hgrow6.os, hgrow6.tape, hgrow6.output, hgrow6.size, fun k hk => hgrow6.block k hk (fun e => by cases e)⟩); clear hown6 hgrow6))
              have HE6 := Lib.hid ((HW6.out.block _ hed).trans HEd.out)
              have y46 : w6.cell? ⟨wo.heap.size, 4, none⟩ = some (.string (bT e.acc)) := by simp only [World.cell?, HE6.out]; rfl
              have HO6' := Lib.hid (own_ge HO6.out)
              have hwd6 := HW6.out.size
              go_upto_region 16 with (first
                | (at_builtin; refine wpList_append_own _ rfl _ _ 34 rfl wd.heap.size 39 i0 (.agg #[.string ⟨#[]⟩, .int .i64 0]) 2 24 Tryz.underlying34 hi0 hz0 hz1 hz2 rfl (by decide) _ _ _ rfl (HO6.out.alloc _) ⟨w6.heap.size, 0, none⟩ 1 1 [.string (bT e.acc), .int .i64 0] rfl rfl (World.news_of_block (cs := #[.string (bT e.acc), .int .i64 0]) (t := 39) (fr := (0, 0)) (heap_alloc_new w6 _)) (by simp [Value.oneCell']) (by unfold maxLen; omega) (by omega) (by simp; omega) ?_; intro v7 w7 hown7 hgrow7 _; obtain ⟨ya, yc, rfl⟩ := own_slice hown7; have HW7 := Lib.hid (srt_round HO6'.out HW6.out hgrow7); have HO7 := Lib.hid hown7; clear hown7 hgrow7))
              have HBK := Lib.hid ((slc_back (Slc.own HOd.out) p hpl (if oc = p then some ⟨g9, 0, none⟩ else some ⟨g9, p * 2, none⟩) (by rw [Nat.zero_add])).below HW7.out)
              have hdl : (F.drop p).length = F.length - p := by rw [List.length_drop]
              have HDL := Lib.hid hdl
              clear hdl
              have HO7' := Lib.hid (own_ge HO7.out)
              have hwd7 := HW7.out.size
              have hp3 : (p : Int) ≤ (F.length : Int) := by omega
              have HLN := Lib.hid (show p + 1 + (F.length - p) = (insR F e.acc).length from by rw [insR_len]; omega)
              have HIC := Lib.hid (show accells (F.take p) ++ [.string (bT e.acc), .int .i64 0] ++ accells (F.drop p) = accells (insR F e.acc) from by subst hpos; unfold insR accells; simp)
              go_wp2_with (first
                | (at_builtin; refine wpList_append_accs rfl _ _ rfl wd.heap.size i0 hi0 hz0 hz1 hz2 (.slice ya (p + 1) yc) (p + 1) _ rfl HO7.out _ (F.drop p) rfl HBK.out (by rw [HDL.out]; omega) (by omega) ?_; intro v8 w8 hown8 hgrow8; rw [HDL.out, HLN.out, HIC.out] at hown8; obtain ⟨za, zc, rfl⟩ := own_slice hown8; have HO8 := Lib.hid hown8; have HW8 := Lib.hid (HW7.out.grown hgrow8 (by omega) (fun k e => (HO7'.out k e).1)); clear hown8 hgrow8))
              all_goals
                go_meet
                exact ⟨insR F e.acc, _, _, rfl, own_base HO8.out hbd, HBd.out.trans (HW8.out.mono hbd), ⟨(HW8.out.block _ hed).trans HEd.out, (HW8.out.block _ hmd).trans HMd.out⟩, HPT.out, by rw [insR_len]; omega⟩
        case rest =>
        obtain ⟨G, ga1, gc1, rfl, HOg, HBg, HEM, HPU, hGl⟩ := hcut
        rename World => wx
        have hpG : p < G.length := (List.getElem?_eq_some_iff.1 HPU.out.2).1
        obtain ⟨g, rfl⟩ : ∃ g, ga1 = some ⟨g, 0, none⟩ := by
          rcases HOg.out.2 with ⟨e, hn⟩ | ⟨g, cap, cur, e, _⟩
          · omega
          · injection e with e1; exact ⟨g, e1⟩
        have hgb : wb.heap.size ≤ g := (HOg.out.lt g rfl).1
        have hgl : g < wx.heap.size := (HOg.out.lt g rfl).2
        have hne1 : g ≠ wo.heap.size := fun h => own_type (T' := 71) HOg.out HEM.out.1 (by decide) (by rw [h]; rfl)
        have hne2 : g ≠ w2.heap.size := fun h => own_type (T' := 92) HOg.out HEM.out.2 (by decide) (by rw [h]; rfl)
        have hin := HU.out.2.1.get e.acc
        have HUP := Lib.hid (fun n (hi : inA n = true) => show Up (mput F e.acc n) ∧ InF (mput F e.acc n) ∧ LenF (mput F e.acc n) from ⟨HU.out.1.mput _ _, HU.out.2.1.mput _ hi, HU.out.2.2.mput hac _⟩)
        have HLN := Lib.hid (fun n => show (mput F e.acc n).length ≤ k + 1 from Nat.le_trans (by rw [HPU.out.1 n, List.length_set]; exact hGl) (Nat.succ_le_succ hFk))
        have HPI := Lib.hid HPU.out.1
        have HPG := Lib.hid HPU.out.2
        generalize mget F e.acc = n0 at *
        have q0 : wx.cell? ⟨g, p * 2 + 1, none⟩ = some (.int .i64 n0) := by
          have h1 := (accells_at G p hpG).2
          have h2 := HPG.out
          rw [List.getElem?_eq_getElem hpG] at h2
          injection h2 with h2
          rw [h2] at h1
          rw [HOg.out.cellAt (p * 2 + 1) (by omega)]
          exact h1
        have hn2 : 0 ≤ n0 ∧ n0 ≤ 1099511627776 := by unfold inA at hin; simpa using hin
        have y_me : wx.cell? ⟨w2.heap.size, 3, none⟩ = some (.string (bT me)) := by simp only [World.cell?, HEM.out.2]; rfl
        have y_am : wx.cell? ⟨wo.heap.size, 5, none⟩ = some (.int .i64 e.am) := by simp only [World.cell?, HEM.out.1]; rfl
        have HDR := Lib.hid (show Below wx.heap.size wx wx.drew from ⟨rfl, rfl, rfl, Nat.le_refl _, fun _ _ => rfl⟩)
        have d_am : wx.drew.cell? ⟨wo.heap.size, 5, none⟩ = some (.int .i64 e.am) := y_am
        have d_q0 : wx.drew.cell? ⟨g, p * 2 + 1, none⟩ = some (.int .i64 n0) := q0
        have HOd := Lib.hid (own_below HOg.out HDR.out)
        have HBd := Lib.hid (show Below wb.heap.size wb wx.drew from HBg.out.trans (HDR.out.mono HBg.out.size))
        have hfd : ∀ o, wx.drew.frozen? ⟨g, o, none⟩ = false := fun o => HOd.out.frozenAt o
        have d_me : wx.drew.heap[w2.heap.size]? = some (.cells #[.string (bT mn), .string (bT ma), .int .u8 (mr : Nat), .string (bT me), .string (bT mu)] 92 (0, 0)) := HEM.out.2
        have HDM := Lib.hid d_me
        have hgd : g < wx.drew.heap.size := hgl
        have hi1 : (0 : Int) ≤ (p : Int) := by omega
        have hi2 : (p : Int) < (G.length : Int) := by omega
        have hwp : IntKind.i64.wrap (n0 + e.am) = n0 + e.am := IntWalk.i64_in _ (by omega)
        have hwm : IntKind.i64.wrap (n0 - e.am) = n0 - e.am := IntWalk.i64_in _ (by omega)
        have HAS := Lib.hid (fun (wy : World) (h : wy.ownsRow wb.heap.size 39 2 (.slice (some ⟨g, 0, none⟩) G.length gc1) G.length (accells G)) n => show (wy.setCell ⟨g, p * 2 + 1, none⟩ (.int .i64 n)).ownsRow wb.heap.size 39 2 (.slice (some ⟨g, 0, none⟩) G.length gc1) (mput F e.acc n).length (accells (mput F e.acc n)) from by
          rw [HPI.out n, List.length_set, ← accells_set HPG.out n]
          exact (h.stored (p * 2 + 1) (.int .i64 n)).1)
        have HSC := Lib.hid (fun (wy : World) (h : wy.ownsRow wb.heap.size 39 2 (.slice (some ⟨g, 0, none⟩) G.length gc1) G.length (accells G)) n => show (wy.setCell ⟨g, p * 2 + 1, none⟩ (.int .i64 n)).cell? ⟨g, p * 2 + 1, none⟩ = some (.int .i64 n) from by
          have h1 := h.stored (p * 2 + 1) (.int .i64 n)
          rw [h1.1.cellAt (p * 2 + 1) (by omega), List.getElem?_set_self (by rw [accells_len]; omega)])
        try dsimp only at HNN
        have e_g : ((bT me).toList == [103, 105, 118, 101]) = decide (me = wGive) := bT_is _ wGive
        have e_t : ((bT me).toList == [116, 97, 107, 101]) = decide (me = wTake) := bT_is _ wTake
        clear hin HEc HMc hel hmc hml
        by_cases g1 : me = wGive
        · rw [decide_eq_true g1] at e_g
          rw [decide_eq_false (by rw [g1]; decide)] at e_t
          have HNe := Lib.hid (show NN = n0 + e.am from by rw [HNN.out]; unfold effA; rw [if_pos g1])
          clear HNN g1
          go_wp2_with fail
          go_still_tail 12, (by kernel_rfl)
          change wpList _ _ _ _ _ wx.drew
          generalize wx.drew = wy at *
          go_upto_region 19 with (fail)
          have HR5' := Lib.hid (HAS.out wy HOd.out (n0 + e.am))
          have q5 := HSC.out wy HOd.out (n0 + e.am)
          have HB5 := Lib.hid (show Below wb.heap.size wb (wy.setCell ⟨g, p * 2 + 1, none⟩ (.int .i64 (n0 + e.am))) from HBd.out.setCell (p := ⟨g, p * 2 + 1, none⟩) hgb _)
          have x_me : (wy.setCell ⟨g, p * 2 + 1, none⟩ (.int .i64 (n0 + e.am))).cell? ⟨w2.heap.size, 3, none⟩ = some (.string (bT me)) := by
            rw [show (wy.setCell ⟨g, p * 2 + 1, none⟩ (.int .i64 (n0 + e.am))).cell? ⟨w2.heap.size, 3, none⟩ = wy.cell? ⟨w2.heap.size, 3, none⟩ from by simp only [World.cell?]; rw [Below.heap_setCell _ _ _ _ (by show w2.heap.size ≠ g; exact fun h => hne2 h.symm)]]
            simp only [World.cell?, HDM.out]; rfl
          have hl5 : g < (wy.setCell ⟨g, p * 2 + 1, none⟩ (.int .i64 (n0 + e.am))).heap.size := by simpa [World.setCell] using hgd
          generalize wy.setCell ⟨g, p * 2 + 1, none⟩ (.int .i64 (n0 + e.am)) = w5 at *
          clear d_am d_q0 HAS HSC hfd q0 y_me y_am hgd hgl
          have z1 : decide (n0 + e.am < 0) = false := decide_eq_false (by omega)
          have z2 : decide (0 ≤ n0 + e.am) = true := by rw [decide_eq_true_eq]; omega
          by_cases t9 : 1099511627776 < n0 + e.am
          · have z3 : decide (1099511627776 < n0 + e.am) = true := decide_eq_true t9
            have z4 : decide (n0 + e.am ≤ 1099511627776) = false := by rw [decide_eq_false_iff_not]; omega
            have HI := Lib.hid (show inA NN = false from by rw [HNe.out]; unfold inA; rw [z4]; simp)
            have HE := Lib.hid (show R = none from HRk.out.trans (if_neg (fun h => by have h2 := h.2; rw [HI.out] at h2; cases h2)))
            go_wp2_with fail
            exact bodyPost_ret (v := .tuple #[.slice none 0 0, .bool false]) (by simp [results, Tryz.results10, go_sem]) rfl ⟨.inl ⟨HE.out, rfl⟩, HBb.out.trans (HB5.out.mono HBb.out.size)⟩
          · have z3 : decide (1099511627776 < n0 + e.am) = false := decide_eq_false t9
            have z4 : decide (n0 + e.am ≤ 1099511627776) = true := by rw [decide_eq_true_eq]; omega
            have HI := Lib.hid (show inA NN = true from by rw [HNe.out]; unfold inA; rw [z2, z4]; rfl)
            have HE := Lib.hid (show balA s (l.drop (k + 1)) (mput F e.acc NN) = R from (HRk.out.trans (if_pos ⟨HOk.out, HI.out⟩)).symm)
            have HR5 := Lib.hid (show w5.ownsRow wb.heap.size 39 2 (.slice (some ⟨g, 0, none⟩) G.length gc1) (mput F e.acc NN).length (accells (mput F e.acc NN)) from by rw [HNe.out]; exact HR5'.out)
            have HU5 := Lib.hid (HUP.out NN HI.out)
            have hln := HLN.out NN
            clear HRk HLN HUP
            go_wp2_with fail
            exact ⟨⟨k + 1, mput F e.acc NN, by omega, by omega, by go_num, HB5, HR5, HU5, HE⟩, by simp [intOf]; omega⟩
        rw [decide_eq_false g1] at e_g
        by_cases g2 : me = wTake
        · rw [decide_eq_true g2] at e_t
          have HNe := Lib.hid (show NN = n0 - e.am from by rw [HNN.out]; unfold effA; rw [if_neg g1, if_pos g2])
          clear HNN g1 g2
          go_wp2_with fail
          go_still_tail 12, (by kernel_rfl)
          change wpList _ _ _ _ _ wx.drew
          generalize wx.drew = wy at *
          go_upto_region 21 with (fail)
          have HR5' := Lib.hid (HAS.out wy HOd.out (n0 - e.am))
          have q5 := HSC.out wy HOd.out (n0 - e.am)
          have HB5 := Lib.hid (show Below wb.heap.size wb (wy.setCell ⟨g, p * 2 + 1, none⟩ (.int .i64 (n0 - e.am))) from HBd.out.setCell (p := ⟨g, p * 2 + 1, none⟩) hgb _)
          have x_me : (wy.setCell ⟨g, p * 2 + 1, none⟩ (.int .i64 (n0 - e.am))).cell? ⟨w2.heap.size, 3, none⟩ = some (.string (bT me)) := by
            rw [show (wy.setCell ⟨g, p * 2 + 1, none⟩ (.int .i64 (n0 - e.am))).cell? ⟨w2.heap.size, 3, none⟩ = wy.cell? ⟨w2.heap.size, 3, none⟩ from by simp only [World.cell?]; rw [Below.heap_setCell _ _ _ _ (by show w2.heap.size ≠ g; exact fun h => hne2 h.symm)]]
            simp only [World.cell?, HDM.out]; rfl
          have hl5 : g < (wy.setCell ⟨g, p * 2 + 1, none⟩ (.int .i64 (n0 - e.am))).heap.size := by simpa [World.setCell] using hgd
          generalize wy.setCell ⟨g, p * 2 + 1, none⟩ (.int .i64 (n0 - e.am)) = w5 at *
          clear d_am d_q0 HAS HSC hfd q0 y_me y_am hgd hgl
          by_cases t9 : n0 - e.am < 0
          · have z1 : decide (n0 - e.am < 0) = true := decide_eq_true t9
            have z4 : decide (0 ≤ n0 - e.am) = false := by rw [decide_eq_false_iff_not]; omega
            have HI := Lib.hid (show inA NN = false from by rw [HNe.out]; unfold inA; rw [z4]; simp)
            have HE := Lib.hid (show R = none from HRk.out.trans (if_neg (fun h => by have h2 := h.2; rw [HI.out] at h2; cases h2)))
            go_wp2_with fail
            exact bodyPost_ret (v := .tuple #[.slice none 0 0, .bool false]) (by simp [results, Tryz.results10, go_sem]) rfl ⟨.inl ⟨HE.out, rfl⟩, HBb.out.trans (HB5.out.mono HBb.out.size)⟩
          · have z1 : decide (n0 - e.am < 0) = false := decide_eq_false t9
            have z2 : decide (0 ≤ n0 - e.am) = true := by rw [decide_eq_true_eq]; omega
            have z3 : decide (1099511627776 < n0 - e.am) = false := decide_eq_false (by omega)
            have z4 : decide (n0 - e.am ≤ 1099511627776) = true := by rw [decide_eq_true_eq]; omega
            have HI := Lib.hid (show inA NN = true from by rw [HNe.out]; unfold inA; rw [z2, z4]; rfl)
            have HE := Lib.hid (show balA s (l.drop (k + 1)) (mput F e.acc NN) = R from (HRk.out.trans (if_pos ⟨HOk.out, HI.out⟩)).symm)
            have HR5 := Lib.hid (show w5.ownsRow wb.heap.size 39 2 (.slice (some ⟨g, 0, none⟩) G.length gc1) (mput F e.acc NN).length (accells (mput F e.acc NN)) from by rw [HNe.out]; exact HR5'.out)
            have HU5 := Lib.hid (HUP.out NN HI.out)
            have hln := HLN.out NN
            clear HRk HLN HUP
            go_wp2_with fail
            exact ⟨⟨k + 1, mput F e.acc NN, by omega, by omega, by go_num, HB5, HR5, HU5, HE⟩, by simp [intOf]; omega⟩
        rw [decide_eq_false g2] at e_t
        have HNe := Lib.hid (show NN = n0 from by rw [HNN.out]; unfold effA; rw [if_neg g1, if_neg g2])
        have HRG := Lib.hid (show wx.ownsRow wb.heap.size 39 2 (.slice (some ⟨g, 0, none⟩) G.length gc1) (mput F e.acc n0).length (accells (mput F e.acc n0)) from by
          have h1 : mput F e.acc n0 = G := by
            rw [HPI.out n0]
            apply List.ext_getElem? 
            intro i
            rw [List.getElem?_set]
            split
            · rename_i h; subst h; first | exact HPG.out.symm | (rw [if_pos hpG]; exact HPG.out.symm)
            · rfl
          rw [h1]; exact HOg.out)
        clear HNN g1 g2
        have z1 : decide (n0 < 0) = false := decide_eq_false (by omega)
        have z2 : decide (0 ≤ n0) = true := by rw [decide_eq_true_eq]; omega
        have z3 : decide (1099511627776 < n0) = false := decide_eq_false (by omega)
        have z4 : decide (n0 ≤ 1099511627776) = true := by rw [decide_eq_true_eq]; omega
        have HI := Lib.hid (show inA NN = true from by rw [HNe.out]; unfold inA; rw [z2, z4]; rfl)
        have HE := Lib.hid (show balA s (l.drop (k + 1)) (mput F e.acc NN) = R from (HRk.out.trans (if_pos ⟨HOk.out, HI.out⟩)).symm)
        have HR5 := Lib.hid (show wx.ownsRow wb.heap.size 39 2 (.slice (some ⟨g, 0, none⟩) G.length gc1) (mput F e.acc NN).length (accells (mput F e.acc NN)) from by rw [HNe.out]; exact HRG.out)
        have HU5 := Lib.hid (HUP.out NN HI.out)
        have hln := HLN.out NN
        clear HRk HLN HUP
        go_wp2_with fail
        exact ⟨⟨k + 1, mput F e.acc NN, by omega, by omega, by go_num, HBg, HR5, HU5, HE⟩, by simp [intOf]; omega⟩
end Go.Proofs.YtgoejmheihgpfaaGreatDoor
