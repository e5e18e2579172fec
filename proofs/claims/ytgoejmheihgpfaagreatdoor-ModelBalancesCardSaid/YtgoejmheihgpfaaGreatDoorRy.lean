/-
  Balances, plain: maps of numbers by name stay sorted; what a ledger makes of accounts.
-/
import Derived.Test.YtgoejmheihgpfaaGreatDoorRx
import Derived.Test.YtgoejmheihgpfaaGreatDoorS
import Derived.Laws.AppendOwnNone
namespace Go.Proofs.YtgoejmheihgpfaaGreatDoor
section
open Go.RowKit Go.Maps

theorem before_lt : ∀ a b : Tx, bytesBefore a b = true ↔ a < b
  | [], [] => by simp [bytesBefore]
  | [], _ :: _ => by simp [bytesBefore]
  | _ :: _, [] => by simp [bytesBefore]
  | a :: r, b :: s => by
    rw [List.cons_lt_cons_iff]
    simp only [bytesBefore, Bool.or_eq_true, decide_eq_true_eq, Bool.and_eq_true, beq_iff_eq, before_lt r s]
def Up (F : Mp) : Prop := F.Pairwise (fun x y => x.1 < y.1)
theorem Up.mdel {F : Mp} (h : Up F) (k : Tx) : Up (mdel F k) := List.Pairwise.filter _ h
theorem tx_lt_of_not {a b : Tx} (h : ¬ a < b) (hn : a ≠ b) : b < a :=
  Classical.byContradiction fun hb => hn (List.le_antisymm (List.not_lt.1 hb) (List.not_lt.1 h))
theorem Up.mins {x : Tx × Int} : ∀ {F : Mp}, Up F → (∀ y ∈ F, y.1 ≠ x.1) → Up (mins x F)
  | [], _, _ => List.pairwise_singleton _ _
  | y :: r, h, hn => by
    have hc := List.pairwise_cons.1 h
    simp only [Go.Proofs.YtgoejmheihgpfaaGreatDoor.mins]
    by_cases hb : bytesBefore x.1 y.1 = true
    · rw [if_pos hb]
      have hlt := (before_lt _ _).1 hb
      refine List.pairwise_cons.2 ⟨fun z hz => ?_, h⟩
      rcases List.mem_cons.1 hz with rfl | hz
      · exact hlt
      · exact List.lt_trans hlt (hc.1 z hz)
    · rw [if_neg hb]
      have hlt : y.1 < x.1 := tx_lt_of_not (fun e => hb ((before_lt _ _).2 e)) (fun e => hn y List.mem_cons_self e.symm)
      refine List.pairwise_cons.2 ⟨fun z hz => ?_, Up.mins hc.2 (fun z hz => hn z (List.mem_cons_of_mem _ hz))⟩
      rcases mem_mins.1 hz with rfl | hz
      · exact hlt
      · exact hc.1 z hz
theorem Up.mput {F : Mp} (h : Up F) (k : Tx) (n : Int) : Up (mput F k n) := (h.mdel k).mins (fun y hy => (mem_mdel.1 hy).2)
theorem Up.keys {F : Mp} (h : Up F) : (F.map (·.1)).mergeSort (fun x y => decide (x ≤ y)) = F.map (·.1) := by
  refine List.mergeSort_of_pairwise ?_
  rw [List.pairwise_map]
  refine h.imp (fun hxy => ?_)
  simp only [decide_eq_true_eq]
  exact List.le_of_lt hxy
theorem Up.get : ∀ {F : Mp}, Up F → ∀ {x : Tx × Int}, x ∈ F → mget F x.1 = x.2
  | y :: r, h, x, hx => by
    have hc := List.pairwise_cons.1 h
    unfold mget
    rcases List.mem_cons.1 hx with rfl | hx
    · rw [List.find?_cons_of_pos (by simp)]; rfl
    · have hne : y.1 ≠ x.1 := fun e => List.lt_irrefl _ (e ▸ hc.1 x hx)
      rw [List.find?_cons_of_neg (by simpa using hne)]
      exact Up.get hc.2 hx
/-- all numbers within bounds -/
def InF (F : Mp) : Prop := ∀ x ∈ F, inA x.2 = true
theorem InF.get {F : Mp} (h : InF F) (k : Tx) : inA (mget F k) = true := by
  unfold mget
  cases hf : F.find? (fun x => x.1 == k) with
  | none => rfl
  | some x => exact h x (List.mem_of_find?_eq_some hf)
theorem InF.mput {F : Mp} (h : InF F) (k : Tx) {n : Int} (hn : inA n = true) : InF (mput F k n) := fun x hx => by
  unfold Go.Proofs.YtgoejmheihgpfaaGreatDoor.mput at hx
  rcases mem_mins.1 hx with rfl | hx
  · exact hn
  · exact h x (mem_mdel.1 hx).1
/-- what a ledger makes of accounts -/
def balA (s : Sch) : List Ent → Mp → Option Mp
  | [], F => some F
  | e :: l, F => if okE s e = true ∧ inA (newN s F e) = true then balA s l (mput F e.acc (newN s F e)) else none
theorem strKeys_mdat (F : Mp) : strKeys (mdat F) = F.map (·.1) := by
  simp only [strKeys, mdat, List.map_map]
  rfl
/-- the accounts' cells -/
def accells (F : Mp) : List Value := F.flatMap (fun x => [.string (bT x.1), .int .i64 x.2])
def ecells (L : List Ent) : List Value := L.flatMap (fun e => (entC e).toList)
end

section
open Go.RowKit Go.Maps

theorem ecells_at : ∀ (L : List Ent) (k : Nat) (h : k < L.length), (ecells L)[k * 6]? = some (.int .u64 L[k].stamp) ∧ (ecells L)[k * 6 + 1]? = some (.string (bT L[k].key)) ∧ (ecells L)[k * 6 + 2]? = some (.string (bT L[k].sv)) ∧ (ecells L)[k * 6 + 3]? = some (.string (bT L[k].mt)) ∧ (ecells L)[k * 6 + 4]? = some (.string (bT L[k].acc)) ∧ (ecells L)[k * 6 + 5]? = some (.int .i64 L[k].am)
  | t :: L, 0, _ => ⟨rfl, rfl, rfl, rfl, rfl, rfl⟩
  | t :: L, k + 1, h => by
    obtain ⟨a, b, c, d, e, f⟩ := ecells_at L k (by simpa using h)
    have q : ∀ j, (ecells (t :: L))[(k + 1) * 6 + j]? = (ecells L)[k * 6 + j]? := fun j => by
      rw [show (k + 1) * 6 + j = k * 6 + j + 6 by omega]; rfl
    exact ⟨(q 0).trans a, (q 1).trans b, (q 2).trans c, (q 3).trans d, (q 4).trans e, (q 5).trans f⟩
theorem ent_at {w : World} {n c : Nat} {a : Option Addr} {L : List Ent} (h : Slc w 6 (.slice a n c) L.length (ecells L)) {k : Nat} (hk : k < L.length) :
    ∃ b o, a = some ⟨b, o, none⟩ ∧ b < w.heap.size ∧ w.cell? ⟨b, o + k * 6, none⟩ = some (.int .u64 L[k].stamp) ∧ w.cell? ⟨b, o + k * 6 + 1, none⟩ = some (.string (bT L[k].key)) ∧ w.cell? ⟨b, o + k * 6 + 2, none⟩ = some (.string (bT L[k].sv)) ∧ w.cell? ⟨b, o + k * 6 + 3, none⟩ = some (.string (bT L[k].mt)) ∧ w.cell? ⟨b, o + k * 6 + 4, none⟩ = some (.string (bT L[k].acc)) ∧ w.cell? ⟨b, o + k * 6 + 5, none⟩ = some (.int .i64 L[k].am) := by
  obtain ⟨_, _, e⟩ := h.shape
  injection e with _ e2
  subst e2
  obtain ⟨b, o, rfl, hb, hc⟩ := slc_cells h (by omega)
  obtain ⟨h0, h1, h2, h3, h4, h5⟩ := ecells_at L k hk
  exact ⟨b, o, rfl, hb, hc _ _ h0, hc _ _ h1, hc _ _ h2, hc _ _ h3, hc _ _ h4, hc _ _ h5⟩
theorem keys_call (m : Nat) (W : World) : Calls Tryz.prog 24 #[.map (some m)] W fun e w' => e = .returned (.func (.func 50) #[] #[.pointer (some ⟨W.heap.size, 0, none⟩)]) ∧ w' = W.alloc (.cells #[.map (some m)] 82) :=
  callsIn_wide.1 (Tryz.maps_Keys_24 (some m) W)
theorem sorted_call (w : World) (m : Nat) (F : Mp) (h : HasMap w m F) (hn : F.length ≤ 1000) (hup : Up F) :
    Calls Tryz.prog 23 #[.func (.func 50) #[] #[.pointer (some ⟨w.heap.size, 0, none⟩)]] (w.alloc (.cells #[.map (some m)] 82)) fun e w' =>
      (∃ v, e = .returned v ∧ w'.ownsRow (w.heap.size + 1) 9 1 v F.length (strs (F.map (·.1)))) ∧ Below w.heap.size w w' := by
  have hsz : Maps.size (mdat F) ≤ 1000 := by rw [mdat_size]; exact hn
  refine (callsIn_wide.1 (Tryz.slices_Sorted_keys_23_24 m F.length (mdat F) numElem w h (by unfold maxLen; omega) (by omega))).mono ?_
  rintro e w' ⟨v, ss, rfl, hp, hrow, hnil, hb⟩
  rw [strKeys_mdat] at hp
  have e1 : ss.mergeSort (fun x y => decide (x ≤ y)) = F.map (·.1) := (mergeSort_of_perm hp).trans hup.keys
  have e2 : ss.length = F.length := by rw [hp.length_eq, List.length_map]
  rw [e1, e2] at hrow
  refine ⟨⟨v, rfl, ?_⟩, ((Below.refl _ _).alloc (Nat.le_refl _) _).trans (hb.mono (by simp))⟩
  rw [show (w.alloc (.cells #[.map (some m)] 82)).heap.size = w.heap.size + 1 by simp] at hrow
  exact hrow
def LenF (F : Mp) : Prop := ∀ x ∈ F, x.1.length ≤ 1000000
theorem LenF.mput {F : Mp} (h : LenF F) {k : Tx} (hk : k.length ≤ 1000000) (n : Int) : LenF (mput F k n) := fun x hx => by
  unfold Go.Proofs.YtgoejmheihgpfaaGreatDoor.mput at hx
  rcases mem_mins.1 hx with rfl | hx
  · exact hk
  · exact h x (mem_mdel.1 hx).1
theorem accells_next {F : Mp} {k : Nat} (hk : k < F.length) : accells (F.take (k + 1)) = accells (F.take k) ++ [.string (bT F[k].1), .int .i64 F[k].2] := by
  unfold accells
  rw [List.take_succ_eq_append_getElem hk, List.flatMap_append]
  rfl
theorem info_ac : (Tryz.prog.info? 38).map (fun i => (i.zero, i.size, i.bytes)) = some (some (.agg #[.string ⟨#[]⟩, .int .i64 0]), 2, 24) := by kernel_rfl
set_option maxRecDepth 100000 in
set_option maxHeartbeats 8000000 in
theorem balances_any (w : World) (s : Sch) (ur us ug : Value) (hS : SchR w s ur us ug) (hM : Small s) (v : Value) (l : List Ent) (hl : Slc w 6 v l.length (ecells l)) (hn : l.length ≤ 1000) (hacc : ∀ e ∈ l, e.acc.length ≤ 1000000) :
    Calls Tryz.prog 9 #[.agg #[.string (bT s.name), ur, us, ug], v] w fun x w' => ((balA s l [] = none ∧ x = .returned (.tuple #[.slice none 0 0, .bool false])) ∨ ∃ F u, balA s l [] = some F ∧ x = .returned (.tuple #[u, .bool true]) ∧ w'.ownsRow w.heap.size 38 2 u F.length (accells F) ∧ Up F) ∧ Below w.heap.size w w' := by
  obtain ⟨⟨ra, rv, rfl⟩, ⟨sa, sv, rfl⟩, ⟨ga, gv, rfl⟩⟩ := hS.shape
  obtain ⟨la, lc, rfl⟩ := hl.shape
  have HAD := Lib.hid (fun W (h : Below w.heap.size w W) => add_any W s _ _ _ (hS.below h) hM)
  have HSL := Lib.hid hl
  have HAC := Lib.hid hacc
  generalize hR0 : balA s l [] = R at *
  have HB0 := Lib.hid hR0
  clear hR0
  clear hS hM hl hacc
  go_enter Tryz.func9, Tryz.ntmps9
  have hmm := @run_makeMap Tryz.prog
  go_upto_region 2 with (fail)
  generalize hwb : (((w.alloc (.cells #[.string (bT s.name), .slice ra s.records.length rv, .slice sa s.services.length sv, .slice ga s.sagas.length gv] 26)).alloc (.map #[] 0)).alloc (.cells #[.string (bT s.name), .slice ra s.records.length rv, .slice sa s.services.length sv, .slice ga s.sagas.length gv, .map (some (w.heap.size + 1))] 84)) = wb
  have HBb := Lib.hid (show Below w.heap.size w wb from hwb ▸ (((Below.refl _ w).alloc (Nat.le_refl _) _).alloc (by simp) _).alloc (by simp; omega) _)
  have HMb := Lib.hid (show HasMap wb (w.heap.size + 1) [] from hwb ▸ HasMap.below (by
    have h := HasMap.of (F := []) (World.ownsMap_made (w.alloc (.cells #[.string (bT s.name), .slice ra s.records.length rv, .slice sa s.services.length sv, .slice ga s.sagas.length gv] 26)) Tryz.prog 9 numElem)
    rwa [show (w.alloc (.cells #[.string (bT s.name), .slice ra s.records.length rv, .slice sa s.services.length sv, .slice ga s.sagas.length gv] 26)).heap.size = w.heap.size + 1 by simp] at h) (bl1 _ _))
  have HXb := Lib.hid (show wb.heap[w.heap.size + 1 + 1]? = some (.cells #[.string (bT s.name), .slice ra s.records.length rv, .slice sa s.services.length sv, .slice ga s.sagas.length gv, .map (some (w.heap.size + 1))] 84 (0, 0)) from by
    have h := heap_alloc_new2 (w.alloc (.cells #[.string (bT s.name), .slice ra s.records.length rv, .slice sa s.services.length sv, .slice ga s.sagas.length gv] 26)) (.map #[] 0) (.cells #[.string (bT s.name), .slice ra s.records.length rv, .slice sa s.services.length sv, .slice ga s.sagas.length gv, .map (some (w.heap.size + 1))] 84)
    rw [show (w.alloc (.cells #[.string (bT s.name), .slice ra s.records.length rv, .slice sa s.services.length sv, .slice ga s.sagas.length gv] 26)).heap.size = w.heap.size + 1 by simp] at h
    exact hwb ▸ h)
  clear hwb
  have HXX := Lib.hid (fun W (h : Aw (w.heap.size + 1) wb W) => show W.heap[w.heap.size + 1 + 1]? = some (.cells #[.string (bT s.name), .slice ra s.records.length rv, .slice sa s.services.length sv, .slice ga s.sagas.length gv, .map (some (w.heap.size + 1))] 84 (0, 0)) from (h.block _ (Array.getElem?_eq_some_iff.1 HXb.out).1 (by omega)).trans HXb.out)
  have HAB := Lib.hid (fun W (h : Aw (w.heap.size + 1) wb W) => show Below w.heap.size w W from ⟨h.os.trans HBb.out.os, h.tape.trans HBb.out.tape, h.output.trans HBb.out.output, Nat.le_trans HBb.out.size h.size, fun j hj => (h.block j (Nat.lt_of_lt_of_le hj HBb.out.size) (by omega)).trans (HBb.out.block j hj)⟩)
  have HBL := Lib.hid (show balA s (l.drop 0) [] = R from HB0.out)
  clear HB0
  go_wp2_with fail
  go_loopw [17] (fun vi wr => ∃ (k : Nat) (F : Mp), k ≤ l.length ∧ F.length ≤ k ∧ vi = .int .i64 (k : Nat) ∧ Hid (Aw (w.heap.size + 1) wb wr) ∧ Hid (HasMap wr (w.heap.size + 1) F) ∧ Hid (Up F ∧ InF F ∧ LenF F) ∧ Hid (balA s (l.drop k) F = R)) (fun vi _ => l.length - (intOf vi).toNat)
  case atStart => exact ⟨0, [], by omega, Nat.le_refl _, rfl, Lib.hid (Aw.refl _ _), HMb, Lib.hid ⟨List.Pairwise.nil, (fun _ h => by cases h), fun _ h => by cases h⟩, HBL⟩
  case round =>
    clear HMb HBL
    rename World => wo
    obtain ⟨k, F, hk, hFk, rfl, HA, HM, HU, HR⟩ := hrel
    by_cases hlt : k < l.length
    · obtain ⟨b9, o9, rfl, hb9, p0, p1, p2, p3, p4, p5⟩ := ent_at (HSL.out.below (HAB.out wo HA.out)) hlt
      have HRk := Lib.hid (show R = if okE s l[k] = true ∧ inA (newN s F l[k]) = true then balA s (l.drop (k + 1)) (mput F l[k].acc (newN s F l[k])) else none from by rw [← HR.out, List.drop_eq_getElem_cons hlt]; rfl)
      have hac := HAC.out _ (List.getElem_mem hlt)
      generalize l[k] = e at *
      have hx := HXX.out wo HA.out
      have HXo := Lib.hid hx
      have hl1 := HM.out.lt
      have hlo : w.heap.size + 1 + 1 < wo.heap.size := (Array.getElem?_eq_some_iff.1 hx).1
      clear hx HR
      have HW1 := Lib.hid (fun o => show Aw (w.heap.size + 1) wb (wo.alloc o) from HA.out.trans (Aw.below (bl1 wo o)))
      have HX1 := Lib.hid (fun o => HXX.out _ (HW1.out o))
      have HAc := Lib.hid (fun o => HAD.out (wo.alloc o) (HAB.out _ (HW1.out o)) (w.heap.size + 1) F (HM.out.below (bl1 wo o)) (by omega) e hac (HU.out.2.1.get _))
      unfold entC at HAc
      have hx := HX1.out (.cells #[.int .u64 e.stamp, .string (bT e.key), .string (bT e.sv), .string (bT e.mt), .string (bT e.acc), .int .i64 e.am] 71)
      have y0 : (wo.alloc (.cells #[.int .u64 e.stamp, .string (bT e.key), .string (bT e.sv), .string (bT e.mt), .string (bT e.acc), .int .i64 e.am] 71)).cell? ⟨w.heap.size + 1 + 1, 0, none⟩ = some (.string (bT s.name)) := by simp only [World.cell?, hx]; rfl
      have y1 : (wo.alloc (.cells #[.int .u64 e.stamp, .string (bT e.key), .string (bT e.sv), .string (bT e.mt), .string (bT e.acc), .int .i64 e.am] 71)).cell? ⟨w.heap.size + 1 + 1, 1, none⟩ = some (.slice ra s.records.length rv) := by simp only [World.cell?, hx]; rfl
      have y2 : (wo.alloc (.cells #[.int .u64 e.stamp, .string (bT e.key), .string (bT e.sv), .string (bT e.mt), .string (bT e.acc), .int .i64 e.am] 71)).cell? ⟨w.heap.size + 1 + 1, 2, none⟩ = some (.slice sa s.services.length sv) := by simp only [World.cell?, hx]; rfl
      have y3 : (wo.alloc (.cells #[.int .u64 e.stamp, .string (bT e.key), .string (bT e.sv), .string (bT e.mt), .string (bT e.acc), .int .i64 e.am] 71)).cell? ⟨w.heap.size + 1 + 1, 3, none⟩ = some (.slice ga s.sagas.length gv) := by simp only [World.cell?, hx]; rfl
      have y4 : (wo.alloc (.cells #[.int .u64 e.stamp, .string (bT e.key), .string (bT e.sv), .string (bT e.mt), .string (bT e.acc), .int .i64 e.am] 71)).cell? ⟨w.heap.size + 1 + 1, 4, none⟩ = some (.map (some (w.heap.size + 1))) := by simp only [World.cell?, hx]; rfl
      clear hx
      go_wp2_with fail
      refine (HAc.out _).mono ?_
      rintro e' w2 ⟨⟨rfl, hok⟩ | ⟨rfl, hok, hm⟩, haw⟩
      · have HE := Lib.hid (show R = none from HRk.out.trans (if_neg (by rw [hok]; simp)))
        have HW2 := Lib.hid ((HW1.out _).trans haw)
        clear haw hok y0 y1 y2 y3 y4
        go_wp2_with fail
        exact bodyPost_ret (v := .tuple #[.slice none 0 0, .bool false]) (by simp [results, Tryz.results9, go_sem]) rfl ⟨.inl ⟨HE.out, rfl⟩, HAB.out _ HW2.out⟩
      have HW2 := Lib.hid ((HW1.out _).trans haw)
      have HM2 := Lib.hid hm
      generalize hnn : newN s F e = N at *
      cases hi : inA N with
      | false =>
        have HE := Lib.hid (show R = none from HRk.out.trans (if_neg (by rw [hi]; simp)))
        clear haw hok hm hi y0 y1 y2 y3 y4 hnn
        go_wp2_with fail
        exact bodyPost_ret (v := .tuple #[.slice none 0 0, .bool false]) (by simp [results, Tryz.results9, go_sem]) rfl ⟨.inl ⟨HE.out, rfl⟩, HAB.out _ HW2.out⟩
      | true =>
        have HE := Lib.hid (show balA s (l.drop (k + 1)) (mput F e.acc N) = R from (HRk.out.trans (if_pos ⟨hok, hi⟩)).symm)
        have HU2 := Lib.hid (show Up (mput F e.acc N) ∧ InF (mput F e.acc N) ∧ LenF (mput F e.acc N) from ⟨HU.out.1.mput _ _, HU.out.2.1.mput _ hi, HU.out.2.2.mput hac _⟩)
        have hln := mput_length F e.acc N
        clear haw hok hm hi y0 y1 y2 y3 y4 hnn HRk HAc
        go_wp2_with fail
        exact ⟨⟨k + 1, mput F e.acc N, by omega, by omega, by go_num, HW2, HM2, HU2, HE⟩, by simp [intOf]; omega⟩
    have hkl : k = l.length := by omega
    have HRe := Lib.hid (show R = some F from by rw [← HR.out, List.drop_eq_nil_of_le (by omega)]; rfl)
    have hx := HXX.out wo HA.out
    have hm1 : wo.cell? ⟨w.heap.size + 1 + 1, 4, none⟩ = some (.map (some (w.heap.size + 1))) := by simp only [World.cell?, hx]; rfl
    have hlo : w.heap.size + 1 + 1 < wo.heap.size := (Array.getElem?_eq_some_iff.1 hx).1
    have HXo := Lib.hid hx
    have HKc := Lib.hid (keys_call (w.heap.size + 1) wo)
    have HSc := Lib.hid (sorted_call wo (w.heap.size + 1) F HM.out (by omega) HU.out.1)
    clear hx HR
    go_wp2_with fail
    refine HKc.out.mono ?_
    rintro e' w4 ⟨rfl, rfl⟩
    go_wp2_with fail
    refine HSc.out.mono ?_
    rintro e' w5 ⟨⟨vs, rfl, hvs⟩, hb⟩
    obtain ⟨va, vc, rfl⟩ := own_slice hvs
    have HV := Lib.hid hvs
    have HB5 := Lib.hid hb
    have HM5 := Lib.hid (HM.out.below hb)
    have hX5 := (hb.block _ hlo).trans HXo.out
    have HX5 := Lib.hid hX5
    have HA5 := Lib.hid (show Below w.heap.size w w5 from (HAB.out wo HA.out).trans (hb.mono (by omega)))
    have hl5 := hb.size
    clear hvs hb HKc HSc hm1 hX5 HM HA
    obtain ⟨i0, hi0, hz0, hz1, hz2⟩ := info_parts info_ac
    generalize hFn : F.length = Fn at *
    have HFn := Lib.hid hFn
    have hFb : Fn ≤ 1000 := by omega
    clear hFn
    go_wp2_with fail
    go_loopw [9, 31] (fun v9 vi wr => ∃ j : Nat, j ≤ Fn ∧ vi = .int .i64 (j : Nat) ∧ Hid (wr.ownsRow w5.heap.size 38 2 v9 j (accells (F.take j))) ∧ Hid (Below w5.heap.size w5 wr)) (fun _ vi _ => Fn - (intOf vi).toNat)
    case atStart => exact ⟨0, by omega, rfl, Lib.hid (World.ownsRow_nil _ _ _ _), Lib.hid (Below.refl _ _)⟩
    case round =>
      rename World => wr
      obtain ⟨j, hj, rfl, HO, HBr⟩ := hrel
      by_cases hlj : j < Fn
      · have hjl : j < F.length := by have := HFn.out; omega
        obtain ⟨oa, oc, rfl⟩ := own_slice HO.out
        obtain ⟨b9, o9, rfl, hb9, hcs⟩ := slc_cells ((Slc.own HV.out).below HBr.out) (by omega)
        have q0 : wr.cell? ⟨b9, o9 + j, none⟩ = some (.string (bT F[j].1)) := hcs j _ (by simp [strs, List.getElem?_map, List.getElem?_eq_getElem hjl])
        have hx := (HBr.out.block (w.heap.size + 1 + 1) (by omega)).trans HX5.out
        have y4 : wr.cell? ⟨w.heap.size + 1 + 1, 4, none⟩ = some (.map (some (w.heap.size + 1))) := by simp only [World.cell?, hx]; rfl
        have hgt := HU.out.1.get (List.getElem_mem hjl)
        have hlk := (HM5.out.below HBr.out).look Tryz.underlying82 (zero_int64 wr) (HU.out.2.2 _ (List.getElem_mem hjl))
        rw [hgt] at hlk
        have HNX := Lib.hid (accells_next hjl)
        generalize F[j] = f at *
        obtain ⟨nm, am⟩ := f
        dsimp only at q0 hlk HNX
        have HB9 := Lib.hid HBr.out
        have hwr := HBr.out.size
        have HOG := Lib.hid (own_ge HO.out)
        clear hx hcs hgt
        go_wp2_with (first
          | (at_builtin; refine wpList_append_own _ rfl _ _ 31 rfl w5.heap.size 38 i0 (.agg #[.string ⟨#[]⟩, .int .i64 0]) 2 24 Tryz.underlying31 hi0 hz0 hz1 hz2 rfl (by decide) _ _ _ rfl (HO.out.alloc _) ⟨wr.heap.size, 0, none⟩ 1 1 [.string (bT nm), .int .i64 am] rfl rfl (World.news_of_block (cs := #[.string (bT nm), .int .i64 am]) (t := 38) (fr := (0, 0)) (heap_alloc_new wr _)) (by simp [Value.oneCell']) (by unfold maxLen; omega) (by omega) (by simp; omega) ?_; intro v' w6 hown6 hgrow _; obtain ⟨xa, xc, rfl⟩ := own_slice hown6; have HW6 := Lib.hid (srt_round HOG.out HB9.out hgrow); have HO6 := Lib.hid hown6; clear hown6 hgrow))
        exact ⟨⟨j + 1, by omega, by go_num, Lib.hid (by rw [HNX.out]; exact HO6.out), HW6⟩, by simp [intOf]; omega⟩
      · have hjn : j = Fn := by omega
        obtain rfl := hjn
        obtain ⟨oa, oc, rfl⟩ := own_slice HO.out
        have HOe := Lib.hid (show wr.ownsRow w5.heap.size 38 2 (.slice oa j oc) F.length (accells F) from by
          have h := HO.out
          rw [List.take_of_length_le (by have := HFn.out; omega)] at h
          rw [HFn.out]; exact h)
        have HBe := Lib.hid (show Below w.heap.size w wr from HA5.out.trans (HBr.out.mono (by omega)))
        go_wp2_with fail
        exact bodyPost_ret (v := .tuple #[.slice oa j oc, .bool true]) (by simp [results, Tryz.results9, go_sem]) rfl ⟨.inr ⟨F, _, HRe.out, rfl, own_base HOe.out (by omega), HU.out.1⟩, HBe.out⟩
end

section
open Go.RowKit

set_option maxRecDepth 100000 in
set_option maxHeartbeats 16000000 in
theorem rmethod_any (w : World) (s : Sch) (ur us ug : Value) (hS : SchR w s ur us ug) (hM : Small s) (a b : Tx) :
    Calls Tryz.prog 25 #[.agg #[.string (bT s.name), ur, us, ug], .string (bT a), .string (bT b)] w fun x w' => x = .returned (.tuple #[.agg (mV (mOr (mthOf s a b))), .bool (mthOf s a b).isSome]) ∧ Below w.heap.size w w' := by
  have HM := Lib.hid hM
  obtain ⟨⟨ra, rv, rfl⟩, ⟨sa, sv, rfl⟩, ⟨ga, gv, rfl⟩⟩ := hS.shape
  have HS := Lib.hid hS
  have hn2 := hM.ns
  have HQ := Lib.hid (show mthOf s a b = ((s.services.drop 0).find? (fun v => decide (v.name = a))).bind (fun v => v.methods.find? (fun m => decide (m.name = b))) from rfl)
  generalize mthOf s a b = Q at *
  have HB0 := Lib.hid (show Below w.heap.size w ((w.alloc (.cells #[.string (bT s.name), .slice ra s.records.length rv, .slice sa s.services.length sv, .slice ga s.sagas.length gv] 26)).alloc (.cells zero5 92)) from ((Below.refl _ w).alloc (Nat.le_refl _) _).alloc (by simp) _)
  have hX0 : ((w.alloc (.cells #[.string (bT s.name), .slice ra s.records.length rv, .slice sa s.services.length sv, .slice ga s.sagas.length gv] 26)).alloc (.cells zero5 92)).heap[w.heap.size]? = some (.cells #[.string (bT s.name), .slice ra s.records.length rv, .slice sa s.services.length sv, .slice ga s.sagas.length gv] 26 (0, 0)) := (Below.heap_alloc _ _ _ (by simp)).trans (heap_alloc_new _ _)
  have hY0 : ((w.alloc (.cells #[.string (bT s.name), .slice ra s.records.length rv, .slice sa s.services.length sv, .slice ga s.sagas.length gv] 26)).alloc (.cells zero5 92)).heap[w.heap.size + 1]? = some (.cells zero5 92 (0, 0)) := heap_alloc_new2 _ _ _
  have hZ0 : ((w.alloc (.cells #[.string (bT s.name), .slice ra s.records.length rv, .slice sa s.services.length sv, .slice ga s.sagas.length gv] 26)).alloc (.cells zero5 92)).heap.size = w.heap.size + 2 := by simp
  go_enter Tryz.func25, Tryz.ntmps25
  go_wp2_with fail
  generalize ((w.alloc (.cells #[.string (bT s.name), .slice ra s.records.length rv, .slice sa s.services.length sv, .slice ga s.sagas.length gv] 26)).alloc (.cells zero5 92)) = wM at *
  have HX := Lib.hid (fun (W : World) (h : Below wM.heap.size wM W) => show W.heap[w.heap.size]? = some (.cells #[.string (bT s.name), .slice ra s.records.length rv, .slice sa s.services.length sv, .slice ga s.sagas.length gv] 26 (0, 0)) ∧ W.heap[w.heap.size + 1]? = some (.cells zero5 92 (0, 0)) from ⟨(h.block _ (by omega)).trans hX0, (h.block _ (by omega)).trans hY0⟩)
  clear hX0 hY0 hS hM
  go_loopw [8] (fun vi wr => ∃ k : Nat, k ≤ s.services.length ∧ vi = .int .i64 (k : Nat) ∧ Hid (Below wM.heap.size wM wr) ∧ Hid (Q = ((s.services.drop k).find? (fun v => decide (v.name = a))).bind (fun v => v.methods.find? (fun m => decide (m.name = b))))) (fun vi _ => s.services.length - (intOf vi).toNat)
  case atStart => exact ⟨0, by omega, rfl, Below.refl _ _, HQ⟩
  case round =>
    clear HQ
    obtain ⟨k, hk, rfl, HBr, HQ⟩ := hrel
    have HBw := Lib.hid (HB0.out.trans (HBr.out.mono (by omega)))
    have hszr := HBr.out.size
    have hxx := (HX.out wr HBr.out).1
    have y2 : wr.cell? ⟨w.heap.size, 2, none⟩ = some (.slice sa s.services.length sv) := by simp only [World.cell?, hxx]; rfl
    clear hxx
    by_cases hlt : k < s.services.length
    · obtain ⟨xr, hx1, hx2⟩ := HS.out.sv
      obtain ⟨b', o, fa, fc, rfl, hb, q0, q1, hs⟩ := svc_in HBw.out hx1 hx2 hlt
      have HH := Lib.hid (fun (h : s.services[k].name = a) => find_here (p := fun v : Svc => decide (v.name = a)) hlt (decide_eq_true h))
      have HN := Lib.hid (fun (h : ¬ s.services[k].name = a) => find_next (p := fun v : Svc => decide (v.name = a)) hlt (by simpa using h))
      have hbd := HM.out.sv _ (List.getElem_mem hlt)
      have e_n := bT_same (s.services[k].name) a
      generalize s.services[k] = r at *
      clear hx1 hx2
      by_cases hn : r.name = a
      · rw [decide_eq_true hn] at e_n
        have f_n : (!((bT r.name).toList == (bT a).toList)) = false := by rw [e_n]; rfl
        have HQ2 := Lib.hid (show Q = (r.methods.drop 0).find? (fun m => decide (m.name = b)) from by rw [HQ.out, HH.out hn]; rfl)
        have hm := hbd.2.1
        clear HH HN HQ hn
        go_wp2_with fail
        generalize hwi : wr.alloc (.cells #[.string (bT r.name), .slice fa r.methods.length fc] 112) = wi
        have HBi := Lib.hid (show Below wM.heap.size wM wi from hwi ▸ HBr.out.alloc HBr.out.size _)
        have hszi := HBi.out.size
        have HVi := Lib.hid (show wi.heap[wr.heap.size]? = some (.cells #[.string (bT r.name), .slice fa r.methods.length fc] 112 (0, 0)) from hwi ▸ heap_alloc_new wr _)
        have hvl : wr.heap.size < wi.heap.size := (Array.getElem?_eq_some_iff.1 HVi.out).1
        clear hwi y2
        generalize wr.heap.size = vb at *
        go_loopw [10] (fun vj wj => ∃ j : Nat, j ≤ r.methods.length ∧ vj = .int .i64 (j : Nat) ∧ Hid (Below wi.heap.size wi wj) ∧ Hid (Q = (r.methods.drop j).find? (fun m => decide (m.name = b)))) (fun vj _ => r.methods.length - (intOf vj).toNat)
        case atStart => exact ⟨0, by omega, rfl, Below.refl _ _, HQ2⟩
        case round =>
          clear HQ2
          obtain ⟨j, hj, rfl, HBj, HQ⟩ := hrel
          have HBm := Lib.hid (HBi.out.trans (HBj.out.mono hszi))
          have HBwj := Lib.hid (HB0.out.trans (HBm.out.mono (by omega)))
          have hszj := HBj.out.size
          have hvx := (HBj.out.block vb hvl).trans HVi.out
          have y3 : wr.cell? ⟨vb, 1, none⟩ = some (.slice fa r.methods.length fc) := by simp only [World.cell?, hvx]; rfl
          clear hvx
          by_cases hlt2 : j < r.methods.length
          · obtain ⟨b2, o2, rfl, hb2, p0, p1, p2, p3, p4⟩ := mth_in HBwj.out hs hlt2
            have HH := Lib.hid (fun (h : r.methods[j].name = b) => find_here (p := fun v : Mth => decide (v.name = b)) hlt2 (decide_eq_true h))
            have HN := Lib.hid (fun (h : ¬ r.methods[j].name = b) => find_next (p := fun v : Mth => decide (v.name = b)) hlt2 (by simpa using h))
            have e_m := bT_same (r.methods[j].name) b
            generalize r.methods[j] = x at *
            by_cases hnm : x.name = b
            · rw [decide_eq_true hnm] at e_m
              have HQ2 := Lib.hid (HQ.out.trans (HH.out hnm))
              obtain rfl := HQ2.out
              clear HH HN HQ hnm HQ2
              have HY := Lib.hid (HX.out wr HBm.out).2
              obtain ⟨l0, l1, l2, l3, l4, g0, g1, g2, g3, g4⟩ := laid5_cells HY.out
              obtain ⟨m0, m1, m2, m3, m4⟩ := laid5_read HY.out (.string (bT x.name)) (.string (bT x.arg)) (.int .u8 (x.result : Nat)) (.string (bT x.effect)) (.string (bT x.undo))
              go_wp2_with fail
              exact bodyPost_ret (v := .tuple #[.agg #[.string (bT x.name), .string (bT x.arg), .int .u8 (x.result : Nat), .string (bT x.effect), .string (bT x.undo)], .bool true]) (by simp [results, Tryz.results25, go_sem, m0, m1, m2, m3, m4]) rfl ⟨rfl, laid5_below HBwj.out (by omega) _ _ _ _ _⟩
            · rw [decide_eq_false hnm] at e_m
              have HQ2 := Lib.hid (HQ.out.trans (HN.out hnm))
              clear HH HN HQ hnm
              go_wp2_with fail
              exact ⟨⟨j + 1, by omega, by go_num, HBj, HQ2⟩, by simp [intOf]; omega⟩
          have HQ2 := Lib.hid (HQ.out.trans (find_end hlt2))
          obtain rfl := HQ2.out
          clear HQ HQ2
          have HY := Lib.hid (HX.out wr HBm.out).2
          obtain ⟨l0, l1, l2, l3, l4, g0, g1, g2, g3, g4⟩ := laid5_cells HY.out
          obtain ⟨m0, m1, m2, m3, m4⟩ := laid5_read HY.out (.string ⟨#[]⟩) (.string ⟨#[]⟩) (.int .u8 0) (.string ⟨#[]⟩) (.string ⟨#[]⟩)
          go_wp2_with fail
          exact bodyPost_ret (v := .tuple #[.agg #[.string ⟨#[]⟩, .string ⟨#[]⟩, .int .u8 0, .string ⟨#[]⟩, .string ⟨#[]⟩], .bool false]) (by simp [results, Tryz.results25, go_sem, m0, m1, m2, m3, m4]) rfl ⟨rfl, laid5_below HBwj.out (by omega) _ _ _ _ _⟩
      · rw [decide_eq_false hn] at e_n
        have f_n : (!((bT r.name).toList == (bT a).toList)) = true := by rw [e_n]; rfl
        have HQ2 := Lib.hid (show Q = ((s.services.drop (k + 1)).find? (fun v => decide (v.name = a))).bind (fun v => v.methods.find? (fun m => decide (m.name = b))) from by rw [HQ.out, HN.out hn])
        clear HH HN HQ hn
        go_wp2_with fail
        exact ⟨⟨k + 1, by omega, by go_num, HBr.out.alloc HBr.out.size _, HQ2⟩, by simp [intOf]; omega⟩
    have HQ2 := Lib.hid (show Q = none from by rw [HQ.out, find_end hlt]; rfl)
    obtain rfl := HQ2.out
    clear HQ HQ2
    have HY := Lib.hid (HX.out wr HBr.out).2
    obtain ⟨l0, l1, l2, l3, l4, g0, g1, g2, g3, g4⟩ := laid5_cells HY.out
    obtain ⟨m0, m1, m2, m3, m4⟩ := laid5_read HY.out (.string ⟨#[]⟩) (.string ⟨#[]⟩) (.int .u8 0) (.string ⟨#[]⟩) (.string ⟨#[]⟩)
    go_wp2_with fail
    exact bodyPost_ret (v := .tuple #[.agg #[.string ⟨#[]⟩, .string ⟨#[]⟩, .int .u8 0, .string ⟨#[]⟩, .string ⟨#[]⟩], .bool false]) (by simp [results, Tryz.results25, go_sem, m0, m1, m2, m3, m4]) rfl ⟨rfl, laid5_below HBw.out (by omega) _ _ _ _ _⟩
end

section
open Go.RowKit

/-- the place of a name among sorted ones -/
def posR : Mp → Tx → Nat
  | [], _ => 0
  | y :: r, a => if y.1 < a then posR r a + 1 else 0
theorem posR_le : ∀ (F : Mp) (a : Tx), posR F a ≤ F.length
  | [], _ => Nat.le_refl _
  | y :: r, a => by
    unfold posR
    split
    · exact Nat.succ_le_succ (posR_le r a)
    · exact Nat.zero_le _
theorem posR_lt : ∀ {F : Mp} {a : Tx} {k : Nat} (h : k < posR F a) (hk : k < F.length), F[k].1 < a
  | y :: r, a, 0, h, _ => by
    unfold posR at h
    split at h
    · assumption
    · omega
  | y :: r, a, k + 1, h, hk => by
    unfold posR at h
    split at h
    · exact posR_lt (F := r) (k := k) (by omega) (by simpa using hk)
    · omega
theorem posR_ge : ∀ {F : Mp} {a : Tx} (hk : posR F a < F.length), ¬ F[posR F a].1 < a
  | [], _, hk => by simp at hk
  | y :: r, a, hk => by
    by_cases h : y.1 < a
    · have e : posR (y :: r) a = posR r a + 1 := by rw [posR, if_pos h]
      have hk2 : posR r a < r.length := by rw [e] at hk; simpa using hk
      have := posR_ge hk2
      have e2 : (y :: r)[posR (y :: r) a] = r[posR r a] := by
        have : (y :: r)[posR (y :: r) a]? = r[posR r a]? := by rw [e]; rfl
        rw [List.getElem?_eq_getElem hk, List.getElem?_eq_getElem hk2] at this
        exact Option.some.inj this
      rw [e2]; exact this
    · have e : posR (y :: r) a = 0 := by rw [posR, if_neg h]
      have e2 : (y :: r)[posR (y :: r) a] = y := by
        have : (y :: r)[posR (y :: r) a]? = some y := by rw [e]; rfl
        rw [List.getElem?_eq_getElem hk] at this
        exact Option.some.inj this
      rw [e2]; exact h
/-- is the name there, at its place? -/
def thereR (F : Mp) (a : Tx) : Bool := match F[posR F a]? with
  | some x => decide (x.1 = a)
  | none => false
def restR (F : Mp) (a : Tx) : Mp := if thereR F a then F.drop (posR F a + 1) else F.drop (posR F a)
theorem Up.del_none {F : Mp} {a : Tx} (h : ∀ y ∈ F, y.1 ≠ a) : Go.Proofs.YtgoejmheihgpfaaGreatDoor.mdel F a = F := by
  unfold Go.Proofs.YtgoejmheihgpfaaGreatDoor.mdel
  exact List.filter_eq_self.2 (fun y hy => by simpa using h y hy)
theorem mput_at : ∀ {F : Mp} {a : Tx} (_ : Up F) (n : Int), Go.Proofs.YtgoejmheihgpfaaGreatDoor.mput F a n = F.take (posR F a) ++ (a, n) :: restR F a
  | [], a, _, n => rfl
  | y :: r, a, hu, n => by
    have hc := List.pairwise_cons.1 hu
    by_cases h : y.1 < a
    · have e : posR (y :: r) a = posR r a + 1 := by rw [posR, if_pos h]
      have hne : y.1 ≠ a := fun e => List.lt_irrefl _ (e ▸ h)
      have hb : ¬ bytesBefore a y.1 = true := fun hb => List.lt_irrefl _ (List.lt_trans h ((before_lt _ _).1 hb))
      have e1 : Go.Proofs.YtgoejmheihgpfaaGreatDoor.mput (y :: r) a n = y :: Go.Proofs.YtgoejmheihgpfaaGreatDoor.mput r a n := by
        unfold Go.Proofs.YtgoejmheihgpfaaGreatDoor.mput Go.Proofs.YtgoejmheihgpfaaGreatDoor.mdel
        rw [List.filter_cons_of_pos (by simpa using hne)]
        show (if bytesBefore a y.1 then _ else _) = _
        rw [if_neg hb]
      have e2 : restR (y :: r) a = restR r a := by
        unfold restR thereR
        rw [e]
        rfl
      rw [e1, mput_at hc.2 n, e2, e, List.take_succ_cons, List.cons_append]
    · have e : posR (y :: r) a = 0 := by rw [posR, if_neg h]
      by_cases he : y.1 = a
      · have e2 : restR (y :: r) a = r := by
          unfold restR thereR
          rw [e]
          show (if decide (y.1 = a) = true then _ else _) = _
          rw [if_pos (by simpa using he)]
          rfl
        have hr : ∀ z ∈ r, z.1 ≠ a := fun z hz e => List.lt_irrefl _ (show a < a from by have := hc.1 z hz; rw [he, e] at this; exact this)
        rw [e2, e]
        show Go.Proofs.YtgoejmheihgpfaaGreatDoor.mins (a, n) (Go.Proofs.YtgoejmheihgpfaaGreatDoor.mdel (y :: r) a) = (a, n) :: r
        rw [show Go.Proofs.YtgoejmheihgpfaaGreatDoor.mdel (y :: r) a = Go.Proofs.YtgoejmheihgpfaaGreatDoor.mdel r a from List.filter_cons_of_neg (by simpa using he), Up.del_none hr]
        cases r with
        | nil => rfl
        | cons z t =>
          show (if bytesBefore a z.1 then _ else _) = _
          rw [if_pos ((before_lt _ _).2 (by have := hc.1 z List.mem_cons_self; rw [he] at this; exact this))]
      · have hlt : a < y.1 := tx_lt_of_not h he
        have e2 : restR (y :: r) a = y :: r := by
          unfold restR thereR
          rw [e]
          show (if decide (y.1 = a) = true then _ else _) = _
          rw [if_neg (by simpa using he)]
          rfl
        have hr : ∀ z ∈ y :: r, z.1 ≠ a := fun z hz hze => by
          rcases List.mem_cons.1 hz with hzy | hz
          · rw [hzy] at hze; exact he hze
          · have := List.lt_trans hlt (hc.1 z hz)
            rw [hze] at this
            exact List.lt_irrefl _ this
        rw [e2, e]
        show Go.Proofs.YtgoejmheihgpfaaGreatDoor.mins (a, n) (Go.Proofs.YtgoejmheihgpfaaGreatDoor.mdel (y :: r) a) = (a, n) :: y :: r
        rw [Up.del_none hr]
        show (if bytesBefore a y.1 then _ else _) = _
        rw [if_pos ((before_lt _ _).2 hlt)]
theorem mget_at : ∀ {F : Mp} {a : Tx} (_ : Up F), mget F a = if h : posR F a < F.length then (if F[posR F a].1 = a then F[posR F a].2 else 0) else 0
  | F, a, hu => by
    by_cases hk : posR F a < F.length
    · rw [dif_pos hk]
      by_cases he : F[posR F a].1 = a
      · rw [if_pos he]
        have := hu.get (List.getElem_mem hk)
        rw [he] at this
        exact this
      · rw [if_neg he]
        unfold mget
        rw [List.find?_eq_none.2 (fun x hx => ?_)]
        · rfl
        · obtain ⟨i, hi, rfl⟩ := List.getElem_of_mem hx
          intro hxa
          have hxa : F[i].1 = a := by simpa using hxa
          rcases Nat.lt_trichotomy i (posR F a) with h1 | h1 | h1
          · exact List.lt_irrefl _ (hxa ▸ posR_lt h1 hi)
          · subst h1; exact he hxa
          · have h2 := List.pairwise_iff_getElem.1 hu _ _ hk hi h1
            have h3 : a < F[posR F a].1 := tx_lt_of_not (posR_ge hk) he
            exact List.lt_irrefl _ (hxa ▸ List.lt_trans h3 h2)
    · rw [dif_neg hk]
      unfold mget
      rw [List.find?_eq_none.2 (fun x hx => ?_)]
      · rfl
      · obtain ⟨i, hi, rfl⟩ := List.getElem_of_mem hx
        intro hxa
        have hxa : F[i].1 = a := by simpa using hxa
        exact List.lt_irrefl _ (hxa ▸ posR_lt (a := a) (by omega) hi)
end

section
open Go.RowKit

theorem info_ra : (Tryz.prog.info? 39).map (fun i => (i.zero, i.size, i.bytes)) = some (some (.agg #[.string ⟨#[]⟩, .int .i64 0]), 2, 24) := by kernel_rfl
theorem accells_len (L : Mp) : (accells L).length = L.length * 2 := by
  unfold accells
  induction L with
  | nil => rfl
  | cons x r ih => rw [List.flatMap_cons, List.length_append, ih, List.length_cons]; simp; omega
theorem accells_one (L : Mp) : ∀ u ∈ accells L, u.oneCell' = true := by
  intro u hu
  unfold accells at hu
  obtain ⟨x, _, hx⟩ := List.mem_flatMap.1 hu
  simp only [List.mem_cons, List.not_mem_nil, or_false] at hx
  rcases hx with rfl | rfl <;> rfl
theorem accells_at : ∀ (L : Mp) (k : Nat) (h : k < L.length), (accells L)[k * 2]? = some (.string (bT L[k].1)) ∧ (accells L)[k * 2 + 1]? = some (.int .i64 L[k].2)
  | t :: L, 0, _ => ⟨rfl, rfl⟩
  | t :: L, k + 1, h => by
    obtain ⟨a, b⟩ := accells_at L k (by simpa using h)
    have q : ∀ j, (accells (t :: L))[(k + 1) * 2 + j]? = (accells L)[k * 2 + j]? := fun j => by
      rw [show (k + 1) * 2 + j = k * 2 + j + 2 by omega]; rfl
    exact ⟨(q 0).trans a, (q 1).trans b⟩
set_option maxRecDepth 100000 in
/-- 'append(row, rows...)' at accounts: the source is any slice of accounts, nil too -/
theorem wpList_append_accs {w : World} {ops : Array Oper} {rest : List Oper} {o : Oper} {a : Act} {Q : Exit → Act → World → Prop} (hgd : o.guard = none) (s x : Operand)
    (ho : o.op = .call { callee := .builtin .append, args := #[s, x], argTypes := #[34, 34] })
    (base : Nat) (i : TypeInfo) (hi : Tryz.prog.info? 39 = some i) (hz : i.zero = some (.agg #[.string ⟨#[]⟩, .int .i64 0])) (hsize : i.size = 2) (hby : i.bytes = 24)
    (v : Value) (n : Nat) (xs : List Value) (hs : a.eval s = v) (hown : w.ownsRow base 39 2 v n xs)
    (src : Value) (L : Mp) (hx : a.eval x = src) (hrow : Slc w 2 src L.length (accells L)) (hn : n + L.length ≤ 1000000) (hbase : base ≤ w.heap.size)
    (h : ∀ v' w', w'.ownsRow base 39 2 v' (n + L.length) (xs ++ accells L) → w.grownBy w' v.ownBlock → wpList Tryz.prog ops Q rest (a.put o.dst v') w') : wpList Tryz.prog ops Q (o :: rest) a w := by
  obtain ⟨⟨ad, c, rfl, q1, q2, q3, q4⟩, ql⟩ := hrow
  cases ad with
  | none =>
    have hc := q3 rfl
    have hL : L = [] := List.eq_nil_of_length_eq_zero (by omega)
    subst hL
    subst hc
    refine wpList_append_own_none hgd s x 34 ho base 39 i 2 Tryz.underlying34 hi v n xs hs hown hx ?_
    exact h v w (by simpa [accells] using hown) ⟨rfl, rfl, rfl, Nat.le_refl _, fun _ _ _ => rfl⟩
  | some ad =>
    refine wpList_append_own w hgd s x 34 ho base 39 i _ 2 24 Tryz.underlying34 hi hz hsize hby rfl (by decide) v n xs hs hown ad L.length c (accells L) hx (accells_len L) (fun j u hu => ?_) (accells_one L) (by unfold maxLen; omega) (by omega) hbase (fun v' w' h1 h2 _ => h v' w' h1 h2)
    have hlt : 0 < L.length := by
      have := (List.getElem?_eq_some_iff.1 hu).1
      rw [accells_len] at this
      omega
    obtain ⟨b, o', e, _, hc⟩ := q4 hlt
    injection e with e
    subst e
    have hq := hc j u hu
    by_cases hj : j = 0
    · subst hj; simpa [Addr.add] using hq
    · simpa [Addr.add, hj] using hq
/-- the first of a slice's accounts, and the rest -/
theorem slc_front {w : World} {a : Option Addr} {c : Nat} {L : Mp} (h : Slc w 2 (.slice a L.length c) L.length (accells L)) (k : Nat) (hk : k ≤ L.length) : Slc w 2 (.slice a k c) (L.take k).length (accells (L.take k)) := by
  obtain ⟨⟨a', c', e, q1, q2, q3, q4⟩, ql⟩ := h
  injection e with e1 _ e3
  subst e1 e3
  have hl : (L.take k).length = k := by rw [List.length_take]; omega
  have hpre : accells L = accells (L.take k) ++ accells (L.drop k) := by unfold accells; rw [← List.flatMap_append, List.take_append_drop]
  refine ⟨⟨a, c, by rw [hl], by omega, q2, q3, fun h0 => ?_⟩, by rw [accells_len]⟩
  obtain ⟨b, o, e, hb, hc⟩ := q4 (by omega)
  exact ⟨b, o, e, hb, fun j u hu => hc j u (by rw [hpre, List.getElem?_append_left (List.getElem?_eq_some_iff.1 hu).1]; exact hu)⟩
theorem slc_back {w : World} {b o c : Nat} {L : Mp} (h : Slc w 2 (.slice (some ⟨b, o, none⟩) L.length c) L.length (accells L)) (k : Nat) (hk : k ≤ L.length) (A : Option Addr) (hA : A = if c = k then some ⟨b, o, none⟩ else some ⟨b, o + k * 2, none⟩) : Slc w 2 (.slice A (L.length - k) (c - k)) (L.drop k).length (accells (L.drop k)) := by
  obtain ⟨⟨a', c', e, q1, q2, q3, q4⟩, ql⟩ := h
  injection e with e1 _ e3
  subst e1 e3
  have hl : (L.drop k).length = L.length - k := by rw [List.length_drop]
  have hpre : accells L = accells (L.take k) ++ accells (L.drop k) := by unfold accells; rw [← List.flatMap_append, List.take_append_drop]
  have ht : (accells (L.take k)).length = k * 2 := by rw [accells_len, List.length_take]; rw [Nat.min_eq_left hk]
  refine ⟨⟨A, c - k, by rw [hl], by omega, by omega, (fun e => by subst hA; split at e <;> cases e), fun h0 => ?_⟩, by rw [accells_len]⟩
  obtain ⟨b', o', e, hb, hc⟩ := q4 (by omega)
  cases e
  refine ⟨b, o + k * 2, by rw [hA, if_neg (by omega)], hb, fun j u hu => ?_⟩
  rw [show o + k * 2 + j = o + (k * 2 + j) by omega]
  exact hc _ u (by rw [hpre, List.getElem?_append_right (by omega), ht, show k * 2 + j - k * 2 = j by omega]; exact hu)
end
end Go.Proofs.YtgoejmheihgpfaaGreatDoor
