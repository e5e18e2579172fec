/-
  strings.Cut at ".", sagadef.Read.
-/
import Derived.Test.YtgoejmheihgpfaaGreatDoorSo
import Derived.Shelf.Strings.Cut
namespace Go.Proofs.YtgoejmheihgpfaaGreatDoor
section
open Go.RowKit

/-- the text ahead of the first '.', and behind it -/
def pre (x : Tx) : Tx := x.takeWhile (fun c => c != 46)
def rst (x : Tx) : Tx := (x.dropWhile (fun c => c != 46)).drop 1
theorem idx_cases : ∀ x : Tx, (Lib.indexByte x 46 = -1 ∧ pre x = x ∧ rst x = []) ∨ (Lib.indexByte x 46 = ((pre x).length : Nat) ∧ (pre x).length < x.length ∧ x.take (pre x).length = pre x ∧ x.drop ((pre x).length + 1) = rst x)
  | [] => .inl ⟨rfl, rfl, rfl⟩
  | c :: x => by
    by_cases hc : c = 46
    · subst hc
      exact .inr ⟨rfl, by simp [pre], rfl, rfl⟩
    · have hb : (c != 46) = true := by simpa using hc
      have hb2 : (c == 46) = false := by simpa using hc
      have e1 : pre (c :: x) = c :: pre x := by unfold pre; rw [List.takeWhile_cons, if_pos hb]
      have e2 : rst (c :: x) = rst x := by unfold rst; rw [List.dropWhile_cons, if_pos hb]
      rcases idx_cases x with ⟨h1, h2, h3⟩ | ⟨h1, h2, h3, h4⟩
      · refine .inl ⟨?_, by rw [e1, h2], by rw [e2, h3]⟩
        rw [Lib.indexByte, hb2, h1]; rfl
      · refine .inr ⟨?_, by rw [e1]; simpa using h2, by rw [e1]; simpa using h3, by rw [e1, e2]; simpa using h4⟩
        rw [e1, Lib.indexByte, hb2, h1, List.length_cons]
        simp
theorem key_split {id : Tx} (h : idA id = true) (r : Tx) : pre (id ++ 46 :: r) = id ∧ rst (id ++ 46 :: r) = r := by
  have ha : ∀ c ∈ id, (c != 46) = true := by
    unfold idA at h
    simp only [Bool.and_eq_true] at h
    intro c hc
    have := List.all_eq_true.1 h.1.1 c hc
    cases hcc : (c != 46) with
    | true => rfl
    | false =>
      have : c = 46 := by simpa using hcc
      subst this
      simp [idB] at *
  refine ⟨?_, ?_⟩
  · unfold pre
    rw [List.takeWhile_append_of_pos ha]
    simp
  · unfold rst
    rw [List.dropWhile_append_of_pos ha]
    simp
theorem index_dot (x : Tx) (w : World) : Calls Tryz.prog 144 #[.string (bT x), .string ⟨#[46]⟩] w fun e w' => e = .returned (.int .i64 (Lib.indexByte x 46)) ∧ w' = w := by
  have h := Any.stringslite_Index_one { Tryz.lays145 with } (bT x) 46 w
  rw [show (bT x).data.toList = x from by simp [bT]] at h
  exact h
set_option maxRecDepth 100000 in
set_option maxHeartbeats 4000000 in
theorem slcut_any (w : World) (x : Tx) (hx : x.length ≤ 1000000) : Calls Tryz.prog 107 #[.string (bT x), .string ⟨#[46]⟩] w fun e w' => (∃ b, e = .returned (.tuple #[.string (bT (pre x)), .string (bT (rst x)), .bool b])) ∧ Below w.heap.size w w' := by
  have HI := Lib.hid (index_dot x w)
  have HBn := Lib.hid (fun n => show Below w.heap.size w (w.drewN n) from ⟨rfl, rfl, rfl, Nat.le_refl _, fun _ _ => rfl⟩)
  have hsz := bT_size x
  have HSZ := Lib.hid hsz
  rcases idx_cases x with ⟨h1, h2, h3⟩ | ⟨h1, h2, h3, h4⟩
  · have H2 := Lib.hid h2
    have H3 := Lib.hid h3
    rw [h1] at HI
    clear h1 h2 h3
    go_enter Tryz.func107, Tryz.ntmps107
    go_wp2_with fail
    refine HI.out.mono ?_
    rintro e w2 ⟨rfl, rfl⟩
    go_wp2_with fail
    exact bodyPost_ret (v := .tuple #[.string (bT x), .string ⟨#[]⟩, .bool false]) (by simp [results, Tryz.results107, go_sem]) rfl ⟨⟨false, by rw [H2.out, H3.out]; rfl⟩, Below.refl _ _⟩
  · have H3 := Lib.hid (show (bT x).extract 0 (pre x).length = bT (pre x) from by
      apply ByteArray.ext
      apply Array.toList_inj.1
      rw [ext_list]
      simpa [bT] using h3)
    have H4 := Lib.hid (show (bT x).extract ((pre x).length + 1) x.length = bT (rst x) from by
      apply ByteArray.ext
      apply Array.toList_inj.1
      rw [ext_list, ← h4]
      have : (x.drop ((pre x).length + 1)).take (x.length - ((pre x).length + 1)) = x.drop ((pre x).length + 1) := List.take_of_length_le (by rw [List.length_drop]; exact Nat.le_refl _)
      simpa [bT] using this)
    rw [h1] at HI
    generalize (pre x).length = n at *
    have c1 : (0 : Int) ≤ (n : Int) := by omega
    have c2 : (n : Int) ≤ (x.length : Int) := by omega
    have c3 : (0 : Int) ≤ (n : Int) + 1 := by omega
    have c4 : (n : Int) + 1 ≤ (x.length : Int) := by omega
    have hw : IntKind.i64.wrap ((n : Int) + 1) = (n : Int) + 1 := IntWalk.i64_in _ (by omega)
    have hto : ((n : Int) + 1).toNat = n + 1 := by omega
    clear h1 h2 h3 h4
    go_enter Tryz.func107, Tryz.ntmps107
    go_wp2_with fail
    refine HI.out.mono ?_
    rintro e w2 ⟨rfl, rfl⟩
    go_wp2_with fail
    go_quiet (fail)
    go_wp2_with fail
    exact bodyPost_ret (v := .tuple #[.string ((bT x).extract 0 n), .string ((bT x).extract (n + 1) x.length), .bool true]) (by simp [results, Tryz.results107, go_sem]) rfl ⟨⟨true, by rw [H3.out, H4.out]⟩, HBn.out _⟩
set_option maxRecDepth 100000 in
theorem cut_any (w : World) (x : Tx) (hx : x.length ≤ 1000000) : Calls Tryz.prog 80 #[.string (bT x), .string ⟨#[46]⟩] w fun e w' => (∃ b, e = .returned (.tuple #[.string (bT (pre x)), .string (bT (rst x)), .bool b])) ∧ Below w.heap.size w w' := by
  have HI := Lib.hid (slcut_any w x hx)
  go_enter Tryz.func80, Tryz.ntmps80
  go_wp2_with fail
  refine HI.out.mono ?_
  rintro e w2 ⟨⟨b, rfl⟩, hb⟩
  have HB := Lib.hid hb
  clear hb HI
  go_wp2_with fail
  exact bodyPost_ret (v := .tuple #[.string (bT (pre x)), .string (bT (rst x)), .bool b]) (by simp [results, Tryz.results80, go_sem]) rfl ⟨⟨b, rfl⟩, HB.out⟩
/-- what a key says -/
def KeyR (x : Tx) (y : Ending) : Prop := (∃ (id : Tx) (i : Nat) (b : Bool), idA id = true ∧ i < 8 ∧ x = id ++ [46, dg i, if b then 99 else 102] ∧ y = .returned (.tuple #[.string (bT id), .int .i64 (i : Nat), .bool b, .bool true])) ∨ ((∀ (id : Tx) (i : Nat) (b : Bool), idA id = true → i < 8 → x ≠ id ++ [46, dg i, if b then 99 else 102]) ∧ y = .returned (.tuple #[.string ⟨#[]⟩, .int .i64 0, .bool false, .bool false]))
theorem dg_nat {i : Nat} (h : i < 8) : (dg i).toNat = 48 + i := by
  unfold dg
  rw [UInt8.toNat_ofNat']
  omega
theorem key_rst {x id : Tx} {i : Nat} {b : Bool} (h : idA id = true) (hx : x = id ++ [46, dg i, if b then 99 else 102]) : pre x = id ∧ rst x = [dg i, if b then 99 else 102] := by
  subst hx
  exact key_split h _
set_option maxRecDepth 100000 in
set_option maxHeartbeats 4000000 in
theorem read_any (w : World) (x : Tx) (hx : x.length ≤ 1000000) : Calls Tryz.prog 44 #[.string (bT x)] w fun e w' => KeyR x e ∧ Below w.heap.size w w' := by
  have HC := Lib.hid (cut_any w x hx)
  have hpl : (pre x).length ≤ 1000000 := Nat.le_trans (List.takeWhile_sublist _).length_le hx
  have HKY := Lib.hid (fun W i b => key_any W (pre x) hpl i b)
  have HZ := Lib.hid (fun (h : ∀ (id : Tx) (i : Nat) (b : Bool), idA id = true → i < 8 → x ≠ id ++ [46, dg i, if b then 99 else 102]) => show KeyR x (.returned (.tuple #[.string ⟨#[]⟩, .int .i64 0, .bool false, .bool false])) from .inr ⟨h, rfl⟩)
  have HY := Lib.hid (fun (id : Tx) (i : Nat) (b : Bool) (h1 : idA id = true) (h2 : i < 8) (h3 : x = id ++ [46, dg i, if b then 99 else 102]) => show KeyR x (.returned (.tuple #[.string (bT id), .int .i64 (i : Nat), .bool b, .bool true])) from .inl ⟨id, i, b, h1, h2, h3, rfl⟩)
  go_enter Tryz.func44, Tryz.ntmps44
  go_wp2_with fail
  refine HC.out.mono ?_
  rintro e w2 ⟨⟨b0, rfl⟩, hb⟩
  have HB2 := Lib.hid hb
  clear hb HC
  by_cases hl : (rst x).length = 2
  case neg =>
    have HN := Lib.hid (HZ.out (fun id i b h1 h2 h3 => hl (by rw [(key_rst h1 h3).2]; rfl)))
    have hsz := bT_size (rst x)
    have d1 : (((rst x).length : Int) == 2) = false := by rw [beq_eq_false_iff_ne]; omega
    have d2 : (((rst x).length : Int) != 2) = true := by rw [bne_iff_ne]; omega
    go_wp2_with fail
    exact bodyPost_ret (v := .tuple #[.string ⟨#[]⟩, .int .i64 0, .bool false, .bool false]) (by simp [results, Tryz.results44, go_sem]) rfl ⟨HN.out, HB2.out⟩
  obtain ⟨a, b, hab⟩ : ∃ a b, rst x = [a, b] := by
    match hr : rst x, hl with
    | [a, b], _ => exact ⟨a, b, rfl⟩
  have HAB := Lib.hid hab
  rw [hab]
  have ha : a.toNat < 256 := a.toNat_lt
  have hw : IntKind.i64.wrap ((a.toNat : Int) - 48) = (a.toNat : Int) - 48 := IntWalk.i64_in _ (by omega)
  have hcv : IntKind.i64.wrap (a.toNat : Int) = (a.toNat : Int) := IntWalk.i64_in _ (by omega)
  have e99 : ((b.toNat : Int) == 99) = (b == 99) := by
    cases h : (b == 99) with
    | true => have : b = 99 := by simpa using h
              subst this; rfl
    | false => rw [beq_eq_false_iff_ne]; intro h2; have : b = 99 := UInt8.toNat_inj.1 (by have : b.toNat = 99 := by omega
                                                                                          rw [this]; rfl)
               subst this; simp at h
  clear hl hab
  have hz : (bT [a, b]).size = 2 := rfl
  have d1 : ((2 : Int) == 2) = true := rfl
  have HKN := Lib.hid (show ∀ (id : Tx) (i : Nat) (b' : Bool), idA id = true → i < 8 → x = id ++ [46, dg i, if b' then 99 else 102] → keyA (pre x) ((a.toNat : Int) - 48) (b == 99) = x from fun id i b' h1 h2 h3 => by
    obtain ⟨e1, e2⟩ := key_rst h1 h3
    rw [HAB.out] at e2
    injection e2 with ea eb
    injection eb with eb _
    have hi : (a.toNat : Int) - 48 = (i : Int) := by rw [ea, dg_nat h2]; omega
    have hbk : (b == 99) = b' := by rw [eb]; cases b' <;> rfl
    rw [e1, hi, hbk, h3]
    unfold keyA
    rw [if_pos ⟨h1, by omega, by omega⟩, Int.toNat_natCast])
  have HKY2 := Lib.hid (show keyA (pre x) ((a.toNat : Int) - 48) (b == 99) ≠ [] → keyA (pre x) ((a.toNat : Int) - 48) (b == 99) = x → ∃ n : Nat, (a.toNat : Int) - 48 = (n : Int) ∧ idA (pre x) = true ∧ n < 8 ∧ x = pre x ++ [46, dg n, if (b == 99) then 99 else 102] from fun h1 h2 => by
    unfold keyA at h1 h2
    split at h1
    · rename_i hc
      rw [if_pos hc] at h2
      exact ⟨((a.toNat : Int) - 48).toNat, by omega, hc.1, by omega, h2.symm⟩
    · exact absurd rfl h1)
  have x0 : wrap64 (wrap64 (((bT [a, b])[0]'(by rw [hz]; decide)).toNat : Int) - 48) = (a.toNat : Int) - 48 := by
    show wrap64 (wrap64 (a.toNat : Int) - 48) = _
    rw [IntWalk.wrap64_in (a.toNat : Int) (by omega), IntWalk.wrap64_in _ (by omega)]
  have x1 : ((((bT [a, b])[1]'(by rw [hz]; decide)).toNat : Int) == 99) = (b == 99) := e99
  have HX0 := Lib.hid x0
  have HX1 := Lib.hid x1
  have HBn := Lib.hid (fun n => show Below w2.heap.size w2 (w2.drewN n) from ⟨rfl, rfl, rfl, Nat.le_refl _, fun _ _ => rfl⟩)
  clear x0 x1 e99 hw hcv ha
  go_wp2_with fail
  go_quiet (fail)
  rw [HX0.out, HX1.out]
  have HB3 := Lib.hid (HB2.out.trans ((HBn.out nq).mono HB2.out.size))
  have HB3a := Lib.hid (HBn.out nq)
  generalize (a.toNat : Int) - 48 = i0 at *
  generalize (b == 99) = bk at *
  have HC := Lib.hid (HKY.out (w2.drewN nq) i0 bk)
  clear HX0 HX1 HKY
  generalize keyA (pre x) i0 bk = KA at *
  have e1 : ((bT KA).toList == []) = decide (KA = []) := bT_is KA []
  have e2 := bT_same KA x
  go_wp2_with fail
  refine HC.out.mono ?_
  rintro e w3 ⟨rfl, hb⟩
  have HB4 := Lib.hid (HB3.out.trans (hb.mono HB3.out.size))
  clear hb HC
  by_cases k1 : KA = []
  · have HN := Lib.hid (HZ.out (fun id i b' h1 h2 h3 => by
      have h := HKN.out id i b' h1 h2 h3
      rw [k1] at h
      rw [← h] at h3
      exact absurd h3 (by simp)))
    rw [decide_eq_true k1] at e1
    clear k1
    go_wp2_with fail
    exact bodyPost_ret (v := .tuple #[.string ⟨#[]⟩, .int .i64 0, .bool false, .bool false]) (by simp [results, Tryz.results44, go_sem]) rfl ⟨HN.out, HB4.out⟩
  rw [decide_eq_false k1] at e1
  by_cases k2 : KA = x
  · obtain ⟨n, hn, hid, hn8, hxx⟩ := HKY2.out k1 k2
    have HV := Lib.hid (HY.out (pre x) n bk hid hn8 hxx)
    rw [decide_eq_true k2] at e2
    have f2 : (!((bT KA).toList == (bT x).toList)) = false := by rw [e2]; rfl
    have HN0 := Lib.hid hn
    clear k1 k2 hn hid hn8 hxx
    go_wp2_with fail
    exact bodyPost_ret (v := .tuple #[.string (bT (pre x)), .int .i64 i0, .bool bk, .bool true]) (by simp [results, Tryz.results44, go_sem]) rfl ⟨by rw [HN0.out]; exact HV.out, HB4.out⟩
  · have HN := Lib.hid (HZ.out (fun id i b' h1 h2 h3 => k2 (HKN.out id i b' h1 h2 h3)))
    rw [decide_eq_false k2] at e2
    have f2 : (!((bT KA).toList == (bT x).toList)) = true := by rw [e2]; rfl
    clear k1 k2
    go_wp2_with fail
    exact bodyPost_ret (v := .tuple #[.string ⟨#[]⟩, .int .i64 0, .bool false, .bool false]) (by simp [results, Tryz.results44, go_sem]) rfl ⟨HN.out, HB4.out⟩
end

section
open Go.RowKit

/-- the key of a step, or of its undoing -/
def keyT (id : Tx) (q : Nat) (b : Bool) : Tx := id ++ [46, dg q, if b then 99 else 102]
/-- how many keys of n steps an entry bears -/
def cnt (id : Tx) (n : Nat) (b : Bool) (e : Ent) : Nat := (List.range n).countP (fun q => decide (e.key = keyT id q b))
def sumC (id : Tx) (n : Nat) (b : Bool) (l : List Ent) : Nat := (l.map (cnt id n b)).sum
theorem sumC_next (id : Tx) (n : Nat) (b : Bool) {l : List Ent} {j : Nat} (h : j < l.length) : sumC id n b (l.take (j + 1)) = sumC id n b (l.take j) + cnt id n b l[j] := by
  unfold sumC
  rw [List.take_succ_eq_append_getElem h, List.map_append, List.sum_append]
  simp
theorem sumC_all (id : Tx) (n : Nat) (b : Bool) {l : List Ent} {j : Nat} (h : ¬ j < l.length) : sumC id n b (l.take j) = sumC id n b l := by
  rw [List.take_of_length_le (by omega)]
theorem dg_inj {p q : Nat} (hp : p < 8) (hq : q < 8) (h : dg p = dg q) : p = q := by
  have := congrArg UInt8.toNat h
  rw [dg_nat hp, dg_nat hq] at this
  omega
theorem keyT_inj {id id' : Tx} {p q : Nat} {b c : Bool} (h1 : idA id = true) (h2 : idA id' = true) (hp : p < 8) (hq : q < 8) (h : keyT id p b = keyT id' q c) : id = id' ∧ p = q ∧ b = c := by
  obtain ⟨e1, e2⟩ := key_split h1 [dg p, if b then 99 else 102]
  obtain ⟨f1, f2⟩ := key_split h2 [dg q, if c then 99 else 102]
  have h' : id ++ 46 :: [dg p, if b then 99 else 102] = id' ++ 46 :: [dg q, if c then 99 else 102] := h
  rw [h'] at e1 e2
  rw [f2] at e2
  injection e2 with g1 g2
  injection g2 with g2 _
  refine ⟨e1.symm.trans f1, (dg_inj hq hp g1).symm, ?_⟩
  cases b <;> cases c <;> simp_all
theorem cnt_zero {id : Tx} {n : Nat} {b : Bool} {e : Ent} (h : ∀ q, q < n → e.key ≠ keyT id q b) : cnt id n b e = 0 := by
  unfold cnt
  rw [List.countP_eq_zero]
  intro q hq
  simpa using h q (List.mem_range.1 hq)
theorem countP_one {p : Nat → Bool} {i : Nat} (hi : p i = true) (hu : ∀ q, p q = true → q = i) : ∀ n, i < n → (List.range n).countP p = 1
  | n + 1, h => by
    rw [List.range_succ, List.countP_append, List.countP_singleton]
    by_cases hn : i = n
    · subst hn
      have : (List.range i).countP p = 0 := by
        rw [List.countP_eq_zero]
        intro q hq hp
        have := hu q hp
        have := List.mem_range.1 hq
        omega
      rw [this, hi]; rfl
    · rw [countP_one hi hu n (by omega)]
      have : ¬ p n = true := fun h => hn (hu n h).symm
      simp [this]
theorem cnt_one {id : Tx} {n i : Nat} {b : Bool} {e : Ent} (hid : idA id = true) (hn : n ≤ 8) (hi : i < n) (h : e.key = keyT id i b) : cnt id n b e = 1 ∧ cnt id n (!b) e = 0 := by
  refine ⟨?_, cnt_zero (fun q hq hk => ?_)⟩
  · unfold cnt
    have hp : ∀ q, decide (e.key = keyT id q b) = (decide (q < 8 ∧ e.key = keyT id q b) || decide (¬ q < 8 ∧ e.key = keyT id q b)) := fun q => by
      by_cases h1 : q < 8 <;> simp [h1]
    have e1 : (List.range n).countP (fun q => decide (e.key = keyT id q b)) = (List.range n).countP (fun q => decide (q < 8 ∧ e.key = keyT id q b)) := by
      apply List.countP_congr
      intro q hq
      have := List.mem_range.1 hq
      have hq8 : q < 8 := by omega
      simp [hq8]
    rw [e1]
    refine countP_one (i := i) (by simp [h]; omega) (fun q hq => ?_) n hi
    have hq2 : q < 8 ∧ e.key = keyT id q b := of_decide_eq_true hq
    exact (keyT_inj hid hid hq2.1 (by omega) (hq2.2.symm.trans h)).2.1
  · have := (keyT_inj hid hid (by omega) (by omega) (h.symm.trans hk)).2.2
    cases b <;> cases this
/-- how a run's entries stand: k steps; lv the least undoing, or -1 -/
def StandP (id : Tx) (n : Nat) (l : List Ent) (k : Nat) (lv : Int) : Prop := (lv = -1 ∨ (0 ≤ lv ∧ lv ≤ k)) ∧ sumC id n false l = k ∧ (sumC id n true l : Int) = if lv < 0 then 0 else k - lv
/-- how it ends -/
def EndP (n : Nat) (r : Run) (k : Nat) (lv : Int) : Prop := if r.ph = 1 then lv < 0 ∧ ((k : Int) = r.at_ ∨ (k : Int) = r.at_ + 1) else if r.ph = 3 then lv < 0 ∧ k = n else if r.ph = 4 then (if lv < 0 then (k : Int) else lv) = 0 else ((if lv < 0 then (k : Int) else lv) = r.at_ ∨ (if lv < 0 then (k : Int) else lv) = r.at_ + 1)
def ShapeP (s : Sch) (r : Run) (l : List Ent) : Prop := rightR s r = true ∧ ∃ (k : Nat) (lv : Int), StandP r.id (sOr (sagOf s.sagas r.sg)).steps.length l k lv ∧ EndP (sOr (sagOf s.sagas r.sg)).steps.length r k lv
theorem stand_keep {id : Tx} {n : Nat} {l : List Ent} {j k : Nat} {lv : Int} (h : StandP id n (l.take j) k lv) (hj : j < l.length) (h1 : cnt id n false l[j] = 0) (h2 : cnt id n true l[j] = 0) : StandP id n (l.take (j + 1)) k lv := by
  obtain ⟨a, b, c⟩ := h
  refine ⟨a, by rw [sumC_next _ _ _ hj, b, h1, Nat.add_zero], by rw [sumC_next _ _ _ hj, h2]; simpa using c⟩
theorem stand_forth {id : Tx} {n : Nat} {l : List Ent} {j k : Nat} (h : StandP id n (l.take j) k (-1)) (hj : j < l.length) (h1 : cnt id n false l[j] = 1) (h2 : cnt id n true l[j] = 0) : StandP id n (l.take (j + 1)) (k + 1) (-1) := by
  obtain ⟨a, b, c⟩ := h
  refine ⟨.inl rfl, by rw [sumC_next _ _ _ hj, b, h1], by rw [sumC_next _ _ _ hj, h2]; simpa using c⟩
theorem stand_back {id : Tx} {n : Nat} {l : List Ent} {j k : Nat} {lv : Int} (h : StandP id n (l.take j) k lv) (hj : j < l.length) (h1 : cnt id n false l[j] = 0) (h2 : cnt id n true l[j] = 1) (h0 : 0 ≤ (if lv < 0 then (k : Int) else lv) - 1) : StandP id n (l.take (j + 1)) k ((if lv < 0 then (k : Int) else lv) - 1) := by
  obtain ⟨a, b, c⟩ := h
  refine ⟨.inr ?_, by rw [sumC_next _ _ _ hj, b, h1, Nat.add_zero], ?_⟩
  · rcases a with rfl | a
    · simp at h0 ⊢; omega
    · rw [if_neg (by omega)] at h0 ⊢; omega
  · rw [sumC_next _ _ _ hj, h2, if_neg (by omega)]
    rcases a with rfl | a
    · simp at c ⊢; omega
    · rw [if_neg (by omega)] at c ⊢; omega
theorem fold_keep {α : Type} {g : Flt → α → Flt} (hg : ∀ f x, f.is = true → (g f x).is = true) : ∀ (l : List α) (f : Flt), f.is = true → (l.foldl g f).is = true
  | [], _, h => h
  | x :: l, f, h => fold_keep hg l _ (hg f x h)
theorem atF_keep (f : Flt) (b : Bool) (x : Tx) (e : Nat) (h : f.is = true) : (atF f b x e).is = true := by
  unfold atF
  rw [h, Bool.or_true, if_pos rfl]
  exact h
theorem fold_clear {g : Flt → Sga → Flt} (hg : ∀ f x, f.is = true → (g f x).is = true) : ∀ (l : List Sga) (f : Flt), (l.foldl g f).is = false → ∀ x ∈ l, ∃ f', f'.is = false ∧ (g f' x).is = false
  | x :: l, f, h, y, hy => by
    have hf : f.is = false := by
      cases hff : f.is with
      | false => rfl
      | true => rw [fold_keep hg (x :: l) f hff] at h; cases h
    have hgx : (g f x).is = false := by
      cases hff : (g f x).is with
      | false => rfl
      | true => rw [List.foldl_cons, fold_keep hg l _ hff] at h; cases h
    rcases List.mem_cons.1 hy with rfl | hy
    · exact ⟨f, hf, hgx⟩
    · exact fold_clear hg l _ h y hy
theorem counts_of {s : Sch} (h : (checkA s).2 = 0) : ∀ g ∈ s.sagas, g.steps.length ≤ 8 := by
  have hc := checkA_clear h (rules_num s) (countsA s flt0) (by simp [rulesA])
  intro g hg
  obtain ⟨f', h1, h2⟩ := fold_clear (g := cntG) (fun f x h => atF_keep f _ _ _ h) s.sagas _ hc g hg
  unfold cntG atF at h2
  rw [h1, Bool.or_false] at h2
  split at h2
  · rename_i hh
    simp only [Bool.and_eq_true, decide_eq_true_eq] at hh
    exact hh.2
  · cases h2
theorem right_eight {s : Sch} {r : Run} (h : rightR s r = true) : idA r.id = true ∧ 0 ≤ r.at_ ∧ r.at_ < 100 ∧ (sOr (sagOf s.sagas r.sg)).steps.length ≤ 8 := by
  unfold rightR at h
  simp only [Bool.and_eq_true, decide_eq_true_eq] at h
  obtain ⟨⟨⟨⟨⟨h1, h2⟩, _⟩, h3⟩, _⟩, _⟩ := h
  have ht : (textA' s).2 = 0 := by
    unfold foundA at h1
    split at h1
    · assumption
    · exact h1
  have hc : (checkA s).2 = 0 := by
    unfold textA' at ht
    split at ht
    · assumption
    · exact ht
  have hf : foundA s r.sg = fndG (sagOf s.sagas r.sg) := by unfold foundA; rw [if_pos ht]
  rw [hf] at h1 h3
  have h8 := counts_of hc
  unfold numsA at h3
  simp only [Bool.and_eq_true, decide_eq_true_eq] at h3
  cases hg : sagOf s.sagas r.sg with
  | none => rw [hg] at h1; cases h1
  | some g =>
    rw [hg] at h3
    have hm := h8 g (List.mem_of_find?_eq_some hg)
    have e1 : (fndG (some g)).1 = g := rfl
    rw [e1] at h3
    exact ⟨h2, h3.1.1.1.1.1.1, by omega, hm⟩
end
end Go.Proofs.YtgoejmheihgpfaaGreatDoor
