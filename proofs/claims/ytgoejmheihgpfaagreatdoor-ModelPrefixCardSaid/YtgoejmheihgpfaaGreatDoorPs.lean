/-
  The plain law and the walk of redressref12.steps.
-/
import Derived.Test.YtgoejmheihgpfaaGreatDoorPr
namespace Go.Proofs.YtgoejmheihgpfaaGreatDoor
section
open Go.RowKit

/-- a step's service, method, and the place behind 'at' -/
def doA (T : List Tok) (i : Int) : Tx × Tx × Int := ((nameA T (stepA T i wDo)).1, (nameA T (stepA T (nameA T (stepA T i wDo)).2 [46])).1, stepA T (nameA T (stepA T (nameA T (stepA T i wDo)).2 [46])).2 wAt)
def atA (T : List Tok) (j : Int) : Option (Nat × Int) := if j < 0 then some (0, j) else match T[j.toNat]? with
  | none => none
  | some t => if t.kind = 2 then some (t.num, j + 1) else none
theorem atA_far {T : List Tok} {i : Int} {r : Nat × Int} (h : Pl T i) (hr : atA T i = some r) : Pl T r.2 ∧ (Adv i r.2 ∨ r.2 = i) := by
  unfold atA at hr
  by_cases h0 : i < 0
  · rw [if_pos h0] at hr; obtain rfl := Option.some.inj hr; exact ⟨h, .inr rfl⟩
  · rw [if_neg h0] at hr
    by_cases hl : i.toNat < T.length
    · rw [List.getElem?_eq_getElem hl] at hr
      dsimp only at hr
      split at hr
      · obtain rfl := Option.some.inj hr
        exact ⟨⟨by show _ ≤ i + 1; omega, by show i + 1 ≤ _; omega⟩, .inl (.inr ⟨by omega, by show i < i + 1; omega⟩)⟩
      · cases hr
    · rw [List.getElem?_eq_none (by omega)] at hr; cases hr
theorem steps_eq (l : List Tok) (k : Nat) (i : Int) : stepsA l (k + 1) i = (
    if i < 0 ∨ textA l i = [125] then ([], i)
    else
      let s := nameA l (stepA l i wDo)
      let m := nameA l (stepA l s.2 [46])
      let j := stepA l m.2 wAt
      if j < 0 then let q := stepsA l k (stepA l j [59]); (⟨s.1, m.1, 0⟩ :: q.1, q.2)
      else match l[j.toNat]? with
        | none => ([], -1 - j)
        | some t => if t.kind = 2 then let q := stepsA l k (stepA l (j + 1) [59]); (⟨s.1, m.1, t.num⟩ :: q.1, q.2) else ([], -1 - j)) := by kernel_rfl
theorem steps_neg {T : List Tok} {F : Nat} {i : Int} (h : i < 0) : stepsA T F i = ([], i) := by
  cases F with
  | zero => rfl
  | succ F => rw [steps_eq, if_pos (.inl h)]
theorem steps_shut {T : List Tok} {F : Nat} {i : Int} (h : textA T i = [125]) : stepsA T (F + 1) i = ([], i) := by rw [steps_eq, if_pos (.inr h)]
theorem steps_none {T : List Tok} {F : Nat} {i : Int} (h0 : ¬ i < 0) (h : textA T i ≠ [125]) (hr : atA T (doA T i).2.2 = none) : stepsA T (F + 1) i = ([], -1 - (doA T i).2.2) := by
  rw [steps_eq, if_neg (by simp [h0, h])]
  unfold atA at hr
  by_cases hj : (doA T i).2.2 < 0
  · rw [if_pos hj] at hr; cases hr
  · rw [if_neg hj] at hr
    dsimp only [doA] at hr hj ⊢
    rw [if_neg hj]
    cases ht : T[(stepA T (nameA T (stepA T (nameA T (stepA T i wDo)).2 [46])).2 wAt).toNat]? with
    | none => rfl
    | some t =>
      rw [ht] at hr
      dsimp only at hr ⊢
      split at hr
      · cases hr
      · rw [if_neg (by assumption)]
theorem steps_next {T : List Tok} {F : Nat} {i : Int} {S : List Stp} {r : Nat × Int} (h0 : ¬ i < 0) (h : textA T i ≠ [125]) (hr : atA T (doA T i).2.2 = some r) :
    ahead S (stepsA T (F + 1) i) = ahead (S ++ [⟨(doA T i).1, (doA T i).2.1, (r.1 : Nat)⟩]) (stepsA T F (stepA T r.2 [59])) := by
  rw [steps_eq, if_neg (by simp [h0, h])]
  unfold atA at hr
  by_cases hj : (doA T i).2.2 < 0
  · rw [if_pos hj] at hr
    obtain rfl := Option.some.inj hr
    dsimp only [doA] at hj ⊢
    rw [if_pos hj]
    simp [ahead]
  · rw [if_neg hj] at hr
    dsimp only [doA] at hr hj ⊢
    rw [if_neg hj]
    cases ht : T[(stepA T (nameA T (stepA T (nameA T (stepA T i wDo)).2 [46])).2 wAt).toNat]? with
    | none => rw [ht] at hr; cases hr
    | some t =>
      rw [ht] at hr
      dsimp only at hr ⊢
      split at hr
      · rename_i hk
        obtain rfl := Option.some.inj hr
        rw [if_pos hk]
        simp [ahead]
      · cases hr
def pcells : List Stp → List Value
  | [] => []
  | m :: l => .string (bT m.service) :: .string (bT m.method) :: .int .i64 m.node :: pcells l
theorem pcells_append : ∀ (l r : List Stp), pcells (l ++ r) = pcells l ++ pcells r
  | [], _ => rfl
  | t :: l, r => by simp [pcells, pcells_append l r]
theorem info_stp : (Tryz.prog.info? 108).map (fun i => (i.zero, i.size, i.bytes)) = some (some (.agg #[.string ⟨#[]⟩, .string ⟨#[]⟩, .int .i64 0]), 3, 40) := by kernel_rfl
set_option maxRecDepth 100000 in
set_option maxHeartbeats 16000000 in
theorem steps_any (w : World) (v : Value) (T : List Tok) (h : Slc w 4 v T.length (tcells T)) (hL : T.length ≤ 65536) (hB : ∀ t ∈ T, t.text.length ≤ 65536) (i : Int) (hi : Pl T i) : Calls Tryz.prog 116 #[v, .int .i64 i] w fun e w' => ∃ u, e = .returned (.tuple #[u, .int .i64 (shutA (stepsA T (T.length + 1) (stepA T i [123]))).2]) ∧ w'.ownsRow w.heap.size 108 3 u (shutA (stepsA T (T.length + 1) (stepA T i [123]))).1.length (pcells (shutA (stepsA T (T.length + 1) (stepA T i [123]))).1) ∧ Below w.heap.size w w' := by
  have HT := Lib.hid (fun w' (X : Below w.heap.size w w') j (hj : Pl T j) => text_any w' v T (h.below X) hL j (by have := hj.1; omega) (by have := hj.2; omega))
  have HN := Lib.hid (fun w' (X : Below w.heap.size w w') j (hj : Pl T j) => namer_pl w' v T (h.below X) hL hB j hj)
  have HS := Lib.hid (fun w' (X : Below w.heap.size w w') j (hj : Pl T j) x => step_pl w' v T (h.below X) hL j hj x)
  have HV := Lib.hid h
  clear h hB
  have H1 := Lib.hid (HS.out w (Below.refl _ _) i hi [123])
  have hp := stepA_pl (x := [123]) (by simp) hi
  generalize stepA T i [123] = i1 at *
  generalize hq : shutA (stepsA T (T.length + 1) i1) = Q at *
  have HQ := Lib.hid (show Q = shutA (ahead [] (stepsA T (T.length + 1) i1)) from by rw [← hq]; rfl)
  clear hq
  go_enter Tryz.func116, Tryz.ntmps116
  go_wp2_with fail
  refine H1.out.mono ?_
  rintro e w1 ⟨rfl, rfl⟩
  go_wp2_with fail
  go_loopw [6, 1] (fun vl va wr => ∃ (j : Int) (F : Nat) (S : List Stp), va = .int .i64 j ∧ Pl T j ∧ (0 ≤ j → (S.length : Int) ≤ j ∧ (T.length : Int) < F + j) ∧ S.length ≤ T.length + 1 ∧ Hid (wr.ownsRow w.heap.size 108 3 vl S.length (pcells S)) ∧ Hid (Below w.heap.size w wr) ∧ Hid (Q = shutA (ahead S (stepsA T F j)))) (fun _ va _ => if intOf va < 0 then 0 else T.length + 1 - (intOf va).toNat)
  case atStart => exact ⟨i1, T.length + 1, [], rfl, hp, fun h => ⟨by simpa using h, by omega⟩, by simp, World.ownsRow_nil _ _ _ _, Below.refl _ _, HQ⟩
  case round =>
    clear HQ hp hi H1
    obtain ⟨j, F, S, rfl, hp, hj, hS, HR, HB, HQ⟩ := hrel
    obtain ⟨va, vc, rfl⟩ := own_slice HR.out
    by_cases h0 : j < 0
    · have hQ : Q = ([], j) := by rw [HQ.out, steps_neg h0]; unfold shutA ahead; rw [if_pos h0]
      clear HQ hj
      subst hQ
      go_wp2_with fail
      exact bodyPost_ret (v := .tuple #[.slice none 0 0, .int .i64 j]) (by simp [results, Tryz.results116, go_sem]) rfl ⟨_, rfl, World.ownsRow_nil _ _ _ _, HB.out⟩
    obtain ⟨k, rfl⟩ : ∃ k : Nat, j = (k : Int) := ⟨j.toNat, by omega⟩
    obtain ⟨hSk, hF⟩ := hj (by omega)
    clear hj
    have hk : k ≤ T.length := by have := hp.2; omega
    obtain ⟨F, rfl⟩ : ∃ F', F = F' + 1 := ⟨F - 1, by omega⟩
    have HTk := Lib.hid (HT.out wr HB.out _ hp)
    have e_y := bT_is (textA T (k : Int)) [125]
    by_cases hy : textA T (k : Int) = [125]
    · have hQ : Q = (S, (k : Int) + 1) := by rw [HQ.out, steps_shut hy]; unfold shutA ahead; rw [if_neg h0]; simp
      rw [decide_eq_true hy] at e_y
      have e_z : (!((bT (textA T (k : Int))).toList == [125])) = false := by rw [e_y]; rfl
      clear hy HQ
      generalize textA T (k : Int) = y at *
      subst hQ
      go_wp2_with fail
      refine HTk.out.mono ?_
      rintro e w2 ⟨rfl, rfl⟩
      go_wp2_with fail
      exact bodyPost_ret (v := .tuple #[.slice va S.length vc, .int .i64 ((k : Int) + 1)]) (by simp [results, Tryz.results116, go_sem]) rfl ⟨_, rfl, HR.out, HB.out⟩
    rw [decide_eq_false hy] at e_y
    have e_z : (!((bT (textA T (k : Int))).toList == [125])) = true := by rw [e_y]; rfl
    have HNO := Lib.hid (fun hr => HQ.out.trans (congrArg (fun q => shutA (ahead S q)) (steps_none (F := F) h0 hy hr)))
    have HNR := Lib.hid (fun r hr => HQ.out.trans (congrArg shutA (steps_next (F := F) (S := S) (r := r) h0 hy hr)))
    clear hy HQ h0
    generalize textA T (k : Int) = y at *
    go_wp2_with fail
    refine HTk.out.mono ?_
    rintro e w2 ⟨rfl, rfl⟩
    have p0 := stepA_pl (x := wDo) (by decide) hp
    have p1 := nameA_pl p0
    have p2 := stepA_pl (x := [46]) (by simp) p1
    have p3 := nameA_pl p2
    have p4 := stepA_pl (x := wAt) (by decide) p3
    have a4 : Adv (k : Int) (doA T (k : Int)).2.2 := ((((stepA_adv (T := T) (i := (k : Int)) wDo).trans (nameA_adv (T := T))).trans (stepA_adv (T := T) [46])).trans (nameA_adv (T := T))).trans (stepA_adv (T := T) wAt)
    have HS0 := Lib.hid (fun A => HS.out (wr.alloc A) (HB.out.alloc HB.out.size A) _ hp wDo)
    have HN1 := Lib.hid (fun A => HN.out (wr.alloc A) (HB.out.alloc HB.out.size A) _ p0)
    have HS2 := Lib.hid (fun A => HS.out (wr.alloc A) (HB.out.alloc HB.out.size A) _ p1 [46])
    have HN3 := Lib.hid (fun A => HN.out (wr.alloc A) (HB.out.alloc HB.out.size A) _ p2)
    have HS4 := Lib.hid (fun A => HS.out (wr.alloc A) (HB.out.alloc HB.out.size A) _ p3 wAt)
    unfold doA at HNO HNR a4
    have hsz := HB.out.size
    generalize stepA T (k : Int) wDo = i2 at *
    generalize nameA T i2 = nm at *
    generalize stepA T nm.2 [46] = i3 at *
    generalize nameA T i3 = mt at *
    generalize stepA T mt.2 wAt = ja at *
    dsimp only at HNO HNR a4
    clear p0 p1 p2 p3
    go_wp2_with fail
    refine (HS0.out _).mono ?_
    rintro e w2 ⟨rfl, rfl⟩
    go_wp2_with fail
    refine (HN1.out _).mono ?_
    rintro e w2 ⟨rfl, rfl⟩
    go_wp2_with fail
    refine (HS2.out _).mono ?_
    rintro e w2 ⟨rfl, rfl⟩
    go_wp2_with fail
    refine (HN3.out _).mono ?_
    rintro e w2 ⟨rfl, rfl⟩
    go_wp2_with fail
    refine (HS4.out _).mono ?_
    rintro e w2 ⟨rfl, rfl⟩
    clear HS0 HN1 HS2 HN3 HS4 HTk
    go_upto_if 43 with (fail)
    go_cut [1] (fun v1 wc => ∃ r : Nat × Int, v1 = .int .i64 r.2 ∧ Hid (atA T ja = some r) ∧ wc = wr.alloc (.cells #[.string (bT nm.1), .string (bT mt.1), .int .i64 (r.1 : Nat)] 108))
    case first =>
      by_cases hj0 : ja < 0
      · have hr : atA T ja = some (0, ja) := by unfold atA; rw [if_pos hj0]
        have HR1 := Lib.hid hr
        clear hr
        go_wp2_with fail
        go_meet
        exact ⟨(0, ja), rfl, HR1, rfl⟩
      obtain ⟨n, rfl⟩ : ∃ n : Nat, ja = (n : Int) := ⟨ja.toNat, by omega⟩
      have hn2 : n ≤ T.length := by have := p4.2; omega
      obtain ⟨⟨a, c, rfl, q1, q2, q3, q4⟩, -⟩ := HV.out
      have HRS := Lib.hid (show atA T (n : Int) = (match T[n]? with | none => none | some t => if t.kind = 2 then some (t.num, (n : Int) + 1) else none) from by unfold atA; rw [if_neg hj0, Int.toNat_natCast])
      by_cases h1 : T.length ≤ n
      · have hr : atA T (n : Int) = none := by rw [HRS.out, List.getElem?_eq_none h1]
        have hQ : Q = ([], -1 - (n : Int)) := by rw [HNO.out hr]; unfold shutA ahead; rw [if_pos (show (-1 - (n : Int) : Int) < 0 by omega)]
        clear HRS HNO HNR hr q4
        subst hQ
        go_wp2_with fail
        exact bodyPost_ret (v := .tuple #[.slice none 0 0, .int .i64 (-1 - (n : Int))]) (by simp [results, Tryz.results116, go_sem]) rfl ⟨_, rfl, World.ownsRow_nil _ _ _ _, HB.out.alloc HB.out.size _⟩
      have h1 : n < T.length := by omega
      obtain ⟨b, o, rfl, hb, hc⟩ := q4 (by omega)
      obtain ⟨a0, a1, a2, a3⟩ := tcells_at T n h1
      have HRS2 := Lib.hid (show atA T (n : Int) = if T[n].kind = 2 then some (T[n].num, (n : Int) + 1) else none from by rw [HRS.out, List.getElem?_eq_getElem h1])
      have c0 := (HB.out.cell (p := ⟨b, o + n * 4, none⟩) hb).trans (hc _ _ a0)
      have c2 : wr.cell? ⟨b, o + n * 4 + 2, none⟩ = _ := (congrArg (fun x => wr.cell? ⟨b, x, none⟩) (Nat.add_assoc _ _ _)).trans ((HB.out.cell (p := ⟨b, o + (n * 4 + 2), none⟩) hb).trans (hc _ _ a2))
      have hbr : b < wr.heap.size := by omega
      clear hc a0 a1 a2 a3 q4 HRS HV HT HN HS
      generalize T[n] = t at *
      by_cases hkd : t.kind = 2
      · have hr : atA T (n : Int) = some (t.num, (n : Int) + 1) := by rw [HRS2.out, if_pos hkd]
        have HR1 := Lib.hid hr
        rw [hkd] at c0
        clear hr HRS2 hkd HNO HNR
        go_wp2_with fail
        go_meet
        exact ⟨(t.num, (n : Int) + 1), rfl, HR1, rfl⟩
      · have hr : atA T (n : Int) = none := by rw [HRS2.out, if_neg hkd]
        have hQ : Q = ([], -1 - (n : Int)) := by rw [HNO.out hr]; unfold shutA ahead; rw [if_pos (show (-1 - (n : Int) : Int) < 0 by omega)]
        have hk1 : ((t.kind : Int) == 2) = false := by simp; omega
        clear HRS2 HNO HNR hr
        subst hQ
        go_wp2_with fail
        exact bodyPost_ret (v := .tuple #[.slice none 0 0, .int .i64 (-1 - (n : Int))]) (by simp [results, Tryz.results116, go_sem]) rfl ⟨_, rfl, World.ownsRow_nil _ _ _ _, HB.out.alloc HB.out.size _⟩
    case rest =>
      obtain ⟨r, rfl, HRS, rfl⟩ := hcut
      clear HNO HV
      obtain ⟨p5, a5⟩ := atA_far p4 HRS.out
      have HNX := Lib.hid (HNR.out r HRS.out)
      clear HNR HRS
      have HSl := Lib.hid (fun A => HS.out (wr.alloc A) (HB.out.alloc HB.out.size A) _ p5 [59])
      have pz := stepA_pl (x := [59]) (by simp) p5
      have az := (stepA_adv (T := T) (i := r.2) [59])
      generalize stepA T r.2 [59] = i5 at *
      go_wp2_with fail
      refine (HSl.out _).mono ?_
      rintro e w2 ⟨rfl, rfl⟩
      have HRr := Lib.hid (own_below HR.out ((Below.refl _ wr).alloc (Nat.le_refl _) (.cells #[.string (bT nm.1), .string (bT mt.1), .int .i64 (r.1 : Nat)] 108)))
      have HOG := own_ge HRr.out
      obtain ⟨i0, hi0, hz0, hz1, hz2⟩ := info_parts info_stp
      go_wp2_with (first
        | (at_builtin; refine wpList_append_own _ rfl _ _ 65 rfl w.heap.size 108 i0 (.agg #[.string ⟨#[]⟩, .string ⟨#[]⟩, .int .i64 0]) 3 40 Tryz.underlying65 hi0 hz0 hz1 hz2 rfl (by decide) _ _ _ rfl (HRr.out.alloc _) ⟨wr.heap.size + 1, 0, none⟩ 1 1 [.string (bT nm.1), .string (bT mt.1), .int .i64 (r.1 : Nat)] rfl rfl (World.news_of_block (cs := #[.string (bT nm.1), .string (bT mt.1), .int .i64 (r.1 : Nat)]) (t := 108) (fr := (0, 0)) (heap_alloc_new2 wr _ _)) (by intro u hu; simp only [List.mem_cons, List.not_mem_nil, or_false] at hu; rcases hu with rfl | rfl | rfl <;> rfl) (by unfold maxLen; omega) (by omega) (by simp; omega) ?_; intro v' w7 hown7 hgrow _; obtain ⟨xa, xc, rfl⟩ := own_slice hown7; have HGR := Lib.hid hgrow)
        | fail)
      have HB7 := Lib.hid (srt_round HOG (HB.out.alloc HB.out.size _) HGR.out)
      have hfar : Pl T i5 ∧ (i5 < 0 ∨ k < i5) := by
        refine ⟨pz, ?_⟩
        unfold Adv at *
        omega
      have hfl := hfar.1
      unfold Pl at hfl
      exact ⟨⟨i5, F, S ++ [⟨nm.1, mt.1, (r.1 : Nat)⟩], rfl, hfar.1, fun h => ⟨by simp; omega, by omega⟩, by simp; omega, by rw [List.length_append, pcells_append]; exact hown7, HB7, HNX⟩, by show (if i5 < 0 then 0 else T.length + 1 - i5.toNat) < (if (k : Int) < 0 then 0 else T.length + 1 - (k : Int).toNat); rw [if_neg (show ¬ (k : Int) < 0 by omega)]; split <;> omega⟩
end

section
open Go.RowKit

/-- rows of the types P are kept from w to w' -/
def Keeps (P : TypeId → Prop) (w w' : World) : Prop := ∀ B T k u n xs, P T → w.ownsRow B T k u n xs → w'.ownsRow B T k u n xs
theorem Keeps.trans {P : TypeId → Prop} {w w' w'' : World} (h : Keeps P w w') (h' : Keeps P w' w'') : Keeps P w w'' := fun B T k u n xs hp hr => h' B T k u n xs hp (h B T k u n xs hp hr)
theorem Keeps.below {P : TypeId → Prop} {w w' : World} (hb : Below w.heap.size w w') : Keeps P w w' := fun _ _ _ _ _ _ _ hr => own_below hr hb
theorem Keeps.grown {P : TypeId → Prop} {w w' : World} {B' : Nat} {T' : TypeId} {k' : Nat} {v' : Value} {n' : Nat} {xs' : List Value} (h' : w.ownsRow B' T' k' v' n' xs') (hP : ∀ T, P T → T ≠ T') (hg : w.grownBy w' v'.ownBlock) : Keeps P w w' := fun _ T _ _ _ _ hp hr => own_grown hr h' (hP T hp) hg
theorem Keeps.set {P : TypeId → Prop} {w : World} {b : Nat} {cs : Array Value} {T' : TypeId} (hb : w.heap[b]? = some (.cells cs T' (0, 0))) (hP : ∀ T, P T → T ≠ T') (o : Nat) (u : Value) : Keeps P w (w.setCell ⟨b, o, none⟩ u) := fun _ T _ _ _ _ hp hr => own_set hr hb (hP T hp) o u

def recE (B : Nat) (w : World) (r : Rec) (c : List Value) : Prop := ∃ u xs, c = [.string (bT r.name), .bool r.choice, u] ∧ w.ownsRow B 77 2 u r.fields.length xs ∧ Rows (fldE B) w r.fields xs
def svcE (B : Nat) (w : World) (r : Svc) (c : List Value) : Prop := ∃ u, c = [.string (bT r.name), u] ∧ w.ownsRow B 92 5 u r.methods.length (mcells r.methods)
def sgaE (B : Nat) (w : World) (r : Sga) (c : List Value) : Prop := ∃ u, c = [.string (bT r.name), .string (bT r.arg), u] ∧ w.ownsRow B 108 3 u r.steps.length (pcells r.steps)
theorem fldE_keep {P : TypeId → Prop} {B : Nat} {w w' : World} (h : Keeps P w w') (h1 : P 79) (f : Fld) (c : List Value) : fldE B w f c → fldE B w' f c := fun ⟨u, e, r⟩ => ⟨u, e, h _ _ _ _ _ _ h1 r⟩
theorem fldE_base {B B' : Nat} {w : World} (hB : B' ≤ B) (f : Fld) (c : List Value) : fldE B w f c → fldE B' w f c := fun ⟨u, e, r⟩ => ⟨u, e, own_base r hB⟩
theorem recE_keep {P : TypeId → Prop} {B : Nat} {w w' : World} (h : Keeps P w w') (h1 : P 79) (h2 : P 77) (f : Rec) (c : List Value) : recE B w f c → recE B w' f c := fun ⟨u, xs, e, r, q⟩ => ⟨u, xs, e, h _ _ _ _ _ _ h2 r, q.mono (fldE_keep h h1)⟩
theorem svcE_keep {P : TypeId → Prop} {B : Nat} {w w' : World} (h : Keeps P w w') (h1 : P 92) (f : Svc) (c : List Value) : svcE B w f c → svcE B w' f c := fun ⟨u, e, r⟩ => ⟨u, e, h _ _ _ _ _ _ h1 r⟩
theorem sgaE_keep {P : TypeId → Prop} {B : Nat} {w w' : World} (h : Keeps P w w') (h1 : P 108) (f : Sga) (c : List Value) : sgaE B w f c → sgaE B w' f c := fun ⟨u, e, r⟩ => ⟨u, e, h _ _ _ _ _ _ h1 r⟩

/-- the result's block, the schema's, and all its rows -/
structure SchW (w0 w : World) (s : Sch) (ur us ug : Value) (xr xs xg : List Value) : Prop where
  res : w.heap[w0.heap.size]? = some (.cells #[.string ⟨#[]⟩, .slice none 0 0, .slice none 0 0, .slice none 0 0] 26 (0, 0))
  var : w.heap[w0.heap.size + 1]? = some (.cells #[.string (bT s.name), ur, us, ug] 26 (0, 0))
  bel : Below w0.heap.size w0 w
  rr : w.ownsRow (w0.heap.size + 2) 74 3 ur s.records.length xr
  rE : Rows (recE (w0.heap.size + 2)) w s.records xr
  sr : w.ownsRow (w0.heap.size + 2) 112 2 us s.services.length xs
  sE : Rows (svcE (w0.heap.size + 2)) w s.services xs
  gr : w.ownsRow (w0.heap.size + 2) 67 3 ug s.sagas.length xg
  gE : Rows (sgaE (w0.heap.size + 2)) w s.sagas xg
section
variable {w0 w w' : World} {s : Sch} {ur us ug : Value} {xr xs xg : List Value}
theorem SchW.lt (h : SchW w0 w s ur us ug xr xs xg) : w0.heap.size + 1 < w.heap.size := (Array.getElem?_eq_some_iff.1 h.var).1
theorem SchW.below (h : SchW w0 w s ur us ug xr xs xg) (hb : Below w.heap.size w w') : SchW w0 w' s ur us ug xr xs xg := by
  have l := h.lt
  have K : Keeps (fun _ => True) w w' := Keeps.below hb
  exact ⟨(hb.block _ (by omega)).trans h.res, (hb.block _ (by omega)).trans h.var, h.bel.trans (hb.mono (by omega)), K _ _ _ _ _ _ trivial h.rr, h.rE.mono (recE_keep K trivial trivial), K _ _ _ _ _ _ trivial h.sr, h.sE.mono (svcE_keep K trivial), K _ _ _ _ _ _ trivial h.gr, h.gE.mono (sgaE_keep K trivial)⟩
/-- what a growing row leaves -/
theorem grown_keeps {T' : TypeId} {k' n' : Nat} {v' : Value} {ys : List Value} (h : SchW w0 w s ur us ug xr xs xg) (hr : w.ownsRow (w0.heap.size + 2) T' k' v' n' ys) (hg : w.grownBy w' v'.ownBlock) (o : Nat) (u : Value) :
    Keeps (fun T => T ≠ T' ∧ T ≠ 26) w (w'.setCell ⟨w0.heap.size + 1, o, none⟩ u) ∧ (w'.setCell ⟨w0.heap.size + 1, o, none⟩ u).heap[w0.heap.size]? = some (.cells #[.string ⟨#[]⟩, .slice none 0 0, .slice none 0 0, .slice none 0 0] 26 (0, 0)) ∧ (w'.setCell ⟨w0.heap.size + 1, o, none⟩ u).heap[w0.heap.size + 1]? = some (.cells ((#[.string (bT s.name), ur, us, ug] : Array Value).setIfInBounds o u) 26 (0, 0)) ∧ Below w0.heap.size w0 (w'.setCell ⟨w0.heap.size + 1, o, none⟩ u) ∧ w'.heap[w0.heap.size + 1]? = some (.cells #[.string (bT s.name), ur, us, ug] 26 (0, 0)) := by
  have l := h.lt
  have hge := own_ge hr
  have e0 : w'.heap[w0.heap.size]? = w.heap[w0.heap.size]? := hg.block _ (by omega) (fun e => by have := (hge _ e.symm).1; omega)
  have e1 : w'.heap[w0.heap.size + 1]? = w.heap[w0.heap.size + 1]? := hg.block _ (by omega) (fun e => by have := (hge _ e.symm).1; omega)
  have e1' := e1.trans h.var
  have hb : Below w0.heap.size w0 w' := h.bel.grown hg (by omega) (fun k e => by have := (hge _ e).1; omega)
  refine ⟨(Keeps.grown hr (fun T hT => hT.1) hg).trans (Keeps.set e1' (fun T hT => hT.2) o u), ?_, ?_, hb.setCell (p := ⟨w0.heap.size + 1, o, none⟩) (by show w0.heap.size ≤ w0.heap.size + 1; omega) u, e1'⟩
  · rw [show (w'.setCell ⟨w0.heap.size + 1, o, none⟩ u).heap[w0.heap.size]? = w'.heap[w0.heap.size]? from Below.heap_setCell _ _ _ _ (by show w0.heap.size ≠ w0.heap.size + 1; omega)]
    exact e0.trans h.res
  · simp [World.setCell, Array.getElem?_modify, e1']
theorem SchW.addRec {ur' : Value} {r : Rec} {c : List Value} (h : SchW w0 w s ur us ug xr xs xg) (hg : w.grownBy w' ur.ownBlock) (hrow : w'.ownsRow (w0.heap.size + 2) 74 3 ur' (s.records.length + 1) (xr ++ c)) (hc : recE (w0.heap.size + 2) w r c) :
    SchW w0 (w'.setCell ⟨w0.heap.size + 1, 1, none⟩ ur') { s with records := s.records ++ [r] } ur' us ug (xr ++ c) xs xg := by
  obtain ⟨K, e0, e1, hb, e2⟩ := grown_keeps h h.rr hg 1 ur'
  exact ⟨e0, e1, hb, by rw [List.length_append]; exact own_set hrow e2 (by decide) _ _, Rows.add (recE_keep K ⟨by decide, by decide⟩ ⟨by decide, by decide⟩ _ _ hc) (h.rE.mono (recE_keep K ⟨by decide, by decide⟩ ⟨by decide, by decide⟩)), K _ _ _ _ _ _ ⟨by decide, by decide⟩ h.sr, h.sE.mono (svcE_keep K ⟨by decide, by decide⟩), K _ _ _ _ _ _ ⟨by decide, by decide⟩ h.gr, h.gE.mono (sgaE_keep K ⟨by decide, by decide⟩)⟩
theorem SchW.addSvc {us' : Value} {r : Svc} {c : List Value} (h : SchW w0 w s ur us ug xr xs xg) (hg : w.grownBy w' us.ownBlock) (hrow : w'.ownsRow (w0.heap.size + 2) 112 2 us' (s.services.length + 1) (xs ++ c)) (hc : svcE (w0.heap.size + 2) w r c) :
    SchW w0 (w'.setCell ⟨w0.heap.size + 1, 2, none⟩ us') { s with services := s.services ++ [r] } ur us' ug xr (xs ++ c) xg := by
  obtain ⟨K, e0, e1, hb, e2⟩ := grown_keeps h h.sr hg 2 us'
  exact ⟨e0, e1, hb, K _ _ _ _ _ _ ⟨by decide, by decide⟩ h.rr, h.rE.mono (recE_keep K ⟨by decide, by decide⟩ ⟨by decide, by decide⟩), by rw [List.length_append]; exact own_set hrow e2 (by decide) _ _, Rows.add (svcE_keep K ⟨by decide, by decide⟩ _ _ hc) (h.sE.mono (svcE_keep K ⟨by decide, by decide⟩)), K _ _ _ _ _ _ ⟨by decide, by decide⟩ h.gr, h.gE.mono (sgaE_keep K ⟨by decide, by decide⟩)⟩
theorem SchW.addSga {ug' : Value} {r : Sga} {c : List Value} (h : SchW w0 w s ur us ug xr xs xg) (hg : w.grownBy w' ug.ownBlock) (hrow : w'.ownsRow (w0.heap.size + 2) 67 3 ug' (s.sagas.length + 1) (xg ++ c)) (hc : sgaE (w0.heap.size + 2) w r c) :
    SchW w0 (w'.setCell ⟨w0.heap.size + 1, 3, none⟩ ug') { s with sagas := s.sagas ++ [r] } ur us ug' xr xs (xg ++ c) := by
  obtain ⟨K, e0, e1, hb, e2⟩ := grown_keeps h h.gr hg 3 ug'
  exact ⟨e0, e1, hb, K _ _ _ _ _ _ ⟨by decide, by decide⟩ h.rr, h.rE.mono (recE_keep K ⟨by decide, by decide⟩ ⟨by decide, by decide⟩), K _ _ _ _ _ _ ⟨by decide, by decide⟩ h.sr, h.sE.mono (svcE_keep K ⟨by decide, by decide⟩), by rw [List.length_append]; exact own_set hrow e2 (by decide) _ _, Rows.add (sgaE_keep K ⟨by decide, by decide⟩ _ _ hc) (h.gE.mono (sgaE_keep K ⟨by decide, by decide⟩))⟩
end

/-- what is only read -/
def fldR (w : World) (f : Fld) (c : List Value) : Prop := ∃ u, c = [.string (bT f.name), u] ∧ Slc w 2 u f.type.length (scells f.type)
def recR (w : World) (r : Rec) (c : List Value) : Prop := ∃ u xs, c = [.string (bT r.name), .bool r.choice, u] ∧ Slc w 2 u r.fields.length xs ∧ Rows fldR w r.fields xs
def svcR (w : World) (r : Svc) (c : List Value) : Prop := ∃ u, c = [.string (bT r.name), u] ∧ Slc w 5 u r.methods.length (mcells r.methods)
def sgaR (w : World) (r : Sga) (c : List Value) : Prop := ∃ u, c = [.string (bT r.name), .string (bT r.arg), u] ∧ Slc w 3 u r.steps.length (pcells r.steps)
/-- a schema that is only read -/
structure SchR (w : World) (s : Sch) (ur us ug : Value) : Prop where
  rc : ∃ xr, Slc w 3 ur s.records.length xr ∧ Rows recR w s.records xr
  sv : ∃ xs, Slc w 2 us s.services.length xs ∧ Rows svcR w s.services xs
  sg : ∃ xg, Slc w 3 ug s.sagas.length xg ∧ Rows sgaR w s.sagas xg
theorem fldR_below {w w' : World} (hb : Below w.heap.size w w') (f : Fld) (c : List Value) : fldR w f c → fldR w' f c := fun ⟨u, e, r⟩ => ⟨u, e, r.below hb⟩
theorem recR_below {w w' : World} (hb : Below w.heap.size w w') (f : Rec) (c : List Value) : recR w f c → recR w' f c := fun ⟨u, xs, e, r, q⟩ => ⟨u, xs, e, r.below hb, q.mono (fldR_below hb)⟩
theorem svcR_below {w w' : World} (hb : Below w.heap.size w w') (f : Svc) (c : List Value) : svcR w f c → svcR w' f c := fun ⟨u, e, r⟩ => ⟨u, e, r.below hb⟩
theorem sgaR_below {w w' : World} (hb : Below w.heap.size w w') (f : Sga) (c : List Value) : sgaR w f c → sgaR w' f c := fun ⟨u, e, r⟩ => ⟨u, e, r.below hb⟩
theorem SchR.below {w w' : World} {s : Sch} {ur us ug : Value} (h : SchR w s ur us ug) (hb : Below w.heap.size w w') : SchR w' s ur us ug :=
  ⟨let ⟨x, a, b⟩ := h.rc; ⟨x, a.below hb, b.mono (recR_below hb)⟩, let ⟨x, a, b⟩ := h.sv; ⟨x, a.below hb, b.mono (svcR_below hb)⟩, let ⟨x, a, b⟩ := h.sg; ⟨x, a.below hb, b.mono (sgaR_below hb)⟩⟩
theorem Rows.map {α : Type} {E E' : World → α → List Value → Prop} {w w' : World} (h : ∀ a c, E w a c → E' w' a c) : ∀ {l : List α} {xs : List Value}, Rows E w l xs → Rows E' w' l xs
  | [], _, e => e
  | _ :: _, _, ⟨c, ys, e, h1, h2⟩ => ⟨c, ys, e, h _ _ h1, Rows.map h h2⟩
/-- a schema whose rows are the callee's own, from block B on -/
structure SchO (B : Nat) (w : World) (s : Sch) (ur us ug : Value) : Prop where
  rc : ∃ xr, w.ownsRow B 74 3 ur s.records.length xr ∧ Rows (recE B) w s.records xr
  sv : ∃ xs, w.ownsRow B 112 2 us s.services.length xs ∧ Rows (svcE B) w s.services xs
  sg : ∃ xg, w.ownsRow B 67 3 ug s.sagas.length xg ∧ Rows (sgaE B) w s.sagas xg
def KeepsB (B : Nat) (w w' : World) : Prop := ∀ T k u n xs, w.ownsRow B T k u n xs → w'.ownsRow B T k u n xs
theorem KeepsB.below {B : Nat} {w w' : World} (hb : Below w.heap.size w w') : KeepsB B w w' := fun _ _ _ _ _ hr => own_below hr hb
theorem KeepsB.set {B b : Nat} (w : World) (hb : b < B) (o : Nat) (u : Value) : KeepsB B w (w.setCell ⟨b, o, none⟩ u) := fun T k v n xs h => by
  refine h.kept (row := some b) ⟨rfl, rfl, rfl, by simp [World.setCell], fun j _ hj => Below.heap_setCell _ _ _ _ (fun e => hj (by rw [e]))⟩ ?_
  have := own_ge h
  cases hv : v.ownBlock with
  | none => simp
  | some x => have := (this x hv).1; simp; omega
theorem KeepsB.trans {B : Nat} {w w' w'' : World} (h : KeepsB B w w') (h' : KeepsB B w' w'') : KeepsB B w w'' := fun _ _ _ _ _ hr => h' _ _ _ _ _ (h _ _ _ _ _ hr)
theorem SchO.keep {B : Nat} {w w' : World} {s : Sch} {ur us ug : Value} (h : SchO B w s ur us ug) (K : KeepsB B w w') : SchO B w' s ur us ug := by
  obtain ⟨⟨xr, a1, a2⟩, ⟨xs, b1, b2⟩, ⟨xg, c1, c2⟩⟩ := h
  have kf : ∀ f c, fldE B w f c → fldE B w' f c := fun _ _ ⟨u, e, r⟩ => ⟨u, e, K _ _ _ _ _ r⟩
  exact ⟨⟨xr, K _ _ _ _ _ a1, a2.mono (fun _ _ ⟨u, ys, e, r, q⟩ => ⟨u, ys, e, K _ _ _ _ _ r, q.mono kf⟩)⟩, ⟨xs, K _ _ _ _ _ b1, b2.mono (fun _ _ ⟨u, e, r⟩ => ⟨u, e, K _ _ _ _ _ r⟩)⟩, ⟨xg, K _ _ _ _ _ c1, c2.mono (fun _ _ ⟨u, e, r⟩ => ⟨u, e, K _ _ _ _ _ r⟩)⟩⟩
theorem SchO.base {B B' : Nat} {w : World} {s : Sch} {ur us ug : Value} (h : SchO B w s ur us ug) (hB : B' ≤ B) : SchO B' w s ur us ug := by
  obtain ⟨⟨xr, a1, a2⟩, ⟨xs, b1, b2⟩, ⟨xg, c1, c2⟩⟩ := h
  exact ⟨⟨xr, own_base a1 hB, a2.map (fun _ _ ⟨u, ys, e, r, q⟩ => ⟨u, ys, e, own_base r hB, q.map (fldE_base hB)⟩)⟩, ⟨xs, own_base b1 hB, b2.map (fun _ _ ⟨u, e, r⟩ => ⟨u, e, own_base r hB⟩)⟩, ⟨xg, own_base c1 hB, c2.map (fun _ _ ⟨u, e, r⟩ => ⟨u, e, own_base r hB⟩)⟩⟩
theorem SchO.read {B : Nat} {w : World} {s : Sch} {ur us ug : Value} (h : SchO B w s ur us ug) : SchR w s ur us ug := by
  obtain ⟨⟨xr, a1, a2⟩, ⟨xs, b1, b2⟩, ⟨xg, c1, c2⟩⟩ := h
  exact ⟨⟨xr, Slc.own a1, a2.map (fun _ _ ⟨u, ys, e, r, q⟩ => ⟨u, ys, e, Slc.own r, q.map (fun _ _ ⟨u, e, r⟩ => ⟨u, e, Slc.own r⟩)⟩)⟩, ⟨xs, Slc.own b1, b2.map (fun _ _ ⟨u, e, r⟩ => ⟨u, e, Slc.own r⟩)⟩, ⟨xg, Slc.own c1, c2.map (fun _ _ ⟨u, e, r⟩ => ⟨u, e, Slc.own r⟩)⟩⟩
theorem SchW.told {w0 w w' : World} {s : Sch} {ur us ug : Value} {xr xs xg : List Value} (h : SchW w0 w s ur us ug xr xs xg) (K : Keeps (fun T => T ≠ 26) w w') : SchO w0.heap.size w' s ur us ug :=
  SchO.base (B := w0.heap.size + 2) ⟨⟨xr, K _ _ _ _ _ _ (by decide) h.rr, h.rE.mono (recE_keep K (by decide) (by decide))⟩, ⟨xs, K _ _ _ _ _ _ (by decide) h.sr, h.sE.mono (svcE_keep K (by decide))⟩, ⟨xg, K _ _ _ _ _ _ (by decide) h.gr, h.gE.mono (sgaE_keep K (by decide))⟩⟩ (by omega)
/-- the result laid into its block -/
theorem SchW.laid {w0 w : World} {s : Sch} {ur us ug : Value} {xr xs xg : List Value} (h : SchW w0 w s ur us ug xr xs xg) (a b c d : Value) :
    SchO w0.heap.size ((((w.setCell ⟨w0.heap.size, 0, none⟩ a).setCell ⟨w0.heap.size, 1, none⟩ b).setCell ⟨w0.heap.size, 2, none⟩ c).setCell ⟨w0.heap.size, 3, none⟩ d) s ur us ug ∧ Below w0.heap.size w0 ((((w.setCell ⟨w0.heap.size, 0, none⟩ a).setCell ⟨w0.heap.size, 1, none⟩ b).setCell ⟨w0.heap.size, 2, none⟩ c).setCell ⟨w0.heap.size, 3, none⟩ d) := by
  have e0 := h.res
  have step : ∀ {w1 : World} {cs : Array Value} (o : Nat) (u : Value), w1.heap[w0.heap.size]? = some (.cells cs 26 (0, 0)) → (w1.setCell ⟨w0.heap.size, o, none⟩ u).heap[w0.heap.size]? = some (.cells (cs.setIfInBounds o u) 26 (0, 0)) := fun o u h => by simp [World.setCell, Array.getElem?_modify, h]
  have e1 := step 0 a e0
  have e2 := step 1 b e1
  have e3 := step 2 c e2
  refine ⟨h.told ((((Keeps.set e0 (fun _ h => h) 0 a).trans (Keeps.set e1 (fun _ h => h) 1 b)).trans (Keeps.set e2 (fun _ h => h) 2 c)).trans (Keeps.set e3 (fun _ h => h) 3 d)), ?_⟩
  exact (((h.bel.setCell (p := ⟨w0.heap.size, 0, none⟩) (Nat.le_refl _) a).setCell (p := ⟨w0.heap.size, 1, none⟩) (Nat.le_refl _) b).setCell (p := ⟨w0.heap.size, 2, none⟩) (Nat.le_refl _) c).setCell (p := ⟨w0.heap.size, 3, none⟩) (Nat.le_refl _) d
theorem laid_cells {w : World} {b : Nat} {x0 x1 x2 x3 : Value} {T : TypeId} (h : w.heap[b]? = some (.cells #[x0, x1, x2, x3] T (0, 0))) :
    (∀ X, (w.setCell ⟨b, 0, none⟩ X).cell? ⟨b, 1, none⟩ = some x1) ∧ (∀ X Y, ((w.setCell ⟨b, 0, none⟩ X).setCell ⟨b, 1, none⟩ Y).cell? ⟨b, 2, none⟩ = some x2) ∧ (∀ X Y Z, (((w.setCell ⟨b, 0, none⟩ X).setCell ⟨b, 1, none⟩ Y).setCell ⟨b, 2, none⟩ Z).cell? ⟨b, 3, none⟩ = some x3) ∧
    (∀ X o, (w.setCell ⟨b, 0, none⟩ X).frozen? ⟨b, o, none⟩ = false) ∧ (∀ X Y o, ((w.setCell ⟨b, 0, none⟩ X).setCell ⟨b, 1, none⟩ Y).frozen? ⟨b, o, none⟩ = false) ∧ (∀ X Y Z o, (((w.setCell ⟨b, 0, none⟩ X).setCell ⟨b, 1, none⟩ Y).setCell ⟨b, 2, none⟩ Z).frozen? ⟨b, o, none⟩ = false) := by
  simp [World.cell?, World.frozen?, World.setCell, Array.getElem?_modify, h]
theorem laid_read {w : World} {b : Nat} {x0 x1 x2 x3 : Value} {T : TypeId} (h : w.heap[b]? = some (.cells #[x0, x1, x2, x3] T (0, 0))) (X Y Z U : Value) :
    ((((w.setCell ⟨b, 0, none⟩ X).setCell ⟨b, 1, none⟩ Y).setCell ⟨b, 2, none⟩ Z).setCell ⟨b, 3, none⟩ U).cell? ⟨b, 0, none⟩ = some X ∧ ((((w.setCell ⟨b, 0, none⟩ X).setCell ⟨b, 1, none⟩ Y).setCell ⟨b, 2, none⟩ Z).setCell ⟨b, 3, none⟩ U).cell? ⟨b, 1, none⟩ = some Y ∧ ((((w.setCell ⟨b, 0, none⟩ X).setCell ⟨b, 1, none⟩ Y).setCell ⟨b, 2, none⟩ Z).setCell ⟨b, 3, none⟩ U).cell? ⟨b, 2, none⟩ = some Z ∧ ((((w.setCell ⟨b, 0, none⟩ X).setCell ⟨b, 1, none⟩ Y).setCell ⟨b, 2, none⟩ Z).setCell ⟨b, 3, none⟩ U).cell? ⟨b, 3, none⟩ = some U := by
  simp [World.cell?, World.setCell, Array.getElem?_modify, h]
theorem grown_var {w0 w w' : World} {s : Sch} {ur us ug : Value} {xr xs xg : List Value} {T' : TypeId} {k' n' : Nat} {v' : Value} {ys : List Value} (h : SchW w0 w s ur us ug xr xs xg) (hr : w.ownsRow (w0.heap.size + 2) T' k' v' n' ys) (hg : w.grownBy w' v'.ownBlock) :
    w'.cell? ⟨w0.heap.size + 1, 1, none⟩ = some ur ∧ w'.cell? ⟨w0.heap.size + 1, 2, none⟩ = some us ∧ w'.cell? ⟨w0.heap.size + 1, 3, none⟩ = some ug ∧ ∀ o, w'.frozen? ⟨w0.heap.size + 1, o, none⟩ = false := by
  obtain ⟨_, _, _, _, e⟩ := grown_keeps h hr hg 0 undef
  simp [World.cell?, World.frozen?, e]
theorem SchR.nil (w : World) (x : Tx) : SchR w ⟨x, [], [], []⟩ (.slice none 0 0) (.slice none 0 0) (.slice none 0 0) := ⟨⟨[], Slc.nil _ _, rfl⟩, ⟨[], Slc.nil _ _, rfl⟩, ⟨[], Slc.nil _ _, rfl⟩⟩
theorem SchW.mk' (w0 : World) (x : Tx) : SchW w0 ((w0.alloc (.cells #[.string ⟨#[]⟩, .slice none 0 0, .slice none 0 0, .slice none 0 0] 26)).alloc (.cells #[.string (bT x), .slice none 0 0, .slice none 0 0, .slice none 0 0] 26)) ⟨x, [], [], []⟩ (.slice none 0 0) (.slice none 0 0) (.slice none 0 0) [] [] [] :=
  ⟨by rw [Below.heap_alloc _ _ _ (by simp)]; exact heap_alloc_new _ _, heap_alloc_new2 _ _ _, (((Below.refl _ w0).alloc (Nat.le_refl _) _).alloc (by simp) _), World.ownsRow_nil _ _ _ _, rfl, World.ownsRow_nil _ _ _ _, rfl, World.ownsRow_nil _ _ _ _, rfl⟩
end
end Go.Proofs.YtgoejmheihgpfaaGreatDoor
