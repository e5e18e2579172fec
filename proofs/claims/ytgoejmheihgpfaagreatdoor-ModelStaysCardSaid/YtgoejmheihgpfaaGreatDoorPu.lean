/- Lemmas for ModelStays' proof. -/
import Derived.Test.YtgoejmheihgpfaaGreatDoorPr
namespace Go.Proofs.YtgoejmheihgpfaaGreatDoor
set_option maxRecDepth 100000
set_option maxHeartbeats 16000000
open Go.RowKit
theorem parts_eq (l : List Tok) (k : Nat) (i : Int) (s : Sch) : partsA l (k + 1) i s = (
  if i < 0 ∨ (l.length : Int) ≤ i then (s, i)
  else if textA l i = wRecord ∨ textA l i = wChoice then
   let n := nameA l (i + 1)
   let f := shutA (fieldsA l (l.length + 1) (stepA l n.2 [123]))
   partsA l k f.2 { s with records := s.records ++ [⟨n.1, textA l i = wChoice, f.1⟩] }
  else if textA l i = wService then
   let n := nameA l (i + 1)
   let f := shutA (methodsA l (l.length + 1) (stepA l n.2 [123]))
   partsA l k f.2 { s with services := s.services ++ [⟨n.1, f.1⟩] }
  else if textA l i = wSaga then
   let n := nameA l (i + 1)
   let b := bracketA l n.2
   let f := shutA (stepsA l (l.length + 1) (stepA l b.2 [123]))
   partsA l k f.2 { s with sagas := s.sagas ++ [⟨n.1, b.1, f.1⟩] }
  else (s, -1 - i)) := by kernel_rfl
theorem parts_out {T : List Tok} {F : Nat} {i : Int} {s : Sch} (h : i < 0 ∨ (T.length : Int) ≤ i) : partsA T F i s = (s, i) := by
 cases F with
 | zero => rfl
 | succ F => rw [parts_eq, if_pos h]
theorem shut_pl {T : List Tok} {α : Type} {q : List α × Int} (h : q.2 < 0 ∨ textA T q.2 ≠ []) (hp : Pl T q.2) : Pl T (shutA q).2 := by
 unfold shutA
 split
 ·exact hp
 ·rename_i h0
  exact succ_pl h0 (h.resolve_left h0)
theorem shut_adv {_T : List Tok} {α : Type} {q : List α × Int} {i : Int} (h : Adv i q.2 ∨ q.2 = i) : Adv i (shutA q).2 := by
 unfold shutA
 split
 ·exact .inl (by assumption)
 ·unfold Adv at *
  show q.2 + 1 < 0 ∨ 0 ≤ i ∧ i < q.2 + 1
  omega
theorem fields_far : ∀ (T : List Tok) (F : Nat) (i : Int), Pl T i → (T.length : Int) < F + i ∨ i < 0 → Pl T (fieldsA T F i).2 ∧ (Adv i (fieldsA T F i).2 ∨ (fieldsA T F i).2 = i) ∧ ((fieldsA T F i).2 < 0 ∨ textA T (fieldsA T F i).2 ≠ [])
 | T, 0, i, h, hF => by
  by_cases h0 : i < 0
  ·rw [fields_neg h0]; exact ⟨h, .inr rfl, .inl h0⟩
  ·have := h.2; omega
 | T, F + 1, i, h, hF => by
  by_cases h0 : i < 0
  ·rw [fields_neg h0]; exact ⟨h, .inr rfl, .inl h0⟩
  by_cases h1 : textA T i = [125]
  ·rw [fields_shut h1]; exact ⟨h, .inr rfl, .inr (by rw [h1]; simp)⟩
  ·have e : (fieldsA T (F + 1) i).2 = (fieldsA T F (fieldA T i).2).2 := congrArg (fun q => q.2) (fields_next (S := []) (F := F) h0 h1)
   rw [e]
   obtain ⟨p, a⟩ := fieldA_far h
   have ih := fields_far T F (fieldA T i).2 p (by unfold Adv at a; omega)
   refine ⟨ih.1, .inl ?_, ih.2.2⟩
   rcases ih.2.1 with b | b
   ·exact a.trans b
   ·rw [b]; exact a
theorem methods_far : ∀ (T : List Tok) (F : Nat) (i : Int), Pl T i → (T.length : Int) < F + i ∨ i < 0 → Pl T (methodsA T F i).2 ∧ (Adv i (methodsA T F i).2 ∨ (methodsA T F i).2 = i) ∧ ((methodsA T F i).2 < 0 ∨ textA T (methodsA T F i).2 ≠ [])
 | T, 0, i, h, hF => by
  by_cases h0 : i < 0
  ·rw [methods_neg h0]; exact ⟨h, .inr rfl, .inl h0⟩
  ·have := h.2; omega
 | T, F + 1, i, h, hF => by
  by_cases h0 : i < 0
  ·rw [methods_neg h0]; exact ⟨h, .inr rfl, .inl h0⟩
  by_cases h1 : textA T i = [125]
  ·rw [methods_shut h1]; exact ⟨h, .inr rfl, .inr (by rw [h1]; simp)⟩
  have hlt := h.2
  by_cases h2 : okEff (textA T i) = true
  ·have hne : textA T i ≠ [] := by rintro e; rw [e] at h2; exact absurd h2 (by decide)
   have p1 := succ_pl h0 hne
   have p4 : Pl T (arrowA T i) := stepA_pl (x := [45, 62]) (by simp) (bracketA_pl (nameA_pl p1))
   have a4 : Adv i (arrowA T i) := (((Adv.trans (.inr ⟨by omega, by omega⟩) (nameA_adv (T := T) (i := i + 1))).trans bracketA_adv).trans (stepA_adv [45, 62]))
   have hneg : Pl T (-1 - arrowA T i) ∧ (-1 - arrowA T i < 0 ∨ arrowA T i < 0) := by unfold Pl at p4 ⊢; unfold Adv at a4; omega
   cases hr : resultA T (arrowA T i) with
   | none =>
    rw [methods_none h0 h1 h2 hr]
    have hj : ¬ arrowA T i < 0 := by intro hj; unfold resultA at hr; rw [if_pos hj] at hr; cases hr
    exact ⟨hneg.1, .inl (.inl (by show -1 - arrowA T i < 0; omega)), .inl (by show -1 - arrowA T i < 0; omega)⟩
   | some r =>
    have e : (methodsA T (F + 1) i).2 = (methodsA T F (stepA T (undoA T r.2).2 [59])).2 := congrArg (fun q => q.2) (methods_next (S := []) (F := F) h0 h1 h2 hr)
    rw [e]
    obtain ⟨p5, a5, _⟩ := resultA_far p4 hr
    obtain ⟨pu, au⟩ := undoA_far p5
    have pz := stepA_pl (x := [59]) (by simp) pu
    have az := stepA_adv (T := T) (i := (undoA T r.2).2) [59]
    have az' : Adv i (stepA T (undoA T r.2).2 [59]) := by unfold Adv at *; omega
    have ih := methods_far T F _ pz (by unfold Adv at az'; omega)
    refine ⟨ih.1, .inl ?_, ih.2.2⟩
    rcases ih.2.1 with b | b
    ·exact az'.trans b
    ·rw [b]; exact az'
  ·rw [methods_bad h0 h1 (by simpa using h2)]
   unfold Pl at h ⊢
   exact ⟨⟨by show _ ≤ -1 - i; omega, by show -1 - i ≤ _; omega⟩, .inl (.inl (by show -1 - i < 0; omega)), .inl (by show -1 - i < 0; omega)⟩
theorem steps_far : ∀ (T : List Tok) (F : Nat) (i : Int), Pl T i → (T.length : Int) < F + i ∨ i < 0 → Pl T (stepsA T F i).2 ∧ (Adv i (stepsA T F i).2 ∨ (stepsA T F i).2 = i) ∧ ((stepsA T F i).2 < 0 ∨ textA T (stepsA T F i).2 ≠ [])
 | T, 0, i, h, hF => by
  by_cases h0 : i < 0
  ·rw [steps_neg h0]; exact ⟨h, .inr rfl, .inl h0⟩
  ·have := h.2; omega
 | T, F + 1, i, h, hF => by
  by_cases h0 : i < 0
  ·rw [steps_neg h0]; exact ⟨h, .inr rfl, .inl h0⟩
  by_cases h1 : textA T i = [125]
  ·rw [steps_shut h1]; exact ⟨h, .inr rfl, .inr (by rw [h1]; simp)⟩
  have p4 : Pl T (doA T i).2.2 := stepA_pl (x := wAt) (by decide) (nameA_pl (stepA_pl (x := [46]) (by simp) (nameA_pl (stepA_pl (x := wDo) (by decide) h))))
  have a4 : Adv i (doA T i).2.2 := ((((stepA_adv (T := T) (i := i) wDo).trans (nameA_adv (T := T))).trans (stepA_adv (T := T) [46])).trans (nameA_adv (T := T))).trans (stepA_adv (T := T) wAt)
  cases hr : atA T (doA T i).2.2 with
  | none =>
   rw [steps_none h0 h1 hr]
   have hj : ¬ (doA T i).2.2 < 0 := by intro hj; unfold atA at hr; rw [if_pos hj] at hr; cases hr
   unfold Pl at p4 ⊢
   exact ⟨⟨by show _ ≤ -1 - (doA T i).2.2; omega, by show -1 - (doA T i).2.2 ≤ _; omega⟩, .inl (.inl (by show -1 - (doA T i).2.2 < 0; omega)), .inl (by show -1 - (doA T i).2.2 < 0; omega)⟩
  | some r =>
   have e : (stepsA T (F + 1) i).2 = (stepsA T F (stepA T r.2 [59])).2 := congrArg (fun q => q.2) (steps_next (S := []) (F := F) h0 h1 hr)
   rw [e]
   obtain ⟨p5, a5⟩ := atA_far p4 hr
   have pz := stepA_pl (x := [59]) (by simp) p5
   have az := stepA_adv (T := T) (i := r.2) [59]
   have az' : Adv i (stepA T r.2 [59]) := by unfold Adv at *; omega
   have ih := steps_far T F _ pz (by unfold Adv at az'; omega)
   refine ⟨ih.1, .inl ?_, ih.2.2⟩
   rcases ih.2.1 with b | b
   ·exact az'.trans b
   ·rw [b]; exact az'
theorem part_pl {T : List Tok} {i : Int} (_h : Pl T i) {α : Type} {q : List α × Int} (hq : Pl T q.2 ∧ (Adv (stepA T i [123]) q.2 ∨ q.2 = stepA T i [123]) ∧ (q.2 < 0 ∨ textA T q.2 ≠ [])) : Pl T (shutA q).2 ∧ Adv i (shutA q).2 := by
 refine ⟨shut_pl hq.2.2 hq.1, ?_⟩
 have a := stepA_adv (T := T) (i := i) [123]
 refine shut_adv (_T := T) ?_
 rcases hq.2.1 with b | b
 ·exact .inl (a.trans b)
 ·rw [b]; exact .inl a
theorem info_rec : (Tryz.prog.info? 74).map (fun i => (i.zero, i.size, i.bytes)) = some (some (.agg #[.string ⟨#[]⟩, .bool false, .slice none 0 0]), 3, 48) := by kernel_rfl
theorem info_svc : (Tryz.prog.info? 112).map (fun i => (i.zero, i.size, i.bytes)) = some (some (.agg #[.string ⟨#[]⟩, .slice none 0 0]), 2, 40) := by kernel_rfl
theorem info_sga : (Tryz.prog.info? 67).map (fun i => (i.zero, i.size, i.bytes)) = some (some (.agg #[.string ⟨#[]⟩, .string ⟨#[]⟩, .slice none 0 0]), 3, 56) := by kernel_rfl
theorem schema_any (w : World) (v : Value) (T : List Tok) (h : Slc w 4 v T.length (tcells T)) (hL : T.length ≤ 65536) (hB : ∀ t ∈ T, t.text.length ≤ 65536) : Calls Tryz.prog 83 #[v] w fun e w' => ∃ ur us ug, e = .returned (.tuple #[.agg #[.string (bT (schemaA T).1.name), ur, us, ug], .int .i64 (schemaA T).2]) ∧ SchO w.heap.size w' (schemaA T).1 ur us ug ∧ Below w.heap.size w w' := by
 have HT := zD (fun w' (X : Below w.heap.size w w') j (hj : Pl T j) => text_any w' v T (h.below X) hL j (by have := hj.1; omega) (by have := hj.2; omega))
 have HN := zD (fun w' (X : Below w.heap.size w w') j (hj : Pl T j) => namer_pl w' v T (h.below X) hL hB j hj)
 have HS := zD (fun w' (X : Below w.heap.size w w') j (hj : Pl T j) x => step_pl w' v T (h.below X) hL j hj x)
 have HK := zD (fun w' (X : Below w.heap.size w w') j (hj : Pl T j) => bracket_any w' v T (h.below X) hL hB j hj)
 have HFl := zD (fun w' (X : Below w.heap.size w w') j (hj : Pl T j) => fields_any w' v T (h.below X) hL hB j hj)
 have HMt := zD (fun w' (X : Below w.heap.size w w') j (hj : Pl T j) => methods_any w' v T (h.below X) hL hB j hj)
 have HSt := zD (fun w' (X : Below w.heap.size w w') j (hj : Pl T j) => steps_any w' v T (h.below X) hL hB j hj)
 obtain ⟨a, cv, rfl⟩ : ∃ a c, v = .slice a T.length c := by obtain ⟨⟨a, c, rfl, -⟩, -⟩ := h; exact ⟨a, c, rfl⟩
 clear h hB
 have p00 : Pl T 0 := ⟨by omega, by omega⟩
 have p0 := stepA_pl (x := wModule) (by decide) p00
 have p1 := nameA_pl p0
 have p2 := stepA_pl (x := [59]) (by simp) p1
 have H0 := zD (fun A B => HS.out ((w.alloc A).alloc B) (((Below.refl _ w).alloc zn A).alloc (by simp) B) _ p00 wModule)
 have H1 := zD (fun A B => HN.out ((w.alloc A).alloc B) (((Below.refl _ w).alloc zn A).alloc (by simp) B) _ p0)
 have H2 := zD (fun A B => HS.out ((w.alloc A).alloc B) (((Below.refl _ w).alloc zn A).alloc (by simp) B) _ p1 [59])
 have hq : schemaA T = partsA T (T.length + 1) (stepA T (nameA T (stepA T 0 wModule)).2 [59]) ⟨(nameA T (stepA T 0 wModule)).1, [], [], []⟩ := rfl
 generalize stepA T 0 wModule = i1 at *
 generalize nameA T i1 = nm at *
 generalize stepA T nm.2 [59] = i2 at *
 generalize schemaA T = Q at *
 have HQ := zD hq
 clear hq
 go_enter Tryz.func83, Tryz.ntmps83
 go_wp2_with fail
 refine (H0.out _ _).mono ?_
 rintro e w1 ⟨rfl, rfl⟩
 go_wp2_with fail
 refine (H1.out _ _).mono ?_
 rintro e w1 ⟨rfl, rfl⟩
 go_wp2_with fail
 refine (H2.out _ _).mono ?_
 rintro e w1 ⟨rfl, rfl⟩
 go_wp2_with fail
 have HW := zD (SchW.mk' w nm.1)
 clear H0 H1 H2
 go_loopw [5] (fun va wr => ∃ (j : Int) (F : Nat) (s : Sch) (ur us ug : Value) (xr xs xg : List Value), va = .int .i64 j ∧ Pl T j ∧ (0 ≤ j → ((s.records.length + s.services.length + s.sagas.length : Nat) : Int) ≤ j ∧ (T.length : Int) < F + j) ∧ s.records.length + s.services.length + s.sagas.length ≤ T.length + 1 ∧ Hid (SchW w wr s ur us ug xr xs xg) ∧ Hid (Q = partsA T F j s)) (fun va _ => if intOf va < 0 then 0 else T.length + 1 - (intOf va).toNat)
 case atStart => exact ⟨i2, T.length + 1, _, _, _, _, [], [], [], rfl, p2, fun h => ⟨by simpa using h, by omega⟩, by simp, HW, HQ⟩
 case round =>
  clear HQ p00 p0 p1 p2 HW; obtain ⟨j, F, s, ur, us, ug, xr, xs, xg, rfl, hp, hj, hS, HW, HQ⟩ := hrel; obtain ⟨ra, rv, rfl⟩ := own_slice HW.out.rr; obtain ⟨sa, sv, rfl⟩ := own_slice HW.out.sr; obtain ⟨ga, gv, rfl⟩ := own_slice HW.out.gr; have d0 := HW.out.var; have c0 : wr.cell? ⟨w.heap.size + 1, 0, none⟩ = some (.string (bT s.name)) := by simp [World.cell?, d0]
  have c1 : wr.cell? ⟨w.heap.size + 1, 1, none⟩ = some (.slice ra s.records.length rv) := by simp [World.cell?, d0]
  have c2 : wr.cell? ⟨w.heap.size + 1, 2, none⟩ = some (.slice sa s.services.length sv) := by simp [World.cell?, d0]
  have c3 : wr.cell? ⟨w.heap.size + 1, 3, none⟩ = some (.slice ga s.sagas.length gv) := by simp [World.cell?, d0]
  have cf : ∀ o, wr.frozen? ⟨w.heap.size + 1, o, none⟩ = false := fun o => by simp [World.frozen?, d0]
  have g0 := HW.out.res; have r0 : wr.cell? ⟨w.heap.size, 0, none⟩ = some (.string ⟨#[]⟩) := by simp [World.cell?, g0]
  have r1 : wr.cell? ⟨w.heap.size, 1, none⟩ = some (.slice none 0 0) := by simp [World.cell?, g0]
  have r2 : wr.cell? ⟨w.heap.size, 2, none⟩ = some (.slice none 0 0) := by simp [World.cell?, g0]
  have r3 : wr.cell? ⟨w.heap.size, 3, none⟩ = some (.slice none 0 0) := by simp [World.cell?, g0]
  have rf : ∀ o, wr.frozen? ⟨w.heap.size, o, none⟩ = false := fun o => by simp [World.frozen?, g0]
  have HG0 := zD g0; have hlt := HW.out.lt; clear d0 g0; have hjT : j ≤ T.length := hp.2; by_cases h0 : j < 0
  ·have hQ : Q = (s, j) := by rw [HQ.out, parts_out (.inl h0)]
   clear HQ hj; subst hQ; obtain ⟨l1, l2, l3, l4, l5, l6⟩ := laid_cells HG0.out; go_wp2_with fail; obtain ⟨m0, m1, m2, m3⟩ := laid_read HG0.out (.string (bT s.name)) (.slice ra s.records.length rv) (.slice sa s.services.length sv) (.slice ga s.sagas.length gv); have HE := HW.out.laid (.string (bT s.name)) (.slice ra s.records.length rv) (.slice sa s.services.length sv) (.slice ga s.sagas.length gv); exact bodyPost_ret (v := .tuple #[.agg #[.string (bT s.name), .slice ra s.records.length rv, .slice sa s.services.length sv, .slice ga s.sagas.length gv], .int .i64 j]) (by simp [results, Tryz.results83, go_sem, m0, m1, m2, m3]) rfl ⟨_, _, _, rfl, HE.1, HE.2⟩
  by_cases h1 : (T.length : Int) ≤ j
  ·have hQ : Q = (s, j) := by rw [HQ.out, parts_out (.inr h1)]
   clear HQ hj; subst hQ; obtain ⟨l1, l2, l3, l4, l5, l6⟩ := laid_cells HG0.out; go_wp2_with fail; obtain ⟨m0, m1, m2, m3⟩ := laid_read HG0.out (.string (bT s.name)) (.slice ra s.records.length rv) (.slice sa s.services.length sv) (.slice ga s.sagas.length gv); have HE := HW.out.laid (.string (bT s.name)) (.slice ra s.records.length rv) (.slice sa s.services.length sv) (.slice ga s.sagas.length gv); exact bodyPost_ret (v := .tuple #[.agg #[.string (bT s.name), .slice ra s.records.length rv, .slice sa s.services.length sv, .slice ga s.sagas.length gv], .int .i64 j]) (by simp [results, Tryz.results83, go_sem, m0, m1, m2, m3]) rfl ⟨_, _, _, rfl, HE.1, HE.2⟩
  obtain ⟨k, rfl⟩ : ∃ k : Nat, j = (k : Int) := ⟨j.toNat, by omega⟩; obtain ⟨hSk, hF⟩ := hj (by omega); clear hj; have hk : k < T.length := by omega
  obtain ⟨F, rfl⟩ : ∃ F', F = F' + 1 := ⟨F - 1, by omega⟩; have HTk := zD (HT.out wr HW.out.bel _ hp); have HPE := zD (HQ.out.trans (parts_eq T F (k : Int) s)); clear HQ; have p1 : Pl T ((k : Int) + 1) := ⟨by omega, by omega⟩; have hw0 : w.heap.size ≤ wr.heap.size := by omega
  have HNk := zD (HN.out wr HW.out.bel _ p1); have e_r : ((bT (textA T (k : Int))).toList == [114, 101, 99, 111, 114, 100]) = decide (textA T (k : Int) = wRecord) := bT_is _ wRecord; have f_r : (!((bT (textA T (k : Int))).toList == [114, 101, 99, 111, 114, 100])) = !decide (textA T (k : Int) = wRecord) := congrArg _ e_r; have e_c : ((bT (textA T (k : Int))).toList == [99, 104, 111, 105, 99, 101]) = decide (textA T (k : Int) = wChoice) := bT_is _ wChoice; have f_c : (!((bT (textA T (k : Int))).toList == [99, 104, 111, 105, 99, 101])) = !decide (textA T (k : Int) = wChoice) := congrArg _ e_c; have e_s : ((bT (textA T (k : Int))).toList == [115, 101, 114, 118, 105, 99, 101]) = decide (textA T (k : Int) = wService) := bT_is _ wService; have f_s : (!((bT (textA T (k : Int))).toList == [115, 101, 114, 118, 105, 99, 101])) = !decide (textA T (k : Int) = wService) := congrArg _ e_s; have e_g : ((bT (textA T (k : Int))).toList == [115, 97, 103, 97]) = decide (textA T (k : Int) = wSaga) := bT_is _ wSaga; have f_g : (!((bT (textA T (k : Int))).toList == [115, 97, 103, 97])) = !decide (textA T (k : Int) = wSaga) := congrArg _ e_g; generalize textA T (k : Int) = y at *; rw [if_neg (by omega)] at HPE; by_cases c_r : y = wRecord
  ·skip
   have HX := zD (HPE.out.trans (if_pos (.inl c_r))); have HXc := zD (show (decide (y = wChoice)) = false from by rw [c_r]; decide); have c_cx : decide (y = wChoice) = false := by rw [c_r]; decide
   rw [c_cx] at e_c f_c; clear c_cx; have c_sx : decide (y = wService) = false := by rw [c_r]; decide
   rw [c_sx] at e_s f_s; clear c_sx; have c_gx : decide (y = wSaga) = false := by rw [c_r]; decide
   rw [c_gx] at e_g f_g; clear c_gx; rw [zt c_r] at e_r f_r; clear HPE c_r; go_wp2_with fail; refine HTk.out.mono ?_; rintro e w2 ⟨rfl, rfl⟩; go_wp2_with fail; refine HNk.out.mono ?_; rintro e w2 ⟨rfl, rfl⟩; have pn := nameA_pl p1; have an := nameA_adv (T := T) (i := (k : Int) + 1); have HPt := zD (fun A => HFl.out (wr.alloc A) (HW.out.bel.alloc hw0 A) _ pn); have pf := part_pl pn (fields_far T (T.length + 1) (stepA T (nameA T ((k : Int) + 1)).2 [123]) (stepA_pl (x := [123]) (by simp) pn) (by omega)); generalize shutA (fieldsA T (T.length + 1) (stepA T (nameA T ((k : Int) + 1)).2 [123])) = ff at *; generalize nameA T ((k : Int) + 1) = nm at *; obtain ⟨fl, i5⟩ := ff; dsimp only at HX HPt pf; go_wp2_with fail; refine (HPt.out _).mono ?_; rintro e w2 ⟨u, rfl, ⟨ys, hown, hrows⟩, hbel⟩; clear HNk HTk; obtain ⟨ua, uc, rfl⟩ := own_slice hown; have hb2 : w2.heap[wr.heap.size]? = some (.cells #[.string (bT nm.1), .bool false, .slice none 0 0] 74 (0, 0)) := (hbel.block _ (by simp)).trans (zw _ _); have x2 : w2.cell? ⟨wr.heap.size, 2, none⟩ = some (.slice none 0 0) := by simp [World.cell?, hb2]
   have xf : ∀ o, w2.frozen? ⟨wr.heap.size, o, none⟩ = false := fun o => by simp [World.frozen?, hb2]
   have HB2 := zD (show Below wr.heap.size wr w2 from ((Below.refl _ wr).alloc zn _).trans (hbel.mono (by simp))); have HOU := zD hown; have HRW := zD hrows; have hsx : (wr.alloc (.cells #[.string (bT nm.1), .bool false, .slice none 0 0] 74)).heap.size = wr.heap.size + 1 := by simp
   clear hown hbel hrows HPt; go_upto_region 16 with (fail); have HB3 := zD (HB2.out.setCell (p := ⟨wr.heap.size, 2, none⟩) zn (.slice ua fl.length uc)); have HOU3 := zD (own_base (own_set HOU.out hb2 (by decide) 2 (.slice ua fl.length uc)) (B' := w.heap.size + 2) (by omega)); have HRW3 := zD ((HRW.out.mono (fldE_keep (P := fun T => T ≠ 74) (Keeps.set hb2 (fun _ h => h) 2 (.slice ua fl.length uc)) (by decide))).map (fldE_base (B' := w.heap.size + 2) (by omega))); have hb3 : (w2.setCell ⟨wr.heap.size, 2, none⟩ (.slice ua fl.length uc)).heap[wr.heap.size]? = some (.cells #[.string (bT nm.1), .bool false, .slice ua fl.length uc] 74 (0, 0)) := by simp [World.setCell, Array.getElem?_modify, hb2]
   clear hb2 x2 xf HB2 HOU hsx HRW; generalize w2.setCell ⟨wr.heap.size, 2, none⟩ (.slice ua fl.length uc) = w3 at *; clear c0 c1 c2 c3 cf r0 r1 r2 r3 rf; have HW3 := zD (HW.out.below HB3.out); have v3 := HW3.out.var; have c1 : w3.cell? ⟨w.heap.size + 1, 1, none⟩ = some (.slice ra s.records.length rv) := by simp [World.cell?, v3]
   have c2 : w3.cell? ⟨w.heap.size + 1, 2, none⟩ = some (.slice sa s.services.length sv) := by simp [World.cell?, v3]
   have c3 : w3.cell? ⟨w.heap.size + 1, 3, none⟩ = some (.slice ga s.sagas.length gv) := by simp [World.cell?, v3]
   have cf : ∀ o, w3.frozen? ⟨w.heap.size + 1, o, none⟩ = false := fun o => by simp [World.frozen?, v3]
   have x0 : w3.cell? ⟨wr.heap.size, 0, none⟩ = some (.string (bT nm.1)) := by simp [World.cell?, hb3]
   have x1 : w3.cell? ⟨wr.heap.size, 1, none⟩ = some (.bool false) := by simp [World.cell?, hb3]
   have x2 : w3.cell? ⟨wr.heap.size, 2, none⟩ = some (.slice ua fl.length uc) := by simp [World.cell?, hb3]
   have xf : ∀ o, w3.frozen? ⟨wr.heap.size, o, none⟩ = false := fun o => by simp [World.frozen?, hb3]
   clear v3 hb3; have hs3 := HB3.out.size; have HWA := zD (fun o => HW3.out.below ((Below.refl _ w3).alloc zn o)); obtain ⟨i0, hi0, hz0, hz1, hz2⟩ := info_parts info_rec
   go_wp2_with (first
    | (at_builtin; refine wpList_append_own _ rfl _ _ 22 rfl (w.heap.size + 2) 74 i0 (.agg #[.string ⟨#[]⟩, .bool false, .slice none 0 0]) 3 48 Tryz.underlying22 hi0 hz0 hz1 hz2 rfl (by decide) _ _ _ rfl (HWA.out _).rr ⟨w3.heap.size, 0, none⟩ 1 1 [.string (bT nm.1), .bool false, .slice ua fl.length uc] rfl rfl (World.news_of_block (cs := #[.string (bT nm.1), .bool false, .slice ua fl.length uc]) (t := 74) (fr := (0, 0)) (zw w3 _)) (by intro u hu; simp only [List.mem_cons, List.not_mem_nil, or_false] at hu; rcases hu with rfl | rfl | rfl <;> rfl) (by unfold maxLen; omega) (by omega) (by simp; omega) ?_; intro v' w7 hown7 hgrow _; obtain ⟨xa, xc, rfl⟩ := own_slice hown7; have HGR := zD hgrow; obtain ⟨z1, z2, z3, zf⟩ := grown_var (HWA.out _) (HWA.out _).rr hgrow)
    | fail)
   have HA3 := (Below.refl _ w3).alloc zn (.cells #[.string (bT nm.1), .bool false, .slice ua fl.length uc] 74); have HW7 := zD ((HWA.out _).addRec (r := ⟨nm.1, false, fl⟩) (c := [.string (bT nm.1), .bool false, .slice ua fl.length uc]) HGR.out hown7 (recE_keep (P := fun _ => True) (Keeps.below HA3) trivial trivial _ _ ⟨.slice ua fl.length uc, ys, rfl, HOU3.out, HRW3.out⟩))
   have ha : i5 < 0 ∨ k < i5 := by
    have a := pf.2; unfold Adv at *; omega
   have hfl := pf.1; unfold Pl at hfl; rw [HXc.out] at HX; exact ⟨⟨i5, F, _, _, _, _, _, _, _, rfl, pf.1, fun h => ⟨by simp; omega, by omega⟩, by simp; omega, HW7, zD HX⟩, by show (if i5 < 0 then 0 else T.length + 1 - i5.toNat) < (if (k : Int) < 0 then 0 else T.length + 1 - (k : Int).toNat); rw [if_neg (show ¬ (k : Int) < 0 by omega)]; split <;> omega⟩
  by_cases c_c : y = wChoice
  ·skip
   have HX := zD (HPE.out.trans (if_pos (.inr c_c))); have HXc := zD (show (decide (y = wChoice)) = true from by rw [c_c]; decide); have c_rx : decide (y = wRecord) = false := by rw [c_c]; decide
   rw [c_rx] at e_r f_r; clear c_rx; have c_sx : decide (y = wService) = false := by rw [c_c]; decide
   rw [c_sx] at e_s f_s; clear c_sx; have c_gx : decide (y = wSaga) = false := by rw [c_c]; decide
   rw [c_gx] at e_g f_g; clear c_gx; rw [zt c_c] at e_c f_c; clear HPE c_c; go_wp2_with fail; refine HTk.out.mono ?_; rintro e w2 ⟨rfl, rfl⟩; go_wp2_with fail; refine HNk.out.mono ?_; rintro e w2 ⟨rfl, rfl⟩; have pn := nameA_pl p1; have an := nameA_adv (T := T) (i := (k : Int) + 1); have HPt := zD (fun A => HFl.out (wr.alloc A) (HW.out.bel.alloc hw0 A) _ pn); have pf := part_pl pn (fields_far T (T.length + 1) (stepA T (nameA T ((k : Int) + 1)).2 [123]) (stepA_pl (x := [123]) (by simp) pn) (by omega)); generalize shutA (fieldsA T (T.length + 1) (stepA T (nameA T ((k : Int) + 1)).2 [123])) = ff at *; generalize nameA T ((k : Int) + 1) = nm at *; obtain ⟨fl, i5⟩ := ff; dsimp only at HX HPt pf; go_wp2_with fail; refine (HPt.out _).mono ?_; rintro e w2 ⟨u, rfl, ⟨ys, hown, hrows⟩, hbel⟩; clear HNk HTk; obtain ⟨ua, uc, rfl⟩ := own_slice hown; have hb2 : w2.heap[wr.heap.size]? = some (.cells #[.string (bT nm.1), .bool true, .slice none 0 0] 74 (0, 0)) := (hbel.block _ (by simp)).trans (zw _ _); have x2 : w2.cell? ⟨wr.heap.size, 2, none⟩ = some (.slice none 0 0) := by simp [World.cell?, hb2]
   have xf : ∀ o, w2.frozen? ⟨wr.heap.size, o, none⟩ = false := fun o => by simp [World.frozen?, hb2]
   have HB2 := zD (show Below wr.heap.size wr w2 from ((Below.refl _ wr).alloc zn _).trans (hbel.mono (by simp))); have HOU := zD hown; have HRW := zD hrows; have hsx : (wr.alloc (.cells #[.string (bT nm.1), .bool true, .slice none 0 0] 74)).heap.size = wr.heap.size + 1 := by simp
   clear hown hbel hrows HPt; go_upto_region 16 with (fail); have HB3 := zD (HB2.out.setCell (p := ⟨wr.heap.size, 2, none⟩) zn (.slice ua fl.length uc)); have HOU3 := zD (own_base (own_set HOU.out hb2 (by decide) 2 (.slice ua fl.length uc)) (B' := w.heap.size + 2) (by omega)); have HRW3 := zD ((HRW.out.mono (fldE_keep (P := fun T => T ≠ 74) (Keeps.set hb2 (fun _ h => h) 2 (.slice ua fl.length uc)) (by decide))).map (fldE_base (B' := w.heap.size + 2) (by omega))); have hb3 : (w2.setCell ⟨wr.heap.size, 2, none⟩ (.slice ua fl.length uc)).heap[wr.heap.size]? = some (.cells #[.string (bT nm.1), .bool true, .slice ua fl.length uc] 74 (0, 0)) := by simp [World.setCell, Array.getElem?_modify, hb2]
   clear hb2 x2 xf HB2 HOU hsx HRW; generalize w2.setCell ⟨wr.heap.size, 2, none⟩ (.slice ua fl.length uc) = w3 at *; clear c0 c1 c2 c3 cf r0 r1 r2 r3 rf; have HW3 := zD (HW.out.below HB3.out); have v3 := HW3.out.var; have c1 : w3.cell? ⟨w.heap.size + 1, 1, none⟩ = some (.slice ra s.records.length rv) := by simp [World.cell?, v3]
   have c2 : w3.cell? ⟨w.heap.size + 1, 2, none⟩ = some (.slice sa s.services.length sv) := by simp [World.cell?, v3]
   have c3 : w3.cell? ⟨w.heap.size + 1, 3, none⟩ = some (.slice ga s.sagas.length gv) := by simp [World.cell?, v3]
   have cf : ∀ o, w3.frozen? ⟨w.heap.size + 1, o, none⟩ = false := fun o => by simp [World.frozen?, v3]
   have x0 : w3.cell? ⟨wr.heap.size, 0, none⟩ = some (.string (bT nm.1)) := by simp [World.cell?, hb3]
   have x1 : w3.cell? ⟨wr.heap.size, 1, none⟩ = some (.bool true) := by simp [World.cell?, hb3]
   have x2 : w3.cell? ⟨wr.heap.size, 2, none⟩ = some (.slice ua fl.length uc) := by simp [World.cell?, hb3]
   have xf : ∀ o, w3.frozen? ⟨wr.heap.size, o, none⟩ = false := fun o => by simp [World.frozen?, hb3]
   clear v3 hb3; have hs3 := HB3.out.size; have HWA := zD (fun o => HW3.out.below ((Below.refl _ w3).alloc zn o)); obtain ⟨i0, hi0, hz0, hz1, hz2⟩ := info_parts info_rec
   go_wp2_with (first
    | (at_builtin; refine wpList_append_own _ rfl _ _ 22 rfl (w.heap.size + 2) 74 i0 (.agg #[.string ⟨#[]⟩, .bool false, .slice none 0 0]) 3 48 Tryz.underlying22 hi0 hz0 hz1 hz2 rfl (by decide) _ _ _ rfl (HWA.out _).rr ⟨w3.heap.size, 0, none⟩ 1 1 [.string (bT nm.1), .bool true, .slice ua fl.length uc] rfl rfl (World.news_of_block (cs := #[.string (bT nm.1), .bool true, .slice ua fl.length uc]) (t := 74) (fr := (0, 0)) (zw w3 _)) (by intro u hu; simp only [List.mem_cons, List.not_mem_nil, or_false] at hu; rcases hu with rfl | rfl | rfl <;> rfl) (by unfold maxLen; omega) (by omega) (by simp; omega) ?_; intro v' w7 hown7 hgrow _; obtain ⟨xa, xc, rfl⟩ := own_slice hown7; have HGR := zD hgrow; obtain ⟨z1, z2, z3, zf⟩ := grown_var (HWA.out _) (HWA.out _).rr hgrow)
    | fail)
   have HA3 := (Below.refl _ w3).alloc zn (.cells #[.string (bT nm.1), .bool true, .slice ua fl.length uc] 74); have HW7 := zD ((HWA.out _).addRec (r := ⟨nm.1, true, fl⟩) (c := [.string (bT nm.1), .bool true, .slice ua fl.length uc]) HGR.out hown7 (recE_keep (P := fun _ => True) (Keeps.below HA3) trivial trivial _ _ ⟨.slice ua fl.length uc, ys, rfl, HOU3.out, HRW3.out⟩))
   have ha : i5 < 0 ∨ k < i5 := by
    have a := pf.2; unfold Adv at *; omega
   have hfl := pf.1; unfold Pl at hfl; rw [HXc.out] at HX; exact ⟨⟨i5, F, _, _, _, _, _, _, _, rfl, pf.1, fun h => ⟨by simp; omega, by omega⟩, by simp; omega, HW7, zD HX⟩, by show (if i5 < 0 then 0 else T.length + 1 - i5.toNat) < (if (k : Int) < 0 then 0 else T.length + 1 - (k : Int).toNat); rw [if_neg (show ¬ (k : Int) < 0 by omega)]; split <;> omega⟩
  by_cases c_s : y = wService
  ·skip
   have HX := zD (HPE.out.trans ((if_neg (by rw [c_s]; decide)).trans (if_pos c_s))); have c_rx : decide (y = wRecord) = false := by rw [c_s]; decide
   rw [c_rx] at e_r f_r; clear c_rx; have c_cx : decide (y = wChoice) = false := by rw [c_s]; decide
   rw [c_cx] at e_c f_c; clear c_cx; have c_gx : decide (y = wSaga) = false := by rw [c_s]; decide
   rw [c_gx] at e_g f_g; clear c_gx; rw [zt c_s] at e_s f_s; clear HPE c_s; go_wp2_with fail; refine HTk.out.mono ?_; rintro e w2 ⟨rfl, rfl⟩; go_wp2_with fail; refine HNk.out.mono ?_; rintro e w2 ⟨rfl, rfl⟩; have pn := nameA_pl p1; have an := nameA_adv (T := T) (i := (k : Int) + 1); have HPt := zD (fun A => HMt.out (wr.alloc A) (HW.out.bel.alloc hw0 A) _ pn); have pf := part_pl pn (methods_far T (T.length + 1) (stepA T (nameA T ((k : Int) + 1)).2 [123]) (stepA_pl (x := [123]) (by simp) pn) (by omega)); generalize shutA (methodsA T (T.length + 1) (stepA T (nameA T ((k : Int) + 1)).2 [123])) = ff at *; generalize nameA T ((k : Int) + 1) = nm at *; obtain ⟨fl, i5⟩ := ff; dsimp only at HX HPt pf; go_wp2_with fail; refine (HPt.out _).mono ?_; rintro e w2 ⟨u, rfl, hown, hbel⟩; clear HNk HTk; obtain ⟨ua, uc, rfl⟩ := own_slice hown; have hb2 : w2.heap[wr.heap.size]? = some (.cells #[.string (bT nm.1), .slice none 0 0] 112 (0, 0)) := (hbel.block _ (by simp)).trans (zw _ _); have x2 : w2.cell? ⟨wr.heap.size, 1, none⟩ = some (.slice none 0 0) := by simp [World.cell?, hb2]
   have xf : ∀ o, w2.frozen? ⟨wr.heap.size, o, none⟩ = false := fun o => by simp [World.frozen?, hb2]
   have HB2 := zD (show Below wr.heap.size wr w2 from ((Below.refl _ wr).alloc zn _).trans (hbel.mono (by simp))); have HOU := zD hown; have hsx : (wr.alloc (.cells #[.string (bT nm.1), .slice none 0 0] 112)).heap.size = wr.heap.size + 1 := by simp
   clear hown hbel HPt; go_upto_region 20 with (fail); have HB3 := zD (HB2.out.setCell (p := ⟨wr.heap.size, 1, none⟩) zn (.slice ua fl.length uc)); have HOU3 := zD (own_base (own_set HOU.out hb2 (by decide) 1 (.slice ua fl.length uc)) (B' := w.heap.size + 2) (by omega)); have hb3 : (w2.setCell ⟨wr.heap.size, 1, none⟩ (.slice ua fl.length uc)).heap[wr.heap.size]? = some (.cells #[.string (bT nm.1), .slice ua fl.length uc] 112 (0, 0)) := by simp [World.setCell, Array.getElem?_modify, hb2]
   clear hb2 x2 xf HB2 HOU hsx; generalize w2.setCell ⟨wr.heap.size, 1, none⟩ (.slice ua fl.length uc) = w3 at *; clear c0 c1 c2 c3 cf r0 r1 r2 r3 rf; have HW3 := zD (HW.out.below HB3.out); have v3 := HW3.out.var; have c1 : w3.cell? ⟨w.heap.size + 1, 1, none⟩ = some (.slice ra s.records.length rv) := by simp [World.cell?, v3]
   have c2 : w3.cell? ⟨w.heap.size + 1, 2, none⟩ = some (.slice sa s.services.length sv) := by simp [World.cell?, v3]
   have c3 : w3.cell? ⟨w.heap.size + 1, 3, none⟩ = some (.slice ga s.sagas.length gv) := by simp [World.cell?, v3]
   have cf : ∀ o, w3.frozen? ⟨w.heap.size + 1, o, none⟩ = false := fun o => by simp [World.frozen?, v3]
   have x0 : w3.cell? ⟨wr.heap.size, 0, none⟩ = some (.string (bT nm.1)) := by simp [World.cell?, hb3]
   have x1 : w3.cell? ⟨wr.heap.size, 1, none⟩ = some (.slice ua fl.length uc) := by simp [World.cell?, hb3]
   have xf : ∀ o, w3.frozen? ⟨wr.heap.size, o, none⟩ = false := fun o => by simp [World.frozen?, hb3]
   clear v3 hb3; have hs3 := HB3.out.size; have HWA := zD (fun o => HW3.out.below ((Below.refl _ w3).alloc zn o)); obtain ⟨i0, hi0, hz0, hz1, hz2⟩ := info_parts info_svc
   go_wp2_with (first
    | (at_builtin; refine wpList_append_own _ rfl _ _ 23 rfl (w.heap.size + 2) 112 i0 (.agg #[.string ⟨#[]⟩, .slice none 0 0]) 2 40 Tryz.underlying23 hi0 hz0 hz1 hz2 rfl (by decide) _ _ _ rfl (HWA.out _).sr ⟨w3.heap.size, 0, none⟩ 1 1 [.string (bT nm.1), .slice ua fl.length uc] rfl rfl (World.news_of_block (cs := #[.string (bT nm.1), .slice ua fl.length uc]) (t := 112) (fr := (0, 0)) (zw w3 _)) (by intro u hu; simp only [List.mem_cons, List.not_mem_nil, or_false] at hu; rcases hu with rfl | rfl <;> rfl) (by unfold maxLen; omega) (by omega) (by simp; omega) ?_; intro v' w7 hown7 hgrow _; obtain ⟨xa, xc, rfl⟩ := own_slice hown7; have HGR := zD hgrow; obtain ⟨z1, z2, z3, zf⟩ := grown_var (HWA.out _) (HWA.out _).sr hgrow)
    | fail)
   have HA3 := (Below.refl _ w3).alloc zn (.cells #[.string (bT nm.1), .slice ua fl.length uc] 112); have HW7 := zD ((HWA.out _).addSvc (r := ⟨nm.1, fl⟩) (c := [.string (bT nm.1), .slice ua fl.length uc]) HGR.out hown7 (svcE_keep (P := fun _ => True) (Keeps.below HA3) trivial _ _ ⟨.slice ua fl.length uc, rfl, HOU3.out⟩))
   have ha : i5 < 0 ∨ k < i5 := by
    have a := pf.2; unfold Adv at *; omega
   have hfl := pf.1; unfold Pl at hfl; exact ⟨⟨i5, F, _, _, _, _, _, _, _, rfl, pf.1, fun h => ⟨by simp; omega, by omega⟩, by simp; omega, HW7, zD HX⟩, by show (if i5 < 0 then 0 else T.length + 1 - i5.toNat) < (if (k : Int) < 0 then 0 else T.length + 1 - (k : Int).toNat); rw [if_neg (show ¬ (k : Int) < 0 by omega)]; split <;> omega⟩
  by_cases c_g : y = wSaga
  ·skip
   have HX := zD (HPE.out.trans ((if_neg (by rw [c_g]; decide)).trans ((if_neg (by rw [c_g]; decide)).trans (if_pos c_g)))); have c_rx : decide (y = wRecord) = false := by rw [c_g]; decide
   rw [c_rx] at e_r f_r; clear c_rx; have c_cx : decide (y = wChoice) = false := by rw [c_g]; decide
   rw [c_cx] at e_c f_c; clear c_cx; have c_sx : decide (y = wService) = false := by rw [c_g]; decide
   rw [c_sx] at e_s f_s; clear c_sx; rw [zt c_g] at e_g f_g; clear HPE c_g; go_wp2_with fail; refine HTk.out.mono ?_; rintro e w2 ⟨rfl, rfl⟩; go_wp2_with fail; refine HNk.out.mono ?_; rintro e w2 ⟨rfl, rfl⟩; have pn := nameA_pl p1; have an := nameA_adv (T := T) (i := (k : Int) + 1); have HKk := zD (fun A => HK.out (wr.alloc A) (HW.out.bel.alloc hw0 A) _ pn); have pb := bracketA_pl pn; have ab := bracketA_adv (T := T) (i := (nameA T ((k : Int) + 1)).2); have HPt := zD (fun A => HSt.out (wr.alloc A) (HW.out.bel.alloc hw0 A) _ pb); have pf := part_pl pb (steps_far T (T.length + 1) (stepA T (bracketA T (nameA T ((k : Int) + 1)).2).2 [123]) (stepA_pl (x := [123]) (by simp) pb) (by omega)); generalize shutA (stepsA T (T.length + 1) (stepA T (bracketA T (nameA T ((k : Int) + 1)).2).2 [123])) = ff at *; generalize bracketA T (nameA T ((k : Int) + 1)).2 = br at *; generalize nameA T ((k : Int) + 1) = nm at *; obtain ⟨fl, i5⟩ := ff; dsimp only at HX HPt pf; go_wp2_with fail; refine (HKk.out _).mono ?_; rintro e w2 ⟨rfl, rfl⟩; go_wp2_with fail; refine (HPt.out _).mono ?_; rintro e w2 ⟨u, rfl, hown, hbel⟩; clear HNk HTk; obtain ⟨ua, uc, rfl⟩ := own_slice hown; have hb2 : w2.heap[wr.heap.size]? = some (.cells #[.string (bT nm.1), .string (bT br.1), .slice none 0 0] 67 (0, 0)) := (hbel.block _ (by simp)).trans (zw _ _); have x2 : w2.cell? ⟨wr.heap.size, 2, none⟩ = some (.slice none 0 0) := by simp [World.cell?, hb2]
   have xf : ∀ o, w2.frozen? ⟨wr.heap.size, o, none⟩ = false := fun o => by simp [World.frozen?, hb2]
   have HB2 := zD (show Below wr.heap.size wr w2 from ((Below.refl _ wr).alloc zn _).trans (hbel.mono (by simp))); have HOU := zD hown; have hsx : (wr.alloc (.cells #[.string (bT nm.1), .string (bT br.1), .slice none 0 0] 67)).heap.size = wr.heap.size + 1 := by simp
   clear hown hbel HPt; go_upto_region 25 with (fail); have HB3 := zD (HB2.out.setCell (p := ⟨wr.heap.size, 2, none⟩) zn (.slice ua fl.length uc)); have HOU3 := zD (own_base (own_set HOU.out hb2 (by decide) 2 (.slice ua fl.length uc)) (B' := w.heap.size + 2) (by omega)); have hb3 : (w2.setCell ⟨wr.heap.size, 2, none⟩ (.slice ua fl.length uc)).heap[wr.heap.size]? = some (.cells #[.string (bT nm.1), .string (bT br.1), .slice ua fl.length uc] 67 (0, 0)) := by simp [World.setCell, Array.getElem?_modify, hb2]
   clear hb2 x2 xf HB2 HOU hsx; generalize w2.setCell ⟨wr.heap.size, 2, none⟩ (.slice ua fl.length uc) = w3 at *; clear c0 c1 c2 c3 cf r0 r1 r2 r3 rf; have HW3 := zD (HW.out.below HB3.out); have v3 := HW3.out.var; have c1 : w3.cell? ⟨w.heap.size + 1, 1, none⟩ = some (.slice ra s.records.length rv) := by simp [World.cell?, v3]
   have c2 : w3.cell? ⟨w.heap.size + 1, 2, none⟩ = some (.slice sa s.services.length sv) := by simp [World.cell?, v3]
   have c3 : w3.cell? ⟨w.heap.size + 1, 3, none⟩ = some (.slice ga s.sagas.length gv) := by simp [World.cell?, v3]
   have cf : ∀ o, w3.frozen? ⟨w.heap.size + 1, o, none⟩ = false := fun o => by simp [World.frozen?, v3]
   have x0 : w3.cell? ⟨wr.heap.size, 0, none⟩ = some (.string (bT nm.1)) := by simp [World.cell?, hb3]
   have x1 : w3.cell? ⟨wr.heap.size, 1, none⟩ = some (.string (bT br.1)) := by simp [World.cell?, hb3]
   have x2 : w3.cell? ⟨wr.heap.size, 2, none⟩ = some (.slice ua fl.length uc) := by simp [World.cell?, hb3]
   have xf : ∀ o, w3.frozen? ⟨wr.heap.size, o, none⟩ = false := fun o => by simp [World.frozen?, hb3]
   clear v3 hb3; have hs3 := HB3.out.size; have HWA := zD (fun o => HW3.out.below ((Below.refl _ w3).alloc zn o)); obtain ⟨i0, hi0, hz0, hz1, hz2⟩ := info_parts info_sga
   go_wp2_with (first
    | (at_builtin; refine wpList_append_own _ rfl _ _ 24 rfl (w.heap.size + 2) 67 i0 (.agg #[.string ⟨#[]⟩, .string ⟨#[]⟩, .slice none 0 0]) 3 56 Tryz.underlying24 hi0 hz0 hz1 hz2 rfl (by decide) _ _ _ rfl (HWA.out _).gr ⟨w3.heap.size, 0, none⟩ 1 1 [.string (bT nm.1), .string (bT br.1), .slice ua fl.length uc] rfl rfl (World.news_of_block (cs := #[.string (bT nm.1), .string (bT br.1), .slice ua fl.length uc]) (t := 67) (fr := (0, 0)) (zw w3 _)) (by intro u hu; simp only [List.mem_cons, List.not_mem_nil, or_false] at hu; rcases hu with rfl | rfl | rfl <;> rfl) (by unfold maxLen; omega) (by omega) (by simp; omega) ?_; intro v' w7 hown7 hgrow _; obtain ⟨xa, xc, rfl⟩ := own_slice hown7; have HGR := zD hgrow; obtain ⟨z1, z2, z3, zf⟩ := grown_var (HWA.out _) (HWA.out _).gr hgrow)
    | fail)
   have HA3 := (Below.refl _ w3).alloc zn (.cells #[.string (bT nm.1), .string (bT br.1), .slice ua fl.length uc] 67); have HW7 := zD ((HWA.out _).addSga (r := ⟨nm.1, br.1, fl⟩) (c := [.string (bT nm.1), .string (bT br.1), .slice ua fl.length uc]) HGR.out hown7 (sgaE_keep (P := fun _ => True) (Keeps.below HA3) trivial _ _ ⟨.slice ua fl.length uc, rfl, HOU3.out⟩))
   have ha : i5 < 0 ∨ k < i5 := by
    have a := pf.2; unfold Adv at *; omega
   have hfl := pf.1; unfold Pl at hfl; exact ⟨⟨i5, F, _, _, _, _, _, _, _, rfl, pf.1, fun h => ⟨by simp; omega, by omega⟩, by simp; omega, HW7, zD HX⟩, by show (if i5 < 0 then 0 else T.length + 1 - i5.toNat) < (if (k : Int) < 0 then 0 else T.length + 1 - (k : Int).toNat); rw [if_neg (show ¬ (k : Int) < 0 by omega)]; split <;> omega⟩
  have hQ : Q = (s, -1 - (k : Int)) := by rw [HPE.out, if_neg (by simp [c_r, c_c]), if_neg c_s, if_neg c_g]
  rw [zf c_r] at e_r f_r; rw [zf c_c] at e_c f_c; rw [zf c_s] at e_s f_s; rw [zf c_g] at e_g f_g; clear HPE c_r c_c c_s c_g HNk; subst hQ; obtain ⟨l1, l2, l3, l4, l5, l6⟩ := laid_cells HG0.out; go_wp2_with fail; refine HTk.out.mono ?_; rintro e w2 ⟨rfl, rfl⟩; go_wp2_with fail; obtain ⟨m0, m1, m2, m3⟩ := laid_read HG0.out (.string (bT s.name)) (.slice ra s.records.length rv) (.slice sa s.services.length sv) (.slice ga s.sagas.length gv); have HE := HW.out.laid (.string (bT s.name)) (.slice ra s.records.length rv) (.slice sa s.services.length sv) (.slice ga s.sagas.length gv); exact bodyPost_ret (v := .tuple #[.agg #[.string (bT s.name), .slice ra s.records.length rv, .slice sa s.services.length sv, .slice ga s.sagas.length gv], .int .i64 (-1 - (k : Int))]) (by simp [results, Tryz.results83, go_sem, m0, m1, m2, m3]) rfl ⟨_, _, _, rfl, HE.1, HE.2⟩
end Go.Proofs.YtgoejmheihgpfaaGreatDoor
