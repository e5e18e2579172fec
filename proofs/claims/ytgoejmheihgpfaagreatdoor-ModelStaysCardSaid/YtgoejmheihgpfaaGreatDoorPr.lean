/- Lemmas for ModelStays' proof. -/
import Derived.Test.YtgoejmheihgpfaaGreatDoorPn
import Derived.Deep.DeepCutAuto
namespace Go.Proofs.YtgoejmheihgpfaaGreatDoor
set_option maxRecDepth 100000
set_option maxHeartbeats 16000000
open Go.RowKit
structure NewB (w0 w : World) (T : TypeId) (cs : Array Value) : Prop where
 blk : w.heap[w0.heap.size]? = some (.cells cs T (0, 0))
 bel : Below w0.heap.size w0 w
theorem NewB.mk' (w0 : World) (T : TypeId) (cs : Array Value) : NewB w0 (w0.alloc (.cells cs T)) T cs := ⟨zw _ _, (Below.refl _ w0).alloc zn _⟩
theorem NewB.lt {w0 w : World} {T : TypeId} {cs : Array Value} (h : NewB w0 w T cs) : w0.heap.size < w.heap.size := (zq h.blk).1
theorem NewB.cell {w0 w : World} {T : TypeId} {cs : Array Value} (h : NewB w0 w T cs) {o : Nat} {u : Value} (hu : cs[o]? = some u) : w.cell? ⟨w0.heap.size, o, none⟩ = some u := by simp [World.cell?, h.blk, hu]
theorem NewB.froz {w0 w : World} {T : TypeId} {cs : Array Value} (h : NewB w0 w T cs) (o : Nat) : w.frozen? ⟨w0.heap.size, o, none⟩ = false := by simp [World.frozen?, h.blk]
theorem NewB.set {w0 w : World} {T : TypeId} {cs : Array Value} (h : NewB w0 w T cs) (o : Nat) (u : Value) : NewB w0 (w.setCell ⟨w0.heap.size, o, none⟩ u) T (cs.setIfInBounds o u) :=
 ⟨by simp [World.setCell, Array.getElem?_modify, h.blk], h.bel.setCell (p := ⟨w0.heap.size, o, none⟩) zn u⟩
theorem NewB.after {w0 w w' : World} {T : TypeId} {cs : Array Value} (h : NewB w0 w T cs) (hb : Below w.heap.size w w') : NewB w0 w' T cs :=
 ⟨(hb.block _ h.lt).trans h.blk, h.bel.trans (hb.mono (Nat.le_of_lt h.lt))⟩
def okEff (y : Tx) : Bool := decide (y = wGive) || decide (y = wTake) || decide (y = wNote)
theorem bracketA_pl {T : List Tok} {i : Int} (h : Pl T i) : Pl T (bracketA T i).2 := stepA_pl (x := [41]) (by simp) (nameA_pl (stepA_pl (x := [40]) (by simp) h))
theorem bracketA_adv {T : List Tok} {i : Int} : Adv i (bracketA T i).2 := ((stepA_adv [40]).trans nameA_adv).trans (stepA_adv [41])
theorem succ_pl {T : List Tok} {i : Int} (h0 : ¬ i < 0) (h : textA T i ≠ []) : Pl T (i + 1) := by
 have := text_in h0 h
 exact ⟨by omega, by omega⟩
theorem resultA_far {T : List Tok} {i : Int} {r : Nat × Int} (h : Pl T i) (hr : resultA T i = some r) : Pl T r.2 ∧ (Adv i r.2 ∨ r.2 = i) ∧ r.1 ≤ 3 := by
 unfold resultA at hr
 by_cases h0 : i < 0
 ·rw [if_pos h0] at hr; obtain rfl := Option.some.inj hr; exact ⟨h, .inr rfl, by omega⟩
 ·rw [if_neg h0] at hr
  by_cases h1 : textA T i = wInt
  ·rw [if_pos h1] at hr; obtain rfl := Option.some.inj hr
   exact ⟨succ_pl h0 (by rw [h1]; decide), .inl (.inr ⟨by omega, by show i < i + 1; omega⟩), by omega⟩
  ·rw [if_neg h1] at hr
   by_cases h2 : textA T i = wNone
   ·rw [if_pos h2] at hr; obtain rfl := Option.some.inj hr
    exact ⟨succ_pl h0 (by rw [h2]; decide), .inl (.inr ⟨by omega, by show i < i + 1; omega⟩), by show 1 ≤ 3; omega⟩
   ·rw [if_neg h2] at hr; cases hr
theorem undoA_far {T : List Tok} {i : Int} (h : Pl T i) : Pl T (undoA T i).2 ∧ (Adv i (undoA T i).2 ∨ (undoA T i).2 = i) := by
 unfold undoA
 by_cases h0 : 0 ≤ i ∧ textA T i = wUndo
 ·rw [if_pos h0]
  have p := succ_pl (T := T) (i := i) (by omega) (by rw [h0.2]; decide); exact ⟨nameA_pl p, .inl (Adv.trans (.inr ⟨h0.1, by omega⟩) nameA_adv)⟩
 ·rw [if_neg h0]; exact ⟨h, .inr rfl⟩
theorem methods_eq (l : List Tok) (k : Nat) (i : Int) : methodsA l (k + 1) i = (
  if i < 0 ∨ textA l i = [125] then ([], i)
  else if textA l i ≠ wGive ∧ textA l i ≠ wTake ∧ textA l i ≠ wNote then ([], -1 - i)
  else
   let n := nameA l (i + 1)
   let b := bracketA l n.2
   let j := stepA l b.2 [45, 62]
   match resultA l j with
   | none => ([], -1 - j)
   | some r =>
    let u := undoA l r.2
    let q := methodsA l k (stepA l u.2 [59])
    (⟨n.1, b.1, r.1, textA l i, u.1⟩ :: q.1, q.2)) := by kernel_rfl
theorem methods_neg {T : List Tok} {F : Nat} {i : Int} (h : i < 0) : methodsA T F i = ([], i) := by
 cases F with
 | zero => rfl
 | succ F => rw [methods_eq, if_pos (.inl h)]
theorem methods_shut {T : List Tok} {F : Nat} {i : Int} (h : textA T i = [125]) : methodsA T (F + 1) i = ([], i) := by rw [methods_eq, if_pos (.inr h)]
theorem methods_bad {T : List Tok} {F : Nat} {i : Int} (h0 : ¬ i < 0) (h : textA T i ≠ [125]) (hb : okEff (textA T i) = false) : methodsA T (F + 1) i = ([], -1 - i) := by
 unfold okEff at hb
 simp only [Bool.or_eq_false_iff, decide_eq_false_iff_not] at hb
 rw [methods_eq, if_neg (by simp [h0, h]), if_pos ⟨hb.1.1, hb.1.2, hb.2⟩]
def arrowA (T : List Tok) (i : Int) : Int := stepA T (bracketA T (nameA T (i + 1)).2).2 [45, 62]
theorem methods_none {T : List Tok} {F : Nat} {i : Int} (h0 : ¬ i < 0) (h : textA T i ≠ [125]) (hb : okEff (textA T i) = true) (hr : resultA T (arrowA T i) = none) : methodsA T (F + 1) i = ([], -1 - arrowA T i) := by
 unfold okEff at hb
 simp only [Bool.or_eq_true, decide_eq_true_eq] at hb
 unfold arrowA at hr
 rw [methods_eq, if_neg (by simp [h0, h]), if_neg (by rintro ⟨a, b, c⟩; rcases hb with (hb | hb) | hb <;> contradiction)]
 dsimp only
 rw [hr]
 rfl
theorem methods_next {T : List Tok} {F : Nat} {i : Int} {S : List Mth} {r : Nat × Int} (h0 : ¬ i < 0) (h : textA T i ≠ [125]) (hb : okEff (textA T i) = true) (hr : resultA T (arrowA T i) = some r) :
  ahead S (methodsA T (F + 1) i) = ahead (S ++ [⟨(nameA T (i + 1)).1, (bracketA T (nameA T (i + 1)).2).1, r.1, textA T i, (undoA T r.2).1⟩]) (methodsA T F (stepA T (undoA T r.2).2 [59])) := by
 unfold okEff at hb
 simp only [Bool.or_eq_true, decide_eq_true_eq] at hb
 unfold arrowA at hr
 rw [methods_eq, if_neg (by simp [h0, h]), if_neg (by rintro ⟨a, b, c⟩; rcases hb with (hb | hb) | hb <;> contradiction)]
 dsimp only
 rw [hr]
 simp [ahead]
def mcells : List Mth → List Value
 | [] => []
 | m :: l => sT m.name :: sT m.arg :: .int .u8 (m.result : Nat) :: sT m.effect :: sT m.undo :: mcells l
theorem mcells_append : ∀ (l r : List Mth), mcells (l ++ r) = mcells l ++ mcells r
 | [], _ => rfl
 | t :: l, r => by simp [mcells, mcells_append l r]
theorem info_mth : (Tryz.prog.info? 92).map (fun i => (i.zero, i.size, i.bytes)) = some (some (.agg #[eS, eS, .int .u8 0, eS, eS]), 5, 72) := by kernel_rfl
theorem methods_any (w : World) (v : Value) (T : List Tok) (h : Slc w 4 v T.length (tcells T)) (hL : T.length ≤ 65536) (hB : ∀ t ∈ T, t.text.length ≤ 65536) (i : Int) (hi : Pl T i) : Calls Tryz.prog 114 #[v, iV i] w fun e w' => ∃ u, e = .returned (.tuple #[u, iV (shutA (methodsA T (T.length + 1) (stepA T i [123]))).2]) ∧ w'.ownsRow w.heap.size 92 5 u (shutA (methodsA T (T.length + 1) (stepA T i [123]))).1.length (mcells (shutA (methodsA T (T.length + 1) (stepA T i [123]))).1) ∧ Below w.heap.size w w' := by
 have HT := zD (fun w' (X : Below w.heap.size w w') j (hj : Pl T j) => text_any w' v T (h.below X) hL j (by have := hj.1; omega) (by have := hj.2; omega))
 have HN := zD (fun w' (X : Below w.heap.size w w') j (hj : Pl T j) => namer_pl w' v T (h.below X) hL hB j hj)
 have HS := zD (fun w' (X : Below w.heap.size w w') j (hj : Pl T j) x => step_pl w' v T (h.below X) hL j hj x)
 have HK := zD (fun w' (X : Below w.heap.size w w') j (hj : Pl T j) => bracket_any w' v T (h.below X) hL hB j hj)
 clear h hB
 have H1 := zD (HS.out w zl i hi [123])
 have hp := stepA_pl (x := [123]) (by simp) hi
 generalize stepA T i [123] = i1 at *
 generalize hq : shutA (methodsA T (T.length + 1) i1) = Q at *
 have HQ := zD (show Q = shutA (ahead [] (methodsA T (T.length + 1) i1)) from by rw [← hq]; rfl)
 clear hq
 go_enter Tryz.func114, Tryz.ntmps114
 go_wp2_with fail
 refine H1.out.mono ?_
 rintro e w1 ⟨rfl, rfl⟩
 go_wp2_with fail
 go_loopw [6, 1] (fun vl va wr => ∃ (j : Int) (F : Nat) (S : List Mth), va = iV j ∧ Pl T j ∧ (0 ≤ j → (S.length : Int) ≤ j ∧ (T.length : Int) < F + j) ∧ S.length ≤ T.length + 1 ∧ Hid (wr.ownsRow w.heap.size 92 5 vl S.length (mcells S)) ∧ Hid (Below w.heap.size w wr) ∧ Hid (Q = shutA (ahead S (methodsA T F j)))) (fun _ va _ => if intOf va < 0 then 0 else T.length + 1 - (intOf va).toNat)
 case atStart => exact ⟨i1, T.length + 1, [], rfl, hp, fun h => ⟨by simpa using h, by omega⟩, by simp, World.ownsRow_nil _ _ _ _, zl, HQ⟩
 case round =>
  clear HQ hp hi H1; obtain ⟨j, F, S, rfl, hp, hj, hS, HR, HB, HQ⟩ := hrel; obtain ⟨va, vc, rfl⟩ := own_slice HR.out; by_cases h0 : j < 0
  ·have hQ : Q = ([], j) := by rw [HQ.out, methods_neg h0]; unfold shutA ahead; rw [if_pos h0]
   clear HQ hj; subst hQ; go_wp2_with fail; exact zR (v := .tuple #[.slice none 0 0, iV j]) ⟨_, rfl, World.ownsRow_nil _ _ _ _, HB.out⟩
  obtain ⟨k, rfl⟩ : ∃ k : Nat, j = (k : Int) := ⟨j.toNat, by omega⟩; obtain ⟨hSk, hF⟩ := hj (by omega); clear hj; have hk : k ≤ T.length := by have := hp.2; omega
  obtain ⟨F, rfl⟩ : ∃ F', F = F' + 1 := ⟨F - 1, by omega⟩; have HTk := zD (HT.out wr HB.out _ hp); have e_y := bT_is (textA T (k : Int)) [125]; by_cases hy : textA T (k : Int) = [125]
  ·have hQ : Q = (S, (k : Int) + 1) := by rw [HQ.out, methods_shut hy]; unfold shutA ahead; rw [if_neg h0]; simp
   rw [zt hy] at e_y; have e_z : (!((bT (textA T (k : Int))).toList == [125])) = false := by rw [e_y]; rfl
   clear hy HQ; generalize textA T (k : Int) = y at *; subst hQ; go_wp2_with fail; refine HTk.out.mono ?_; rintro e w2 ⟨rfl, rfl⟩; go_wp2_with fail; exact zR (v := .tuple #[.slice va S.length vc, iV ((k : Int) + 1)]) ⟨_, rfl, HR.out, HB.out⟩
  rw [zf hy] at e_y; have e_z : (!((bT (textA T (k : Int))).toList == [125])) = true := by rw [e_y]; rfl
  have HBAD := zD (fun hb => HQ.out.trans (congrArg (fun q => shutA (ahead S q)) (methods_bad (F := F) h0 hy hb))); have HNON := zD (fun hb hr => HQ.out.trans (congrArg (fun q => shutA (ahead S q)) (methods_none (F := F) h0 hy hb hr))); have HNX := zD (fun hb r hr => HQ.out.trans (congrArg shutA (methods_next (F := F) (S := S) (r := r) h0 hy hb hr))); have HSU := zD (fun h => succ_pl h0 (T := T) h); have e_g : ((bT (textA T (k : Int))).toList == [103, 105, 118, 101]) = decide (textA T (k : Int) = wGive) := bT_is _ wGive; have e_t : ((bT (textA T (k : Int))).toList == [116, 97, 107, 101]) = decide (textA T (k : Int) = wTake) := bT_is _ wTake; have e_n : ((bT (textA T (k : Int))).toList == [110, 111, 116, 101]) = decide (textA T (k : Int) = wNote) := bT_is _ wNote; have f_g : (!((bT (textA T (k : Int))).toList == [103, 105, 118, 101])) = !decide (textA T (k : Int) = wGive) := congrArg _ e_g; have f_t : (!((bT (textA T (k : Int))).toList == [116, 97, 107, 101])) = !decide (textA T (k : Int) = wTake) := congrArg _ e_t; have f_n : (!((bT (textA T (k : Int))).toList == [110, 111, 116, 101])) = !decide (textA T (k : Int) = wNote) := congrArg _ e_n; clear hy HQ h0; have HOK := zD (show okEff (textA T (k : Int)) = okEff (textA T (k : Int)) from rfl); generalize hty : textA T (k : Int) = y at *; go_wp2_with fail; refine HTk.out.mono ?_; rintro e w2 ⟨rfl, rfl⟩; have N0 := zD (NewB.mk' wr 92 #[eS, eS, .int .u8 0, eS, eS]); have HTa := zD (fun A => HT.out (wr.alloc A) (HB.out.alloc HB.out.size A) _ hp); rw [hty] at HTa; clear hty; have hsz := HB.out.size; go_wp2_with fail; refine (HTa.out _).mono ?_; rintro e w2 ⟨rfl, rfl⟩; clear HTa HTk e_y e_z; go_upto_region 6 with (fail); by_cases hok : okEff y = true
  ·go_cut [35] (fun c wc => c = .bool false ∧ wc = wr.alloc (.cells #[eS, eS, .int .u8 0, sT y, eS] 92))
   case first =>
    clear HBAD HNON HNX HSU; by_cases c1 : y = wGive
    ·rw [zt c1] at e_g f_g
     clear c1 hok; go_wp2_with fail; go_meet; exact ⟨rfl, rfl⟩
    rw [zf c1] at e_g f_g; by_cases c2 : y = wTake
    ·rw [zt c2] at e_t f_t
     clear c1 c2 hok; go_wp2_with fail; go_meet; exact ⟨rfl, rfl⟩
    rw [zf c2] at e_t f_t; by_cases c3 : y = wNote
    ·rw [zt c3] at e_n f_n
     clear c1 c2 c3 hok; go_wp2_with fail; go_meet; exact ⟨rfl, rfl⟩
    ·exact absurd hok (by simp [okEff, c1, c2, c3])
   case rest =>
    obtain ⟨rfl, rfl⟩ := hcut; clear e_g e_t e_n f_g f_t f_n; have hne : y ≠ [] := by rintro rfl; exact absurd hok (by decide)
    have p1 := HSU.out hne; have p2 := nameA_pl p1; have p3 := bracketA_pl p2; have p4 : Pl T (arrowA T (k : Int)) := stepA_pl (x := [45, 62]) (by simp) p3; have a4 : Adv (k : Int) (arrowA T (k : Int)) := (((Adv.trans (.inr ⟨by omega, by omega⟩) nameA_adv).trans bracketA_adv).trans (stepA_adv [45, 62])); have HN1 := zD (fun A => HN.out (wr.alloc A) (HB.out.alloc HB.out.size A) _ p1); have HK1 := zD (fun A => HK.out (wr.alloc A) (HB.out.alloc HB.out.size A) _ p2); have HS1 := zD (fun A => HS.out (wr.alloc A) (HB.out.alloc HB.out.size A) _ p3 [45, 62]); have HT1 := zD (fun A => HT.out (wr.alloc A) (HB.out.alloc HB.out.size A) _ p4); have HNO := zD (HNON.out hok); have HNR := zD (HNX.out hok); have HAR := zD (show arrowA T (k : Int) = stepA T (bracketA T (nameA T ((k : Int) + 1)).2).2 [45, 62] from rfl); have hk1 : k < T.length := by have := p1.2; omega
    clear HBAD HNON HNX HSU hok hne p1 p2 p3; rw [← HAR.out] at HS1; clear HAR; generalize arrowA T (k : Int) = ja at *; generalize nameA T ((k : Int) + 1) = nm at *; generalize bracketA T nm.2 = br at *; go_wp2_with fail; refine (HN1.out _).mono ?_; rintro e w2 ⟨rfl, rfl⟩; go_wp2_with fail; refine (HK1.out _).mono ?_; rintro e w2 ⟨rfl, rfl⟩; go_wp2_with fail; refine (HS1.out _).mono ?_; rintro e w2 ⟨rfl, rfl⟩; go_upto_if 57 with (fail); go_cut [1] (fun v1 wc => ∃ r : Nat × Int, v1 = iV r.2 ∧ Hid (resultA T ja = some r) ∧ wc = wr.alloc (.cells #[sT nm.1, sT br.1, .int .u8 (r.1 : Nat), sT y, eS] 92))
    case first =>
     clear HN1 HK1 HS1; by_cases hj0 : ja < 0
     ·have hr : resultA T ja = some (0, ja) := by unfold resultA; rw [if_pos hj0]
      go_wp2_with fail; go_meet; exact ⟨(0, ja), rfl, zD hr, rfl⟩
     ·have HRS := zD (show resultA T ja = if textA T ja = wInt then some (3, ja + 1) else if textA T ja = wNone then some (1, ja + 1) else none from by unfold resultA; rw [if_neg hj0])
      have e_i : ((bT (textA T ja)).toList == [105, 110, 116]) = decide (textA T ja = wInt) := bT_is _ wInt; have e_o : ((bT (textA T ja)).toList == [110, 111, 110, 101]) = decide (textA T ja = wNone) := bT_is _ wNone; have hja : ja ≤ T.length := p4.2; generalize textA T ja = z at *; by_cases c1 : z = wInt
      ·have hr : resultA T ja = some (3, ja + 1) := by rw [HRS.out, if_pos c1]
       rw [zt c1] at e_i; clear HRS c1 e_o; have HR1 := zD hr; clear hr; go_wp2_with fail; refine (HT1.out _).mono ?_; rintro e w2 ⟨rfl, rfl⟩; go_wp2_with fail; go_meet; exact ⟨(3, ja + 1), rfl, HR1, rfl⟩
      rw [zf c1] at e_i; by_cases c2 : z = wNone
      ·have hr : resultA T ja = some (1, ja + 1) := by rw [HRS.out, if_neg c1, if_pos c2]
       rw [zt c2] at e_o; clear HRS c1 c2; have HR1 := zD hr; clear hr; go_wp2_with fail; refine (HT1.out _).mono ?_; rintro e w2 ⟨rfl, rfl⟩; go_wp2_with fail; go_meet; exact ⟨(1, ja + 1), rfl, HR1, rfl⟩
      ·have hr : resultA T ja = none := by rw [HRS.out, if_neg c1, if_neg c2]
       rw [zf c2] at e_o; have hQ : Q = ([], -1 - ja) := by rw [HNO.out hr]; unfold shutA ahead; rw [if_pos (show (-1 - ja : Int) < 0 by omega)]
       clear HRS c1 c2 hr HNO HNR; subst hQ; go_wp2_with fail; refine (HT1.out _).mono ?_; rintro e w2 ⟨rfl, rfl⟩; go_wp2_with fail; exact zR (v := .tuple #[.slice none 0 0, iV (-1 - ja)]) ⟨_, rfl, World.ownsRow_nil _ _ _ _, HB.out.alloc HB.out.size _⟩
    case rest =>
    obtain ⟨r, rfl, HRS, rfl⟩ := hcut; clear HN1 HK1 HS1 HT1 HNO; obtain ⟨p5, a5, r5⟩ := resultA_far p4 HRS.out; have HNX0 := zD (HNR.out r HRS.out); clear HNR HRS; obtain ⟨pu, au⟩ := undoA_far p5; have e_u : ((bT (textA T r.2)).toList == [117, 110, 100, 111]) = decide (textA T r.2 = wUndo) := bT_is _ wUndo; have hr2 : r.2 ≤ T.length := p5.2; by_cases h5 : r.2 < 0
    ·have hu : undoA T r.2 = ([], r.2) := by unfold undoA; rw [if_neg (by omega)]
     have h9 := HNX0.out; rw [hu] at h9; have HNX := zD h9; clear h9; rw [hu] at pu au; clear hu e_u HNX0; dsimp only at pu au; have HSl := zD (fun A => HS.out (wr.alloc A) (HB.out.alloc HB.out.size A) _ pu [59]); have pz := stepA_pl (x := [59]) (by simp) pu; have az := (stepA_adv (T := T) (i := r.2) [59]); generalize stepA T r.2 [59] = i5 at *; go_wp2_with fail; refine (HSl.out _).mono ?_; rintro e w2 ⟨rfl, rfl⟩; have HRr := zD (own_below HR.out ((Below.refl _ wr).alloc zn (.cells #[sT nm.1, sT br.1, .int .u8 (r.1 : Nat), sT y, eS] 92))); have HOG := own_ge HRr.out; obtain ⟨i0, hi0, hz0, hz1, hz2⟩ := info_parts info_mth
     go_wp2_with (first
      | (at_builtin; refine wpList_append_own _ rfl _ _ 110 rfl w.heap.size 92 i0 (.agg #[eS, eS, .int .u8 0, eS, eS]) 5 72 Tryz.underlying110 hi0 hz0 hz1 hz2 rfl (by decide) _ _ _ rfl (HRr.out.alloc _) ⟨wr.heap.size + 1, 0, none⟩ 1 1 [sT nm.1, sT br.1, .int .u8 (r.1 : Nat), sT y, eS] rfl rfl (World.news_of_block (cs := #[sT nm.1, sT br.1, .int .u8 (r.1 : Nat), sT y, eS]) (t := 92) (fr := (0, 0)) (heap_alloc_new2 wr _ _)) (by intro u hu; simp only [List.mem_cons, List.not_mem_nil, or_false] at hu; rcases hu with rfl | rfl | rfl | rfl | rfl <;> rfl) (by unfold maxLen; omega) (by omega) (by simp; omega) ?_; intro v' w7 hown7 hgrow _; obtain ⟨xa, xc, rfl⟩ := own_slice hown7; have HGR := zD hgrow)
      | fail)
     have HB7 := zD (srt_round HOG (HB.out.alloc HB.out.size _) HGR.out)
     have hfar : Pl T i5 ∧ (i5 < 0 ∨ k < i5) := by
      refine ⟨pz, ?_⟩; unfold Adv at *; omega
     have hfl := hfar.1; unfold Pl at hfl; exact ⟨⟨i5, F, S ++ [⟨nm.1, br.1, r.1, y, []⟩], rfl, hfar.1, fun h => ⟨by simp; omega, by omega⟩, by simp; omega, by rw [List.length_append, mcells_append]; exact hown7, HB7, HNX⟩, by show (if i5 < 0 then 0 else T.length + 1 - i5.toNat) < (if (k : Int) < 0 then 0 else T.length + 1 - (k : Int).toNat); rw [if_neg (show ¬ (k : Int) < 0 by omega)]; split <;> omega⟩
    have HTu := zD (fun A => HT.out (wr.alloc A) (HB.out.alloc HB.out.size A) _ p5); by_cases h6 : textA T r.2 = wUndo
    ·have hu : undoA T r.2 = nameA T (r.2 + 1) := by unfold undoA; rw [if_pos ⟨by omega, h6⟩]
     have h9 := HNX0.out; rw [hu] at h9; have HNX := zD h9; clear h9; rw [hu] at pu au; have p6 := succ_pl h5 (T := T) (by rw [h6]; decide); have HN6 := zD (fun A => HN.out (wr.alloc A) (HB.out.alloc HB.out.size A) _ p6); rw [zt h6] at e_u; have hr3 : r.2 < T.length := by have := p6.2; omega
     clear hu HNX0 h6 p6; generalize textA T r.2 = z at *; generalize nameA T (r.2 + 1) = un at *; go_wp2_with fail; refine (HTu.out _).mono ?_; rintro e w2 ⟨rfl, rfl⟩; go_wp2_with fail; refine (HN6.out _).mono ?_; rintro e w2 ⟨rfl, rfl⟩; have HSl := zD (fun A => HS.out (wr.alloc A) (HB.out.alloc HB.out.size A) _ pu [59]); have pz := stepA_pl (x := [59]) (by simp) pu; have az := (stepA_adv (T := T) (i := un.2) [59]); generalize stepA T un.2 [59] = i5 at *; go_wp2_with fail; refine (HSl.out _).mono ?_; rintro e w2 ⟨rfl, rfl⟩; have HRr := zD (own_below HR.out ((Below.refl _ wr).alloc zn (.cells #[sT nm.1, sT br.1, .int .u8 (r.1 : Nat), sT y, sT un.1] 92))); have HOG := own_ge HRr.out; obtain ⟨i0, hi0, hz0, hz1, hz2⟩ := info_parts info_mth
     go_wp2_with (first
      | (at_builtin; refine wpList_append_own _ rfl _ _ 110 rfl w.heap.size 92 i0 (.agg #[eS, eS, .int .u8 0, eS, eS]) 5 72 Tryz.underlying110 hi0 hz0 hz1 hz2 rfl (by decide) _ _ _ rfl (HRr.out.alloc _) ⟨wr.heap.size + 1, 0, none⟩ 1 1 [sT nm.1, sT br.1, .int .u8 (r.1 : Nat), sT y, sT un.1] rfl rfl (World.news_of_block (cs := #[sT nm.1, sT br.1, .int .u8 (r.1 : Nat), sT y, sT un.1]) (t := 92) (fr := (0, 0)) (heap_alloc_new2 wr _ _)) (by intro u hu; simp only [List.mem_cons, List.not_mem_nil, or_false] at hu; rcases hu with rfl | rfl | rfl | rfl | rfl <;> rfl) (by unfold maxLen; omega) (by omega) (by simp; omega) ?_; intro v' w7 hown7 hgrow _; obtain ⟨xa, xc, rfl⟩ := own_slice hown7; have HGR := zD hgrow)
      | fail)
     have HB7 := zD (srt_round HOG (HB.out.alloc HB.out.size _) HGR.out)
     have hfar : Pl T i5 ∧ (i5 < 0 ∨ k < i5) := by
      refine ⟨pz, ?_⟩; unfold Adv at *; omega
     have hfl := hfar.1; unfold Pl at hfl; exact ⟨⟨i5, F, S ++ [⟨nm.1, br.1, r.1, y, un.1⟩], rfl, hfar.1, fun h => ⟨by simp; omega, by omega⟩, by simp; omega, by rw [List.length_append, mcells_append]; exact hown7, HB7, HNX⟩, by show (if i5 < 0 then 0 else T.length + 1 - i5.toNat) < (if (k : Int) < 0 then 0 else T.length + 1 - (k : Int).toNat); rw [if_neg (show ¬ (k : Int) < 0 by omega)]; split <;> omega⟩
    ·have hu : undoA T r.2 = ([], r.2) := by unfold undoA; rw [if_neg (fun h => h6 h.2)]
     have h9 := HNX0.out; rw [hu] at h9; have HNX := zD h9; clear h9; rw [hu] at pu au; rw [zf h6] at e_u; clear hu HNX0 h6; dsimp only at pu au; generalize textA T r.2 = z at *; go_wp2_with fail; refine (HTu.out _).mono ?_; rintro e w2 ⟨rfl, rfl⟩; have HSl := zD (fun A => HS.out (wr.alloc A) (HB.out.alloc HB.out.size A) _ pu [59]); have pz := stepA_pl (x := [59]) (by simp) pu; have az := (stepA_adv (T := T) (i := r.2) [59]); generalize stepA T r.2 [59] = i5 at *; go_wp2_with fail; refine (HSl.out _).mono ?_; rintro e w2 ⟨rfl, rfl⟩; have HRr := zD (own_below HR.out ((Below.refl _ wr).alloc zn (.cells #[sT nm.1, sT br.1, .int .u8 (r.1 : Nat), sT y, eS] 92))); have HOG := own_ge HRr.out; obtain ⟨i0, hi0, hz0, hz1, hz2⟩ := info_parts info_mth
     go_wp2_with (first
      | (at_builtin; refine wpList_append_own _ rfl _ _ 110 rfl w.heap.size 92 i0 (.agg #[eS, eS, .int .u8 0, eS, eS]) 5 72 Tryz.underlying110 hi0 hz0 hz1 hz2 rfl (by decide) _ _ _ rfl (HRr.out.alloc _) ⟨wr.heap.size + 1, 0, none⟩ 1 1 [sT nm.1, sT br.1, .int .u8 (r.1 : Nat), sT y, eS] rfl rfl (World.news_of_block (cs := #[sT nm.1, sT br.1, .int .u8 (r.1 : Nat), sT y, eS]) (t := 92) (fr := (0, 0)) (heap_alloc_new2 wr _ _)) (by intro u hu; simp only [List.mem_cons, List.not_mem_nil, or_false] at hu; rcases hu with rfl | rfl | rfl | rfl | rfl <;> rfl) (by unfold maxLen; omega) (by omega) (by simp; omega) ?_; intro v' w7 hown7 hgrow _; obtain ⟨xa, xc, rfl⟩ := own_slice hown7; have HGR := zD hgrow)
      | fail)
     have HB7 := zD (srt_round HOG (HB.out.alloc HB.out.size _) HGR.out)
     have hfar : Pl T i5 ∧ (i5 < 0 ∨ k < i5) := by
      refine ⟨pz, ?_⟩; unfold Adv at *; omega
     have hfl := hfar.1; unfold Pl at hfl; exact ⟨⟨i5, F, S ++ [⟨nm.1, br.1, r.1, y, []⟩], rfl, hfar.1, fun h => ⟨by simp; omega, by omega⟩, by simp; omega, by rw [List.length_append, mcells_append]; exact hown7, HB7, HNX⟩, by show (if i5 < 0 then 0 else T.length + 1 - i5.toNat) < (if (k : Int) < 0 then 0 else T.length + 1 - (k : Int).toNat); rw [if_neg (show ¬ (k : Int) < 0 by omega)]; split <;> omega⟩
  ·have hQ : Q = ([], -1 - (k : Int)) := by rw [HBAD.out (by simpa using hok)]; unfold shutA ahead; rw [if_pos (show (-1 - (k : Int) : Int) < 0 by omega)]
   have c1 : y ≠ wGive := by rintro rfl; exact hok (by decide)
   have c2 : y ≠ wTake := by rintro rfl; exact hok (by decide)
   have c3 : y ≠ wNote := by rintro rfl; exact hok (by decide)
   rw [zf c1] at e_g f_g; rw [zf c2] at e_t f_t; rw [zf c3] at e_n f_n; clear HBAD HNON HNX HSU c1 c2 c3 hok; subst hQ; go_wp2_with fail; exact zR (v := .tuple #[.slice none 0 0, iV (-1 - (k : Int))]) ⟨_, rfl, World.ownsRow_nil _ _ _ _, HB.out.alloc HB.out.size _⟩
def doA (T : List Tok) (i : Int) : Tx × Tx × Int := ((nameA T (stepA T i wDo)).1, (nameA T (stepA T (nameA T (stepA T i wDo)).2 [46])).1, stepA T (nameA T (stepA T (nameA T (stepA T i wDo)).2 [46])).2 wAt)
def atA (T : List Tok) (j : Int) : Option (Nat × Int) := if j < 0 then some (0, j) else match T[j.toNat]? with
 | none => none
 | some t => if t.kind = 2 then some (t.num, j + 1) else none
theorem atA_far {T : List Tok} {i : Int} {r : Nat × Int} (h : Pl T i) (hr : atA T i = some r) : Pl T r.2 ∧ (Adv i r.2 ∨ r.2 = i) := by
 unfold atA at hr
 by_cases h0 : i < 0
 ·rw [if_pos h0] at hr; obtain rfl := Option.some.inj hr; exact ⟨h, .inr rfl⟩
 ·rw [if_neg h0] at hr
  by_cases hl : i.toNat < T.length
  ·rw [List.getElem?_eq_getElem hl] at hr
   dsimp only at hr; split at hr
   ·obtain rfl := Option.some.inj hr
    exact ⟨⟨by show _ ≤ i + 1; omega, by show i + 1 ≤ _; omega⟩, .inl (.inr ⟨by omega, by show i < i + 1; omega⟩)⟩
   ·cases hr
  ·rw [List.getElem?_eq_none (by omega)] at hr; cases hr
theorem steps_eq (l : List Tok) (k : Nat) (i : Int) : stepsA l (k + 1) i = (
  if i < 0 ∨ textA l i = [125] then ([], i)
  else
   let s := nameA l (stepA l i wDo)
   let m := nameA l (stepA l s.2 [46])
   let j := stepA l m.2 wAt
   if j < 0 then let q := stepsA l k (stepA l j [59]); (⟨s.1, m.1, 0⟩ :: q.1, q.2)
   else match l[j.toNat]? with
    | none => ([], -1 - j)
    | some t => if t.kind = 2 then let q := stepsA l k (stepA l (j + 1) [59]); (⟨s.1, m.1, t.num⟩ :: q.1, q.2) else ([], -1 - j)) := by kernel_rfl
theorem steps_neg {T : List Tok} {F : Nat} {i : Int} (h : i < 0) : stepsA T F i = ([], i) := by
 cases F with
 | zero => rfl
 | succ F => rw [steps_eq, if_pos (.inl h)]
theorem steps_shut {T : List Tok} {F : Nat} {i : Int} (h : textA T i = [125]) : stepsA T (F + 1) i = ([], i) := by rw [steps_eq, if_pos (.inr h)]
theorem steps_none {T : List Tok} {F : Nat} {i : Int} (h0 : ¬ i < 0) (h : textA T i ≠ [125]) (hr : atA T (doA T i).2.2 = none) : stepsA T (F + 1) i = ([], -1 - (doA T i).2.2) := by
 rw [steps_eq, if_neg (by simp [h0, h])]
 unfold atA at hr
 by_cases hj : (doA T i).2.2 < 0
 ·rw [if_pos hj] at hr; cases hr
 ·rw [if_neg hj] at hr
  dsimp only [doA] at hr hj ⊢; rw [if_neg hj]; cases ht : T[(stepA T (nameA T (stepA T (nameA T (stepA T i wDo)).2 [46])).2 wAt).toNat]? with
  | none => rfl
  | some t =>
   rw [ht] at hr; dsimp only at hr ⊢; split at hr
   ·cases hr
   ·rw [if_neg (by assumption)]
theorem steps_next {T : List Tok} {F : Nat} {i : Int} {S : List Stp} {r : Nat × Int} (h0 : ¬ i < 0) (h : textA T i ≠ [125]) (hr : atA T (doA T i).2.2 = some r) :
  ahead S (stepsA T (F + 1) i) = ahead (S ++ [⟨(doA T i).1, (doA T i).2.1, (r.1 : Nat)⟩]) (stepsA T F (stepA T r.2 [59])) := by
 rw [steps_eq, if_neg (by simp [h0, h])]
 unfold atA at hr
 by_cases hj : (doA T i).2.2 < 0
 ·rw [if_pos hj] at hr
  obtain rfl := Option.some.inj hr; dsimp only [doA] at hj ⊢; rw [if_pos hj]; simp [ahead]
 ·rw [if_neg hj] at hr
  dsimp only [doA] at hr hj ⊢; rw [if_neg hj]; cases ht : T[(stepA T (nameA T (stepA T (nameA T (stepA T i wDo)).2 [46])).2 wAt).toNat]? with
  | none => rw [ht] at hr; cases hr
  | some t =>
   rw [ht] at hr; dsimp only at hr ⊢; split at hr
   ·rename_i hk
    obtain rfl := Option.some.inj hr; rw [if_pos hk]; simp [ahead]
   ·cases hr
def pcells : List Stp → List Value
 | [] => []
 | m :: l => sT m.service :: sT m.method :: iV m.node :: pcells l
theorem pcells_append : ∀ (l r : List Stp), pcells (l ++ r) = pcells l ++ pcells r
 | [], _ => rfl
 | t :: l, r => by simp [pcells, pcells_append l r]
theorem info_stp : (Tryz.prog.info? 108).map (fun i => (i.zero, i.size, i.bytes)) = some (some (.agg #[eS, eS, iV 0]), 3, 40) := by kernel_rfl
theorem steps_any (w : World) (v : Value) (T : List Tok) (h : Slc w 4 v T.length (tcells T)) (hL : T.length ≤ 65536) (hB : ∀ t ∈ T, t.text.length ≤ 65536) (i : Int) (hi : Pl T i) : Calls Tryz.prog 116 #[v, iV i] w fun e w' => ∃ u, e = .returned (.tuple #[u, iV (shutA (stepsA T (T.length + 1) (stepA T i [123]))).2]) ∧ w'.ownsRow w.heap.size 108 3 u (shutA (stepsA T (T.length + 1) (stepA T i [123]))).1.length (pcells (shutA (stepsA T (T.length + 1) (stepA T i [123]))).1) ∧ Below w.heap.size w w' := by
 have HT := zD (fun w' (X : Below w.heap.size w w') j (hj : Pl T j) => text_any w' v T (h.below X) hL j (by have := hj.1; omega) (by have := hj.2; omega))
 have HN := zD (fun w' (X : Below w.heap.size w w') j (hj : Pl T j) => namer_pl w' v T (h.below X) hL hB j hj)
 have HS := zD (fun w' (X : Below w.heap.size w w') j (hj : Pl T j) x => step_pl w' v T (h.below X) hL j hj x)
 have HV := zD h
 clear h hB
 have H1 := zD (HS.out w zl i hi [123])
 have hp := stepA_pl (x := [123]) (by simp) hi
 generalize stepA T i [123] = i1 at *
 generalize hq : shutA (stepsA T (T.length + 1) i1) = Q at *
 have HQ := zD (show Q = shutA (ahead [] (stepsA T (T.length + 1) i1)) from by rw [← hq]; rfl)
 clear hq
 go_enter Tryz.func116, Tryz.ntmps116
 go_wp2_with fail
 refine H1.out.mono ?_
 rintro e w1 ⟨rfl, rfl⟩
 go_wp2_with fail
 go_loopw [6, 1] (fun vl va wr => ∃ (j : Int) (F : Nat) (S : List Stp), va = iV j ∧ Pl T j ∧ (0 ≤ j → (S.length : Int) ≤ j ∧ (T.length : Int) < F + j) ∧ S.length ≤ T.length + 1 ∧ Hid (wr.ownsRow w.heap.size 108 3 vl S.length (pcells S)) ∧ Hid (Below w.heap.size w wr) ∧ Hid (Q = shutA (ahead S (stepsA T F j)))) (fun _ va _ => if intOf va < 0 then 0 else T.length + 1 - (intOf va).toNat)
 case atStart => exact ⟨i1, T.length + 1, [], rfl, hp, fun h => ⟨by simpa using h, by omega⟩, by simp, World.ownsRow_nil _ _ _ _, zl, HQ⟩
 case round =>
  clear HQ hp hi H1; obtain ⟨j, F, S, rfl, hp, hj, hS, HR, HB, HQ⟩ := hrel; obtain ⟨va, vc, rfl⟩ := own_slice HR.out; by_cases h0 : j < 0
  ·have hQ : Q = ([], j) := by rw [HQ.out, steps_neg h0]; unfold shutA ahead; rw [if_pos h0]
   clear HQ hj; subst hQ; go_wp2_with fail; exact zR (v := .tuple #[.slice none 0 0, iV j]) ⟨_, rfl, World.ownsRow_nil _ _ _ _, HB.out⟩
  obtain ⟨k, rfl⟩ : ∃ k : Nat, j = (k : Int) := ⟨j.toNat, by omega⟩; obtain ⟨hSk, hF⟩ := hj (by omega); clear hj; have hk : k ≤ T.length := by have := hp.2; omega
  obtain ⟨F, rfl⟩ : ∃ F', F = F' + 1 := ⟨F - 1, by omega⟩; have HTk := zD (HT.out wr HB.out _ hp); have e_y := bT_is (textA T (k : Int)) [125]; by_cases hy : textA T (k : Int) = [125]
  ·have hQ : Q = (S, (k : Int) + 1) := by rw [HQ.out, steps_shut hy]; unfold shutA ahead; rw [if_neg h0]; simp
   rw [zt hy] at e_y; have e_z : (!((bT (textA T (k : Int))).toList == [125])) = false := by rw [e_y]; rfl
   clear hy HQ; generalize textA T (k : Int) = y at *; subst hQ; go_wp2_with fail; refine HTk.out.mono ?_; rintro e w2 ⟨rfl, rfl⟩; go_wp2_with fail; exact zR (v := .tuple #[.slice va S.length vc, iV ((k : Int) + 1)]) ⟨_, rfl, HR.out, HB.out⟩
  rw [zf hy] at e_y; have e_z : (!((bT (textA T (k : Int))).toList == [125])) = true := by rw [e_y]; rfl
  have HNO := zD (fun hr => HQ.out.trans (congrArg (fun q => shutA (ahead S q)) (steps_none (F := F) h0 hy hr))); have HNR := zD (fun r hr => HQ.out.trans (congrArg shutA (steps_next (F := F) (S := S) (r := r) h0 hy hr))); clear hy HQ h0; generalize textA T (k : Int) = y at *; go_wp2_with fail; refine HTk.out.mono ?_; rintro e w2 ⟨rfl, rfl⟩; have p0 := stepA_pl (x := wDo) (by decide) hp; have p1 := nameA_pl p0; have p2 := stepA_pl (x := [46]) (by simp) p1; have p3 := nameA_pl p2; have p4 := stepA_pl (x := wAt) (by decide) p3; have a4 : Adv (k : Int) (doA T (k : Int)).2.2 := ((((stepA_adv (T := T) (i := (k : Int)) wDo).trans (nameA_adv (T := T))).trans (stepA_adv (T := T) [46])).trans (nameA_adv (T := T))).trans (stepA_adv (T := T) wAt); have HS0 := zD (fun A => HS.out (wr.alloc A) (HB.out.alloc HB.out.size A) _ hp wDo); have HN1 := zD (fun A => HN.out (wr.alloc A) (HB.out.alloc HB.out.size A) _ p0); have HS2 := zD (fun A => HS.out (wr.alloc A) (HB.out.alloc HB.out.size A) _ p1 [46]); have HN3 := zD (fun A => HN.out (wr.alloc A) (HB.out.alloc HB.out.size A) _ p2); have HS4 := zD (fun A => HS.out (wr.alloc A) (HB.out.alloc HB.out.size A) _ p3 wAt); unfold doA at HNO HNR a4; have hsz := HB.out.size; generalize stepA T (k : Int) wDo = i2 at *; generalize nameA T i2 = nm at *; generalize stepA T nm.2 [46] = i3 at *; generalize nameA T i3 = mt at *; generalize stepA T mt.2 wAt = ja at *; dsimp only at HNO HNR a4; clear p0 p1 p2 p3; go_wp2_with fail; refine (HS0.out _).mono ?_; rintro e w2 ⟨rfl, rfl⟩; go_wp2_with fail; refine (HN1.out _).mono ?_; rintro e w2 ⟨rfl, rfl⟩; go_wp2_with fail; refine (HS2.out _).mono ?_; rintro e w2 ⟨rfl, rfl⟩; go_wp2_with fail; refine (HN3.out _).mono ?_; rintro e w2 ⟨rfl, rfl⟩; go_wp2_with fail; refine (HS4.out _).mono ?_; rintro e w2 ⟨rfl, rfl⟩; clear HS0 HN1 HS2 HN3 HS4 HTk; go_upto_if 43 with (fail); go_cut [1] (fun v1 wc => ∃ r : Nat × Int, v1 = iV r.2 ∧ Hid (atA T ja = some r) ∧ wc = wr.alloc (.cells #[sT nm.1, sT mt.1, iV (r.1 : Nat)] 108))
  case first =>
   by_cases hj0 : ja < 0
   ·have hr : atA T ja = some (0, ja) := by unfold atA; rw [if_pos hj0]
    have HR1 := zD hr; clear hr; go_wp2_with fail; go_meet; exact ⟨(0, ja), rfl, HR1, rfl⟩
   obtain ⟨n, rfl⟩ : ∃ n : Nat, ja = (n : Int) := ⟨ja.toNat, by omega⟩; have hn2 : n ≤ T.length := by have := p4.2; omega
   obtain ⟨⟨a, c, rfl, q1, q2, q3, q4⟩, -⟩ := HV.out; have HRS := zD (show atA T (n : Int) = (match T[n]? with | none => none | some t => if t.kind = 2 then some (t.num, (n : Int) + 1) else none) from by unfold atA; rw [if_neg hj0, Int.toNat_natCast]); by_cases h1 : T.length ≤ n
   ·have hr : atA T (n : Int) = none := by rw [HRS.out, List.getElem?_eq_none h1]
    have hQ : Q = ([], -1 - (n : Int)) := by rw [HNO.out hr]; unfold shutA ahead; rw [if_pos (show (-1 - (n : Int) : Int) < 0 by omega)]
    clear HRS HNO HNR hr q4; subst hQ; go_wp2_with fail; exact zR (v := .tuple #[.slice none 0 0, iV (-1 - (n : Int))]) ⟨_, rfl, World.ownsRow_nil _ _ _ _, HB.out.alloc HB.out.size _⟩
   have h1 : n < T.length := by omega
   obtain ⟨b, o, rfl, hb, hc⟩ := q4 (by omega); obtain ⟨a0, a1, a2, a3⟩ := tcells_at T n h1; have HRS2 := zD (show atA T (n : Int) = if T[n].kind = 2 then some (T[n].num, (n : Int) + 1) else none from by rw [HRS.out, List.getElem?_eq_getElem h1]); have c0 := (HB.out.cell (p := ⟨b, o + n * 4, none⟩) hb).trans (hc _ _ a0); have c2 : wr.cell? ⟨b, o + n * 4 + 2, none⟩ = _ := (congrArg (fun x => wr.cell? ⟨b, x, none⟩) (Nat.add_assoc _ _ _)).trans ((HB.out.cell (p := ⟨b, o + (n * 4 + 2), none⟩) hb).trans (hc _ _ a2)); have hbr : b < wr.heap.size := by omega
   clear hc a0 a1 a2 a3 q4 HRS HV HT HN HS; generalize T[n] = t at *; by_cases hkd : t.kind = 2
   ·have hr : atA T (n : Int) = some (t.num, (n : Int) + 1) := by rw [HRS2.out, if_pos hkd]
    have HR1 := zD hr; rw [hkd] at c0; clear hr HRS2 hkd HNO HNR; go_wp2_with fail; go_meet; exact ⟨(t.num, (n : Int) + 1), rfl, HR1, rfl⟩
   ·have hr : atA T (n : Int) = none := by rw [HRS2.out, if_neg hkd]
    have hQ : Q = ([], -1 - (n : Int)) := by rw [HNO.out hr]; unfold shutA ahead; rw [if_pos (show (-1 - (n : Int) : Int) < 0 by omega)]
    have hk1 : ((t.kind : Int) == 2) = false := by simp; omega
    clear HRS2 HNO HNR hr; subst hQ; go_wp2_with fail; exact zR (v := .tuple #[.slice none 0 0, iV (-1 - (n : Int))]) ⟨_, rfl, World.ownsRow_nil _ _ _ _, HB.out.alloc HB.out.size _⟩
  case rest =>
   obtain ⟨r, rfl, HRS, rfl⟩ := hcut; clear HNO HV; obtain ⟨p5, a5⟩ := atA_far p4 HRS.out; have HNX := zD (HNR.out r HRS.out); clear HNR HRS; have HSl := zD (fun A => HS.out (wr.alloc A) (HB.out.alloc HB.out.size A) _ p5 [59]); have pz := stepA_pl (x := [59]) (by simp) p5; have az := (stepA_adv (T := T) (i := r.2) [59]); generalize stepA T r.2 [59] = i5 at *; go_wp2_with fail; refine (HSl.out _).mono ?_; rintro e w2 ⟨rfl, rfl⟩; have HRr := zD (own_below HR.out ((Below.refl _ wr).alloc zn (.cells #[sT nm.1, sT mt.1, iV (r.1 : Nat)] 108))); have HOG := own_ge HRr.out; obtain ⟨i0, hi0, hz0, hz1, hz2⟩ := info_parts info_stp
   go_wp2_with (first
    | (at_builtin; refine wpList_append_own _ rfl _ _ 65 rfl w.heap.size 108 i0 (.agg #[eS, eS, iV 0]) 3 40 Tryz.underlying65 hi0 hz0 hz1 hz2 rfl (by decide) _ _ _ rfl (HRr.out.alloc _) ⟨wr.heap.size + 1, 0, none⟩ 1 1 [sT nm.1, sT mt.1, iV (r.1 : Nat)] rfl rfl (World.news_of_block (cs := #[sT nm.1, sT mt.1, iV (r.1 : Nat)]) (t := 108) (fr := (0, 0)) (heap_alloc_new2 wr _ _)) (by intro u hu; simp only [List.mem_cons, List.not_mem_nil, or_false] at hu; rcases hu with rfl | rfl | rfl <;> rfl) (by unfold maxLen; omega) (by omega) (by simp; omega) ?_; intro v' w7 hown7 hgrow _; obtain ⟨xa, xc, rfl⟩ := own_slice hown7; have HGR := zD hgrow)
    | fail)
   have HB7 := zD (srt_round HOG (HB.out.alloc HB.out.size _) HGR.out)
   have hfar : Pl T i5 ∧ (i5 < 0 ∨ k < i5) := by
    refine ⟨pz, ?_⟩; unfold Adv at *; omega
   have hfl := hfar.1; unfold Pl at hfl; exact ⟨⟨i5, F, S ++ [⟨nm.1, mt.1, (r.1 : Nat)⟩], rfl, hfar.1, fun h => ⟨by simp; omega, by omega⟩, by simp; omega, by rw [List.length_append, pcells_append]; exact hown7, HB7, HNX⟩, by show (if i5 < 0 then 0 else T.length + 1 - i5.toNat) < (if (k : Int) < 0 then 0 else T.length + 1 - (k : Int).toNat); rw [if_neg (show ¬ (k : Int) < 0 by omega)]; split <;> omega⟩
section
open Go.RowKit
def Keeps (P : TypeId → Prop) (w w' : World) : Prop := ∀ B T k u n xs, P T → w.ownsRow B T k u n xs → w'.ownsRow B T k u n xs
theorem Keeps.trans {P : TypeId → Prop} {w w' w'' : World} (h : Keeps P w w') (h' : Keeps P w' w'') : Keeps P w w'' := fun B T k u n xs hp hr => h' B T k u n xs hp (h B T k u n xs hp hr)
theorem Keeps.below {P : TypeId → Prop} {w w' : World} (hb : Below w.heap.size w w') : Keeps P w w' := fun _ _ _ _ _ _ _ hr => own_below hr hb
theorem Keeps.grown {P : TypeId → Prop} {w w' : World} {B' : Nat} {T' : TypeId} {k' : Nat} {v' : Value} {n' : Nat} {xs' : List Value} (h' : w.ownsRow B' T' k' v' n' xs') (hP : ∀ T, P T → T ≠ T') (hg : w.grownBy w' v'.ownBlock) : Keeps P w w' := fun _ T _ _ _ _ hp hr => own_grown hr h' (hP T hp) hg
theorem Keeps.set {P : TypeId → Prop} {w : World} {b : Nat} {cs : Array Value} {T' : TypeId} (hb : w.heap[b]? = some (.cells cs T' (0, 0))) (hP : ∀ T, P T → T ≠ T') (o : Nat) (u : Value) : Keeps P w (w.setCell ⟨b, o, none⟩ u) := fun _ T _ _ _ _ hp hr => own_set hr hb (hP T hp) o u
def recE (B : Nat) (w : World) (r : Rec) (c : List Value) : Prop := ∃ u xs, c = [sT r.name, .bool r.choice, u] ∧ w.ownsRow B 77 2 u r.fields.length xs ∧ Rows (fldE B) w r.fields xs
def svcE (B : Nat) (w : World) (r : Svc) (c : List Value) : Prop := ∃ u, c = [sT r.name, u] ∧ w.ownsRow B 92 5 u r.methods.length (mcells r.methods)
def sgaE (B : Nat) (w : World) (r : Sga) (c : List Value) : Prop := ∃ u, c = [sT r.name, sT r.arg, u] ∧ w.ownsRow B 108 3 u r.steps.length (pcells r.steps)
theorem fldE_keep {P : TypeId → Prop} {B : Nat} {w w' : World} (h : Keeps P w w') (h1 : P 79) (f : Fld) (c : List Value) : fldE B w f c → fldE B w' f c := fun ⟨u, e, r⟩ => ⟨u, e, h _ _ _ _ _ _ h1 r⟩
theorem fldE_base {B B' : Nat} {w : World} (hB : B' ≤ B) (f : Fld) (c : List Value) : fldE B w f c → fldE B' w f c := fun ⟨u, e, r⟩ => ⟨u, e, own_base r hB⟩
theorem recE_keep {P : TypeId → Prop} {B : Nat} {w w' : World} (h : Keeps P w w') (h1 : P 79) (h2 : P 77) (f : Rec) (c : List Value) : recE B w f c → recE B w' f c := fun ⟨u, xs, e, r, q⟩ => ⟨u, xs, e, h _ _ _ _ _ _ h2 r, q.mono (fldE_keep h h1)⟩
theorem svcE_keep {P : TypeId → Prop} {B : Nat} {w w' : World} (h : Keeps P w w') (h1 : P 92) (f : Svc) (c : List Value) : svcE B w f c → svcE B w' f c := fun ⟨u, e, r⟩ => ⟨u, e, h _ _ _ _ _ _ h1 r⟩
theorem sgaE_keep {P : TypeId → Prop} {B : Nat} {w w' : World} (h : Keeps P w w') (h1 : P 108) (f : Sga) (c : List Value) : sgaE B w f c → sgaE B w' f c := fun ⟨u, e, r⟩ => ⟨u, e, h _ _ _ _ _ _ h1 r⟩
structure SchW (w0 w : World) (s : Sch) (ur us ug : Value) (xr xs xg : List Value) : Prop where
 res : w.heap[w0.heap.size]? = some (.cells #[eS, .slice none 0 0, .slice none 0 0, .slice none 0 0] 26 (0, 0))
 var : w.heap[w0.heap.size + 1]? = some (.cells #[sT s.name, ur, us, ug] 26 (0, 0))
 bel : Below w0.heap.size w0 w
 rr : w.ownsRow (w0.heap.size + 2) 74 3 ur s.records.length xr
 rE : Rows (recE (w0.heap.size + 2)) w s.records xr
 sr : w.ownsRow (w0.heap.size + 2) 112 2 us s.services.length xs
 sE : Rows (svcE (w0.heap.size + 2)) w s.services xs
 gr : w.ownsRow (w0.heap.size + 2) 67 3 ug s.sagas.length xg
 gE : Rows (sgaE (w0.heap.size + 2)) w s.sagas xg
section
variable {w0 w w' : World} {s : Sch} {ur us ug : Value} {xr xs xg : List Value}
theorem SchW.lt (h : SchW w0 w s ur us ug xr xs xg) : w0.heap.size + 1 < w.heap.size := (zq h.var).1
theorem SchW.below (h : SchW w0 w s ur us ug xr xs xg) (hb : Below w.heap.size w w') : SchW w0 w' s ur us ug xr xs xg := by
 have l := h.lt
 have K : Keeps (fun _ => True) w w' := Keeps.below hb
 exact ⟨(hb.block _ (by omega)).trans h.res, (hb.block _ (by omega)).trans h.var, h.bel.trans (hb.mono (by omega)), K _ _ _ _ _ _ trivial h.rr, h.rE.mono (recE_keep K trivial trivial), K _ _ _ _ _ _ trivial h.sr, h.sE.mono (svcE_keep K trivial), K _ _ _ _ _ _ trivial h.gr, h.gE.mono (sgaE_keep K trivial)⟩
theorem grown_keeps {T' : TypeId} {k' n' : Nat} {v' : Value} {ys : List Value} (h : SchW w0 w s ur us ug xr xs xg) (hr : w.ownsRow (w0.heap.size + 2) T' k' v' n' ys) (hg : w.grownBy w' v'.ownBlock) (o : Nat) (u : Value) :
  Keeps (fun T => T ≠ T' ∧ T ≠ 26) w (w'.setCell ⟨w0.heap.size + 1, o, none⟩ u) ∧ (w'.setCell ⟨w0.heap.size + 1, o, none⟩ u).heap[w0.heap.size]? = some (.cells #[eS, .slice none 0 0, .slice none 0 0, .slice none 0 0] 26 (0, 0)) ∧ (w'.setCell ⟨w0.heap.size + 1, o, none⟩ u).heap[w0.heap.size + 1]? = some (.cells ((#[sT s.name, ur, us, ug] : Array Value).setIfInBounds o u) 26 (0, 0)) ∧ Below w0.heap.size w0 (w'.setCell ⟨w0.heap.size + 1, o, none⟩ u) ∧ w'.heap[w0.heap.size + 1]? = some (.cells #[sT s.name, ur, us, ug] 26 (0, 0)) := by
 have l := h.lt
 have hge := own_ge hr
 have e0 : w'.heap[w0.heap.size]? = w.heap[w0.heap.size]? := hg.block _ (by omega) (fun e => by have := (hge _ e.symm).1; omega)
 have e1 : w'.heap[w0.heap.size + 1]? = w.heap[w0.heap.size + 1]? := hg.block _ (by omega) (fun e => by have := (hge _ e.symm).1; omega)
 have e1' := e1.trans h.var
 have hb : Below w0.heap.size w0 w' := h.bel.grown hg (by omega) (fun k e => by have := (hge _ e).1; omega)
 refine ⟨(Keeps.grown hr (fun T hT => hT.1) hg).trans (Keeps.set e1' (fun T hT => hT.2) o u), ?_, ?_, hb.setCell (p := ⟨w0.heap.size + 1, o, none⟩) (by show w0.heap.size ≤ w0.heap.size + 1; omega) u, e1'⟩
 ·rw [show (w'.setCell ⟨w0.heap.size + 1, o, none⟩ u).heap[w0.heap.size]? = w'.heap[w0.heap.size]? from Below.heap_setCell _ _ _ _ (by show w0.heap.size ≠ w0.heap.size + 1; omega)]
  exact e0.trans h.res
 ·simp [World.setCell, Array.getElem?_modify, e1']
theorem SchW.addRec {ur' : Value} {r : Rec} {c : List Value} (h : SchW w0 w s ur us ug xr xs xg) (hg : w.grownBy w' ur.ownBlock) (hrow : w'.ownsRow (w0.heap.size + 2) 74 3 ur' (s.records.length + 1) (xr ++ c)) (hc : recE (w0.heap.size + 2) w r c) :
  SchW w0 (w'.setCell ⟨w0.heap.size + 1, 1, none⟩ ur') { s with records := s.records ++ [r] } ur' us ug (xr ++ c) xs xg := by
 obtain ⟨K, e0, e1, hb, e2⟩ := grown_keeps h h.rr hg 1 ur'
 exact ⟨e0, e1, hb, by rw [List.length_append]; exact own_set hrow e2 (by decide) _ _, Rows.add (recE_keep K ⟨by decide, by decide⟩ ⟨by decide, by decide⟩ _ _ hc) (h.rE.mono (recE_keep K ⟨by decide, by decide⟩ ⟨by decide, by decide⟩)), K _ _ _ _ _ _ ⟨by decide, by decide⟩ h.sr, h.sE.mono (svcE_keep K ⟨by decide, by decide⟩), K _ _ _ _ _ _ ⟨by decide, by decide⟩ h.gr, h.gE.mono (sgaE_keep K ⟨by decide, by decide⟩)⟩
theorem SchW.addSvc {us' : Value} {r : Svc} {c : List Value} (h : SchW w0 w s ur us ug xr xs xg) (hg : w.grownBy w' us.ownBlock) (hrow : w'.ownsRow (w0.heap.size + 2) 112 2 us' (s.services.length + 1) (xs ++ c)) (hc : svcE (w0.heap.size + 2) w r c) :
  SchW w0 (w'.setCell ⟨w0.heap.size + 1, 2, none⟩ us') { s with services := s.services ++ [r] } ur us' ug xr (xs ++ c) xg := by
 obtain ⟨K, e0, e1, hb, e2⟩ := grown_keeps h h.sr hg 2 us'
 exact ⟨e0, e1, hb, K _ _ _ _ _ _ ⟨by decide, by decide⟩ h.rr, h.rE.mono (recE_keep K ⟨by decide, by decide⟩ ⟨by decide, by decide⟩), by rw [List.length_append]; exact own_set hrow e2 (by decide) _ _, Rows.add (svcE_keep K ⟨by decide, by decide⟩ _ _ hc) (h.sE.mono (svcE_keep K ⟨by decide, by decide⟩)), K _ _ _ _ _ _ ⟨by decide, by decide⟩ h.gr, h.gE.mono (sgaE_keep K ⟨by decide, by decide⟩)⟩
theorem SchW.addSga {ug' : Value} {r : Sga} {c : List Value} (h : SchW w0 w s ur us ug xr xs xg) (hg : w.grownBy w' ug.ownBlock) (hrow : w'.ownsRow (w0.heap.size + 2) 67 3 ug' (s.sagas.length + 1) (xg ++ c)) (hc : sgaE (w0.heap.size + 2) w r c) :
  SchW w0 (w'.setCell ⟨w0.heap.size + 1, 3, none⟩ ug') { s with sagas := s.sagas ++ [r] } ur us ug' xr xs (xg ++ c) := by
 obtain ⟨K, e0, e1, hb, e2⟩ := grown_keeps h h.gr hg 3 ug'
 exact ⟨e0, e1, hb, K _ _ _ _ _ _ ⟨by decide, by decide⟩ h.rr, h.rE.mono (recE_keep K ⟨by decide, by decide⟩ ⟨by decide, by decide⟩), K _ _ _ _ _ _ ⟨by decide, by decide⟩ h.sr, h.sE.mono (svcE_keep K ⟨by decide, by decide⟩), by rw [List.length_append]; exact own_set hrow e2 (by decide) _ _, Rows.add (sgaE_keep K ⟨by decide, by decide⟩ _ _ hc) (h.gE.mono (sgaE_keep K ⟨by decide, by decide⟩))⟩
end
def fldR (w : World) (f : Fld) (c : List Value) : Prop := ∃ u, c = [sT f.name, u] ∧ Slc w 2 u f.type.length (scells f.type)
def recR (w : World) (r : Rec) (c : List Value) : Prop := ∃ u xs, c = [sT r.name, .bool r.choice, u] ∧ Slc w 2 u r.fields.length xs ∧ Rows fldR w r.fields xs
def svcR (w : World) (r : Svc) (c : List Value) : Prop := ∃ u, c = [sT r.name, u] ∧ Slc w 5 u r.methods.length (mcells r.methods)
def sgaR (w : World) (r : Sga) (c : List Value) : Prop := ∃ u, c = [sT r.name, sT r.arg, u] ∧ Slc w 3 u r.steps.length (pcells r.steps)
structure SchR (w : World) (s : Sch) (ur us ug : Value) : Prop where
 rc : ∃ xr, Slc w 3 ur s.records.length xr ∧ Rows recR w s.records xr
 sv : ∃ xs, Slc w 2 us s.services.length xs ∧ Rows svcR w s.services xs
 sg : ∃ xg, Slc w 3 ug s.sagas.length xg ∧ Rows sgaR w s.sagas xg
theorem fldR_below {w w' : World} (hb : Below w.heap.size w w') (f : Fld) (c : List Value) : fldR w f c → fldR w' f c := fun ⟨u, e, r⟩ => ⟨u, e, r.below hb⟩
theorem recR_below {w w' : World} (hb : Below w.heap.size w w') (f : Rec) (c : List Value) : recR w f c → recR w' f c := fun ⟨u, xs, e, r, q⟩ => ⟨u, xs, e, r.below hb, q.mono (fldR_below hb)⟩
theorem svcR_below {w w' : World} (hb : Below w.heap.size w w') (f : Svc) (c : List Value) : svcR w f c → svcR w' f c := fun ⟨u, e, r⟩ => ⟨u, e, r.below hb⟩
theorem sgaR_below {w w' : World} (hb : Below w.heap.size w w') (f : Sga) (c : List Value) : sgaR w f c → sgaR w' f c := fun ⟨u, e, r⟩ => ⟨u, e, r.below hb⟩
theorem SchR.below {w w' : World} {s : Sch} {ur us ug : Value} (h : SchR w s ur us ug) (hb : Below w.heap.size w w') : SchR w' s ur us ug :=
 ⟨let ⟨x, a, b⟩ := h.rc; ⟨x, a.below hb, b.mono (recR_below hb)⟩, let ⟨x, a, b⟩ := h.sv; ⟨x, a.below hb, b.mono (svcR_below hb)⟩, let ⟨x, a, b⟩ := h.sg; ⟨x, a.below hb, b.mono (sgaR_below hb)⟩⟩
theorem Rows.map {α : Type} {E E' : World → α → List Value → Prop} {w w' : World} (h : ∀ a c, E w a c → E' w' a c) : ∀ {l : List α} {xs : List Value}, Rows E w l xs → Rows E' w' l xs
 | [], _, e => e
 | _ :: _, _, ⟨c, ys, e, h1, h2⟩ => ⟨c, ys, e, h _ _ h1, Rows.map h h2⟩
structure SchO (B : Nat) (w : World) (s : Sch) (ur us ug : Value) : Prop where
 rc : ∃ xr, w.ownsRow B 74 3 ur s.records.length xr ∧ Rows (recE B) w s.records xr
 sv : ∃ xs, w.ownsRow B 112 2 us s.services.length xs ∧ Rows (svcE B) w s.services xs
 sg : ∃ xg, w.ownsRow B 67 3 ug s.sagas.length xg ∧ Rows (sgaE B) w s.sagas xg
def KeepsB (B : Nat) (w w' : World) : Prop := ∀ T k u n xs, w.ownsRow B T k u n xs → w'.ownsRow B T k u n xs
theorem KeepsB.below {B : Nat} {w w' : World} (hb : Below w.heap.size w w') : KeepsB B w w' := fun _ _ _ _ _ hr => own_below hr hb
theorem KeepsB.set {B b : Nat} (w : World) (hb : b < B) (o : Nat) (u : Value) : KeepsB B w (w.setCell ⟨b, o, none⟩ u) := fun T k v n xs h => by
 refine h.kept (row := some b) ⟨rfl, rfl, rfl, by simp [World.setCell], fun j _ hj => Below.heap_setCell _ _ _ _ (fun e => hj (by rw [e]))⟩ ?_
 have := own_ge h
 cases hv : v.ownBlock with
 | none => simp
 | some x => have := (this x hv).1; simp; omega
theorem KeepsB.trans {B : Nat} {w w' w'' : World} (h : KeepsB B w w') (h' : KeepsB B w' w'') : KeepsB B w w'' := fun _ _ _ _ _ hr => h' _ _ _ _ _ (h _ _ _ _ _ hr)
theorem SchO.keep {B : Nat} {w w' : World} {s : Sch} {ur us ug : Value} (h : SchO B w s ur us ug) (K : KeepsB B w w') : SchO B w' s ur us ug := by
 obtain ⟨⟨xr, a1, a2⟩, ⟨xs, b1, b2⟩, ⟨xg, c1, c2⟩⟩ := h
 have kf : ∀ f c, fldE B w f c → fldE B w' f c := fun _ _ ⟨u, e, r⟩ => ⟨u, e, K _ _ _ _ _ r⟩
 exact ⟨⟨xr, K _ _ _ _ _ a1, a2.mono (fun _ _ ⟨u, ys, e, r, q⟩ => ⟨u, ys, e, K _ _ _ _ _ r, q.mono kf⟩)⟩, ⟨xs, K _ _ _ _ _ b1, b2.mono (fun _ _ ⟨u, e, r⟩ => ⟨u, e, K _ _ _ _ _ r⟩)⟩, ⟨xg, K _ _ _ _ _ c1, c2.mono (fun _ _ ⟨u, e, r⟩ => ⟨u, e, K _ _ _ _ _ r⟩)⟩⟩
theorem SchO.base {B B' : Nat} {w : World} {s : Sch} {ur us ug : Value} (h : SchO B w s ur us ug) (hB : B' ≤ B) : SchO B' w s ur us ug := by
 obtain ⟨⟨xr, a1, a2⟩, ⟨xs, b1, b2⟩, ⟨xg, c1, c2⟩⟩ := h
 exact ⟨⟨xr, own_base a1 hB, a2.map (fun _ _ ⟨u, ys, e, r, q⟩ => ⟨u, ys, e, own_base r hB, q.map (fldE_base hB)⟩)⟩, ⟨xs, own_base b1 hB, b2.map (fun _ _ ⟨u, e, r⟩ => ⟨u, e, own_base r hB⟩)⟩, ⟨xg, own_base c1 hB, c2.map (fun _ _ ⟨u, e, r⟩ => ⟨u, e, own_base r hB⟩)⟩⟩
theorem SchO.read {B : Nat} {w : World} {s : Sch} {ur us ug : Value} (h : SchO B w s ur us ug) : SchR w s ur us ug := by
 obtain ⟨⟨xr, a1, a2⟩, ⟨xs, b1, b2⟩, ⟨xg, c1, c2⟩⟩ := h
 exact ⟨⟨xr, Slc.own a1, a2.map (fun _ _ ⟨u, ys, e, r, q⟩ => ⟨u, ys, e, Slc.own r, q.map (fun _ _ ⟨u, e, r⟩ => ⟨u, e, Slc.own r⟩)⟩)⟩, ⟨xs, Slc.own b1, b2.map (fun _ _ ⟨u, e, r⟩ => ⟨u, e, Slc.own r⟩)⟩, ⟨xg, Slc.own c1, c2.map (fun _ _ ⟨u, e, r⟩ => ⟨u, e, Slc.own r⟩)⟩⟩
theorem SchW.told {w0 w w' : World} {s : Sch} {ur us ug : Value} {xr xs xg : List Value} (h : SchW w0 w s ur us ug xr xs xg) (K : Keeps (fun T => T ≠ 26) w w') : SchO w0.heap.size w' s ur us ug :=
 SchO.base (B := w0.heap.size + 2) ⟨⟨xr, K _ _ _ _ _ _ (by decide) h.rr, h.rE.mono (recE_keep K (by decide) (by decide))⟩, ⟨xs, K _ _ _ _ _ _ (by decide) h.sr, h.sE.mono (svcE_keep K (by decide))⟩, ⟨xg, K _ _ _ _ _ _ (by decide) h.gr, h.gE.mono (sgaE_keep K (by decide))⟩⟩ (by omega)
theorem SchW.laid {w0 w : World} {s : Sch} {ur us ug : Value} {xr xs xg : List Value} (h : SchW w0 w s ur us ug xr xs xg) (a b c d : Value) :
  SchO w0.heap.size ((((w.setCell ⟨w0.heap.size, 0, none⟩ a).setCell ⟨w0.heap.size, 1, none⟩ b).setCell ⟨w0.heap.size, 2, none⟩ c).setCell ⟨w0.heap.size, 3, none⟩ d) s ur us ug ∧ Below w0.heap.size w0 ((((w.setCell ⟨w0.heap.size, 0, none⟩ a).setCell ⟨w0.heap.size, 1, none⟩ b).setCell ⟨w0.heap.size, 2, none⟩ c).setCell ⟨w0.heap.size, 3, none⟩ d) := by
 have e0 := h.res
 have step : ∀ {w1 : World} {cs : Array Value} (o : Nat) (u : Value), w1.heap[w0.heap.size]? = some (.cells cs 26 (0, 0)) → (w1.setCell ⟨w0.heap.size, o, none⟩ u).heap[w0.heap.size]? = some (.cells (cs.setIfInBounds o u) 26 (0, 0)) := fun o u h => by simp [World.setCell, Array.getElem?_modify, h]
 have e1 := step 0 a e0
 have e2 := step 1 b e1
 have e3 := step 2 c e2
 refine ⟨h.told ((((Keeps.set e0 (fun _ h => h) 0 a).trans (Keeps.set e1 (fun _ h => h) 1 b)).trans (Keeps.set e2 (fun _ h => h) 2 c)).trans (Keeps.set e3 (fun _ h => h) 3 d)), ?_⟩
 exact (((h.bel.setCell (p := ⟨w0.heap.size, 0, none⟩) zn a).setCell (p := ⟨w0.heap.size, 1, none⟩) zn b).setCell (p := ⟨w0.heap.size, 2, none⟩) zn c).setCell (p := ⟨w0.heap.size, 3, none⟩) zn d
theorem laid_cells {w : World} {b : Nat} {x0 x1 x2 x3 : Value} {T : TypeId} (h : w.heap[b]? = some (.cells #[x0, x1, x2, x3] T (0, 0))) :
  (∀ X, (w.setCell ⟨b, 0, none⟩ X).cell? ⟨b, 1, none⟩ = some x1) ∧ (∀ X Y, ((w.setCell ⟨b, 0, none⟩ X).setCell ⟨b, 1, none⟩ Y).cell? ⟨b, 2, none⟩ = some x2) ∧ (∀ X Y Z, (((w.setCell ⟨b, 0, none⟩ X).setCell ⟨b, 1, none⟩ Y).setCell ⟨b, 2, none⟩ Z).cell? ⟨b, 3, none⟩ = some x3) ∧
  (∀ X o, (w.setCell ⟨b, 0, none⟩ X).frozen? ⟨b, o, none⟩ = false) ∧ (∀ X Y o, ((w.setCell ⟨b, 0, none⟩ X).setCell ⟨b, 1, none⟩ Y).frozen? ⟨b, o, none⟩ = false) ∧ (∀ X Y Z o, (((w.setCell ⟨b, 0, none⟩ X).setCell ⟨b, 1, none⟩ Y).setCell ⟨b, 2, none⟩ Z).frozen? ⟨b, o, none⟩ = false) := by
 simp [World.cell?, World.frozen?, World.setCell, Array.getElem?_modify, h]
theorem laid_read {w : World} {b : Nat} {x0 x1 x2 x3 : Value} {T : TypeId} (h : w.heap[b]? = some (.cells #[x0, x1, x2, x3] T (0, 0))) (X Y Z U : Value) :
  ((((w.setCell ⟨b, 0, none⟩ X).setCell ⟨b, 1, none⟩ Y).setCell ⟨b, 2, none⟩ Z).setCell ⟨b, 3, none⟩ U).cell? ⟨b, 0, none⟩ = some X ∧ ((((w.setCell ⟨b, 0, none⟩ X).setCell ⟨b, 1, none⟩ Y).setCell ⟨b, 2, none⟩ Z).setCell ⟨b, 3, none⟩ U).cell? ⟨b, 1, none⟩ = some Y ∧ ((((w.setCell ⟨b, 0, none⟩ X).setCell ⟨b, 1, none⟩ Y).setCell ⟨b, 2, none⟩ Z).setCell ⟨b, 3, none⟩ U).cell? ⟨b, 2, none⟩ = some Z ∧ ((((w.setCell ⟨b, 0, none⟩ X).setCell ⟨b, 1, none⟩ Y).setCell ⟨b, 2, none⟩ Z).setCell ⟨b, 3, none⟩ U).cell? ⟨b, 3, none⟩ = some U := by
 simp [World.cell?, World.setCell, Array.getElem?_modify, h]
theorem grown_var {w0 w w' : World} {s : Sch} {ur us ug : Value} {xr xs xg : List Value} {T' : TypeId} {k' n' : Nat} {v' : Value} {ys : List Value} (h : SchW w0 w s ur us ug xr xs xg) (hr : w.ownsRow (w0.heap.size + 2) T' k' v' n' ys) (hg : w.grownBy w' v'.ownBlock) :
  w'.cell? ⟨w0.heap.size + 1, 1, none⟩ = some ur ∧ w'.cell? ⟨w0.heap.size + 1, 2, none⟩ = some us ∧ w'.cell? ⟨w0.heap.size + 1, 3, none⟩ = some ug ∧ ∀ o, w'.frozen? ⟨w0.heap.size + 1, o, none⟩ = false := by
 obtain ⟨_, _, _, _, e⟩ := grown_keeps h hr hg 0 undef
 simp [World.cell?, World.frozen?, e]
theorem SchR.nil (w : World) (x : Tx) : SchR w ⟨x, [], [], []⟩ (.slice none 0 0) (.slice none 0 0) (.slice none 0 0) := ⟨⟨[], Slc.nil _ _, rfl⟩, ⟨[], Slc.nil _ _, rfl⟩, ⟨[], Slc.nil _ _, rfl⟩⟩
theorem SchW.mk' (w0 : World) (x : Tx) : SchW w0 ((w0.alloc (.cells #[eS, .slice none 0 0, .slice none 0 0, .slice none 0 0] 26)).alloc (.cells #[sT x, .slice none 0 0, .slice none 0 0, .slice none 0 0] 26)) ⟨x, [], [], []⟩ (.slice none 0 0) (.slice none 0 0) (.slice none 0 0) [] [] [] :=
 ⟨by rw [Below.heap_alloc _ _ _ (by simp)]; exact zw _ _, heap_alloc_new2 _ _ _, (((Below.refl _ w0).alloc zn _).alloc (by simp) _), World.ownsRow_nil _ _ _ _, rfl, World.ownsRow_nil _ _ _ _, rfl, World.ownsRow_nil _ _ _ _, rfl⟩
abbrev sV (s : Sch) (ra sa ga : Option Addr) (rv sv gv : Nat) : Array Value := #[sT s.name, .slice ra s.records.length rv, .slice sa s.services.length sv, .slice ga s.sagas.length gv]
end
end Go.Proofs.YtgoejmheihgpfaaGreatDoor
