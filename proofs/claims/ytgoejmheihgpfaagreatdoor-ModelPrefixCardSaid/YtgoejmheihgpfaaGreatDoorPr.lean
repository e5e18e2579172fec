/-
  A struct that is made and written field by field ('NewB'); the plain law and the walk of redressref12.methods.
-/
import Derived.Test.YtgoejmheihgpfaaGreatDoorPn
import Derived.Deep.DeepCutAuto
namespace Go.Proofs.YtgoejmheihgpfaaGreatDoor
open Go.RowKit

/-- w is w0 with one block more, which holds cs (and others behind it) -/
structure NewB (w0 w : World) (T : TypeId) (cs : Array Value) : Prop where
  blk : w.heap[w0.heap.size]? = some (.cells cs T (0, 0))
  bel : Below w0.heap.size w0 w
theorem NewB.mk' (w0 : World) (T : TypeId) (cs : Array Value) : NewB w0 (w0.alloc (.cells cs T)) T cs := ⟨heap_alloc_new _ _, (Below.refl _ w0).alloc (Nat.le_refl _) _⟩
theorem NewB.lt {w0 w : World} {T : TypeId} {cs : Array Value} (h : NewB w0 w T cs) : w0.heap.size < w.heap.size := (Array.getElem?_eq_some_iff.1 h.blk).1
theorem NewB.cell {w0 w : World} {T : TypeId} {cs : Array Value} (h : NewB w0 w T cs) {o : Nat} {u : Value} (hu : cs[o]? = some u) : w.cell? ⟨w0.heap.size, o, none⟩ = some u := by simp [World.cell?, h.blk, hu]
theorem NewB.froz {w0 w : World} {T : TypeId} {cs : Array Value} (h : NewB w0 w T cs) (o : Nat) : w.frozen? ⟨w0.heap.size, o, none⟩ = false := by simp [World.frozen?, h.blk]
theorem NewB.set {w0 w : World} {T : TypeId} {cs : Array Value} (h : NewB w0 w T cs) (o : Nat) (u : Value) : NewB w0 (w.setCell ⟨w0.heap.size, o, none⟩ u) T (cs.setIfInBounds o u) :=
  ⟨by simp [World.setCell, Array.getElem?_modify, h.blk], h.bel.setCell (p := ⟨w0.heap.size, o, none⟩) (Nat.le_refl _) u⟩
theorem NewB.after {w0 w w' : World} {T : TypeId} {cs : Array Value} (h : NewB w0 w T cs) (hb : Below w.heap.size w w') : NewB w0 w' T cs :=
  ⟨(hb.block _ h.lt).trans h.blk, h.bel.trans (hb.mono (Nat.le_of_lt h.lt))⟩

def okEff (y : Tx) : Bool := decide (y = wGive) || decide (y = wTake) || decide (y = wNote)
theorem bracketA_pl {T : List Tok} {i : Int} (h : Pl T i) : Pl T (bracketA T i).2 := stepA_pl (x := [41]) (by simp) (nameA_pl (stepA_pl (x := [40]) (by simp) h))
theorem bracketA_adv {T : List Tok} {i : Int} : Adv i (bracketA T i).2 := ((stepA_adv [40]).trans nameA_adv).trans (stepA_adv [41])
theorem succ_pl {T : List Tok} {i : Int} (h0 : ¬ i < 0) (h : textA T i ≠ []) : Pl T (i + 1) := by
  have := text_in h0 h
  exact ⟨by omega, by omega⟩
theorem resultA_far {T : List Tok} {i : Int} {r : Nat × Int} (h : Pl T i) (hr : resultA T i = some r) : Pl T r.2 ∧ (Adv i r.2 ∨ r.2 = i) ∧ r.1 ≤ 3 := by
  unfold resultA at hr
  by_cases h0 : i < 0
  · rw [if_pos h0] at hr; obtain rfl := Option.some.inj hr; exact ⟨h, .inr rfl, by omega⟩
  · rw [if_neg h0] at hr
    by_cases h1 : textA T i = wInt
    · rw [if_pos h1] at hr; obtain rfl := Option.some.inj hr
      exact ⟨succ_pl h0 (by rw [h1]; decide), .inl (.inr ⟨by omega, by show i < i + 1; omega⟩), by omega⟩
    · rw [if_neg h1] at hr
      by_cases h2 : textA T i = wNone
      · rw [if_pos h2] at hr; obtain rfl := Option.some.inj hr
        exact ⟨succ_pl h0 (by rw [h2]; decide), .inl (.inr ⟨by omega, by show i < i + 1; omega⟩), by show 1 ≤ 3; omega⟩
      · rw [if_neg h2] at hr; cases hr
theorem undoA_far {T : List Tok} {i : Int} (h : Pl T i) : Pl T (undoA T i).2 ∧ (Adv i (undoA T i).2 ∨ (undoA T i).2 = i) := by
  unfold undoA
  by_cases h0 : 0 ≤ i ∧ textA T i = wUndo
  · rw [if_pos h0]
    have p := succ_pl (T := T) (i := i) (by omega) (by rw [h0.2]; decide)
    exact ⟨nameA_pl p, .inl (Adv.trans (.inr ⟨h0.1, by omega⟩) nameA_adv)⟩
  · rw [if_neg h0]; exact ⟨h, .inr rfl⟩
theorem methods_eq (l : List Tok) (k : Nat) (i : Int) : methodsA l (k + 1) i = (
    if i < 0 ∨ textA l i = [125] then ([], i)
    else if textA l i ≠ wGive ∧ textA l i ≠ wTake ∧ textA l i ≠ wNote then ([], -1 - i)
    else
      let n := nameA l (i + 1)
      let b := bracketA l n.2
      let j := stepA l b.2 [45, 62]
      match resultA l j with
      | none => ([], -1 - j)
      | some r =>
        let u := undoA l r.2
        let q := methodsA l k (stepA l u.2 [59])
        (⟨n.1, b.1, r.1, textA l i, u.1⟩ :: q.1, q.2)) := by kernel_rfl
theorem methods_neg {T : List Tok} {F : Nat} {i : Int} (h : i < 0) : methodsA T F i = ([], i) := by
  cases F with
  | zero => rfl
  | succ F => rw [methods_eq, if_pos (.inl h)]
theorem methods_shut {T : List Tok} {F : Nat} {i : Int} (h : textA T i = [125]) : methodsA T (F + 1) i = ([], i) := by rw [methods_eq, if_pos (.inr h)]
theorem methods_bad {T : List Tok} {F : Nat} {i : Int} (h0 : ¬ i < 0) (h : textA T i ≠ [125]) (hb : okEff (textA T i) = false) : methodsA T (F + 1) i = ([], -1 - i) := by
  unfold okEff at hb
  simp only [Bool.or_eq_false_iff, decide_eq_false_iff_not] at hb
  rw [methods_eq, if_neg (by simp [h0, h]), if_pos ⟨hb.1.1, hb.1.2, hb.2⟩]
/-- the arrow behind a method's argument -/
def arrowA (T : List Tok) (i : Int) : Int := stepA T (bracketA T (nameA T (i + 1)).2).2 [45, 62]
theorem methods_none {T : List Tok} {F : Nat} {i : Int} (h0 : ¬ i < 0) (h : textA T i ≠ [125]) (hb : okEff (textA T i) = true) (hr : resultA T (arrowA T i) = none) : methodsA T (F + 1) i = ([], -1 - arrowA T i) := by
  unfold okEff at hb
  simp only [Bool.or_eq_true, decide_eq_true_eq] at hb
  unfold arrowA at hr
  rw [methods_eq, if_neg (by simp [h0, h]), if_neg (by rintro ⟨a, b, c⟩; rcases hb with (hb | hb) | hb <;> contradiction)]
  dsimp only
  rw [hr]
  rfl
theorem methods_next {T : List Tok} {F : Nat} {i : Int} {S : List Mth} {r : Nat × Int} (h0 : ¬ i < 0) (h : textA T i ≠ [125]) (hb : okEff (textA T i) = true) (hr : resultA T (arrowA T i) = some r) :
    ahead S (methodsA T (F + 1) i) = ahead (S ++ [⟨(nameA T (i + 1)).1, (bracketA T (nameA T (i + 1)).2).1, r.1, textA T i, (undoA T r.2).1⟩]) (methodsA T F (stepA T (undoA T r.2).2 [59])) := by
  unfold okEff at hb
  simp only [Bool.or_eq_true, decide_eq_true_eq] at hb
  unfold arrowA at hr
  rw [methods_eq, if_neg (by simp [h0, h]), if_neg (by rintro ⟨a, b, c⟩; rcases hb with (hb | hb) | hb <;> contradiction)]
  dsimp only
  rw [hr]
  simp [ahead]
def mcells : List Mth → List Value
  | [] => []
  | m :: l => .string (bT m.name) :: .string (bT m.arg) :: .int .u8 (m.result : Nat) :: .string (bT m.effect) :: .string (bT m.undo) :: mcells l
theorem mcells_append : ∀ (l r : List Mth), mcells (l ++ r) = mcells l ++ mcells r
  | [], _ => rfl
  | t :: l, r => by simp [mcells, mcells_append l r]
theorem info_mth : (Tryz.prog.info? 92).map (fun i => (i.zero, i.size, i.bytes)) = some (some (.agg #[.string ⟨#[]⟩, .string ⟨#[]⟩, .int .u8 0, .string ⟨#[]⟩, .string ⟨#[]⟩]), 5, 72) := by kernel_rfl
set_option maxRecDepth 100000 in
set_option maxHeartbeats 16000000 in
theorem methods_any (w : World) (v : Value) (T : List Tok) (h : Slc w 4 v T.length (tcells T)) (hL : T.length ≤ 65536) (hB : ∀ t ∈ T, t.text.length ≤ 65536) (i : Int) (hi : Pl T i) : Calls Tryz.prog 114 #[v, .int .i64 i] w fun e w' => ∃ u, e = .returned (.tuple #[u, .int .i64 (shutA (methodsA T (T.length + 1) (stepA T i [123]))).2]) ∧ w'.ownsRow w.heap.size 92 5 u (shutA (methodsA T (T.length + 1) (stepA T i [123]))).1.length (mcells (shutA (methodsA T (T.length + 1) (stepA T i [123]))).1) ∧ Below w.heap.size w w' := by
  have HT := Lib.hid (fun w' (X : Below w.heap.size w w') j (hj : Pl T j) => text_any w' v T (h.below X) hL j (by have := hj.1; omega) (by have := hj.2; omega))
  have HN := Lib.hid (fun w' (X : Below w.heap.size w w') j (hj : Pl T j) => namer_pl w' v T (h.below X) hL hB j hj)
  have HS := Lib.hid (fun w' (X : Below w.heap.size w w') j (hj : Pl T j) x => step_pl w' v T (h.below X) hL j hj x)
  have HK := Lib.hid (fun w' (X : Below w.heap.size w w') j (hj : Pl T j) => bracket_any w' v T (h.below X) hL hB j hj)
  clear h hB
  have H1 := Lib.hid (HS.out w (Below.refl _ _) i hi [123])
  have hp := stepA_pl (x := [123]) (by simp) hi
  generalize stepA T i [123] = i1 at *
  generalize hq : shutA (methodsA T (T.length + 1) i1) = Q at *
  have HQ := Lib.hid (show Q = shutA (ahead [] (methodsA T (T.length + 1) i1)) from by rw [← hq]; rfl)
  clear hq
  go_enter Tryz.func114, Tryz.ntmps114
  go_wp2_with fail
  refine H1.out.mono ?_
  rintro e w1 ⟨rfl, rfl⟩
  go_wp2_with fail
  go_loopw [6, 1] (fun vl va wr => ∃ (j : Int) (F : Nat) (S : List Mth), va = .int .i64 j ∧ Pl T j ∧ (0 ≤ j → (S.length : Int) ≤ j ∧ (T.length : Int) < F + j) ∧ S.length ≤ T.length + 1 ∧ Hid (wr.ownsRow w.heap.size 92 5 vl S.length (mcells S)) ∧ Hid (Below w.heap.size w wr) ∧ Hid (Q = shutA (ahead S (methodsA T F j)))) (fun _ va _ => if intOf va < 0 then 0 else T.length + 1 - (intOf va).toNat)
  case atStart => exact ⟨i1, T.length + 1, [], rfl, hp, fun h => ⟨by simpa using h, by omega⟩, by simp, World.ownsRow_nil _ _ _ _, Below.refl _ _, HQ⟩
  case round =>
    clear HQ hp hi H1
    obtain ⟨j, F, S, rfl, hp, hj, hS, HR, HB, HQ⟩ := hrel
    obtain ⟨va, vc, rfl⟩ := own_slice HR.out
    by_cases h0 : j < 0
    · have hQ : Q = ([], j) := by rw [HQ.out, methods_neg h0]; unfold shutA ahead; rw [if_pos h0]
      clear HQ hj
      subst hQ
      go_wp2_with fail
      exact bodyPost_ret (v := .tuple #[.slice none 0 0, .int .i64 j]) (by simp [results, Tryz.results114, go_sem]) rfl ⟨_, rfl, World.ownsRow_nil _ _ _ _, HB.out⟩
    obtain ⟨k, rfl⟩ : ∃ k : Nat, j = (k : Int) := ⟨j.toNat, by omega⟩
    obtain ⟨hSk, hF⟩ := hj (by omega)
    clear hj
    have hk : k ≤ T.length := by have := hp.2; omega
    obtain ⟨F, rfl⟩ : ∃ F', F = F' + 1 := ⟨F - 1, by omega⟩
    have HTk := Lib.hid (HT.out wr HB.out _ hp)
    have e_y := bT_is (textA T (k : Int)) [125]
    by_cases hy : textA T (k : Int) = [125]
    · have hQ : Q = (S, (k : Int) + 1) := by rw [HQ.out, methods_shut hy]; unfold shutA ahead; rw [if_neg h0]; simp
      rw [decide_eq_true hy] at e_y
      have e_z : (!((bT (textA T (k : Int))).toList == [125])) = false := by rw [e_y]; rfl
      clear hy HQ
      generalize textA T (k : Int) = y at *
      subst hQ
      go_wp2_with fail
      refine HTk.out.mono ?_
      rintro e w2 ⟨rfl, rfl⟩
      go_wp2_with fail
      exact bodyPost_ret (v := .tuple #[.slice va S.length vc, .int .i64 ((k : Int) + 1)]) (by simp [results, Tryz.results114, go_sem]) rfl ⟨_, rfl, HR.out, HB.out⟩
    rw [decide_eq_false hy] at e_y
    have e_z : (!((bT (textA T (k : Int))).toList == [125])) = true := by rw [e_y]; rfl
    have HBAD := Lib.hid (fun hb => HQ.out.trans (congrArg (fun q => shutA (ahead S q)) (methods_bad (F := F) h0 hy hb)))
    have HNON := Lib.hid (fun hb hr => HQ.out.trans (congrArg (fun q => shutA (ahead S q)) (methods_none (F := F) h0 hy hb hr)))
    have HNX := Lib.hid (fun hb r hr => HQ.out.trans (congrArg shutA (methods_next (F := F) (S := S) (r := r) h0 hy hb hr)))
    have HSU := Lib.hid (fun h => succ_pl h0 (T := T) h)
    have e_g : ((bT (textA T (k : Int))).toList == [103, 105, 118, 101]) = decide (textA T (k : Int) = wGive) := bT_is _ wGive
    have e_t : ((bT (textA T (k : Int))).toList == [116, 97, 107, 101]) = decide (textA T (k : Int) = wTake) := bT_is _ wTake
    have e_n : ((bT (textA T (k : Int))).toList == [110, 111, 116, 101]) = decide (textA T (k : Int) = wNote) := bT_is _ wNote
    have f_g : (!((bT (textA T (k : Int))).toList == [103, 105, 118, 101])) = !decide (textA T (k : Int) = wGive) := congrArg _ e_g
    have f_t : (!((bT (textA T (k : Int))).toList == [116, 97, 107, 101])) = !decide (textA T (k : Int) = wTake) := congrArg _ e_t
    have f_n : (!((bT (textA T (k : Int))).toList == [110, 111, 116, 101])) = !decide (textA T (k : Int) = wNote) := congrArg _ e_n
    clear hy HQ h0
    have HOK := Lib.hid (show okEff (textA T (k : Int)) = okEff (textA T (k : Int)) from rfl)
    generalize hty : textA T (k : Int) = y at *
    go_wp2_with fail
    refine HTk.out.mono ?_
    rintro e w2 ⟨rfl, rfl⟩
    have N0 := Lib.hid (NewB.mk' wr 92 #[.string ⟨#[]⟩, .string ⟨#[]⟩, .int .u8 0, .string ⟨#[]⟩, .string ⟨#[]⟩])
    have HTa := Lib.hid (fun A => HT.out (wr.alloc A) (HB.out.alloc HB.out.size A) _ hp)
    rw [hty] at HTa
    clear hty
    have hsz := HB.out.size
    go_wp2_with fail
    refine (HTa.out _).mono ?_
    rintro e w2 ⟨rfl, rfl⟩
    clear HTa HTk e_y e_z
    go_upto_region 6 with (fail)
    by_cases hok : okEff y = true
    · go_cut [35] (fun c wc => c = .bool false ∧ wc = wr.alloc (.cells #[.string ⟨#[]⟩, .string ⟨#[]⟩, .int .u8 0, .string (bT y), .string ⟨#[]⟩] 92))
      case first =>
        clear HBAD HNON HNX HSU
        by_cases c1 : y = wGive
        · rw [decide_eq_true c1] at e_g f_g
          clear c1 hok
          go_wp2_with fail
          go_meet
          exact ⟨rfl, rfl⟩
        rw [decide_eq_false c1] at e_g f_g
        by_cases c2 : y = wTake
        · rw [decide_eq_true c2] at e_t f_t
          clear c1 c2 hok
          go_wp2_with fail
          go_meet
          exact ⟨rfl, rfl⟩
        rw [decide_eq_false c2] at e_t f_t
        by_cases c3 : y = wNote
        · rw [decide_eq_true c3] at e_n f_n
          clear c1 c2 c3 hok
          go_wp2_with fail
          go_meet
          exact ⟨rfl, rfl⟩
        · exact absurd hok (by simp [okEff, c1, c2, c3])
      case rest =>
        obtain ⟨rfl, rfl⟩ := hcut
        clear e_g e_t e_n f_g f_t f_n
        have hne : y ≠ [] := by rintro rfl; exact absurd hok (by decide)
        have p1 := HSU.out hne
        have p2 := nameA_pl p1
        have p3 := bracketA_pl p2
        have p4 : Pl T (arrowA T (k : Int)) := stepA_pl (x := [45, 62]) (by simp) p3
        have a4 : Adv (k : Int) (arrowA T (k : Int)) := (((Adv.trans (.inr ⟨by omega, by omega⟩) nameA_adv).trans bracketA_adv).trans (stepA_adv [45, 62]))
        have HN1 := Lib.hid (fun A => HN.out (wr.alloc A) (HB.out.alloc HB.out.size A) _ p1)
        have HK1 := Lib.hid (fun A => HK.out (wr.alloc A) (HB.out.alloc HB.out.size A) _ p2)
        have HS1 := Lib.hid (fun A => HS.out (wr.alloc A) (HB.out.alloc HB.out.size A) _ p3 [45, 62])
        have HT1 := Lib.hid (fun A => HT.out (wr.alloc A) (HB.out.alloc HB.out.size A) _ p4)
        have HNO := Lib.hid (HNON.out hok)
        have HNR := Lib.hid (HNX.out hok)
        have HAR := Lib.hid (show arrowA T (k : Int) = stepA T (bracketA T (nameA T ((k : Int) + 1)).2).2 [45, 62] from rfl)
        have hk1 : k < T.length := by have := p1.2; omega
        clear HBAD HNON HNX HSU hok hne p1 p2 p3
        rw [← HAR.out] at HS1
        clear HAR
        generalize arrowA T (k : Int) = ja at *
        generalize nameA T ((k : Int) + 1) = nm at *
        generalize bracketA T nm.2 = br at *
        go_wp2_with fail
        refine (HN1.out _).mono ?_
        rintro e w2 ⟨rfl, rfl⟩
        go_wp2_with fail
        refine (HK1.out _).mono ?_
        rintro e w2 ⟨rfl, rfl⟩
        go_wp2_with fail
        refine (HS1.out _).mono ?_
        rintro e w2 ⟨rfl, rfl⟩
        go_upto_if 57 with (fail)
        go_cut [1] (fun v1 wc => ∃ r : Nat × Int, v1 = .int .i64 r.2 ∧ Hid (resultA T ja = some r) ∧ wc = wr.alloc (.cells #[.string (bT nm.1), .string (bT br.1), .int .u8 (r.1 : Nat), .string (bT y), .string ⟨#[]⟩] 92))
        case first =>
          clear HN1 HK1 HS1
          by_cases hj0 : ja < 0
          · have hr : resultA T ja = some (0, ja) := by unfold resultA; rw [if_pos hj0]
            go_wp2_with fail
            go_meet
            exact ⟨(0, ja), rfl, Lib.hid hr, rfl⟩
          · have HRS := Lib.hid (show resultA T ja = if textA T ja = wInt then some (3, ja + 1) else if textA T ja = wNone then some (1, ja + 1) else none from by unfold resultA; rw [if_neg hj0])
            have e_i : ((bT (textA T ja)).toList == [105, 110, 116]) = decide (textA T ja = wInt) := bT_is _ wInt
            have e_o : ((bT (textA T ja)).toList == [110, 111, 110, 101]) = decide (textA T ja = wNone) := bT_is _ wNone
            have hja : ja ≤ T.length := p4.2
            generalize textA T ja = z at *
            by_cases c1 : z = wInt
            · have hr : resultA T ja = some (3, ja + 1) := by rw [HRS.out, if_pos c1]
              rw [decide_eq_true c1] at e_i
              clear HRS c1 e_o
              have HR1 := Lib.hid hr
              clear hr
              go_wp2_with fail
              refine (HT1.out _).mono ?_
              rintro e w2 ⟨rfl, rfl⟩
              go_wp2_with fail
              go_meet
              exact ⟨(3, ja + 1), rfl, HR1, rfl⟩
            rw [decide_eq_false c1] at e_i
            by_cases c2 : z = wNone
            · have hr : resultA T ja = some (1, ja + 1) := by rw [HRS.out, if_neg c1, if_pos c2]
              rw [decide_eq_true c2] at e_o
              clear HRS c1 c2
              have HR1 := Lib.hid hr
              clear hr
              go_wp2_with fail
              refine (HT1.out _).mono ?_
              rintro e w2 ⟨rfl, rfl⟩
              go_wp2_with fail
              go_meet
              exact ⟨(1, ja + 1), rfl, HR1, rfl⟩
            · have hr : resultA T ja = none := by rw [HRS.out, if_neg c1, if_neg c2]
              rw [decide_eq_false c2] at e_o
              have hQ : Q = ([], -1 - ja) := by rw [HNO.out hr]; unfold shutA ahead; rw [if_pos (show (-1 - ja : Int) < 0 by omega)]
              clear HRS c1 c2 hr HNO HNR
              subst hQ
              go_wp2_with fail
              refine (HT1.out _).mono ?_
              rintro e w2 ⟨rfl, rfl⟩
              go_wp2_with fail
              exact bodyPost_ret (v := .tuple #[.slice none 0 0, .int .i64 (-1 - ja)]) (by simp [results, Tryz.results114, go_sem]) rfl ⟨_, rfl, World.ownsRow_nil _ _ _ _, HB.out.alloc HB.out.size _⟩
        case rest =>
        obtain ⟨r, rfl, HRS, rfl⟩ := hcut
        clear HN1 HK1 HS1 HT1 HNO
        obtain ⟨p5, a5, r5⟩ := resultA_far p4 HRS.out
        have HNX0 := Lib.hid (HNR.out r HRS.out)
        clear HNR HRS
        obtain ⟨pu, au⟩ := undoA_far p5
        have e_u : ((bT (textA T r.2)).toList == [117, 110, 100, 111]) = decide (textA T r.2 = wUndo) := bT_is _ wUndo
        have hr2 : r.2 ≤ T.length := p5.2
        by_cases h5 : r.2 < 0
        · have hu : undoA T r.2 = ([], r.2) := by unfold undoA; rw [if_neg (by omega)]
          have h9 := HNX0.out
          rw [hu] at h9
          have HNX := Lib.hid h9
          clear h9
          rw [hu] at pu au
          clear hu e_u HNX0
          dsimp only at pu au
          have HSl := Lib.hid (fun A => HS.out (wr.alloc A) (HB.out.alloc HB.out.size A) _ pu [59])
          have pz := stepA_pl (x := [59]) (by simp) pu
          have az := (stepA_adv (T := T) (i := r.2) [59])
          generalize stepA T r.2 [59] = i5 at *
          go_wp2_with fail
          refine (HSl.out _).mono ?_
          rintro e w2 ⟨rfl, rfl⟩
          have HRr := Lib.hid (own_below HR.out ((Below.refl _ wr).alloc (Nat.le_refl _) (.cells #[.string (bT nm.1), .string (bT br.1), .int .u8 (r.1 : Nat), .string (bT y), .string ⟨#[]⟩] 92)))
          have HOG := own_ge HRr.out
          obtain ⟨i0, hi0, hz0, hz1, hz2⟩ := info_parts info_mth
          go_wp2_with (first
            | (at_builtin; refine wpList_append_own _ rfl _ _ 110 rfl w.heap.size 92 i0 (.agg #[.string ⟨#[]⟩, .string ⟨#[]⟩, .int .u8 0, .string ⟨#[]⟩, .string ⟨#[]⟩]) 5 72 Tryz.underlying110 hi0 hz0 hz1 hz2 rfl (by decide) _ _ _ rfl (HRr.out.alloc _) ⟨wr.heap.size + 1, 0, none⟩ 1 1 [.string (bT nm.1), .string (bT br.1), .int .u8 (r.1 : Nat), .string (bT y), .string ⟨#[]⟩] rfl rfl (World.news_of_block (cs := #[.string (bT nm.1), .string (bT br.1), .int .u8 (r.1 : Nat), .string (bT y), .string ⟨#[]⟩]) (t := 92) (fr := (0, 0)) (heap_alloc_new2 wr _ _)) (by intro u hu; simp only [List.mem_cons, List.not_mem_nil, or_false] at hu; rcases hu with rfl | rfl | rfl | rfl | rfl <;> rfl) (by unfold maxLen; omega) (by omega) (by simp; omega) ?_; intro v' w7 hown7 hgrow _; obtain ⟨xa, xc, rfl⟩ := own_slice hown7; have HGR := Lib.hid hgrow)
            | fail)
          have HB7 := Lib.hid (srt_round HOG (HB.out.alloc HB.out.size _) HGR.out)
          have hfar : Pl T i5 ∧ (i5 < 0 ∨ k < i5) := by
            refine ⟨pz, ?_⟩
            unfold Adv at *
            omega
          have hfl := hfar.1
          unfold Pl at hfl
          exact ⟨⟨i5, F, S ++ [⟨nm.1, br.1, r.1, y, []⟩], rfl, hfar.1, fun h => ⟨by simp; omega, by omega⟩, by simp; omega, by rw [List.length_append, mcells_append]; exact hown7, HB7, HNX⟩, by show (if i5 < 0 then 0 else T.length + 1 - i5.toNat) < (if (k : Int) < 0 then 0 else T.length + 1 - (k : Int).toNat); rw [if_neg (show ¬ (k : Int) < 0 by omega)]; split <;> omega⟩
        have HTu := Lib.hid (fun A => HT.out (wr.alloc A) (HB.out.alloc HB.out.size A) _ p5)
        by_cases h6 : textA T r.2 = wUndo
        · have hu : undoA T r.2 = nameA T (r.2 + 1) := by unfold undoA; rw [if_pos ⟨by omega, h6⟩]
          have h9 := HNX0.out
          rw [hu] at h9
          have HNX := Lib.hid h9
          clear h9
          rw [hu] at pu au
          have p6 := succ_pl h5 (T := T) (by rw [h6]; decide)
          have HN6 := Lib.hid (fun A => HN.out (wr.alloc A) (HB.out.alloc HB.out.size A) _ p6)
          rw [decide_eq_true h6] at e_u
          have hr3 : r.2 < T.length := by have := p6.2; omega
          clear hu HNX0 h6 p6
          generalize textA T r.2 = z at *
          generalize nameA T (r.2 + 1) = un at *
          go_wp2_with fail
          refine (HTu.out _).mono ?_
          rintro e w2 ⟨rfl, rfl⟩
          go_wp2_with fail
          refine (HN6.out _).mono ?_
          rintro e w2 ⟨rfl, rfl⟩
          have HSl := Lib.hid (fun A => HS.out (wr.alloc A) (HB.out.alloc HB.out.size A) _ pu [59])
          have pz := stepA_pl (x := [59]) (by simp) pu
          have az := (stepA_adv (T := T) (i := un.2) [59])
          generalize stepA T un.2 [59] = i5 at *
          go_wp2_with fail
          refine (HSl.out _).mono ?_
          rintro e w2 ⟨rfl, rfl⟩
          have HRr := Lib.hid (own_below HR.out ((Below.refl _ wr).alloc (Nat.le_refl _) (.cells #[.string (bT nm.1), .string (bT br.1), .int .u8 (r.1 : Nat), .string (bT y), .string (bT un.1)] 92)))
          have HOG := own_ge HRr.out
          obtain ⟨i0, hi0, hz0, hz1, hz2⟩ := info_parts info_mth
          go_wp2_with (first
            | (at_builtin; refine wpList_append_own _ rfl _ _ 110 rfl w.heap.size 92 i0 (.agg #[.string ⟨#[]⟩, .string ⟨#[]⟩, .int .u8 0, .string ⟨#[]⟩, .string ⟨#[]⟩]) 5 72 Tryz.underlying110 hi0 hz0 hz1 hz2 rfl (by decide) _ _ _ rfl (HRr.out.alloc _) ⟨wr.heap.size + 1, 0, none⟩ 1 1 [.string (bT nm.1), .string (bT br.1), .int .u8 (r.1 : Nat), .string (bT y), .string (bT un.1)] rfl rfl (World.news_of_block (cs := #[.string (bT nm.1), .string (bT br.1), .int .u8 (r.1 : Nat), .string (bT y), .string (bT un.1)]) (t := 92) (fr := (0, 0)) (heap_alloc_new2 wr _ _)) (by intro u hu; simp only [List.mem_cons, List.not_mem_nil, or_false] at hu; rcases hu with rfl | rfl | rfl | rfl | rfl <;> rfl) (by unfold maxLen; omega) (by omega) (by simp; omega) ?_; intro v' w7 hown7 hgrow _; obtain ⟨xa, xc, rfl⟩ := own_slice hown7; have HGR := Lib.hid hgrow)
            | fail)
          have HB7 := Lib.hid (srt_round HOG (HB.out.alloc HB.out.size _) HGR.out)
          have hfar : Pl T i5 ∧ (i5 < 0 ∨ k < i5) := by
            refine ⟨pz, ?_⟩
            unfold Adv at *
            omega
          have hfl := hfar.1
          unfold Pl at hfl
          exact ⟨⟨i5, F, S ++ [⟨nm.1, br.1, r.1, y, un.1⟩], rfl, hfar.1, fun h => ⟨by simp; omega, by omega⟩, by simp; omega, by rw [List.length_append, mcells_append]; exact hown7, HB7, HNX⟩, by show (if i5 < 0 then 0 else T.length + 1 - i5.toNat) < (if (k : Int) < 0 then 0 else T.length + 1 - (k : Int).toNat); rw [if_neg (show ¬ (k : Int) < 0 by omega)]; split <;> omega⟩
        · have hu : undoA T r.2 = ([], r.2) := by unfold undoA; rw [if_neg (fun h => h6 h.2)]
          have h9 := HNX0.out
          rw [hu] at h9
          have HNX := Lib.hid h9
          clear h9
          rw [hu] at pu au
          rw [decide_eq_false h6] at e_u
          clear hu HNX0 h6
          dsimp only at pu au
          generalize textA T r.2 = z at *
          go_wp2_with fail
          refine (HTu.out _).mono ?_
          rintro e w2 ⟨rfl, rfl⟩
          have HSl := Lib.hid (fun A => HS.out (wr.alloc A) (HB.out.alloc HB.out.size A) _ pu [59])
          have pz := stepA_pl (x := [59]) (by simp) pu
          have az := (stepA_adv (T := T) (i := r.2) [59])
          generalize stepA T r.2 [59] = i5 at *
          go_wp2_with fail
          refine (HSl.out _).mono ?_
          rintro e w2 ⟨rfl, rfl⟩
          have HRr := Lib.hid (own_below HR.out ((Below.refl _ wr).alloc (Nat.le_refl _) (.cells #[.string (bT nm.1), .string (bT br.1), .int .u8 (r.1 : Nat), .string (bT y), .string ⟨#[]⟩] 92)))
          have HOG := own_ge HRr.out
          obtain ⟨i0, hi0, hz0, hz1, hz2⟩ := info_parts info_mth
          go_wp2_with (first
            | (at_builtin; refine wpList_append_own _ rfl _ _ 110 rfl w.heap.size 92 i0 (.agg #[.string ⟨#[]⟩, .string ⟨#[]⟩, .int .u8 0, .string ⟨#[]⟩, .string ⟨#[]⟩]) 5 72 Tryz.underlying110 hi0 hz0 hz1 hz2 rfl (by decide) _ _ _ rfl (HRr.out.alloc _) ⟨wr.heap.size + 1, 0, none⟩ 1 1 [.string (bT nm.1), .string (bT br.1), .int .u8 (r.1 : Nat), .string (bT y), .string ⟨#[]⟩] rfl rfl (World.news_of_block (cs := #[.string (bT nm.1), .string (bT br.1), .int .u8 (r.1 : Nat), .string (bT y), .string ⟨#[]⟩]) (t := 92) (fr := (0, 0)) (heap_alloc_new2 wr _ _)) (by intro u hu; simp only [List.mem_cons, List.not_mem_nil, or_false] at hu; rcases hu with rfl | rfl | rfl | rfl | rfl <;> rfl) (by unfold maxLen; omega) (by omega) (by simp; omega) ?_; intro v' w7 hown7 hgrow _; obtain ⟨xa, xc, rfl⟩ := own_slice hown7; have HGR := Lib.hid hgrow)
            | fail)
          have HB7 := Lib.hid (srt_round HOG (HB.out.alloc HB.out.size _) HGR.out)
          have hfar : Pl T i5 ∧ (i5 < 0 ∨ k < i5) := by
            refine ⟨pz, ?_⟩
            unfold Adv at *
            omega
          have hfl := hfar.1
          unfold Pl at hfl
          exact ⟨⟨i5, F, S ++ [⟨nm.1, br.1, r.1, y, []⟩], rfl, hfar.1, fun h => ⟨by simp; omega, by omega⟩, by simp; omega, by rw [List.length_append, mcells_append]; exact hown7, HB7, HNX⟩, by show (if i5 < 0 then 0 else T.length + 1 - i5.toNat) < (if (k : Int) < 0 then 0 else T.length + 1 - (k : Int).toNat); rw [if_neg (show ¬ (k : Int) < 0 by omega)]; split <;> omega⟩
    · have hQ : Q = ([], -1 - (k : Int)) := by rw [HBAD.out (by simpa using hok)]; unfold shutA ahead; rw [if_pos (show (-1 - (k : Int) : Int) < 0 by omega)]
      have c1 : y ≠ wGive := by rintro rfl; exact hok (by decide)
      have c2 : y ≠ wTake := by rintro rfl; exact hok (by decide)
      have c3 : y ≠ wNote := by rintro rfl; exact hok (by decide)
      rw [decide_eq_false c1] at e_g f_g
      rw [decide_eq_false c2] at e_t f_t
      rw [decide_eq_false c3] at e_n f_n
      clear HBAD HNON HNX HSU c1 c2 c3 hok
      subst hQ
      go_wp2_with fail
      exact bodyPost_ret (v := .tuple #[.slice none 0 0, .int .i64 (-1 - (k : Int))]) (by simp [results, Tryz.results114, go_sem]) rfl ⟨_, rfl, World.ownsRow_nil _ _ _ _, HB.out.alloc HB.out.size _⟩
end Go.Proofs.YtgoejmheihgpfaaGreatDoor
