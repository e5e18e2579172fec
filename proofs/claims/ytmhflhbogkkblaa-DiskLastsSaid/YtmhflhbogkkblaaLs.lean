/-
  The walk of DiskLasts.
-/
import Derived.Test.YtmhflhbogkkblaaLp
import Derived.Test.YtmhflhbogkkblaaRn
import Derived.Test.YtmhflhbogkkblaaKn
import Derived.Deep.Cut
import Derived.Deep.DeepCutAuto
import Derived.Deep.CutBlock
import Derived.Deep.RegionHeld3
namespace Go.Proofs.Ytmhflhbogkkblaa
open Go.RowKit Go.Maps

theorem Ik.sub {w0 w : World} {b m : Nat} {d : Dk} {xs ys : List (Nat × Nat × Value)} (h : Ik w0 w b m d xs) (hs : ∀ y ∈ ys, y ∈ xs) : Ik w0 w b m d ys :=
  ⟨h.i, fun c hc => h.k.eq c (hs c hc), fun c hc => h.k.ne c (hs c hc)⟩
theorem Ik.boxed {w0 w : World} {b m : Nat} {d : Dk} {xs : List (Nat × Nat × Value)} (h : Ik w0 w b m d xs) (a : Act) (T : TypeId) : Ik w0 (w.alloc (.cells a.vals.toArray T)) b m d (boxOf w.heap.size a ++ xs) := by
  have h1 := h.i.box a T
  have h2 := h.alloc (.cells a.vals.toArray T)
  refine ⟨h1.i, fun c hc => ?_, fun c hc => ?_⟩
  · rcases List.mem_append.1 hc with hc | hc
    · exact h1.k.eq c hc
    · exact h2.k.eq c hc
  · rcases List.mem_append.1 hc with hc | hc
    · exact h1.k.ne c hc
    · exact h2.k.ne c hc
theorem Ik.addSure {w0 w w' : World} {b m B : Nat} {d : Dk} {xs : List (Nat × Nat × Value)} {v : Value} {L : List P2} (h : Ik w0 w b m d xs) (hb : Below w.heap.size w w') (ho : SuO w' B v L) (hB : w.heap.size ≤ B) :
    ∃ g o cap, v = .slice o L.length cap ∧ (0 < L.length → o = some ⟨g, 0, none⟩) ∧ Ik w0 w' b m d (xs ++ sureCells g L) := by
  obtain ⟨g, ⟨⟨o, cap, hv, hO⟩, hc⟩, hg⟩ := ho.read
  have h2 := h.quiet hb
  have l1 := h.i.dat.lt
  have l2 := h.i.dat.map.lt
  refine ⟨g, o, cap, hv, hO, h2.i, fun c hcm => ?_, fun c hcm hm => ?_⟩
  · rcases List.mem_append.1 hcm with hcm | hcm
    · exact h2.k.eq c hcm
    · exact hc c hcm
  · rcases List.mem_append.1 hcm with hcm | hcm
    · exact h2.k.ne c hcm hm
    · obtain ⟨i, hi, e⟩ := sure_of hcm
      have e1 : c.1 = g := by rcases e with rfl | rfl <;> rfl
      have := hg (by omega)
      rw [e1] at hm
      simp only [List.mem_cons, List.not_mem_nil, or_false] at hm
      omega
theorem Ik.suR {w0 w : World} {b m : Nat} {d : Dk} {xs : List (Nat × Nat × Value)} {g : Nat} {L : List P2} {o : Option Addr} {cap : Nat} (h : Ik w0 w b m d (xs ++ sureCells g L)) (ho : 0 < L.length → o = some ⟨g, 0, none⟩) : SuR w (.slice o L.length cap) g L :=
  ⟨⟨o, cap, rfl, ho⟩, fun c hc => h.k.eq c (List.mem_append.2 (.inr hc))⟩
theorem SuR.drew {w : World} {v : Value} {g : Nat} {L : List P2} (h : SuR w v g L) : SuR w.drew v g L := h.below ((Below.refl _ _).drew)
theorem ActOk.keep {w w' : World} {a : Act} (h : ActOk w a) (hb : Below w.heap.size w w') {b : Nat} (hlb : w.heap.size ≤ b) : 0 < a.kn → ∃ kb ko, a.ka = some ⟨kb, ko, none⟩ ∧ kb ≠ b ∧ ∀ i, i < a.kn → w'.cell? ⟨kb, ko + i, none⟩ = some (.int .i64 (a.ks.getD i 0)) := fun h0 => by
  obtain ⟨kb, ko, e, hc⟩ := h.ks h0
  have hl := cell_lt (hc 0 h0)
  exact ⟨kb, ko, e, by omega, fun i hi => (hb.cell (p := ⟨kb, ko + i, none⟩) hl).trans (hc i hi)⟩
/-- behind an act, ahead of the look at what is known -/
def Mid (w0 w : World) (b m : Nat) (v : Value) (xb : Nat) (a : Act) (n : Nat) : Prop :=
  ∃ (L : List P2) (g : Nat) (o : Option Addr) (cap : Nat) (d : Dk), v = .slice o L.length cap ∧ (0 < L.length → o = some ⟨g, 0, none⟩) ∧ L.length ≤ n ∧ Ik w0 w b m d (boxOf xb a ++ sureCells g L) ∧ SureF d.fs L
theorem mid_of {w0 w w' : World} {b m B : Nat} {d : Dk} {xb : Nat} {a : Act} {g : Nat} {L L2 : List P2} {v : Value} {n : Nat} (h : Ik w0 w b m d (boxOf xb a ++ sureCells g L)) (hb : Below w.heap.size w w') (ho : SuO w' B v L2) (hB : w.heap.size ≤ B) (hs : SureF d.fs L2) (hn : L2.length ≤ n) : Mid w0 w' b m v xb a n := by
  obtain ⟨g2, o, cap, hv, hO, hi⟩ := h.addSure hb ho hB
  refine ⟨L2, g2, o, cap, d, hv, hO, hn, hi.sub fun y hy => ?_, hs⟩
  rcases List.mem_append.1 hy with hy | hy
  · exact List.mem_append.2 (.inl (List.mem_append.2 (.inl hy)))
  · exact List.mem_append.2 (.inr hy)
theorem le_alloc (w : World) (o : Obj) : w.heap.size ≤ (w.alloc o).heap.size := by simp
theorem lt_alloc (w : World) (o : Obj) : w.heap.size < (w.alloc o).heap.size := by simp
theorem le_alloc_drew (w : World) (o : Obj) : w.heap.size ≤ ((w.alloc o).drew).heap.size := le_alloc w o
theorem lt_alloc_drew (w : World) (o : Obj) : w.heap.size < ((w.alloc o).drew).heap.size := lt_alloc w o
theorem cell_alloc_drew {w : World} {b o : Nat} {v : Value} (h : w.cell? ⟨b, o, none⟩ = some v) (x : Obj) : ((w.alloc x).drew).cell? ⟨b, o, none⟩ = some v := cell_alloc h x
theorem heap_alloc_drew (w : World) (o : Obj) : ((w.alloc o).drew).heap[w.heap.size]? = some o := heap_alloc_new w o
theorem own_ne {w : World} {B : Nat} {e : TypeId} {k : Nat} {v : Value} {n : Nat} {xs : List Value} (h : w.ownsRow B e k v n xs) {x : Nat} (hx : x < B) : some x ≠ v.ownBlock := fun e => absurd (h.lt x e.symm).1 (by omega)
/-- at a round's head -/
def Head (w0 w : World) (b m : Nat) (v : Value) (n : Nat) : Prop :=
  ∃ (L : List P2) (g : Nat) (o : Option Addr) (cap : Nat) (d : Dk), v = .slice o L.length cap ∧ (0 < L.length → o = some ⟨g, 0, none⟩) ∧ L.length ≤ n ∧ Ik w0 w b m d (sureCells g L) ∧ SureF d.fs L ∧ d.down = false
set_option maxRecDepth 100000 in
set_option maxHeartbeats 40000000 in
theorem lasts_walk (w : World) (la : Option Addr) (lc : Nat) (l : List Act) (hl : l.length ≤ 9223372036854775807) (h : ActsAt w la l) :
    Calls Try.prog 5 #[.slice la l.length lc] w fun e w' => e = .returned (.bool true) ∧ Below w.heap.size w w' := by
  have H := Lib.hid h
  clear h
  obtain ⟨i0, hi0, hz0, hz1, hz2⟩ := info_parts info_kept
  go_enter Try.func5, Try.ntmps5
  go_wp2_with fail
  refine (awake_true _).mono ?_
  rintro e w1 ⟨rfl, hb1⟩
  have HB1 := Lib.hid hb1
  clear hb1
  go_wp2_with fail
  refine (great_any _ la lc l hl (H.out.below HB1.out)).mono ?_
  rintro e w2 ⟨rfl, hb2⟩
  have HB2 := Lib.hid (HB1.out.trans (hb2.mono HB1.out.size))
  clear hb2
  cases hg : greatB l
  case true =>
    go_wp2_with fail
    go_ret
    exact ⟨rfl, HB2.out⟩
  case false =>
    have HG := Lib.hid (great_no hg)
    have h80 := HG.out.1
    clear hg
    go_wp2_with fail
    refine (In.new HB2.out).mono ?_
    rintro e w3 ⟨rfl, h3⟩
    have H3 := Lib.hid (show Head w w3 (w2.heap.size + 1) w2.heap.size (.slice none 0 0) 0 from ⟨[], 0, none, 0, d0, rfl, fun h => absurd h (by decide), Nat.le_refl _, ⟨h3, ⟨(fun c hc => by cases hc), (fun c hc => by cases hc)⟩⟩, (fun p hp => by cases hp), rfl⟩)
    clear h3
    go_wp2_with fail
    go_loopw [4, 5] (fun sv i wr => ∃ I : Nat, I ≤ l.length ∧ i = .int .i64 I ∧ Hid (Head w wr (w2.heap.size + 1) w2.heap.size sv I)) (fun _ i _ => l.length - (intOf i).toNat)
    case atStart => exact ⟨0, by omega, rfl, H3⟩
    case round =>
      obtain ⟨I, hI, rfl, HH⟩ := hrel
      obtain ⟨L, g, o, cap, d, rfl, ho, hn, hik, hsu, hu⟩ := HH.out
      have HK0 := Lib.hid hik
      have HO := Lib.hid ho
      have HS := Lib.hid hsu
      have HU := Lib.hid hu
      clear HH hik ho hsu hu H3
      by_cases hlt : I < l.length
      · obtain ⟨lb, lo, rfl, hc⟩ := H.out.cells (by omega)
        have hq := fun j v hj => (HK0.out.i.bel.cell (p := ⟨lb, lo + I * 6 + j, none⟩) (cell_lt (hc I hlt j v hj))).trans (hc I hlt j v hj)
        have q0 : wr.cell? ⟨lb, lo + I * 6, none⟩ = some (.int .i64 l[I].dw) := hq 0 _ rfl
        have q1 : wr.cell? ⟨lb, lo + I * 6 + 1, none⟩ = some (.string l[I].name) := hq 1 _ rfl
        have q2 : wr.cell? ⟨lb, lo + I * 6 + 2, none⟩ = some (.string l[I].to) := hq 2 _ rfl
        have q3 : wr.cell? ⟨lb, lo + I * 6 + 3, none⟩ = some (.string l[I].data) := hq 3 _ rfl
        have q4 : wr.cell? ⟨lb, lo + I * 6 + 4, none⟩ = some (.int .i64 l[I].n) := hq 4 _ rfl
        have q5 : wr.cell? ⟨lb, lo + I * 6 + 5, none⟩ = some (.slice l[I].ka l[I].kn l[I].kc) := hq 5 _ rfl
        have hOK := H.out.ok _ (List.getElem_mem hlt)
        have hDA := HG.out.2 _ (List.getElem_mem hlt)
        clear hc hq
        generalize l[I] = a at *
        have HK := Lib.hid (HK0.out.boxed a 45)
        have HDA := Lib.hid (show a.data.size ≤ 1000000000000000 by omega)
        have HKN := Lib.hid (show a.kn ≤ 1000000000000000 by omega)
        have HNM := Lib.hid hOK.name
        have HTO := Lib.hid hOK.to
        have HOK := Lib.hid hOK
        have HLL := Lib.hid (show L.length ≤ 1000 by omega)
        clear hDA hOK
        go_upto_block 2 with (fail)
        clear q0 q1 q2 q3 q4 q5
        go_cut [4] (fun v wc => Mid w wc (w2.heap.size + 1) w2.heap.size v wr.heap.size a (I + 1))
        case first =>
          have hdo : a.dw = 0 ∨ a.dw = 1 ∨ a.dw = 2 ∨ a.dw = 3 ∨ a.dw = 4 ∨ a.dw = 6 ∨ a.dw = 8 ∨ a.dw = 9 ∨ ((a.dw == 0) = false ∧ (a.dw == 1) = false ∧ (a.dw == 2) = false ∧ (a.dw == 3) = false ∧ (a.dw == 4) = false ∧ (a.dw == 6) = false ∧ (a.dw == 8) = false ∧ (a.dw == 9) = false) := by
            simp only [beq_eq_false_iff_ne]; omega
          rcases hdo with hdo | hdo | hdo | hdo | hdo | hdo | hdo | hdo | ⟨n0, n1, n2, n3, n4, n6, n8, n9⟩
          · as_aux_lemma =>
              have hd0 : (a.dw == 0) = true := by rw [hdo]; rfl
              clear hdo
              go_wp2_with fail
              refine (HK.out.create HNM.out rfl rfl).mono ?_
              rintro e w6 ⟨rfl, h6⟩
              have H6 := Lib.hid h6
              clear h6
              go_wp2_with fail
              go_meet
              case rel => exact ⟨L, g, o, cap, _, rfl, HO.out, by omega, H6.out, sure_create HK.out.i.ok HS.out _⟩
          · as_aux_lemma =>
              have hd0 : (a.dw == 1) = true := by rw [hdo]; rfl
              have m0 : (a.dw == 0) = false := by rw [hdo]; rfl
              clear hdo
              go_wp2_with fail
              refine (HK.out.append HNM.out HDA.out rfl rfl).mono ?_
              rintro e w6 ⟨rfl, h6⟩
              have H6 := Lib.hid h6
              clear h6
              go_wp2_with fail
              go_meet
              case rel => exact ⟨L, g, o, cap, _, rfl, HO.out, by omega, H6.out, sure_append HK.out.i.ok HS.out _ _⟩
          · as_aux_lemma =>
              have hd0 : (a.dw == 2) = true := by rw [hdo]; rfl
              have m0 : (a.dw == 0) = false := by rw [hdo]; rfl
              have m1 : (a.dw == 1) = false := by rw [hdo]; rfl
              clear hdo
              by_cases hE : syncE d a.name.data.toList = 0
              · have HE := Lib.hid (sure_synced HK.out.i.ok HS.out a.name hE)
                go_wp2_with fail
                refine (HK.out.sync HNM.out hE rfl).mono ?_
                rintro e w6 ⟨rfl, h6⟩
                have H6 := Lib.hid h6
                have HE0 := Lib.hid hE
                clear h6 hE
                have y1 : w6.cell? ⟨wr.heap.size, 1, none⟩ = some (.string a.name) := H6.out.k.eq (wr.heap.size, 1, .string a.name) (by simp [boxOf])
                go_wp2_with fail
                refine (H6.out.read HNM.out rfl rfl).mono ?_
                rintro e w7 ⟨rfl, h7⟩
                have H7 := Lib.hid h7
                clear h7 y1
                have y1 : w7.cell? ⟨wr.heap.size, 1, none⟩ = some (.string a.name) := H7.out.k.eq (wr.heap.size, 1, .string a.name) (by simp [boxOf])
                have HSR := Lib.hid (Ik.suR (cap := cap) H7.out HO.out)
                have hdl : (dropL L a.name).length ≤ 1000 := Nat.le_trans (dropL_len _ _) (by omega)
                have HML := Lib.hid (show (dropL L a.name).length + 1 ≤ maxLen by unfold maxLen; omega)
                have HBY := Lib.hid (show ((dropL L a.name).length + 1) * 32 ≤ 140737488355328 by omega)
                clear hdl
                rw [HE.out.1]
                have HSF := Lib.hid HE.out.2
                clear HE
                generalize readS d a.name.data.toList = S9 at *
                have HONE := Lib.hid (show ∀ u ∈ [Value.string a.name, Value.string S9], u.oneCell' = true by simp [Value.oneCell'])
                go_wp2_with fail
                go_region_held3 (fun w' => w'.cell? ⟨wr.heap.size, 1, none⟩ = some (.string a.name))
                  (first
                    | go_keep
                    | exact y9
                    | exact y10)
                  (first
                    | (go_at_call 21; (with_reducible refine (but_any _ _ g L a.name HLL.out HSR.out.drew).mono ?_); rintro e w9 ⟨⟨u, rfl, hu⟩, hb9⟩; have y9 : w9.cell? ⟨wr.heap.size, 1, none⟩ = some (.string a.name) := (hb9.cell (p := ⟨wr.heap.size, 1, none⟩) (cell_lt y1)).trans y1)
                    | (go_at_call 21; (with_reducible refine (but_any _ _ g L a.name HLL.out (HSR.out.below (bl1 _ _)).drew).mono ?_); rintro e w9 ⟨⟨u, rfl, hu⟩, hb9⟩; have y9 : w9.cell? ⟨wr.heap.size, 1, none⟩ = some (.string a.name) := (hb9.cell (p := ⟨wr.heap.size, 1, none⟩) (Nat.lt_of_lt_of_le (cell_lt y1) (le_alloc_drew w7 _))).trans (cell_alloc_drew y1 _))
                    | (refine step_append_lies _ (by rfl) _ _ _ (by rfl) _ 48 i0 _ 2 32 Try.underlying42 hi0 hz0 hz1 hz2 rfl Nat.two_pos u (dropL L a.name).length (pcells (dropL L a.name)) (by rfl) (hu.own.alloc _) ⟨w9.heap.size, 0, none⟩ 1 1 [.string a.name, .string S9] (by rfl) (by rfl) (World.news_of_block (cs := #[.string a.name, .string S9]) (t := 48) (fr := (0, 0)) (heap_alloc_new w9 _)) HONE.out Nat.one_pos HML.out HBY.out (Nat.le_trans hb9.size (le_alloc w9 _)) _ rfl ?_; intro gg cap3 w10 hown1 hgrow hat hlt9; have y10 : w10.cell? ⟨wr.heap.size, 1, none⟩ = some (.string a.name) := hgrow.cell (cell_alloc y9 _) (own_ne hu.own (cell_lt y1)))
                    | (refine step_append_lies _ (by rfl) _ _ _ (by rfl) _ 48 i0 _ 2 32 Try.underlying42 hi0 hz0 hz1 hz2 rfl Nat.two_pos u (dropL L a.name).length (pcells (dropL L a.name)) (by rfl) hu.own ⟨w7.heap.size, 0, none⟩ 1 1 [.string a.name, .string S9] (by rfl) (by rfl) (World.news_of_block (cs := #[.string a.name, .string S9]) (t := 48) (fr := (0, 0)) ((hb9.block w7.heap.size (lt_alloc_drew w7 _)).trans (heap_alloc_drew w7 _))) HONE.out Nat.one_pos HML.out HBY.out hb9.size _ rfl ?_; intro gg cap3 w10 hown1 hgrow hat hlt9; have y10 : w10.cell? ⟨wr.heap.size, 1, none⟩ = some (.string a.name) := hgrow.cell y9 (own_ne hu.own (Nat.lt_of_lt_of_le (cell_lt y1) (le_alloc_drew w7 _)))))
                all_goals
                  have hB10 : Below w7.heap.size w7 w10 := by
                    first
                      | exact (((Below.refl w7.heap.size w7).drew.trans hb9).alloc hb9.size _).grown hgrow (Nat.le_trans hb9.size (le_alloc w9 _)) (fun j hj => (hu.own.lt j hj).1)
                      | exact (((Below.refl w7.heap.size w7).alloc (Nat.le_refl _) _).drew.trans (hb9.mono (le_alloc_drew w7 _))).grown hgrow (Nat.le_trans (le_alloc_drew w7 _) hb9.size) (fun j hj => Nat.le_trans (le_alloc_drew w7 _) (hu.own.lt j hj).1)
                  have HM := Lib.hid (fun (B : Nat) (hB : w7.heap.size ≤ B) (v : Value) (hov : w10.ownsRow B 48 2 v ((dropL L a.name).length + 1) (pcells (dropL L a.name) ++ [.string a.name, .string S9])) => mid_of H7.out hB10 (⟨by rw [pcells_append, List.length_append]; exact hov⟩ : SuO w10 B v (dropL L a.name ++ [(a.name, S9)])) hB HSF.out (show _ ≤ I + 1 by have := dropL_len L a.name; simp; omega))
                  have HV := Lib.hid hown1
                  clear hgrow hb9 hu hB10 hown1 y9 y10
                  go_wp2_with fail
                  go_meet
                  case rel => first | exact HM.out _ (Nat.le_refl _) _ HV.out | exact HM.out _ (le_alloc_drew w7 _) _ HV.out
              · have hE0 : (syncE d a.name.data.toList == 0) = false := by simpa using hE
                have HE := Lib.hid (sure_sync HK.out.i.ok HS.out a.name.data.toList)
                clear hE
                go_wp2_with fail
                refine (HK.out.sync HNM.out rfl rfl).mono ?_
                rintro e w6 ⟨rfl, h6⟩
                have H6 := Lib.hid h6
                clear h6
                go_wp2_with fail
                go_meet
                case rel => exact ⟨L, g, o, cap, _, rfl, HO.out, by omega, H6.out, HE.out⟩
          · as_aux_lemma =>
              have hd0 : (a.dw == 3) = true := by rw [hdo]; rfl
              have m0 : (a.dw == 0) = false := by rw [hdo]; rfl
              have m1 : (a.dw == 1) = false := by rw [hdo]; rfl
              have m2 : (a.dw == 2) = false := by rw [hdo]; rfl
              clear hdo
              by_cases hE : renameE d a.name.data.toList a.to.data.toList = 0
              · by_cases hab : a.name = a.to
                · have hq1 : (a.name.toList == a.to.toList) = true := by rw [hab]; simp
                  have HE := Lib.hid ((sure_renamed HK.out.i.ok HS.out a.name a.to hE).1 (by rw [hab]))
                  have HAB := Lib.hid hab
                  clear hab
                  go_wp2_with fail
                  refine (HK.out.rename HNM.out HTO.out hE rfl).mono ?_
                  rintro e w6 ⟨rfl, h6⟩
                  have H6 := Lib.hid h6
                  have HE0 := Lib.hid hE
                  clear h6 hE
                  have y1 : w6.cell? ⟨wr.heap.size, 1, none⟩ = some (.string a.name) := H6.out.k.eq (wr.heap.size, 1, .string a.name) (by simp [boxOf])
                  have y2 : w6.cell? ⟨wr.heap.size, 2, none⟩ = some (.string a.to) := H6.out.k.eq (wr.heap.size, 2, .string a.to) (by simp [boxOf])
                  go_wp2_with fail
                  go_meet
                  case rel => exact ⟨L, g, o, cap, _, rfl, HO.out, by omega, H6.out, HE.out⟩
                · have hq1 := toList_ne hab
                  have HE := Lib.hid ((sure_renamed HK.out.i.ok HS.out a.name a.to hE).2 (data_ne hab))
                  clear hab
                  go_wp2_with fail
                  refine (HK.out.rename HNM.out HTO.out hE rfl).mono ?_
                  rintro e w6 ⟨rfl, h6⟩
                  have H6 := Lib.hid h6
                  have HE0 := Lib.hid hE
                  clear h6 hE
                  generalize renameD d a.name.data.toList a.to.data.toList = d3 at *
                  have y1 : w6.cell? ⟨wr.heap.size, 1, none⟩ = some (.string a.name) := H6.out.k.eq (wr.heap.size, 1, .string a.name) (by simp [boxOf])
                  have y2 : w6.cell? ⟨wr.heap.size, 2, none⟩ = some (.string a.to) := H6.out.k.eq (wr.heap.size, 2, .string a.to) (by simp [boxOf])
                  have HDL := Lib.hid (show (dropL L a.name).length ≤ 1000 from Nat.le_trans (dropL_len _ _) (by omega))
                  have HDM := Lib.hid (show (dropL (dropL L a.name) a.to).length ≤ I from Nat.le_trans (dropL_len _ _) (Nat.le_trans (dropL_len _ _) (by omega)))
                  go_wp2_with fail
                  have cof := of_any w6 _ g L a.name (by omega) (Ik.suR (cap := cap) H6.out HO.out)
                  cases hB : ofB L a.name with
                  | false =>
                    rw [hB] at cof
                    refine cof.mono ?_
                    clear cof
                    rintro e w7 ⟨rfl, hb7⟩
                    have H7 := Lib.hid (H6.out.quiet hb7)
                    have HSR := Lib.hid (Ik.suR (cap := cap) H7.out HO.out)
                    have HBF := Lib.hid hB
                    clear hb7 y1 y2 hB
                    have y1 : w7.cell? ⟨wr.heap.size, 1, none⟩ = some (.string a.name) := H7.out.k.eq (wr.heap.size, 1, .string a.name) (by simp [boxOf])
                    have y2 : w7.cell? ⟨wr.heap.size, 2, none⟩ = some (.string a.to) := H7.out.k.eq (wr.heap.size, 2, .string a.to) (by simp [boxOf])
                    go_wp2_with fail
                    go_region_held3 (fun w' => w'.cell? ⟨wr.heap.size, 1, none⟩ = some (.string a.name) ∧ w'.cell? ⟨wr.heap.size, 2, none⟩ = some (.string a.to))
                      (first
                        | go_keep
                        | exact ⟨z1, z2⟩
                        | exact ⟨x1, x2⟩)
                      (first
                        | (go_at_call 21; (with_reducible refine (but_any _ _ g L a.name HLL.out HSR.out.drew).mono ?_); rintro e w8 ⟨⟨u, rfl, hu⟩, hb8⟩; obtain ⟨g1, hr1, _⟩ := hu.read; have z1 : w8.cell? ⟨wr.heap.size, 1, none⟩ = some (.string a.name) := (hb8.cell (p := ⟨wr.heap.size, 1, none⟩) (cell_lt y1)).trans y1; have z2 : w8.cell? ⟨wr.heap.size, 2, none⟩ = some (.string a.to) := (hb8.cell (p := ⟨wr.heap.size, 2, none⟩) (cell_lt y2)).trans y2)
                        | (go_at_call 21; (with_reducible refine (but_any _ _ g1 (dropL L a.name) a.to HDL.out hr1).mono ?_); rintro e w9 ⟨⟨u2, rfl, hu2⟩, hb9⟩; have x1 : w9.cell? ⟨wr.heap.size, 1, none⟩ = some (.string a.name) := (hb9.cell (p := ⟨wr.heap.size, 1, none⟩) (cell_lt z1)).trans z1; have x2 : w9.cell? ⟨wr.heap.size, 2, none⟩ = some (.string a.to) := (hb9.cell (p := ⟨wr.heap.size, 2, none⟩) (cell_lt z2)).trans z2))
                    have hB9 : Below w7.heap.size w7 w9 := ((Below.refl w7.heap.size w7).drew.trans hb8).trans (hb9.mono hb8.size)
                    have HM := Lib.hid (mid_of (n := I + 1) H7.out hB9 hu2 hb8.size HE.out.1 (Nat.le_succ_of_le HDM.out))
                    clear hu hu2 hr1 hb8 hb9 hB9 x1 x2 z1 z2
                    go_wp2_with fail
                    go_meet
                    case rel => exact HM.out
                  | true =>
                    rw [hB] at cof
                    refine cof.mono ?_
                    clear cof
                    rintro e w7 ⟨rfl, hb7⟩
                    have H7 := Lib.hid (H6.out.quiet hb7)
                    have HSR := Lib.hid (Ik.suR (cap := cap) H7.out HO.out)
                    have HBF := Lib.hid hB
                    clear hb7 y1 y2 hB
                    have y1 : w7.cell? ⟨wr.heap.size, 1, none⟩ = some (.string a.name) := H7.out.k.eq (wr.heap.size, 1, .string a.name) (by simp [boxOf])
                    have y2 : w7.cell? ⟨wr.heap.size, 2, none⟩ = some (.string a.to) := H7.out.k.eq (wr.heap.size, 2, .string a.to) (by simp [boxOf])
                    go_wp2_with fail
                    go_region_held3 (fun w' => w'.cell? ⟨wr.heap.size, 1, none⟩ = some (.string a.name) ∧ w'.cell? ⟨wr.heap.size, 2, none⟩ = some (.string a.to))
                      (first
                        | go_keep
                        | exact ⟨z1, z2⟩
                        | exact ⟨x1, x2⟩)
                      (first
                        | (go_at_call 21; (with_reducible refine (but_any _ _ g L a.name HLL.out HSR.out.drew).mono ?_); rintro e w8 ⟨⟨u, rfl, hu⟩, hb8⟩; obtain ⟨g1, hr1, _⟩ := hu.read; have z1 : w8.cell? ⟨wr.heap.size, 1, none⟩ = some (.string a.name) := (hb8.cell (p := ⟨wr.heap.size, 1, none⟩) (cell_lt y1)).trans y1; have z2 : w8.cell? ⟨wr.heap.size, 2, none⟩ = some (.string a.to) := (hb8.cell (p := ⟨wr.heap.size, 2, none⟩) (cell_lt y2)).trans y2)
                        | (go_at_call 21; (with_reducible refine (but_any _ _ g1 (dropL L a.name) a.to HDL.out hr1).mono ?_); rintro e w9 ⟨⟨u2, rfl, hu2⟩, hb9⟩; have x1 : w9.cell? ⟨wr.heap.size, 1, none⟩ = some (.string a.name) := (hb9.cell (p := ⟨wr.heap.size, 1, none⟩) (cell_lt z1)).trans z1; have x2 : w9.cell? ⟨wr.heap.size, 2, none⟩ = some (.string a.to) := (hb9.cell (p := ⟨wr.heap.size, 2, none⟩) (cell_lt z2)).trans z2))
                    have hB9 : Below w7.heap.size w7 w9 := ((Below.refl w7.heap.size w7).drew.trans hb8).trans (hb9.mono hb8.size)
                    have HB9 := Lib.hid hB9
                    have HU2 := Lib.hid hu2
                    have HZ8 := Lib.hid hb8.size
                    have HZ9 := Lib.hid hb9.size
                    clear hu hu2 hr1 hb8 hb9 hB9 z1 z2
                    go_wp2_with (first
                      | (at_builtin; refine wpList_append_own _ rfl _ _ 42 rfl w8.heap.size 48 i0 (.agg #[.string ⟨#[]⟩, .string ⟨#[]⟩]) 2 32 Try.underlying42 hi0 hz0 hz1 hz2 rfl (by decide) u2 _ _ rfl (HU2.out.own.alloc _) ⟨w9.heap.size, 0, none⟩ 1 1 [.string a.to, .string (ofS L a.name)] rfl rfl (World.news_of_block (cs := #[.string a.to, .string (ofS L a.name)]) (t := 48) (fr := (0, 0)) (heap_alloc_new w9 _)) (by simp [Value.oneCell']) (by have := HDM.out; unfold maxLen; omega) (by have := HDM.out; omega) (by have := HZ9.out; simp; omega) ?_; intro v' w10 hown1 hgrow _)
                      | fail)
                    have hfin : SuO w10 w8.heap.size v' (dropL (dropL L a.name) a.to ++ [(a.to, ofS L a.name)]) := ⟨by rw [pcells_append, List.length_append]; exact hown1⟩
                    have hB10 : Below w7.heap.size w7 w10 := (HB9.out.alloc HB9.out.size _).grown hgrow (by have := HB9.out.size; simp; omega) (fun j hj => Nat.le_trans (show w7.heap.size ≤ w8.heap.size from HZ8.out) (HU2.out.own.lt j hj).1)
                    go_meet
                    case rel =>
                      refine mid_of H7.out hB10 hfin HZ8.out (fun p hp => ?_) (by have := HDM.out; simp; omega)
                      rcases List.mem_append.1 hp with hp | hp
                      · exact HE.out.1 p hp
                      · rw [List.mem_singleton.1 hp]; exact HE.out.2 HBF.out
              · have hE0 : (renameE d a.name.data.toList a.to.data.toList == 0) = false := by simpa using hE
                have HE := Lib.hid (sure_unrenamed HS.out _ _ hE)
                clear hE
                go_wp2_with fail
                refine (HK.out.rename HNM.out HTO.out rfl rfl).mono ?_
                rintro e w6 ⟨rfl, h6⟩
                have H6 := Lib.hid h6
                clear h6
                go_wp2_with fail
                go_meet
                case rel => exact ⟨L, g, o, cap, _, rfl, HO.out, by omega, H6.out, HE.out⟩
          · as_aux_lemma =>
              have hd0 : (a.dw == 4) = true := by rw [hdo]; rfl
              have m0 : (a.dw == 0) = false := by rw [hdo]; rfl
              have m1 : (a.dw == 1) = false := by rw [hdo]; rfl
              have m2 : (a.dw == 2) = false := by rw [hdo]; rfl
              have m3 : (a.dw == 3) = false := by rw [hdo]; rfl
              clear hdo
              by_cases hE : removeE d a.name.data.toList = 0
              · have HE := Lib.hid (sure_remove HS.out a.name).2
                go_wp2_with fail
                refine (HK.out.remove HNM.out hE rfl).mono ?_
                rintro e w6 ⟨rfl, h6⟩
                have H6 := Lib.hid h6
                have HE0 := Lib.hid hE
                clear h6 hE
                have y1 : w6.cell? ⟨wr.heap.size, 1, none⟩ = some (.string a.name) := H6.out.k.eq (wr.heap.size, 1, .string a.name) (by simp [boxOf])
                go_wp2_with fail
                refine (but_any _ _ g L a.name (by omega) (Ik.suR H6.out HO.out)).mono ?_
                rintro e w7 ⟨⟨u, rfl, hu⟩, hb7⟩
                have HM := Lib.hid (mid_of (n := I + 1) H6.out hb7 hu (Nat.le_refl _) HE.out (Nat.le_trans (dropL_len _ _) (by omega)))
                clear hu hb7
                go_wp2_with fail
                go_meet
                case rel => exact HM.out
              · have hE0 : (removeE d a.name.data.toList == 0) = false := by simpa using hE
                have HE := Lib.hid ((sure_remove HS.out a.name).1 hE)
                clear hE
                go_wp2_with fail
                refine (HK.out.remove HNM.out rfl rfl).mono ?_
                rintro e w6 ⟨rfl, h6⟩
                have H6 := Lib.hid h6
                clear h6
                go_wp2_with fail
                go_meet
                case rel => exact ⟨L, g, o, cap, _, rfl, HO.out, by omega, H6.out, HE.out⟩
          · as_aux_lemma =>
              have hd0 : (a.dw == 6) = true := by rw [hdo]; rfl
              have m0 : (a.dw == 0) = false := by rw [hdo]; rfl
              have m1 : (a.dw == 1) = false := by rw [hdo]; rfl
              have m2 : (a.dw == 2) = false := by rw [hdo]; rfl
              have m3 : (a.dw == 3) = false := by rw [hdo]; rfl
              have m4 : (a.dw == 4) = false := by rw [hdo]; rfl
              clear hdo
              go_wp2_with fail
              refine (HK.out.fuse a.n HOK.out.n.2 rfl).mono ?_
              rintro e w6 ⟨rfl, h6⟩
              have H6 := Lib.hid h6
              clear h6
              go_wp2_with fail
              go_meet
              case rel => exact ⟨L, g, o, cap, _, rfl, HO.out, by omega, H6.out, HS.out⟩
          · as_aux_lemma =>
              have hd0 : (a.dw == 8) = true := by rw [hdo]; rfl
              have m0 : (a.dw == 0) = false := by rw [hdo]; rfl
              have m1 : (a.dw == 1) = false := by rw [hdo]; rfl
              have m2 : (a.dw == 2) = false := by rw [hdo]; rfl
              have m3 : (a.dw == 3) = false := by rw [hdo]; rfl
              have m4 : (a.dw == 4) = false := by rw [hdo]; rfl
              have m6 : (a.dw == 6) = false := by rw [hdo]; rfl
              clear hdo
              go_wp2_with fail
              refine (HK.out.twin).mono ?_
              rintro e w6 ⟨t, n, rfl, h6⟩
              have H6 := Lib.hid h6
              clear h6
              have y5 : w6.cell? ⟨wr.heap.size, 5, none⟩ = some (.slice a.ka a.kn a.kc) := H6.out.k.eq (wr.heap.size, 5, .slice a.ka a.kn a.kc) (by simp [boxOf])
              go_wp2_with fail
              refine (H6.out.crash a.ka a.kn a.kc a.ks HOK.out.len HKN.out (HOK.out.keep H6.out.i.l.bel H6.out.i.l.lb) rfl).mono ?_
              rintro e w7 ⟨rfl, h7⟩
              have H7 := Lib.hid h7
              clear h7 y5
              go_wp2_with fail
              refine (H7.out.start (again_is HK.out.i.ok a.ks)).mono ?_
              rintro e w8 ⟨rfl, h8⟩
              have H8 := Lib.hid h8
              clear h8
              go_wp2_with fail
              refine (begins_true w w8 _ _ t n _ d _ H8.out (begun_again HK.out.i.ok HU.out a.ks)).mono ?_
              rintro e w9 ⟨rfl, h9⟩
              have H9 := Lib.hid h9
              clear h9
              go_wp2_with fail
              go_meet
              case rel => exact ⟨L, g, o, cap, again d a.ks, rfl, HO.out, by omega, H9.out.left, sure_crash HK.out.i.ok HS.out a.ks⟩
          · as_aux_lemma =>
              have hd0 : (a.dw == 9) = true := by rw [hdo]; rfl
              have m0 : (a.dw == 0) = false := by rw [hdo]; rfl
              have m1 : (a.dw == 1) = false := by rw [hdo]; rfl
              have m2 : (a.dw == 2) = false := by rw [hdo]; rfl
              have m3 : (a.dw == 3) = false := by rw [hdo]; rfl
              have m4 : (a.dw == 4) = false := by rw [hdo]; rfl
              have m6 : (a.dw == 6) = false := by rw [hdo]; rfl
              have m8 : (a.dw == 8) = false := by rw [hdo]; rfl
              clear hdo
              go_wp2_with fail
              refine (HK.out.start rfl).mono ?_
              rintro e w6 ⟨rfl, h6⟩
              have H6 := Lib.hid h6
              clear h6
              go_wp2_with fail
              go_meet
              case rel => exact ⟨L, g, o, cap, _, rfl, HO.out, by omega, H6.out, (by rw [show startD d = d by simp [startD, HU.out]]; exact HS.out)⟩
          · as_aux_lemma =>
              go_wp2_with fail
              go_meet
              case rel => exact ⟨L, g, o, cap, d, rfl, HO.out, by omega, HK.out, HS.out⟩
        case rest =>
          as_aux_lemma =>
          clear HK HK0 HO HS HU
          obtain ⟨L2, g2, o2, cap2, d2, rfl, ho2, hn2, hik2, hsu2⟩ := hcut
          have HI := Lib.hid hik2
          have HO2 := Lib.hid ho2
          have HS2 := Lib.hid hsu2
          clear hik2 ho2 hsu2
          cases hd : d2.down with
          | false =>
            have HD := Lib.hid hd
            clear hd
            go_wp2_with fail
            refine (HI.out.down HD.out).mono ?_
            rintro e w6 ⟨rfl, rfl⟩
            have HT0 := Lib.hid (HI.out.sub (ys := sureCells g2 L2) (fun y hy => List.mem_append.2 (.inr hy)))
            go_wp2_with fail
            go_loopw [12] (fun k wr2 => ∃ K : Nat, K ≤ L2.length ∧ k = .int .i64 K ∧ Hid (Ik w wr2 (w2.heap.size + 1) w2.heap.size (d2) (sureCells g2 L2))) (fun k _ => L2.length - (intOf k).toNat)
            case atStart => exact ⟨0, Nat.zero_le _, rfl, HT0⟩
            case round =>
              obtain ⟨K, hK, rfl, HT⟩ := hrel
              by_cases hlt2 : K < L2.length
              · obtain rfl := HO2.out (by omega)
                obtain ⟨s, r1, r2, r3, r4, r5, r6⟩ := KnownF.reads HT.out.i.ok (HD.out) (HS2.out _ (List.getElem_mem hlt2))
                have hs := sure_at (g := g2) hlt2
                have z1 := HT.out.k.eq _ hs.1
                have z2 := HT.out.k.eq _ hs.2
                have HSS := Lib.hid hs
                dsimp only at z1 z2
                clear hs
                generalize L2[K] = p at *
                have R1 := Lib.hid r1
                have R2 := Lib.hid r2
                have R5 := Lib.hid r5
                have R6 := Lib.hid r6
                clear r1 r2 r5 r6
                go_wp2_with fail
                refine (HT.out.read R6.out R2.out R1.out).mono ?_
                rintro e w9 ⟨rfl, h9⟩
                have H9 := Lib.hid h9
                clear h9 z1 z2
                have z1 := H9.out.k.eq _ HSS.out.1
                have z2 := H9.out.k.eq _ HSS.out.2
                dsimp only at z1 z2
                go_wp2_with fail
                have s1 : decide ((s.size : Int) < (p.2.size : Int)) = false := by simp; omega
                have s2 : (K : Int) < (L2.length : Int) := by omega
                go_quiet (fail)
                have s4 : ((s.extract 0 p.2.size).toList == p.2.toList) = true := by rw [R5.out]; simp
                go_wp2_with fail
                · exfalso
                  have hx : s.size < p.2.size ∨ (!(s.extract 0 p.2.size).toList == p.2.toList) = true := by assumption
                  rw [s4] at hx
                  rcases hx with hx | hx
                  · omega
                  · cases hx
                exact ⟨⟨K + 1, by omega, by go_num, Lib.hid (H9.out.drewN nq)⟩, by simp [intOf]; omega⟩
              · go_wp2_with fail
                exact ⟨⟨I + 1, by omega, by simp, Lib.hid ⟨L2, g2, _, cap2, _, rfl, HO2.out, by omega, HT.out, HS2.out, HD.out⟩⟩, by simp [intOf]; omega⟩
          | true =>
            have HD := Lib.hid hd
            clear hd
            go_wp2_with fail
            refine (HI.out.down HD.out).mono ?_
            rintro e w6 ⟨rfl, rfl⟩
            have y5 : wc.cell? ⟨wr.heap.size, 5, none⟩ = some (.slice a.ka a.kn a.kc) := HI.out.k.eq (wr.heap.size, 5, .slice a.ka a.kn a.kc) (by simp [boxOf])
            go_wp2_with fail
            refine (HI.out.crash a.ka a.kn a.kc a.ks HOK.out.len HKN.out (HOK.out.keep HI.out.i.bel HI.out.i.lb) rfl).mono ?_
            rintro e w7 ⟨rfl, h7⟩
            have H7 := Lib.hid h7
            clear h7 y5
            go_wp2_with fail
            refine (H7.out.start (again_is HI.out.i.ok a.ks)).mono ?_
            rintro e w8 ⟨rfl, h8⟩
            have H8 := Lib.hid h8
            clear h8
            have HS3 := Lib.hid (show SureF (again d2 a.ks).fs L2 from sure_crash HI.out.i.ok HS2.out a.ks)
            have HT0 := Lib.hid (H8.out.sub (ys := sureCells g2 L2) (fun y hy => List.mem_append.2 (.inr hy)))
            go_wp2_with fail
            go_loopw [12] (fun k wr2 => ∃ K : Nat, K ≤ L2.length ∧ k = .int .i64 K ∧ Hid (Ik w wr2 (w2.heap.size + 1) w2.heap.size (again d2 a.ks) (sureCells g2 L2))) (fun k _ => L2.length - (intOf k).toNat)
            case atStart => exact ⟨0, Nat.zero_le _, rfl, HT0⟩
            case round =>
              obtain ⟨K, hK, rfl, HT⟩ := hrel
              by_cases hlt2 : K < L2.length
              · obtain rfl := HO2.out (by omega)
                obtain ⟨s, r1, r2, r3, r4, r5, r6⟩ := KnownF.reads HT.out.i.ok (rfl) (HS3.out _ (List.getElem_mem hlt2))
                have hs := sure_at (g := g2) hlt2
                have z1 := HT.out.k.eq _ hs.1
                have z2 := HT.out.k.eq _ hs.2
                have HSS := Lib.hid hs
                dsimp only at z1 z2
                clear hs
                generalize L2[K] = p at *
                have R1 := Lib.hid r1
                have R2 := Lib.hid r2
                have R5 := Lib.hid r5
                have R6 := Lib.hid r6
                clear r1 r2 r5 r6
                go_wp2_with fail
                refine (HT.out.read R6.out R2.out R1.out).mono ?_
                rintro e w9 ⟨rfl, h9⟩
                have H9 := Lib.hid h9
                clear h9 z1 z2
                have z1 := H9.out.k.eq _ HSS.out.1
                have z2 := H9.out.k.eq _ HSS.out.2
                dsimp only at z1 z2
                go_wp2_with fail
                have s1 : decide ((s.size : Int) < (p.2.size : Int)) = false := by simp; omega
                have s2 : (K : Int) < (L2.length : Int) := by omega
                go_quiet (fail)
                have s4 : ((s.extract 0 p.2.size).toList == p.2.toList) = true := by rw [R5.out]; simp
                go_wp2_with fail
                · exfalso
                  have hx : s.size < p.2.size ∨ (!(s.extract 0 p.2.size).toList == p.2.toList) = true := by assumption
                  rw [s4] at hx
                  rcases hx with hx | hx
                  · omega
                  · cases hx
                exact ⟨⟨K + 1, by omega, by go_num, Lib.hid (H9.out.drewN nq)⟩, by simp [intOf]; omega⟩
              · go_wp2_with fail
                exact ⟨⟨I + 1, by omega, by simp, Lib.hid ⟨L2, g2, _, cap2, _, rfl, HO2.out, by omega, HT.out, HS3.out, rfl⟩⟩, by simp [intOf]; omega⟩
      · go_wp2_with fail
        go_ret
        exact ⟨rfl, HK0.out.i.bel⟩
end Go.Proofs.Ytmhflhbogkkblaa
