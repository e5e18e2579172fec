/- Lemmas for ModelStays' proof. -/
import Derived.Test.YtgoejmheihgpfaaGreatDoorQt
namespace Go.Proofs.YtgoejmheihgpfaaGreatDoor
set_option maxRecDepth 100000
set_option maxHeartbeats 16000000
open Go.RowKit
def hasA (F : Mp) (L : List Srt) : Bool := match L with
  | [] => false
  | t :: _ => t.kind != 7 || decide (mget F t.name > 0)
theorem has_any (w : World) (M : Nat) (F : Mp) (hM : HasMap w M F) (ob : Nat) (hob : w.cell? ⟨ob, 0, none⟩ = some (.map (some M))) (v : Value) (L : List Srt) (h : Slc w 2 v L.length (scells L)) (hB : ∀ t ∈ L, t.name.length ≤ 200) :
    Calls Tryz.prog 93 #[v, .pointer (some ⟨ob, 0, none⟩)] w fun e w' => e = .returned (.bool (hasA F L)) ∧ Below w.heap.size w w' := by
  obtain ⟨a, c, rfl⟩ := h.shape; have hc : L.length ≤ c := by obtain ⟨⟨_, _, e, h, _⟩, _⟩ := h; cases e; exact h
  have hc2 : c ≤ 9223372036854775807 := by obtain ⟨⟨_, _, e, _, h, _⟩, _⟩ := h; cases e; exact h
  have HBn := zD (fun n => show Below w.heap.size w (w.drewN n) from ⟨rfl, rfl, rfl, zn, fun _ _ => rfl⟩); cases L with
  | nil =>
    show Calls _ _ #[.slice a 0 c, _] _ _
    clear h hB; go_enter Tryz.func93, Tryz.ntmps93; go_wp2_with fail; go_quiet (fail); go_wp2_with fail; exact zR (v := .bool false) ⟨rfl, HBn.out _⟩
  | cons t r =>
    obtain ⟨b, o, rfl, hb, q0, q1⟩ := srt_at h (k := 0) (by simp); have q0' : w.cell? ⟨b, o, none⟩ = some (.int .u8 (t.kind : Nat)) := by simpa using q0
    have q1' : w.cell? ⟨b, o + 1, none⟩ = some (sT t.name) := by simpa using q1
    have hn := hB t List.mem_cons_self; have hl0 : 0 < (t :: r).length := Nat.succ_pos _; generalize hL : (t :: r).length = n at *; have hi0 : (0 : Int) < (n : Int) := by omega
    have d0 : decide ((0 : Int) < (n : Int)) = true := zt hi0; have HR := zD (show hasA F (t :: r) = (t.kind != 7 || decide (mget F t.name > 0)) from rfl); generalize hasA F (t :: r) = R at *; clear h hB q0 q1 hL; by_cases c1 : t.kind = 7
    · have g7 : ((t.kind : Int) != 7) = false := by simp; omega
      have h7 : ((t.kind : Int) == 7) = true := by simp; omega
      have HQ := zD (show R = decide ((0 : Int) < mget F t.name) from by rw [HR.out, c1]; rfl); have hlk : (Instr.lookup 119 (.map (some M)) (sT t.name) false).run Tryz.prog w.drew = .ok (iV (mget F t.name)) w.drew := HasMap.look (w := w.drew) hM Tryz.underlying119 (zero_int w.drew) (by omega); have hlk0 : (Instr.lookup 119 (.map (some M)) (sT t.name) false).run Tryz.prog w = .ok (iV (mget F t.name)) w := HasMap.look hM Tryz.underlying119 (zero_int w) (by omega); have hlkn : ∀ n, (Instr.lookup 119 (.map (some M)) (sT t.name) false).run Tryz.prog (w.drewN n) = .ok (iV (mget F t.name)) (w.drewN n) := fun n => HasMap.look (w := w.drewN n) hM Tryz.underlying119 (zero_int _) (by omega)
      clear c1 HR hM; generalize mget F t.name = mg at *; go_enter Tryz.func93, Tryz.ntmps93; go_wp2_with fail; go_quiet (fail); go_wp2_with fail; exact zR (v := .bool (decide ((0 : Int) < mg))) ⟨by rw [HQ.out], HBn.out _⟩
    · have g7 : ((t.kind : Int) != 7) = true := by simp; omega
      have h7 : ((t.kind : Int) == 7) = false := by simp; omega
      have HQ := zD (show R = true from by rw [HR.out, show (t.kind != 7) = true from by simp [c1]]; rfl); clear c1 HR hM; go_enter Tryz.func93, Tryz.ntmps93; go_wp2_with fail; go_quiet (fail); go_wp2_with fail; exact zR (v := .bool true) ⟨by rw [HQ.out], HBn.out _⟩
def cntF (F : Mp) (n : Nat) (x : Fld) : Nat := if hasA F x.type then n + 1 else n
def isFin (F : Mp) (r : Rec) : Bool := (r.choice && decide (0 < r.fields.foldl (cntF F) 0)) || (!r.choice && r.fields.foldl (cntF F) 0 == r.fields.length)
def rdF (p : Mp × Bool) (r : Rec) : Mp × Bool := if isFin p.1 r && mget p.1 r.name == 0 then (mput p.1 r.name 1, true) else p
def roundF (s : Sch) (F : Mp) : Mp × Bool := s.records.foldl rdF (F, false)
def finN (s : Sch) : Nat → Mp → Mp
  | 0, F => F
  | n + 1, F => if (roundF s F).2 then finN s n (roundF s F).1 else (roundF s F).1
def freeN (s : Sch) (F : Mp) : Nat := s.records.countP (fun r => mget F r.name == 0)
def finA (s : Sch) : Mp := finN s (freeN s [] + 1) []
theorem countP_lt {α : Type} {p q : α → Bool} : ∀ {l : List α}, (∀ x ∈ l, q x = true → p x = true) → (∃ x ∈ l, p x = true ∧ q x = false) → l.countP q < l.countP p
  | [], _, ⟨_, h, _⟩ => by cases h
  | y :: r, h, ⟨x, hx, hp, hq⟩ => by
    have hle : r.countP q ≤ r.countP p := List.countP_mono_left (fun z hz => h z (List.mem_cons_of_mem _ hz))
    rw [List.countP_cons, List.countP_cons]
    rcases List.mem_cons.1 hx with rfl | hx
    · rw [hp, hq]
      simp
      omega
    · have := countP_lt (p := p) (q := q) (fun z hz => h z (List.mem_cons_of_mem _ hz)) ⟨x, hx, hp, hq⟩
      have h1 := h y List.mem_cons_self
      cases hq' : q y <;> cases hp' : p y <;> simp_all
      all_goals omega
theorem free_put {s : Sch} {F : Mp} {r : Rec} (hr : r ∈ s.records) (h : mget F r.name = 0) : freeN s (mput F r.name 1) < freeN s F := by
  refine countP_lt (fun x _ hx => ?_) ⟨r, hr, by simp [h], by simp [mget_same]⟩; by_cases e : x.name = r.name
  · rw [e, mget_same] at hx; cases hx
  · rwa [mget_ne _ _ _ e] at hx
def Fit (s : Sch) (F : Mp) : Prop := F.length + freeN s F ≤ s.records.length
theorem Fit.none (s : Sch) : Fit s [] := by
  show 0 + freeN s [] ≤ _
  rw [Nat.zero_add]; exact List.countP_le_length
theorem rdF_fit {s : Sch} {p : Mp × Bool} {r : Rec} (hr : r ∈ s.records) (h : Fit s p.1) : Fit s (rdF p r).1 ∧ freeN s (rdF p r).1 ≤ freeN s p.1 ∧ ((rdF p r).2 = true → p.2 = true ∨ freeN s (rdF p r).1 < freeN s p.1) := by
  unfold rdF; by_cases hc : (isFin p.1 r && mget p.1 r.name == 0) = true
  · rw [if_pos hc]
    have h0 : mget p.1 r.name = 0 := by simp at hc; exact hc.2
    have hf := free_put hr h0; have hl := mput_length p.1 r.name 1; unfold Fit at *; exact ⟨by show (mput p.1 r.name 1).length + freeN s (mput p.1 r.name 1) ≤ _; omega, by show freeN s (mput p.1 r.name 1) ≤ _; omega, fun _ => .inr hf⟩
  · rw [if_neg hc]
    exact ⟨h, zn, fun h => .inl h⟩
theorem round_fit {s : Sch} (F : Mp) (h : Fit s F) : ∀ k, Fit s ((s.records.take k).foldl rdF (F, false)).1 ∧ freeN s ((s.records.take k).foldl rdF (F, false)).1 ≤ freeN s F ∧ (((s.records.take k).foldl rdF (F, false)).2 = true → freeN s ((s.records.take k).foldl rdF (F, false)).1 < freeN s F)
  | 0 => ⟨h, zn, fun h => by cases h⟩
  | k + 1 => by
    obtain ⟨a, b, c⟩ := round_fit F h k
    by_cases hk : k < s.records.length
    · rw [take_fold rdF (F, false) s.records k hk]
      obtain ⟨d, e, f⟩ := rdF_fit (p := (s.records.take k).foldl rdF (F, false)) (List.getElem_mem hk) a
      refine ⟨d, by omega, fun h => ?_⟩
      rcases f h with g | g
      · have := c g; omega
      · omega
    · rw [List.take_of_length_le (by omega)] at a b c ⊢
      exact ⟨a, b, c⟩
theorem round_all (s : Sch) (F : Mp) : (s.records.take s.records.length).foldl rdF (F, false) = roundF s F := by rw [List.take_of_length_le zn]; rfl
theorem fin_stable {s : Sch} : ∀ (n : Nat) (F : Mp), Fit s F → freeN s F + 1 ≤ n → finN s n F = finN s (freeN s F + 1) F
  | 0, F, _, h => by omega
  | n + 1, F, hF, h => by
    obtain ⟨a, b, c⟩ := round_fit F hF s.records.length
    rw [round_all] at a b c
    show (if (roundF s F).2 then finN s n (roundF s F).1 else (roundF s F).1) = (if (roundF s F).2 then finN s (freeN s F) (roundF s F).1 else (roundF s F).1)
    by_cases hr : (roundF s F).2 = true
    · rw [if_pos hr, if_pos hr]
      have hc := c hr
      rw [fin_stable n _ a (by omega)]
      have key : ∀ m, m ≤ n → freeN s (roundF s F).1 + 1 ≤ m → finN s (freeN s (roundF s F).1 + 1) (roundF s F).1 = finN s m (roundF s F).1 := by
        intro m hm hm2
        rcases Nat.lt_or_ge m n with hlt | hge
        · exact (fin_stable m _ a hm2).symm
        · obtain rfl : m = n := by omega
          exact (fin_stable m _ a hm2).symm
      exact key (freeN s F) (by omega) (by omega)
    · rw [if_neg hr, if_neg hr]
termination_by n => n
theorem fin_go {s : Sch} {F : Mp} (hF : Fit s F) (h : (roundF s F).2 = true) : finN s (freeN s (roundF s F).1 + 1) (roundF s F).1 = finN s (freeN s F + 1) F := by
  obtain ⟨a, b, c⟩ := round_fit F hF s.records.length; rw [round_all] at a b c; have hc := c h
  have e : finN s (freeN s F + 1) F = finN s (freeN s F) (roundF s F).1 := by
    show (if (roundF s F).2 then finN s (freeN s F) (roundF s F).1 else (roundF s F).1) = _
    rw [if_pos h]
  rw [e, fin_stable (freeN s F) _ a (by omega)]
theorem fin_end {s : Sch} {F : Mp} (h : ¬ (roundF s F).2 = true) : finN s (freeN s F + 1) F = (roundF s F).1 := by
  show (if (roundF s F).2 then finN s (freeN s F) (roundF s F).1 else (roundF s F).1) = _
  rw [if_neg h]
noncomputable def lookW (W : World) (M : Nat) (k : Tx) : Int := match (Instr.lookup 119 (.map (some M)) (sT k) false).run Tryz.prog W with
  | .ok (.int _ n) _ => n
  | _ => 0
theorem HasMap.lookW {w : World} {M : Nat} {F : Mp} (h : HasMap w M F) {k : Tx} (hk : k.length ≤ 1000000) : lookW w M k = mget F k := by
  unfold Go.Proofs.YtgoejmheihgpfaaGreatDoor.lookW; rw [h.look Tryz.underlying119 (zero_int w) hk]
noncomputable def freeW (s : Sch) (M : Nat) (W : World) : Nat := s.records.countP (fun r => lookW W M r.name == 0)
theorem HasMap.freeW {s : Sch} (hM : Small s) {w : World} {M : Nat} {F : Mp} (h : HasMap w M F) : freeW s M w = freeN s F := by
  unfold Go.Proofs.YtgoejmheihgpfaaGreatDoor.freeW freeN; refine List.countP_congr fun r hr => ?_
  rw [h.lookW (by have := (hM.rc r hr).1; omega)]
theorem MapT.awm {m : Nat} {w1 w w' : World} (h : MapT m w w') (ha : Aw m w1 w) : Aw m w1 w' :=
  ⟨h.os.trans ha.os, h.tape.trans ha.tape, h.output.trans ha.output, by rw [h.size]; exact ha.size, fun j hj hn => (h.block j hn).trans (ha.block j hj hn)⟩
def boolOf : Value → Bool
  | .bool b => b
  | _ => false
theorem finite_any (w : World) (s : Sch) (ur us ug : Value) (hS : SchR w s ur us ug) (hM : Small s) :
    Calls Tryz.prog 57 #[.agg #[sT s.name, ur, us, ug]] w fun e w' => e = .returned (.map (some (w.heap.size + 1))) ∧ HasMap w' (w.heap.size + 1) (finA s) ∧ Below w.heap.size w w' := by
  have HM := zD hM; obtain ⟨⟨ra, rv, rfl⟩, ⟨sa, sv, rfl⟩, ⟨ga, gv, rfl⟩⟩ := hS.shape; have HS := zD (fun (wr : World) (h : Below w.heap.size w wr) => hS.below h); have hn1 := hM.nr; have hwm : (((w.alloc (.cells (sV s ra sa ga rv sv gv) 26)).alloc (.map #[] 0)).alloc (.cells #[.map (some (w.heap.size + 1))] 119)) = (((w.alloc (.cells (sV s ra sa ga rv sv gv) 26)).alloc (.map #[] 0)).alloc (.cells #[.map (some (w.heap.size + 1))] 119)) := rfl; have HMm := zD (show HasMap (((w.alloc (.cells (sV s ra sa ga rv sv gv) 26)).alloc (.map #[] 0)).alloc (.cells #[.map (some (w.heap.size + 1))] 119)) (w.heap.size + 1) [] from (show HasMap ((w.alloc (.cells (sV s ra sa ga rv sv gv) 26)).alloc (.map #[] 0)) (w.heap.size + 1) [] from (show (w.alloc (.cells (sV s ra sa ga rv sv gv) 26)).heap.size = w.heap.size + 1 from by simp) ▸ .of (World.ownsMap_made _ Tryz.prog 9 numElem)).below (bl1 _ _)); have HB0 := zD (show Below w.heap.size w (((w.alloc (.cells (sV s ra sa ga rv sv gv) 26)).alloc (.map #[] 0)).alloc (.cells #[.map (some (w.heap.size + 1))] 119)) from (((Below.refl _ w).alloc zn _).alloc (by simp) _).alloc (by simp; omega) _); have hX0 : (((w.alloc (.cells (sV s ra sa ga rv sv gv) 26)).alloc (.map #[] 0)).alloc (.cells #[.map (some (w.heap.size + 1))] 119)).heap[w.heap.size]? = some (.cells (sV s ra sa ga rv sv gv) 26 (0, 0)) := (Below.heap_alloc _ _ _ (by simp; omega)).trans ((Below.heap_alloc _ _ _ (by simp)).trans (zw _ _)); have hY0 : (((w.alloc (.cells (sV s ra sa ga rv sv gv) 26)).alloc (.map #[] 0)).alloc (.cells #[.map (some (w.heap.size + 1))] 119)).heap[w.heap.size + 2]? = some (.cells #[.map (some (w.heap.size + 1))] 119 (0, 0)) := (show ((w.alloc (.cells (sV s ra sa ga rv sv gv) 26)).alloc (.map #[] 0)).heap.size = w.heap.size + 2 from by simp) ▸ zw ((w.alloc (.cells (sV s ra sa ga rv sv gv) 26)).alloc (.map #[] 0)) _; have hZ0 : (((w.alloc (.cells (sV s ra sa ga rv sv gv) 26)).alloc (.map #[] 0)).alloc (.cells #[.map (some (w.heap.size + 1))] 119)).heap.size = w.heap.size + 3 := by simp
  have hmm := @run_makeMap Tryz.prog; clear hS hM hwm; go_enter Tryz.func57, Tryz.ntmps57; go_wp2_with fail; generalize (((w.alloc (.cells (sV s ra sa ga rv sv gv) 26)).alloc (.map #[] 0)).alloc (.cells #[.map (some (w.heap.size + 1))] 119)) = wB at *; have HX := zD (fun W (X : Aw (w.heap.size + 1) wB W) => show W.heap[w.heap.size]? = some (.cells (sV s ra sa ga rv sv gv) 26 (0, 0)) ∧ W.heap[w.heap.size + 2]? = some (.cells #[.map (some (w.heap.size + 1))] 119 (0, 0)) from ⟨(X.block _ (by omega) (by omega)).trans hX0, (X.block _ (by omega) (by omega)).trans hY0⟩); have HBW := zD (fun W (X : Aw (w.heap.size + 1) wB W) => show Below w.heap.size w W from ⟨X.os.trans HB0.out.os, X.tape.trans HB0.out.tape, X.output.trans HB0.out.output, Nat.le_trans HB0.out.size X.size, fun j hj => (X.block j (by omega) (by omega)).trans (HB0.out.block j hj)⟩); clear hX0 hY0; go_loopw [5] (fun va wr => ∃ (ag : Bool) (F : Mp), va = .bool ag ∧ Hid (Aw (w.heap.size + 1) wB wr) ∧ Hid (HasMap wr (w.heap.size + 1) F) ∧ Hid (Fit s F) ∧ Hid (if ag then finN s (freeN s F + 1) F = finA s else F = finA s)) (fun va W => 2 * freeW s (w.heap.size + 1) W + (if boolOf va then 1 else 0))
  case atStart => exact ⟨true, [], rfl, zD (Aw.refl _ _), HMm, zD (Fit.none s), zD rfl⟩
  case round =>
    rename World => w9
    obtain ⟨ag, F, rfl, HA9, HM9, HFt, HT⟩ := hrel; cases ag with
    | false =>
      have e5 := (HX.out w9 HA9.out).2; have c5 : w9.cell? ⟨w.heap.size + 2, 0, none⟩ = some (.map (some (w.heap.size + 1))) := by simp [World.cell?, e5]
      have HE := zD (show HasMap w9 (w.heap.size + 1) (finA s) from (show F = finA s from HT.out) ▸ HM9.out); have HBE := zD (HBW.out w9 HA9.out); clear e5 HT HM9 HFt HMm; go_wp2_with fail; exact zR (v := .map (some (w.heap.size + 1))) ⟨rfl, HE.out, HBE.out⟩
    | true =>
      have HT1 := zD (show finN s (freeN s F + 1) F = finA s from HT.out); have e5 := (HX.out w9 HA9.out).1; have c5 : w9.cell? ⟨w.heap.size, 1, none⟩ = some (.slice ra s.records.length rv) := by simp [World.cell?, e5]
      have HM9w := zD (HM9.out.freeW HM.out); clear e5 HT HMm; go_wp2_with fail; go_loopw [5, 18] (fun va vi wr => ∃ k : Nat, k ≤ s.records.length ∧ vi = iV (k : Nat) ∧ va = .bool ((s.records.take k).foldl rdF (F, false)).2 ∧ Hid (Aw (w.heap.size + 1) wB wr) ∧ Hid (HasMap wr (w.heap.size + 1) ((s.records.take k).foldl rdF (F, false)).1)) (fun _ vi _ => s.records.length - (intOf vi).toNat)
      case atStart => exact ⟨0, by omega, rfl, rfl, HA9, HM9⟩
      case round =>
        rename World => wo
        obtain ⟨k, hk, rfl, rfl, HAo, HMo⟩ := hrel; by_cases hlt : k < s.records.length
        · obtain ⟨xr, hx1, hx2⟩ := (HS.out w zl).rc
          have HBo := zD (HBW.out wo HAo.out); obtain ⟨b, o, fa, fc, ys, rfl, hb, q0, q1, q2, hs, hr⟩ := rec_in HBo.out hx1 hx2 hlt; have HTk := zD (take_fold rdF (F, false) s.records k hlt); have HFk := zD (round_fit F HFt.out k).1; have hbd := HM.out.rc _ (List.getElem_mem hlt); have hszo := HAo.out.size; have HBW2 := zD (fun W (X : Aw (w.heap.size + 1) wB W) => HBW.out W X); generalize s.records[k] = r at *; clear hx1 hx2; generalize (s.records.take k).foldl rdF (F, false) = p at *; have hns := hbd.2.1; have hml := HMo.out.lt; have HFit := HFk; clear HFk; go_wp2_with fail; generalize hw1 : wo.alloc (.cells #[sT r.name, .bool r.choice, .slice fa r.fields.length fc] 74) = w1; have HA1 := zD (show Aw (w.heap.size + 1) wB w1 from hw1 ▸ HAo.out.trans (Aw.below (bl1 wo _))); have HM1 := zD (show HasMap w1 (w.heap.size + 1) p.1 from hw1 ▸ HMo.out.below (bl1 wo _)); have hg1 : w1.heap[wo.heap.size]? = some (.cells #[sT r.name, .bool r.choice, .slice fa r.fields.length fc] 74 (0, 0)) := hw1 ▸ zw _ _; have hsz1 : w1.heap.size = wo.heap.size + 1 := by rw [← hw1]; simp
          have cr : w1.cell? ⟨wo.heap.size, 2, none⟩ = some (.slice fa r.fields.length fc) := by simp [World.cell?, hg1]
          have HG1 := zD (fun W (X : Below w1.heap.size w1 W) => show W.heap[wo.heap.size]? = some (.cells #[sT r.name, .bool r.choice, .slice fa r.fields.length fc] 74 (0, 0)) from (X.block _ (by omega)).trans hg1); clear hw1 hg1; go_wp2_with fail; go_loopw [8, 25] (fun vn vi wr => ∃ j : Nat, j ≤ r.fields.length ∧ vi = iV (j : Nat) ∧ vn = iV ((r.fields.take j).foldl (cntF p.1) 0 : Nat) ∧ (r.fields.take j).foldl (cntF p.1) 0 ≤ j ∧ Hid (Below w1.heap.size w1 wr)) (fun _ vi _ => r.fields.length - (intOf vi).toNat)
          case atStart => exact ⟨0, by omega, rfl, rfl, zn, zD zl⟩
          case round =>
            clear cr; rename World => wi
            obtain ⟨j, hj, rfl, rfl, hcj, HBi⟩ := hrel; have HAi := zD (HA1.out.trans (Aw.below HBi.out)); have HBwi := zD (HBW2.out wi HAi.out); have hszi := HBi.out.size; by_cases hlt2 : j < r.fields.length
            · obtain ⟨b2, o2, ga2, gc2, rfl, hb2, p0, p1, hs2⟩ := fld_in HBwi.out hs hr hlt2
              have HT2 := zD (show (r.fields.take (j + 1)).foldl (cntF p.1) 0 = cntF p.1 ((r.fields.take j).foldl (cntF p.1) 0) r.fields[j] from take_fold (cntF p.1) 0 r.fields j hlt2); have hbd2 := hbd.2.2 _ (List.getElem_mem hlt2); generalize r.fields[j] = x at *; generalize (r.fields.take j).foldl (cntF p.1) 0 = n at *; have HBs := zD (HBi.out.alloc hszi (.cells #[sT x.name, .slice ga2 x.type.length gc2] 77)); have HAs := zD (HA1.out.trans (Aw.below HBs.out)); have d5 : (wi.alloc (.cells #[sT x.name, .slice ga2 x.type.length gc2] 77)).cell? ⟨w.heap.size + 2, 0, none⟩ = some (.map (some (w.heap.size + 1))) := by simp only [World.cell?, (HX.out _ HAs.out).2]; rfl
              have HH := zD (has_any (wi.alloc (.cells #[sT x.name, .slice ga2 x.type.length gc2] 77)) (w.heap.size + 1) p.1 (HM1.out.below HBs.out) (w.heap.size + 2) d5 _ x.type (hs2.below (HBW2.out _ HAs.out)) hbd2.2.2); have HC := zD (show cntF p.1 n x = if hasA p.1 x.type then n + 1 else n from rfl); have hwn : IntKind.i64.wrap ((n : Int) + 1) = (n : Int) + 1 := IntWalk.i64_in _ (by omega); clear d5 hs2; generalize hasA p.1 x.type = hx at *; go_wp2_with fail; refine HH.out.mono ?_; rintro e w7 ⟨rfl, hb7⟩; have HB7 := zT HBs hb7; clear hb7; cases hx with
              | true =>
                go_wp2_with fail; exact ⟨⟨j + 1, by omega, by go_num, by rw [HT2.out, HC.out]; go_num, by rw [HT2.out, HC.out]; simp; omega, HB7⟩, by simp [intOf]; omega⟩
              | false =>
                go_wp2_with fail; exact ⟨⟨j + 1, by omega, by go_num, by rw [HT2.out, HC.out]; go_num, by rw [HT2.out, HC.out]; simp; omega, HB7⟩, by simp [intOf]; omega⟩
            have hjj : j = r.fields.length := by omega
            subst hjj; have HI := zD (show isFin p.1 r = ((r.choice && decide (0 < (r.fields.take r.fields.length).foldl (cntF p.1) 0)) || (!r.choice && (r.fields.take r.fields.length).foldl (cntF p.1) 0 == r.fields.length)) from by rw [List.take_of_length_le zn]; rfl); generalize (r.fields.take r.fields.length).foldl (cntF p.1) 0 = n at *; have HD := zD (show rdF p r = if isFin p.1 r && mget p.1 r.name == 0 then (mput p.1 r.name 1, true) else p from rfl); have hgi := HG1.out wi HBi.out; have r0 : wi.cell? ⟨wo.heap.size, 0, none⟩ = some (sT r.name) := by simp [World.cell?, hgi]
            have r1 : wi.cell? ⟨wo.heap.size, 1, none⟩ = some (.bool r.choice) := by simp [World.cell?, hgi]
            have r2 : wi.cell? ⟨wo.heap.size, 2, none⟩ = some (.slice fa r.fields.length fc) := by simp [World.cell?, hgi]
            have r5 : wi.cell? ⟨w.heap.size + 2, 0, none⟩ = some (.map (some (w.heap.size + 1))) := by simp [World.cell?, (HX.out wi HAi.out).2]
            have HMi := zD (HM1.out.below HBi.out); have hfl : p.1.length ≤ 100 := by have := HFit.out; unfold Fit at this; omega
            have hlk := HMi.out.look Tryz.underlying119 (zero_int wi) (s := r.name) (by omega); obtain ⟨w8, hput, hm8, htu⟩ := HMi.out.put Tryz.underlying119 (s := r.name) (by omega) (by unfold maxLen; omega) 1; have HP8 := zD (show HasMap w8 (w.heap.size + 1) (mput p.1 r.name 1) ∧ Aw (w.heap.size + 1) wB w8 from ⟨hm8, (MapT.of htu).awm HAi.out⟩); clear hm8 htu hgi; generalize isFin p.1 r = isf at *; generalize hmg : mget p.1 r.name = mg at *; clear hmg; have z2 : ((n : Int) == (r.fields.length : Int)) = (n == r.fields.length) := by rw [Bool.eq_iff_iff, beq_iff_eq, beq_iff_eq]; omega
            generalize (n == r.fields.length) = g2 at *; generalize r.choice = ch at *; have z3 : (mg == 0) = (mg == 0) := rfl; generalize hz : (mg == 0) = g3 at *; by_cases hn0 : 0 < n
            · have hi0 : (0 : Int) < (n : Int) := by omega
              have d0 := zt hi0; rw [zt hn0] at HI; clear hn0; cases ch <;> cases g2 <;> cases g3
              all_goals
                have HI2 := zD (show isf = _ from HI.out); simp only [Bool.or_false, Bool.not_true, Bool.not_false, Bool.or_true, Bool.and_true, Bool.and_false, Bool.or_self, Bool.and_self] at HI2
                first
                  | (have HDn := zD (show rdF p r = p from by rw [HD.out, HI2.out]; rfl)
                     clear HD HI HI2; go_wp2_with fail; exact ⟨⟨k + 1, by omega, by go_num, by rw [HTk.out, HDn.out], HAi, zD (by rw [HTk.out, HDn.out]; exact HMi.out)⟩, by simp [intOf]; omega⟩)
                  | (have HDy := zD (show rdF p r = (mput p.1 r.name 1, true) from by rw [HD.out, HI2.out]; rfl)
                     clear HD HI HI2; go_wp2_with fail; exact ⟨⟨k + 1, by omega, by go_num, by rw [HTk.out, HDy.out], zD HP8.out.2, zD (by rw [HTk.out, HDy.out]; exact HP8.out.1)⟩, by simp [intOf]; omega⟩)
            · have hi0 : ¬ (0 : Int) < (n : Int) := by omega
              have d0 := zf hi0; rw [zf hn0] at HI; clear hn0; cases ch <;> cases g2 <;> cases g3
              all_goals
                have HI2 := zD (show isf = _ from HI.out); simp only [Bool.or_false, Bool.not_true, Bool.not_false, Bool.or_true, Bool.and_true, Bool.and_false, Bool.or_self, Bool.and_self] at HI2
                first
                  | (have HDn := zD (show rdF p r = p from by rw [HD.out, HI2.out]; rfl)
                     clear HD HI HI2; go_wp2_with fail; exact ⟨⟨k + 1, by omega, by go_num, by rw [HTk.out, HDn.out], HAi, zD (by rw [HTk.out, HDn.out]; exact HMi.out)⟩, by simp [intOf]; omega⟩)
                  | (have HDy := zD (show rdF p r = (mput p.1 r.name 1, true) from by rw [HD.out, HI2.out]; rfl)
                     clear HD HI HI2; go_wp2_with fail; exact ⟨⟨k + 1, by omega, by go_num, by rw [HTk.out, HDy.out], zD HP8.out.2, zD (by rw [HTk.out, HDy.out]; exact HP8.out.1)⟩, by simp [intOf]; omega⟩)
        have hkk : k = s.records.length := by omega
        subst hkk; have HR := zD (round_all s F); have HRf := zD (round_fit F HFt.out s.records.length); rw [HR.out] at HMo HRf; generalize (s.records.take s.records.length).foldl rdF (F, false) = q at *; have HMq := zD (HMo.out.freeW HM.out); have hq : q = roundF s F := HR.out; cases hq2 : q.2 with
        | true =>
          have HGo := zD (fin_go HFt.out (show (roundF s F).2 = true from hq ▸ hq2)); have HLt := zD (HRf.out.2.2 (show (roundF s F).2 = true from hq ▸ hq2)); clear hq hq2 HR; go_wp2_with fail; exact ⟨⟨true, (roundF s F).1, rfl, HAo, HMo, zD HRf.out.1, zD (HGo.out.trans HT1.out)⟩, by rw [HMq.out, HM9w.out]; have := HLt.out; simp [boolOf]; omega⟩
        | false =>
          have HEn := zD (fin_end (s := s) (F := F) (by rw [← hq, hq2]; simp)); have HLe := zD HRf.out.2.1; clear hq hq2 HR; go_wp2_with fail; exact ⟨⟨false, (roundF s F).1, rfl, HAo, HMo, zD HRf.out.1, zD (HEn.out.symm.trans HT1.out)⟩, by rw [HMq.out, HM9w.out]; have := HLe.out; simp [boolOf]; omega⟩
def btF (D : Mp) (f : Flt) (r : Rec) : Flt := atF f (decide (0 < mget D r.name)) r.name 132
def bottomsA (s : Sch) (f : Flt) : Flt := s.records.foldl (btF (finA s)) f
theorem bottoms_any (w0 w : World) (s : Sch) (ur us ug : Value) (hS : SchR w0 s ur us ug) (hM : Small s) (f : Flt) (hF : NewB w0 w 99 (fcells f)) :
    Calls Tryz.prog 30 #[.agg #[sT s.name, ur, us, ug], .pointer (some ⟨w0.heap.size, 0, none⟩)] w fun x w' => x = .returned (.tuple #[]) ∧ FQ w0 w w' (bottomsA s f) := by
  have HM := zD hM; obtain ⟨⟨ra, rv, rfl⟩, ⟨sa, sv, rfl⟩, ⟨ga, gv, rfl⟩⟩ := hS.shape; have HS := zD (fun (wr : World) (h : Below w0.heap.size w0 wr) => hS.below h); have hn1 := hM.nr; have hn2 := hM.ns; have hn3 := hM.ng; have HF0 := zD (FQ.start (hF.after ((Below.refl _ w).alloc zn (.cells (sV s ra sa ga rv sv gv) 26)))); have hwf := hF.lt; have HX := zD (fun (wr : World) (h : Aw w0.heap.size (w.alloc (.cells (sV s ra sa ga rv sv gv) 26)) wr) => show wr.heap[w.heap.size]? = some (.cells (sV s ra sa ga rv sv gv) 26 (0, 0)) from (h.block _ (by simp) (by omega)).trans (zw _ _)); have HE := zD (fun (wr : World) (f' : Flt) (h : FQ w0 (w.alloc (.cells (sV s ra sa ga rv sv gv) 26)) wr f') => show FQ w0 w wr f' from ⟨h.nb, (Aw.below ((Below.refl _ w).alloc zn _)).trans h.aw⟩); have HA := zD (fun w1 w2 f h r wh e => at_any w0 w1 w2 f h r wh e); have HFI := zD (finite_any (w.alloc (.cells (sV s ra sa ga rv sv gv) 26)) s _ _ _ (hS.below hF.bel |>.below (bl1 w _)) hM); have HFI2 := zD (show (w.alloc (.cells (sV s ra sa ga rv sv gv) 26)).heap.size + 1 = w.heap.size + 2 from by simp); clear hS hM hF; unfold bottomsA; generalize finA s = D at *; generalize hz1 : s.records.foldl (btF D) f = f2; have HZ1 := zD hz1; clear hz1; rw [HFI2.out] at HFI; have hxw := HX.out (w.alloc (.cells (sV s ra sa ga rv sv gv) 26)) (Aw.refl _ _); have y0 : (w.alloc (.cells (sV s ra sa ga rv sv gv) 26)).cell? ⟨w.heap.size, 0, none⟩ = some (sT s.name) := by simp only [World.cell?, hxw]; rfl
  have y1 : (w.alloc (.cells (sV s ra sa ga rv sv gv) 26)).cell? ⟨w.heap.size, 1, none⟩ = some (.slice ra s.records.length rv) := by simp only [World.cell?, hxw]; rfl
  have y2 : (w.alloc (.cells (sV s ra sa ga rv sv gv) 26)).cell? ⟨w.heap.size, 2, none⟩ = some (.slice sa s.services.length sv) := by simp only [World.cell?, hxw]; rfl
  have y3 : (w.alloc (.cells (sV s ra sa ga rv sv gv) 26)).cell? ⟨w.heap.size, 3, none⟩ = some (.slice ga s.sagas.length gv) := by simp only [World.cell?, hxw]; rfl
  clear hxw HFI2; have hszA := HF0.out.size; have hwA : w.heap.size < (w.alloc (.cells (sV s ra sa ga rv sv gv) 26)).heap.size := by simp
  go_enter Tryz.func30, Tryz.ntmps30; go_wp2_with fail; refine HFI.out.mono ?_; rintro e w2 ⟨rfl, hm2, hb2⟩; generalize (w.alloc (.cells (sV s ra sa ga rv sv gv) 26)) = wA at *; have HF2 := zD (HF0.out.after hb2); have HM2 := zD hm2; clear hm2 hb2 HFI y0 y1 y2 y3 HF0; have c5 : w2.cell? ⟨w.heap.size, 1, none⟩ = some (.slice ra s.records.length rv) := by simp [World.cell?, HX.out w2 HF2.out.aw]
  go_wp2_with fail; go_loopw [12] (fun vi wr => ∃ k : Nat, k ≤ s.records.length ∧ vi = iV (k : Nat) ∧ Hid (FQ w0 wA wr ((s.records.take k).foldl (btF D) f)) ∧ Hid (HasMap wr (w.heap.size + 2) D)) (fun vi _ => s.records.length - (intOf vi).toNat)
  case atStart => exact ⟨0, by omega, rfl, zD HF2.out, zD HM2.out⟩
  case round =>
    clear HF2 HM2 c5; rename World => wo
    obtain ⟨k, hk, rfl, HFr, HMr⟩ := hrel; by_cases hlt : k < s.records.length
    · obtain ⟨xr, hx1, hx2⟩ := (HS.out w0 zl).rc
      obtain ⟨b, o, fa, fc, ys, rfl, hb, q0, q1, q2, hs, hr⟩ := rec_in HFr.out.nb.bel hx1 hx2 hlt; have HT := zD (take_fold (btF D) f s.records k hlt); have hbd := HM.out.rc _ (List.getElem_mem hlt); have hsz := HFr.out.size; generalize s.records[k] = r at *; clear hx1 hx2; have HD := zD (show btF D ((s.records.take k).foldl (btF D) f) r = atF ((s.records.take k).foldl (btF D) f) (decide (0 < mget D r.name)) r.name 132 from rfl); have hml := HMr.out.lt; have HMs := zD (show HasMap (wo.alloc (.cells #[sT r.name, .bool r.choice, .slice fa r.fields.length fc] 74)) (w.heap.size + 2) D from HMr.out.below (bl1 wo _)); have hlk := HMs.out.look Tryz.underlying119 (zero_int _) (s := r.name) (by omega); generalize (s.records.take k).foldl (btF D) f = F1 at *; have HFs := zD (HFr.out.alloc (.cells #[sT r.name, .bool r.choice, .slice fa r.fields.length fc] 74)); have HAT := zD (at_any w0 (wo.alloc (.cells #[sT r.name, .bool r.choice, .slice fa r.fields.length fc] 74)) _ F1 (FQ.start HFs.out.nb) (decide (0 < mget D r.name)) r.name 132); generalize mget D r.name = mg at *; go_wp2_with fail; refine HAT.out.mono ?_; rintro e w3 ⟨rfl, hf3⟩; have HF3 := zD (HFs.out.step hf3); have HM3 := zD (show HasMap w3 (w.heap.size + 2) D from HMs.out.aw hf3.aw (by omega)); clear hf3; go_wp2_with fail; exact ⟨⟨k + 1, by omega, by go_num, zD (by rw [HT.out, HD.out]; exact HF3.out), zD HM3.out⟩, by simp [intOf]; omega⟩
    have HFz := zD (show FQ w0 wA wo f2 from by have h := HFr.out; rw [take_all _ _ _ _ hlt, HZ1.out] at h; exact h); go_wp2_with fail; go_end0; exact ⟨rfl, HE.out _ _ HFz.out⟩
end Go.Proofs.YtgoejmheihgpfaaGreatDoor
