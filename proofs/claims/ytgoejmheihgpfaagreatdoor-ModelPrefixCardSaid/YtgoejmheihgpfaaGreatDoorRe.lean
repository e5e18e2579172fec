/-
  The text of a schema, plain: its tokens, how long they are; what a right schema's steps are; writer.text.
-/
import Derived.Test.YtgoejmheihgpfaaGreatDoorRb
import Derived.Lib.Join
namespace Go.Proofs.YtgoejmheihgpfaaGreatDoor
open Go.RowKit

def tokT (s : Sch) : List Tx := [[109, 111, 100, 117, 108, 101], s.name, [59]] ++ s.records.flatMap recTk ++ s.services.flatMap svcTk ++ s.sagas.flatMap sagTk
def textJ (s : Sch) : Tx := Lib.join (tokT s) [32]
def textA' (s : Sch) : Tx × Nat := if (checkA s).2 = 0 then (if 65536 < (textJ s).length then ([], 3) else (textJ s, 0)) else ([], (checkA s).2)
theorem lens_le {n : Nat} : ∀ {L : List Tx}, (∀ x ∈ L, x.length ≤ n) → Lib.lens L ≤ L.length * n
  | [], _ => by simp [Lib.lens]
  | x :: r, h => by
    have h1 := h x List.mem_cons_self
    have h2 := lens_le (L := r) (fun y hy => h y (List.mem_cons_of_mem _ hy))
    rw [List.length_cons, Nat.succ_mul]
    simp only [Lib.lens, List.map_cons, List.sum_cons, List.flatten_cons, List.length_append] at h2 ⊢
    omega
theorem join_le {n : Nat} {L : List Tx} (h : ∀ x ∈ L, x.length ≤ n) : (Lib.join L [32]).length ≤ L.length * (n + 1) := by
  cases L with
  | nil => simp [Lib.join]
  | cons x r =>
    rw [Lib.join_length]
    have h2 := lens_le h
    rw [List.length_cons] at h2 ⊢
    rw [Nat.mul_succ]
    show 1 * r.length + Lib.lens (x :: r) ≤ (r.length + 1) * n + (r.length + 1)
    omega
theorem digits_small {i : Nat} (hi : i < 100) : (Lib.decDigits i).length ≤ 200 := by
  have h : ∀ j : Fin 100, (Lib.decDigits j).length ≤ 200 := by decide +kernel
  exact h ⟨i, hi⟩
def Nodes (s : Sch) : Prop := ∀ g ∈ s.sagas, ∀ x ∈ g.steps, 0 ≤ x.node ∧ x.node < 4
theorem srtT_len {t : Srt} (h : t.name.length ≤ 200) : (srtT t).length ≤ 200 := by
  unfold srtT
  repeat' split
  all_goals first | exact h | (show _ ≤ 200; decide)
theorem recTk_small {r : Rec} (h1 : r.name.length ≤ 200) (h3 : ∀ f ∈ r.fields, f.name.length ≤ 200 ∧ f.type.length ≤ 40 ∧ ∀ t ∈ f.type, t.name.length ≤ 200) : ∀ x ∈ recTk r, x.length ≤ 200 := by
  intro x hx
  unfold recTk at hx
  simp only [List.mem_append, List.mem_cons, List.mem_flatMap, List.not_mem_nil, or_false] at hx
  rcases hx with ((rfl | rfl | rfl) | ⟨f, hf, hx⟩) | rfl
  · split <;> (show _ ≤ 200; decide)
  · exact h1
  · show _ ≤ 200; decide
  · obtain ⟨f1, _, f3⟩ := h3 f hf
    unfold fldTk at hx
    simp only [List.mem_append, List.mem_cons, List.mem_map, List.not_mem_nil, or_false] at hx
    rcases hx with ((rfl | rfl) | ⟨t, ht, rfl⟩) | rfl
    · exact f1
    · show _ ≤ 200; decide
    · exact srtT_len (f3 t ht)
    · show _ ≤ 200; decide
  · show _ ≤ 200; decide
theorem recTk_len {r : Rec} (h2 : r.fields.length ≤ 40) (h3 : ∀ f ∈ r.fields, f.type.length ≤ 40) : (recTk r).length ≤ 1724 := by
  have h1 := flat_len (g := fldTk) (n := 43) (L := r.fields) (fun x hx => fldTk_len (h3 x hx))
  have h4 : r.fields.length * 43 ≤ 40 * 43 := Nat.mul_le_mul_right _ h2
  simp only [recTk, List.length_append, List.length_cons, List.length_nil]
  omega
theorem svcTk_small {v : Svc} (h1 : v.name.length ≤ 200) (h3 : ∀ m ∈ v.methods, m.name.length ≤ 200 ∧ m.arg.length ≤ 200 ∧ m.effect.length ≤ 200 ∧ m.undo.length ≤ 200) : ∀ x ∈ svcTk v, x.length ≤ 200 := by
  intro x hx
  unfold svcTk at hx
  simp only [List.mem_append, List.mem_cons, List.mem_flatMap, List.not_mem_nil, or_false] at hx
  rcases hx with ((rfl | rfl | rfl) | ⟨m, hm, hx⟩) | rfl
  · show _ ≤ 200; decide
  · exact h1
  · show _ ≤ 200; decide
  · obtain ⟨f1, f2, f3, f4⟩ := h3 m hm
    unfold mthTk at hx
    simp only [List.mem_append, List.mem_cons, List.not_mem_nil, or_false] at hx
    rcases hx with (((rfl | rfl | rfl | rfl | rfl | rfl) | rfl) | hx) | rfl
    · exact f3
    · exact f1
    · show _ ≤ 200; decide
    · exact f2
    · show _ ≤ 200; decide
    · show _ ≤ 200; decide
    · exact srtT_len (Nat.zero_le _)
    · split at hx
      · cases hx
      · simp only [List.mem_cons, List.not_mem_nil, or_false] at hx
        rcases hx with rfl | rfl
        · show _ ≤ 200; decide
        · exact f4
    · show _ ≤ 200; decide
  · show _ ≤ 200; decide
theorem svcTk_len {v : Svc} (h2 : v.methods.length ≤ 40) : (svcTk v).length ≤ 404 := by
  have h1 := flat_len (g := mthTk) (n := 10) (L := v.methods) (fun x _ => mthTk_len x)
  have h4 : v.methods.length * 10 ≤ 40 * 10 := Nat.mul_le_mul_right _ h2
  simp only [svcTk, List.length_append, List.length_cons, List.length_nil]
  omega
theorem sagTk_small {g : Sga} (h1 : g.name.length ≤ 200) (h2 : g.arg.length ≤ 200) (h3 : ∀ x ∈ g.steps, x.service.length ≤ 200 ∧ x.method.length ≤ 200) (h4 : ∀ x ∈ g.steps, 0 ≤ x.node ∧ x.node < 4) : ∀ x ∈ sagTk g, x.length ≤ 200 := by
  intro x hx
  unfold sagTk at hx
  simp only [List.mem_append, List.mem_cons, List.mem_flatMap, List.not_mem_nil, or_false] at hx
  rcases hx with ((rfl | rfl | rfl | rfl | rfl | rfl) | ⟨m, hm, hx⟩) | rfl
  · show _ ≤ 200; decide
  · exact h1
  · show _ ≤ 200; decide
  · exact h2
  · show _ ≤ 200; decide
  · show _ ≤ 200; decide
  · obtain ⟨f1, f2⟩ := h3 m hm
    have f3 := h4 m hm
    unfold stpTk at hx
    simp only [List.mem_cons, List.not_mem_nil, or_false] at hx
    rcases hx with rfl | rfl | rfl | rfl | rfl | rfl | rfl
    · show _ ≤ 200; decide
    · exact f1
    · show _ ≤ 200; decide
    · exact f2
    · show _ ≤ 200; decide
    · exact digits_small (by omega)
    · show _ ≤ 200; decide
  · show _ ≤ 200; decide
theorem sagTk_len {g : Sga} (h2 : g.steps.length ≤ 40) : (sagTk g).length ≤ 287 := by
  have h1 := flat_len (g := stpTk) (n := 7) (L := g.steps) (fun x _ => Nat.le_refl _)
  have h4 : g.steps.length * 7 ≤ 40 * 7 := Nat.mul_le_mul_right _ h2
  simp only [sagTk, List.length_append, List.length_cons, List.length_nil]
  omega
theorem tokT_small {s : Sch} (h : Small s) (hN : Nodes s) : ∀ x ∈ tokT s, x.length ≤ 200 := by
  intro x hx
  unfold tokT at hx
  simp only [List.mem_append, List.mem_cons, List.mem_flatMap, List.not_mem_nil, or_false] at hx
  rcases hx with (((rfl | rfl | rfl) | ⟨r, hr, hx⟩) | ⟨r, hr, hx⟩) | ⟨r, hr, hx⟩
  · show _ ≤ 200; decide
  · exact h.nm
  · show _ ≤ 200; decide
  · exact recTk_small (h.rc r hr).1 (h.rc r hr).2.2 x hx
  · exact svcTk_small (h.sv r hr).1 (h.sv r hr).2.2 x hx
  · exact sagTk_small (h.sg r hr).1 (h.sg r hr).2.1 (h.sg r hr).2.2.2 (hN r hr) x hx
/-- a fault stays -/
theorem atF_is {f : Flt} {r : Bool} {wh : Tx} {e : Nat} (h : (atF f r wh e).is = false) : f.is = false ∧ r = true := by
  unfold atF at h
  cases r with
  | true => exact ⟨by simpa using h, rfl⟩
  | false =>
    cases hf : f.is with
    | true => simp [hf] at h
    | false => simp [hf] at h
theorem fold_is {α : Type} {g : Flt → α → Flt} {p : α → Prop} (hg : ∀ f x, (g f x).is = false → f.is = false ∧ p x) : ∀ {L : List α} {f : Flt}, (L.foldl g f).is = false → f.is = false ∧ ∀ x ∈ L, p x
  | [], f, h => ⟨h, fun x hx => by cases hx⟩
  | y :: r, f, h => by
    obtain ⟨h1, h2⟩ := fold_is hg (L := r) (f := g f y) h
    obtain ⟨h3, h4⟩ := hg f y h1
    refine ⟨h3, fun x hx => ?_⟩
    rcases List.mem_cons.1 hx with rfl | hx
    · exact h4
    · exact h2 x hx
theorem checkA_clear {s : Sch} (h : (checkA s).2 = 0) (he : ∀ f ∈ rulesA s, f.is = true → f.e ≠ 0) : ∀ f ∈ rulesA s, f.is = false := by
  unfold checkA at h
  cases hf : (rulesA s).find? (·.is) with
  | none =>
    intro f hm
    have := List.find?_eq_none.1 hf f hm
    simpa using this
  | some f =>
    rw [hf] at h
    exact absurd h (he f (List.mem_of_find?_eq_some hf) (by have := List.find?_some hf; simpa using this))
/-- a fault's number -/
def Num (f : Flt) : Prop := f.is = true → f.e ≠ 0
theorem Num.at {f : Flt} (h : Num f) (r : Bool) (wh : Tx) (e : Nat) (he : e ≠ 0) : Num (atF f r wh e) := by
  unfold atF
  split
  · exact h
  · exact fun _ => he
theorem Num.fold {α : Type} {g : Flt → α → Flt} (hg : ∀ f x, Num f → Num (g f x)) : ∀ {L : List α} {f : Flt}, Num f → Num (L.foldl g f)
  | [], _, h => h
  | y :: r, f, h => Num.fold hg (L := r) (hg f y h)
theorem Num.fold2 {α : Type} {g : Flt × Mp → α → Flt × Mp} (hg : ∀ p x, Num p.1 → Num (g p x).1) : ∀ {L : List α} {p : Flt × Mp}, Num p.1 → Num (L.foldl g p).1
  | [], _, h => h
  | y :: r, p, h => Num.fold2 hg (L := r) (hg p y h)
theorem rules_num (s : Sch) : ∀ f ∈ rulesA s, Num f := by
  have h0 : Num flt0 := fun h => by cases h
  intro f hf
  simp only [rulesA, List.mem_cons, List.not_mem_nil, or_false] at hf
  rcases hf with rfl | rfl | rfl | rfl | rfl | rfl | rfl | rfl | rfl | rfl
  · exact Num.fold (fun f x h => h.at _ _ _ (by decide)) (Num.fold (fun f x h => Num.fold (fun f x h => h.at _ _ _ (by decide)) (h.at _ _ _ (by decide))) (Num.fold (fun f x h => Num.fold (fun f x h => h.at _ _ _ (by decide)) (h.at _ _ _ (by decide))) (h0.at _ _ _ (by decide))))
  · exact Num.fold (fun f x h => h.at _ _ _ (by decide)) (Num.fold (fun f x h => h.at _ _ _ (by decide)) (Num.fold (fun f x h => h.at _ _ _ (by decide)) (h0.at _ _ _ (by decide))))
  · have hR : ∀ (p : Flt × Mp) (x : Rec), Num p.1 → Num (dbR p x).1 := fun p x h => Num.fold2 (g := dbF x) (fun p y h => h.at _ _ _ (by decide)) (p := ((oneD x.name p).1, [])) (h.at _ _ _ (by decide))
    have hV : ∀ (p : Flt × Mp) (x : Svc), Num p.1 → Num (dbV p x).1 := fun p x h => Num.fold2 (g := dbM x) (fun p y h => h.at _ _ _ (by decide)) (p := ((oneD x.name p).1, [])) (h.at _ _ _ (by decide))
    exact Num.fold2 (g := dbG) (fun p x h => h.at _ _ _ (by decide)) (Num.fold2 (g := dbV) hV (Num.fold2 (g := dbR) hR (p := (flt0, [])) h0))
  · exact Num.fold (fun f x h => Num.fold (fun f x h => h.at _ _ _ (by decide)) h) (Num.fold (fun f x h => Num.fold (fun f x h => h.at _ _ _ (by decide)) h) h0)
  · exact Num.fold (fun f x h => h.at _ _ _ (by decide)) h0
  · exact Num.fold (fun f x h => Num.fold (fun f x h => h.at _ _ _ (by decide)) h) h0
  · exact Num.fold (fun f x h => Num.fold (fun f x h => h.at _ _ _ (by decide)) h) h0
  · exact Num.fold (fun f x h => h.at _ _ _ (by decide)) h0
  · exact Num.fold (fun f x h => Num.fold (fun f x h => h.at _ _ _ (by decide)) h) h0
  · exact Num.fold (fun f x h => Num.fold (fun f x h => h.at _ _ _ (by decide)) h) h0
theorem nodes_of {s : Sch} (h : (checkA s).2 = 0) : Nodes s := by
  have hc := checkA_clear h (rules_num s) (chStepsA s flt0) (by simp [rulesA])
  intro g hg x hx
  obtain ⟨_, h2⟩ := fold_is (g := stpG s) (p := fun g => ∀ i ∈ List.range g.steps.length, stpOk s g (stAt g i) = true) (fun f g h => fold_is (g := stpI s g) (p := fun i => stpOk s g (stAt g i) = true) (fun f i h => atF_is h) h) hc
  obtain ⟨i, hi, rfl⟩ := List.getElem_of_mem hx
  have h3 := h2 g hg i (List.mem_range.2 hi)
  rw [stAt_get hi] at h3
  simp only [stpOk, Bool.and_eq_true, decide_eq_true_eq] at h3
  exact ⟨h3.1.2, h3.2⟩
set_option maxRecDepth 100000 in
theorem ptext_any (w : World) (wb : Nat) (L : List Tx) (h : Wr wb w L) (h0 : 0 < L.length) (hl : L.length ≤ 1000000) (hs : ∀ x ∈ L, x.length ≤ 200) :
    Calls Tryz.prog 65 #[.pointer (some ⟨wb, 0, none⟩)] w fun e w' => e = .returned (.string (bT (Lib.join L [32]))) ∧ Below w.heap.size w w' := by
  obtain ⟨v, hg, hown⟩ := h.row
  have d0 : w.cell? ⟨wb, 0, none⟩ = some v := by simp [World.cell?, hg]
  obtain ⟨g, cap, rfl⟩ := own_form hown h0
  have hlt := hown.lt _ rfl
  have hcap : L.length ≤ cap := by
    obtain ⟨_, ⟨e, _⟩ | ⟨g', cap', cur, e, _, _, h, _⟩⟩ := hown
    · cases e
    · injection e with e1 e2 e3; omega
  have e1 : (L.map bT).map (·.data.toList) = L := by rw [List.map_map]; exact List.map_id'' (fun x => by simp [bT]) L
  have hj := join_le hs
  have hm : L.length * 201 ≤ 1000000 * 201 := Nat.mul_le_mul_right _ hl
  have HJ := Lib.hid (show Calls Tryz.prog 97 #[.slice (some ⟨g, 0, none⟩) L.length cap, .string ⟨#[32]⟩] w (fun e w' => e = .returned (.string (bT (Lib.join L [32]))) ∧ Below w.heap.size w w') from by
    have h9 := Tryz.strings_Join g 0 cap (L.map bT) ⟨#[32]⟩ w (fun j x hx => by
      rw [List.getElem?_map] at hx
      cases hL : L[j]? with
      | none => rw [hL] at hx; cases hx
      | some y =>
        rw [hL] at hx
        obtain rfl := Option.some.inj hx
        have := hown.cellAt j (by have := (List.getElem?_eq_some_iff.1 hL).1; omega)
        rw [Nat.zero_add, this]
        simp [strs, hL]) hlt.2 (by rw [List.length_map]; omega) (by rw [List.length_map]; exact hcap) (by rw [e1]; show (Lib.join L [32]).length ≤ _; omega)
    rw [e1, List.length_map] at h9
    exact h9)
  clear hown h hs hj hm e1
  generalize Lib.join L [32] = R at *
  go_enter Tryz.func65, Tryz.ntmps65
  go_wp2_with fail
  refine HJ.out.mono ?_
  rintro e w2 ⟨rfl, hb⟩
  go_wp2_with fail
  exact bodyPost_ret (v := .string (bT R)) (by simp [results, Tryz.results65, go_sem]) rfl ⟨rfl, hb⟩
end Go.Proofs.YtgoejmheihgpfaaGreatDoor
