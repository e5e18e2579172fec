/-
  Plain: the files of a disk as a list that rises by name, and how they read as a map. No program in sight.
-/
import Derived.Maps.OwnSet
import Derived.Maps.Views
namespace Go.Proofs.YtkpoecofblhggaaGreatDoor
section
open Go.Maps

abbrev Nm := List UInt8
/-- a file: its bytes, and how many of them are synced -/
structure Fl where
  data : ByteArray
  syn : Nat
abbrev Fs := List (Nm × Fl)
def fval (f : Fl) : Value := .agg #[.string f.data, .int .i64 f.syn]
def zval : Value := .agg #[.string ⟨#[]⟩, .int .i64 0]
def dent (x : Nm × Fl) : Lit × DataW Value := (.string x.1, .held (fval x.2))
def dat (F : Fs) : DataW Value := .map (F.map dent)
/-- how an element of the map reads: as itself -/
def fileElem (v : Value) : Option (DataW Value × List MemPlace) := some (.held v, [])

def fget (F : Fs) (k : Nm) : Option Fl := (F.find? (fun x => x.1 == k)).map (·.2)
def fhas (F : Fs) (k : Nm) : Bool := F.any (fun x => x.1 == k)
def fdel (F : Fs) (k : Nm) : Fs := F.filter (fun x => !(x.1 == k))
def fins (x : Nm × Fl) : Fs → Fs
  | [] => [x]
  | y :: r => if bytesBefore x.1 y.1 then x :: y :: r else y :: fins x r
def fput (F : Fs) (k : Nm) (f : Fl) : Fs := fins (k, f) (fdel F k)

theorem sameKey_str (a b : Nm) : (Lit.string a).sameKey (.string b) = (a == b) := rfl

theorem dat_del (F : Fs) (k : Nm) : (dat F).del (.string k) = dat (fdel F k) := by
  simp only [dat, DataW.del, fdel, DataW.map.injEq]
  rw [List.filter_map]
  rfl
theorem insert_dent (x : Nm × Fl) : ∀ F : Fs, DataW.insert (dent x) (F.map dent) = (fins x F).map dent
  | [] => rfl
  | y :: r => by
    simp only [List.map_cons, DataW.insert, fins]
    have e : (dent x).1.before (dent y).1 = bytesBefore x.1 y.1 := rfl
    rw [e]
    split
    · rfl
    · rw [List.map_cons, insert_dent x r]
theorem dat_put (F : Fs) (k : Nm) (f : Fl) : (dat F).put (.string k) (.held (fval f)) = dat (fput F k f) := by
  simp only [dat, DataW.put, fput, DataW.map.injEq]
  rw [← insert_dent]
  congr 1
  rw [List.filter_map]
  rfl
theorem dat_has (F : Fs) (k : Nm) : Maps.has (dat F) (.string k) = fhas F k := by
  simp only [dat, Maps.has_eq, fhas, List.any_map]
  rfl
theorem dat_at (F : Fs) (k : Nm) (z : DataW Value) : (dat F).atKey (.string k) z = match fget F k with | some f => .held (fval f) | none => z := by
  simp only [dat, DataW.atKey, fget]
  rw [List.find?_map]
  have e : ((fun p : Lit × DataW Value => p.1.sameKey (.string k)) ∘ dent) = (fun x : Nm × Fl => x.1 == k) := rfl
  rw [e]
  cases F.find? (fun x => x.1 == k) <;> rfl
theorem dat_size (F : Fs) : Maps.size (dat F) = F.length := by simp [dat, Maps.size_eq]
theorem fhas_get (F : Fs) (k : Nm) : fhas F k = (fget F k).isSome := by
  induction F with
  | nil => rfl
  | cons x r ih =>
    simp only [fhas, fget, List.any_cons, List.find?_cons] at ih ⊢
    cases x.1 == k
    · simpa using ih
    · rfl
end

section
open Go.Maps

def total (F : Fs) : Nat := (F.map (fun x => x.2.data.size)).sum
/-- those that are counted already: 'left' tells which are still to come -/
def counted (F : Fs) (left : Lit → Bool) : Nat := total (F.filter fun x => !left (.string x.1))
theorem total_cons (x : Nm × Fl) (F : Fs) : total (x :: F) = x.2.data.size + total F := by simp [total]
theorem counted_cons (x : Nm × Fl) (F : Fs) (left : Lit → Bool) : counted (x :: F) left = (if left (.string x.1) then 0 else x.2.data.size) + counted F left := by
  unfold counted
  rw [List.filter_cons]
  cases left (.string x.1) <;> simp [total_cons]
theorem counted_none (F : Fs) (left : Lit → Bool) (h : ∀ x ∈ F, left (.string x.1) = true) : counted F left = 0 := by
  induction F with
  | nil => rfl
  | cons x r ih => rw [counted_cons, h x (List.mem_cons_self ..), ih (fun y hy => h y (List.mem_cons_of_mem _ hy))]; rfl
theorem counted_all (F : Fs) (left : Lit → Bool) (h : ∀ kl, left kl = false) : counted F left = total F := by
  induction F with
  | nil => rfl
  | cons x r ih => rw [counted_cons, h, ih, total_cons]; rfl
theorem has_dent {F : Fs} {x : Nm × Fl} (h : x ∈ F) : Maps.has (dat F) (.string x.1) = true := by
  rw [dat_has, fhas, List.any_eq_true]
  exact ⟨x, h, by simp⟩
theorem counted_same (F : Fs) (left left' : Lit → Bool) (h : ∀ x ∈ F, left (.string x.1) = left' (.string x.1)) : counted F left = counted F left' := by
  induction F with
  | nil => rfl
  | cons x r ih => rw [counted_cons, counted_cons, h x (List.mem_cons_self ..), ih (fun y hy => h y (List.mem_cons_of_mem _ hy))]
theorem before_ne {a b : Nm} (h : bytesBefore a b = true) : a ≠ b := by
  rintro rfl
  have irr : ∀ l : Nm, bytesBefore l l = false := by
    intro l
    induction l with
    | nil => rfl
    | cons x r ih => simp [bytesBefore, ih]
  rw [irr] at h
  cases h
theorem counted_step {F : Fs} (hup : F.Pairwise (fun x y => bytesBefore x.1 y.1 = true)) {k : Nm} {f : Fl} (hg : fget F k = some f) (left : Lit → Bool) (hl : left (.string k) = true) :
    counted F (fun z => left z && !z.sameKey (.string k)) = counted F left + f.data.size := by
  induction F with
  | nil => simp [fget] at hg
  | cons x r ih =>
    rw [List.pairwise_cons] at hup
    rw [counted_cons, counted_cons]
    simp only [fget, List.find?_cons] at hg
    cases hx : x.1 == k with
    | true =>
      rw [hx] at hg
      simp only [Option.map_some, Option.some.injEq] at hg
      have hk : x.1 = k := by simpa using hx
      have e : (Lit.string x.1).sameKey (.string k) = true := by rw [sameKey_str]; exact hx
      rw [hk] at e ⊢
      rw [hl, e]
      have hr : counted r (fun z => left z && !z.sameKey (.string k)) = counted r left := by
        refine counted_same _ _ _ (fun y hy => ?_)
        have hne : y.1 ≠ k := fun e => before_ne (hup.1 y hy) (hk.trans e.symm)
        have : (Lit.string y.1).sameKey (.string k) = false := by rw [sameKey_str]; simpa using hne
        rw [this]; simp
      rw [hr, ← hg]
      simp
      omega
    | false =>
      rw [hx] at hg
      have e : (Lit.string x.1).sameKey (.string k) = false := by rw [sameKey_str]; exact hx
      rw [e, ih hup.2 hg]
      simp
      omega
theorem total_le (F : Fs) (h : ∀ x ∈ F, x.2.data.size ≤ 1048576) : total F ≤ F.length * 1048576 := by
  induction F with
  | nil => simp [total]
  | cons x r ih =>
    rw [total_cons, List.length_cons]
    have := h x (List.mem_cons_self ..)
    have := ih (fun y hy => h y (List.mem_cons_of_mem _ hy))
    omega
theorem counted_le (F : Fs) (left : Lit → Bool) : counted F left ≤ total F := by
  induction F with
  | nil => simp [counted, total]
  | cons x r ih =>
    rw [counted_cons, total_cons]
    split <;> omega
end

section
/-- how much of a tail of t bytes stays -/
def stays (ks : List Int) (t : Nat) : Nat := (min (max (ks.headD 0) 0) (t : Int)).toNat
/-- the files behind a crash: tails are cut by what 'keep' still has -/
def crashF : List Int → Fs → Fs
  | _, [] => []
  | ks, x :: r =>
    if x.2.data.size = x.2.syn then x :: crashF ks r
    else (x.1, ⟨x.2.data.extract 0 (stays ks (x.2.data.size - x.2.syn) + x.2.syn), stays ks (x.2.data.size - x.2.syn) + x.2.syn⟩) :: crashF ks.tail r

theorem fins_front {x : Nm × Fl} : ∀ {P R : Fs}, (∀ y ∈ P, bytesBefore x.1 y.1 = false) → (∀ y ∈ R, bytesBefore x.1 y.1 = true) → fins x (P ++ R) = P ++ x :: R
  | [], [], _, _ => rfl
  | [], y :: R, _, h => by simp [fins, h y (List.mem_cons_self ..)]
  | y :: P, R, h, h2 => by
    simp only [List.cons_append, fins, h y (List.mem_cons_self ..), Bool.false_eq_true, if_false]
    rw [fins_front (fun z hz => h z (List.mem_cons_of_mem _ hz)) h2]
theorem before_asymm : ∀ {a b : Nm}, bytesBefore a b = true → bytesBefore b a = false
  | [], [], h => by simp [bytesBefore] at h
  | [], _ :: _, _ => rfl
  | _ :: _, [], h => by simp [bytesBefore] at h
  | a :: r, b :: s, h => by
    simp only [bytesBefore, Bool.or_eq_true, decide_eq_true_eq, Bool.and_eq_true, beq_iff_eq] at h
    simp only [bytesBefore, Bool.or_eq_false_iff, decide_eq_false_iff_not, Bool.and_eq_false_iff, beq_eq_false_iff_ne]
    rcases h with h | ⟨rfl, h⟩
    · exact ⟨fun h' => absurd (UInt8.lt_trans h h') (UInt8.lt_irrefl _), .inl (fun e => by subst e; exact UInt8.lt_irrefl _ h)⟩
    · exact ⟨UInt8.lt_irrefl _, .inr (before_asymm h)⟩
theorem put_mid {P R : Fs} {x : Nm × Fl} (h : (P ++ x :: R).Pairwise (fun x y => bytesBefore x.1 y.1 = true)) (f : Fl) : fput (P ++ x :: R) x.1 f = P ++ (x.1, f) :: R := by
  rw [List.pairwise_append] at h
  obtain ⟨_, h2, h3⟩ := h
  rw [List.pairwise_cons] at h2
  have e : fdel (P ++ x :: R) x.1 = P ++ R := by
    unfold fdel
    rw [List.filter_append, List.filter_cons]
    have e1 : P.filter (fun y => !(y.1 == x.1)) = P := List.filter_eq_self.2 (fun y hy => by
      have := before_ne (h3 y hy x (List.mem_cons_self ..)); simpa using this)
    have e2 : R.filter (fun y => !(y.1 == x.1)) = R := List.filter_eq_self.2 (fun y hy => by
      have := before_ne (h2.1 y hy); simpa using fun e => this e.symm)
    rw [e1, e2]; simp
  unfold fput
  rw [e]
  exact fins_front (fun y hy => before_asymm (h3 y hy x (List.mem_cons_self ..))) (fun y hy => h2.1 y hy)
theorem get_mid {P R : Fs} {x : Nm × Fl} (h : (P ++ x :: R).Pairwise (fun x y => bytesBefore x.1 y.1 = true)) : fget (P ++ x :: R) x.1 = some x.2 := by
  rw [List.pairwise_append] at h
  obtain ⟨_, h2, h3⟩ := h
  unfold fget
  rw [List.find?_append]
  have : P.find? (fun y => y.1 == x.1) = none := List.find?_eq_none.2 (fun y hy => by
    have := before_ne (h3 y hy x (List.mem_cons_self ..)); simpa using this)
  rw [this]
  simp
theorem names_mid {P R : Fs} {k : Nm} {f g : Fl} (h : (P ++ (k, f) :: R).Pairwise (fun x y => bytesBefore x.1 y.1 = true)) : (P ++ (k, g) :: R).Pairwise (fun x y => bytesBefore x.1 y.1 = true) := by
  rw [List.pairwise_append, List.pairwise_cons] at h ⊢
  obtain ⟨h1, h2, h3⟩ := h
  refine ⟨h1, ⟨h2.1, h2.2⟩, fun a ha b hb => ?_⟩
  rcases List.mem_cons.1 hb with rfl | hb
  · exact h3 a ha (k, f) (List.mem_cons_self ..)
  · exact h3 a ha b (List.mem_cons_of_mem _ hb)
theorem stays_le (ks : List Int) (t : Nat) : stays ks t ≤ t := by unfold stays; omega
end
end Go.Proofs.YtkpoecofblhggaaGreatDoor
