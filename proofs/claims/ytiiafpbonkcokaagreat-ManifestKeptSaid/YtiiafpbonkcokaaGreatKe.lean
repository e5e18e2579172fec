/-
  The walk of ManifestKept.
-/
import Derived.Test.YtiiafpbonkcokaaGreatQe
import Derived.Deep.DeepCutAuto
namespace Go.Proofs.YtiiafpbonkcokaaGreat
open Go.RowKit Go.Maps

/-- the edits of a slice, in world w0 -/
def EdsAt (w : World) (a : Option Addr) (len : Nat) : Prop := 0 < len → ∃ b o, a = some ⟨b, o, none⟩ ∧ b < w.heap.size ∧ ∀ i, i < len → ∃ (vd va : Value) (ed : Ed), EdAt w vd va ed ∧
  w.cell? ⟨b, o + i * 4, none⟩ = some vd ∧ w.cell? ⟨b, o + i * 4 + 1, none⟩ = some va ∧ w.cell? ⟨b, o + i * 4 + 2, none⟩ = some (.int .i64 ed.next) ∧ w.cell? ⟨b, o + i * 4 + 3, none⟩ = some (.int .i64 ed.log)
/-- one of them, in a later world -/
structure EdC (w : World) (b o : Nat) (vd va : Value) (ed : Ed) : Prop where
  at_ : EdAt w vd va ed
  c0 : w.cell? ⟨b, o, none⟩ = some vd
  c1 : w.cell? ⟨b, o + 1, none⟩ = some va
  c2 : w.cell? ⟨b, o + 2, none⟩ = some (.int .i64 ed.next)
  c3 : w.cell? ⟨b, o + 3, none⟩ = some (.int .i64 ed.log)
theorem EdsAt.get {w w' : World} {a : Option Addr} {len : Nat} (h : EdsAt w a len) (hb : Below w.heap.size w w') {i : Nat} (hi : i < len) : ∃ b o vd va ed, a = some ⟨b, o, none⟩ ∧ b < w.heap.size ∧ EdC w' b (o + i * 4) vd va ed := by
  obtain ⟨b, o, rfl, hlt, h2⟩ := h (by omega)
  obtain ⟨vd, va, ed, he, c0, c1, c2, c3⟩ := h2 i hi
  exact ⟨b, o, vd, va, ed, rfl, hlt, he.below hb, (hb.cell (p := ⟨b, o + i * 4, none⟩) hlt).trans c0, (hb.cell (p := ⟨b, o + i * 4 + 1, none⟩) hlt).trans c1, (hb.cell (p := ⟨b, o + i * 4 + 2, none⟩) hlt).trans c2, (hb.cell (p := ⟨b, o + i * 4 + 3, none⟩) hlt).trans c3⟩
theorem EdC.below {w w' : World} {b o : Nat} {vd va : Value} {ed : Ed} (h : EdC w b o vd va ed) (hb : Below w.heap.size w w') : EdC w' b o vd va ed :=
  have hl : b < w.heap.size := World.block_lt_of_cell? w _ h.c0
  ⟨h.at_.below hb, (hb.cell (p := ⟨b, o, none⟩) hl).trans h.c0, (hb.cell (p := ⟨b, o + 1, none⟩) hl).trans h.c1, (hb.cell (p := ⟨b, o + 2, none⟩) hl).trans h.c2, (hb.cell (p := ⟨b, o + 3, none⟩) hl).trans h.c3⟩
theorem EdAt.shape {w : World} {vd va : Value} {ed : Ed} (h : EdAt w vd va ed) : ∃ a1 c1 a2 c2, vd = .slice a1 ed.drop.length c1 ∧ va = .slice a2 ed.add.length c2 := by
  obtain ⟨a1, c1, e1, _⟩ := h.drop.ex
  obtain ⟨a2, c2, e2, _⟩ := h.add.ex
  exact ⟨a1, c1, a2, c2, e1, e2⟩

abbrev otB : ByteArray := ⟨#[111, 116, 104, 101, 114]⟩
abbrev ot : Nm := otB.data.toList
theorem names_le : ∀ (F : Fs) (l : List Nm), F.Pairwise (fun x y => bytesBefore x.1 y.1 = true) → (∀ x ∈ F, x.1 ∈ l) → F.length ≤ l.length
  | [], _, _, _ => by simp
  | x :: F, l, hp, hm => by
    have hx := hm x (List.mem_cons_self ..)
    rw [List.pairwise_cons] at hp
    have ih := names_le F (l.erase x.1) hp.2 (fun y hy => (List.mem_erase_of_ne (before_ne (hp.1 y hy)).symm).2 (hm y (List.mem_cons_of_mem _ hy)))
    rw [List.length_erase_of_mem hx] at ih
    have := List.length_pos_of_mem hx
    simp
    omega
/-- the disk of the law: what it may hold -/
structure KD (d : Dk) (S : St) : Prop where
  up : d.down = false
  room : d.room = -1
  kpt : Kpt d.fs S
  oth : fget d.fs ot = some ⟨⟨#[]⟩, 0⟩
  non : ∀ j, j ≠ fr → j ≠ kp → j ≠ ot → fget d.fs j = none
  chk : checkB S = true
theorem KD.len {d : Dk} {S : St} (h : KD d S) (ok : Fit d) : d.fs.length < 256 := by
  have := names_le d.fs [fr, kp, ot] ok.up (fun x hx => by
    have hg : fget d.fs x.1 = some x.2 := (fget_mem ok.up).2 hx
    by_cases h1 : x.1 = fr
    · rw [h1]; simp
    · by_cases h2 : x.1 = kp
      · rw [h2]; simp
      · by_cases h3 : x.1 = ot
        · rw [h3]; simp
        · rw [h.non _ h1 h2 h3] at hg; cases hg)
  simp at this
  omega
theorem ot_ne : ot ≠ fr ∧ ot ≠ kp := by decide
/-- what a Commit makes of it -/
theorem KD.commit {d : Dk} {S : St} (h : KD d S) (ok : Fit d) (ed : Ed) :
    ((applyS S ed).1 ≠ 0 ∧ commitS d S false ed = ⟨(applyS S ed).1, d, S, false⟩) ∨
    ((applyS S ed).1 = 0 ∧ ∃ d', commitS d S false ed = ⟨0, d', (applyS S ed).2, false⟩ ∧ KD d' (applyS S ed).2 ∧ (d.fuse = 0 → d'.fuse = 0)) ∨
    ((applyS S ed).1 = 0 ∧ d.fuse ≠ 0 ∧ ∃ d', commitS d S false ed = ⟨7, d', S, true⟩ ∧ d'.down = true ∧ d'.room = -1 ∧ (Kpt d'.fs S ∨ Kpt d'.fs (applyS S ed).2) ∧ fget d'.fs ot = some ⟨⟨#[]⟩, 0⟩ ∧ (∀ j, j ≠ fr → j ≠ kp → j ≠ ot → fget d'.fs j = none)) := by
  obtain ⟨hc, hroom, hfit, hoth, hfu⟩ := commit_law ed ok h.up (h.len ok) h.kpt
  have hcc := apply_check (s := S) (ed := ed)
  generalize commitS d S false ed = c at *
  have ho : fget c.d.fs ot = some ⟨⟨#[]⟩, 0⟩ := (hoth ot ot_ne.1 ot_ne.2).trans h.oth
  have hn : ∀ j, j ≠ fr → j ≠ kp → j ≠ ot → fget c.d.fs j = none := fun j h1 h2 h3 => (hoth j h1 h2).trans (h.non j h1 h2 h3)
  cases hc with
  | no hw => exact .inl ⟨hw, rfl⟩
  | yes hw h1 h2 => exact .inr (.inl ⟨hw, _, rfl, ⟨h1, hroom.trans h.room, h2, ho, hn, hcc hw⟩, hfu⟩)
  | down hw h1 h2 h3 => exact .inr (.inr ⟨hw, h2, _, rfl, h1, hroom.trans h.room, h3, ho, hn⟩)
  | full hw h1 h2 h3 => rw [h.room] at h2; exact absurd h2 (by decide)
theorem stEq_self (S : St) : stEq S S = true := by
  have h : (List.zipWith fiEq S.fs S.fs).all id = true := (zip_all rfl).2 rfl
  unfold stEq
  rw [h]
  simp
def edZ : Ed := ⟨[], [], 0, 0⟩
theorem apply_zero {S : St} (h : checkB S = true) : applyS S edZ = (0, S) := by
  obtain ⟨h1, h2, h3, h4, _, _⟩ := check_fit h
  obtain ⟨next, log, L⟩ := S
  have hs : L.mergeSort leN = L := by
    have hu := check_up h
    exact (sort_told (List.Perm.refl L) (hu.imp (fun hxy => by omega)) hu.nd).symm
  have e1 : max next 0 = next := by dsimp only at *; omega
  have e2 : max log 0 = log := by dsimp only at *; omega
  simp only [applyS, h, if_true, edZ, dropL, addL, e1, e2, hs]
/-- behind Crash and Start -/
theorem KD.again {d : Dk} {S : St} (hk : Kpt d.fs S) (hr : d.room = -1) (ho : fget d.fs ot = some ⟨⟨#[]⟩, 0⟩) (hn : ∀ j, j ≠ fr → j ≠ kp → j ≠ ot → fget d.fs j = none) (hc : checkB S = true) (ks : List Int) : KD (startD (crD ks d)) S ∧ (startD (crD ks d)).fuse = 0 := by
  have e : startD (crD ks d) = { d with fs := crashF [] (crashF ks d.fs), down := false, fuse := 0 } := rfl
  rw [e]
  exact ⟨⟨rfl, hr, (hk.crash ks).crash [], (fget_crash [] _ ot).2 _ ((fget_crash ks _ ot).2 _ ho rfl) rfl, fun j h1 h2 h3 => (fget_crash [] _ j).1 ((fget_crash ks _ j).1 (hn j h1 h2 h3)), hc⟩, rfl⟩
theorem kd_start : createE d0 ot = 0 ∧ KD (createD d0 ot) ⟨1, 0, []⟩ ∧ (createD d0 ot).fuse = 0 := by
  have hn : nameB ot = true := by decide
  have e1 : createE d0 ot = 0 := by simp [createE, d0, hn, fget, chgE]
  have e2 : createD d0 ot = chg d0 (fun F => fput F ot ⟨⟨#[]⟩, 0⟩) false := by simp [createD, d0, hn, fget]
  have e3 : chg d0 (fun F => fput F ot ⟨⟨#[]⟩, 0⟩) false = { d0 with fs := fput [] ot ⟨⟨#[]⟩, 0⟩ } := by simp [chg, d0]
  rw [e2, e3]
  have hne : ∀ j, j ≠ ot → fget (fput [] ot ⟨⟨#[]⟩, 0⟩) j = none := fun j hj => by rw [fget_put_ne List.Pairwise.nil _ _ hj]; rfl
  exact ⟨e1, ⟨rfl, rfl, .inl ⟨hne kp ot_ne.2.symm, rfl⟩, fget_put_same List.Pairwise.nil _ _, fun j _ _ h => hne j h, by decide⟩, rfl⟩
/-- the edits, as a list -/
structure EdL (w : World) (a : Option Addr) (L : List (Value × Value × Ed)) : Prop where
  ex : 0 < L.length → ∃ b o, a = some ⟨b, o, none⟩ ∧ b < w.heap.size ∧ ∀ i (hi : i < L.length), EdC w b (o + i * 4) L[i].1 L[i].2.1 L[i].2.2
theorem EdsAt.list {w : World} {a : Option Addr} {len : Nat} (h : EdsAt w a len) : ∃ L, L.length = len ∧ EdL w a L := by
  by_cases h0 : 0 < len
  · obtain ⟨b, o, rfl, hb, h2⟩ := h h0
    have : ∀ n, n ≤ len → ∃ L : List (Value × Value × Ed), L.length = n ∧ ∀ i (hi : i < L.length), EdC w b (o + i * 4) L[i].1 L[i].2.1 L[i].2.2 := by
      intro n
      induction n with
      | zero => intro _; exact ⟨[], rfl, fun i hi => absurd hi (by simp)⟩
      | succ n ih =>
        intro hn
        obtain ⟨L, hL, hLi⟩ := ih (by omega)
        obtain ⟨vd, va, ed, he, c0, c1, c2, c3⟩ := h2 n (by omega)
        refine ⟨L ++ [(vd, va, ed)], by simp [hL], fun i hi => ?_⟩
        by_cases hik : i < L.length
        · rw [List.getElem_append_left hik]
          exact hLi i hik
        · have e : i = L.length := by simp at hi; omega
          subst e
          simp only [List.getElem_concat_length]
          rw [hL]
          exact ⟨he, c0, c1, c2, c3⟩
    obtain ⟨L, hL, hLi⟩ := this len (Nat.le_refl _)
    exact ⟨L, hL, ⟨fun _ => ⟨b, o, rfl, hb, hLi⟩⟩⟩
  · exact ⟨[], by simp; omega, ⟨fun h => absurd h (by simp)⟩⟩
/-- what stands while the edits are gone through -/
structure KI (w0 wr : World) (x b m : Nat) (S : St) : Prop where
  ex : ∃ d, Mn wr x b m d S false ∧ KD d S ∧ d.fuse = 0
  bel : Below w0.heap.size w0 wr
  lx : w0.heap.size ≤ x
  lb : w0.heap.size ≤ b
  lm : w0.heap.size ≤ m
theorem KI.quiet {w0 wr w' : World} {x b m : Nat} {S : St} (h : KI w0 wr x b m S) (hb : Below wr.heap.size wr w') : KI w0 w' x b m S := by
  obtain ⟨d, h1, h2, h3⟩ := h.ex
  exact ⟨⟨d, h1.quiet hb, h2, h3⟩, h.bel.trans (hb.mono h.bel.size), h.lx, h.lb, h.lm⟩
theorem KI.chk {w0 wr : World} {x b m : Nat} {S : St} (h : KI w0 wr x b m S) : checkB S = true := by obtain ⟨_, _, h2, _⟩ := h.ex; exact h2.chk
theorem KI.ok {w0 wr : World} {x b m : Nat} {S : St} (h : KI w0 wr x b m S) : S.fs.length ≤ 200 ∧ ∀ f ∈ S.fs, FiOk f := by
  obtain ⟨_, _, _, _, hl, hf⟩ := check_fit h.chk
  exact ⟨hl, fun f hm => by have h := hf f hm; exact ⟨by have := h.n0; omega, by have := h.n1; omega, by have := h.s1; omega, by have := h.s2; omega⟩⟩
theorem KI.state {w0 wr : World} {x b m : Nat} {S : St} (h : KI w0 wr x b m S) : Calls Tryz.prog 17 #[.pointer (some ⟨x, 0, none⟩)] wr fun e w' => ∃ a c, e = .returned (.agg #[.int .i64 S.next, .int .i64 S.log, .slice a S.fs.length c]) ∧ FRow (wr.heap.size ≤ ·) w' (.slice a S.fs.length c) S.fs ∧ Below wr.heap.size wr w' := by
  obtain ⟨d, h1, _, _⟩ := h.ex
  have hok := h.ok
  refine (state_any wr x b m d S false h1 (by omega)).mono ?_
  rintro e w' ⟨v, rfl, hown, hb⟩
  obtain ⟨a, c, rfl⟩ := own_slice hown
  exact ⟨a, c, rfl, FRow.own hown hok.2, hb⟩
theorem KI.lts {w0 wr : World} {x b m : Nat} {S : St} (h : KI w0 wr x b m S) : x < wr.heap.size ∧ b < wr.heap.size ∧ m < wr.heap.size := by
  obtain ⟨d, h1, _, _⟩ := h.ex
  exact ⟨h1.lt, World.block_lt_of_cell? wr _ h1.dat.c0, h1.dat.map.lt⟩
theorem stb {w : World} (s : St) (v : Value) : ∀ w', Below (w.alloc (.cells #[.int .i64 s.next, .int .i64 s.log, v] 24)).heap.size (w.alloc (.cells #[.int .i64 s.next, .int .i64 s.log, v] 24)) w' → w'.heap[w.heap.size]? = some (.cells #[.int .i64 s.next, .int .i64 s.log, v] 24 (0, 0)) := fun w' X => (X.block _ (by simp)).trans (heap_alloc_new w _)
/-- the state behind a Commit -/
def nxt (S : St) (ed : Ed) : St := if (applyS S ed).1 = 0 then (applyS S ed).2 else S
theorem KI.commit {w0 wr : World} {x b m : Nat} {S : St} (h : KI w0 wr x b m S) {vd va : Value} {ed : Ed} (he : EdAt wr vd va ed) (hl : ed.add.length ≤ 300) :
    Calls Tryz.prog 16 #[.pointer (some ⟨x, 0, none⟩), .agg #[vd, va, .int .i64 ed.next, .int .i64 ed.log]] wr fun e w' => e = .returned (.int .i64 (applyS S ed).1) ∧ KI w0 w' x b m (nxt S ed) ∧ But [b, m, x] wr w' := by
  obtain ⟨d, h1, h2, h3⟩ := h.ex
  have hok := h.ok
  refine (commit_any _ _ wr x b m d S h1 h2.up vd va ed he.drop he.add (by omega) (by omega)).mono ?_
  rintro e w' ⟨rfl, hm, hb⟩
  have hbel : Below w0.heap.size wr w' := hb.below h.bel.size (by simp; exact ⟨h.lb, h.lm, h.lx⟩)
  have hbel2 := h.bel.trans hbel
  rcases h2.commit h1.ok ed with ⟨hw, hc⟩ | ⟨hw, d', hc, hk, hf⟩ | ⟨_, hf, _⟩
  · rw [hc] at hm ⊢
    exact ⟨rfl, by unfold nxt; rw [if_neg hw]; exact ⟨⟨d, hm, h2, h3⟩, hbel2, h.lx, h.lb, h.lm⟩, hb⟩
  · rw [hc] at hm ⊢
    exact ⟨by rw [hw], by unfold nxt; rw [if_pos hw]; exact ⟨⟨d', hm, hk, hf h3⟩, hbel2, h.lx, h.lb, h.lm⟩, hb⟩
  · exact absurd h3 hf
/-- behind the last Commit: what the disk stands for is N -/
structure KC (w : World) (b m : Nat) (S s2 : St) (why E : Int) (N : St) : Prop where
  ex : ∃ d, DAt w b m d ∧ Fit d ∧ (E = 7 → d.down = true) ∧ Kpt d.fs N ∧ d.room = -1 ∧ fget d.fs ot = some ⟨⟨#[]⟩, 0⟩ ∧ ∀ j, j ≠ fr → j ≠ kp → j ≠ ot → fget d.fs j = none
  chk : checkB N = true
  cas : (E = why ∧ why ≠ 0 ∧ why ≠ 7 ∧ N = S) ∨ (E = 0 ∧ why = 0 ∧ N = s2) ∨ (E = 7 ∧ why = 0 ∧ (N = S ∨ N = s2))
theorem KC.quiet {w w' : World} {b m : Nat} {S s2 : St} {why E : Int} {N : St} (h : KC w b m S s2 why E N) (hb : Below w.heap.size w w') : KC w' b m S s2 why E N := by
  obtain ⟨d, h1, h2⟩ := h.ex
  exact ⟨⟨d, h1.below hb, h2⟩, h.chk, h.cas⟩
theorem kc_of {w' : World} {x b m : Nat} {d : Dk} {S s2 : St} {ed : Ed} {why : Int} (hk : KD d S) (ok : Fit d) (hap : applyS S ed = (why, s2)) (h7 : why ≠ 7) (hm : Mn w' x b m (commitS d S false ed).d (commitS d S false ed).s (commitS d S false ed).dead) : ∃ E N, (commitS d S false ed).e = E ∧ KC w' b m S s2 why E N := by
  have hck := apply_check (s := S) (ed := ed)
  rcases hk.commit ok ed with ⟨hw, hc⟩ | ⟨hw, d', hc, hk', _⟩ | ⟨hw, _, d', hc, c1, c2, c3, c4, c5⟩
  · rw [hc] at hm ⊢
    rw [hap] at hw
    exact ⟨_, S, rfl, ⟨d, hm.dat, hm.ok, fun e => by rw [hap] at e; exact absurd e h7, hk.kpt, hk.room, hk.oth, hk.non⟩, hk.chk, .inl ⟨by rw [hap], hw, h7, rfl⟩⟩
  · rw [hc] at hm ⊢
    rw [hap] at hw hk' hck
    exact ⟨_, s2, rfl, ⟨d', hm.dat, hm.ok, fun e => absurd e (by show ¬ ((0 : Int) = 7); decide), hk'.kpt, hk'.room, hk'.oth, hk'.non⟩, hk'.chk, .inr (.inl ⟨rfl, hw, rfl⟩)⟩
  · rw [hc] at hm ⊢
    rw [hap] at hw c3 hck
    rcases c3 with c3 | c3
    · exact ⟨_, S, rfl, ⟨d', hm.dat, hm.ok, fun _ => c1, c3, c2, c4, c5⟩, hk.chk, .inr (.inr ⟨rfl, hw, .inl rfl⟩)⟩
    · exact ⟨_, s2, rfl, ⟨d', hm.dat, hm.ok, fun _ => c1, c3, c2, c4, c5⟩, hck hw, .inr (.inr ⟨rfl, hw, .inr rfl⟩)⟩
theorem apply_len (S : St) (ed : Ed) : (applyS S ed).2.fs.length ≤ 200 := by
  by_cases h : (applyS S ed).1 = 0
  · exact (check_fit (apply_check h)).2.2.2.2.1
  · have : (applyS S ed).2 = s0 := by
      unfold applyS at h ⊢
      split at h
      · split at h
        · simp [*]
        · split at h
          · simp [*]
          · split at h
            · exact absurd rfl h
            · simp [*]
      · simp [*]
    rw [this]
    decide
theorem apply_why (S : St) (ed : Ed) : (applyS S ed).1 ≠ 7 := by
  unfold applyS
  split
  · split
    · decide
    · split
      · decide
      · split
        · show (0 : Int) ≠ 7; decide
        · show (1 : Int) ≠ 7; decide
  · decide
set_option maxRecDepth 100000 in
set_option maxHeartbeats 8000000 in
theorem kept_walk (W : World) (a : Option Addr) (len cap : Nat) (hlen : len ≤ 9223372036854775807) (heds : EdsAt W a len) (vd va : Value) (ed : Ed) (hlast : EdAt W vd va ed) (fz : Int) (hfz : -9223372036854775808 ≤ fz ∧ fz ≤ 9223372036854775807)
    (ka : Option Addr) (kn kc : Nat) (ks : List Int) (hkl : ks.length = kn) (hkn : kn ≤ 9223372036854775807) (hks : 0 < kn → ∃ kb ko, ka = some ⟨kb, ko, none⟩ ∧ ∀ i, i < kn → W.cell? ⟨kb, ko + i, none⟩ = some (.int .i64 (ks.getD i 0))) :
    Calls Tryz.prog 5 #[.slice a len cap, edv vd va ed.next ed.log, .int .i64 fz, .slice ka kn kc] W fun e w' => e = .returned (.bool true) ∧ Below W.heap.size W w' := by
  unfold edv
  obtain ⟨a1, c1, a2, c2, rfl, rfl⟩ := hlast.shape
  obtain ⟨L, rfl, hLL⟩ := heds.list
  have HED := Lib.hid hLL
  clear hLL
  have HLA := Lib.hid hlast
  have HKS := Lib.hid hks
  clear heds hlast hks
  obtain ⟨W1, hW1⟩ : ∃ W1, W.alloc (.cells #[.slice a1 ed.drop.length c1, .slice a2 ed.add.length c2, .int .i64 ed.next, .int .i64 ed.log] 33) = W1 := ⟨_, rfl⟩
  have HB1 := Lib.hid (show Below W.heap.size W W1 by rw [← hW1]; exact bl1 _ _)
  have hz1 : W.heap.size < W1.heap.size := by rw [← hW1]; simp
  obtain ⟨e0, e1, e2, e3⟩ : W1.cell? ⟨W.heap.size, 0, none⟩ = some (.slice a1 ed.drop.length c1) ∧ W1.cell? ⟨W.heap.size, 1, none⟩ = some (.slice a2 ed.add.length c2) ∧ W1.cell? ⟨W.heap.size, 2, none⟩ = some (.int .i64 ed.next) ∧ W1.cell? ⟨W.heap.size, 3, none⟩ = some (.int .i64 ed.log) := by rw [← hW1]; exact dEd
  have HW1 := Lib.hid hW1
  have HE := Lib.hid (show ∀ w', Below W1.heap.size W1 w' → w'.cell? ⟨W.heap.size, 0, none⟩ = some (.slice a1 ed.drop.length c1) ∧ w'.cell? ⟨W.heap.size, 1, none⟩ = some (.slice a2 ed.add.length c2) ∧ w'.cell? ⟨W.heap.size, 2, none⟩ = some (.int .i64 ed.next) ∧ w'.cell? ⟨W.heap.size, 3, none⟩ = some (.int .i64 ed.log) from fun w' X =>
    ⟨(X.cell (p := ⟨W.heap.size, 0, none⟩) hz1).trans e0, (X.cell (p := ⟨W.heap.size, 1, none⟩) hz1).trans e1, (X.cell (p := ⟨W.heap.size, 2, none⟩) hz1).trans e2, (X.cell (p := ⟨W.heap.size, 3, none⟩) hz1).trans e3⟩)
  clear hW1 e0 e1 e2 e3
  go_enter Tryz.func5, Tryz.ntmps5
  go_upto_region 1 with (fail)
  rw [HW1.out]
  go_wp2_with fail
  refine (awake_any W1).mono ?_
  rintro e w2 ⟨rfl, hb2⟩
  obtain ⟨e0, e1, e2, e3⟩ := HE.out w2 hb2
  have HB2 := Lib.hid hb2
  clear hb2
  have HBW := Lib.hid (HB1.out.trans (HB2.out.mono HB1.out.size))
  by_cases hl40 : 40 < L.length
  · have i40 : ((40 : Int) < (L.length : Int)) := by omega
    go_wp2_with fail
    go_ret
    exact ⟨rfl, HBW.out⟩
  · have i40 : ((L.length : Int) ≤ 40) := by omega
    go_wp2_with fail
    refine (great_any w2 0 0 ed.next ed.log none a1 a2 0 0 ed.drop.length c1 ed.add.length c2).mono ?_
    rintro e w3 ⟨rfl, hb3⟩
    have HB3 := Lib.hid (HB2.out.trans (hb3.mono HB2.out.size))
    clear hb3
    generalize hg : (decide (300 < 0) || decide (300 < ed.add.length) || decide (300 < ed.drop.length)) = g at *
    cases g with
    | true =>
      go_wp2_with fail
      go_ret
      exact ⟨rfl, HB1.out.trans (HB3.out.mono HB1.out.size)⟩
    | false =>
      have HG := Lib.hid (show ed.add.length ≤ 300 by simp at hg; omega)
      clear hg
      by_cases hk1000 : 1000 < kn
      · have ik : ((1000 : Int) < (kn : Int)) := by omega
        go_wp2_with fail
        go_ret
        exact ⟨rfl, HB1.out.trans (HB3.out.mono HB1.out.size)⟩
      · have ik : ((kn : Int) ≤ 1000) := by omega
        clear e0 e1 e2 e3
        go_wp2_with fail
        go_loopw [9] (fun i wr => ∃ k : Nat, k ≤ L.length ∧ i = .int .i64 k ∧ Hid (∀ j (hj : j < L.length), j < k → L[j].2.2.add.length ≤ 300) ∧ Hid (Below W1.heap.size W1 wr)) (fun i _ => L.length - (intOf i).toNat)
        case atStart => exact ⟨0, by omega, rfl, fun j _ h => by omega, HB3.out⟩
        case round =>
          obtain ⟨k, hk, rfl, HA, HB⟩ := hrel
          by_cases hlt : k < L.length
          · obtain ⟨bb, oo, rfl, hbl, hcc⟩ := HED.out.ex (by omega)
            have hec := ((hcc k hlt).below HB1.out).below HB.out
            have HNA := Lib.hid (fun (h : L[k].2.2.add.length ≤ 300) => (show ∀ j (hj : j < L.length), j < k + 1 → L[j].2.2.add.length ≤ 300 from fun j g1 hj => by
              by_cases e : j = k
              · subst e; exact h
              · exact HA.out j g1 (by omega)))
            clear hcc
            generalize L[k] = x at *
            obtain ⟨xd, xa, xe⟩ := x
            dsimp only at *
            obtain ⟨a3, c3, a4, c4, rfl, rfl⟩ := hec.at_.shape
            have p0 := hec.c0
            have p1 := hec.c1
            have p2 := hec.c2
            have p3 := hec.c3
            clear hec
            go_wp2_with fail
            refine (great_any wr 0 0 xe.next xe.log none a3 a4 0 0 xe.drop.length c3 xe.add.length c4).mono ?_
            rintro e w4 ⟨rfl, hb4⟩
            have HB4 := Lib.hid (HB.out.trans (hb4.mono HB.out.size))
            clear hb4
            generalize hg : (decide (300 < 0) || decide (300 < xe.add.length) || decide (300 < xe.drop.length)) = g at *
            cases g with
            | true =>
              go_wp2_with fail
              go_ret
              exact ⟨rfl, HB1.out.trans (HB4.out.mono HB1.out.size)⟩
            | false =>
              have HN := Lib.hid (HNA.out (by simp at hg; omega))
              clear hg
              go_wp2_with fail
              exact ⟨⟨k + 1, by omega, by go_num, HN, HB4⟩, by simp [intOf]; omega⟩
          · have HAL := Lib.hid (show ∀ j (hj : j < L.length), L[j].2.2.add.length ≤ 300 from fun j hj => HA.out j hj (by omega))
            clear HA
            go_wp2_with fail
            refine (new_any wr).mono ?_
            rintro e w5 ⟨rfl, hd5, hb5⟩
            have HD5 := Lib.hid hd5
            have HB5 := Lib.hid (HB.out.trans (hb5.mono HB.out.size))
            have hz5 : wr.heap.size + 1 < w5.heap.size := World.block_lt_of_cell? w5 _ hd5.c0
            clear hd5 hb5
            go_wp2_with fail
            refine (open_kpt w5 _ _ d0 HD5.out Fit.d0 rfl ⟨1, 0, []⟩ d0_kpt).mono ?_
            rintro e w6 ⟨rfl, hm6, hb6⟩
            have HM6 := Lib.hid hm6
            have HB6 := Lib.hid (HB5.out.trans (hb6.mono HB5.out.size))
            clear hm6 hb6
            obtain ⟨kc1, kc2, kc3⟩ := kd_start
            go_wp2_with fail
            refine (Bk.create (w0 := w6) ⟨HM6.out.dat, HM6.out.ok, But.refl _ _⟩ (s := otB) (by decide) kc1 rfl).mono ?_
            rintro e w7 ⟨rfl, hk7⟩
            have HKI := Lib.hid (show KI W1 w7 w5.heap.size (wr.heap.size + 1) wr.heap.size ⟨1, 0, []⟩ from ⟨⟨_, HM6.out.disk hk7, kc2, kc3⟩, HB6.out.trans (hk7.but.below HB6.out.size (by simp; have := HB.out.size; omega)), HB5.out.size, by have := HB.out.size; omega, HB.out.size⟩)
            clear hk7 kc1 kc2 kc3
            generalize w5.heap.size = x at *
            generalize wr.heap.size + 1 = b at *
            generalize wr.heap.size = m at *
            go_wp2_with fail
            clear HM6 HD5
            go_loopw [13] (fun i wr => ∃ k : Nat, k ≤ L.length ∧ i = .int .i64 k ∧ Hid (∃ S, KI W1 wr x b m S)) (fun i _ => L.length - (intOf i).toNat)
            case atStart => exact ⟨0, by omega, rfl, _, HKI.out⟩
            case round =>
              obtain ⟨k, hk, rfl, HS⟩ := hrel
              obtain ⟨S, hki⟩ := HS.out
              have HK := Lib.hid hki
              clear hki HS HKI
              by_cases hlt : k < L.length
              · obtain ⟨bb, oo, rfl, hbl, hcc⟩ := HED.out.ex (by omega)
                have hec1 := (hcc k hlt).below HB1.out
                have hadd := HAL.out k hlt
                clear hcc
                generalize L[k] = xx at *
                obtain ⟨xd, xa, xe⟩ := xx
                dsimp only at *
                obtain ⟨a3, c3, a4, c4, rfl, rfl⟩ := hec1.at_.shape
                have HEC := Lib.hid hec1
                clear hec1
                go_wp2_with fail
                refine HK.out.state.mono ?_
                rintro e v1 ⟨sa, sc, rfl, hr1, hb1⟩
                have HR1 := Lib.hid hr1
                have hlts := HK.out.lts
                have hv1 := hb1.size
                obtain ⟨v2, hv2⟩ : ∃ v2, v1.alloc (.cells #[.int .i64 S.next, .int .i64 S.log, .slice sa S.fs.length sc] 24) = v2 := ⟨_, rfl⟩
                have hb2' : Below v1.heap.size v1 v2 := by rw [← hv2]; exact bl1 _ _
                have hbx : v2.heap[v1.heap.size]? = some (.cells #[.int .i64 S.next, .int .i64 S.log, .slice sa S.fs.length sc] 24 (0, 0)) := by rw [← hv2]; exact heap_alloc_new _ _
                have HK2 := Lib.hid ((HK.out.quiet hb1).quiet hb2')
                have hec2 := HEC.out.below HK2.out.bel
                obtain ⟨p0, p1, p2, p3⟩ : v2.cell? ⟨bb, oo + k * 4, none⟩ = some (.slice a3 xe.drop.length c3) ∧ v2.cell? ⟨bb, oo + k * 4 + 1, none⟩ = some (.slice a4 xe.add.length c4) ∧ v2.cell? ⟨bb, oo + k * 4 + 2, none⟩ = some (.int .i64 xe.next) ∧ v2.cell? ⟨bb, oo + k * 4 + 3, none⟩ = some (.int .i64 xe.log) := ⟨hec2.c0, hec2.c1, hec2.c2, hec2.c3⟩
                have HE2 := Lib.hid hec2.at_
                have HRW2 := Lib.hid (hr1.below hb2')
                have HV2 := Lib.hid hv2
                have HBX := Lib.hid hbx
                have hbv : v1.heap.size < v2.heap.size := heap_lt hbx
                clear hr1 hb1 hb2' hec2 hbx hv2
                go_upto_region 18 with (fail)
                rw [HV2.out]
                go_wp2_with fail
                refine (HK2.out.commit HE2.out hadd).mono ?_
                rintro e v3 ⟨rfl, hk3, hbt3⟩
                have HK3 := Lib.hid hk3
                have hec3 := HEC.out.below hk3.bel
                have HE3 := Lib.hid hec3.at_
                have hbx3 : v3.heap[v1.heap.size]? = some (.cells #[.int .i64 S.next, .int .i64 S.log, .slice sa S.fs.length sc] 24 (0, 0)) := (hbt3.block _ hbv (by simp; omega)).trans HBX.out
                have HRW3 := Lib.hid (show FRow (fun _ => True) v3 (.slice sa S.fs.length sc) S.fs from HRW2.out.but hbt3 (fun kk hk _ => by simp; omega) (fun _ _ _ => trivial))
                have hbl3 : v1.heap.size < v3.heap.size := heap_lt hbx3
                have hbb3 : bb < v3.heap.size := World.block_lt_of_cell? v3 _ hec3.c0
                have HCs := Lib.hid (show ∀ w', Below v3.heap.size v3 w' → (w'.cell? ⟨v1.heap.size, 0, none⟩ = some (.int .i64 S.next) ∧ w'.cell? ⟨v1.heap.size, 1, none⟩ = some (.int .i64 S.log) ∧ w'.cell? ⟨v1.heap.size, 2, none⟩ = some (.slice sa S.fs.length sc)) ∧ (w'.cell? ⟨bb, oo + k * 4, none⟩ = some (.slice a3 xe.drop.length c3) ∧ w'.cell? ⟨bb, oo + k * 4 + 1, none⟩ = some (.slice a4 xe.add.length c4) ∧ w'.cell? ⟨bb, oo + k * 4 + 2, none⟩ = some (.int .i64 xe.next) ∧ w'.cell? ⟨bb, oo + k * 4 + 3, none⟩ = some (.int .i64 xe.log)) from fun w' X => by
                  obtain ⟨g0, g1, g2, _⟩ := stz ((X.block _ hbl3).trans hbx3)
                  have h4 := hec3.below X
                  exact ⟨⟨g0, g1, g2⟩, h4.c0, h4.c1, h4.c2, h4.c3⟩)
                have hLS := HK.out.ok
                have HAP := Lib.hid (show ∀ w', Below v3.heap.size v3 w' → Calls Tryz.prog 7 #[.agg #[.int .i64 S.next, .int .i64 S.log, .slice sa S.fs.length sc], .agg #[.slice a3 xe.drop.length c3, .slice a4 xe.add.length c4, .int .i64 xe.next, .int .i64 xe.log]] w' (ApR w' (applyS S xe)) from fun w' X =>
                  apply_any _ _ _ w' S xe _ _ _ (HRW3.out.below X) (HE3.out.drop.below X) (HE3.out.add.below X) (by omega) (by omega))
                have HX0 := Lib.hid (show Below v3.heap.size v3 v3.drew from (Below.refl _ _).drew)
                have HX1 := Lib.hid ((bl1 v3 (.cells #[.int .i64 0, .int .i64 0, .slice none 0 0] 24)).drew)
                have HBX3 := Lib.hid hbx3
                have HOK := Lib.hid HK.out.ok
                have HCK := Lib.hid HK.out.chk
                clear hec3 hbx3 p0 p1 p2 p3 hLS hk3 hbt3 HE2 HRW2 HK2 HK HV2 HBX HR1
                generalize hap : applyS S xe = ap at *
                obtain ⟨why, s2⟩ := ap
                go_upto_region 19 with (fail)
                go_cut [16, 17] from 81 to 89 (fun s5 s6 wx => s6 = .int .i64 why ∧ ∃ q v3', s5 = .pointer (some ⟨q, 0, none⟩) ∧ Hid (CoM v3 wx q s2 v3'))
                case first =>
                  go_region_held3 (fun w' => (w'.cell? ⟨v1.heap.size, 0, none⟩ = some (.int .i64 S.next) ∧ w'.cell? ⟨v1.heap.size, 1, none⟩ = some (.int .i64 S.log) ∧ w'.cell? ⟨v1.heap.size, 2, none⟩ = some (.slice sa S.fs.length sc)) ∧ (w'.cell? ⟨bb, oo + k * 4, none⟩ = some (.slice a3 xe.drop.length c3) ∧ w'.cell? ⟨bb, oo + k * 4 + 1, none⟩ = some (.slice a4 xe.add.length c4) ∧ w'.cell? ⟨bb, oo + k * 4 + 2, none⟩ = some (.int .i64 xe.next) ∧ w'.cell? ⟨bb, oo + k * 4 + 3, none⟩ = some (.int .i64 xe.log)))
                    (first | exact HCs.out _ HX0.out | exact HCs.out _ X3 | exact HCs.out _ (X3.alloc X3.size _) | exact HCs.out _ HX1.out | exact HCs.out _ (((X3.setCell (Nat.le_refl _) _).setCell (Nat.le_refl _) _).setCell (Nat.le_refl _) _) | assumption)
                    (first
                      | (go_at_call 7; ((with_reducible refine (HAP.out _ HX0.out).mono ?_); rintro e w3 ⟨v3', rfl, hr3, hb3⟩; have HR3 := Lib.hid hr3; have X3 := HX0.out.trans (hb3.mono HX0.out.size); obtain ⟨⟨a4', k4', rfl, t1, t2, t3, t4⟩, tk⟩ := hr3))
                      | (go_at_call 7; ((with_reducible refine (HAP.out _ HX1.out).mono ?_); rintro e w3 ⟨v3', rfl, hr3, hb3⟩; have HR3 := Lib.hid hr3; have X3 := HX1.out.trans (hb3.mono HX1.out.size); have y3 := (hb3.block v3.heap.size (by simp)).trans (heap_alloc_new v3 _); obtain ⟨q0, q1, q2, q3⟩ := stz y3; have q4 := heap_lt y3; obtain ⟨⟨a4', k4', rfl, t1, t2, t3, t4⟩, tk⟩ := hr3)))
                  all_goals
                    go_wp2_with fail
                    go_meet
                    first
                      | exact ⟨rfl, _, _, rfl, ⟨X3.alloc X3.size _, heap_alloc_new _ _, (HR3.out.below (bl1 _ _)), X3.size⟩⟩
                      | (refine ⟨rfl, _, _, rfl, ⟨((X3.setCell (Nat.le_refl _) _).setCell (Nat.le_refl _) _).setCell (Nat.le_refl _) _, heap_setCell_same _ _ _ _ _ _ (heap_setCell_same _ _ _ _ _ _ (heap_setCell_same _ _ _ _ _ _ y3)), HR3.out.keep (fun k hk _ => ?_) (by simp [World.setCell]) (fun k hk _ => ?_), Nat.le_refl _⟩⟩
                         · have hkn : k ≠ v3.heap.size := by simp at hk; omega
                           rw [Below.heap_setCell _ _ _ _ hkn, Below.heap_setCell _ _ _ _ hkn, Below.heap_setCell _ _ _ _ hkn]
                         · simp at hk; omega)
                case rest =>
                  obtain ⟨rfl, q, vm, rfl, HCO⟩ := hcut
                  have hkc := HK3.out.quiet HCO.out.below
                  have hco := HCO.out
                  obtain ⟨⟨ma, mc, rfl, m1, m2, m3, m4⟩, mk⟩ := hco.row
                  have HC6 := Lib.hid (show ∀ w', Below wc.heap.size wc w' → (w'.cell? ⟨v1.heap.size, 0, none⟩ = some (.int .i64 S.next) ∧ w'.cell? ⟨v1.heap.size, 1, none⟩ = some (.int .i64 S.log) ∧ w'.cell? ⟨v1.heap.size, 2, none⟩ = some (.slice sa S.fs.length sc)) ∧ (w'.cell? ⟨q, 0, none⟩ = some (.int .i64 s2.next) ∧ w'.cell? ⟨q, 1, none⟩ = some (.int .i64 s2.log) ∧ w'.cell? ⟨q, 2, none⟩ = some (.slice ma s2.fs.length mc)) from fun w' X => by
                    have b1 := (hco.below.block _ hbl3).trans HBX3.out
                    obtain ⟨g0, g1, g2, _⟩ := stz ((X.block _ (heap_lt b1)).trans b1)
                    obtain ⟨g3, g4, g5, _⟩ := stz ((X.block _ (heap_lt hco.blk)).trans hco.blk)
                    exact ⟨⟨g0, g1, g2⟩, g3, g4, g5⟩)
                  have HY0 := Lib.hid (show Below wc.heap.size wc wc.drew from (Below.refl _ _).drew)
                  have HRW4 := Lib.hid (HRW3.out.below hco.below)
                  have HRW5 := Lib.hid hco.row
                  clear hco m3 m4 mk
                  by_cases hw : why = 0
                  · subst hw
                    have hnx : nxt S xe = s2 := by unfold nxt; rw [hap]; rfl
                    rw [hnx] at hkc
                    have HKC := Lib.hid hkc
                    have HST := Lib.hid (show ∀ w', Below wc.heap.size wc w' → Calls Tryz.prog 17 #[.pointer (some ⟨x, 0, none⟩)] w' (fun e w'' => ∃ a c, e = .returned (.agg #[.int .i64 s2.next, .int .i64 s2.log, .slice a s2.fs.length c]) ∧ FRow (w'.heap.size ≤ ·) w'' (.slice a s2.fs.length c) s2.fs ∧ Below w'.heap.size w' w'') from fun w' X => (HKC.out.quiet X).state)
                    have HAK := Lib.hid (show ∀ w' (SS : Nat → Prop) a c, Below wc.heap.size wc w' → FRow SS w' (.slice a s2.fs.length c) s2.fs → Calls Tryz.prog 26 #[.agg #[.int .i64 s2.next, .int .i64 s2.log, .slice a s2.fs.length c], .agg #[.int .i64 s2.next, .int .i64 s2.log, .slice ma s2.fs.length mc]] w' (fun e w'' => e = .returned (.bool true) ∧ Below w'.heap.size w' w'') from fun w' SS a c X hr => by
                      have := alike_any _ _ w' s2 s2 _ _ hr (HRW5.out.below X) (by have := HKC.out.ok; omega) (by have := HKC.out.ok; omega)
                      rw [stEq_self] at this
                      exact this)
                    have HCH := Lib.hid (show ∀ w' (SS : Nat → Prop) a c, FRow SS w' (.slice a s2.fs.length c) s2.fs → Calls Tryz.prog 11 #[.agg #[.int .i64 s2.next, .int .i64 s2.log, .slice a s2.fs.length c]] w' (fun e w'' => e = .returned (.int .i64 0) ∧ Below w'.heap.size w' w'') from fun w' SS a c hr => by
                      have := check_any _ w' s2 _ hr
                      rw [show checkE s2 = 0 by unfold checkE; rw [HKC.out.chk]; rfl] at this
                      exact this)
                    clear hkc
                    go_upto_region 20 with (fail)
                    refine wp_region_noPanic ?_
                    refine wp_region_held_drew (S := (fun w' => (w'.cell? ⟨v1.heap.size, 0, none⟩ = some (.int .i64 S.next) ∧ w'.cell? ⟨v1.heap.size, 1, none⟩ = some (.int .i64 S.log) ∧ w'.cell? ⟨v1.heap.size, 2, none⟩ = some (.slice sa S.fs.length sc)) ∧ (w'.cell? ⟨q, 0, none⟩ = some (.int .i64 s2.next) ∧ w'.cell? ⟨q, 1, none⟩ = some (.int .i64 s2.log) ∧ w'.cell? ⟨q, 2, none⟩ = some (.slice ma s2.fs.length mc)))) (by kernel_rfl) (by (first | exact HC6.out _ HY0.out | exact HC6.out _ YA | exact HC6.out _ YB | exact HC6.out _ YC | exact HC6.out _ YD | assumption)) (fun hHeld => ?_)
                    refine wpAnyH_take (i := 0) (oi := { dst := Option.some 90, op := Op.move (Operand.tmp 15), type := 25, pos := _, after := #[], guard := Option.none }) (v := ?_) rfl (by kernel_rfl) (by kernel_rfl) (by kernel_rfl) (fun _ _ _ h => h) (Or.inl ⟨by rfl, ?_⟩) (by assumption) ?_
                    rotate_left
                    · (intro wS hSw; (try dsimp only at hSw); go_simp; try with_reducible rfl)
                    try simp only [Act.put, List.setIfInBounds_toArray, List.set_cons_zero, List.set_cons_succ]
                    refine wpAnyH_take (i := 1) (oi := { dst := Option.some 91, op := Op.move (Operand.tmp 17), type := 25, pos := _, after := #[], guard := Option.none }) (v := ?_) rfl (by kernel_rfl) (by kernel_rfl) (by kernel_rfl) (fun _ _ _ h => h) (Or.inl ⟨by rfl, ?_⟩) (by assumption) ?_
                    rotate_left
                    · (intro wS hSw; (try dsimp only at hSw); go_simp; try with_reducible rfl)
                    try simp only [Act.put, List.setIfInBounds_toArray, List.set_cons_zero, List.set_cons_succ]
                    refine wpAnyH_take (i := 2) (oi := { dst := Option.some 92, op := Op.binOp BinOp.neq 25 (Operand.tmp 90) (Operand.tmp 91) 25, type := 4, pos := _, after := #[{ on := 0, ground := Ground.data }, { on := 1, ground := Ground.data }], guard := Option.none }) (v := ?_) rfl (by kernel_rfl) (by kernel_rfl) (by kernel_rfl) (fun _ _ _ h => h) (Or.inl ⟨by rfl, ?_⟩) (by assumption) ?_
                    rotate_left
                    · (intro wS hSw; (try dsimp only at hSw); go_simp; try with_reducible rfl)
                    try simp only [Act.put, List.setIfInBounds_toArray, List.set_cons_zero, List.set_cons_succ]
                    refine wpAnyH_take (i := 3) (oi := { dst := Option.some 93, op := Op.move (Operand.tmp 92), type := 4, pos := _, after := #[{ on := 2, ground := Ground.data }], guard := Option.none }) (v := ?_) rfl (by kernel_rfl) (by kernel_rfl) (by kernel_rfl) (fun _ _ _ h => h) (Or.inl ⟨by rfl, ?_⟩) (by assumption) ?_
                    rotate_left
                    · (intro wS hSw; (try dsimp only at hSw); go_simp; try with_reducible rfl)
                    try simp only [Act.put, List.setIfInBounds_toArray, List.set_cons_zero, List.set_cons_succ]
                    refine wpAnyH_take (i := 4) (oi := { dst := Option.some 94, op := Op.move (Operand.tmp 15), type := 25, pos := _, after := #[{ on := 3, ground := Ground.guard }], guard := Option.some (3, Bool.false) }) (v := ?_) rfl (by kernel_rfl) (by kernel_rfl) (by kernel_rfl) (fun _ _ _ h => h) (Or.inl ⟨by rfl, ?_⟩) (by assumption) ?_
                    rotate_left
                    · (intro wS hSw; (try dsimp only at hSw); go_simp; try with_reducible rfl)
                    try simp only [Act.put, List.setIfInBounds_toArray, List.set_cons_zero, List.set_cons_succ]
                    refine wpAnyH_take (i := 5) (oi := { dst := Option.some 95, op := Op.binOp BinOp.neq 25 (Operand.tmp 94) (Operand.const (Value.int IntKind.i64 0)) 25, type := 4, pos := _, after := #[{ on := 4, ground := Ground.data }, { on := 3, ground := Ground.guard }], guard := Option.some (3, Bool.false) }) (v := ?_) rfl (by kernel_rfl) (by kernel_rfl) (by kernel_rfl) (fun _ _ _ h => h) (Or.inl ⟨by rfl, ?_⟩) (by assumption) ?_
                    rotate_left
                    · (intro wS hSw; (try dsimp only at hSw); go_simp; try with_reducible rfl)
                    try simp only [Act.put, List.setIfInBounds_toArray, List.set_cons_zero, List.set_cons_succ]
                    refine wpAnyH_take (i := 6) (oi := { dst := Option.some 96, op := Op.move (Operand.tmp 95), type := 4, pos := _, after := #[{ on := 5, ground := Ground.data }, { on := 3, ground := Ground.chain }, { on := 3, ground := Ground.guard }], guard := Option.some (3, Bool.false) }) (v := ?_) rfl (by kernel_rfl) (by kernel_rfl) (by kernel_rfl) (fun _ _ _ h => h) (Or.inl ⟨by rfl, ?_⟩) (by assumption) ?_
                    rotate_left
                    · (intro wS hSw; (try dsimp only at hSw); go_simp; try with_reducible rfl)
                    try simp only [Act.put, List.setIfInBounds_toArray, List.set_cons_zero, List.set_cons_succ]
                    refine wpAnyH_take (i := 7) (oi := { dst := Option.some 97, op := Op.move (Operand.tmp 11), type := 40, pos := _, after := #[{ on := 6, ground := Ground.guard }], guard := Option.some (6, Bool.true) }) (v := undef) rfl (by kernel_rfl) (by kernel_rfl) (by kernel_rfl) (fun _ _ _ h => h) (Or.inr ⟨by rfl, rfl⟩) (by assumption) ?_
                    try simp only [Act.put, List.setIfInBounds_toArray, List.set_cons_zero, List.set_cons_succ]
                    refine wpAnyH_take (i := 8) (oi := { dst := Option.some 98, op := Op.call { callee := Callee.value (Operand.func 17), args := #[Operand.tmp 97], argTypes := #[40] }, type := 24, pos := _, after := #[{ on := 7, ground := Ground.data }, { on := 6, ground := Ground.chain }, { on := 6, ground := Ground.guard }], guard := Option.some (6, Bool.true) }) (v := undef) rfl (by kernel_rfl) (by kernel_rfl) (by kernel_rfl) (fun _ _ _ h => h) (Or.inr ⟨by rfl, rfl⟩) (by assumption) ?_
                    try simp only [Act.put, List.setIfInBounds_toArray, List.set_cons_zero, List.set_cons_succ]
                    refine wpAnyH_take (i := 9) (oi := { dst := Option.some 99, op := Op.load 24 (Operand.tmp 14), type := 24, pos := _, after := #[{ on := 6, ground := Ground.guard }], guard := Option.some (6, Bool.true) }) (v := undef) rfl (by kernel_rfl) (by kernel_rfl) (by kernel_rfl) (fun _ _ _ h => h) (Or.inr ⟨by rfl, rfl⟩) (by assumption) ?_
                    try simp only [Act.put, List.setIfInBounds_toArray, List.set_cons_zero, List.set_cons_succ]
                    refine wpAnyH_take (i := 10) (oi := { dst := Option.some 100, op := Op.call { callee := Callee.value (Operand.func 26), args := #[Operand.tmp 98, Operand.tmp 99], argTypes := #[24, 24] }, type := 4, pos := _, after := #[{ on := 8, ground := Ground.data }, { on := 9, ground := Ground.data }, { on := 8, ground := Ground.chain }, { on := 6, ground := Ground.guard }], guard := Option.some (6, Bool.true) }) (v := undef) rfl (by kernel_rfl) (by kernel_rfl) (by kernel_rfl) (fun _ _ _ h => h) (Or.inr ⟨by rfl, rfl⟩) (by assumption) ?_
                    try simp only [Act.put, List.setIfInBounds_toArray, List.set_cons_zero, List.set_cons_succ]
                    refine wpAnyH_take (i := 11) (oi := { dst := Option.some 101, op := Op.unOp UnOp.not 4 (Operand.tmp 100), type := 4, pos := _, after := #[{ on := 10, ground := Ground.data }, { on := 6, ground := Ground.guard }], guard := Option.some (6, Bool.true) }) (v := undef) rfl (by kernel_rfl) (by kernel_rfl) (by kernel_rfl) (fun _ _ _ h => h) (Or.inr ⟨by rfl, rfl⟩) (by assumption) ?_
                    try simp only [Act.put, List.setIfInBounds_toArray, List.set_cons_zero, List.set_cons_succ]
                    refine wpAnyH_take (i := 12) (oi := { dst := Option.some 102, op := Op.pick (Operand.tmp 96) (Operand.tmp 101) (Operand.const (Value.bool Bool.false)), type := 4, pos := _, after := #[{ on := 6, ground := Ground.data }, { on := 11, ground := Ground.data }, { on := 3, ground := Ground.guard }], guard := Option.some (3, Bool.false) }) (v := ?_) rfl (by kernel_rfl) (by kernel_rfl) (by kernel_rfl) (fun _ _ _ h => h) (Or.inl ⟨by rfl, ?_⟩) (by assumption) ?_
                    rotate_left
                    · (intro wS hSw; (try dsimp only at hSw); go_simp; try with_reducible rfl)
                    try simp only [Act.put, List.setIfInBounds_toArray, List.set_cons_zero, List.set_cons_succ]
                    refine wpAnyH_take (i := 13) (oi := { dst := Option.some 103, op := Op.pick (Operand.tmp 93) (Operand.const (Value.bool Bool.true)) (Operand.tmp 102), type := 4, pos := _, after := #[{ on := 3, ground := Ground.data }, { on := 12, ground := Ground.data }], guard := Option.none }) (v := ?_) rfl (by kernel_rfl) (by kernel_rfl) (by kernel_rfl) (fun _ _ _ h => h) (Or.inl ⟨by rfl, ?_⟩) (by assumption) ?_
                    rotate_left
                    · (intro wS hSw; (try dsimp only at hSw); go_simp; try with_reducible rfl)
                    try simp only [Act.put, List.setIfInBounds_toArray, List.set_cons_zero, List.set_cons_succ]
                    refine wpAnyH_take (i := 14) (oi := { dst := Option.some 104, op := Op.move (Operand.tmp 103), type := 4, pos := _, after := #[{ on := 13, ground := Ground.data }, { on := 10, ground := Ground.chain }], guard := Option.none }) (v := ?_) rfl (by kernel_rfl) (by kernel_rfl) (by kernel_rfl) (fun _ _ _ h => h) (Or.inl ⟨by rfl, ?_⟩) (by assumption) ?_
                    rotate_left
                    · (intro wS hSw; (try dsimp only at hSw); go_simp; try with_reducible rfl)
                    try simp only [Act.put, List.setIfInBounds_toArray, List.set_cons_zero, List.set_cons_succ]
                    refine wpAnyH_take (i := 15) (oi := { dst := Option.some 105, op := Op.move (Operand.tmp 15), type := 25, pos := _, after := #[{ on := 14, ground := Ground.guard }], guard := Option.some (14, Bool.false) }) (v := ?_) rfl (by kernel_rfl) (by kernel_rfl) (by kernel_rfl) (fun _ _ _ h => h) (Or.inl ⟨by rfl, ?_⟩) (by assumption) ?_
                    rotate_left
                    · (intro wS hSw; (try dsimp only at hSw); go_simp; try with_reducible rfl)
                    try simp only [Act.put, List.setIfInBounds_toArray, List.set_cons_zero, List.set_cons_succ]
                    refine wpAnyH_take (i := 16) (oi := { dst := Option.some 106, op := Op.binOp BinOp.eql 25 (Operand.tmp 105) (Operand.const (Value.int IntKind.i64 0)) 25, type := 4, pos := _, after := #[{ on := 15, ground := Ground.data }, { on := 14, ground := Ground.guard }], guard := Option.some (14, Bool.false) }) (v := ?_) rfl (by kernel_rfl) (by kernel_rfl) (by kernel_rfl) (fun _ _ _ h => h) (Or.inl ⟨by rfl, ?_⟩) (by assumption) ?_
                    rotate_left
                    · (intro wS hSw; (try dsimp only at hSw); go_simp; try with_reducible rfl)
                    try simp only [Act.put, List.setIfInBounds_toArray, List.set_cons_zero, List.set_cons_succ]
                    refine wpAnyH_take (i := 17) (oi := { dst := Option.some 107, op := Op.move (Operand.tmp 106), type := 4, pos := _, after := #[{ on := 16, ground := Ground.data }, { on := 14, ground := Ground.chain }, { on := 14, ground := Ground.guard }], guard := Option.some (14, Bool.false) }) (v := ?_) rfl (by kernel_rfl) (by kernel_rfl) (by kernel_rfl) (fun _ _ _ h => h) (Or.inl ⟨by rfl, ?_⟩) (by assumption) ?_
                    rotate_left
                    · (intro wS hSw; (try dsimp only at hSw); go_simp; try with_reducible rfl)
                    try simp only [Act.put, List.setIfInBounds_toArray, List.set_cons_zero, List.set_cons_succ]
                    refine wpAnyH_take (i := 18) (oi := { dst := Option.some 108, op := Op.move (Operand.tmp 11), type := 40, pos := _, after := #[{ on := 17, ground := Ground.guard }], guard := Option.some (17, Bool.true) }) (v := ?_) rfl (by kernel_rfl) (by kernel_rfl) (by kernel_rfl) (fun _ _ _ h => h) (Or.inl ⟨by rfl, ?_⟩) (by assumption) ?_
                    rotate_left
                    · (intro wS hSw; (try dsimp only at hSw); go_simp; try with_reducible rfl)
                    try simp only [Act.put, List.setIfInBounds_toArray, List.set_cons_zero, List.set_cons_succ]
                    refine wpAnyH_take (i := 20) (oi := { dst := Option.some 110, op := Op.load 24 (Operand.tmp 16), type := 24, pos := _, after := #[{ on := 17, ground := Ground.guard }], guard := Option.some (17, Bool.true) }) (v := ?_) rfl (by kernel_rfl) (by kernel_rfl) (by kernel_rfl) (fun _ _ _ h => h) (Or.inl ⟨by rfl, ?_⟩) (by assumption) ?_
                    rotate_left
                    · (intro wS hSw; (try dsimp only at hSw); go_simp; try with_reducible rfl)
                    try simp only [Act.put, List.setIfInBounds_toArray, List.set_cons_zero, List.set_cons_succ]
                    refine wpAnyH_ready (rs := [19]) (by kernel_rfl) (by simp) ?_
                    refine AllReadyH.cons (o := { dst := Option.some 109, op := Op.call { callee := Callee.value (Operand.func 17), args := #[Operand.tmp 108], argTypes := #[40] }, type := 24, pos := _, after := #[{ on := 18, ground := Ground.data }, { on := 17, ground := Ground.chain }, { on := 17, ground := Ground.guard }], guard := Option.some (17, Bool.true) }) rfl (fun K hK => ?_) ?_
                    · go_simp
                      (first | (go_at_call 17; ((with_reducible refine (HST.out _ HY0.out).mono ?_); rintro e wA ⟨ga, gc, rfl, hrA, hbA⟩; have YA := HY0.out.trans (hbA.mono HY0.out.size))) | (go_at_call 26; ((with_reducible refine (HAK.out _ _ _ _ YA hrA).mono ?_); rintro e wB ⟨rfl, hbB⟩; have YB := YA.trans (hbB.mono YA.size))) | (go_at_call 17; ((with_reducible refine (HST.out _ YB).mono ?_); rintro e wC ⟨gc1, gc2, rfl, hrC, hbC⟩; have YC := YB.trans (hbC.mono YB.size))) | (go_at_call 11; ((with_reducible refine (HCH.out _ _ _ _ hrC).mono ?_); rintro e wD ⟨rfl, hbD⟩; have YD := YC.trans (hbD.mono YC.size))))
                      refine hK.out _ _ (by (first | exact HC6.out _ HY0.out | exact HC6.out _ YA | exact HC6.out _ YB | exact HC6.out _ YC | exact HC6.out _ YD | assumption)) (fun hHeld => ?_)
                      clear hK K
                      try simp only [Act.put, List.setIfInBounds_toArray, List.set_cons_zero, List.set_cons_succ]
                      refine wpAnyH_ready (rs := [21]) (by kernel_rfl) (by simp) ?_
                      refine AllReadyH.cons (o := { dst := Option.some 111, op := Op.call { callee := Callee.value (Operand.func 26), args := #[Operand.tmp 109, Operand.tmp 110], argTypes := #[24, 24] }, type := 4, pos := _, after := #[{ on := 19, ground := Ground.data }, { on := 20, ground := Ground.data }, { on := 19, ground := Ground.chain }, { on := 17, ground := Ground.guard }], guard := Option.some (17, Bool.true) }) rfl (fun K hK => ?_) ?_
                      · go_simp
                        (first | (go_at_call 17; ((with_reducible refine (HST.out _ HY0.out).mono ?_); rintro e wA ⟨ga, gc, rfl, hrA, hbA⟩; have YA := HY0.out.trans (hbA.mono HY0.out.size))) | (go_at_call 26; ((with_reducible refine (HAK.out _ _ _ _ YA hrA).mono ?_); rintro e wB ⟨rfl, hbB⟩; have YB := YA.trans (hbB.mono YA.size))) | (go_at_call 17; ((with_reducible refine (HST.out _ YB).mono ?_); rintro e wC ⟨gc1, gc2, rfl, hrC, hbC⟩; have YC := YB.trans (hbC.mono YB.size))) | (go_at_call 11; ((with_reducible refine (HCH.out _ _ _ _ hrC).mono ?_); rintro e wD ⟨rfl, hbD⟩; have YD := YC.trans (hbD.mono YC.size))))
                        refine hK.out _ _ (by (first | exact HC6.out _ HY0.out | exact HC6.out _ YA | exact HC6.out _ YB | exact HC6.out _ YC | exact HC6.out _ YD | assumption)) (fun hHeld => ?_)
                        clear hK K
                        try simp only [Act.put, List.setIfInBounds_toArray, List.set_cons_zero, List.set_cons_succ]
                        refine wpAnyH_take (i := 22) (oi := { dst := Option.some 112, op := Op.unOp UnOp.not 4 (Operand.tmp 111), type := 4, pos := _, after := #[{ on := 21, ground := Ground.data }, { on := 17, ground := Ground.guard }], guard := Option.some (17, Bool.true) }) (v := ?_) rfl (by kernel_rfl) (by kernel_rfl) (by kernel_rfl) (fun _ _ _ h => h) (Or.inl ⟨by rfl, ?_⟩) (by assumption) ?_
                        rotate_left
                        · (intro wS hSw; (try dsimp only at hSw); go_simp; try with_reducible rfl)
                        try simp only [Act.put, List.setIfInBounds_toArray, List.set_cons_zero, List.set_cons_succ]
                        refine wpAnyH_take (i := 23) (oi := { dst := Option.some 113, op := Op.pick (Operand.tmp 107) (Operand.tmp 112) (Operand.const (Value.bool Bool.false)), type := 4, pos := _, after := #[{ on := 17, ground := Ground.data }, { on := 22, ground := Ground.data }, { on := 14, ground := Ground.guard }], guard := Option.some (14, Bool.false) }) (v := ?_) rfl (by kernel_rfl) (by kernel_rfl) (by kernel_rfl) (fun _ _ _ h => h) (Or.inl ⟨by rfl, ?_⟩) (by assumption) ?_
                        rotate_left
                        · (intro wS hSw; (try dsimp only at hSw); go_simp; try with_reducible rfl)
                        try simp only [Act.put, List.setIfInBounds_toArray, List.set_cons_zero, List.set_cons_succ]
                        refine wpAnyH_take (i := 24) (oi := { dst := Option.some 114, op := Op.pick (Operand.tmp 104) (Operand.const (Value.bool Bool.true)) (Operand.tmp 113), type := 4, pos := _, after := #[{ on := 14, ground := Ground.data }, { on := 23, ground := Ground.data }], guard := Option.none }) (v := ?_) rfl (by kernel_rfl) (by kernel_rfl) (by kernel_rfl) (fun _ _ _ h => h) (Or.inl ⟨by rfl, ?_⟩) (by assumption) ?_
                        rotate_left
                        · (intro wS hSw; (try dsimp only at hSw); go_simp; try with_reducible rfl)
                        try simp only [Act.put, List.setIfInBounds_toArray, List.set_cons_zero, List.set_cons_succ]
                        refine wpAnyH_take (i := 25) (oi := { dst := Option.some 115, op := Op.move (Operand.tmp 114), type := 4, pos := _, after := #[{ on := 24, ground := Ground.data }, { on := 21, ground := Ground.chain }], guard := Option.none }) (v := ?_) rfl (by kernel_rfl) (by kernel_rfl) (by kernel_rfl) (fun _ _ _ h => h) (Or.inl ⟨by rfl, ?_⟩) (by assumption) ?_
                        rotate_left
                        · (intro wS hSw; (try dsimp only at hSw); go_simp; try with_reducible rfl)
                        try simp only [Act.put, List.setIfInBounds_toArray, List.set_cons_zero, List.set_cons_succ]
                        refine wpAnyH_take (i := 26) (oi := { dst := Option.some 116, op := Op.move (Operand.tmp 11), type := 40, pos := _, after := #[{ on := 25, ground := Ground.guard }], guard := Option.some (25, Bool.false) }) (v := ?_) rfl (by kernel_rfl) (by kernel_rfl) (by kernel_rfl) (fun _ _ _ h => h) (Or.inl ⟨by rfl, ?_⟩) (by assumption) ?_
                        rotate_left
                        · (intro wS hSw; (try dsimp only at hSw); go_simp; try with_reducible rfl)
                        try simp only [Act.put, List.setIfInBounds_toArray, List.set_cons_zero, List.set_cons_succ]
                        refine wpAnyH_ready (rs := [27]) (by kernel_rfl) (by simp) ?_
                        refine AllReadyH.cons (o := { dst := Option.some 117, op := Op.call { callee := Callee.value (Operand.func 17), args := #[Operand.tmp 116], argTypes := #[40] }, type := 24, pos := _, after := #[{ on := 26, ground := Ground.data }, { on := 25, ground := Ground.chain }, { on := 25, ground := Ground.guard }], guard := Option.some (25, Bool.false) }) rfl (fun K hK => ?_) ?_
                        · go_simp
                          (first | (go_at_call 17; ((with_reducible refine (HST.out _ HY0.out).mono ?_); rintro e wA ⟨ga, gc, rfl, hrA, hbA⟩; have YA := HY0.out.trans (hbA.mono HY0.out.size))) | (go_at_call 26; ((with_reducible refine (HAK.out _ _ _ _ YA hrA).mono ?_); rintro e wB ⟨rfl, hbB⟩; have YB := YA.trans (hbB.mono YA.size))) | (go_at_call 17; ((with_reducible refine (HST.out _ YB).mono ?_); rintro e wC ⟨gc1, gc2, rfl, hrC, hbC⟩; have YC := YB.trans (hbC.mono YB.size))) | (go_at_call 11; ((with_reducible refine (HCH.out _ _ _ _ hrC).mono ?_); rintro e wD ⟨rfl, hbD⟩; have YD := YC.trans (hbD.mono YC.size))))
                          refine hK.out _ _ (by (first | exact HC6.out _ HY0.out | exact HC6.out _ YA | exact HC6.out _ YB | exact HC6.out _ YC | exact HC6.out _ YD | assumption)) (fun hHeld => ?_)
                          clear hK K
                          try simp only [Act.put, List.setIfInBounds_toArray, List.set_cons_zero, List.set_cons_succ]
                          refine wpAnyH_ready (rs := [28]) (by kernel_rfl) (by simp) ?_
                          refine AllReadyH.cons (o := { dst := Option.some 118, op := Op.call { callee := Callee.value (Operand.func 11), args := #[Operand.tmp 117], argTypes := #[24] }, type := 25, pos := _, after := #[{ on := 27, ground := Ground.data }, { on := 27, ground := Ground.chain }, { on := 25, ground := Ground.guard }], guard := Option.some (25, Bool.false) }) rfl (fun K hK => ?_) ?_
                          · go_simp
                            (first | (go_at_call 17; ((with_reducible refine (HST.out _ HY0.out).mono ?_); rintro e wA ⟨ga, gc, rfl, hrA, hbA⟩; have YA := HY0.out.trans (hbA.mono HY0.out.size))) | (go_at_call 26; ((with_reducible refine (HAK.out _ _ _ _ YA hrA).mono ?_); rintro e wB ⟨rfl, hbB⟩; have YB := YA.trans (hbB.mono YA.size))) | (go_at_call 17; ((with_reducible refine (HST.out _ YB).mono ?_); rintro e wC ⟨gc1, gc2, rfl, hrC, hbC⟩; have YC := YB.trans (hbC.mono YB.size))) | (go_at_call 11; ((with_reducible refine (HCH.out _ _ _ _ hrC).mono ?_); rintro e wD ⟨rfl, hbD⟩; have YD := YC.trans (hbD.mono YC.size))))
                            refine hK.out _ _ (by (first | exact HC6.out _ HY0.out | exact HC6.out _ YA | exact HC6.out _ YB | exact HC6.out _ YC | exact HC6.out _ YD | assumption)) (fun hHeld => ?_)
                            clear hK K
                            try simp only [Act.put, List.setIfInBounds_toArray, List.set_cons_zero, List.set_cons_succ]
                            refine wpAnyH_take (i := 29) (oi := { dst := Option.some 119, op := Op.binOp BinOp.neq 25 (Operand.tmp 118) (Operand.const (Value.int IntKind.i64 0)) 25, type := 4, pos := _, after := #[{ on := 28, ground := Ground.data }, { on := 25, ground := Ground.guard }], guard := Option.some (25, Bool.false) }) (v := ?_) rfl (by kernel_rfl) (by kernel_rfl) (by kernel_rfl) (fun _ _ _ h => h) (Or.inl ⟨by rfl, ?_⟩) (by assumption) ?_
                            rotate_left
                            · (intro wS hSw; (try dsimp only at hSw); go_simp; try with_reducible rfl)
                            try simp only [Act.put, List.setIfInBounds_toArray, List.set_cons_zero, List.set_cons_succ]
                            refine wpAnyH_take (i := 30) (oi := { dst := Option.some 120, op := Op.pick (Operand.tmp 115) (Operand.const (Value.bool Bool.true)) (Operand.tmp 119), type := 4, pos := _, after := #[{ on := 25, ground := Ground.data }, { on := 29, ground := Ground.data }], guard := Option.none }) (v := ?_) rfl (by kernel_rfl) (by kernel_rfl) (by kernel_rfl) (fun _ _ _ h => h) (Or.inl ⟨by rfl, ?_⟩) (by assumption) ?_
                            rotate_left
                            · (intro wS hSw; (try dsimp only at hSw); go_simp; try with_reducible rfl)
                            try simp only [Act.put, List.setIfInBounds_toArray, List.set_cons_zero, List.set_cons_succ]
                            refine wpAnyH_done (by kernel_rfl) ?_ _
                            refine NoPanic.normal ?_
                            have HFIN := Lib.hid (HKC.out.quiet YD)
                            go_wp2_with fail
                            exact ⟨⟨k + 1, by omega, by go_num, _, HFIN.out⟩, by simp [intOf]; omega⟩
                          exact AllReadyH.nil
                        exact AllReadyH.nil
                      exact AllReadyH.nil
                    exact AllReadyH.nil
                  · have hwn : (why != 0) = true := by simpa using hw
                    have hwe : (why == 0) = false := by simpa using hw
                    have hws : (why != why) = false := by simp
                    have hnx : nxt S xe = S := by unfold nxt; rw [hap, if_neg hw]
                    rw [hnx] at hkc
                    have HKC := Lib.hid hkc
                    have HST := Lib.hid (show ∀ w', Below wc.heap.size wc w' → Calls Tryz.prog 17 #[.pointer (some ⟨x, 0, none⟩)] w' (fun e w'' => ∃ a c, e = .returned (.agg #[.int .i64 S.next, .int .i64 S.log, .slice a S.fs.length c]) ∧ FRow (w'.heap.size ≤ ·) w'' (.slice a S.fs.length c) S.fs ∧ Below w'.heap.size w' w'') from fun w' X => (HKC.out.quiet X).state)
                    have HAK := Lib.hid (show ∀ w' (SS : Nat → Prop) a c, Below wc.heap.size wc w' → FRow SS w' (.slice a S.fs.length c) S.fs → Calls Tryz.prog 26 #[.agg #[.int .i64 S.next, .int .i64 S.log, .slice a S.fs.length c], .agg #[.int .i64 S.next, .int .i64 S.log, .slice sa S.fs.length sc]] w' (fun e w'' => e = .returned (.bool true) ∧ Below w'.heap.size w' w'') from fun w' SS a c X hr => by
                      have := alike_any _ _ w' S S _ _ hr (HRW4.out.below X) (by have := HKC.out.ok; omega) (by have := HKC.out.ok; omega)
                      rw [stEq_self] at this
                      exact this)
                    have HCH := Lib.hid (show ∀ w' (SS : Nat → Prop) a c, FRow SS w' (.slice a S.fs.length c) S.fs → Calls Tryz.prog 11 #[.agg #[.int .i64 S.next, .int .i64 S.log, .slice a S.fs.length c]] w' (fun e w'' => e = .returned (.int .i64 0) ∧ Below w'.heap.size w' w'') from fun w' SS a c hr => by
                      have := check_any _ w' S _ hr
                      rw [show checkE S = 0 by unfold checkE; rw [HKC.out.chk]; rfl] at this
                      exact this)
                    clear hkc
                    go_upto_region 20 with (fail)
                    refine wp_region_noPanic ?_
                    refine wp_region_held_drew (S := (fun w' => (w'.cell? ⟨v1.heap.size, 0, none⟩ = some (.int .i64 S.next) ∧ w'.cell? ⟨v1.heap.size, 1, none⟩ = some (.int .i64 S.log) ∧ w'.cell? ⟨v1.heap.size, 2, none⟩ = some (.slice sa S.fs.length sc)) ∧ (w'.cell? ⟨q, 0, none⟩ = some (.int .i64 s2.next) ∧ w'.cell? ⟨q, 1, none⟩ = some (.int .i64 s2.log) ∧ w'.cell? ⟨q, 2, none⟩ = some (.slice ma s2.fs.length mc)))) (by kernel_rfl) (by (first | exact HC6.out _ HY0.out | exact HC6.out _ YA | exact HC6.out _ YB | exact HC6.out _ YC | exact HC6.out _ YD | assumption)) (fun hHeld => ?_)
                    refine wpAnyH_take (i := 0) (oi := { dst := Option.some 90, op := Op.move (Operand.tmp 15), type := 25, pos := _, after := #[], guard := Option.none }) (v := ?_) rfl (by kernel_rfl) (by kernel_rfl) (by kernel_rfl) (fun _ _ _ h => h) (Or.inl ⟨by rfl, ?_⟩) (by assumption) ?_
                    rotate_left
                    · (intro wS hSw; (try dsimp only at hSw); go_simp; try with_reducible rfl)
                    try simp only [Act.put, List.setIfInBounds_toArray, List.set_cons_zero, List.set_cons_succ]
                    refine wpAnyH_take (i := 1) (oi := { dst := Option.some 91, op := Op.move (Operand.tmp 17), type := 25, pos := _, after := #[], guard := Option.none }) (v := ?_) rfl (by kernel_rfl) (by kernel_rfl) (by kernel_rfl) (fun _ _ _ h => h) (Or.inl ⟨by rfl, ?_⟩) (by assumption) ?_
                    rotate_left
                    · (intro wS hSw; (try dsimp only at hSw); go_simp; try with_reducible rfl)
                    try simp only [Act.put, List.setIfInBounds_toArray, List.set_cons_zero, List.set_cons_succ]
                    refine wpAnyH_take (i := 2) (oi := { dst := Option.some 92, op := Op.binOp BinOp.neq 25 (Operand.tmp 90) (Operand.tmp 91) 25, type := 4, pos := _, after := #[{ on := 0, ground := Ground.data }, { on := 1, ground := Ground.data }], guard := Option.none }) (v := ?_) rfl (by kernel_rfl) (by kernel_rfl) (by kernel_rfl) (fun _ _ _ h => h) (Or.inl ⟨by rfl, ?_⟩) (by assumption) ?_
                    rotate_left
                    · (intro wS hSw; (try dsimp only at hSw); go_simp; try with_reducible rfl)
                    try simp only [Act.put, List.setIfInBounds_toArray, List.set_cons_zero, List.set_cons_succ]
                    refine wpAnyH_take (i := 3) (oi := { dst := Option.some 93, op := Op.move (Operand.tmp 92), type := 4, pos := _, after := #[{ on := 2, ground := Ground.data }], guard := Option.none }) (v := ?_) rfl (by kernel_rfl) (by kernel_rfl) (by kernel_rfl) (fun _ _ _ h => h) (Or.inl ⟨by rfl, ?_⟩) (by assumption) ?_
                    rotate_left
                    · (intro wS hSw; (try dsimp only at hSw); go_simp; try with_reducible rfl)
                    try simp only [Act.put, List.setIfInBounds_toArray, List.set_cons_zero, List.set_cons_succ]
                    refine wpAnyH_take (i := 4) (oi := { dst := Option.some 94, op := Op.move (Operand.tmp 15), type := 25, pos := _, after := #[{ on := 3, ground := Ground.guard }], guard := Option.some (3, Bool.false) }) (v := ?_) rfl (by kernel_rfl) (by kernel_rfl) (by kernel_rfl) (fun _ _ _ h => h) (Or.inl ⟨by rfl, ?_⟩) (by assumption) ?_
                    rotate_left
                    · (intro wS hSw; (try dsimp only at hSw); go_simp; try with_reducible rfl)
                    try simp only [Act.put, List.setIfInBounds_toArray, List.set_cons_zero, List.set_cons_succ]
                    refine wpAnyH_take (i := 5) (oi := { dst := Option.some 95, op := Op.binOp BinOp.neq 25 (Operand.tmp 94) (Operand.const (Value.int IntKind.i64 0)) 25, type := 4, pos := _, after := #[{ on := 4, ground := Ground.data }, { on := 3, ground := Ground.guard }], guard := Option.some (3, Bool.false) }) (v := ?_) rfl (by kernel_rfl) (by kernel_rfl) (by kernel_rfl) (fun _ _ _ h => h) (Or.inl ⟨by rfl, ?_⟩) (by assumption) ?_
                    rotate_left
                    · (intro wS hSw; (try dsimp only at hSw); go_simp; try with_reducible rfl)
                    try simp only [Act.put, List.setIfInBounds_toArray, List.set_cons_zero, List.set_cons_succ]
                    refine wpAnyH_take (i := 6) (oi := { dst := Option.some 96, op := Op.move (Operand.tmp 95), type := 4, pos := _, after := #[{ on := 5, ground := Ground.data }, { on := 3, ground := Ground.chain }, { on := 3, ground := Ground.guard }], guard := Option.some (3, Bool.false) }) (v := ?_) rfl (by kernel_rfl) (by kernel_rfl) (by kernel_rfl) (fun _ _ _ h => h) (Or.inl ⟨by rfl, ?_⟩) (by assumption) ?_
                    rotate_left
                    · (intro wS hSw; (try dsimp only at hSw); go_simp; try with_reducible rfl)
                    try simp only [Act.put, List.setIfInBounds_toArray, List.set_cons_zero, List.set_cons_succ]
                    refine wpAnyH_take (i := 7) (oi := { dst := Option.some 97, op := Op.move (Operand.tmp 11), type := 40, pos := _, after := #[{ on := 6, ground := Ground.guard }], guard := Option.some (6, Bool.true) }) (v := ?_) rfl (by kernel_rfl) (by kernel_rfl) (by kernel_rfl) (fun _ _ _ h => h) (Or.inl ⟨by rfl, ?_⟩) (by assumption) ?_
                    rotate_left
                    · (intro wS hSw; (try dsimp only at hSw); go_simp; try with_reducible rfl)
                    try simp only [Act.put, List.setIfInBounds_toArray, List.set_cons_zero, List.set_cons_succ]
                    refine wpAnyH_take (i := 9) (oi := { dst := Option.some 99, op := Op.load 24 (Operand.tmp 14), type := 24, pos := _, after := #[{ on := 6, ground := Ground.guard }], guard := Option.some (6, Bool.true) }) (v := ?_) rfl (by kernel_rfl) (by kernel_rfl) (by kernel_rfl) (fun _ _ _ h => h) (Or.inl ⟨by rfl, ?_⟩) (by assumption) ?_
                    rotate_left
                    · (intro wS hSw; (try dsimp only at hSw); go_simp; try with_reducible rfl)
                    try simp only [Act.put, List.setIfInBounds_toArray, List.set_cons_zero, List.set_cons_succ]
                    refine wpAnyH_ready (rs := [8]) (by kernel_rfl) (by simp) ?_
                    refine AllReadyH.cons (o := { dst := Option.some 98, op := Op.call { callee := Callee.value (Operand.func 17), args := #[Operand.tmp 97], argTypes := #[40] }, type := 24, pos := _, after := #[{ on := 7, ground := Ground.data }, { on := 6, ground := Ground.chain }, { on := 6, ground := Ground.guard }], guard := Option.some (6, Bool.true) }) rfl (fun K hK => ?_) ?_
                    · go_simp
                      (first | (go_at_call 17; ((with_reducible refine (HST.out _ HY0.out).mono ?_); rintro e wA ⟨ga, gc, rfl, hrA, hbA⟩; have YA := HY0.out.trans (hbA.mono HY0.out.size))) | (go_at_call 26; ((with_reducible refine (HAK.out _ _ _ _ YA hrA).mono ?_); rintro e wB ⟨rfl, hbB⟩; have YB := YA.trans (hbB.mono YA.size))) | (go_at_call 17; ((with_reducible refine (HST.out _ YB).mono ?_); rintro e wC ⟨gc1, gc2, rfl, hrC, hbC⟩; have YC := YB.trans (hbC.mono YB.size))) | (go_at_call 11; ((with_reducible refine (HCH.out _ _ _ _ hrC).mono ?_); rintro e wD ⟨rfl, hbD⟩; have YD := YC.trans (hbD.mono YC.size))))
                      refine hK.out _ _ (by (first | exact HC6.out _ HY0.out | exact HC6.out _ YA | exact HC6.out _ YB | exact HC6.out _ YC | exact HC6.out _ YD | assumption)) (fun hHeld => ?_)
                      clear hK K
                      try simp only [Act.put, List.setIfInBounds_toArray, List.set_cons_zero, List.set_cons_succ]
                      refine wpAnyH_ready (rs := [10]) (by kernel_rfl) (by simp) ?_
                      refine AllReadyH.cons (o := { dst := Option.some 100, op := Op.call { callee := Callee.value (Operand.func 26), args := #[Operand.tmp 98, Operand.tmp 99], argTypes := #[24, 24] }, type := 4, pos := _, after := #[{ on := 8, ground := Ground.data }, { on := 9, ground := Ground.data }, { on := 8, ground := Ground.chain }, { on := 6, ground := Ground.guard }], guard := Option.some (6, Bool.true) }) rfl (fun K hK => ?_) ?_
                      · go_simp
                        (first | (go_at_call 17; ((with_reducible refine (HST.out _ HY0.out).mono ?_); rintro e wA ⟨ga, gc, rfl, hrA, hbA⟩; have YA := HY0.out.trans (hbA.mono HY0.out.size))) | (go_at_call 26; ((with_reducible refine (HAK.out _ _ _ _ YA hrA).mono ?_); rintro e wB ⟨rfl, hbB⟩; have YB := YA.trans (hbB.mono YA.size))) | (go_at_call 17; ((with_reducible refine (HST.out _ YB).mono ?_); rintro e wC ⟨gc1, gc2, rfl, hrC, hbC⟩; have YC := YB.trans (hbC.mono YB.size))) | (go_at_call 11; ((with_reducible refine (HCH.out _ _ _ _ hrC).mono ?_); rintro e wD ⟨rfl, hbD⟩; have YD := YC.trans (hbD.mono YC.size))))
                        refine hK.out _ _ (by (first | exact HC6.out _ HY0.out | exact HC6.out _ YA | exact HC6.out _ YB | exact HC6.out _ YC | exact HC6.out _ YD | assumption)) (fun hHeld => ?_)
                        clear hK K
                        try simp only [Act.put, List.setIfInBounds_toArray, List.set_cons_zero, List.set_cons_succ]
                        refine wpAnyH_take (i := 11) (oi := { dst := Option.some 101, op := Op.unOp UnOp.not 4 (Operand.tmp 100), type := 4, pos := _, after := #[{ on := 10, ground := Ground.data }, { on := 6, ground := Ground.guard }], guard := Option.some (6, Bool.true) }) (v := ?_) rfl (by kernel_rfl) (by kernel_rfl) (by kernel_rfl) (fun _ _ _ h => h) (Or.inl ⟨by rfl, ?_⟩) (by assumption) ?_
                        rotate_left
                        · (intro wS hSw; (try dsimp only at hSw); go_simp; try with_reducible rfl)
                        try simp only [Act.put, List.setIfInBounds_toArray, List.set_cons_zero, List.set_cons_succ]
                        refine wpAnyH_take (i := 12) (oi := { dst := Option.some 102, op := Op.pick (Operand.tmp 96) (Operand.tmp 101) (Operand.const (Value.bool Bool.false)), type := 4, pos := _, after := #[{ on := 6, ground := Ground.data }, { on := 11, ground := Ground.data }, { on := 3, ground := Ground.guard }], guard := Option.some (3, Bool.false) }) (v := ?_) rfl (by kernel_rfl) (by kernel_rfl) (by kernel_rfl) (fun _ _ _ h => h) (Or.inl ⟨by rfl, ?_⟩) (by assumption) ?_
                        rotate_left
                        · (intro wS hSw; (try dsimp only at hSw); go_simp; try with_reducible rfl)
                        try simp only [Act.put, List.setIfInBounds_toArray, List.set_cons_zero, List.set_cons_succ]
                        refine wpAnyH_take (i := 13) (oi := { dst := Option.some 103, op := Op.pick (Operand.tmp 93) (Operand.const (Value.bool Bool.true)) (Operand.tmp 102), type := 4, pos := _, after := #[{ on := 3, ground := Ground.data }, { on := 12, ground := Ground.data }], guard := Option.none }) (v := ?_) rfl (by kernel_rfl) (by kernel_rfl) (by kernel_rfl) (fun _ _ _ h => h) (Or.inl ⟨by rfl, ?_⟩) (by assumption) ?_
                        rotate_left
                        · (intro wS hSw; (try dsimp only at hSw); go_simp; try with_reducible rfl)
                        try simp only [Act.put, List.setIfInBounds_toArray, List.set_cons_zero, List.set_cons_succ]
                        refine wpAnyH_take (i := 14) (oi := { dst := Option.some 104, op := Op.move (Operand.tmp 103), type := 4, pos := _, after := #[{ on := 13, ground := Ground.data }, { on := 10, ground := Ground.chain }], guard := Option.none }) (v := ?_) rfl (by kernel_rfl) (by kernel_rfl) (by kernel_rfl) (fun _ _ _ h => h) (Or.inl ⟨by rfl, ?_⟩) (by assumption) ?_
                        rotate_left
                        · (intro wS hSw; (try dsimp only at hSw); go_simp; try with_reducible rfl)
                        try simp only [Act.put, List.setIfInBounds_toArray, List.set_cons_zero, List.set_cons_succ]
                        refine wpAnyH_take (i := 15) (oi := { dst := Option.some 105, op := Op.move (Operand.tmp 15), type := 25, pos := _, after := #[{ on := 14, ground := Ground.guard }], guard := Option.some (14, Bool.false) }) (v := ?_) rfl (by kernel_rfl) (by kernel_rfl) (by kernel_rfl) (fun _ _ _ h => h) (Or.inl ⟨by rfl, ?_⟩) (by assumption) ?_
                        rotate_left
                        · (intro wS hSw; (try dsimp only at hSw); go_simp; try with_reducible rfl)
                        try simp only [Act.put, List.setIfInBounds_toArray, List.set_cons_zero, List.set_cons_succ]
                        refine wpAnyH_take (i := 16) (oi := { dst := Option.some 106, op := Op.binOp BinOp.eql 25 (Operand.tmp 105) (Operand.const (Value.int IntKind.i64 0)) 25, type := 4, pos := _, after := #[{ on := 15, ground := Ground.data }, { on := 14, ground := Ground.guard }], guard := Option.some (14, Bool.false) }) (v := ?_) rfl (by kernel_rfl) (by kernel_rfl) (by kernel_rfl) (fun _ _ _ h => h) (Or.inl ⟨by rfl, ?_⟩) (by assumption) ?_
                        rotate_left
                        · (intro wS hSw; (try dsimp only at hSw); go_simp; try with_reducible rfl)
                        try simp only [Act.put, List.setIfInBounds_toArray, List.set_cons_zero, List.set_cons_succ]
                        refine wpAnyH_take (i := 17) (oi := { dst := Option.some 107, op := Op.move (Operand.tmp 106), type := 4, pos := _, after := #[{ on := 16, ground := Ground.data }, { on := 14, ground := Ground.chain }, { on := 14, ground := Ground.guard }], guard := Option.some (14, Bool.false) }) (v := ?_) rfl (by kernel_rfl) (by kernel_rfl) (by kernel_rfl) (fun _ _ _ h => h) (Or.inl ⟨by rfl, ?_⟩) (by assumption) ?_
                        rotate_left
                        · (intro wS hSw; (try dsimp only at hSw); go_simp; try with_reducible rfl)
                        try simp only [Act.put, List.setIfInBounds_toArray, List.set_cons_zero, List.set_cons_succ]
                        refine wpAnyH_take (i := 18) (oi := { dst := Option.some 108, op := Op.move (Operand.tmp 11), type := 40, pos := _, after := #[{ on := 17, ground := Ground.guard }], guard := Option.some (17, Bool.true) }) (v := undef) rfl (by kernel_rfl) (by kernel_rfl) (by kernel_rfl) (fun _ _ _ h => h) (Or.inr ⟨by rfl, rfl⟩) (by assumption) ?_
                        try simp only [Act.put, List.setIfInBounds_toArray, List.set_cons_zero, List.set_cons_succ]
                        refine wpAnyH_take (i := 19) (oi := { dst := Option.some 109, op := Op.call { callee := Callee.value (Operand.func 17), args := #[Operand.tmp 108], argTypes := #[40] }, type := 24, pos := _, after := #[{ on := 18, ground := Ground.data }, { on := 17, ground := Ground.chain }, { on := 17, ground := Ground.guard }], guard := Option.some (17, Bool.true) }) (v := undef) rfl (by kernel_rfl) (by kernel_rfl) (by kernel_rfl) (fun _ _ _ h => h) (Or.inr ⟨by rfl, rfl⟩) (by assumption) ?_
                        try simp only [Act.put, List.setIfInBounds_toArray, List.set_cons_zero, List.set_cons_succ]
                        refine wpAnyH_take (i := 20) (oi := { dst := Option.some 110, op := Op.load 24 (Operand.tmp 16), type := 24, pos := _, after := #[{ on := 17, ground := Ground.guard }], guard := Option.some (17, Bool.true) }) (v := undef) rfl (by kernel_rfl) (by kernel_rfl) (by kernel_rfl) (fun _ _ _ h => h) (Or.inr ⟨by rfl, rfl⟩) (by assumption) ?_
                        try simp only [Act.put, List.setIfInBounds_toArray, List.set_cons_zero, List.set_cons_succ]
                        refine wpAnyH_take (i := 21) (oi := { dst := Option.some 111, op := Op.call { callee := Callee.value (Operand.func 26), args := #[Operand.tmp 109, Operand.tmp 110], argTypes := #[24, 24] }, type := 4, pos := _, after := #[{ on := 19, ground := Ground.data }, { on := 20, ground := Ground.data }, { on := 19, ground := Ground.chain }, { on := 17, ground := Ground.guard }], guard := Option.some (17, Bool.true) }) (v := undef) rfl (by kernel_rfl) (by kernel_rfl) (by kernel_rfl) (fun _ _ _ h => h) (Or.inr ⟨by rfl, rfl⟩) (by assumption) ?_
                        try simp only [Act.put, List.setIfInBounds_toArray, List.set_cons_zero, List.set_cons_succ]
                        refine wpAnyH_take (i := 22) (oi := { dst := Option.some 112, op := Op.unOp UnOp.not 4 (Operand.tmp 111), type := 4, pos := _, after := #[{ on := 21, ground := Ground.data }, { on := 17, ground := Ground.guard }], guard := Option.some (17, Bool.true) }) (v := undef) rfl (by kernel_rfl) (by kernel_rfl) (by kernel_rfl) (fun _ _ _ h => h) (Or.inr ⟨by rfl, rfl⟩) (by assumption) ?_
                        try simp only [Act.put, List.setIfInBounds_toArray, List.set_cons_zero, List.set_cons_succ]
                        refine wpAnyH_take (i := 23) (oi := { dst := Option.some 113, op := Op.pick (Operand.tmp 107) (Operand.tmp 112) (Operand.const (Value.bool Bool.false)), type := 4, pos := _, after := #[{ on := 17, ground := Ground.data }, { on := 22, ground := Ground.data }, { on := 14, ground := Ground.guard }], guard := Option.some (14, Bool.false) }) (v := ?_) rfl (by kernel_rfl) (by kernel_rfl) (by kernel_rfl) (fun _ _ _ h => h) (Or.inl ⟨by rfl, ?_⟩) (by assumption) ?_
                        rotate_left
                        · (intro wS hSw; (try dsimp only at hSw); go_simp; try with_reducible rfl)
                        try simp only [Act.put, List.setIfInBounds_toArray, List.set_cons_zero, List.set_cons_succ]
                        refine wpAnyH_take (i := 24) (oi := { dst := Option.some 114, op := Op.pick (Operand.tmp 104) (Operand.const (Value.bool Bool.true)) (Operand.tmp 113), type := 4, pos := _, after := #[{ on := 14, ground := Ground.data }, { on := 23, ground := Ground.data }], guard := Option.none }) (v := ?_) rfl (by kernel_rfl) (by kernel_rfl) (by kernel_rfl) (fun _ _ _ h => h) (Or.inl ⟨by rfl, ?_⟩) (by assumption) ?_
                        rotate_left
                        · (intro wS hSw; (try dsimp only at hSw); go_simp; try with_reducible rfl)
                        try simp only [Act.put, List.setIfInBounds_toArray, List.set_cons_zero, List.set_cons_succ]
                        refine wpAnyH_take (i := 25) (oi := { dst := Option.some 115, op := Op.move (Operand.tmp 114), type := 4, pos := _, after := #[{ on := 24, ground := Ground.data }, { on := 21, ground := Ground.chain }], guard := Option.none }) (v := ?_) rfl (by kernel_rfl) (by kernel_rfl) (by kernel_rfl) (fun _ _ _ h => h) (Or.inl ⟨by rfl, ?_⟩) (by assumption) ?_
                        rotate_left
                        · (intro wS hSw; (try dsimp only at hSw); go_simp; try with_reducible rfl)
                        try simp only [Act.put, List.setIfInBounds_toArray, List.set_cons_zero, List.set_cons_succ]
                        refine wpAnyH_take (i := 26) (oi := { dst := Option.some 116, op := Op.move (Operand.tmp 11), type := 40, pos := _, after := #[{ on := 25, ground := Ground.guard }], guard := Option.some (25, Bool.false) }) (v := ?_) rfl (by kernel_rfl) (by kernel_rfl) (by kernel_rfl) (fun _ _ _ h => h) (Or.inl ⟨by rfl, ?_⟩) (by assumption) ?_
                        rotate_left
                        · (intro wS hSw; (try dsimp only at hSw); go_simp; try with_reducible rfl)
                        try simp only [Act.put, List.setIfInBounds_toArray, List.set_cons_zero, List.set_cons_succ]
                        refine wpAnyH_ready (rs := [27]) (by kernel_rfl) (by simp) ?_
                        refine AllReadyH.cons (o := { dst := Option.some 117, op := Op.call { callee := Callee.value (Operand.func 17), args := #[Operand.tmp 116], argTypes := #[40] }, type := 24, pos := _, after := #[{ on := 26, ground := Ground.data }, { on := 25, ground := Ground.chain }, { on := 25, ground := Ground.guard }], guard := Option.some (25, Bool.false) }) rfl (fun K hK => ?_) ?_
                        · go_simp
                          (first | (go_at_call 17; ((with_reducible refine (HST.out _ HY0.out).mono ?_); rintro e wA ⟨ga, gc, rfl, hrA, hbA⟩; have YA := HY0.out.trans (hbA.mono HY0.out.size))) | (go_at_call 26; ((with_reducible refine (HAK.out _ _ _ _ YA hrA).mono ?_); rintro e wB ⟨rfl, hbB⟩; have YB := YA.trans (hbB.mono YA.size))) | (go_at_call 17; ((with_reducible refine (HST.out _ YB).mono ?_); rintro e wC ⟨gc1, gc2, rfl, hrC, hbC⟩; have YC := YB.trans (hbC.mono YB.size))) | (go_at_call 11; ((with_reducible refine (HCH.out _ _ _ _ hrC).mono ?_); rintro e wD ⟨rfl, hbD⟩; have YD := YC.trans (hbD.mono YC.size))))
                          refine hK.out _ _ (by (first | exact HC6.out _ HY0.out | exact HC6.out _ YA | exact HC6.out _ YB | exact HC6.out _ YC | exact HC6.out _ YD | assumption)) (fun hHeld => ?_)
                          clear hK K
                          try simp only [Act.put, List.setIfInBounds_toArray, List.set_cons_zero, List.set_cons_succ]
                          refine wpAnyH_ready (rs := [28]) (by kernel_rfl) (by simp) ?_
                          refine AllReadyH.cons (o := { dst := Option.some 118, op := Op.call { callee := Callee.value (Operand.func 11), args := #[Operand.tmp 117], argTypes := #[24] }, type := 25, pos := _, after := #[{ on := 27, ground := Ground.data }, { on := 27, ground := Ground.chain }, { on := 25, ground := Ground.guard }], guard := Option.some (25, Bool.false) }) rfl (fun K hK => ?_) ?_
                          · go_simp
                            (first | (go_at_call 17; ((with_reducible refine (HST.out _ HY0.out).mono ?_); rintro e wA ⟨ga, gc, rfl, hrA, hbA⟩; have YA := HY0.out.trans (hbA.mono HY0.out.size))) | (go_at_call 26; ((with_reducible refine (HAK.out _ _ _ _ YA hrA).mono ?_); rintro e wB ⟨rfl, hbB⟩; have YB := YA.trans (hbB.mono YA.size))) | (go_at_call 17; ((with_reducible refine (HST.out _ YB).mono ?_); rintro e wC ⟨gc1, gc2, rfl, hrC, hbC⟩; have YC := YB.trans (hbC.mono YB.size))) | (go_at_call 11; ((with_reducible refine (HCH.out _ _ _ _ hrC).mono ?_); rintro e wD ⟨rfl, hbD⟩; have YD := YC.trans (hbD.mono YC.size))))
                            refine hK.out _ _ (by (first | exact HC6.out _ HY0.out | exact HC6.out _ YA | exact HC6.out _ YB | exact HC6.out _ YC | exact HC6.out _ YD | assumption)) (fun hHeld => ?_)
                            clear hK K
                            try simp only [Act.put, List.setIfInBounds_toArray, List.set_cons_zero, List.set_cons_succ]
                            refine wpAnyH_take (i := 29) (oi := { dst := Option.some 119, op := Op.binOp BinOp.neq 25 (Operand.tmp 118) (Operand.const (Value.int IntKind.i64 0)) 25, type := 4, pos := _, after := #[{ on := 28, ground := Ground.data }, { on := 25, ground := Ground.guard }], guard := Option.some (25, Bool.false) }) (v := ?_) rfl (by kernel_rfl) (by kernel_rfl) (by kernel_rfl) (fun _ _ _ h => h) (Or.inl ⟨by rfl, ?_⟩) (by assumption) ?_
                            rotate_left
                            · (intro wS hSw; (try dsimp only at hSw); go_simp; try with_reducible rfl)
                            try simp only [Act.put, List.setIfInBounds_toArray, List.set_cons_zero, List.set_cons_succ]
                            refine wpAnyH_take (i := 30) (oi := { dst := Option.some 120, op := Op.pick (Operand.tmp 115) (Operand.const (Value.bool Bool.true)) (Operand.tmp 119), type := 4, pos := _, after := #[{ on := 25, ground := Ground.data }, { on := 29, ground := Ground.data }], guard := Option.none }) (v := ?_) rfl (by kernel_rfl) (by kernel_rfl) (by kernel_rfl) (fun _ _ _ h => h) (Or.inl ⟨by rfl, ?_⟩) (by assumption) ?_
                            rotate_left
                            · (intro wS hSw; (try dsimp only at hSw); go_simp; try with_reducible rfl)
                            try simp only [Act.put, List.setIfInBounds_toArray, List.set_cons_zero, List.set_cons_succ]
                            refine wpAnyH_done (by kernel_rfl) ?_ _
                            refine NoPanic.normal ?_
                            have HFIN := Lib.hid (HKC.out.quiet YD)
                            go_wp2_with fail
                            exact ⟨⟨k + 1, by omega, by go_num, _, HFIN.out⟩, by simp [intOf]; omega⟩
                          exact AllReadyH.nil
                        exact AllReadyH.nil
                      exact AllReadyH.nil
                    exact AllReadyH.nil
              · go_wp2_with fail
                refine HK.out.state.mono ?_
                rintro e v1 ⟨sa, sc, rfl, hr1, hb1⟩
                have hlts := HK.out.lts
                have hv1 := hb1.size
                have HOK := Lib.hid HK.out.ok
                have hbx : (v1.alloc (.cells #[.int .i64 S.next, .int .i64 S.log, .slice sa S.fs.length sc] 24)).heap[v1.heap.size]? = some (.cells #[.int .i64 S.next, .int .i64 S.log, .slice sa S.fs.length sc] 24 (0, 0)) := heap_alloc_new _ _
                obtain ⟨v2, hv2⟩ : ∃ v2, v1.alloc (.cells #[.int .i64 S.next, .int .i64 S.log, .slice sa S.fs.length sc] 24) = v2 := ⟨_, rfl⟩
                rw [hv2] at hbx
                have hb2' : Below v1.heap.size v1 v2 := by rw [← hv2]; exact bl1 _ _
                have HK2 := Lib.hid ((HK.out.quiet hb1).quiet hb2')
                have HRW2 := Lib.hid (hr1.below hb2')
                have HV2 := Lib.hid hv2
                have HBX := Lib.hid hbx
                obtain ⟨g0, g1, g2, _⟩ := stz hbx
                obtain ⟨e0, e1, e2, e3⟩ := HE.out v2 HK2.out.bel
                have hlast2 := (HLA.out.below HB1.out).below HK2.out.bel
                have HL2 := Lib.hid hlast2
                clear hr1 hb1 hb2' hv2 hbx hlast2
                go_upto_region 23 with (fail)
                rw [HV2.out]
                go_wp2_with fail
                refine (apply_any _ _ _ v2 S ed _ _ _ HRW2.out HL2.out.drop HL2.out.add (by have := HOK.out; omega) (by have := HG.out; omega)).mono ?_
                rintro e v3 ⟨vm, rfl, hr3, hb3⟩
                have HR3 := Lib.hid hr3
                obtain ⟨⟨ma, mc, rfl, m1, m2, m3, m4⟩, mk⟩ := hr3
                have HSD := Lib.hid (apply_why S ed)
                have HS2 := Lib.hid (apply_len S ed)
                have HAK := Lib.hid (fun (h : (applyS S ed).1 = 0) => apply_check h)
                clear m3 m4 mk g0 g1 g2 e0 e1 e2 e3
                generalize hap : applyS S ed = ap at *
                obtain ⟨why, s2⟩ := ap
                dsimp only at *
                obtain ⟨v4, hv4⟩ : ∃ v4, v3.alloc (.cells #[.int .i64 s2.next, .int .i64 s2.log, .slice ma s2.fs.length mc] 24) = v4 := ⟨_, rfl⟩
                have hb4 : Below v3.heap.size v3 v4 := by rw [← hv4]; exact bl1 _ _
                have hb24 : Below v2.heap.size v2 v4 := hb3.trans (hb4.mono hb3.size)
                have hm4 : v4.heap[v3.heap.size]? = some (.cells #[.int .i64 s2.next, .int .i64 s2.log, .slice ma s2.fs.length mc] 24 (0, 0)) := by rw [← hv4]; exact heap_alloc_new _ _
                have hlw := heap_lt HBX.out
                have hw4 : v4.heap[v1.heap.size]? = some (.cells #[.int .i64 S.next, .int .i64 S.log, .slice sa S.fs.length sc] 24 (0, 0)) := (hb24.block _ hlw).trans HBX.out
                have HK4 := Lib.hid (HK2.out.quiet hb24)
                have HL4 := Lib.hid (HL2.out.below hb24)
                have hs32 := hb3.size
                have HMA := Lib.hid (show FRow (v2.heap.size ≤ ·) v4 (.slice ma s2.fs.length mc) s2.fs from HR3.out.below hb4)
                have HWA := Lib.hid (show FRow (wr.heap.size ≤ ·) v4 (.slice sa S.fs.length sc) S.fs from HRW2.out.below hb24)
                have HM4 := Lib.hid hm4
                have HW4 := Lib.hid hw4
                have HV4 := Lib.hid hv4
                have hl34 : v3.heap.size < v4.heap.size := heap_lt hm4
                clear hb4 hb24 hm4 hw4 hv4 hb3
                obtain ⟨d, hmn, hkd, hf0⟩ := HK4.out.ex
                have HMN := Lib.hid hmn
                have HKD := Lib.hid hkd
                clear hmn hkd hf0
                go_upto_region 24 with (fail)
                rw [HV4.out]
                go_wp2_with fail
                refine (Bk.fuse (w0 := v4) ⟨HMN.out.dat, HMN.out.ok, But.refl _ _⟩ fz hfz.2 rfl).mono ?_
                rintro e v5 ⟨rfl, hk5⟩
                have HM5 := Lib.hid (HMN.out.disk hk5)
                have HD5 := Lib.hid (show KD { d with fuse := max fz 0 } S from ⟨HKD.out.up, HKD.out.room, HKD.out.kpt, HKD.out.oth, HKD.out.non, HKD.out.chk⟩)
                have HB5 := Lib.hid (show Below W1.heap.size W1 v5 from HK4.out.bel.trans (hk5.but.below HK4.out.bel.size (by have := HK4.out.lb; have := HK4.out.lm; simp; omega)))
                have HT5 := Lib.hid (hk5.but.wider (l' := [b, m, x]) (by simp))
                obtain ⟨e0, e1, e2, e3⟩ := HE.out v5 HB5.out
                have HL5 := Lib.hid ((HLA.out.below HB1.out).below HB5.out)
                clear hk5
                generalize { d with fuse := max fz 0 } = d5 at *
                go_wp2_with fail
                refine (commit_any _ _ v5 x b m d5 S HM5.out HD5.out.up _ _ ed HL5.out.drop HL5.out.add (by have := HOK.out; omega) (by have := HG.out; omega)).mono ?_
                rintro e v6 ⟨rfl, hm6, hbt6⟩
                obtain ⟨E, N, hE, hkc⟩ := kc_of HD5.out HM5.out.ok hap HSD.out hm6
                rw [hE]
                have hlx5 := HM5.out.lt
                have HKC := Lib.hid hkc
                have HB6x := Lib.hid (show Below W1.heap.size W1 v6 from HB5.out.trans (hbt6.below HB5.out.size (by have := HK4.out.lx; have := HK4.out.lb; have := HK4.out.lm; simp; omega)))
                have HT6 := Lib.hid (HT5.out.trans hbt6)
                clear hm6 hbt6 hE hkc e0 e1 e2 e3
                go_upto_region 26 with (fail)
                go_cut [150] from 135 to 149 (fun s150 wx => s150 = .bool false ∧ Hid (Below v6.heap.size v6 wx))
                case first =>
                  rcases HKC.out.cas with ⟨rfl, c2, c3, _⟩ | ⟨rfl, rfl, _⟩ | ⟨rfl, rfl, _⟩
                  · have i1 : (E != E) = false := by simp
                    go_wp2_with fail
                    go_meet
                    exact ⟨rfl, Below.refl _ _⟩
                  · go_wp2_with fail
                    go_meet
                    exact ⟨rfl, Below.refl _ _⟩
                  · obtain ⟨d6, c1, _, c3, _⟩ := HKC.out.ex
                    have c4 := c3 rfl
                    go_wp2_with fail
                    refine (down_any v6 b m d6 c1).mono ?_
                    rintro e w8 ⟨rfl, rfl⟩
                    rw [c4]
                    go_wp2_with fail
                    go_meet
                    exact ⟨rfl, Below.refl _ _⟩
                case rest =>
                  obtain ⟨rfl, HCB⟩ := hcut
                  obtain ⟨d6, c1, c2, _, c4, c5, c6, c7⟩ := (HKC.out.quiet HCB.out).ex
                  have HBW := Lib.hid (show Below W1.heap.size W1 wc from HB6x.out.trans (HCB.out.mono HB6x.out.size))
                  have hlb := HK4.out.lb
                  have hlm := HK4.out.lm
                  have hcK : 0 < kn → ∃ kb ko, ka = some ⟨kb, ko, none⟩ ∧ kb ≠ b ∧ ∀ i, i < kn → wc.cell? ⟨kb, ko + i, none⟩ = some (.int .i64 (ks.getD i 0)) := fun h0 => by
                    obtain ⟨kb, ko, hka, hkc⟩ := HKS.out h0
                    have hkb : kb < W.heap.size := World.block_lt_of_cell? W _ (hkc 0 h0)
                    exact ⟨kb, ko, hka, by omega, fun i hi => ((HB1.out.trans (HBW.out.mono HB1.out.size)).cell (p := ⟨kb, ko + i, none⟩) hkb).trans (hkc i hi)⟩
                  have HCK := Lib.hid hcK
                  have HAG := Lib.hid (KD.again c4 c5 c6 c7 HKC.out.chk ks)
                  have HC1 := Lib.hid c1
                  have HC2 := Lib.hid c2
                  clear c1 c2 c4 c5 c6 c7 hcK
                  go_wp2_with fail
                  refine (Bk.crash (w0 := wc) ⟨HC1.out, HC2.out, But.refl _ _⟩ ka kn kc ks hkl (by omega) HCK.out rfl).mono ?_
                  rintro e w8 ⟨rfl, hk8⟩
                  have HK8 := Lib.hid hk8
                  clear hk8
                  go_wp2_with fail
                  refine (HK8.out.start (d' := startD (crD ks d6)) rfl).mono ?_
                  rintro e w9 ⟨rfl, hk9⟩
                  have HK9 := Lib.hid hk9
                  have HB9 := Lib.hid (show Below W1.heap.size W1 w9 from HBW.out.trans (hk9.but.below HBW.out.size (by simp; omega)))
                  clear hk9
                  go_wp2_with fail
                  refine (open_kpt w9 b m _ HK9.out.dat HK9.out.ok HAG.out.1.up N HAG.out.1.kpt).mono ?_
                  rintro e w10 ⟨rfl, hm10, hb10⟩
                  have HM10 := Lib.hid hm10
                  have HB10 := Lib.hid hb10
                  clear hm10 hb10
                  go_wp2_with fail
                  refine (state_any w10 _ _ _ _ _ _ HM10.out (by have := (check_fit HKC.out.chk).2.2.2.2.1; omega)).mono ?_
                  rintro e v7 ⟨vn, rfl, hr7, hb7⟩
                  obtain ⟨na, nc, rfl⟩ := own_slice hr7
                  unfold stv
                  have HR7 := Lib.hid hr7
                  have HB7 := Lib.hid hb7
                  clear hr7 hb7
                  go_upto_region 34 with (fail)
                  have hr7 := HR7.out
                  have hb7 := HB7.out
                  obtain ⟨v8, hv8⟩ : ∃ v8, v7.alloc (.cells #[.int .i64 N.next, .int .i64 N.log, .slice na N.fs.length nc] 24) = v8 := ⟨_, rfl⟩
                  have hb8 : Below v7.heap.size v7 v8 := by rw [← hv8]; exact bl1 _ _
                  have hn8 : v8.heap[v7.heap.size]? = some (.cells #[.int .i64 N.next, .int .i64 N.log, .slice na N.fs.length nc] 24 (0, 0)) := by rw [← hv8]; exact heap_alloc_new _ _
                  have hb98 : Below w9.heap.size w9 v8 := (HB10.out.trans (hb7.mono HB10.out.size)).trans (hb8.mono (Nat.le_trans HB10.out.size hb7.size))
                  have hall : But [b, m, x] v4 v8 := ((HT6.out.trans (.of_below HCB.out)).trans (HK9.out.but.wider (by simp))).trans (.of_below hb98)
                  have hNok : ∀ f ∈ N.fs, FiOk f := fun f hf => by have h := (check_fit HKC.out.chk).2.2.2.2.2 f hf; exact ⟨by have := h.n0; omega, by have := h.n1; omega, by have := h.s1; omega, by have := h.s2; omega⟩
                  have HRN := Lib.hid ((FRow.own hr7 hNok).below hb8)
                  have HRN2 := Lib.hid (show FRow (fun k => w10.heap.size ≤ k ∧ k < v8.heap.size) v8 (.slice na N.fs.length nc) N.fs from HRN.out.wider (fun k hk hlt => ⟨hk, hlt⟩))
                  have HRM := Lib.hid (show FRow (fun _ => True) v8 (.slice ma s2.fs.length mc) s2.fs from HMA.out.but hall (fun kk hk _ => by simp; omega) (fun _ _ _ => trivial))
                  have HRS := Lib.hid (show FRow (fun _ => True) v8 (.slice sa S.fs.length sc) S.fs from HWA.out.but hall (fun kk hk _ => by simp; omega) (fun _ _ _ => trivial))
                  have hm8 : v8.heap[v3.heap.size]? = some (.cells #[.int .i64 s2.next, .int .i64 s2.log, .slice ma s2.fs.length mc] 24 (0, 0)) := (hall.block _ hl34 (by simp; omega)).trans HM4.out
                  have hw8 : v8.heap[v1.heap.size]? = some (.cells #[.int .i64 S.next, .int .i64 S.log, .slice sa S.fs.length sc] 24 (0, 0)) := (hall.block _ (by omega) (by simp; omega)).trans HW4.out
                  have HC9 := Lib.hid (show ∀ w', Below v8.heap.size v8 w' → (w'.cell? ⟨v7.heap.size, 0, none⟩ = some (.int .i64 N.next) ∧ w'.cell? ⟨v7.heap.size, 1, none⟩ = some (.int .i64 N.log) ∧ w'.cell? ⟨v7.heap.size, 2, none⟩ = some (.slice na N.fs.length nc)) ∧ (w'.cell? ⟨v3.heap.size, 0, none⟩ = some (.int .i64 s2.next) ∧ w'.cell? ⟨v3.heap.size, 1, none⟩ = some (.int .i64 s2.log) ∧ w'.cell? ⟨v3.heap.size, 2, none⟩ = some (.slice ma s2.fs.length mc)) ∧ (w'.cell? ⟨v1.heap.size, 0, none⟩ = some (.int .i64 S.next) ∧ w'.cell? ⟨v1.heap.size, 1, none⟩ = some (.int .i64 S.log) ∧ w'.cell? ⟨v1.heap.size, 2, none⟩ = some (.slice sa S.fs.length sc)) from fun w' X => by
                    obtain ⟨g0, g1, g2, _⟩ := stz ((X.block _ (heap_lt hn8)).trans hn8)
                    obtain ⟨g3, g4, g5, _⟩ := stz ((X.block _ (heap_lt hm8)).trans hm8)
                    obtain ⟨g6, g7, g8, _⟩ := stz ((X.block _ (heap_lt hw8)).trans hw8)
                    exact ⟨⟨g0, g1, g2⟩, ⟨g3, g4, g5⟩, g6, g7, g8⟩)
                  have HV8 := Lib.hid hv8
                  have HM8 := Lib.hid (HM10.out.quiet ((hb7.trans (hb8.mono hb7.size))))
                  have HB8 := Lib.hid (HB9.out.trans (hb98.mono HB9.out.size))
                  have hNl := (check_fit HKC.out.chk).2.2.2.2.1
                  have HA1 := Lib.hid (show ∀ w', Below v8.heap.size v8 w' → Calls Tryz.prog 26 #[.agg #[.int .i64 N.next, .int .i64 N.log, .slice na N.fs.length nc], .agg #[.int .i64 s2.next, .int .i64 s2.log, .slice ma s2.fs.length mc]] w' (fun e w'' => e = .returned (.bool (stEq N s2)) ∧ Below w'.heap.size w' w'') from fun w' X => alike_any _ _ w' N s2 _ _ (HRN.out.below X) (HRM.out.below X) (by omega) (by have := HS2.out; omega))
                  have HA2 := Lib.hid (show ∀ w', Below v8.heap.size v8 w' → Calls Tryz.prog 26 #[.agg #[.int .i64 N.next, .int .i64 N.log, .slice na N.fs.length nc], .agg #[.int .i64 S.next, .int .i64 S.log, .slice sa S.fs.length sc]] w' (fun e w'' => e = .returned (.bool (stEq N S)) ∧ Below w'.heap.size w' w'') from fun w' X => alike_any _ _ w' N S _ _ (HRN.out.below X) (HRS.out.below X) (by omega) (by have := HOK.out; omega))
                  clear hr7 hb7 hb8 hb98 hall hn8 hm8 hw8 hv8
                  obtain ⟨⟨g0, g1, g2⟩, ⟨g3, g4, g5⟩, g6, g7, g8⟩ := HC9.out v8 (Below.refl _ _)
                  rw [HV8.out]
                  go_cut [202] from 165 to 201 (fun s202 wx => s202 = .bool false ∧ Hid (Below v8.heap.size v8 wx))
                  case first =>
                    rcases HKC.out.cas with ⟨rfl, c2, c3, rfl⟩ | ⟨rfl, rfl, rfl⟩ | ⟨rfl, rfl, hN⟩
                    · have i1 : (E == 0) = false := by simpa using c2
                      have i2 : (E == 7) = false := by simpa using c3
                      have i3 : (E != 0) = true := by simpa using c2
                      have i4 : (E != 7) = true := by simpa using c3
                      go_wp2_with fail
                      refine (HA2.out v8 (Below.refl _ _)).mono ?_
                      rw [stEq_self]
                      rintro e w11 ⟨rfl, hb11⟩
                      go_wp2_with fail
                      go_meet
                      exact ⟨rfl, hb11⟩
                    · go_wp2_with fail
                      refine (HA1.out v8 (Below.refl _ _)).mono ?_
                      rw [stEq_self]
                      rintro e w11 ⟨rfl, hb11⟩
                      go_wp2_with fail
                      go_meet
                      exact ⟨rfl, hb11⟩
                    · go_wp2_with fail
                      refine (HA1.out v8 (Below.refl _ _)).mono ?_
                      have hq : stEq N s2 = true ∨ stEq N S = true := by
                        rcases hN with rfl | rfl
                        · exact .inr (stEq_self _)
                        · exact .inl (stEq_self _)
                      rintro e w11 ⟨rfl, hb11⟩
                      generalize stEq N s2 = q1 at *
                      cases q1 with
                      | true =>
                        go_wp2_with fail
                        go_meet
                        exact ⟨rfl, hb11⟩
                      | false =>
                        have hq2 : stEq N S = true := by simpa using hq
                        clear g0 g1 g2 g3 g4 g5 g6 g7 g8
                        obtain ⟨⟨g0, g1, g2⟩, ⟨g3, g4, g5⟩, g6, g7, g8⟩ := HC9.out w11 hb11
                        go_wp2_with fail
                        refine (HA2.out w11 hb11).mono ?_
                        rw [hq2]
                        rintro e w12 ⟨rfl, hb12⟩
                        go_wp2_with fail
                        go_meet
                        exact ⟨rfl, hb11.trans (hb12.mono hb11.size)⟩
                  case rest =>
                    obtain ⟨rfl, HCD⟩ := hcut
                    have HMC := Lib.hid (HM8.out.quiet HCD.out)
                    have HBC := Lib.hid (HB8.out.trans (HCD.out.mono HB8.out.size))
                    obtain ⟨hag, _⟩ := HAG.out
                    have HAG2 := Lib.hid (KD.again hag.kpt hag.room hag.oth hag.non HKC.out.chk [])
                    clear hag
                    go_wp2_with fail
                    refine (crash_none wc wc b m _ ⟨HMC.out.dat, HMC.out.ok, But.refl _ _⟩).mono ?_
                    rintro e y1 ⟨rfl, hy1⟩
                    have HY1 := Lib.hid hy1
                    clear hy1
                    go_wp2_with fail
                    refine (HY1.out.start (d' := startD (crD [] (startD (crD ks d6)))) rfl).mono ?_
                    rintro e y2 ⟨rfl, hy2⟩
                    have HY2 := Lib.hid hy2
                    clear hy2
                    go_wp2_with fail
                    refine (open_kpt y2 b m _ HY2.out.dat HY2.out.ok HAG2.out.1.up N HAG2.out.1.kpt).mono ?_
                    rintro e y3 ⟨rfl, hm3, hb3⟩
                    have HM3 := Lib.hid hm3
                    have HBY := Lib.hid hb3
                    clear hm3 hb3
                    go_wp2_with fail
                    refine (read_any y3 b m _ otB HM3.out.dat (by decide)).mono ?_
                    rw [show readE (startD (crD [] (startD (crD ks d6)))) otB.data.toList = 0 by simp [readE, HAG2.out.1.up, HAG2.out.1.oth], show readS (startD (crD [] (startD (crD ks d6)))) otB.data.toList = ⟨#[]⟩ by simp [readS, HAG2.out.1.up, HAG2.out.1.oth]]
                    rintro e y4 ⟨rfl, hb4⟩
                    have HM4' := Lib.hid (HM3.out.quiet hb4)
                    have HBc4 := Lib.hid (show But [b, m] wc y4 from (HY2.out.but.trans (.of_below HBY.out)).trans (.of_below hb4))
                    have hy24 : y2.heap.size ≤ y4.heap.size := Nat.le_trans HBY.out.size hb4.size
                    have hcy : wc.heap.size ≤ y2.heap.size := HY2.out.but.size
                    have hv7 : v7.heap.size < v8.heap.size := by rw [← HV8.out]; simp
                    have hvc : v8.heap.size ≤ wc.heap.size := HCD.out.size
                    have hlbb : (b < v7.heap.size ∧ m < v7.heap.size) ∧ b < w10.heap.size ∧ m < w10.heap.size := by
                      have h1 : b < w10.heap.size := World.block_lt_of_cell? w10 _ HM10.out.dat.c0
                      have h2 : m < w10.heap.size := HM10.out.dat.map.lt
                      have h3 := HB7.out.size
                      exact ⟨⟨by omega, by omega⟩, h1, h2⟩
                    have HNW := Lib.hid (show ∀ w', But [b, m, y2.heap.size] y4 w' → (w'.cell? ⟨v7.heap.size, 0, none⟩ = some (.int .i64 N.next) ∧ w'.cell? ⟨v7.heap.size, 1, none⟩ = some (.int .i64 N.log) ∧ w'.cell? ⟨v7.heap.size, 2, none⟩ = some (.slice na N.fs.length nc)) ∧ FRow (fun _ => True) w' (.slice na N.fs.length nc) N.fs from fun w' X => by
                      have hc8 := HC9.out wc HCD.out
                      have hx := (HBc4.out.wider (l' := [b, m, y2.heap.size]) (by simp)).trans X
                      have hcell : ∀ o u, wc.cell? ⟨v7.heap.size, o, none⟩ = some u → w'.cell? ⟨v7.heap.size, o, none⟩ = some u := fun o u h => (hx.cell (by omega) (by simp; omega)).trans h
                      exact ⟨⟨hcell _ _ hc8.1.1, hcell _ _ hc8.1.2.1, hcell _ _ hc8.1.2.2⟩, (HRN2.out.below HCD.out).but hx (fun kk hk hlt => by simp; omega) (fun _ _ _ => trivial)⟩)
                    have HST := Lib.hid (show ∀ w' dd, Mn w' y2.heap.size b m dd N false → Calls Tryz.prog 17 #[.pointer (some ⟨y2.heap.size, 0, none⟩)] w' (fun e w'' => ∃ a c, e = .returned (.agg #[.int .i64 N.next, .int .i64 N.log, .slice a N.fs.length c]) ∧ FRow (w'.heap.size ≤ ·) w'' (.slice a N.fs.length c) N.fs ∧ Below w'.heap.size w' w'') from fun w' dd hm => by
                      refine (state_any w' _ _ _ _ _ _ hm (by omega)).mono ?_
                      rintro e w'' ⟨v, rfl, hown, hb⟩
                      obtain ⟨a, c, rfl⟩ := own_slice hown
                      exact ⟨a, c, rfl, FRow.own hown hNok, hb⟩)
                    have HAL' := Lib.hid (show ∀ w' (SS : Nat → Prop) a c, But [b, m, y2.heap.size] y4 w' → FRow SS w' (.slice a N.fs.length c) N.fs → Calls Tryz.prog 26 #[.agg #[.int .i64 N.next, .int .i64 N.log, .slice a N.fs.length c], .agg #[.int .i64 N.next, .int .i64 N.log, .slice na N.fs.length nc]] w' (fun e w'' => e = .returned (.bool true) ∧ Below w'.heap.size w' w'') from fun w' SS a c X hr => by
                      have := alike_any _ _ w' N N _ _ hr (HNW.out w' X).2 (by omega) (by omega)
                      rw [stEq_self] at this
                      exact this)
                    have HCM := Lib.hid (show ∀ w', Mn w' y2.heap.size b m (startD (crD [] (startD (crD ks d6)))) N false → Calls Tryz.prog 16 #[.pointer (some ⟨y2.heap.size, 0, none⟩), .agg #[.slice none 0 0, .slice none 0 0, .int .i64 0, .int .i64 0]] w' (fun e w'' => e = .returned (.int .i64 0) ∧ (∃ dd, Mn w'' y2.heap.size b m dd N false) ∧ But [b, m, y2.heap.size] w' w'') from fun w' hm => by
                      refine (commit_any (fun _ => True) (fun _ => True) w' y2.heap.size b m _ N hm HAG2.out.1.up _ _ edZ (IRow.nil _ _) (FRow.nil _ _) (by omega) (by simp [edZ])).mono ?_
                      rintro e w'' ⟨rfl, h1, h2⟩
                      have hz := apply_zero HKC.out.chk
                      rcases HAG2.out.1.commit hm.ok edZ with ⟨hw, _⟩ | ⟨_, d', hc, _⟩ | ⟨_, hf, _⟩
                      · rw [hz] at hw; exact absurd rfl hw
                      · rw [hc, hz] at h1
                        exact ⟨by rw [hc], ⟨d', h1⟩, h2⟩
                      · exact absurd HAG2.out.2 hf)
                    have HG0 := Lib.hid (show But [b, m, y2.heap.size] y4 y4.drew from (But.refl _ _).drew)
                    have HMD := Lib.hid (HM4'.out.quiet ((Below.refl _ _).drew))
                    go_upto_region 40 with (fail)
                    first | (go_region_held3 (fun w' => w'.cell? ⟨v7.heap.size, 0, none⟩ = some (.int .i64 N.next) ∧ w'.cell? ⟨v7.heap.size, 1, none⟩ = some (.int .i64 N.log) ∧ w'.cell? ⟨v7.heap.size, 2, none⟩ = some (.slice na N.fs.length nc))
                      (first | exact (HNW.out _ HG0.out).1 | exact (HNW.out _ XA).1 | exact (HNW.out _ XB).1 | exact (HNW.out _ XC).1 | exact (HNW.out _ XD).1 | exact (HNW.out _ XE).1 | assumption)
                      (first
                        | (go_at_call 17; ((with_reducible refine (HST.out _ _ HMD.out).mono ?_); rintro e wA ⟨ga, gc, rfl, hrA, hbA⟩; have XA := HG0.out.trans (But.of_below hbA); have MA := HMD.out.quiet hbA))
                        | (go_at_call 26; ((with_reducible refine (HAL'.out _ _ _ _ XA hrA).mono ?_); rintro e wB ⟨rfl, hbB⟩; have XB := XA.trans (But.of_below hbB); have MB := MA.quiet hbB))
                        | (go_at_call 16; ((with_reducible refine (HCM.out _ MB).mono ?_); rintro e wC ⟨rfl, ⟨dC, MC⟩, hbC⟩; have XC := XB.trans hbC))
                        | (go_at_call 17; ((with_reducible refine (HST.out _ _ MC).mono ?_); rintro e wD ⟨gd, gc2, rfl, hrD, hbD⟩; have XD := XC.trans (But.of_below hbD)))
                        | (go_at_call 26; ((with_reducible refine (HAL'.out _ _ _ _ XD hrD).mono ?_); rintro e wE ⟨rfl, hbE⟩; have XE := XD.trans (But.of_below hbE))))) | fail
                    all_goals
                      have HFIN := Lib.hid XE
                      go_wp2_with fail
                      go_ret
                      have q1 := HBC.out.size
                      have q2 := HB1.out.size
                      exact ⟨rfl, (HB1.out.trans (HBC.out.mono q2)).trans ((HBc4.out.below (by omega) (by simp; omega)).trans (HFIN.out.below (by omega) (by simp; omega)))⟩
end Go.Proofs.YtiiafpbonkcokaaGreat
