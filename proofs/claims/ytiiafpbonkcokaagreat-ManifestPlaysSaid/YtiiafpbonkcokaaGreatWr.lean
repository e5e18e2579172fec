/-
  ManifestPlays: the law's world: 'commit'.
-/
import Derived.Test.YtiiafpbonkcokaaGreatWo
import Derived.Test.YtiiafpbonkcokaaGreatQe
import Derived.Deep.DeepCutAuto
namespace Go.Proofs.YtiiafpbonkcokaaGreat
open Go.RowKit Go.Maps

theorem wcOne {w : World} {X b : Nat} {pm : Value} {S T : St} {vs vt : Value} {bd : Bool} {ty : TypeId} (h : w.heap[X]? = some (.cells (wcells b pm S T vs vt bd) ty (0, 0))) : w.cell? ⟨X, 1, none⟩ = some pm := (wc h).2.1
theorem wcAll {w : World} {X b : Nat} {pm : Value} {S T : St} {vs vt : Value} {bd : Bool} {ty : TypeId} (h : w.heap[X]? = some (.cells (wcells b pm S T vs vt bd) ty (0, 0))) :
    w.cell? ⟨X, 0, none⟩ = some (.pointer (some ⟨b, 0, none⟩)) ∧ w.cell? ⟨X, 1, none⟩ = some pm ∧ (w.cell? ⟨X, 2, none⟩ = some (.int .i64 S.next) ∧ w.cell? ⟨X, 3, none⟩ = some (.int .i64 S.log) ∧ w.cell? ⟨X, 4, none⟩ = some vs) ∧ (w.cell? ⟨X, 5, none⟩ = some (.int .i64 T.next) ∧ w.cell? ⟨X, 6, none⟩ = some (.int .i64 T.log) ∧ w.cell? ⟨X, 7, none⟩ = some vt) ∧ w.cell? ⟨X, 8, none⟩ = some (.bool bd) ∧ (∀ o, w.frozen? ⟨X, o, none⟩ = false) ∧ X < w.heap.size := wc h
theorem names_most : ∀ (F : Fs) (l : List Nm), F.Pairwise (fun x y => bytesBefore x.1 y.1 = true) → (∀ x ∈ F, x.1 ∈ l) → F.length ≤ l.length
  | [], _, _, _ => by simp
  | x :: F, l, hp, hm => by
    have hx := hm x (List.mem_cons_self ..)
    rw [List.pairwise_cons] at hp
    have ih := names_most F (l.erase x.1) hp.2 (fun y hy => (List.mem_erase_of_ne (before_ne (hp.1 y hy)).symm).2 (hm y (List.mem_cons_of_mem _ hy)))
    rw [List.length_erase_of_mem hx] at ih
    have := List.length_pos_of_mem hx
    simp
    omega
/-- the disk of ManifestPlays -/
structure PD (d : Dk) (S : St) (bd : Bool) : Prop where
  up : d.down = false
  kpt : Kpt d.fs S
  non : ∀ j, j ≠ fr → j ≠ kp → fget d.fs j = none
  chk : checkB S = true
  rm : 0 ≤ d.room → bd = true
theorem PD.len {d : Dk} {S : St} {bd : Bool} (h : PD d S bd) (ok : Fit d) : d.fs.length < 256 := by
  have := names_most d.fs [fr, kp] ok.up (fun x hx => by
    have hg : fget d.fs x.1 = some x.2 := (fget_mem ok.up).2 hx
    by_cases h1 : x.1 = fr
    · rw [h1]; simp
    · by_cases h2 : x.1 = kp
      · rw [h2]; simp
      · rw [h.non _ h1 h2] at hg; cases hg)
  simp at this
  omega
theorem st_small {S : St} (h : checkB S = true) : S.fs.length ≤ 200 ∧ ∀ f ∈ S.fs, FiOk f := by
  obtain ⟨_, _, _, _, hl, hf⟩ := check_fit h
  exact ⟨hl, fun f hm => by have h := hf f hm; exact ⟨by have := h.n0; omega, by have := h.n1; omega, by have := h.s1; omega, by have := h.s2; omega⟩⟩
/-- behind the power's going -/
theorem PD.again {d : Dk} {N : St} {bd : Bool} (hk : Kpt d.fs N) (hr : 0 ≤ d.room → bd = true) (hn : ∀ j, j ≠ fr → j ≠ kp → fget d.fs j = none) (hc : checkB N = true) (ks : List Int) : PD (startD (crD ks d)) N bd := by
  have e : startD (crD ks d) = { d with fs := crashF [] (crashF ks d.fs), down := false, fuse := 0 } := rfl
  rw [e]
  exact ⟨rfl, (hk.crash ks).crash [], fun j h1 h2 => (fget_crash [] _ j).1 ((fget_crash ks _ j).1 (hn j h1 h2)), hc, hr⟩
/-- the document's answer, laid into a variable -/
structure CoR (W0 wx : World) (q : Nat) (s2 : St) (v3 : Value) : Prop where
  below : Below W0.heap.size W0 wx
  blk : wx.heap[q]? = some (.cells #[.int .i64 s2.next, .int .i64 s2.log, v3] 38 (0, 0))
  row : FRow (W0.heap.size ≤ ·) wx v3 s2.fs
  lo : W0.heap.size ≤ q
theorem cor_cells {wx : World} {q : Nat} {s2 : St} {v3 : Value} (h : wx.heap[q]? = some (.cells #[.int .i64 s2.next, .int .i64 s2.log, v3] 38 (0, 0))) : wx.cell? ⟨q, 0, none⟩ = some (.int .i64 s2.next) ∧ wx.cell? ⟨q, 1, none⟩ = some (.int .i64 s2.log) ∧ wx.cell? ⟨q, 2, none⟩ = some v3 ∧ q < wx.heap.size :=
  ⟨by simp [World.cell?, h], by simp [World.cell?, h], by simp [World.cell?, h], heap_lt h⟩
theorem stzR {w : World} {q : Nat} {a b c : Value} (h : w.heap[q]? = some (.cells #[a, b, c] 38 (0, 0))) : w.cell? ⟨q, 0, none⟩ = some a ∧ w.cell? ⟨q, 1, none⟩ = some b ∧ w.cell? ⟨q, 2, none⟩ = some c ∧ ∀ o, w.frozen? ⟨q, o, none⟩ = false :=
  ⟨by simp [World.cell?, h], by simp [World.cell?, h], by simp [World.cell?, h], fun o => by simp [World.frozen?, h]⟩
theorem cor_set {S : Nat → Prop} {W0 wB : World} {q : Nat} {s2 : St} {v : Value} {a b c : Value} (YB : Below W0.heap.size W0 wB) (y3 : wB.heap[q]? = some (.cells #[a, b, c] 38 (0, 0))) (hr : FRow S wB v s2.fs) (hq : ∀ k, S k → k < wB.heap.size → k ≠ q ∧ W0.heap.size ≤ k) (hlo : W0.heap.size ≤ q) :
    CoR W0 (((wB.setCell ⟨q, 0, none⟩ (.int .i64 s2.next)).setCell ⟨q, 1, none⟩ (.int .i64 s2.log)).setCell ⟨q, 2, none⟩ v) q s2 v :=
  ⟨((YB.setCell hlo _).setCell hlo _).setCell hlo _, heap_setCell_same _ q 2 _ _ _ (heap_setCell_same _ q 1 _ _ _ (heap_setCell_same _ q 0 _ _ _ y3)),
   hr.keep (fun k hk hlt => by have hne := (hq k hk hlt).1; rw [Below.heap_setCell _ _ _ _ hne, Below.heap_setCell _ _ _ _ hne, Below.heap_setCell _ _ _ _ hne]) (by simp) (fun k hk hlt => (hq k hk hlt).2), hlo⟩
theorem com_cases {d : Dk} {S : St} {bd : Bool} (hp : PD d S bd) (ok : Fit d) (ed : Ed) {why : Int} {s2 : St} (hap : applyS S ed = (why, s2)) :
    (why ≠ 0 ∧ commitS d S false ed = ⟨why, d, S, false⟩) ∨
    (why = 0 ∧ ∃ d', commitS d S false ed = ⟨0, d', s2, false⟩ ∧ PD d' s2 bd) ∨
    (why = 0 ∧ ∃ d', commitS d S false ed = ⟨7, d', S, true⟩ ∧ d'.down = true ∧ (0 ≤ d'.room → bd = true) ∧ (∀ j, j ≠ fr → j ≠ kp → fget d'.fs j = none) ∧ ∃ N, (N = S ∨ N = s2) ∧ Kpt d'.fs N ∧ checkB N = true) ∨
    (why = 0 ∧ bd = true ∧ ∃ d', commitS d S false ed = ⟨6, d', S, false⟩ ∧ PD d' S bd) := by
  obtain ⟨hc, hroom, hfit, hoth, -⟩ := commit_law ed ok hp.up (hp.len ok) hp.kpt
  have hck := apply_check (s := S) (ed := ed)
  rw [hap] at hck
  generalize commitS d S false ed = c at *
  have hn : ∀ j, j ≠ fr → j ≠ kp → fget c.d.fs j = none := fun j h1 h2 => (hoth j h1 h2).trans (hp.non j h1 h2)
  cases hc with
  | no hw => rw [hap] at hw ⊢; exact .inl ⟨hw, rfl⟩
  | yes hw h1 h2 =>
    rw [hap] at hw h2 ⊢
    exact .inr (.inl ⟨hw, _, rfl, h1, h2, hn, hck hw, fun h => hp.rm (by rw [← hroom]; exact h)⟩)
  | down hw h1 h2 h3 =>
    rw [hap] at hw h3
    refine .inr (.inr (.inl ⟨hw, _, rfl, h1, fun h => hp.rm (by rw [← hroom]; exact h), hn, ?_⟩))
    rcases h3 with h3 | h3
    · exact ⟨S, .inl rfl, h3, hp.chk⟩
    · exact ⟨s2, .inr rfl, h3, hck hw⟩
  | full hw h1 h2 h3 =>
    rw [hap] at hw
    exact .inr (.inr (.inr ⟨hw, hp.rm h2, _, rfl, h1, h3, hn, hp.chk, fun h => hp.rm (by rw [← hroom]; exact h)⟩))
theorem pnt {x : Nat} : ∀ s, Value.pointer (some ⟨x, 0, none⟩) ≠ .string s := fun _ e => by cases e
theorem wd_set6 {w : World} {X x b m : Nat} {d : Dk} {S T s2 : St} {a1 a2 a : Option Addr} {n1 c1 n2 c2 c : Nat} {bd : Bool} (hX : w.heap[X]? = some (.cells (wcells b (.pointer (some ⟨x, 0, none⟩)) S T (.slice a1 n1 c1) (.slice a2 n2 c2) bd) 74 (0, 0))) (hm : Mn w x b m d s2 false) (hxb : X ≠ b) (hxm : X ≠ m) (hxx : X ≠ x)
    (hr : FRow (fun k => k ≠ b ∧ k ≠ m ∧ k ≠ x ∧ k ≠ X) w (.slice a s2.fs.length c) s2.fs) :
    Wd ((((((w.setCell ⟨X, 2, none⟩ (.int .i64 s2.next)).setCell ⟨X, 3, none⟩ (.int .i64 s2.log)).setCell ⟨X, 4, none⟩ (.slice a s2.fs.length c)).setCell ⟨X, 5, none⟩ (.int .i64 s2.next)).setCell ⟨X, 6, none⟩ (.int .i64 s2.log)).setCell ⟨X, 7, none⟩ (.slice a s2.fs.length c)) X x b m d s2 s2 s2 false bd ∧
    But [X] w ((((((w.setCell ⟨X, 2, none⟩ (.int .i64 s2.next)).setCell ⟨X, 3, none⟩ (.int .i64 s2.log)).setCell ⟨X, 4, none⟩ (.slice a s2.fs.length c)).setCell ⟨X, 5, none⟩ (.int .i64 s2.next)).setCell ⟨X, 6, none⟩ (.int .i64 s2.log)).setCell ⟨X, 7, none⟩ (.slice a s2.fs.length c)) := by
  have hb : But [X] w ((((((w.setCell ⟨X, 2, none⟩ (.int .i64 s2.next)).setCell ⟨X, 3, none⟩ (.int .i64 s2.log)).setCell ⟨X, 4, none⟩ (.slice a s2.fs.length c)).setCell ⟨X, 5, none⟩ (.int .i64 s2.next)).setCell ⟨X, 6, none⟩ (.int .i64 s2.log)).setCell ⟨X, 7, none⟩ (.slice a s2.fs.length c)) :=
    ((((((But.refl _ _).setCell (.inl (by simp)) _).setCell (.inl (by simp)) _).setCell (.inl (by simp)) _).setCell (.inl (by simp)) _).setCell (.inl (by simp)) _).setCell (.inl (by simp)) _
  have hr' := hr.but (S' := fun k => k ≠ b ∧ k ≠ m ∧ k ≠ x ∧ k ≠ X) hb (fun k hk _ => by simp; exact hk.2.2.2) (fun k hk _ => hk)
  exact ⟨⟨hm.but (wnt hX pnt (fun s e => by cases e) (fun s e => by cases e)) hb hxb hxm hxx, hxb, hxm, hxx, _, _, heap_setCell_same _ X 7 _ _ _ (heap_setCell_same _ X 6 _ _ _ (heap_setCell_same _ X 5 _ _ _ (heap_setCell_same _ X 4 _ _ _ (heap_setCell_same _ X 3 _ _ _ (heap_setCell_same _ X 2 _ _ _ hX))))), hr', hr'⟩, hb⟩
theorem wd_set3 {w : World} {X x b m : Nat} {d : Dk} {M S T s2 : St} {a1 a2 a : Option Addr} {c1 n2 c2 c : Nat} {dead bd : Bool} (hX : w.heap[X]? = some (.cells (wcells b (.pointer (some ⟨x, 0, none⟩)) S T (.slice a1 S.fs.length c1) (.slice a2 n2 c2) bd) 74 (0, 0))) (hm : Mn w x b m d M dead) (hxb : X ≠ b) (hxm : X ≠ m) (hxx : X ≠ x)
    (hs : FRow (fun k => k ≠ b ∧ k ≠ m ∧ k ≠ x ∧ k ≠ X) w (.slice a1 S.fs.length c1) S.fs) (hr : FRow (fun k => k ≠ b ∧ k ≠ m ∧ k ≠ x ∧ k ≠ X) w (.slice a s2.fs.length c) s2.fs) :
    Wd (((w.setCell ⟨X, 5, none⟩ (.int .i64 s2.next)).setCell ⟨X, 6, none⟩ (.int .i64 s2.log)).setCell ⟨X, 7, none⟩ (.slice a s2.fs.length c)) X x b m d M S s2 dead bd ∧
    But [X] w (((w.setCell ⟨X, 5, none⟩ (.int .i64 s2.next)).setCell ⟨X, 6, none⟩ (.int .i64 s2.log)).setCell ⟨X, 7, none⟩ (.slice a s2.fs.length c)) := by
  have hb : But [X] w (((w.setCell ⟨X, 5, none⟩ (.int .i64 s2.next)).setCell ⟨X, 6, none⟩ (.int .i64 s2.log)).setCell ⟨X, 7, none⟩ (.slice a s2.fs.length c)) :=
    (((But.refl _ _).setCell (.inl (by simp)) _).setCell (.inl (by simp)) _).setCell (.inl (by simp)) _
  exact ⟨⟨hm.but (wnt hX pnt (fun s e => by cases e) (fun s e => by cases e)) hb hxb hxm hxx, hxb, hxm, hxx, _, _, heap_setCell_same _ X 7 _ _ _ (heap_setCell_same _ X 6 _ _ _ (heap_setCell_same _ X 5 _ _ _ hX)),
    hs.but hb (fun k hk _ => by simp; exact hk.2.2.2) (fun k hk _ => hk), hr.but hb (fun k hk _ => by simp; exact hk.2.2.2) (fun k hk _ => hk)⟩, hb⟩
theorem wd_dead {w w' : World} {X x b m : Nat} {d : Dk} {S T : St} {bd : Bool} {e : Ending} (h : Wd w X x b m d S S T true bd) (hx : e = .returned (.int .i64 7) ∧ Mn w' x b m d S true ∧ But [b, m, x] w w') : e = .returned (.int .i64 7) ∧ Wd w' X x b m d S S T true bd ∧ But [b, m, x, X] w w' := by
  obtain ⟨he, hm, hb⟩ := hx
  obtain ⟨vs, vt, h1, h2, h3⟩ := h.blk
  exact ⟨he, ⟨hm, h.xb, h.xm, h.xx, vs, vt, (hb.block X (heap_lt h1) (by simp; exact ⟨h.xb, h.xm, h.xx⟩)).trans h1, h2.but hb (fun k hk _ => by simp; exact ⟨hk.1, hk.2.1, hk.2.2.1⟩) (fun k hk _ => hk), h3.but hb (fun k hk _ => by simp; exact ⟨hk.1, hk.2.1, hk.2.2.1⟩) (fun k hk _ => hk)⟩, hb.wider (by simp)⟩
/-- the act's cells -/
def acells (dn n : Int) (vd va : Value) (ed : Ed) (kv : Value) : Array Value := #[.int .i64 dn, vd, va, .int .i64 ed.next, .int .i64 ed.log, .int .i64 n, kv]
theorem ac {w : World} {A : Nat} {dn n : Int} {vd va kv : Value} {ed : Ed} {ty : TypeId} (h : w.heap[A]? = some (.cells (acells dn n vd va ed kv) ty (0, 0))) :
    w.cell? ⟨A, 0, none⟩ = some (.int .i64 dn) ∧ (w.cell? ⟨A, 1, none⟩ = some vd ∧ w.cell? ⟨A, 2, none⟩ = some va ∧ w.cell? ⟨A, 3, none⟩ = some (.int .i64 ed.next) ∧ w.cell? ⟨A, 4, none⟩ = some (.int .i64 ed.log)) ∧ w.cell? ⟨A, 5, none⟩ = some (.int .i64 n) ∧ w.cell? ⟨A, 6, none⟩ = some kv ∧ A < w.heap.size := by
  refine ⟨?_, ⟨?_, ?_, ?_, ?_⟩, ?_, ?_, heap_lt h⟩
  all_goals simp [World.cell?, h, acells]
/-- what a Commit of the law's world leaves -/
def WcR (w : World) (X x b m : Nat) (bd : Bool) (e : Ending) (w' : World) : Prop := e = .returned (.bool true) ∧ ∃ x' d' S', Wd w' X x' b m d' S' S' S' false bd ∧ PD d' S' bd ∧ (x' = x ∨ w.heap.size ≤ x') ∧ But [b, m, x, X] w w'

set_option maxRecDepth 100000 in
set_option maxHeartbeats 16000000 in
theorem wcommit_any (w : World) (X x b m : Nat) (d : Dk) (S : St) (bd : Bool) (h : Wd w X x b m d S S S false bd) (hp : PD d S bd) (dn n : Int) (vd va : Value) (ed : Ed) (he : EdAt w vd va ed) (b2 : ed.drop.length ≤ 300) (b3 : ed.add.length ≤ 300)
    (ka : Option Addr) (kn kc : Nat) (ks : List Int) (hkl : ks.length = kn) (hkn : kn ≤ 1000) (hks : 0 < kn → ∃ kb ko, ka = some ⟨kb, ko, none⟩ ∧ (kb ≠ b ∧ kb ≠ m ∧ kb ≠ x ∧ kb ≠ X) ∧ ∀ i, i < kn → w.cell? ⟨kb, ko + i, none⟩ = some (.int .i64 (ks.getD i 0))) :
    Calls Tryz.prog 32 #[.pointer (some ⟨X, 0, none⟩), .agg #[.int .i64 dn, vd, va, .int .i64 ed.next, .int .i64 ed.log, .int .i64 n, .slice ka kn kc]] w (WcR w X x b m bd) := by
  obtain ⟨a1, c1, a2, c2, rfl, rfl⟩ : ∃ a1 c1 a2 c2, vd = .slice a1 ed.drop.length c1 ∧ va = .slice a2 ed.add.length c2 := by
    obtain ⟨a1, c1, e1, _⟩ := he.drop.ex
    obtain ⟨a2, c2, e2, _⟩ := he.add.ex
    exact ⟨a1, c1, a2, c2, e1, e2⟩
  obtain ⟨vs, vt, hblk, hrs, hrt⟩ := h.blk
  obtain ⟨sa, sc, rfl⟩ : ∃ a c, vs = .slice a S.fs.length c := by obtain ⟨⟨a, c, e, _⟩, _⟩ := hrs; exact ⟨a, c, e⟩
  obtain ⟨ta, tc, rfl⟩ : ∃ a c, vt = .slice a S.fs.length c := by obtain ⟨⟨a, c, e, _⟩, _⟩ := hrt; exact ⟨a, c, e⟩
  have HD := Lib.hid h
  have HP := Lib.hid hp
  have HE := Lib.hid he
  have HKS := Lib.hid hks
  have HKL := Lib.hid hkl
  have HSM := Lib.hid (st_small hp.chk)
  have hXl := heap_lt hblk
  have hxb := h.xb
  have hxm := h.xm
  have hxx := h.xx
  have hltx := h.mn.lt
  have hltb : b < w.heap.size := h.mn.dat.lt
  have hltm : m < w.heap.size := h.mn.dat.map.lt
  obtain ⟨W1, hW1⟩ : ∃ W1, w.alloc (.cells #[.int .i64 dn, .slice a1 ed.drop.length c1, .slice a2 ed.add.length c2, .int .i64 ed.next, .int .i64 ed.log, .int .i64 n, .slice ka kn kc] 71) = W1 := ⟨_, rfl⟩
  have hb1 : Below w.heap.size w W1 := by rw [← hW1]; exact bl1 _ _
  have hab : W1.heap[w.heap.size]? = some (.cells (acells dn n (.slice a1 ed.drop.length c1) (.slice a2 ed.add.length c2) ed (.slice ka kn kc)) 71 (0, 0)) := by rw [← hW1]; exact heap_alloc_new _ _
  have hz1 : w.heap.size < W1.heap.size := heap_lt hab
  have hxb1 : W1.heap[X]? = some (.cells (wcells b (.pointer (some ⟨x, 0, none⟩)) S S (.slice sa S.fs.length sc) (.slice ta S.fs.length tc) bd) 74 (0, 0)) := (hb1.block X hXl).trans hblk
  have HB1 := Lib.hid hb1
  have HAB := Lib.hid hab
  have HXB := Lib.hid hxb1
  have HRS := Lib.hid (hrs.below hb1)
  have HRT := Lib.hid (hrt.below hb1)
  have HD1 := Lib.hid (h.quiet hb1)
  have HCS := Lib.hid (show ∀ w', Below W1.heap.size W1 w' → ((w'.cell? ⟨X, 2, none⟩ = some (.int .i64 S.next) ∧ w'.cell? ⟨X, 3, none⟩ = some (.int .i64 S.log) ∧ w'.cell? ⟨X, 4, none⟩ = some (.slice sa S.fs.length sc)) ∧ (w'.cell? ⟨w.heap.size, 1, none⟩ = some (.slice a1 ed.drop.length c1) ∧ w'.cell? ⟨w.heap.size, 2, none⟩ = some (.slice a2 ed.add.length c2) ∧ w'.cell? ⟨w.heap.size, 3, none⟩ = some (.int .i64 ed.next) ∧ w'.cell? ⟨w.heap.size, 4, none⟩ = some (.int .i64 ed.log))) from fun w' Y =>
    ⟨(wc ((Y.block X (heap_lt hxb1)).trans hxb1)).2.2.1, (ac ((Y.block _ hz1).trans hab)).2.1⟩)
  have HED := Lib.hid (show ∀ w', Below W1.heap.size W1 w' → Calls Tryz.prog 22 #[.agg #[.slice a1 ed.drop.length c1, .slice a2 ed.add.length c2, .int .i64 ed.next, .int .i64 ed.log]] w' (fun e w'' => ∃ ua uc, e = .returned (.agg #[.slice a1 ed.drop.length c1, .slice ua ed.add.length uc, .int .i64 ed.next, .int .i64 ed.log]) ∧ FRow (w'.heap.size ≤ ·) w'' (.slice ua ed.add.length uc) ed.add ∧ Below w'.heap.size w' w'') from fun w' Y => by
    have he' := (HE.out.below HB1.out).below Y
    refine (ledit_any _ _ w' ed _ _ he'.add he'.drop (by omega)).mono ?_
    rintro e w'' ⟨u, rfl, hown, hb⟩
    obtain ⟨ua, uc, rfl⟩ := own_slice hown
    exact ⟨ua, uc, rfl, FRow.own hown HE.out.add.ok, hb⟩)
  generalize hap : applyS S ed = ap
  have HAPE := Lib.hid hap
  clear hap
  obtain ⟨why, s2⟩ := ap
  have HAP := Lib.hid (show ∀ w' ua uc (SS : Nat → Prop), Below W1.heap.size W1 w' → FRow SS w' (.slice ua ed.add.length uc) ed.add → Calls Tryz.prog 20 #[.agg #[.int .i64 S.next, .int .i64 S.log, .slice sa S.fs.length sc], .agg #[.slice a1 ed.drop.length c1, .slice ua ed.add.length uc, .int .i64 ed.next, .int .i64 ed.log]] w' (fun e w'' => ∃ va' vc', e = .returned (.tuple #[.agg #[.int .i64 s2.next, .int .i64 s2.log, .slice va' s2.fs.length vc'], .int .i64 why]) ∧ FRow (w'.heap.size ≤ ·) w'' (.slice va' s2.fs.length vc') s2.fs ∧ Below w'.heap.size w' w'') from fun w' ua uc SS Y hr => by
    have := HSM.out
    refine (rapply_any _ _ _ w' S ed _ _ _ (HRS.out.below Y) ((HE.out.below HB1.out).below Y).drop hr (by omega) (by omega) (by omega)).mono ?_
    rw [HAPE.out]
    rintro e w'' ⟨v, rfl, hr2, hb2⟩
    obtain ⟨va', vc', rfl⟩ : ∃ a c, v = .slice a s2.fs.length c := by obtain ⟨⟨a, c, e, _⟩, _⟩ := hr2; exact ⟨a, c, e⟩
    exact ⟨va', vc', rfl, hr2, hb2⟩)
  have HX0 := Lib.hid (show Below W1.heap.size W1 W1.drew from (Below.refl _ _).drew)
  have HX1 := Lib.hid ((bl1 W1 (.cells #[.int .i64 0, .int .i64 0, .slice none 0 0] 38)).drew)
  have HZD := Lib.hid (show (W1.alloc (.cells #[.int .i64 0, .int .i64 0, .slice none 0 0] 38)).drew.heap[W1.heap.size]? = some (.cells #[.int .i64 0, .int .i64 0, .slice none 0 0] 38 (0, 0)) from heap_alloc_new _ _)
  have HW1 := Lib.hid hW1
  clear hW1 hb1 hab hxb1 hrs hrt hblk h hp he hks hkl
  go_enter Tryz.func32, Tryz.ntmps32
  go_upto_region 1 with (fail)
  rw [HW1.out]
  go_cut [5, 6] (fun s5 s6 wx => s6 = .int .i64 why ∧ ∃ q va' vc', s5 = .pointer (some ⟨q, 0, none⟩) ∧ Hid (CoR W1 wx q s2 (.slice va' s2.fs.length vc')))
  case first =>
    go_region_held3 (fun w' => ((w'.cell? ⟨X, 2, none⟩ = some (.int .i64 S.next) ∧ w'.cell? ⟨X, 3, none⟩ = some (.int .i64 S.log) ∧ w'.cell? ⟨X, 4, none⟩ = some (.slice sa S.fs.length sc)) ∧ (w'.cell? ⟨w.heap.size, 1, none⟩ = some (.slice a1 ed.drop.length c1) ∧ w'.cell? ⟨w.heap.size, 2, none⟩ = some (.slice a2 ed.add.length c2) ∧ w'.cell? ⟨w.heap.size, 3, none⟩ = some (.int .i64 ed.next) ∧ w'.cell? ⟨w.heap.size, 4, none⟩ = some (.int .i64 ed.log))))
      (first | with_reducible exact HCS.out _ HX0.out | with_reducible exact HCS.out _ HX1.out | with_reducible exact HCS.out _ YA | with_reducible exact HCS.out _ YB | with_reducible exact HCS.out _ (YA.alloc YA.size _) | with_reducible exact HCS.out _ (YB.alloc YB.size _) | with_reducible exact HCS.out _ (((YB.setCell (Nat.le_refl _) _).setCell (Nat.le_refl _) _).setCell (Nat.le_refl _) _) | with_reducible exact HCS.out _ (((YB.setCell YA.size _).setCell YA.size _).setCell YA.size _) | assumption)
      (first
        | (go_at_call 22; ((with_reducible refine (HED.out _ HX0.out).mono ?_); rintro e wA ⟨ua, uc, rfl, hrA, hbA⟩; have YA := HX0.out.trans (hbA.mono HX0.out.size)))
        | (go_at_call 22; ((with_reducible refine (HED.out _ HX1.out).mono ?_); rintro e wA ⟨ua, uc, rfl, hrA, hbA⟩; have YA := HX1.out.trans (hbA.mono HX1.out.size); have yz := (hbA.block _ (heap_lt HZD.out)).trans HZD.out))
        | (go_at_call 20; ((with_reducible refine (HAP.out _ _ _ _ YA hrA).mono ?_); rintro e wB ⟨va', vc', rfl, hrB, hbB⟩; have YB := YA.trans (hbB.mono YA.size); have y3 := (hbB.block _ (heap_lt yz)).trans yz; obtain ⟨q0, q1, q2, q3⟩ := stzR y3; have q4 := heap_lt y3))
        | (go_at_call 20; ((with_reducible refine (HAP.out _ _ _ _ YA hrA).mono ?_); rintro e wB ⟨va', vc', rfl, hrB, hbB⟩; have YB := YA.trans (hbB.mono YA.size)))
        | (go_at_call 20; ((with_reducible refine (HAP.out _ _ _ _ (YA.alloc YA.size _) (hrA.below (bl1 _ _))).mono ?_); rintro e wB ⟨va', vc', rfl, hrB, hbB⟩; have YB := (YA.alloc YA.size _).trans (hbB.mono (YA.alloc YA.size _).size); have y3 := (hbB.block wA.heap.size (heap_lt (heap_alloc_new wA _))).trans (heap_alloc_new wA _); obtain ⟨q0, q1, q2, q3⟩ := stzR y3; have q4 := heap_lt y3)))
    all_goals
      go_wp2_with fail
      go_meet
      first
        | exact ⟨rfl, _, _, _, rfl, ⟨YB.alloc YB.size _, heap_alloc_new _ _, (hrB.wider (fun k hk _ => Nat.le_trans YA.size hk)).below (bl1 _ _), YB.size⟩⟩
        | exact ⟨rfl, _, _, _, rfl, cor_set YB y3 hrB (fun k hk _ => by have := YA.size; simp at hk; omega) YA.size⟩
        | exact ⟨rfl, _, _, _, rfl, cor_set YB y3 hrB (fun k hk _ => by have := heap_lt yz; omega) (Nat.le_refl _)⟩
  case rest =>
    obtain ⟨rfl, q, va', vc', rfl, HCO⟩ := hcut
    have HDc := Lib.hid (HD1.out.quiet HCO.out.below)
    have hxc := (HCO.out.below.block X (heap_lt HXB.out)).trans HXB.out
    have hac := (HCO.out.below.block _ hz1).trans HAB.out
    have HXC := Lib.hid hxc
    have HAC := Lib.hid hac
    have hqlo := HCO.out.lo
    have hqlt := heap_lt HCO.out.blk
    have hwc := HCO.out.below.size
    have HC2 := Lib.hid (show ∀ w', But [b, m, x] wc w' → (w'.cell? ⟨X, 1, none⟩ = some (.pointer (some ⟨x, 0, none⟩)) ∧ (w'.cell? ⟨w.heap.size, 1, none⟩ = some (.slice a1 ed.drop.length c1) ∧ w'.cell? ⟨w.heap.size, 2, none⟩ = some (.slice a2 ed.add.length c2) ∧ w'.cell? ⟨w.heap.size, 3, none⟩ = some (.int .i64 ed.next) ∧ w'.cell? ⟨w.heap.size, 4, none⟩ = some (.int .i64 ed.log))) from fun w' Y =>
      ⟨(wcOne ((Y.block X (heap_lt hxc) (by simp; omega)).trans hxc)), (ac ((Y.block _ (heap_lt hac) (by simp; omega)).trans hac)).2.1⟩)
    have HXW := Lib.hid (show ∀ w', But [b, m, x] wc w' → w'.heap[X]? = some (.cells (wcells b (.pointer (some ⟨x, 0, none⟩)) S S (.slice sa S.fs.length sc) (.slice ta S.fs.length tc) bd) 74 (0, 0)) from fun w' Y => (Y.block X (heap_lt hxc) (by simp; omega)).trans hxc)
    have HQW := Lib.hid (show ∀ w', But [b, m, x] wc w' → w'.heap[q]? = some (.cells #[.int .i64 s2.next, .int .i64 s2.log, .slice va' s2.fs.length vc'] 38 (0, 0)) from fun w' Y => (Y.block q hqlt (by simp; omega)).trans HCO.out.blk)
    have HAW := Lib.hid (show ∀ w', But [b, m, x] wc w' → w'.heap[w.heap.size]? = some (.cells (acells dn n (.slice a1 ed.drop.length c1) (.slice a2 ed.add.length c2) ed (.slice ka kn kc)) 71 (0, 0)) from fun w' Y => (Y.block _ (heap_lt hac) (by simp; omega)).trans hac)
    have HRW := Lib.hid (show ∀ w', But [b, m, x] wc w' → FRow (fun k => k ≠ b ∧ k ≠ m ∧ k ≠ x ∧ k ≠ X) w' (.slice va' s2.fs.length vc') s2.fs from fun w' Y => HCO.out.row.but Y (fun k hk _ => by simp; omega) (fun k hk _ => by omega))
    have HSW := Lib.hid (show ∀ w', But [b, m, x] wc w' → FRow (fun k => k ≠ b ∧ k ≠ m ∧ k ≠ x ∧ k ≠ X) w' (.slice sa S.fs.length sc) S.fs from fun w' Y => (HRS.out.below HCO.out.below).but Y (fun k hk _ => by simp; exact ⟨hk.1, hk.2.1, hk.2.2.1⟩) (fun k hk _ => hk))
    have HTW := Lib.hid (show ∀ w', But [b, m, x] wc w' → FRow (fun k => k ≠ b ∧ k ≠ m ∧ k ≠ x ∧ k ≠ X) w' (.slice ta S.fs.length tc) S.fs from fun w' Y => (HRT.out.below HCO.out.below).but Y (fun k hk _ => by simp; exact ⟨hk.1, hk.2.1, hk.2.2.1⟩) (fun k hk _ => hk))
    have HBW := Lib.hid (show But [b, m, x, X] w wc from .of_below (HB1.out.trans (HCO.out.below.mono HB1.out.size)))
    have HZ0 := Lib.hid (show But [b, m, x] wc wc.drew from (But.refl _ _).drew)
    have HZB := Lib.hid (show Below wc.heap.size wc wc.drew from (Below.refl _ _).drew)
    have HCM0 := Lib.hid (show ∀ w', Below wc.heap.size wc w' → Calls Tryz.prog 16 #[.pointer (some ⟨x, 0, none⟩), .agg #[.slice a1 ed.drop.length c1, .slice a2 ed.add.length c2, .int .i64 ed.next, .int .i64 ed.log]] w' (CmR w' x b m (commitS d S false ed)) from fun w' Y => by
      have he' := ((HE.out.below HB1.out).below HCO.out.below).below Y
      have := HSM.out
      exact commit_any _ _ w' x b m d S (HDc.out.mn.quiet Y) HP.out.up _ _ ed he'.drop he'.add (by omega) (by omega))
    obtain ⟨c0, c1x, ⟨c2x, c3x, c4x⟩, ⟨c5, c6, c7⟩, c8, fz, xl⟩ := wcAll hxc
    obtain ⟨d0, ⟨d1, d2, d3, d4⟩, d5, d6, al⟩ := ac hac
    have HCC := Lib.hid (com_cases HP.out HDc.out.mn.ok ed HAPE.out)
    clear hxc hac
    rcases HCC.out with ⟨hw, hc⟩ | ⟨rfl, d', hc, hpd⟩ | ⟨rfl, d', hc, hdn, hrm, hnon, N, hN, hkN, hcN⟩ | ⟨rfl, rfl, d', hc, hpd⟩
    · have hb1 : (why == why) = true := by simp
      have hb2 : (why != 0) = true := by simpa using hw
      have HCM := Lib.hid (show ∀ w', Below wc.heap.size wc w' → Calls Tryz.prog 16 #[.pointer (some ⟨x, 0, none⟩), .agg #[.slice a1 ed.drop.length c1, .slice a2 ed.add.length c2, .int .i64 ed.next, .int .i64 ed.log]] w' (fun e w'' => e = .returned (.int .i64 why) ∧ Mn w'' x b m d S false ∧ But [b, m, x] w' w'') from fun w' Y => by
        have := HCM0.out w' Y
        rw [hc] at this
        exact this)
      clear hc
      go_upto_region 2 with (fail)
      go_region_held3 (fun w' => w'.cell? ⟨X, 1, none⟩ = some (.pointer (some ⟨x, 0, none⟩)) ∧ (w'.cell? ⟨w.heap.size, 1, none⟩ = some (.slice a1 ed.drop.length c1) ∧ w'.cell? ⟨w.heap.size, 2, none⟩ = some (.slice a2 ed.add.length c2) ∧ w'.cell? ⟨w.heap.size, 3, none⟩ = some (.int .i64 ed.next) ∧ w'.cell? ⟨w.heap.size, 4, none⟩ = some (.int .i64 ed.log)))
        (first | with_reducible exact HC2.out _ HZ0.out | with_reducible exact HC2.out _ ZC | assumption)
        (first
          | (go_at_call 16; ((with_reducible refine (HCM.out _ HZB.out).mono ?_); rintro e wC ⟨rfl, hmC, hbC⟩; have ZC := HZ0.out.trans hbC)))
      have HMC := Lib.hid hmC
      have HZC := Lib.hid ZC
      clear hmC hbC c0 c1x c2x c3x c4x c5 c6 c7 c8 fz xl d0 d1 d2 d3 d4 d5 d6 al
      obtain ⟨c0, c1x, ⟨c2x, c3x, c4x⟩, ⟨c5, c6, c7⟩, c8, fz, xl⟩ := wcAll (HXW.out wC HZC.out)
      obtain ⟨d0, ⟨d1, d2, d3, d4⟩, d5, d6, al⟩ := ac (HAW.out wC HZC.out)
      obtain ⟨q0, q1, q2, ql⟩ := cor_cells (HQW.out wC HZC.out)
      have HBC := Lib.hid (HBW.out.trans (HZC.out.wider (by simp)))
      clear ZC
      go_wp2_with fail
      go_ret
      exact ⟨rfl, x, d, S, ⟨HMC.out, hxb, hxm, hxx, _, _, HXW.out _ HZC.out, HSW.out _ HZC.out, HTW.out _ HZC.out⟩, HP.out, .inl rfl, HBC.out⟩
    · have HPD := Lib.hid hpd
      clear hpd
      have HCM := Lib.hid (show ∀ w', Below wc.heap.size wc w' → Calls Tryz.prog 16 #[.pointer (some ⟨x, 0, none⟩), .agg #[.slice a1 ed.drop.length c1, .slice a2 ed.add.length c2, .int .i64 ed.next, .int .i64 ed.log]] w' (fun e w'' => e = .returned (.int .i64 0) ∧ Mn w'' x b m d' s2 false ∧ But [b, m, x] w' w'') from fun w' Y => by
        have := HCM0.out w' Y
        rw [hc] at this
        exact this)
      clear hc
      go_upto_region 2 with (fail)
      go_region_held3 (fun w' => w'.cell? ⟨X, 1, none⟩ = some (.pointer (some ⟨x, 0, none⟩)) ∧ (w'.cell? ⟨w.heap.size, 1, none⟩ = some (.slice a1 ed.drop.length c1) ∧ w'.cell? ⟨w.heap.size, 2, none⟩ = some (.slice a2 ed.add.length c2) ∧ w'.cell? ⟨w.heap.size, 3, none⟩ = some (.int .i64 ed.next) ∧ w'.cell? ⟨w.heap.size, 4, none⟩ = some (.int .i64 ed.log)))
        (first | with_reducible exact HC2.out _ HZ0.out | with_reducible exact HC2.out _ ZC | assumption)
        (first
          | (go_at_call 16; ((with_reducible refine (HCM.out _ HZB.out).mono ?_); rintro e wC ⟨rfl, hmC, hbC⟩; have ZC := HZ0.out.trans hbC)))
      have HMC := Lib.hid hmC
      have HZC := Lib.hid ZC
      clear hmC hbC c0 c1x c2x c3x c4x c5 c6 c7 c8 fz xl d0 d1 d2 d3 d4 d5 d6 al
      obtain ⟨c0, c1x, ⟨c2x, c3x, c4x⟩, ⟨c5, c6, c7⟩, c8, fz, xl⟩ := wcAll (HXW.out wC HZC.out)
      obtain ⟨d0, ⟨d1, d2, d3, d4⟩, d5, d6, al⟩ := ac (HAW.out wC HZC.out)
      obtain ⟨q0, q1, q2, ql⟩ := cor_cells (HQW.out wC HZC.out)
      have HBC := Lib.hid (HBW.out.trans (HZC.out.wider (by simp)))
      clear ZC
      go_wp2_with fail
      go_ret
      obtain ⟨k1, k2⟩ := wd_set6 (HXW.out wC HZC.out) HMC.out hxb hxm hxx (HRW.out wC HZC.out)
      exact ⟨rfl, x, d', s2, k1, HPD.out, .inl rfl, HBC.out.trans (k2.wider (by simp))⟩
    · have HDN := Lib.hid hdn
      have HCM := Lib.hid (show ∀ w', Below wc.heap.size wc w' → Calls Tryz.prog 16 #[.pointer (some ⟨x, 0, none⟩), .agg #[.slice a1 ed.drop.length c1, .slice a2 ed.add.length c2, .int .i64 ed.next, .int .i64 ed.log]] w' (fun e w'' => e = .returned (.int .i64 7) ∧ Mn w'' x b m d' S true ∧ But [b, m, x] w' w'') from fun w' Y => by
        have := HCM0.out w' Y
        rw [hc] at this
        exact this)
      clear hc
      go_upto_region 2 with (fail)
      go_region_held3 (fun w' => w'.cell? ⟨X, 1, none⟩ = some (.pointer (some ⟨x, 0, none⟩)) ∧ (w'.cell? ⟨w.heap.size, 1, none⟩ = some (.slice a1 ed.drop.length c1) ∧ w'.cell? ⟨w.heap.size, 2, none⟩ = some (.slice a2 ed.add.length c2) ∧ w'.cell? ⟨w.heap.size, 3, none⟩ = some (.int .i64 ed.next) ∧ w'.cell? ⟨w.heap.size, 4, none⟩ = some (.int .i64 ed.log)))
        (first | with_reducible exact HC2.out _ HZ0.out | with_reducible exact HC2.out _ ZC | assumption)
        (first
          | (go_at_call 16; ((with_reducible refine (HCM.out _ HZB.out).mono ?_); rintro e wC ⟨rfl, hmC, hbC⟩; have ZC := HZ0.out.trans hbC)))
      have HMC := Lib.hid hmC
      have HZC := Lib.hid ZC
      clear hmC hbC c0 c1x c2x c3x c4x c5 c6 c7 c8 fz xl d0 d1 d2 d3 d4 d5 d6 al
      obtain ⟨c0, c1x, ⟨c2x, c3x, c4x⟩, ⟨c5, c6, c7⟩, c8, fz, xl⟩ := wcAll (HXW.out wC HZC.out)
      obtain ⟨d0, ⟨d1, d2, d3, d4⟩, d5, d6, al⟩ := ac (HAW.out wC HZC.out)
      obtain ⟨q0, q1, q2, ql⟩ := cor_cells (HQW.out wC HZC.out)
      have HBC := Lib.hid (HBW.out.trans (HZC.out.wider (by simp)))
      clear ZC
      go_wp2_with fail
      refine (Bk.down (w0 := wC) ⟨HMC.out.dat, HMC.out.ok, But.refl _ _⟩ HDN.out).mono ?_
      rintro e w' ⟨rfl, rfl⟩
      go_upto_region 15 with (fail)
      obtain ⟨k1, k2⟩ := wd_set3 (HXW.out wC HZC.out) HMC.out hxb hxm hxx (HSW.out wC HZC.out) (HRW.out wC HZC.out)
      generalize hw4 : (((wC.setCell ⟨X, 5, none⟩ (.int .i64 s2.next)).setCell ⟨X, 6, none⟩ (.int .i64 s2.log)).setCell ⟨X, 7, none⟩ (.slice va' s2.fs.length vc')) = w4 at *
      have HD4 := Lib.hid k1
      have HB4 := Lib.hid (show But [b, m, x, X] w w4 from HBC.out.trans (k2.wider (by simp)))
      have HA4 := Lib.hid ((k2.block _ al (by simp; omega)).trans (HAW.out wC HZC.out))
      have HD4D := Lib.hid (k1.quiet (show Below w4.heap.size w4 w4.drew from (Below.refl _ _).drew))
      have hal4 : w.heap.size < w4.heap.size := heap_lt HA4.out
      clear k1 k2 hw4 c0 c1x c2x c3x c4x c5 c6 c7 c8 fz xl d0 d1 d2 d3 d4 d5 d6 al q0 q1 q2 ql
      obtain ⟨vs4, vt4, hx4, -, -⟩ := HD4.out.blk
      obtain ⟨c0, c1x, -, -, -, -, xl⟩ := wcAll hx4
      obtain ⟨d0, ⟨d1, d2, d3, d4⟩, d5, d6, al⟩ := ac HA4.out
      clear hx4
      have HACT := Lib.hid (show ∀ w', But [b, m, x, X] w4 w' → ((w'.cell? ⟨w.heap.size, 1, none⟩ = some (.slice a1 ed.drop.length c1) ∧ w'.cell? ⟨w.heap.size, 2, none⟩ = some (.slice a2 ed.add.length c2) ∧ w'.cell? ⟨w.heap.size, 3, none⟩ = some (.int .i64 ed.next) ∧ w'.cell? ⟨w.heap.size, 4, none⟩ = some (.int .i64 ed.log)) ∧ w'.cell? ⟨w.heap.size, 6, none⟩ = some (.slice ka kn kc)) from fun w' Y => by
        have := ac ((Y.block _ hal4 (by simp; omega)).trans HA4.out)
        exact ⟨this.2.1, this.2.2.2.1⟩)
      have HY0 := Lib.hid (show But [b, m, x, X] w4 w4.drew from (But.refl _ _).drew)
      have HDC := Lib.hid (show ∀ w', Wd w' X x b m d' S S s2 true bd → Calls Tryz.prog 16 #[.pointer (some ⟨x, 0, none⟩), .agg #[.slice a1 ed.drop.length c1, .slice a2 ed.add.length c2, .int .i64 ed.next, .int .i64 ed.log]] w' (fun e w'' => e = .returned (.int .i64 7) ∧ Wd w'' X x b m d' S S s2 true bd ∧ But [b, m, x, X] w' w'') from fun w' hh =>
        (commit_dead w' x b m d' S true hh.mn rfl _ _ _ _).mono fun e w'' hx => wd_dead hh hx)
      have HAG := Lib.hid (show ∀ w', Wd w' X x b m d' S S s2 true bd → But [b, m, x, X] w4 w' → Calls Tryz.prog 33 #[.pointer (some ⟨X, 0, none⟩), .slice ka kn kc] w' (fun e w'' => e = .returned (.bool true) ∧ ∃ x', w'.heap.size ≤ x' ∧ Wd w'' X x' b m (startD (crD ks d')) N N N false bd ∧ But [b, m, X] w' w'') from fun w' hh Y => by
        refine wagain_any w' X b m _ d' S s2 N bd hh.w0 pnt hkN hN (st_small hcN).1 (st_small hcN).2 ka kn kc ks HKL.out hkn (fun h0 => ?_)
        obtain ⟨kb, ko, e, hne, hcell⟩ := HKS.out h0
        refine ⟨kb, ko, e, hne.1, fun i hi => ?_⟩
        have hlt : kb < w.heap.size := World.block_lt_of_cell? w _ (hcell i hi)
        exact ((HB4.out.trans Y).cell hlt (by simp; exact ⟨hne.1, hne.2.1, hne.2.2.1, hne.2.2.2⟩)).trans (hcell i hi))
      have HPA := Lib.hid (PD.again hkN hrm hnon hcN ks)
      clear hkN hnon hcN hrm hdn
      refine wp_region_noPanic ?_
      refine wp_region_held_drew (S := (fun w' => ((w'.cell? ⟨w.heap.size, 1, none⟩ = some (.slice a1 ed.drop.length c1) ∧ w'.cell? ⟨w.heap.size, 2, none⟩ = some (.slice a2 ed.add.length c2) ∧ w'.cell? ⟨w.heap.size, 3, none⟩ = some (.int .i64 ed.next) ∧ w'.cell? ⟨w.heap.size, 4, none⟩ = some (.int .i64 ed.log)) ∧ w'.cell? ⟨w.heap.size, 6, none⟩ = some (.slice ka kn kc)))) (by kernel_rfl) (by (first | with_reducible exact HACT.out _ HY0.out | with_reducible exact HACT.out _ YA | with_reducible exact HACT.out _ YB | assumption)) (fun hHeld => ?_)
      refine wpAnyH_take (i := 0) (oi := { dst := Option.some 68, op := Op.move (Operand.tmp 0), type := 72, pos := _, after := #[], guard := Option.none }) (v := ?_) rfl (by kernel_rfl) (by kernel_rfl) (by kernel_rfl) (fun _ _ _ h => h) (Or.inl ⟨by rfl, ?_⟩) (by assumption) ?_
      rotate_left
      · (intro wS hSw; (try dsimp only at hSw); go_simp; try with_reducible rfl)
      try simp only [Act.put, List.setIfInBounds_toArray, List.set_cons_zero, List.set_cons_succ]
      refine wpAnyH_take (i := 1) (oi := { dst := Option.some 69, op := Op.nilCheck (Operand.tmp 68), type := 0, pos := _, after := #[{ on := 0, ground := Ground.data }], guard := Option.none }) (v := ?_) rfl (by kernel_rfl) (by kernel_rfl) (by kernel_rfl) (fun _ _ _ h => h) (Or.inl ⟨by rfl, ?_⟩) (by assumption) ?_
      rotate_left
      · (intro wS hSw; (try dsimp only at hSw); go_simp; try with_reducible rfl)
      try simp only [Act.put, List.setIfInBounds_toArray, List.set_cons_zero, List.set_cons_succ]
      refine wpAnyH_take (i := 2) (oi := { dst := Option.some 70, op := Op.fieldAddr 74 (Operand.tmp 69) 1, type := 0, pos := _, after := #[{ on := 1, ground := Ground.data }], guard := Option.none }) (v := ?_) rfl (by kernel_rfl) (by kernel_rfl) (by kernel_rfl) (fun _ _ _ h => h) (Or.inl ⟨by rfl, ?_⟩) (by assumption) ?_
      rotate_left
      · (intro wS hSw; (try dsimp only at hSw); go_simp; try with_reducible rfl)
      try simp only [Act.put, List.setIfInBounds_toArray, List.set_cons_zero, List.set_cons_succ]
      refine wpAnyH_take (i := 4) (oi := { dst := Option.some 72, op := Op.fieldAddr 71 (Operand.tmp 3) 1, type := 0, pos := _, after := #[], guard := Option.none }) (v := ?_) rfl (by kernel_rfl) (by kernel_rfl) (by kernel_rfl) (fun _ _ _ h => h) (Or.inl ⟨by rfl, ?_⟩) (by assumption) ?_
      rotate_left
      · (intro wS hSw; (try dsimp only at hSw); go_simp; try with_reducible rfl)
      try simp only [Act.put, List.setIfInBounds_toArray, List.set_cons_zero, List.set_cons_succ]
      refine wpAnyH_take (i := 5) (oi := { dst := Option.some 73, op := Op.load 33 (Operand.tmp 72), type := 33, pos := _, after := #[{ on := 4, ground := Ground.data }], guard := Option.none }) (v := ?_) rfl (by kernel_rfl) (by kernel_rfl) (by kernel_rfl) (fun _ _ _ h => h) (Or.inl ⟨by rfl, ?_⟩) (by assumption) ?_
      rotate_left
      · (intro wS hSw; (try dsimp only at hSw); go_simp; try with_reducible rfl)
      try simp only [Act.put, List.setIfInBounds_toArray, List.set_cons_zero, List.set_cons_succ]
      refine wpAnyH_ready (rs := [3]) (by kernel_rfl) (by simp) ?_
      refine AllReadyH.cons (o := { dst := Option.some 71, op := Op.load 40 (Operand.tmp 70), type := 40, pos := _, after := #[{ on := 2, ground := Ground.data }], guard := Option.none }) rfl (fun K hK => ?_) ?_
      · go_simp
        refine hK.out _ _ (by (first | with_reducible exact HACT.out _ HY0.out | with_reducible exact HACT.out _ YA | with_reducible exact HACT.out _ YB | assumption)) (fun hHeld => ?_)
        clear hK K
        try simp only [Act.put, List.setIfInBounds_toArray, List.set_cons_zero, List.set_cons_succ]
        refine wpAnyH_ready (rs := [6]) (by kernel_rfl) (by simp) ?_
        refine AllReadyH.cons (o := { dst := Option.some 74, op := Op.call { callee := Callee.value (Operand.func 16), args := #[Operand.tmp 71, Operand.tmp 73], argTypes := #[40, 33] }, type := 25, pos := _, after := #[{ on := 3, ground := Ground.data }, { on := 5, ground := Ground.data }], guard := Option.none }) rfl (fun K hK => ?_) ?_
        · go_simp
          (first | (go_at_call 16; ((with_reducible refine (HDC.out _ HD4D.out).mono ?_); rintro e wA ⟨rfl, hdA, hbA⟩; have YA := HY0.out.trans hbA)) | (go_at_call 33; ((with_reducible refine (HAG.out _ hdA YA).mono ?_); rintro e wB ⟨rfl, x', hx', hdB, hbB⟩; have YB := YA.trans (hbB.wider (by simp)))))
          refine hK.out _ _ (by (first | with_reducible exact HACT.out _ HY0.out | with_reducible exact HACT.out _ YA | with_reducible exact HACT.out _ YB | assumption)) (fun hHeld => ?_)
          clear hK K
          try simp only [Act.put, List.setIfInBounds_toArray, List.set_cons_zero, List.set_cons_succ]
          refine wpAnyH_take (i := 7) (oi := { dst := Option.some 75, op := Op.binOp BinOp.eql 25 (Operand.tmp 74) (Operand.const (Value.int IntKind.i64 7)) 25, type := 4, pos := _, after := #[{ on := 6, ground := Ground.data }], guard := Option.none }) (v := ?_) rfl (by kernel_rfl) (by kernel_rfl) (by kernel_rfl) (fun _ _ _ h => h) (Or.inl ⟨by rfl, ?_⟩) (by assumption) ?_
          rotate_left
          · (intro wS hSw; (try dsimp only at hSw); go_simp; try with_reducible rfl)
          try simp only [Act.put, List.setIfInBounds_toArray, List.set_cons_zero, List.set_cons_succ]
          refine wpAnyH_take (i := 8) (oi := { dst := Option.some 76, op := Op.move (Operand.tmp 75), type := 4, pos := _, after := #[{ on := 7, ground := Ground.data }, { on := 6, ground := Ground.chain }], guard := Option.none }) (v := ?_) rfl (by kernel_rfl) (by kernel_rfl) (by kernel_rfl) (fun _ _ _ h => h) (Or.inl ⟨by rfl, ?_⟩) (by assumption) ?_
          rotate_left
          · (intro wS hSw; (try dsimp only at hSw); go_simp; try with_reducible rfl)
          try simp only [Act.put, List.setIfInBounds_toArray, List.set_cons_zero, List.set_cons_succ]
          refine wpAnyH_take (i := 9) (oi := { dst := Option.some 77, op := Op.move (Operand.tmp 0), type := 72, pos := _, after := #[{ on := 8, ground := Ground.guard }], guard := Option.some (8, Bool.true) }) (v := ?_) rfl (by kernel_rfl) (by kernel_rfl) (by kernel_rfl) (fun _ _ _ h => h) (Or.inl ⟨by rfl, ?_⟩) (by assumption) ?_
          rotate_left
          · (intro wS hSw; (try dsimp only at hSw); go_simp; try with_reducible rfl)
          try simp only [Act.put, List.setIfInBounds_toArray, List.set_cons_zero, List.set_cons_succ]
          refine wpAnyH_take (i := 10) (oi := { dst := Option.some 78, op := Op.fieldAddr 71 (Operand.tmp 3) 3, type := 0, pos := _, after := #[{ on := 8, ground := Ground.guard }], guard := Option.some (8, Bool.true) }) (v := ?_) rfl (by kernel_rfl) (by kernel_rfl) (by kernel_rfl) (fun _ _ _ h => h) (Or.inl ⟨by rfl, ?_⟩) (by assumption) ?_
          rotate_left
          · (intro wS hSw; (try dsimp only at hSw); go_simp; try with_reducible rfl)
          try simp only [Act.put, List.setIfInBounds_toArray, List.set_cons_zero, List.set_cons_succ]
          refine wpAnyH_take (i := 11) (oi := { dst := Option.some 79, op := Op.load 31 (Operand.tmp 78), type := 31, pos := _, after := #[{ on := 10, ground := Ground.data }, { on := 8, ground := Ground.guard }], guard := Option.some (8, Bool.true) }) (v := ?_) rfl (by kernel_rfl) (by kernel_rfl) (by kernel_rfl) (fun _ _ _ h => h) (Or.inl ⟨by rfl, ?_⟩) (by assumption) ?_
          rotate_left
          · (intro wS hSw; (try dsimp only at hSw); go_simp; try with_reducible rfl)
          try simp only [Act.put, List.setIfInBounds_toArray, List.set_cons_zero, List.set_cons_succ]
          refine wpAnyH_ready (rs := [12]) (by kernel_rfl) (by simp) ?_
          refine AllReadyH.cons (o := { dst := Option.some 80, op := Op.call { callee := Callee.value (Operand.func 33), args := #[Operand.tmp 77, Operand.tmp 79], argTypes := #[72, 31] }, type := 4, pos := _, after := #[{ on := 9, ground := Ground.data }, { on := 11, ground := Ground.data }, { on := 8, ground := Ground.chain }, { on := 8, ground := Ground.guard }], guard := Option.some (8, Bool.true) }) rfl (fun K hK => ?_) ?_
          · go_simp
            (first | (go_at_call 16; ((with_reducible refine (HDC.out _ HD4D.out).mono ?_); rintro e wA ⟨rfl, hdA, hbA⟩; have YA := HY0.out.trans hbA)) | (go_at_call 33; ((with_reducible refine (HAG.out _ hdA YA).mono ?_); rintro e wB ⟨rfl, x', hx', hdB, hbB⟩; have YB := YA.trans (hbB.wider (by simp)))))
            refine hK.out _ _ (by (first | with_reducible exact HACT.out _ HY0.out | with_reducible exact HACT.out _ YA | with_reducible exact HACT.out _ YB | assumption)) (fun hHeld => ?_)
            clear hK K
            try simp only [Act.put, List.setIfInBounds_toArray, List.set_cons_zero, List.set_cons_succ]
            refine wpAnyH_take (i := 13) (oi := { dst := Option.some 81, op := Op.pick (Operand.tmp 76) (Operand.tmp 80) (Operand.const (Value.bool Bool.false)), type := 4, pos := _, after := #[{ on := 8, ground := Ground.data }, { on := 12, ground := Ground.data }], guard := Option.none }) (v := ?_) rfl (by kernel_rfl) (by kernel_rfl) (by kernel_rfl) (fun _ _ _ h => h) (Or.inl ⟨by rfl, ?_⟩) (by assumption) ?_
            rotate_left
            · (intro wS hSw; (try dsimp only at hSw); go_simp; try with_reducible rfl)
            try simp only [Act.put, List.setIfInBounds_toArray, List.set_cons_zero, List.set_cons_succ]
            refine wpAnyH_take (i := 14) (oi := { dst := Option.some 4, op := Op.assign (Operand.tmp 81), type := 4, pos := _, after := #[{ on := 13, ground := Ground.data }, { on := 12, ground := Ground.chain }, { on := 0, ground := Ground.phase }, { on := 1, ground := Ground.phase }, { on := 2, ground := Ground.phase }, { on := 3, ground := Ground.phase }, { on := 4, ground := Ground.phase }, { on := 5, ground := Ground.phase }, { on := 6, ground := Ground.phase }, { on := 7, ground := Ground.phase }, { on := 8, ground := Ground.phase }, { on := 9, ground := Ground.phase }, { on := 10, ground := Ground.phase }, { on := 11, ground := Ground.phase }, { on := 12, ground := Ground.phase }, { on := 13, ground := Ground.phase }], guard := Option.none }) (v := ?_) rfl (by kernel_rfl) (by kernel_rfl) (by kernel_rfl) (fun _ _ _ h => h) (Or.inl ⟨by rfl, ?_⟩) (by assumption) ?_
            rotate_left
            · (intro wS hSw; (try dsimp only at hSw); go_simp; try with_reducible rfl)
            try simp only [Act.put, List.setIfInBounds_toArray, List.set_cons_zero, List.set_cons_succ]
            refine wpAnyH_done (by kernel_rfl) ?_ _
            refine NoPanic.normal ?_
            have HDB := Lib.hid hdB
            have HYB := Lib.hid YB
            have hsz : w.heap.size ≤ x' := Nat.le_trans (Nat.le_trans HB4.out.size YA.size) hx'
            clear hdB YB YA hbA hbB hdA
            go_wp2_with fail
            go_ret
            exact ⟨rfl, x', _, N, HDB.out, HPA.out, .inr hsz, HB4.out.trans HYB.out⟩
          exact AllReadyH.nil
        exact AllReadyH.nil
      exact AllReadyH.nil
    · have HPD := Lib.hid hpd
      clear hpd
      have HCM := Lib.hid (show ∀ w', Below wc.heap.size wc w' → Calls Tryz.prog 16 #[.pointer (some ⟨x, 0, none⟩), .agg #[.slice a1 ed.drop.length c1, .slice a2 ed.add.length c2, .int .i64 ed.next, .int .i64 ed.log]] w' (fun e w'' => e = .returned (.int .i64 6) ∧ Mn w'' x b m d' S false ∧ But [b, m, x] w' w'') from fun w' Y => by
        have := HCM0.out w' Y
        rw [hc] at this
        exact this)
      clear hc
      go_upto_region 2 with (fail)
      go_region_held3 (fun w' => w'.cell? ⟨X, 1, none⟩ = some (.pointer (some ⟨x, 0, none⟩)) ∧ (w'.cell? ⟨w.heap.size, 1, none⟩ = some (.slice a1 ed.drop.length c1) ∧ w'.cell? ⟨w.heap.size, 2, none⟩ = some (.slice a2 ed.add.length c2) ∧ w'.cell? ⟨w.heap.size, 3, none⟩ = some (.int .i64 ed.next) ∧ w'.cell? ⟨w.heap.size, 4, none⟩ = some (.int .i64 ed.log)))
        (first | with_reducible exact HC2.out _ HZ0.out | with_reducible exact HC2.out _ ZC | assumption)
        (first
          | (go_at_call 16; ((with_reducible refine (HCM.out _ HZB.out).mono ?_); rintro e wC ⟨rfl, hmC, hbC⟩; have ZC := HZ0.out.trans hbC)))
      have HMC := Lib.hid hmC
      have HZC := Lib.hid ZC
      clear hmC hbC c0 c1x c2x c3x c4x c5 c6 c7 c8 fz xl d0 d1 d2 d3 d4 d5 d6 al
      obtain ⟨c0, c1x, ⟨c2x, c3x, c4x⟩, ⟨c5, c6, c7⟩, c8, fz, xl⟩ := wcAll (HXW.out wC HZC.out)
      obtain ⟨d0, ⟨d1, d2, d3, d4⟩, d5, d6, al⟩ := ac (HAW.out wC HZC.out)
      obtain ⟨q0, q1, q2, ql⟩ := cor_cells (HQW.out wC HZC.out)
      have HBC := Lib.hid (HBW.out.trans (HZC.out.wider (by simp)))
      clear ZC
      go_wp2_with fail
      go_ret
      exact ⟨rfl, x, d', S, ⟨HMC.out, hxb, hxm, hxx, _, _, HXW.out _ HZC.out, HSW.out _ HZC.out, HTW.out _ HZC.out⟩, HPD.out, .inl rfl, HBC.out⟩
end Go.Proofs.YtiiafpbonkcokaaGreat
