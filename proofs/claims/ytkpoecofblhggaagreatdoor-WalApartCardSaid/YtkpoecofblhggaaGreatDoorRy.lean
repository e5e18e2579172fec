/-
  WalApart: its disks and logs, from opening to opening.
-/
import Derived.Test.YtkpoecofblhggaaGreatDoorQv
import Derived.Test.YtkpoecofblhggaaGreatDoorRv
import Derived.Test.YtkpoecofblhggaaGreatDoorPf
namespace Go.Proofs.YtkpoecofblhggaaGreatDoor
section
open Go.RowKit Go.Maps

variable {log la lb : ByteArray} {d c g : Dk} {x y z : Lg} {nm : Nm} {f : Fl}
theorem lv_new {log : ByteArray} : Lv log 1 [] [] (fresh 1) := by
  refine ⟨Nat.le_refl _, ⟨List.pairwise_singleton _ _, fun q hq => ?_⟩, ⟨rfl, trivial⟩, rfl, fun q hq => ?_, (fun q hq => by cases hq), fun b hb => by cases hb⟩
  · rw [List.nil_append, List.mem_singleton] at hq; subst hq; exact ⟨Nat.le_refl _, by show 1 < 100; omega⟩
  · rw [List.nil_append, List.mem_singleton] at hq; subst hq; exact ⟨rfl, rfl⟩
/-- a disk without a file of the log's -/
theorem Sim.first (h : Sim log d d0) (hok : logOk log.data.toList = true) (hl : d.fs.length ≤ 250) : (∀ nm ∈ names d.fs, numOf log nm = none → Other log nm) ∧ Proofs.YtkpoecofblhggaaGreatDoor.nums log (names d.fs) = [] ∧ createE d (fileL log 1) = 0 ∧ Hld log 1 0 (createD d (fileL log 1)) (DU (fsL log [] (fresh 1)) 0) (lg0 log) ∧ Ops log 1 d (createD d (fileL log 1)) := by
  have hc := create0 (name_file hok 1)
  have h1 := h.create (num12 1) (by omega) (by show 0 < 256; omega)
  have e : createD d0 (preL log ++ num12 1) = DU (fsL log [] (fresh 1)) 0 := hc.2
  rw [e] at h1
  refine ⟨fun nm hm _ => ?_, by rw [h.nums]; rfl, h1.1.trans hc.1, ⟨1, [], [], fresh 1, lv_new, rfl, h1.2, rfl, Nat.le_refl _, Nat.le_refl _⟩, (Ops.nil d).create _⟩
  cases hp : Lib.hasPrefix nm (preL log) with
  | false => exact .inl hp
  | true =>
    obtain ⟨r, rfl⟩ := List.isPrefixOf_iff_prefix.1 hp
    have hg := mem_names.1 hm
    rw [h.files r] at hg
    exact absurd rfl hg
theorem Dis.far {A B : List Nat} {n : Nat} (h : ∀ k ∈ A, k < n) (h2 : ∀ k ∈ B, n ≤ k) : Dis A B := fun k hk hm => by
  have := h k hk; have := h2 k hm; omega
/-- two logs on one disk, in memory, with a disk apart -/
structure O1 (W w : World) (b db m dc mc : Nat) (d c : Dk) (x : Lg) : Prop where
  ex : ∃ s o, LogM W w b s o db m d x ∧ Dis [b, s, o] [dc, mc]
  tw : Tw W w db m d dc mc c
structure O2 (W w : World) (b b2 db m dc mc : Nat) (d c : Dk) (x y : Lg) : Prop where
  ex : ∃ s o s2 o2, LogM W w b s o db m d x ∧ LogM W w b2 s2 o2 db m d y ∧ Dis [b, s, o] [dc, mc] ∧ Dis [b2, s2, o2] [dc, mc] ∧ Dis [b, s, o] [b2, s2, o2]
  tw : Tw W w db m d dc mc c
variable {W w w' : World} {b b2 db m dc mc : Nat}
theorem O1.quiet (h : O1 W w b db m dc mc d c x) (hb : Below w.heap.size w w') : O1 W w' b db m dc mc d c x := by
  obtain ⟨s, o, h1, h2⟩ := h.ex; exact ⟨⟨s, o, h1.below hb, h2⟩, h.tw.quiet hb⟩
theorem O2.quiet (h : O2 W w b b2 db m dc mc d c x y) (hb : Below w.heap.size w w') : O2 W w' b b2 db m dc mc d c x y := by
  obtain ⟨s, o, s2, o2, h1, h2, r⟩ := h.ex; exact ⟨⟨s, o, s2, o2, h1.below hb, h2.below hb, r⟩, h.tw.quiet hb⟩
theorem Opn.logM {d' : Dk} {v : Value} {l : List Rc} {sb ob : Nat} (hd : W.heap.size ≤ w.heap.size) (h : Opn w w' b sb ob db m d' x v l) : ∃ o, LogM W w' b sb o db m d' x ∧ ∀ k ∈ [b, sb, o], w.heap.size ≤ k := by
  obtain ⟨o, n, n', n''⟩ := h.wd.norm
  have a1 := h.lb; have a2 := h.lsb; have a3 := h.lob
  exact ⟨o, ⟨n, by omega, by omega, by omega, n''⟩, fun k hk => by simp only [List.mem_cons, List.not_mem_nil, or_false] at hk; omega⟩
/-- an opening's answer, its records not looked at -/
def OpA (b : Nat) (e : Ending) : Prop := ∃ v, e = .returned (.tuple #[.pointer (some ⟨b, 0, none⟩), v, .int .i64 0]) ∧ ∃ a n k, v = .slice a n k
theorem recs_shape {v : Value} {l : List Rc} {B : Nat} (h : RecsAt w B v l) : ∃ a k, v = .slice a l.length k := own_slice h
theorem Tw.open1 (h : Tw W w db m d dc mc c) (hs : Sim log d d0) (hok : logOk log.data.toList = true) (hlen : d.fs.length ≤ 250) (hl : log.size ≤ 1000) :
    Calls Tryz.prog 9 #[.pointer (some ⟨db, 0, none⟩), .string log] w fun e w' => ∃ b, OpA b e ∧ O1 W w' b db m dc mc (createD d (fileL log 1)) c (lg0 log) := by
  obtain ⟨h1, h2, h3, _⟩ := hs.first hok hlen
  refine (wopen_new w db m d log hl hok h.l.dat h.l.ok hs.ed.1 h1 h2 h3).mono ?_
  rintro e w' ⟨b, sb, ob, v, rfl, ho⟩
  obtain ⟨o, k1, k2⟩ := Opn.logM h.l.bel.size ho
  obtain ⟨a, k, rfl⟩ := recs_shape ho.recs
  exact ⟨b, ⟨_, rfl, _, _, _, rfl⟩, ⟨sb, o, k1, (Dis.far (dat_lt h.r.dat) k2).symm⟩, h.step k1.wd.dat ho.fr k1.wd.ok⟩
theorem O1.open2 (h : O1 W w b db m dc mc d c x) (hs : Sim log d d0) (hok : logOk log.data.toList = true) (hlen : d.fs.length ≤ 250) (hl : log.size ≤ 1000) :
    Calls Tryz.prog 9 #[.pointer (some ⟨db, 0, none⟩), .string log] w fun e w' => ∃ b2, OpA b2 e ∧ O2 W w' b b2 db m dc mc (createD d (fileL log 1)) c x (lg0 log) := by
  obtain ⟨h1, h2, h3, _⟩ := hs.first hok hlen
  obtain ⟨s, o, p1, p2⟩ := h.ex
  refine (wopen_new w db m d log hl hok h.tw.l.dat h.tw.l.ok hs.ed.1 h1 h2 h3).mono ?_
  rintro e w' ⟨b2, sb, ob, v, rfl, ho⟩
  obtain ⟨o2, k1, k2⟩ := Opn.logM h.tw.l.bel.size ho
  obtain ⟨a, k, rfl⟩ := recs_shape ho.recs
  exact ⟨b2, ⟨_, rfl, _, _, _, rfl⟩, ⟨s, o, sb, o2, p1.same ho.fr p1.dis k1.wd.dat k1.wd.ok, k1, p2, (Dis.far (dat_lt h.tw.r.dat) k2).symm, Dis.far p1.blt k2⟩, h.tw.step k1.wd.dat ho.fr k1.wd.ok⟩
theorem O2.open3 (h : O2 W w b b2 db m dc mc d c x y) (hs : Sim log c d0) (hok : logOk log.data.toList = true) (hlen : c.fs.length ≤ 250) (hl : log.size ≤ 1000) :
    Calls Tryz.prog 9 #[.pointer (some ⟨dc, 0, none⟩), .string log] w fun e w' => ∃ b3, OpA b3 e ∧ Tri W w' b b2 b3 db m dc mc d (createD c (fileL log 1)) x y (lg0 log) := by
  obtain ⟨h1, h2, h3, _⟩ := hs.first hok hlen
  obtain ⟨s, o, s2, o2, p1, p2, p3, p4, p5⟩ := h.ex
  refine (wopen_new w dc mc c log hl hok h.tw.r.dat h.tw.r.ok hs.ed.1 h1 h2 h3).mono ?_
  rintro e w' ⟨b3, sb, ob, v, rfl, ho⟩
  obtain ⟨o3, k1, k2⟩ := Opn.logM h.tw.r.bel.size ho
  obtain ⟨a, k, rfl⟩ := recs_shape ho.recs
  have tt := h.tw.symm.step k1.wd.dat ho.fr k1.wd.ok
  have v1 := h.tw.bt; have v2 := h.tw.bn; have v3 := h.tw.mt; have v4 := h.tw.mn
  have dd : Dis [db, m] [dc, mc] := by
    simp only [Dis, List.mem_cons, List.not_mem_nil, or_false, forall_eq_or_imp, forall_eq, not_or]; exact ⟨⟨v1, v2⟩, v3, v4⟩
  exact ⟨b3, ⟨_, rfl, _, _, _, rfl⟩, ⟨s, o, s2, o2, sb, o3, p1.but ho.fr (Dis.appl (A := [b, s, o]) (B := [db, m]) p3 dd), p2.but ho.fr (Dis.appl (A := [b2, s2, o2]) (B := [db, m]) p4 dd), k1, p5, Dis.far p1.blt k2, Dis.far p2.blt k2, p3, p4, (Dis.far (dat_lt h.tw.l.dat) k2).symm⟩, ⟨h.tw.l.lb, h.tw.l.lm, h.tw.r.lb, h.tw.r.lm⟩, dd, tt.l.bel⟩
theorem Tri.tw {b3 : Nat} (h : Tri W w b b2 b3 db m dc mc d c x y z) : Tw W w db m d dc mc c := by
  obtain ⟨h1, h2⟩ := h.inn
  have hdd := h.dd
  simp only [Dis, List.mem_cons, List.not_mem_nil, or_false, forall_eq_or_imp, forall_eq, not_or] at hdd
  exact ⟨h1, h2, hdd.1.1, hdd.1.2, hdd.2.1, hdd.2.2⟩
end

section
open Go.RowKit Go.Maps

def bsAb : ByteArray := ⟨#[97, 98]⟩
def bsMine : ByteArray := ⟨#[109, 105, 110, 101]⟩
theorem pre_a (r : Nm) : preL bsA ++ r = 97 :: 46 :: r := rfl
theorem pre_ab (r : Nm) : preL bsAb ++ r = 97 :: 98 :: 46 :: r := rfl
theorem apart_ab : Apart bsA bsAb [97] := by
  refine ⟨fun r q e => ?_, fun r e => ?_, fun r e => ?_, by decide, by decide⟩
  · rw [pre_a, pre_ab] at e; injection e with _ e; injection e with e _; exact absurd e (by decide)
  · rw [pre_a] at e; injection e with _ e; cases e
  · rw [pre_ab] at e; injection e with _ e; cases e
/-- the disk with a file of its own -/
def dMine : Dk := D1 [97] bsMine 0 false
theorem mine_create : createE d0 [97] = 0 ∧ createD d0 [97] = D1 [97] ⟨#[]⟩ 0 false := create0 (by decide)
theorem mine_append : appendE (D1 [97] ⟨#[]⟩ 0 false) [97] bsMine = 0 ∧ appendD (D1 [97] ⟨#[]⟩ 0 false) [97] bsMine = dMine := by
  have h := append1 (k := [97]) (x := ⟨#[]⟩) (y := bsMine) (s := 0) (by decide)
  rw [nil_app] at h
  exact h
theorem fit_mine : Fit dMine := by
  have h := ((Fit.d0.create [97])).append [97] bsMine
  rw [mine_create.2, mine_append.2] at h
  exact h
theorem sim_mine {log : ByteArray} (hne : ∀ r, ([97] : Nm) ≠ preL log ++ r) : Sim log dMine d0 := by
  refine ⟨⟨rfl, rfl, rfl⟩, ⟨rfl, rfl, rfl⟩, fit_mine, Fit.d0, fun r => ?_⟩
  have : fget dMine.fs (preL log ++ r) = none := by
    rw [fget_none]
    intro f hm
    have e : (preL log ++ r, f) = (([97] : Nm), (⟨bsMine, 0⟩ : Fl)) := List.mem_singleton.1 hm
    exact hne r (congrArg Prod.fst e).symm
  rw [this]; rfl
theorem sim_d0 {log : ByteArray} : Sim log d0 d0 := ⟨⟨rfl, rfl, rfl⟩, ⟨rfl, rfl, rfl⟩, Fit.d0, Fit.d0, fun _ => rfl⟩
def mineF : Fl := ⟨bsMine, 0⟩
def dA : Dk := createD dMine (fileL bsA 1)
def dAB : Dk := createD dA (fileL bsAb 1)
def cOf (log : ByteArray) : Dk := DU (fsL log [] (fresh 1)) 0
theorem cOf_eq : createD d0 (fileL bsA 1) = cOf bsA := (create0 (name_file apart_ab.oa 1)).2
theorem sim_ab_A : Sim bsAb dA d0 := by
  have h := (sim_mine apart_ab.na).first apart_ab.oa (by decide)
  exact (sim_mine apart_ab.nb).apart h.2.2.2.2 (fun r q => (apart_ab.swap).ab r q)
theorem len_dA : dA.fs.length ≤ 2 := create_len _ _
theorem duo_start : Duo bsA bsAb 3 1 0 1 0 dAB (cOf bsA) (cOf bsAb) (lg0 bsA) (lg0 bsAb) [97] mineF := by
  have h1 := (sim_mine apart_ab.na).first apart_ab.oa (by decide)
  have hl := len_dA
  have h2 := sim_ab_A.first apart_ab.ob (by omega)
  have hm : fget dMine.fs [97] = some mineF := get1 _ _
  have hl2 : dAB.fs.length ≤ dA.fs.length + 1 := create_len _ _
  have e1 : fget dA.fs [97] = some mineF := (h1.2.2.2.2.other ⟨rfl, rfl, rfl⟩ fit_mine apart_ab.na).trans hm
  have e2 : fget dAB.fs [97] = some mineF := (h2.2.2.2.2.other sim_ab_A.ed sim_ab_A.fd apart_ab.nb).trans e1
  exact ⟨h1.2.2.2.1.apart h2.2.2.2.2 apart_ab.ab, h2.2.2.2.1, by omega, e2⟩
/-- ahead of act i of the first log, of act j of the second one -/
structure WaS (W w : World) (b1 b2 b3 db m dc mc : Nat) (l k : List Act) (i j : Nat) : Prop where
  ex : ∃ d c g x y, Tri W w b1 b2 b3 db m dc mc d c x y x ∧ Duo bsA bsAb (3 + 4 * (i + j)) (1 + i) (8 * i + sumW (l.take i)) (1 + j) (8 * j + sumW (k.take j)) d c g x y [97] mineF
/-- the first log has done its act, its twin has not -/
structure WaH (W w : World) (b1 b2 b3 db m dc mc : Nat) (l k : List Act) (i j : Nat) (a : Act) (E : Int) : Prop where
  ex : ∃ d c g x y, Tri W w b1 b2 b3 db m dc mc (doesS d x a.dw (longB a.body a.tm) a.n).2.1 c (doesS d x a.dw (longB a.body a.tm) a.n).2.2 y x ∧ Duo bsA bsAb (3 + 4 * (i + j)) (1 + i) (8 * i + sumW (l.take i)) (1 + j) (8 * j + sumW (k.take j)) d c g x y [97] mineF ∧ E = (doesS d x a.dw (longB a.body a.tm) a.n).1
/-- the acts are not too great -/
structure Small (l : List Act) : Prop where
  len : l.length ≤ 20
  each : ∀ a ∈ l, a.body.size ≤ 300000 ∧ a.tm < 256
  sum : ∀ i, sumW (l.take i) ≤ 300000
variable {W w w' : World} {b1 b2 b3 db m dc mc : Nat} {l k : List Act} {i j : Nat} {a : Act} {E : Int}
def actV (a : Act) : Value := .agg #[.int .i64 a.dw, .string a.body, .int .u8 a.tm, .int .i64 a.n, .slice a.ka a.kn a.kc]
theorem WaS.quiet (h : WaS W w b1 b2 b3 db m dc mc l k i j) (hb : Below w.heap.size w w') : WaS W w' b1 b2 b3 db m dc mc l k i j := by
  obtain ⟨d, c, g, x, y, h1, h2⟩ := h.ex; exact ⟨d, c, g, x, y, h1.quiet hb, h2⟩
theorem WaH.quiet (h : WaH W w b1 b2 b3 db m dc mc l k i j a E) (hb : Below w.heap.size w w') : WaH W w' b1 b2 b3 db m dc mc l k i j a E := by
  obtain ⟨d, c, g, x, y, h1, h2⟩ := h.ex; exact ⟨d, c, g, x, y, h1.quiet hb, h2⟩
theorem WaS.drew (h : WaS W w b1 b2 b3 db m dc mc l k i j) : WaS W w.drew b1 b2 b3 db m dc mc l k i j := h.quiet (Below.refl _ _).drew
theorem WaH.drew (h : WaH W w b1 b2 b3 db m dc mc l k i j a E) : WaH W w.drew b1 b2 b3 db m dc mc l k i j a E := h.quiet (Below.refl _ _).drew
theorem WaS.bel (h : WaS W w b1 b2 b3 db m dc mc l k i j) : Below W.heap.size W w := by obtain ⟨d, c, g, x, y, h1, h2⟩ := h.ex; exact h1.bel
theorem WaH.bel (h : WaH W w b1 b2 b3 db m dc mc l k i j a E) : Below W.heap.size W w := by obtain ⟨d, c, g, x, y, h1, h2⟩ := h.ex; exact h1.bel
theorem long_w (a : Act) : (longB a.body a.tm).size = weigh a := by rw [longB_size]; unfold weigh; rw [Nat.add_comm]
theorem Duo.up {d c g : Dk} {x y : Lg} {K N F M G N' F' : Nat} {nm : Nm} {f : Fl} {la lb : ByteArray} (h : Duo la lb K N F M G d c g x y nm f) (hN : N ≤ N') (hF : F ≤ F') {K' : Nat} (hK : K ≤ K') : Duo la lb K' N' F' M G d c g x y nm f :=
  ⟨h.a.le hN hF, h.b, by have := h.len; omega, h.own⟩
/-- an act of the second log -/
theorem WaS.two (h : WaS W w b1 b2 b3 db m dc mc l k i j) (hl : Small l) (hk : Small k) (hi : i ≤ l.length) (hj : j < k.length) :
    Calls Tryz.prog 23 #[.pointer (some ⟨b2, 0, none⟩), actV k[j]] w fun e w' => (∃ E, e = .returned (.int .i64 E)) ∧ WaS W w' b1 b2 b3 db m dc mc l k i (j + 1) := by
  obtain ⟨d, c, g, x, y, h1, h2⟩ := h.ex
  have q1 := hl.len
  have q2 := hk.len
  have q3 := hk.sum j
  have q4 := hk.sum (j + 1)
  have q5 := sumW_step k j hj
  have q6 := long_w k[j]
  obtain ⟨e1, e2⟩ := hk.each k[j] (List.getElem_mem hj)
  refine (h1.does2 (h2.b.ok (by decide) (by omega) (by omega)) _ _ _ _ _ _ _ e2 e1).mono fun e w' ⟨he, hw⟩ => ⟨⟨_, he⟩, ?_⟩
  have h3 := (h2.swap.does apart_ab.swap (by omega) (by omega) k[j].dw k[j].n (longB k[j].body k[j].tm) (by omega)).2.2
  refine ⟨_, c, _, x, _, hw, (h3.up (K' := 3 + 4 * (i + (j + 1))) (N' := 1 + (j + 1)) (F' := 8 * (j + 1) + sumW (k.take (j + 1))) (by omega) (by split <;> omega) (by omega)).swap⟩
/-- an act of the first log -/
theorem WaS.one (h : WaS W w b1 b2 b3 db m dc mc l k i j) (hl : Small l) (hk : Small k) (hi : i < l.length) (hj : j ≤ k.length) :
    Calls Tryz.prog 23 #[.pointer (some ⟨b1, 0, none⟩), actV l[i]] w fun e w' => ∃ E, e = .returned (.int .i64 E) ∧ WaH W w' b1 b2 b3 db m dc mc l k i j l[i] E := by
  obtain ⟨d, c, g, x, y, h1, h2⟩ := h.ex
  have q1 := hl.len
  have q2 := hk.len
  have q3 := hl.sum i
  obtain ⟨e1, e2⟩ := hl.each l[i] (List.getElem_mem hi)
  exact (h1.does1 (h2.a.ok (by decide) (by omega) (by omega)) _ _ _ _ _ _ _ e2 e1).mono fun e w' ⟨he, hw⟩ => ⟨_, he, d, c, g, x, y, hw, h2, rfl⟩
/-- the same act of its twin -/
theorem WaH.twin (hi : i < l.length) (h : WaH W w b1 b2 b3 db m dc mc l k i j l[i] E) (hl : Small l) (hk : Small k) (hj : j ≤ k.length) :
    Calls Tryz.prog 23 #[.pointer (some ⟨b3, 0, none⟩), actV l[i]] w fun e w' => e = .returned (.int .i64 E) ∧ WaS W w' b1 b2 b3 db m dc mc l k (i + 1) j := by
  obtain ⟨d, c, g, x, y, h1, h2, hE⟩ := h.ex
  have q1 := hl.len
  have q2 := hk.len
  have q3 := hl.sum i
  have q4 := hl.sum (i + 1)
  have q5 := sumW_step l i hi
  have q6 := long_w l[i]
  obtain ⟨e1, e2⟩ := hl.each l[i] (List.getElem_mem hi)
  obtain ⟨r1, r2, r3⟩ := h2.does apart_ab (by omega) (by omega) l[i].dw l[i].n (longB l[i].body l[i].tm) (by omega)
  refine (h1.does3 (h2.a.ok (by decide) (by omega) (by omega)) _ _ _ _ _ _ _ e2 e1).mono fun e w' ⟨he, hw⟩ => ⟨by rw [he, hE, r1], ?_⟩
  rw [← r2] at hw
  exact ⟨_, _, g, _, y, hw, r3.up (by omega) (by split <;> omega) (by omega)⟩
theorem WaS.tells (h : WaS W w b1 b2 b3 db m dc mc l k i j) (hl : Small l) (hi : i ≤ l.length) : ∃ n p : Int,
    Calls Tryz.prog 16 #[.pointer (some ⟨b1, 0, none⟩)] w (fun e w' => e = .returned (.int .i64 n) ∧ w = w') ∧
    Calls Tryz.prog 16 #[.pointer (some ⟨b3, 0, none⟩)] w (fun e w' => e = .returned (.int .i64 n) ∧ w = w') ∧
    Calls Tryz.prog 17 #[.pointer (some ⟨b1, 0, none⟩)] w (fun e w' => e = .returned (.int .i64 p) ∧ w = w') ∧
    Calls Tryz.prog 17 #[.pointer (some ⟨b3, 0, none⟩)] w (fun e w' => e = .returned (.int .i64 p) ∧ w = w') := by
  obtain ⟨d, c, g, x, y, h1, h2⟩ := h.ex
  have q1 := hl.len
  have q3 := hl.sum i
  have ok := h2.a.ok (by decide) (by omega) (by omega)
  exact ⟨_, _, h1.last1, h1.last3, h1.first1 ok, h1.first3 ok⟩
/-- behind the loop: the log and its twin, their disks -/
structure WaE (W w : World) (db m dc mc : Nat) (d c : Dk) (x : Lg) : Prop where
  tw : Tw W w db m d dc mc c
  a : Hld bsA 21 300160 d c x
  own : fget d.fs [97] = some mineF
theorem WaS.drop (h : WaS W w b1 b2 b3 db m dc mc l k i j) (hl : Small l) (hk : Small k) (hi : i ≤ l.length) (hj : j ≤ k.length) : ∃ n : Int,
    Calls Tryz.prog 16 #[.pointer (some ⟨b2, 0, none⟩)] w (fun e w' => e = .returned (.int .i64 n) ∧ w = w') ∧
    ∀ w1, Below w.heap.size w w1 → Calls Tryz.prog 18 #[.pointer (some ⟨b2, 0, none⟩), .int .i64 n] w1 fun e w' => (∃ E, e = .returned (.int .i64 E)) ∧ ∃ d c x, WaE W w' db m dc mc d c x := by
  obtain ⟨d, c, g, x, y, h1, h2⟩ := h.ex
  have q1 := hl.len
  have q2 := hk.len
  have q3 := hl.sum i
  have q4 := hk.sum j
  refine ⟨y.last, h1.last2, fun w1 hb => ?_⟩
  refine ((h1.quiet hb).drop2 (h2.b.ok (by decide) (by omega) (by omega)) y.last).mono fun e w' ⟨he, hw⟩ => ⟨⟨_, he⟩, ?_⟩
  obtain ⟨k1, k2, k3⟩ := h2.swap.ops apart_ab.swap (ops_dropS h2.b.nm d y.last).ops
  exact ⟨_, c, x, hw.tw, k1.le (by omega) (by omega), k3⟩
end

section
open Go.RowKit Go.Maps

variable {W w w' : World} {db m dc mc B B2 : Nat} {d c : Dk} {x : Lg}
/-- the first log is open again: its records -/
structure WaF (W w : World) (db m dc mc B : Nat) (v : Value) (n0 : Nat) (P : List ByteArray) : Prop where
  ex : ∃ d c x L p, Tw W w db m d dc mc c ∧ fget d.fs [97] = some mineF ∧ d.down = false ∧ RecsAt w B v (numb n0 P) ∧ Lv bsA n0 P L p ∧ c = DU (fsL bsA L p) 0 ∧ Hld bsA 21 300160 c c x ∧ n0 + P.length ≤ 21 ∧ flen P ≤ 300160 ∧ Sim bsA c c
  lt : dc < B ∧ mc < B
structure WaG (W w : World) (db m dc mc B B2 : Nat) (v u : Value) (n0 : Nat) (P : List ByteArray) : Prop where
  ex : ∃ d c, Tw W w db m d dc mc c ∧ fget d.fs [97] = some mineF ∧ d.down = false
  r1 : RecsAt w B v (numb n0 P)
  r2 : RecsAt w B2 u (numb n0 P)
theorem Sim.own {log : ByteArray} {d c : Dk} (h : Sim log d c) : Sim log c c := ⟨h.ec, h.ec, h.fc, h.fc, fun _ => rfl⟩
theorem RecsAt.but {w w' : World} {B : Nat} {v : Value} {l : List Rc} {bs : List Nat} (h : RecsAt w B v l) (hb : But bs w w') (hl : ∀ k ∈ bs, k < B) : RecsAt w' B v l := by
  obtain ⟨h1, h2⟩ := h
  refine ⟨h1, h2.imp id ?_⟩
  rintro ⟨g, cap, cur, e, hg, hh, r⟩
  exact ⟨g, cap, cur, e, hg, (hb.block g (heap_lt hh) (fun hm => by have := hl g hm; omega)).trans hh, r⟩
theorem WaF.quiet {v : Value} {n0 : Nat} {P : List ByteArray} (h : WaF W w db m dc mc B v n0 P) (hb : Below w.heap.size w w') : WaF W w' db m dc mc B v n0 P := by
  obtain ⟨d, c, x, L, p, h1, h2, h3, h4, r⟩ := h.ex
  exact ⟨⟨d, c, x, L, p, h1.quiet hb, h2, h3, h4.below hb, r⟩, h.lt⟩
theorem WaG.quiet {v u : Value} {n0 : Nat} {P : List ByteArray} (h : WaG W w db m dc mc B B2 v u n0 P) (hb : Below w.heap.size w w') : WaG W w' db m dc mc B B2 v u n0 P := by
  obtain ⟨d, c, h1, h2⟩ := h.ex
  exact ⟨⟨d, c, h1.quiet hb, h2⟩, h.r1.below hb, h.r2.below hb⟩
theorem WaG.bel {v u : Value} {n0 : Nat} {P : List ByteArray} (h : WaG W w db m dc mc B B2 v u n0 P) : Below W.heap.size W w := by obtain ⟨d, c, h1, h2⟩ := h.ex; exact h1.l.bel
theorem WaE.quiet (h : WaE W w db m dc mc d c x) (hb : Below w.heap.size w w') : WaE W w' db m dc mc d c x := ⟨h.tw.quiet hb, h.a, h.own⟩
theorem WaE.open1 (h : WaE W w db m dc mc d c x) :
    Calls Tryz.prog 9 #[.pointer (some ⟨db, 0, none⟩), .string bsA] w fun e w' => ∃ b n0 P a k, P.length ≤ 21 ∧ e = .returned (.tuple #[.pointer (some ⟨b, 0, none⟩), .slice a P.length k, .int .i64 0]) ∧ WaF W w' db m dc mc w.heap.size (.slice a P.length k) n0 P := by
  obtain ⟨n0, P, L, p, h1, h2, h3, h4, h5, h6⟩ := h.a.ex
  have hO := h.a.other
  have hp := h1.pos
  subst h2
  refine (h3.reopen h1 h.tw.l.dat (by decide) apart_ab.oa (by omega) (by omega) hO).mono ?_
  rintro e w' ⟨b, sb, ob, v, rfl, ho⟩
  have hr := ho.recs
  obtain ⟨a, k, rfl⟩ := recs_shape hr
  rw [numb_len] at hr ⊢
  have hs := (h3.sync (num12 p.1.fr)).2
  have ho1 : Ops bsA 1 d (syncD d (preL bsA ++ num12 p.1.fr)) := (Ops.nil d).sync _
  refine ⟨b, n0, P, a, k, by omega, rfl, ⟨_, _, xL bsA n0 P L p, L, p, h.tw.step ho.wd.dat ho.fr ho.wd.ok, (ho1.other h3.ed h3.fd apart_ab.na).trans h.own, (ho1.ease h3.ed).1, hr, h1, rfl, ⟨n0, P, L, p, h1, rfl, h3.own, rfl, h5, h6⟩, h5, h6, h3.own⟩, ?_⟩
  exact ⟨h.tw.r.dat.lt, h.tw.r.dat.map.lt⟩
theorem WaF.open2 {v : Value} {n0 : Nat} {P : List ByteArray} (h : WaF W w db m dc mc B v n0 P) :
    Calls Tryz.prog 9 #[.pointer (some ⟨dc, 0, none⟩), .string bsA] w fun e w' => ∃ b a k, e = .returned (.tuple #[.pointer (some ⟨b, 0, none⟩), .slice a P.length k, .int .i64 0]) ∧ WaG W w' db m dc mc B w.heap.size v (.slice a P.length k) n0 P := by
  obtain ⟨d, c, x, L, p, h1, h2, h3, h4, h5, rfl, h7, h8, h9, h10⟩ := h.ex
  refine (h10.reopen h5 h1.r.dat (by decide) apart_ab.oa (by omega) (by omega) h7.other).mono ?_
  rintro e w' ⟨b, sb, ob, v2, rfl, ho⟩
  have hr := ho.recs
  obtain ⟨a, k, rfl⟩ := recs_shape hr
  rw [numb_len] at hr ⊢
  refine ⟨b, a, k, rfl, ⟨⟨d, _, (h1.symm.step ho.wd.dat ho.fr ho.wd.ok).symm, h2, h3⟩, h4.but ho.fr (fun q hq => ?_), hr⟩⟩
  have := h.lt
  simp only [List.mem_cons, List.not_mem_nil, or_false] at hq
  omega
theorem WaG.read {v u : Value} {n0 : Nat} {P : List ByteArray} (h : WaG W w db m dc mc B B2 v u n0 P) :
    Calls Tryz.prog 24 #[.pointer (some ⟨db, 0, none⟩), .string bsA] w fun e w' => e = .returned (.tuple #[.string bsMine, .int .i64 0]) ∧ Below W.heap.size W w' := by
  obtain ⟨d, c, h1, h2, h3⟩ := h.ex
  have e : (bsA.data.toList : Nm) = [97] := rfl
  refine (h1.l.read (s := bsA) (S := bsMine) (E := 0) (by decide) (by rw [e]; simp [readS, h2, h3]; rfl) (by rw [e]; simp [readE, h2, h3])).mono fun e w' ⟨he, hi⟩ => ⟨he, hi.bel⟩
end
end Go.Proofs.YtkpoecofblhggaaGreatDoor
