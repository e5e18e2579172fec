/-
  Plain: the files of a log on a disk that has no others, in the order of their numbers.
-/
import Derived.Test.YtkpoecofblhggaaGreatDoorOh
import Derived.Test.YtkpoecofblhggaaGreatDoorNj
import Derived.Test.YtkpoecofblhggaaGreatDoorNm
namespace Go.Proofs.YtkpoecofblhggaaGreatDoor
section
section
open Go.RowKit Go.Maps

theorem before_app (p : Nm) (a b : Nm) : bytesBefore (p ++ a) (p ++ b) = bytesBefore a b := by
  induction p with
  | nil => rfl
  | cons c r ih => simp [bytesBefore, ih]
theorem dig2_before : ∀ b, b < 100 → ∀ a, a < b → bytesBefore (dig2 a) (dig2 b) = true := by decide +kernel
theorem file_before {log : ByteArray} {a b : Nat} (hab : a < b) (hb : b < 100) : bytesBefore (fileL log a) (fileL log b) = true := by
  unfold fileL num12
  rw [before_app, before_app]
  exact dig2_before b hb a hab
theorem fresh_before (log : ByteArray) (a : Nat) : bytesBefore (fileL log a) (freshL log) = true := by
  unfold fileL freshL
  rw [before_app]
  rfl
/-- a file of a log, and how much of it is synced -/
abbrev Sy := Sg × Nat
def ent (log : ByteArray) (p : Sy) : Nm × Fl := (fileL log p.1.fr, ⟨p.1.data, p.2⟩)
def fsOf (log : ByteArray) (L : List Sy) : Fs := L.map (ent log)
theorem fsOf_append (log : ByteArray) (L M : List Sy) : fsOf log (L ++ M) = fsOf log L ++ fsOf log M := by simp [fsOf]
/-- each name stands ahead of k -/
def Ahead (F : Fs) (k : Nm) : Prop := ∀ y ∈ F, bytesBefore y.1 k = true
theorem Ahead.ne {F : Fs} {k : Nm} (h : Ahead F k) : ∀ y ∈ F, y.1 ≠ k := fun y hy => before_ne (h y hy)
theorem fget_ahead {F : Fs} {k : Nm} (h : Ahead F k) : fget F k = none := fget_none.2 fun f hf => h.ne _ hf rfl
theorem fget_end {F : Fs} {k : Nm} (h : Ahead F k) (f : Fl) : fget (F ++ [(k, f)]) k = some f := by
  have : F.find? (fun x => x.1 == k) = none := by rw [List.find?_eq_none]; intro y hy; simpa using h.ne y hy
  unfold fget
  rw [List.find?_append, this]
  simp
theorem fdel_ahead {F : Fs} {k : Nm} (h : Ahead F k) : fdel F k = F := by
  unfold fdel
  rw [List.filter_eq_self]
  intro y hy
  simpa using h.ne y hy
theorem fdel_end {F : Fs} {k : Nm} (h : Ahead F k) (f : Fl) : fdel (F ++ [(k, f)]) k = F := by
  unfold fdel
  rw [List.filter_append, List.filter_eq_self.2 (fun y hy => by simpa using h.ne y hy)]
  simp
theorem fins_end {F : Fs} {k : Nm} (h : Ahead F k) (f : Fl) : fins (k, f) F = F ++ [(k, f)] := by
  have := fins_front (x := (k, f)) (P := F) (R := []) (fun y hy => before_asymm (h y hy)) (fun y hy => by cases hy)
  rwa [List.append_nil] at this
theorem fput_end {F : Fs} {k : Nm} (h : Ahead F k) (f : Fl) : fput F k f = F ++ [(k, f)] := by
  unfold fput; rw [fdel_ahead h, fins_end h]
theorem fput_last {F : Fs} {k : Nm} (h : Ahead F k) (f g : Fl) : fput (F ++ [(k, f)]) k g = F ++ [(k, g)] := by
  unfold fput; rw [fdel_end h, fins_end h]
/-- the numbers rise -/
def Inc (L : List Sy) : Prop := L.Pairwise (fun a b => a.1.fr < b.1.fr) ∧ ∀ p ∈ L, 1 ≤ p.1.fr ∧ p.1.fr < 100
theorem Inc.ahead {log : ByteArray} {L : List Sy} {k : Nat} (hk : k < 100) (h : ∀ p ∈ L, p.1.fr < k) : Ahead (fsOf log L) (fileL log k) := fun y hy => by
  obtain ⟨p, hp, rfl⟩ := List.mem_map.1 hy
  exact file_before (h p hp) hk
theorem Inc.ahead_fresh (log : ByteArray) (L : List Sy) : Ahead (fsOf log L) (freshL log) := fun y hy => by
  obtain ⟨p, hp, rfl⟩ := List.mem_map.1 hy
  exact fresh_before log _
theorem Inc.init {L : List Sy} {p : Sy} (h : Inc (L ++ [p])) : Inc L ∧ ∀ q ∈ L, q.1.fr < p.1.fr := by
  obtain ⟨h1, h2⟩ := h
  rw [List.pairwise_append] at h1
  exact ⟨⟨h1.1, fun q hq => h2 q (List.mem_append_left _ hq)⟩, fun q hq => h1.2.2 q hq p (by simp)⟩
theorem Inc.snoc {L : List Sy} {p : Sy} (h : Inc L) (hp : ∀ q ∈ L, q.1.fr < p.1.fr) (h1 : 1 ≤ p.1.fr) (h2 : p.1.fr < 100) : Inc (L ++ [p]) := by
  refine ⟨?_, fun q hq => ?_⟩
  · rw [List.pairwise_append]
    exact ⟨h.1, List.pairwise_singleton _ _, fun a ha b hb => by rw [List.mem_singleton.1 hb]; exact hp a ha⟩
  · rcases List.mem_append.1 hq with hq | hq
    · exact h.2 q hq
    · rw [List.mem_singleton.1 hq]; exact ⟨h1, h2⟩
theorem names_fsOf (log : ByteArray) (L : List Sy) : names (fsOf log L) = L.map fun p => fileL log p.1.fr := by simp [names, fsOf, ent]
theorem nums_fsOf {log : ByteArray} {L : List Sy} (h : Inc L) : nums log (names (fsOf log L)) = L.map (·.1.fr) := by
  rw [names_fsOf]
  have h2 := h.2
  clear h
  induction L with
  | nil => rfl
  | cons p r ih =>
    have hp := h2 p (List.mem_cons_self ..)
    unfold nums at ih ⊢
    rw [List.map_cons, List.filterMap_cons, numOf_file hp.1 hp.2]
    simp only [List.map_cons]
    rw [ih fun q hq => h2 q (List.mem_cons_of_mem _ hq)]
theorem nums_sorted {log : ByteArray} {L : List Sy} (h : Inc L) : (nums log (names (fsOf log L))).mergeSort (fun x y => decide (x ≤ y)) = froms (L.map (·.1)) := by
  rw [nums_fsOf h, List.mergeSort_of_pairwise]
  · simp [froms]
  · rw [List.pairwise_map]
    exact h.1.imp fun hab => by simp; omega
theorem other_fsOf {log : ByteArray} {L : List Sy} (h : Inc L) : ∀ nm ∈ names (fsOf log L), numOf log nm = none → Other log nm := fun nm hm hn => by
  rw [names_fsOf] at hm
  obtain ⟨p, hp, rfl⟩ := List.mem_map.1 hm
  have := h.2 p hp
  rw [numOf_file this.1 this.2] at hn
  cases hn
theorem fget_fsOf {log : ByteArray} {L : List Sy} (h : Inc L) {p : Sy} (hp : p ∈ L) : fget (fsOf log L) (fileL log p.1.fr) = some ⟨p.1.data, p.2⟩ := by
  have hup : (fsOf log L).Pairwise (fun x y => bytesBefore x.1 y.1 = true) := by
    unfold fsOf
    rw [List.pairwise_map]
    refine List.Pairwise.imp_of_mem (fun {a b} _ hb hab => ?_) h.1
    exact file_before hab (h.2 b hb).2
  exact (fget_mem hup).2 (List.mem_map.2 ⟨p, hp, rfl⟩)
end

section
open Go.RowKit Go.Maps

set_option maxRecDepth 100000 in
theorem next_torn (w : World) (s : ByteArray) (p n : Nat) (hs : s.size ≤ 9223372036854775807) (hn : n ≤ 65536) (h8 : p + 8 ≤ s.size) (ht : (s.extract p s.size).data.toList.take 4 = le4 n) (h : s.size < p + 8 + n) :
    Calls Tryz.prog 68 #[.string s, .int .i64 p] w fun e w' => e = .returned (.tuple #[.string ⟨#[]⟩, .int .i64 0, .bool false]) ∧ Below w.heap.size w w' := by
  have z0 : 4 ≤ (s.extract p s.size).size := by rw [ByteArray.size_extract]; omega
  have C1 : ∀ W, Calls Tryz.prog 97 #[.string (s.extract p s.size)] W fun e w' => e = .returned (.int .u32 n) ∧ ∃ k, w' = W.drewN k := fun W => by
    have := get4_any W _ z0
    rwa [rd4_le4 n (by omega) _ ht] at this
  have H1 := Lib.hid C1
  clear C1 z0 ht
  have q1 : (p : Int) ≤ s.size := by omega
  have q2 : (8 : Int) ≤ (s.size : Int) - p := by omega
  have q3 : (s.size : Int) - p - 8 < (n : Int) := by omega
  go_enter Tryz.func68, Tryz.ntmps68
  go_wp2_with fail
  refine (H1.out _).mono ?_
  rintro e w1 ⟨rfl, n1, rfl⟩
  have HB0 := Lib.hid (below_drewN' (Below.refl w.heap.size w) n1)
  go_wp2_with fail
  go_ret3
  exact ⟨rfl, HB0.out⟩
/-- what is left of a frame that was cut (nothing, or a beginning) -/
def Torn (t : List UInt8) : Prop := ∃ b : ByteArray, b.size ≤ 65536 ∧ t.length < 8 + b.size ∧ t = (frame b).data.toList.take t.length
theorem torn_nil : Torn [] := ⟨⟨#[]⟩, by decide, by show 0 < 8 + 0; omega, rfl⟩
theorem torn_ends {s : ByteArray} {bs : List ByteArray} {t : List UInt8} (hT : Text s bs t) (ht : Torn t) (hs : s.size ≤ 9223372036854775807) : Ends s (offs bs bs.length) := by
  have hl := hT.len
  obtain ⟨b, hb, hlt, he⟩ := ht
  by_cases h8 : t.length < 8
  · exact ends_end hs (by omega) (by omega)
  · intro W
    have h4 : (s.extract (offs bs bs.length) s.size).data.toList.take 4 = le4 b.size := by
      rw [ext_list, hT.eq]
      have e1 : (frames bs ++ t).drop (offs bs bs.length) = t := by
        have : offs bs bs.length = (frames bs).length := offs_all bs
        rw [this, List.drop_left]
      rw [e1, he, List.take_take, List.take_take, Nat.min_eq_left (by omega), Nat.min_eq_left (by omega), frame_list]
      rfl
    exact (next_torn W s _ b.size hs hb (by omega) h4 (by omega)).mono fun e w' ⟨h1, h2⟩ => ⟨⟨_, _, h1⟩, h2⟩
theorem frames_cons (b : ByteArray) (r : List ByteArray) : frames (b :: r) = (frame b).data.toList ++ frames r := by
  rw [show b :: r = [b] ++ r from rfl, frames_append, frames_one]
theorem flen_cons (b : ByteArray) (r : List ByteArray) : flen (b :: r) = 8 + b.size + flen r := by
  unfold flen; rw [frames_cons, List.length_append, len_list, frame_size]
theorem offs_cons (b : ByteArray) (r : List ByteArray) (k : Nat) : offs (b :: r) (k + 1) = 8 + b.size + offs r k := by
  unfold offs; rw [List.take_succ_cons, frames_cons, List.length_append, len_list, frame_size]
/-- the frames of some bodies, cut at c -/
theorem cut_text : ∀ (bs : List ByteArray) (c : Nat), (∀ b ∈ bs, b.size ≤ 65536) → c ≤ flen bs → ∃ j t, j ≤ bs.length ∧ (frames bs).take c = frames (bs.take j) ++ t ∧ Torn t ∧ (∀ k, k ≤ bs.length → offs bs k ≤ c → k ≤ j)
  | [], c, _, _ => ⟨0, [], Nat.le_refl _, by simp [frames], torn_nil, fun k hk _ => by simpa using hk⟩
  | b :: r, c, hb, hc => by
    by_cases h : 8 + b.size ≤ c
    · rw [flen_cons] at hc
      obtain ⟨j, t, h1, h2, h3, h4⟩ := cut_text r (c - (8 + b.size)) (fun x hx => hb x (List.mem_cons_of_mem _ hx)) (by omega)
      refine ⟨j + 1, t, by simpa using h1, ?_, h3, fun k hk ho => ?_⟩
      · have hlen : (frame b).data.toList.length = 8 + b.size := by rw [len_list, frame_size]
        rw [List.take_succ_cons, frames_cons, frames_cons, List.take_append, List.take_of_length_le (by omega), hlen, h2, List.append_assoc]
      · cases k with
        | zero => omega
        | succ k =>
          rw [offs_cons] at ho
          have := h4 k (by simpa using hk) (by omega)
          omega
    · refine ⟨0, (frames (b :: r)).take c, Nat.zero_le _, by simp [frames], ?_, fun k hk ho => ?_⟩
      · have hlen : (frame b).data.toList.length = 8 + b.size := by rw [len_list, frame_size]
        have e : (frames (b :: r)).take c = (frame b).data.toList.take c := by rw [frames_cons, List.take_append_of_le_length (by omega)]
        have hl : ((frames (b :: r)).take c).length = c := by rw [e, List.length_take]; omega
        exact ⟨b, hb b (List.mem_cons_self ..), by omega, by rw [hl]; exact e⟩
      · cases k with
        | zero => omega
        | succ k => rw [offs_cons] at ho; omega
end

section
open Go.RowKit Go.Maps

/-- a disk that is up, with a fuse; a disk that is down -/
def DU (F : Fs) (f : Int) : Dk := ⟨F, false, f, -1⟩
def DW (F : Fs) : Dk := ⟨F, true, 0, -1⟩
def fdec (f : Int) : Int := if 0 < f then f - 1 else f
theorem fdec_nn {f : Int} (h : 0 ≤ f) : 0 ≤ fdec f := by unfold fdec; split <;> omega
theorem du_chg {F : Fs} {f : Int} (G : Fs → Fs) (b : Bool) (hf : f ≠ 1) : chg (DU F f) G b = DU (G F) (fdec f) := by
  unfold chg
  rw [if_neg (show ¬ (DU F f).fuse = 1 from hf)]
  rfl
theorem du_append {F : Fs} {k : Nm} {g : Fl} {y : ByteArray} {f : Int} (hg : fget F k = some g) (h : g.data.size + y.size ≤ 1048576) :
    (f ≠ 1 → appendE (DU F f) k y = 0 ∧ appendD (DU F f) k y = DU (fput F k ⟨g.data ++ y, g.syn⟩) (fdec f)) ∧ (f = 1 → appendE (DU F f) k y = 7 ∧ appendD (DU F f) k y = DW (fput F k ⟨g.data ++ y, g.syn⟩)) := by
  have h1 : ¬ 1048576 < g.data.size + y.size := by omega
  constructor <;> intro hf
  · constructor
    · simp only [appendE, DU, hg, Bool.false_eq_true, if_false, h1]
      simp [chgE, hf]
    · simp only [appendD, DU, hg, Bool.false_eq_true, if_false, h1]
      simp [chg, hf, fdec]
  · subst hf
    constructor
    · simp only [appendE, DU, hg, Bool.false_eq_true, if_false, h1]
      simp [chgE]
    · simp only [appendD, DU, hg, Bool.false_eq_true, if_false, h1]
      simp [chg, DW]
theorem du_create {F : Fs} {k : Nm} {f : Int} (hn : nameB k = true) (hg : fget F k = none) (hl : F.length < 256) :
    (f ≠ 1 → createE (DU F f) k = 0 ∧ createD (DU F f) k = DU (fput F k ⟨⟨#[]⟩, 0⟩) (fdec f)) ∧ (f = 1 → createE (DU F f) k = 7 ∧ createD (DU F f) k = DW F) := by
  have h1 : ¬ 256 ≤ F.length := by omega
  constructor <;> intro hf
  · constructor
    · simp [createE, DU, hn, hg, h1, chgE, hf]
    · rw [← du_chg (F := F) (fun F => fput F k ⟨⟨#[]⟩, 0⟩) false hf]
      simp [createD, DU, hn, hg, h1]
  · subst hf
    constructor
    · simp [createE, DU, hn, hg, h1, chgE]
    · simp [createD, DU, hn, hg, h1, chg, DW]
theorem du_sync {F : Fs} {k : Nm} {g : Fl} {f : Int} (hg : fget F k = some g) :
    (f ≠ 1 → syncE (DU F f) k = 0 ∧ syncD (DU F f) k = DU (fput F k ⟨g.data, g.data.size⟩) (fdec f)) ∧ (f = 1 → syncE (DU F f) k = 7 ∧ syncD (DU F f) k = DW F) := by
  constructor <;> intro hf
  · constructor
    · simp [syncE, DU, hg, chgE, hf]
    · rw [← du_chg (F := F) (fun F => fput F k ⟨g.data, g.data.size⟩) false hf]
      simp [syncD, DU, hg]
  · subst hf
    constructor
    · simp [syncE, DU, hg, chgE]
    · simp [syncD, DU, hg, chg, DW]
theorem du_off {F : Fs} {x : Lg} {g : Fl} {f : Int} (hg : fget F x.nm = some g) (hs : g.data.size = x.size) (hd : x.dead = false) : offE (DU F f) x = 0 := by
  have h1 : readE (DU F f) x.nm = 0 := by simp [readE, DU, hg]
  have h2 : readS (DU F f) x.nm = g.data := by simp [readS, DU, hg]
  unfold offE wholeB
  rw [hd, h1, h2]
  simp [hs]

theorem chain_snoc : ∀ (n : Nat) (S : List Sg) (g : Sg), Chain n (S ++ [g]) ↔ Chain n S ∧ g.fr = n + (bods S).length
  | n, [], g => by simp [Chain, bods]
  | n, h :: r, g => by
    have := chain_snoc (n + h.bs.length) r g
    have e : (bods (h :: r)).length = h.bs.length + (bods r).length := by simp [bods]
    simp only [List.cons_append, Chain, this, e]
    constructor
    · rintro ⟨h1, h2, h3⟩; exact ⟨⟨h1, h2⟩, by omega⟩
    · rintro ⟨⟨h1, h2⟩, h3⟩; exact ⟨h1, h2, by omega⟩
def sgs (L : List Sy) : List Sg := L.map (·.1)
theorem sgs_append (L M : List Sy) : sgs (L ++ M) = sgs L ++ sgs M := by simp [sgs]
theorem sgs_one (p : Sy) : sgs [p] = [p.1] := rfl
theorem bods_one (g : Sg) : bods [g] = g.bs := by simp [bods]
theorem flen_append (l r : List ByteArray) : flen (l ++ r) = flen l + flen r := by unfold flen; rw [frames_append, List.length_append]
/-- the files of a log that is written: L, and behind them p; its records P; 'sure' of them are synced -/
structure Live (log : ByteArray) (P : List ByteArray) (sure : Nat) (L : List Sy) (p : Sy) : Prop where
  inc : Inc (L ++ [p])
  chain : Chain 1 (sgs L ++ [p.1])
  bods : bods (sgs L ++ [p.1]) = P
  all : ∀ q ∈ L ++ [p], q.1.data.data.toList = frames q.1.bs
  old : ∀ q ∈ L, q.1.bs ≠ [] ∧ q.2 = q.1.data.size
  syn : p.2 ≤ p.1.data.size
  small : ∀ b ∈ P, b.size ≤ 65536
  sure : ∃ k, k ≤ p.1.bs.length ∧ offs p.1.bs k ≤ p.2 ∧ sure ≤ (Proofs.YtkpoecofblhggaaGreatDoor.bods (sgs L)).length + k
  tl : ∀ q ∈ L ++ [p], q.1.t = []
variable {log : ByteArray} {P : List ByteArray} {sure : Nat} {L : List Sy} {p : Sy} {f : Int}
def xOf (log : ByteArray) (P : List ByteArray) (L : List Sy) (p : Sy) : Lg := ⟨log, p.1.fr, p.1.data.size, L.map (·.1.fr), P.length, false⟩
def fsL (log : ByteArray) (L : List Sy) (p : Sy) : Fs := fsOf log L ++ [ent log p]
theorem fsL_eq (log : ByteArray) (L : List Sy) (p : Sy) : fsOf log (L ++ [p]) = fsL log L p := by rw [fsOf_append]; rfl
theorem Live.ahead (h : Live log P sure L p) : Ahead (fsOf log L) (fileL log p.1.fr) := Inc.ahead (h.inc.2 p (by simp)).2 h.inc.init.2
theorem Live.get (h : Live log P sure L p) : fget (fsL log L p) (fileL log p.1.fr) = some ⟨p.1.data, p.2⟩ := fget_end h.ahead _
theorem Live.bodsE (h : Live log P sure L p) : Proofs.YtkpoecofblhggaaGreatDoor.bods (sgs L) ++ p.1.bs = P := by rw [← h.bods, bods_append, bods_one]
theorem Live.fr (h : Live log P sure L p) : p.1.fr = 1 + (Proofs.YtkpoecofblhggaaGreatDoor.bods (sgs L)).length := ((chain_snoc 1 (sgs L) p.1).1 h.chain).2
theorem size_of {y : ByteArray} {bs : List ByteArray} (h : y.data.toList = frames bs) : y.size = flen bs := by rw [← len_list, h]; rfl
theorem Live.size (h : Live log P sure L p) : p.1.data.size = flen p.1.bs := size_of (h.all p (by simp))
theorem Live.le (h : Live log P sure L p) : p.1.data.size ≤ flen P := by rw [h.size, ← h.bodsE, flen_append]; omega
theorem Live.off (h : Live log P sure L p) : offE (DU (fsL log L p) f) (xOf log P L p) = 0 := du_off (x := xOf log P L p) h.get rfl rfl
theorem Live.len (h : Live log P sure L p) : L.length < 100 := by
  have h1 := h.inc.init
  have : ∀ (M : List Sy) (n : Nat), M.Pairwise (fun a b => a.1.fr < b.1.fr) → (∀ q ∈ M, n ≤ q.1.fr ∧ q.1.fr < 100) → M.length + n ≤ 100 ∨ M = [] := by
    intro M
    induction M with
    | nil => intro n _ _; exact .inr rfl
    | cons q r ih =>
      intro n hp hq
      have hp' := List.pairwise_cons.1 hp
      have h2 := hq q (List.mem_cons_self ..)
      rcases ih (n + 1) hp'.2 (fun x hx => ⟨by have := hp'.1 x hx; omega, (hq x (List.mem_cons_of_mem _ hx)).2⟩) with h3 | h3
      · left; rw [List.length_cons]; omega
      · subst h3; left; simp; omega
  rcases this L 1 h1.1.1 h1.1.2 with h2 | h2
  · omega
  · rw [h2]; simp
/-- one record more in the last file -/
def more (p : Sy) (b : ByteArray) : Sy := (⟨p.1.fr, p.1.bs ++ [b], [], p.1.data ++ frame b⟩, p.2)
theorem offs_le {bs : List ByteArray} {k : Nat} (b : ByteArray) (hk : k ≤ bs.length) : offs (bs ++ [b]) k = offs bs k := by
  unfold offs; rw [List.take_append_of_le_length hk]
theorem Live.more (h : Live log P sure L p) {b : ByteArray} (hb : b.size ≤ 65536) : Live log (P ++ [b]) sure L (more p b) := by
  have hi := h.inc.init
  have hp := h.inc.2 p (by simp)
  obtain ⟨k, k1, k2, k3⟩ := h.sure
  refine ⟨hi.1.snoc hi.2 hp.1 hp.2, (chain_snoc _ _ _).2 ⟨((chain_snoc _ _ _).1 h.chain).1, ((chain_snoc _ _ _).1 h.chain).2⟩, ?_, fun q hq => ?_, h.old, ?_, fun x hx => ?_, ⟨k, ?_, ?_, k3⟩, fun q hq => ?_⟩
  · rw [bods_append, bods_one]
    show _ ++ (p.1.bs ++ [b]) = _
    rw [← List.append_assoc, h.bodsE]
  · rcases List.mem_append.1 hq with hq | hq
    · exact h.all q (List.mem_append_left _ hq)
    · rw [List.mem_singleton.1 hq]
      show (p.1.data ++ frame b).data.toList = frames (p.1.bs ++ [b])
      rw [app_list, frames_append, frames_one, h.all p (by simp)]
  · show p.2 ≤ (p.1.data ++ frame b).size
    rw [ByteArray.size_append]; have := h.syn; omega
  · rcases List.mem_append.1 hx with hx | hx
    · exact h.small x hx
    · rw [List.mem_singleton.1 hx]; exact hb
  · show k ≤ (p.1.bs ++ [b]).length
    rw [List.length_append]; omega
  · show offs (p.1.bs ++ [b]) k ≤ p.2
    rw [offs_le b k1]; exact k2
  · rcases List.mem_append.1 hq with hq | hq
    · exact h.tl q (List.mem_append_left _ hq)
    · rw [List.mem_singleton.1 hq]; rfl
/-- the last file synced -/
def synced (p : Sy) : Sy := (p.1, p.1.data.size)
theorem Live.synced (h : Live log P sure L p) {s : Nat} (hs : s ≤ P.length) : Live log P s L (synced p) := by
  have hi := h.inc.init
  have hp := h.inc.2 p (by simp)
  refine ⟨hi.1.snoc hi.2 hp.1 hp.2, h.chain, h.bods, fun q hq => ?_, h.old, Nat.le_refl _, h.small, ⟨p.1.bs.length, Nat.le_refl _, ?_, ?_⟩, fun q hq => ?_⟩
  · rcases List.mem_append.1 hq with hq | hq
    · exact h.all q (List.mem_append_left _ hq)
    · rw [List.mem_singleton.1 hq]; exact h.all p (by simp)
  · show offs p.1.bs p.1.bs.length ≤ p.1.data.size
    rw [offs_all]; exact Nat.le_of_eq h.size.symm
  · show s ≤ (Proofs.YtkpoecofblhggaaGreatDoor.bods (sgs L)).length + p.1.bs.length
    rw [← List.length_append, h.bodsE]; exact hs
  · rcases List.mem_append.1 hq with hq | hq
    · exact h.tl q (List.mem_append_left _ hq)
    · rw [List.mem_singleton.1 hq]; exact h.tl p (by simp)
theorem Live.count (h : Live log P sure L p) : sure ≤ P.length := by
  obtain ⟨k, k1, _, k3⟩ := h.sure
  rw [← h.bodsE, List.length_append]; omega
/-- a new file behind -/
def fresh (n : Nat) : Sy := (⟨n, [], [], ⟨#[]⟩⟩, 0)
theorem Live.fresh (h : Live log P sure L (Proofs.YtkpoecofblhggaaGreatDoor.synced p)) (hne : p.1.bs ≠ []) (hl : P.length + 1 < 100) : Live log P sure (L ++ [Proofs.YtkpoecofblhggaaGreatDoor.synced p]) (Proofs.YtkpoecofblhggaaGreatDoor.fresh (P.length + 1)) := by
  have hb := h.bodsE
  have hfr := h.fr
  have hlen : P.length = (Proofs.YtkpoecofblhggaaGreatDoor.bods (sgs L)).length + p.1.bs.length := by rw [← hb, List.length_append]; rfl
  have hpos : 0 < p.1.bs.length := List.length_pos_iff.2 hne
  have hfr' : p.1.fr = 1 + (Proofs.YtkpoecofblhggaaGreatDoor.bods (sgs L)).length := hfr
  have e1 : Proofs.YtkpoecofblhggaaGreatDoor.bods (sgs (L ++ [Proofs.YtkpoecofblhggaaGreatDoor.synced p])) = P := by rw [sgs_append, sgs_one, h.bods]
  refine ⟨h.inc.snoc (fun q hq => ?_) (by show 1 ≤ P.length + 1; omega) hl, (chain_snoc _ _ _).2 ⟨by rw [sgs_append, sgs_one]; exact h.chain, by rw [e1]; show P.length + 1 = _; omega⟩, ?_, fun q hq => ?_, fun q hq => ?_, Nat.le_refl _, h.small, ⟨0, Nat.zero_le _, Nat.le_refl _, ?_⟩, fun q hq => ?_⟩
  · show q.1.fr < P.length + 1
    rcases List.mem_append.1 hq with hq | hq
    · have := h.inc.init.2 q hq
      have e : (Proofs.YtkpoecofblhggaaGreatDoor.synced p).1.fr = p.1.fr := rfl
      omega
    · rw [List.mem_singleton.1 hq]
      show p.1.fr < _
      omega
  · rw [bods_append, e1, bods_one]; exact List.append_nil _
  · rcases List.mem_append.1 hq with hq | hq
    · exact h.all q hq
    · rw [List.mem_singleton.1 hq]; rfl
  · rcases List.mem_append.1 hq with hq | hq
    · exact h.old q hq
    · rw [List.mem_singleton.1 hq]; exact ⟨hne, rfl⟩
  · rw [e1]; exact h.count
  · rcases List.mem_append.1 hq with hq | hq
    · exact h.tl q hq
    · rw [List.mem_singleton.1 hq]; rfl
end
end

section
open Go.RowKit Go.Maps

variable {log : ByteArray} {P : List ByteArray} {sure : Nat} {L : List Sy} {p : Sy} {f : Int} {b : ByteArray}
/-- the record is put behind, or the power has failed and it may be -/
def Put (log : ByteArray) (P : List ByteArray) (sure : Nat) (b : ByteArray) (f : Int) (r : Rs) : Prop :=
  (∃ L' p' f', r = (0, DU (fsL log L' p') f', xOf log (P ++ [b]) L' p') ∧ Live log (P ++ [b]) sure L' p' ∧ 0 ≤ f' ∧ (f = 0 → f' = 0)) ∨
  ∃ L' p' P' x', r = (7, DW (fsL log L' p'), x') ∧ Live log P' sure L' p' ∧ (P' = P ∨ P' = P ++ [b]) ∧ x'.log = log
theorem Put.mono {g : Int} {r : Rs} (h : f = 0 → g = 0) (hp : Put log P sure b g r) : Put log P sure b f r := by
  rcases hp with ⟨L', p', f', h1, h2, h3, h4⟩ | hp
  · exact .inl ⟨L', p', f', h1, h2, h3, fun e => h4 (h e)⟩
  · exact .inr hp
theorem fsL_more (h : Live log P sure L p) (b : ByteArray) : fput (fsL log L p) (fileL log p.1.fr) ⟨p.1.data ++ frame b, p.2⟩ = fsL log L (more p b) := fput_last h.ahead _ _
theorem fsL_synced (h : Live log P sure L p) : fput (fsL log L p) (fileL log p.1.fr) ⟨p.1.data, p.1.data.size⟩ = fsL log L (synced p) := fput_last h.ahead _ _
theorem toldX_log (e : Int) (x : Lg) : (toldX e x).log = x.log := by unfold toldX; split <;> rfl
theorem xOf_more : xOf log (P ++ [b]) L (more p b) = { xOf log P L p with size := (xOf log P L p).size + (frame b).size, last := (xOf log P L p).last + 1 } := by
  unfold xOf more
  simp only [List.length_append, List.length_cons, List.length_nil, ByteArray.size_append]
theorem Live.putS (h : Live log P sure L p) (hf : 0 ≤ f) (hb : b.size ≤ 65536) (hs : p.1.data.size + (frame b).size ≤ 1048576) : Put log P sure b f (Proofs.YtkpoecofblhggaaGreatDoor.putS b (0, DU (fsL log L p) f, xOf log P L p)) := by
  have ha := du_append (f := f) (y := frame b) h.get hs
  rw [fsL_more h b] at ha
  have e : (xOf log P L p).nm = fileL log p.1.fr := rfl
  unfold Proofs.YtkpoecofblhggaaGreatDoor.putS
  dsimp only
  rw [e]
  by_cases h1 : f = 1
  · rw [(ha.2 h1).1, (ha.2 h1).2, if_neg (by decide)]
    exact .inr ⟨L, Proofs.YtkpoecofblhggaaGreatDoor.more p b, P ++ [b], _, rfl, h.more hb, .inr rfl, toldX_log _ _⟩
  · rw [(ha.1 h1).1, (ha.1 h1).2, if_pos rfl, ← xOf_more]
    exact .inl ⟨L, Proofs.YtkpoecofblhggaaGreatDoor.more p b, fdec f, rfl, h.more hb, fdec_nn hf, fun e => by subst e; rfl⟩
theorem Live.append (h : Live log P sure L p) (hok : logOk log.data.toList = true) (hf : 0 ≤ f) (hb : b.size ≤ 65536) (hP : flen P + (frame b).size ≤ 1000000) (hn : P.length + 1 < 98) : Put log P sure b f (appendS (DU (fsL log L p) f) (xOf log P L p) b) := by
  have hsz := h.le
  have e : (xOf log P L p).nm = fileL log p.1.fr := rfl
  by_cases hz : 16384 ≤ p.1.data.size
  · have hne : p.1.bs ≠ [] := by
      intro e1
      have := h.size
      rw [e1] at this
      have h2 : flen [] = 0 := rfl
      omega
    have hsy := du_sync (f := f) h.get
    rw [fsL_synced h] at hsy
    by_cases h1 : f = 1
    · rw [turn_no hb h.off hz (by rw [e, (hsy.2 h1).1]; decide), e, (hsy.2 h1).1, (hsy.2 h1).2]
      exact .inr ⟨L, p, P, _, rfl, h, .inl rfl, toldX_log _ _⟩
    · have hs := h.synced h.count
      have hlen : P.length = (Proofs.YtkpoecofblhggaaGreatDoor.bods (sgs L)).length + p.1.bs.length := by rw [← h.bodsE, List.length_append]
      have hpos : 0 < p.1.bs.length := List.length_pos_iff.2 hne
      have hfr := h.fr
      have hfr2 := hs.fresh hne (by omega)
      have hai : Ahead (fsL log L (Proofs.YtkpoecofblhggaaGreatDoor.synced p)) (fileL log (P.length + 1)) := by
        rw [← fsL_eq]
        exact hfr2.ahead
      have hcr := du_create (f := fdec f) (name_file hok (P.length + 1)) (fget_ahead hai) (by
        have := h.len
        unfold fsL fsOf
        simp only [List.length_append, List.length_map, List.length_cons, List.length_nil]
        omega)
      have hro : rotateS (syncD (DU (fsL log L p) f) (xOf log P L p).nm) (xOf log P L p) = (createE (DU (fsL log L (Proofs.YtkpoecofblhggaaGreatDoor.synced p)) (fdec f)) (fileL log (P.length + 1)), createD (DU (fsL log L (Proofs.YtkpoecofblhggaaGreatDoor.synced p)) (fdec f)) (fileL log (P.length + 1)), if createE (DU (fsL log L (Proofs.YtkpoecofblhggaaGreatDoor.synced p)) (fdec f)) (fileL log (P.length + 1)) = 0 then xOf log P (L ++ [Proofs.YtkpoecofblhggaaGreatDoor.synced p]) (Proofs.YtkpoecofblhggaaGreatDoor.fresh (P.length + 1)) else xOf log P L p) := by
        rw [e, (hsy.1 h1).2]
        unfold rotateS
        rw [if_neg (show ¬ (xOf log P L p).last < (xOf log P L p).fr by show ¬ P.length < p.1.fr; omega)]
        have ex : xOf log P (L ++ [Proofs.YtkpoecofblhggaaGreatDoor.synced p]) (Proofs.YtkpoecofblhggaaGreatDoor.fresh (P.length + 1)) = { xOf log P L p with fr := P.length + 1, size := 0, old := L.map (·.1.fr) ++ [p.1.fr] } := by
          unfold xOf Proofs.YtkpoecofblhggaaGreatDoor.fresh Proofs.YtkpoecofblhggaaGreatDoor.synced
          simp
          rfl
        rw [ex]
        rfl
      by_cases h2 : fdec f = 1
      · rw [(hcr.2 h2).1, (hcr.2 h2).2, if_neg (by decide)] at hro
        rw [turn_no2 hb h.off hz (by rw [e]; exact (hsy.1 h1).1) hro (by decide)]
        exact .inr ⟨L, Proofs.YtkpoecofblhggaaGreatDoor.synced p, P, _, rfl, hs, .inl rfl, toldX_log _ _⟩
      · rw [(hcr.1 h2).1, (hcr.1 h2).2, if_pos rfl, fput_end hai] at hro
        rw [turn_yes hb h.off hz (by rw [e]; exact (hsy.1 h1).1) hro]
        have ef : fsL log L (Proofs.YtkpoecofblhggaaGreatDoor.synced p) ++ [(fileL log (P.length + 1), (⟨⟨#[]⟩, 0⟩ : Fl))] = fsL log (L ++ [Proofs.YtkpoecofblhggaaGreatDoor.synced p]) (Proofs.YtkpoecofblhggaaGreatDoor.fresh (P.length + 1)) := by
          rw [← fsL_eq]; rfl
        rw [ef]
        exact (hfr2.putS (fdec_nn (fdec_nn hf)) hb (by show 0 + _ ≤ _; omega)).mono (fun e => by subst e; rfl)
  · unfold appendS addS
    rw [if_neg (by omega), if_pos h.off, off_zero h.off, if_neg (show ¬ 16384 ≤ (xOf log P L p).size from hz)]
    exact h.putS hf hb (by omega)
/-- 'Sync' of a log without a fuse -/
theorem Live.sync (h : Live log P sure L p) : syncS (DU (fsL log L p) 0) (xOf log P L p) = (0, DU (fsL log L (Proofs.YtkpoecofblhggaaGreatDoor.synced p)) 0, xOf log P L (Proofs.YtkpoecofblhggaaGreatDoor.synced p)) := by
  have e : (xOf log P L p).nm = fileL log p.1.fr := rfl
  have hsy := (du_sync (f := 0) h.get).1 (by decide)
  rw [fsL_synced h] at hsy
  unfold syncS
  rw [if_pos h.off, off_zero h.off]
  unfold syncT
  rw [e, hsy.1, hsy.2]
  rfl
end

section
open Go.RowKit Go.Maps

/-- the files of a log, all synced; its whole records are A -/
structure St (log : ByteArray) (A : List ByteArray) (L : List Sy) (p : Sy) : Prop where
  inc : Inc (L ++ [p])
  chain : Chain 1 (sgs L ++ [p.1])
  bods : bods (sgs L ++ [p.1]) = A
  ok : ∀ q ∈ L ++ [p], Text q.1.data q.1.bs q.1.t ∧ Torn q.1.t ∧ q.2 = q.1.data.size ∧ q.1.data.size ≤ 1048576
variable {log : ByteArray} {A P : List ByteArray} {sure : Nat} {L : List Sy} {p : Sy} {f : Int} {b : ByteArray}
theorem crash_old : ∀ (F : Fs) (ks : List Int) (G : Fs), (∀ x ∈ F, x.2.data.size = x.2.syn) → crashF ks (F ++ G) = F ++ crashF ks G
  | [], _, _, _ => rfl
  | x :: r, ks, G, h => by
    rw [List.cons_append, crashF, if_pos (h x (List.mem_cons_self ..)), crash_old r ks G fun y hy => h y (List.mem_cons_of_mem _ hy)]
    rfl
theorem crash_one (k : Nm) (y : ByteArray) (s : Nat) (hs : s ≤ y.size) (ks : List Int) : ∃ c, s ≤ c ∧ c ≤ y.size ∧ crashF ks [(k, ⟨y, s⟩)] = [(k, ⟨y.extract 0 c, c⟩)] := by
  by_cases h : y.size = s
  · refine ⟨s, Nat.le_refl _, hs, ?_⟩
    have e : y.extract 0 s = y := ba_ext (by rw [ext_list, ← h, ← len_list y, List.drop_zero, Nat.sub_zero, List.take_length])
    rw [e]
    simp [crashF, h]
  · refine ⟨stays ks (y.size - s) + s, by omega, ?_, ?_⟩
    · unfold stays; omega
    · simp [crashF, h]
theorem St.synced (h : St log A L p) : ∀ x ∈ fsL log L p, x.2.data.size = x.2.syn := fun x hx => by
  rw [← fsL_eq] at hx
  obtain ⟨q, hq, rfl⟩ := List.mem_map.1 hx
  exact (h.ok q hq).2.2.1.symm
theorem St.crash (h : St log A L p) (ks : List Int) : crashF ks (fsL log L p) = fsL log L p := by
  have := crash_old (fsL log L p) ks [] h.synced
  rwa [List.append_nil, show crashF ks [] = [] from by cases ks <;> rfl, List.append_nil] at this
theorem Live.crash (h : Live log P sure L p) (ks : List Int) (hP : flen P ≤ 1000000) : ∃ A q, crashF ks (fsL log L p) = fsL log L q ∧ St log A L q ∧ A <+: P ∧ sure ≤ A.length := by
  obtain ⟨c, c1, c2, c3⟩ := crash_one (fileL log p.1.fr) p.1.data p.2 h.syn ks
  have hpm : p ∈ L ++ [p] := by simp
  have hall := h.all p hpm
  have hsm : ∀ q ∈ L ++ [p], ∀ b ∈ q.1.bs, b.size ≤ 65536 := fun q hq b hb => h.small b (by
    rw [← h.bods]
    unfold Proofs.YtkpoecofblhggaaGreatDoor.bods
    rw [List.mem_flatMap]
    exact ⟨q.1, by
      have : q.1 ∈ sgs (L ++ [p]) := List.mem_map.2 ⟨q, hq, rfl⟩
      rwa [sgs_append, sgs_one] at this, hb⟩)
  obtain ⟨j, t, j1, j2, j3, j4⟩ := cut_text p.1.bs c (hsm p hpm) (by rw [← h.size]; exact c2)
  obtain ⟨k, k1, k2, k3⟩ := h.sure
  have hkj := j4 k k1 (by omega)
  have hi := h.inc.init
  have hp := h.inc.2 p hpm
  have hch := (chain_snoc 1 (sgs L) p.1).1 h.chain
  have hle := h.le
  refine ⟨Proofs.YtkpoecofblhggaaGreatDoor.bods (sgs L) ++ p.1.bs.take j, (⟨p.1.fr, p.1.bs.take j, t, p.1.data.extract 0 c⟩, c), ?_, ⟨hi.1.snoc hi.2 hp.1 hp.2, (chain_snoc _ _ _).2 ⟨hch.1, hch.2⟩, by rw [bods_append, bods_one], fun q hq => ?_⟩, ?_, ?_⟩
  · unfold fsL
    rw [crash_old _ _ _ (fun x hx => by
      obtain ⟨q, hq, rfl⟩ := List.mem_map.1 hx
      exact (h.old q hq).2.symm)]
    congr 1
  · rcases List.mem_append.1 hq with hq | hq
    · have hqm : q ∈ L ++ [p] := List.mem_append_left _ hq
      have hlq : q.1.data.size ≤ flen P := by
        rw [size_of (h.all q hqm), ← h.bodsE, flen_append]
        have : ∀ (M : List Sy), q ∈ M → flen q.1.bs ≤ flen (Proofs.YtkpoecofblhggaaGreatDoor.bods (sgs M)) := by
          intro M
          induction M with
          | nil => intro hm; cases hm
          | cons x r ih =>
            intro hm
            have e : Proofs.YtkpoecofblhggaaGreatDoor.bods (sgs (x :: r)) = x.1.bs ++ Proofs.YtkpoecofblhggaaGreatDoor.bods (sgs r) := by simp [sgs, Proofs.YtkpoecofblhggaaGreatDoor.bods]
            rw [e, flen_append]
            rcases List.mem_cons.1 hm with hm | hm
            · subst hm; omega
            · have := ih hm; omega
        have := this L hq
        omega
      exact ⟨⟨by rw [h.tl q hqm, List.append_nil]; exact h.all q hqm, hsm q hqm⟩, by rw [h.tl q hqm]; exact torn_nil, (h.old q hq).2, by omega⟩
    · rw [List.mem_singleton.1 hq]
      have hsz : (p.1.data.extract 0 c).size = c := by rw [ByteArray.size_extract]; omega
      refine ⟨⟨?_, fun b hb => hsm p hpm b (List.mem_of_mem_take hb)⟩, j3, hsz.symm, by show (p.1.data.extract 0 c).size ≤ _; omega⟩
      show (p.1.data.extract 0 c).data.toList = frames (p.1.bs.take j) ++ t
      rw [ext_list, hall, List.drop_zero, Nat.sub_zero, j2]
  · rw [← h.bodsE]
    exact List.prefix_append_right_inj _ |>.2 (List.take_prefix _ _)
  · rw [List.length_append, List.length_take]; omega
theorem St.ahead (h : St log A L p) : Ahead (fsOf log L) (fileL log p.1.fr) := Inc.ahead (h.inc.2 p (by simp)).2 h.inc.init.2
theorem St.get (h : St log A L p) : fget (fsL log L p) (fileL log p.1.fr) = some ⟨p.1.data, p.2⟩ := fget_end h.ahead _
theorem St.bodsE (h : St log A L p) : Proofs.YtkpoecofblhggaaGreatDoor.bods (sgs L) ++ p.1.bs = A := by rw [← h.bods, bods_append, bods_one]
theorem St.fr (h : St log A L p) : p.1.fr = 1 + (Proofs.YtkpoecofblhggaaGreatDoor.bods (sgs L)).length := ((chain_snoc 1 (sgs L) p.1).1 h.chain).2
theorem St.lenA (h : St log A L p) : A.length = (Proofs.YtkpoecofblhggaaGreatDoor.bods (sgs L)).length + p.1.bs.length := by rw [← h.bodsE, List.length_append]
theorem inc_len {M : List Sy} (h : Inc M) : M.length ≤ 99 := by
  have : ∀ (M : List Sy) (n : Nat), M.Pairwise (fun a b => a.1.fr < b.1.fr) → (∀ q ∈ M, n ≤ q.1.fr ∧ q.1.fr < 100) → M.length + n ≤ 100 ∨ M = [] := by
    intro M
    induction M with
    | nil => intro n _ _; exact .inr rfl
    | cons q r ih =>
      intro n hp hq
      have hp' := List.pairwise_cons.1 hp
      have h2 := hq q (List.mem_cons_self ..)
      rcases ih (n + 1) hp'.2 (fun x hx => ⟨by have := hp'.1 x hx; omega, (hq x (List.mem_cons_of_mem _ hx)).2⟩) with h3 | h3
      · left; rw [List.length_cons]; omega
      · subst h3; left; simp; omega
  rcases this M 1 h.1 h.2 with h2 | h2
  · omega
  · rw [h2]; simp
theorem fsL_len (log : ByteArray) (L : List Sy) (p : Sy) : (fsL log L p).length = L.length + 1 := by unfold fsL fsOf; simp
theorem fsL_same (h : St log A L p) : fput (fsL log L p) (fileL log p.1.fr) ⟨p.1.data, p.1.data.size⟩ = fsL log L p := by
  have := fput_last h.ahead ⟨p.1.data, p.2⟩ ⟨p.1.data, p.1.data.size⟩
  have e : fsL log L p = fsOf log L ++ [(fileL log p.1.fr, (⟨p.1.data, p.2⟩ : Fl))] := rfl
  rw [e, this, (h.ok p (by simp)).2.2.1]
/-- a new file behind one that may be torn -/
theorem St.fresh (h : St log A L p) (hne : p.1.bs ≠ []) (hl : A.length + 1 < 100) : St log A (L ++ [p]) (Proofs.YtkpoecofblhggaaGreatDoor.fresh (A.length + 1)) := by
  have hfr := h.fr
  have hlen := h.lenA
  have hpos : 0 < p.1.bs.length := List.length_pos_iff.2 hne
  have e1 : Proofs.YtkpoecofblhggaaGreatDoor.bods (sgs (L ++ [p])) = A := by rw [sgs_append, sgs_one, h.bods]
  refine ⟨h.inc.snoc (fun q hq => ?_) (by show 1 ≤ A.length + 1; omega) hl, (chain_snoc _ _ _).2 ⟨by rw [sgs_append, sgs_one]; exact h.chain, by rw [e1]; show A.length + 1 = _; omega⟩, ?_, fun q hq => ?_⟩
  · show q.1.fr < A.length + 1
    rcases List.mem_append.1 hq with hq | hq
    · have := h.inc.init.2 q hq
      omega
    · rw [List.mem_singleton.1 hq]
      omega
  · rw [bods_append, e1, bods_one]; exact List.append_nil _
  · rcases List.mem_append.1 hq with hq | hq
    · exact h.ok q hq
    · rw [List.mem_singleton.1 hq]; exact ⟨⟨rfl, fun b hb => by cases hb⟩, torn_nil, rfl, by show 0 ≤ _; omega⟩
/-- the last file empty -/
theorem St.empty (h : St log A L p) (he : p.1.bs = []) : St log A L (Proofs.YtkpoecofblhggaaGreatDoor.fresh p.1.fr) := by
  have hi := h.inc.init
  have hp := h.inc.2 p (by simp)
  have hch := (chain_snoc 1 (sgs L) p.1).1 h.chain
  refine ⟨hi.1.snoc hi.2 hp.1 hp.2, (chain_snoc _ _ _).2 ⟨hch.1, hch.2⟩, ?_, fun q hq => ?_⟩
  · rw [bods_append, bods_one, ← h.bodsE, he]; rfl
  · rcases List.mem_append.1 hq with hq | hq
    · exact h.ok q (List.mem_append_left _ hq)
    · rw [List.mem_singleton.1 hq]; exact ⟨⟨rfl, fun b hb => by cases hb⟩, torn_nil, rfl, by show 0 ≤ _; omega⟩
theorem froms_last (L : List Sy) (p : Sy) : (froms (sgs L ++ [p.1])).dropLast = L.map (·.1.fr) := by
  unfold froms sgs
  rw [List.map_append, List.map_cons, List.map_nil, List.dropLast_concat, List.map_map]
  rfl
/-- what 'scan' makes of such files -/
theorem St.scan (h : St log A L p) (hok : logOk log.data.toList = true) (hn : A.length + 1 < 99) : ∃ L2 p2, scanS (DU (fsL log L p) 0) log 1 (sgs L ++ [p.1]) p.1 = (0, DU (fsL log L2 p2) 0, xOf log A L2 p2) ∧ St log A L2 p2 ∧ p2.1.t = [] := by
  have hsy := (du_sync (f := 0) h.get).1 (by decide)
  rw [fsL_same h] at hsy
  have hd : syncD (DU (fsL log L p) 0) (fileL log p.1.fr) = DU (fsL log L p) 0 := hsy.2
  have hx : scanX log 1 (sgs L ++ [p.1]) p.1 = xOf log A L p := by
    unfold scanX xOf
    rw [froms_last, h.bods, Nat.add_sub_cancel_left]
  have hT := (h.ok p (by simp)).1
  have hl := hT.len
  rw [offs_all] at hl
  unfold scanS
  rw [hd, hx]
  by_cases hw : flen p.1.bs = p.1.data.size
  · rw [if_pos hw]
    exact ⟨L, p, rfl, h, List.eq_nil_of_length_eq_zero (by omega)⟩
  · rw [if_neg hw]
    unfold rotateS
    by_cases he : p.1.bs = []
    · have hlen := h.lenA
      have hfr := h.fr
      rw [he] at hlen
      rw [if_pos (show (xOf log A L p).last < (xOf log A L p).fr by show A.length < p.1.fr; rw [hlen, hfr]; simp)]
      have haf : Ahead (fsL log L p) (freshL log) := by rw [← fsL_eq]; exact Inc.ahead_fresh log _
      have hlenL := inc_len h.inc
      rw [List.length_append] at hlenL
      have hcr := (du_create (f := 0) (name_fresh hok) (fget_ahead haf) (by rw [fsL_len]; simp at hlenL; omega)).1 (by decide)
      rw [fput_end haf] at hcr
      refine ⟨L, Proofs.YtkpoecofblhggaaGreatDoor.fresh p.1.fr, ?_, h.empty he, rfl⟩
      have ec1 : createE (DU (fsL log L p) 0) (freshL (xOf log A L p).log) = 0 := hcr.1
      have ec2 : createD (DU (fsL log L p) 0) (freshL (xOf log A L p).log) = DU (fsL log L p ++ [(freshL log, (⟨⟨#[]⟩, 0⟩ : Fl))]) (fdec 0) := hcr.2
      unfold emptyS
      rw [if_pos (.inl ec1), ec2]
      have hg := fget_end haf ⟨⟨#[]⟩, 0⟩
      have hre : renameE (DU (fsL log L p ++ [(freshL log, (⟨⟨#[]⟩, 0⟩ : Fl))]) (fdec 0)) (freshL log) (fileL log p.1.fr) = 0 := by
        simp [renameE, DU, hg, name_file hok, chgE, fdec]
      have hrd : renameD (DU (fsL log L p ++ [(freshL log, (⟨⟨#[]⟩, 0⟩ : Fl))]) (fdec 0)) (freshL log) (fileL log p.1.fr) = DU (fsL log L (Proofs.YtkpoecofblhggaaGreatDoor.fresh p.1.fr)) 0 := by
        have e2 : renameD (DU (fsL log L p ++ [(freshL log, (⟨⟨#[]⟩, 0⟩ : Fl))]) (fdec 0)) (freshL log) (fileL log p.1.fr) = chg (DU (fsL log L p ++ [(freshL log, (⟨⟨#[]⟩, 0⟩ : Fl))]) (fdec 0)) (fun F => fput (fdel F (freshL log)) (fileL log p.1.fr) ⟨⟨#[]⟩, 0⟩) false := by
          simp [renameD, DU, hg, name_file hok]
        rw [e2, du_chg _ _ (by decide), fdel_end haf]
        show DU (fput (fsOf log L ++ [(fileL log p.1.fr, (⟨p.1.data, p.2⟩ : Fl))]) (fileL log p.1.fr) ⟨⟨#[]⟩, 0⟩) _ = _
        rw [fput_last h.ahead]
        rfl
      exact Prod.ext hre (Prod.ext hrd rfl)
    · have hpos : 0 < p.1.bs.length := List.length_pos_iff.2 he
      have hlen := h.lenA
      have hfr := h.fr
      rw [if_neg (show ¬ (xOf log A L p).last < (xOf log A L p).fr by show ¬ A.length < p.1.fr; omega)]
      have hf2 := h.fresh he (by omega)
      have hai : Ahead (fsL log L p) (fileL log (A.length + 1)) := by rw [← fsL_eq]; exact hf2.ahead
      have hlenL := inc_len h.inc
      rw [List.length_append] at hlenL
      have hcr := (du_create (f := 0) (name_file hok (A.length + 1)) (fget_ahead hai) (by rw [fsL_len]; simp at hlenL; omega)).1 (by decide)
      rw [fput_end hai] at hcr
      have ec1 : createE (DU (fsL log L p) 0) (fileL (xOf log A L p).log ((xOf log A L p).last + 1)) = 0 := hcr.1
      refine ⟨L ++ [p], Proofs.YtkpoecofblhggaaGreatDoor.fresh (A.length + 1), ?_, hf2, rfl⟩
      rw [ec1, if_pos rfl]
      refine Prod.ext rfl (Prod.ext (hcr.2.trans ?_) ?_)
      · rw [← fsL_eq, ← fsL_eq, fsOf_append log (L ++ [p])]
        rfl
      · unfold xOf Proofs.YtkpoecofblhggaaGreatDoor.fresh
        simp
        rfl
theorem St.off (h : St log A L p) : offE (DU (fsL log L p) f) (xOf log A L p) = 0 := du_off (x := xOf log A L p) h.get rfl rfl
/-- one record more, behind an opening -/
theorem St.append (h : St log A L p) (hok : logOk log.data.toList = true) (ht : p.1.t = []) (hb : b.size ≤ 65000) (hz : p.1.data.size ≤ 900000) (hn : A.length + 1 < 98) : ∃ d' x', appendS (DU (fsL log L p) 0) (xOf log A L p) b = (0, d', x') ∧ x'.last = A.length + 1 := by
  have e : (xOf log A L p).nm = fileL log p.1.fr := rfl
  have hfs := frame_size b
  have hput : ∀ {L : List Sy} {p : Sy}, St log A L p → p.1.data.size ≤ 900000 → ∃ d' x', Proofs.YtkpoecofblhggaaGreatDoor.putS b (0, DU (fsL log L p) 0, xOf log A L p) = (0, d', x') ∧ x'.last = A.length + 1 := fun {L p} h hz => by
    have ha := (du_append (f := 0) (y := frame b) h.get (by show p.1.data.size + _ ≤ _; omega)).1 (by decide)
    have e : (xOf log A L p).nm = fileL log p.1.fr := rfl
    unfold Proofs.YtkpoecofblhggaaGreatDoor.putS
    dsimp only
    rw [e, ha.1, if_pos rfl]
    exact ⟨_, _, rfl, rfl⟩
  by_cases hz : 16384 ≤ p.1.data.size
  · have hT := (h.ok p (by simp)).1
    have hl := hT.len
    rw [offs_all, ht] at hl
    have hne : p.1.bs ≠ [] := by
      intro e1
      rw [e1] at hl
      have h2 : flen [] = 0 := rfl
      simp at hl
      omega
    have hsy := (du_sync (f := 0) h.get).1 (by decide)
    rw [fsL_same h] at hsy
    have hpos : 0 < p.1.bs.length := List.length_pos_iff.2 hne
    have hlen := h.lenA
    have hfr := h.fr
    have hf2 := h.fresh hne (by omega)
    have hai : Ahead (fsL log L p) (fileL log (A.length + 1)) := by rw [← fsL_eq]; exact hf2.ahead
    have hlenL := inc_len h.inc
    rw [List.length_append] at hlenL
    have hcr := (du_create (f := 0) (name_file hok (A.length + 1)) (fget_ahead hai) (by rw [fsL_len]; simp at hlenL; omega)).1 (by decide)
    rw [fput_end hai] at hcr
    have hro : rotateS (syncD (DU (fsL log L p) 0) (xOf log A L p).nm) (xOf log A L p) = (0, DU (fsL log (L ++ [p]) (Proofs.YtkpoecofblhggaaGreatDoor.fresh (A.length + 1))) 0, xOf log A (L ++ [p]) (Proofs.YtkpoecofblhggaaGreatDoor.fresh (A.length + 1))) := by
      rw [e, hsy.2]
      unfold rotateS
      rw [if_neg (show ¬ (xOf log A L p).last < (xOf log A L p).fr by show ¬ A.length < p.1.fr; omega)]
      have ec1 : createE (DU (fsL log L p) (fdec 0)) (fileL (xOf log A L p).log ((xOf log A L p).last + 1)) = 0 := hcr.1
      rw [ec1, if_pos rfl]
      refine Prod.ext rfl (Prod.ext (hcr.2.trans ?_) ?_)
      · rw [← fsL_eq, ← fsL_eq, fsOf_append log (L ++ [p])]
        rfl
      · unfold xOf Proofs.YtkpoecofblhggaaGreatDoor.fresh
        simp
        rfl
    rw [turn_yes (by omega) h.off hz (by rw [e]; exact hsy.1) hro]
    exact hput hf2 (by show 0 ≤ _; omega)
  · unfold appendS addS
    rw [if_neg (by omega), if_pos h.off, off_zero h.off, if_neg (show ¬ 16384 ≤ (xOf log A L p).size from hz)]
    exact hput h (by omega)
end
end Go.Proofs.YtkpoecofblhggaaGreatDoor
