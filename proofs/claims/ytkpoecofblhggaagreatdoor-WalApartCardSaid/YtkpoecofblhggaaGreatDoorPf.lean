/-
  For 'WalSynced': the methods over a log that is written on a disk whose power may fail; rows of strings of the call's own.
-/
import Derived.Test.YtkpoecofblhggaaGreatDoorPc
namespace Go.Proofs.YtkpoecofblhggaaGreatDoor
section
open Go.RowKit Go.Maps

/-- v: a slice of the call's own that holds the texts P -/
def PutsAt (w : World) (B : Nat) (v : Value) (P : List ByteArray) : Prop := w.ownsRow B 9 1 v P.length (P.map Value.string)
theorem PutsAt.but {w w' : World} {B : Nat} {v : Value} {P : List ByteArray} {l : List Nat} (h : PutsAt w B v P) (hb : But l w w') (hl : ∀ k ∈ l, k < B ∨ ∀ cs, w.heap[k]? ≠ some (.cells cs 9 (0, 0))) : PutsAt w' B v P := by
  obtain ⟨h1, h2⟩ := h
  refine ⟨h1, h2.imp id ?_⟩
  rintro ⟨g, cap, cur, e, hg, hh, r⟩
  refine ⟨g, cap, cur, e, hg, (hb.block g (heap_lt hh) (fun hm => ?_)).trans hh, r⟩
  rcases hl g hm with h3 | h3
  · omega
  · exact h3 _ hh
theorem PutsAt.below {w w' : World} {B : Nat} {v : Value} {P : List ByteArray} (h : PutsAt w B v P) (hb : Below w.heap.size w w') : PutsAt w' B v P := h.but (l := []) (.of_below hb) (by simp)
variable {W w w' : World} {b sb ob db m B : Nat} {d : Dk} {x : Lg} {log : ByteArray} {A P : List ByteArray} {sure : Nat} {L : List Sy} {p : Sy} {f : Int} {s : ByteArray}
theorem not_str {w : World} {k : Nat} {cs : Array Value} {T : TypeId} (h : w.heap[k]? = some (.cells cs T (0, 0))) (hT : T ≠ 9) : ∀ cs', w.heap[k]? ≠ some (.cells cs' 9 (0, 0)) := fun cs' e => by
  rw [h] at e; injection e with e; injection e with _ e; exact hT e
/-- the older numbers stand in a block that is no row of texts -/
theorem LW.norm (h : LW W w b sb ob db m d x) : ∃ ob', LW W w b sb ob' db m d x ∧ ∀ cs, w.heap[ob']? ≠ some (.cells cs 9 (0, 0)) := by
  obtain ⟨v, h1, h2⟩ := h.wd.wal.blk
  rcases h2 with ⟨e1, e2⟩ | ⟨off, cap, cur, e1, e2, e3⟩
  · refine ⟨sb, ⟨⟨⟨⟨v, h1, .inl ⟨e1, e2⟩⟩, h.wd.wal.seg⟩, h.wd.dat, h.wd.ok, fun k hk => h.wd.dk k (by rcases hk with hk | hk | hk; exact .inl hk; exact .inr (.inl hk); exact .inr (.inl hk))⟩, h.lb, h.lsb, h.lsb, h.ldb, h.lm, h.bel⟩, not_str h.wd.wal.seg (by decide)⟩
  · exact ⟨ob, h, not_str e2 (by decide)⟩
theorem LW.puts (h : LW W w b sb ob db m d x) (ho : ∀ cs, w.heap[ob]? ≠ some (.cells cs 9 (0, 0))) (hB : b < B ∧ db < B ∧ m < B) (hb : But [db, m, b, sb, ob] w w') {v : Value} {Q : List ByteArray} (hq : PutsAt w B v Q) : PutsAt w' B v Q :=
  hq.but hb fun k hk => by
    simp only [List.mem_cons, List.not_mem_nil, or_false] at hk
    rcases hk with rfl | rfl | rfl | rfl | rfl
    · exact .inl hB.2.1
    · exact .inl hB.2.2
    · exact .inl hB.1
    · exact .inr (not_str h.wd.wal.seg (by decide))
    · exact .inr ho
/-- a row of texts has grown -/
theorem LW.grown (h : LW W w b sb ob db m d x) (hB : b < B ∧ db < B ∧ m < B) (hW : W.heap.size ≤ B) {v : Value} {n : Nat} {xs : List Value} (hr : w.ownsRow B 9 1 v n xs) (hg : w.grownBy w' v.ownBlock) : LW W w' b sb ob db m d x := by
  have hz := h.bel.size
  have hlt := h.wd.wal.lt
  have hrow : ∀ k, v.ownBlock = some k → B ≤ k := fun k hk => by
    rcases hr.2 with ⟨rfl, _⟩ | ⟨g, cap, cur, rfl, hb, _⟩
    · cases hk
    · have : g = k := by simpa [Value.ownBlock] using hk
      omega
  have hkeep : ∀ (k : Nat) (o : Obj), w.heap[k]? = some o → (k < B ∨ ∀ cs, o ≠ .cells cs 9 (0, 0)) → w'.heap[k]? = some o := fun k o hk ho => (hg.block k (heap_lt hk) (fun e => by
    rcases ho with ho | ho
    · have := hrow k e.symm; omega
    · rcases hr.2 with ⟨rfl, _⟩ | ⟨g, cap, cur, rfl, _, hh, _⟩
      · cases e
      · have : g = k := by simpa [Value.ownBlock] using e.symm
        subst this
        rw [hk] at hh; injection hh with hh; exact ho _ hh)).trans hk
  have hbut : But v.ownBlock.toList w w' := ⟨hg.os, hg.tape, hg.output, hg.size, fun k hk hn => hg.block k hk (fun e => hn (by rw [← e]; simp))⟩
  have hn1 : ∀ k, k < B → k ∉ v.ownBlock.toList := fun k hk hm => by
    cases hv : v.ownBlock with
    | none => rw [hv] at hm; simp at hm
    | some g => rw [hv] at hm; have := hrow g hv; simp at hm; omega
  obtain ⟨u, h1, h2⟩ := h.wd.wal.blk
  refine ⟨⟨⟨⟨u, hkeep b _ h1 (.inl hB.1), h2.block fun cur hk => hkeep ob _ hk (.inr (fun cs e => by injection e with _ e2; exact absurd e2 (by decide)))⟩, hkeep sb _ h.wd.wal.seg (.inr (fun cs e => by injection e with _ e2; exact absurd e2 (by decide)))⟩, h.wd.dat.but hbut (hn1 db hB.2.1) (hn1 m hB.2.2), h.wd.ok, h.wd.dk⟩, h.lb, h.lsb, h.lob, h.ldb, h.lm, h.bel.grown hg hz (fun k hk => by have := hrow k hk; omega)⟩
/-- what 'Append' answers and leaves: the record is put behind, or the power has failed -/
def AppOk (W : World) (b db m : Nat) (log : ByteArray) (P : List ByteArray) (sure : Nat) (s : ByteArray) (f : Int) (w' : World) : Prop :=
  ∃ L' p' f' sb' ob', LW W w' b sb' ob' db m (DU (fsL log L' p') f') (xOf log (P ++ [s]) L' p') ∧ Live log (P ++ [s]) sure L' p' ∧ 0 ≤ f' ∧ (f = 0 → f' = 0)
def AppNo (W : World) (b db m : Nat) (log : ByteArray) (P : List ByteArray) (sure : Nat) (s : ByteArray) (w' : World) : Prop :=
  ∃ L' p' P' x' sb' ob', LW W w' b sb' ob' db m (DW (fsL log L' p')) x' ∧ Live log P' sure L' p' ∧ (P' = P ∨ P' = P ++ [s])
theorem LW.appendL (h : LW W w b sb ob db m (DU (fsL log L p) f) (xOf log P L p)) (hv : Live log P sure L p) (hB : b < B ∧ db < B ∧ m < B) (hl : log.size ≤ 1000) (hok : logOk log.data.toList = true) (hf : 0 ≤ f) (hs : s.size ≤ 65536) (hP : flen P + (frame s).size ≤ 1000000) (hn : P.length + 1 < 98) :
    Calls Tryz.prog 10 #[.pointer (some ⟨b, 0, none⟩), .string s] w fun e w' => (∀ v Q, PutsAt w B v Q → PutsAt w' B v Q) ∧ ((e = .returned (.tuple #[.int .i64 ((P.length + 1 : Nat) : Int), .int .i64 0]) ∧ AppOk W b db m log P sure s f w') ∨ (e = .returned (.tuple #[.int .i64 0, .int .i64 7]) ∧ AppNo W b db m log P sure s w')) := by
  obtain ⟨ob', h', ho⟩ := h.norm
  have hle := hv.le
  have hlen := hv.len
  have hc : Calls Tryz.prog 10 #[.pointer (some ⟨b, 0, none⟩), .string s] w (ApP w b sb ob' db m (DU (fsL log L p) f) (xOf log P L p) s) := by
    by_cases hz : 16384 ≤ (xOf log P L p).size
    · exact wappend_turn w b sb ob' db m _ _ s h'.wd hl (by show P.length < 98; omega) (by show (L.map _).length ≤ 1000; rw [List.length_map]; omega) hz (by show p.1.data.size ≤ _; omega) hs hv.off
    · exact wappend_put w b sb ob' db m _ _ s h'.wd hl (by show P.length < 98; omega) (by omega) hs hv.off
  refine hc.mono fun e w' ⟨he, hw⟩ => ?_
  have hbut : But [db, m, b, sb, ob'] w w' := by obtain ⟨_, _, _, hb, _⟩ := hw; exact hb
  refine ⟨fun v Q hq => h'.puts ho hB hbut hq, ?_⟩
  unfold appendN at he
  rcases hv.append hok hf hs hP hn with ⟨L', p', f', hr, hl', hf'⟩ | ⟨L', p', P', x', hr, hl', hp', _⟩
  · rw [hr] at he hw
    obtain ⟨sb2, ob2, h2⟩ := h'.wr hw
    refine .inl ⟨?_, L', p', f', sb2, ob2, h2, hl', hf'⟩
    rw [he, if_pos rfl]
    show Ending.returned (.tuple #[.int .i64 (((P ++ [s]).length : Nat) : Int), _]) = _
    rw [List.length_append]
    rfl
  · rw [hr] at he hw
    obtain ⟨sb2, ob2, h2⟩ := h'.wr hw
    exact .inr ⟨by rw [he]; rfl, L', p', P', x', sb2, ob2, h2, hl', hp'⟩
theorem LW.longL (h : LW W w b sb ob db m d x) (hB : b < B ∧ db < B ∧ m < B) (hs : s.size ≤ maxLen) (hb : 65536 < s.size) :
    Calls Tryz.prog 10 #[.pointer (some ⟨b, 0, none⟩), .string s] w fun e w' => e = .returned (.tuple #[.int .i64 0, .int .i64 3]) ∧ (∀ v Q, PutsAt w B v Q → PutsAt w' B v Q) ∧ ∃ sb' ob', LW W w' b sb' ob' db m d x := by
  obtain ⟨ob', h', ho⟩ := h.norm
  refine (wappend_long w b sb ob' db m d x s h'.wd hs hb).mono fun e w' ⟨he, hw⟩ => ?_
  have hr : appendS d x s = (3, d, x) := by simp [appendS, hb]
  have hbut : But [db, m, b, sb, ob'] w w' := by obtain ⟨_, _, _, hb, _⟩ := hw; exact hb
  unfold appendN at he
  rw [hr] at he hw
  exact ⟨by rw [he]; rfl, fun v Q hq => h'.puts ho hB hbut hq, h'.wr hw⟩
theorem LW.syncL (h : LW W w b sb ob db m (DU (fsL log L p) 0) (xOf log P L p)) (hv : Live log P sure L p) (hB : b < B ∧ db < B ∧ m < B) (hl : log.size ≤ 1000) :
    Calls Tryz.prog 12 #[.pointer (some ⟨b, 0, none⟩)] w fun e w' => e = .returned (.int .i64 0) ∧ (∀ v Q, PutsAt w B v Q → PutsAt w' B v Q) ∧ ∃ sb' ob', LW W w' b sb' ob' db m (DU (fsL log L (synced p)) 0) (xOf log P L (synced p)) ∧ Live log P P.length L (synced p) := by
  obtain ⟨ob', h', ho⟩ := h.norm
  refine (wsync_any w b sb ob' db m _ _ h'.wd hl).mono fun e w' ⟨he, hw⟩ => ?_
  have hbut : But [db, m, b, sb, ob'] w w' := by obtain ⟨_, _, _, hb, _⟩ := hw; exact hb
  rw [hv.sync] at he hw
  obtain ⟨sb2, ob2, h2⟩ := h'.wr hw
  exact ⟨he, fun v Q hq => h'.puts ho hB hbut hq, sb2, ob2, h2, hv.synced (Nat.le_refl _)⟩
theorem PutsAt.disk {v : Value} {Q : List ByteArray} (hB : db < B ∧ m < B) (hb : But [db, m] w w') (hq : PutsAt w B v Q) : PutsAt w' B v Q :=
  hq.but hb fun k hk => by
    simp only [List.mem_cons, List.not_mem_nil, or_false] at hk
    rcases hk with rfl | rfl
    · exact .inl hB.1
    · exact .inl hB.2
theorem LW.fuseL {F : Fs} (h : LW W w b sb ob db m (DU F f) x) (hB : b < B ∧ db < B ∧ m < B) (n : Int) (hn : n ≤ 9223372036854775807) :
    Calls Tryz.prog 13 #[.pointer (some ⟨db, 0, none⟩), .int .i64 n] w fun e w' => e = .returned (.tuple #[]) ∧ (∀ v Q, PutsAt w B v Q → PutsAt w' B v Q) ∧ LW W w' b sb ob db m (DU F (max n 0)) x :=
  (fuse_any w db m _ h.wd.dat n).mono fun _ _ ⟨he, hd, hb⟩ => ⟨he, fun _ _ hq => hq.disk ⟨hB.2.1, hB.2.2⟩ hb, h.disk hd hb (h.wd.ok.fuse n hn)⟩
theorem In.crashP (h : In W w db m d) (hB : db < B ∧ m < B) (ka : Option Addr) (kn kc : Nat) (ks : List Int) (hkl : ks.length = kn) (hkn : kn ≤ 1000000000000000)
    (hk : 0 < kn → ∃ kb ko, ka = some ⟨kb, ko, none⟩ ∧ kb ≠ db ∧ ∀ i, i < kn → w.cell? ⟨kb, ko + i, none⟩ = some (.int .i64 (ks.getD i 0))) :
    Calls Tryz.prog 14 #[.pointer (some ⟨db, 0, none⟩), .slice ka kn kc] w fun e w' => e = .returned (.tuple #[]) ∧ (∀ v Q, PutsAt w B v Q → PutsAt w' B v Q) ∧ In W w' db m { d with fs := crashF ks d.fs, down := true, fuse := 0 } ∧ But [db, m] w w' :=
  (crash_any w db m d ka kn kc ks h.dat h.ok hkl hkn hk).mono fun _ _ ⟨he, hd, hb⟩ => ⟨he, fun _ _ hq => hq.disk hB hb, h.step hd hb (h.ok.crash ks true), hb⟩
theorem In.startP (h : In W w db m (DW (fsL log L p))) (hst : St log A L p) (hB : db < B ∧ m < B) :
    Calls Tryz.prog 15 #[.pointer (some ⟨db, 0, none⟩)] w fun e w' => e = .returned (.tuple #[]) ∧ (∀ v Q, PutsAt w B v Q → PutsAt w' B v Q) ∧ In W w' db m (DU (fsL log L p) 0) ∧ But [db, m] w w' :=
  (start_any w db m _ h.dat h.ok).mono fun _ _ ⟨he, hd, hb⟩ => by
    have e : startD (DW (fsL log L p)) = DU (fsL log L p) 0 := by
      unfold startD DW DU
      simp only [if_true]
      rw [hst.crash []]
    rw [e] at hd
    exact ⟨he, fun _ _ hq => hq.disk hB hb, h.step hd hb (e ▸ h.ok.start), hb⟩
theorem In.reopen (h : In W w db m (DU (fsL log L p) 0)) (hst : St log A L p) (hl : log.size ≤ 1000) (hok : logOk log.data.toList = true) (hn : A.length + 1 < 99) (hB : db < B ∧ m < B) :
    Calls Tryz.prog 9 #[.pointer (some ⟨db, 0, none⟩), .string log] w fun e w' => (∀ v Q, PutsAt w B v Q → PutsAt w' B v Q) ∧ ∃ b sb ob a c L2 p2, e = .returned (.tuple #[.pointer (some ⟨b, 0, none⟩), .slice a A.length c, .int .i64 0]) ∧ LW W w' b sb ob db m (DU (fsL log L2 p2) 0) (xOf log A L2 p2) ∧ St log A L2 p2 ∧ p2.1.t = [] ∧ RecsAt w' w.heap.size (.slice a A.length c) (numb 1 A) ∧ But [db, m] w w' := by
  obtain ⟨L2, p2, hs, hst2, ht2⟩ := hst.scan hok hn
  have hb : Proofs.YtkpoecofblhggaaGreatDoor.bods (sgs L ++ [p.1]) = A := hst.bods
  have hlenL := inc_len hst.inc
  rw [List.length_append] at hlenL
  have hfs : (DU (fsL log L p) 0).fs = fsOf log (L ++ [p]) := (fsL_eq log L p).symm
  have hsg : sgs L ++ [p.1] = sgs (L ++ [p]) := by rw [sgs_append, sgs_one]
  have ho := wopen_scan w db m _ log 1 (sgs L ++ [p.1]) p.1 hl hok h.dat h.ok rfl rfl
    (by rw [hfs]; exact other_fsOf hst.inc) (by rw [hfs, nums_sorted hst.inc, hsg]; rfl) (by simp) hst.chain
    (fun g hg => by
      rw [hsg] at hg
      obtain ⟨q, hq, rfl⟩ := List.mem_map.1 hg
      obtain ⟨h1, h2, h3, h4⟩ := hst.ok q hq
      have h5 := hst.inc.2 q hq
      exact ⟨h1, torn_ends h1 h2 (by omega), ⟨q.2, by rw [hfs]; exact fget_fsOf hst.inc hq⟩, h5.1, h5.2, h4⟩)
    (by unfold sgs; simp at hlenL ⊢; omega) (by rw [hb]; omega) (by rw [hs])
  rw [hs, hb] at ho
  refine ho.mono ?_
  rintro e w' ⟨b, sb, ob, v, rfl, ho⟩
  have hr := ho.recs
  unfold RecsAt at hr
  rw [numb_len] at hr
  obtain ⟨a, c, rfl⟩ := own_slice hr
  exact ⟨fun _ _ hq => hq.disk hB ho.fr, b, sb, ob, a, c, L2, p2, rfl, h.opened ho, hst2, ht2, ho.recs, ho.fr⟩
/-- the first opening: a log without a record -/
theorem live_new {log : ByteArray} : Live log [] 0 [] (fresh 1) := by
  refine ⟨⟨List.pairwise_singleton _ _, fun q hq => ?_⟩, ⟨rfl, trivial⟩, rfl, fun q hq => ?_, (fun q hq => by cases hq), Nat.le_refl _, (fun b hb => by cases hb), ⟨0, Nat.zero_le _, Nat.le_refl _, Nat.zero_le _⟩, fun q hq => ?_⟩
  · rw [List.nil_append, List.mem_singleton] at hq; subst hq; exact ⟨Nat.le_refl _, by show 1 < 100; omega⟩
  · rw [List.nil_append, List.mem_singleton] at hq; subst hq; rfl
  · rw [List.nil_append, List.mem_singleton] at hq; subst hq; rfl
theorem In.openL (h : In W w db m Go.Proofs.YtkpoecofblhggaaGreatDoor.d0) {log : ByteArray} (hl : log.size ≤ 1000) (hok : logOk log.data.toList = true) :
    Calls Tryz.prog 9 #[.pointer (some ⟨db, 0, none⟩), .string log] w fun e w' => ∃ b sb ob a c, e = .returned (.tuple #[.pointer (some ⟨b, 0, none⟩), .slice a 0 c, .int .i64 0]) ∧ LW W w' b sb ob db m (DU (fsL log [] (fresh 1)) 0) (xOf log [] [] (fresh 1)) :=
  (h.open0 hl hok).mono fun e w' ⟨b, sb, ob, a, c, he, h2⟩ => ⟨b, sb, ob, a, c, he, h2⟩
end

section
open Go.RowKit Go.Maps

variable {W w w' : World} {b sb ob db m B : Nat} {d : Dk} {x : Lg} {log : ByteArray} {A P Q : List ByteArray} {sure : Nat} {L : List Sy} {p : Sy} {f : Int} {s : ByteArray}
theorem In.crashL {F : Fs} (h : In W w db m d) (hd : d = DU (fsL log L p) f ∨ d = DW (fsL log L p)) (hv : Live log P sure L p) (hP : flen P ≤ 1000000) (hB : db < B ∧ m < B) (ka : Option Addr) (kn kc : Nat) (ks : List Int) (hkl : ks.length = kn) (hkn : kn ≤ 1000000000000000)
    (hk : 0 < kn → ∃ kb ko, ka = some ⟨kb, ko, none⟩ ∧ kb ≠ db ∧ ∀ i, i < kn → w.cell? ⟨kb, ko + i, none⟩ = some (.int .i64 (ks.getD i 0))) :
    Calls Tryz.prog 14 #[.pointer (some ⟨db, 0, none⟩), .slice ka kn kc] w fun e w' => e = .returned (.tuple #[]) ∧ (∀ v Q, PutsAt w B v Q → PutsAt w' B v Q) ∧ ∃ A q, In W w' db m (DW (fsL log L q)) ∧ St log A L q ∧ A <+: P ∧ sure ≤ A.length := by
  obtain ⟨A, q, hq, hst, h1, h2⟩ := hv.crash ks hP
  refine (h.crashP hB ka kn kc ks hkl hkn hk).mono fun e w' ⟨he, hp, hi, _⟩ => ⟨he, hp, A, q, ?_, hst, h1, h2⟩
  have e1 : ({ d with fs := crashF ks d.fs, down := true, fuse := 0 } : Dk) = DW (fsL log L q) := by
    rw [← hq]
    rcases hd with rfl | rfl <;> rfl
  rwa [e1] at hi
theorem In.crashS (h : In W w db m (DU (fsL log L p) f)) (hst : St log A L p) (hB : db < B ∧ m < B) :
    Calls Tryz.prog 14 #[.pointer (some ⟨db, 0, none⟩), .slice none 0 0] w fun e w' => e = .returned (.tuple #[]) ∧ In W w' db m (DW (fsL log L p)) :=
  (h.crashP hB none 0 0 [] rfl (by omega) (by omega)).mono fun e w' ⟨he, _, hi, _⟩ => ⟨he, by
    have e1 : ({ DU (fsL log L p) f with fs := crashF [] (DU (fsL log L p) f).fs, down := true, fuse := 0 } : Dk) = DW (fsL log L p) := by
      show DW (crashF [] (fsL log L p)) = _
      rw [hst.crash []]
    rwa [e1] at hi⟩
theorem St.lastLe (h : St log A L p) (ht : p.1.t = []) : p.1.data.size ≤ flen A := by
  have hT := (h.ok p (by simp)).1
  have hl := hT.len
  rw [offs_all, ht] at hl
  rw [← h.bodsE, flen_append]
  simp at hl
  omega
theorem flen_prefix (h : A <+: Q) : flen A ≤ flen Q := by
  obtain ⟨r, rfl⟩ := h
  rw [flen_append]; omega
theorem LW.appendSt (h : LW W w b sb ob db m (DU (fsL log L p) 0) (xOf log A L p)) (hst : St log A L p) (ht : p.1.t = []) (hl : log.size ≤ 1000) (hok : logOk log.data.toList = true) (hs : s.size ≤ 65000) (hP : flen A ≤ 900000) (hn : A.length + 1 < 98) :
    Calls Tryz.prog 10 #[.pointer (some ⟨b, 0, none⟩), .string s] w fun e w' => e = .returned (.tuple #[.int .i64 ((A.length + 1 : Nat) : Int), .int .i64 0]) ∧ Below W.heap.size W w' := by
  have hle := hst.lastLe ht
  have hlenL := inc_len hst.inc
  rw [List.length_append] at hlenL
  obtain ⟨d', x', hr, hx⟩ := hst.append hok ht hs (by omega) hn
  have hn' : (if (0 : Int) = 0 then (x'.last : Int) else 0) = ((A.length + 1 : Nat) : Int) := by rw [if_pos rfl, hx]
  by_cases hz : 16384 ≤ (xOf log A L p).size
  · exact (h.turn hl (by show A.length < 98; omega) (by show (L.map _).length ≤ 1000; rw [List.length_map]; omega) hz (by show p.1.data.size ≤ _; omega) (by omega) hst.off hr hn').mono fun e w' ⟨he, _, _, h2⟩ => ⟨he, h2.bel⟩
  · exact (h.put hl (by show A.length < 98; omega) (by omega) (by omega) hst.off hr hn').mono fun e w' ⟨he, _, _, h2⟩ => ⟨he, h2.bel⟩

def sumTo (S : Nat → ByteArray) : Nat → Nat
  | 0 => 0
  | k + 1 => sumTo S k + min (S k).size 100001
def totTo (S : Nat → ByteArray) : Nat → Nat
  | 0 => 0
  | k + 1 => totTo S k + (S k).size
theorem tot_sum {S : Nat → ByteArray} : ∀ n, sumTo S n ≤ 100000 → totTo S n = sumTo S n
  | 0, _ => rfl
  | n + 1, h => by
    rw [sumTo] at h ⊢
    rw [totTo, tot_sum n (by omega)]
    omega
theorem tot_mono {S : Nat → ByteArray} {k : Nat} : ∀ n, k ≤ n → totTo S k ≤ totTo S n
  | 0, h => by rw [Nat.le_zero.1 h]; exact Nat.le_refl _
  | n + 1, h => by
    by_cases e : k = n + 1
    · rw [e]; exact Nat.le_refl _
    · have := tot_mono (S := S) n (show k ≤ n by omega)
      rw [totTo]; omega
theorem sum_le {S : Nat → ByteArray} : ∀ k, sumTo S k ≤ k * 100001
  | 0 => Nat.le_refl _
  | k + 1 => by have := sum_le (S := S) k; rw [sumTo]; omega
theorem PutsAt.cell {v : Value} (h : PutsAt w B v Q) {k : Nat} (hk : k < Q.length) : ∃ g cap, v = .slice (some ⟨g, 0, none⟩) Q.length cap ∧ Q.length ≤ cap ∧ cap ≤ maxLen ∧ g < w.heap.size ∧ w.cell? ⟨g, k, none⟩ = some (.string Q[k]) := by
  obtain ⟨h1, h2⟩ := h
  rcases h2 with ⟨_, hz⟩ | ⟨g, cap, cur, e, hg, hh, h3, h4, h5, h6⟩
  · omega
  · refine ⟨g, cap, e, h3, h4, heap_lt hh, ?_⟩
    have e6 : (cur.toList.take (Q.length * 1))[k]? = some (.string Q[k]) := by rw [h6, List.getElem?_map, List.getElem?_eq_getElem hk]; rfl
    rw [List.getElem?_take_of_lt (by omega), Array.getElem?_toList] at e6
    simp [World.cell?, hh, e6]
theorem RecsAt.cells {v : Value} {l : List Rc} (h : RecsAt w B v l) {k : Nat} (hk : k < l.length) : ∃ g cap, v = .slice (some ⟨g, 0, none⟩) l.length cap ∧ l.length ≤ cap ∧ cap ≤ maxLen ∧ g < w.heap.size ∧ w.cell? ⟨g, k * 2, none⟩ = some (.int .i64 (l[k].1 : Nat)) ∧ w.cell? ⟨g, k * 2 + 1, none⟩ = some (.string l[k].2) := by
  obtain ⟨h1, h2⟩ := h
  rcases h2 with ⟨_, hz⟩ | ⟨g, cap, cur, e, hg, hh, h3, h4, h5, h6⟩
  · omega
  · have ha := rccells_at l k hk
    refine ⟨g, cap, e, h3, h4, heap_lt hh, ?_, ?_⟩
    · have e6 : (cur.toList.take (l.length * 2))[k * 2]? = some (.int .i64 (l[k].1 : Nat)) := by rw [h6]; exact ha.1
      rw [List.getElem?_take_of_lt (by omega), Array.getElem?_toList] at e6
      simp [World.cell?, hh, e6]
    · have e6 : (cur.toList.take (l.length * 2))[k * 2 + 1]? = some (.string l[k].2) := by rw [h6]; exact ha.2
      rw [List.getElem?_take_of_lt (by omega), Array.getElem?_toList] at e6
      simp [World.cell?, hh, e6]
theorem RecsAt.below {v : Value} {l : List Rc} (h : RecsAt w B v l) (hb : Below w.heap.size w w') : RecsAt w' B v l := by
  obtain ⟨h1, h2⟩ := h
  refine ⟨h1, h2.imp id ?_⟩
  rintro ⟨g, cap, cur, e, hg, hh, r⟩
  exact ⟨g, cap, cur, e, hg, (hb.block g (heap_lt hh)).trans hh, r⟩
theorem numb_at (n : Nat) {l : List ByteArray} {k : Nat} (hk : k < l.length) : (numb n l)[k]'(by rw [numb_len]; exact hk) = (n + k, l[k]) := by
  have := numb_get n l k hk
  rw [List.getElem?_eq_getElem (by rw [numb_len]; exact hk)] at this
  exact Option.some.inj this
theorem info_str : (Tryz.prog.info? 9).map (fun i => (i.zero, i.size, i.bytes)) = some (some (.string ⟨#[]⟩), 1, 16) := by kernel_rfl
end
end Go.Proofs.YtkpoecofblhggaaGreatDoor
