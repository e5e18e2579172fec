/-
  'Act.Long'.
-/
import Derived.Test.YtkpoecofblhggaaGreatDoorOl
import Derived.Test.YtkpoecofblhggaaGreatDoorQx
import Derived.Test.YtkpoecofblhggaaGreatDoorOa
namespace Go.Proofs.YtkpoecofblhggaaGreatDoor
section
open Go.RowKit Go.Maps

/-- s, put behind itself k times -/
def longB (s : ByteArray) : Nat → ByteArray
  | 0 => s
  | k + 1 => longB s k ++ s
theorem longB_size (s : ByteArray) : ∀ k, (longB s k).size = s.size * (k + 1)
  | 0 => by simp [longB]
  | k + 1 => by rw [longB, ByteArray.size_append, longB_size s k, Nat.mul_succ s.size (k + 1)]
set_option maxRecDepth 100000 in
theorem long_any (w : World) (o n : Int) (s : ByteArray) (t : Nat) (ka : Option Addr) (kn kc : Nat) (ht : t < 256) (hz : s.size ≤ 300000) :
    Calls Tryz.prog 44 #[.agg #[.int .i64 o, .string s, .int .u8 t, .int .i64 n, .slice ka kn kc]] w fun e w' => e = .returned (.string (longB s t)) ∧ Below w.heap.size w w' := by
  go_enter Tryz.func44, Tryz.ntmps44
  go_wp2_with fail
  generalize hW : w.alloc _ = W
  have HB := Lib.hid (show Below w.heap.size w W from hW ▸ bl1 w _)
  have c1 : W.cell? ⟨w.heap.size, 1, none⟩ = some (.string s) := by subst hW; simp [go_sem]
  have c2 : W.cell? ⟨w.heap.size, 2, none⟩ = some (.int .u8 t) := by subst hW; simp [go_sem]
  clear hW
  go_loop [3, 4] (fun v i => ∃ k : Nat, k ≤ t ∧ i = .int .i64 k ∧ ∃ b : ByteArray, v = .string b ∧ Hid (b = longB s k) ∧ b.size ≤ 300000 * (k + 1)) (fun _ i => t - (intOf i).toNat)
  case atStart => exact ⟨0, Nat.zero_le _, rfl, s, rfl, rfl, by omega⟩
  case round =>
    obtain ⟨k, hk, rfl, b, rfl, HL, hb⟩ := hrel
    by_cases hlt : k < t
    · have hmx : ¬ 9223372036854775807 < b.size + s.size := by omega
      have HN := Lib.hid (show b ++ s = longB s (k + 1) by rw [longB, HL.out])
      have hsz : (b ++ s).size ≤ 300000 * (k + 1 + 1) := by rw [ByteArray.size_append]; omega
      go_wp2_with fail
      exact ⟨⟨k + 1, by omega, by go_num, _, rfl, HN.out, hsz⟩, by simp [intOf]; omega⟩
    · have HKT := Lib.hid (show b = longB s t by rw [HL.out]; congr 1; omega)
      go_wp2_with fail
      go_ret
      exact ⟨congrArg (fun q => Ending.returned (.string q)) HKT.out, HB.out⟩
end

section
open Go.RowKit Go.Maps

/-- an act, done to a log -/
def doesS (d : Dk) (x : Lg) (o : Int) (s : ByteArray) (n : Int) : Rs :=
  if o = 0 then appendS d x s else if o = 1 then syncS d x else if o = 2 then dropS d x n else (0, d, x)
set_option maxRecDepth 100000 in
set_option maxHeartbeats 2000000 in
theorem does_any (w : World) (b sb ob db m : Nat) (d : Dk) (x : Lg) (o n : Int) (s : ByteArray) (t : Nat) (ka : Option Addr) (kn kc : Nat) (h : WD w b sb ob db m d x) (hl : x.log.size ≤ 1000) (hla : x.last < 98) (hol : x.old.length ≤ 999) (ho1 : ∀ k ∈ x.old, k < 100) (hfr : x.fr < 100) (hz : x.size ≤ 1048576) (ht : t < 256) (hs : s.size ≤ 300000) :
    Calls Tryz.prog 23 #[.pointer (some ⟨b, 0, none⟩), .agg #[.int .i64 o, .string s, .int .u8 t, .int .i64 n, .slice ka kn kc]] w fun e w' => e = .returned (.int .i64 (doesS d x o (longB s t) n).1) ∧ WR w b sb ob db m (doesS d x o (longB s t) n).2.1 (doesS d x o (longB s t) n).2.2 w' := by
  have hLs : (longB s t).size ≤ maxLen := by
    rw [longB_size]
    have : s.size * (t + 1) ≤ 300000 * 256 := Nat.mul_le_mul hs (by omega)
    unfold maxLen; omega
  have H0 := Lib.hid (WA.start h)
  have HL := Lib.hid (fun V => long_any V o n s t ka kn kc ht hs)
  have HAP := Lib.hid (fun V (hv : WA w V b sb ob db m sb ob d x) => wappend_any V b sb ob db m d x (longB s t) hv.wd hl hla (by omega) hz hLs)
  have HSY := Lib.hid (fun V (hv : WA w V b sb ob db m sb ob d x) => wsync_any V b sb ob db m d x hv.wd hl)
  have HDR := Lib.hid (fun V (hv : WA w V b sb ob db m sb ob d x) => wdrop_any V b sb ob db m d x n hv.wd hl hol ho1 hfr (by omega))
  clear h
  generalize longB s t = y at *
  by_cases h0 : o = 0
  · subst h0
    rw [show doesS d x 0 y n = appendS d x y from rfl]
    go_enter Tryz.func23, Tryz.ntmps23
    go_wp2_with fail
    refine (HL.out _).mono ?_
    rintro e w1 ⟨rfl, hb1⟩
    have H1 := Lib.hid ((H0.out.below (bl1 _ _)).below hb1)
    clear hb1
    go_wp2_with fail
    refine (HAP.out _ H1.out).mono ?_
    rintro e w2 ⟨rfl, hw⟩
    have HW := Lib.hid (H1.out.wr hw)
    clear hw
    go_wp2_with fail
    go_ret
    obtain ⟨s2, o2, h2⟩ := HW.out
    exact ⟨rfl, h2.to⟩
  have b0 : (o == 0) = false := by simpa using h0
  by_cases h1 : o = 1
  · subst h1
    rw [show doesS d x 1 y n = syncS d x from rfl]
    go_enter Tryz.func23, Tryz.ntmps23
    go_wp2_with fail
    have H1 := Lib.hid (H0.out.below (bl1 w (.cells #[.int .i64 1, .string s, .int .u8 t, .int .i64 n, .slice ka kn kc] 54)))
    refine (HSY.out _ H1.out).mono ?_
    rintro e w2 ⟨rfl, hw⟩
    have HW := Lib.hid (H1.out.wr hw)
    clear hw
    go_wp2_with fail
    go_ret
    obtain ⟨s2, o2, h2⟩ := HW.out
    exact ⟨rfl, h2.to⟩
  have b1 : (o == 1) = false := by simpa using h1
  by_cases h2 : o = 2
  · subst h2
    rw [show doesS d x 2 y n = dropS d x n from rfl]
    go_enter Tryz.func23, Tryz.ntmps23
    go_wp2_with fail
    have H1 := Lib.hid (H0.out.below (bl1 w (.cells #[.int .i64 2, .string s, .int .u8 t, .int .i64 n, .slice ka kn kc] 54)))
    refine (HDR.out _ H1.out).mono ?_
    rintro e w2 ⟨rfl, hw⟩
    have HW := Lib.hid (H1.out.wr hw)
    clear hw
    go_wp2_with fail
    go_ret
    obtain ⟨s2, o2, h2⟩ := HW.out
    exact ⟨rfl, h2.to⟩
  have b2 : (o == 2) = false := by simpa using h2
  rw [show doesS d x o y n = (0, d, x) from by unfold doesS; rw [if_neg h0, if_neg h1, if_neg h2]]
  clear h0 h1 h2
  go_enter Tryz.func23, Tryz.ntmps23
  go_wp2_with fail
  go_ret
  exact ⟨rfl, (H0.out.below (bl1 _ _)).to⟩
end

section
open Go.RowKit Go.Maps

/-- log x stands on disk d as it would on disk c of its own; its records' numbers are below N, they take F bytes -/
structure Hld (log : ByteArray) (N F : Nat) (d c : Dk) (x : Lg) : Prop where
  ex : ∃ n0 P L p, Lv log n0 P L p ∧ c = DU (fsL log L p) 0 ∧ Sim log d c ∧ x = xL log n0 P L p ∧ n0 + P.length ≤ N ∧ flen P ≤ F
variable {log : ByteArray} {N F : Nat} {d c : Dk} {x : Lg} {n0 : Nat} {P : List ByteArray} {L : List Sy} {p : Sy}
theorem Hld.nm (h : Hld log N F d c x) : x.log = log := by obtain ⟨n0, P, L, p, _, _, _, rfl, _⟩ := h.ex; rfl
theorem Hld.le {N' F' : Nat} (h : Hld log N F d c x) (hN : N ≤ N') (hF : F ≤ F') : Hld log N' F' d c x := by
  obtain ⟨n0, P, L, p, h1, h2, h3, h4, h5, h6⟩ := h.ex
  exact ⟨n0, P, L, p, h1, h2, h3, h4, by omega, by omega⟩
theorem Hld.sim (h : Hld log N F d c x) : Sim log d c := by obtain ⟨n0, P, L, p, _, _, h3, _⟩ := h.ex; exact h3
/-- what the contracts want to know -/
theorem Hld.bounds (h : Hld log N F d c x) (hN : N ≤ 98) (hF : F ≤ 1000000) : x.last < 98 ∧ x.old.length ≤ 999 ∧ (∀ k ∈ x.old, k < 100) ∧ x.fr < 100 ∧ x.size ≤ 1048576 ∧ c.fs.length ≤ 99 := by
  obtain ⟨n0, P, L, p, h1, rfl, _, rfl, h5, h6⟩ := h.ex
  have hl := inc_len h1.inc
  have hp := h1.pos
  have hz := h1.le
  rw [List.length_append] at hl
  simp only [List.length_cons, List.length_nil] at hl
  refine ⟨by show n0 - 1 + P.length < 98; omega, by show (L.map _).length ≤ 999; rw [List.length_map]; omega, fun k hk => ?_, (h1.inc.2 p (by simp)).2, by show p.1.data.size ≤ _; omega, ?_⟩
  · obtain ⟨q, hq, rfl⟩ := List.mem_map.1 hk
    exact (h1.inc.2 q (List.mem_append_left _ hq)).2
  · show (fsL log L p).length ≤ 99
    rw [fsL_len]; omega
/-- an act on the disk of its own -/
theorem Lv.does (h : Lv log n0 P L p) (hok : logOk log.data.toList = true) (o n : Int) (s : ByteArray) (hP : flen P + 8 + s.size ≤ 1000000) (hn : n0 + P.length < 98) :
    ∃ n1 P1 L1 p1 E, doesS (DU (fsL log L p) 0) (xL log n0 P L p) o s n = (E, DU (fsL log L1 p1) 0, xL log n1 P1 L1 p1) ∧ Lv log n1 P1 L1 p1 ∧ n1 + P1.length ≤ n0 + P.length + 1 ∧ flen P1 ≤ flen P + (if o = 0 then 8 + s.size else 0) := by
  unfold doesS
  by_cases h0 : o = 0
  · rw [if_pos h0, if_pos h0]
    by_cases hs : 65536 < s.size
    · exact ⟨n0, P, L, p, 3, by unfold appendS; rw [if_pos hs], h, by omega, by omega⟩
    · obtain ⟨L1, p1, e, h1⟩ := h.append hok (b := s) (by omega) (by rw [frame_size]; omega) (by omega)
      exact ⟨n0, P ++ [s], L1, p1, 0, e, h1, by rw [List.length_append]; simp; omega, by rw [flen_snoc]; omega⟩
  · rw [if_neg h0, if_neg h0]
    by_cases h1 : o = 1
    · rw [if_pos h1]
      exact ⟨n0, P, L, synced p, 0, h.syncS, h.sync, by omega, by omega⟩
    · rw [if_neg h1]
      by_cases h2 : o = 2
      · rw [if_pos h2]
        obtain ⟨n1, P1, L1, p1, e, g1, g2, g3⟩ := h.drop hok (by omega) n
        refine ⟨n1, P1, L1, p1, 0, e, g1, by omega, ?_⟩
        obtain ⟨r, hr⟩ := g3
        rw [← hr, flen_append]; omega
      · rw [if_neg h2]
        exact ⟨n0, P, L, p, 0, rfl, h, by omega, by omega⟩
theorem sim_does {n : Nat} (h : SimN log n d c) (hx : x.log = log) (hn : n + 1 < 256) (o m : Int) (s : ByteArray) : SimR log (n + 4) (doesS d x o s m) (doesS c x o s m) := by
  unfold doesS
  split
  · exact h.appendS hx hn s
  · split
    · exact h.syncS hx
    · split
      · exact h.dropS hx hn m
      · exact ⟨rfl, rfl, hx, h.le (by omega)⟩
theorem ops_does (hx : x.log = log) (d : Dk) (o m : Int) (s : ByteArray) : OpsR log 4 d (doesS d x o s m) := by
  unfold doesS
  split
  · exact ops_appendS hx d s
  · split
    · exact ops_syncS hx d
    · split
      · exact ops_dropS hx d m
      · exact ⟨hx, .le (by omega) (.nil d)⟩
/-- an act on both disks -/
theorem Hld.does (h : Hld log N F d c x) (hok : logOk log.data.toList = true) (hN : N < 98) (hd : d.fs.length ≤ 250) (o n : Int) (s : ByteArray) (hF : F + 8 + s.size ≤ 1000000) :
    (doesS d x o s n).1 = (doesS c x o s n).1 ∧ (doesS d x o s n).2.2 = (doesS c x o s n).2.2 ∧ Hld log (N + 1) (F + (if o = 0 then 8 + s.size else 0)) (doesS d x o s n).2.1 (doesS c x o s n).2.1 (doesS d x o s n).2.2 := by
  have hc := (h.bounds (by omega) (by omega)).2.2.2.2.2
  have hr := sim_does (n := 250) ⟨h.sim, hd, by omega⟩ h.nm (by omega) o n s
  refine ⟨hr.e, hr.x, ?_⟩
  rw [hr.x]
  obtain ⟨n0, P, L, p, h1, h2, h3, h4, h5, h6⟩ := h.ex
  subst h2 h4
  obtain ⟨n1, P1, L1, p1, E, e, g1, g2, g3⟩ := h1.does hok o n s (by omega) (by omega)
  have hs := hr.d.sim
  rw [e] at hs ⊢
  exact ⟨n1, P1, L1, p1, g1, rfl, hs, rfl, by omega, by omega⟩
theorem Hld.apart {lg : ByteArray} {n : Nat} {e : Dk} (h : Hld lg N F d c x) (ho : Ops log n d e) (hne : ∀ r q, preL lg ++ r ≠ preL log ++ q) : Hld lg N F e c x := by
  obtain ⟨n0, P, L, p, h1, h2, h3, h4, h5, h6⟩ := h.ex
  exact ⟨n0, P, L, p, h1, h2, h3.apart ho hne, h4, h5, h6⟩
/-- the disk's other names are none of the log's -/
theorem Hld.other (h : Hld log N F d c x) : ∀ nm ∈ names d.fs, numOf log nm = none → Other log nm := by
  intro nm hm hnone
  obtain ⟨n0, P, L, p, h1, h2, h3, h4, h5, h6⟩ := h.ex
  cases hp : Lib.hasPrefix nm (preL log) with
  | false => exact .inl hp
  | true =>
    exfalso
    obtain ⟨r, rfl⟩ := List.isPrefixOf_iff_prefix.1 hp
    have hg := mem_names.1 hm
    rw [h3.files r, h2] at hg
    cases hgg : fget (fsL log L p) (preL log ++ r) with
    | none => exact hg hgg
    | some f =>
      have hmem := get_mem hgg
      rw [← fsL_eq] at hmem
      obtain ⟨q, hq, e⟩ := List.mem_map.1 hmem
      have hb := h1.inc.2 q hq
      have e1 : fileL log q.1.fr = preL log ++ r := congrArg Prod.fst e
      rw [← e1, numOf_file hb.1 hb.2] at hnone
      cases hnone
/-- two logs on one disk, each alike to one on a disk of its own; and a file of neither's -/
structure Duo (la lb : ByteArray) (K N F M G : Nat) (d c g : Dk) (x y : Lg) (nm : Nm) (f : Fl) : Prop where
  a : Hld la N F d c x
  b : Hld lb M G d g y
  len : d.fs.length ≤ K
  own : fget d.fs nm = some f
structure Apart (la lb : ByteArray) (nm : Nm) : Prop where
  ab : ∀ r q, preL la ++ r ≠ preL lb ++ q
  na : ∀ r, nm ≠ preL la ++ r
  nb : ∀ r, nm ≠ preL lb ++ r
  oa : logOk la.data.toList = true
  ob : logOk lb.data.toList = true
variable {la lb : ByteArray} {K M G : Nat} {g : Dk} {y : Lg} {nm : Nm} {f : Fl}
theorem Apart.swap (h : Apart la lb nm) : Apart lb la nm := ⟨fun r q e => h.ab q r e.symm, h.nb, h.na, h.ob, h.oa⟩
theorem Duo.swap (h : Duo la lb K N F M G d c g x y nm f) : Duo lb la K M G N F d g c y x nm f := ⟨h.b, h.a, h.len, h.own⟩
theorem Duo.ops {n : Nat} {e : Dk} (h : Duo la lb K N F M G d c g x y nm f) (hp : Apart la lb nm) (ho : Ops la n d e) : Hld lb M G e g y ∧ e.fs.length ≤ K + n ∧ fget e.fs nm = some f :=
  ⟨h.b.apart ho (fun r q => (hp.swap).ab r q), by have := ho.len; have := h.len; omega, (ho.other h.a.sim.ed h.a.sim.fd hp.na).trans h.own⟩
theorem Duo.does (h : Duo la lb K N F M G d c g x y nm f) (hp : Apart la lb nm) (hN : N < 98) (hK : K ≤ 250) (o n : Int) (s : ByteArray) (hF : F + 8 + s.size ≤ 1000000) :
    (doesS d x o s n).1 = (doesS c x o s n).1 ∧ (doesS d x o s n).2.2 = (doesS c x o s n).2.2 ∧ Duo la lb (K + 4) (N + 1) (F + (if o = 0 then 8 + s.size else 0)) M G (doesS d x o s n).2.1 (doesS c x o s n).2.1 g (doesS d x o s n).2.2 y nm f := by
  have hd := h.len
  obtain ⟨h1, h2, h3⟩ := h.a.does hp.oa hN (by omega) o n s hF
  obtain ⟨k1, k2, k3⟩ := h.ops hp (ops_does h.a.nm d o n s).ops
  exact ⟨h1, h2, h3, k1, k2, k3⟩
end

section
open Go.RowKit Go.Maps

def Dis (A B : List Nat) : Prop := ∀ k ∈ A, k ∉ B
/-- a log whose blocks all lie behind W -/
structure LogM (W w : World) (b s o db m : Nat) (d : Dk) (x : Lg) : Prop where
  wd : WD w b s o db m d x
  lb : W.heap.size ≤ b
  ls : W.heap.size ≤ s
  lo : W.heap.size ≤ o
  lt : o < w.heap.size
variable {W w w' : World} {b s o db m dc mc : Nat} {d c : Dk} {x y z : Lg}
theorem LogM.below (h : LogM W w b s o db m d x) (hb : Below w.heap.size w w') : LogM W w' b s o db m d x := ⟨h.wd.below hb, h.lb, h.ls, h.lo, Nat.lt_of_lt_of_le h.lt hb.size⟩
/-- the older numbers' block is one that there is -/
theorem WD.norm (h : WD w b s o db m d x) : ∃ o', WD w b s o' db m d x ∧ (o' = s ∨ o' = o) ∧ o' < w.heap.size := by
  obtain ⟨v, h1, h2⟩ := h.wal.blk
  rcases h2 with ⟨e1, e2⟩ | ⟨off, cap, cur, e1, e2, e3⟩
  · exact ⟨s, ⟨⟨⟨v, h1, .inl ⟨e1, e2⟩⟩, h.wal.seg⟩, h.dat, h.ok, fun k hk => h.dk k (by rcases hk with hk | hk | hk; exact .inl hk; exact .inr (.inl hk); exact .inr (.inl hk))⟩, .inl rfl, h.wal.lt.2⟩
  · exact ⟨o, h, .inr rfl, heap_lt e2⟩
/-- another log, and its disk, are as they were -/
theorem LogM.but {l : List Nat} (h : LogM W w b s o db m d x) (hb : But l w w') (hl : Dis [b, s, o, db, m] l) : LogM W w' b s o db m d x :=
  ⟨⟨h.wd.wal.but hb ⟨hl _ (by simp), hl _ (by simp), hl _ (by simp)⟩, h.wd.dat.but hb (hl _ (by simp)) (hl _ (by simp)), h.wd.ok, h.wd.dk⟩, h.lb, h.ls, h.lo, Nat.lt_of_lt_of_le h.lt hb.size⟩
/-- another log of the same disk -/
theorem LogM.same {l : List Nat} {d' : Dk} (h : LogM W w b s o db m d x) (hb : But l w w') (hl : Dis [b, s, o] l) (hd : DAt w' db m d') (ok : Fit d') : LogM W w' b s o db m d' x :=
  ⟨⟨h.wd.wal.but hb ⟨hl _ (by simp), hl _ (by simp), hl _ (by simp)⟩, hd, ok, h.wd.dk⟩, h.lb, h.ls, h.lo, Nat.lt_of_lt_of_le h.lt hb.size⟩
theorem Dis.symm {A B : List Nat} (h : Dis A B) : Dis B A := fun k hk hn => h k hn hk
theorem Dis.app {A B C : List Nat} (h : Dis A B) (h2 : Dis A C) : Dis A (B ++ C) := fun k hk hn => by
  rcases List.mem_append.1 hn with hn | hn
  · exact h k hk hn
  · exact h2 k hk hn
theorem Dis.appl {A B C : List Nat} (h : Dis A C) (h2 : Dis B C) : Dis (A ++ B) C := (Dis.app h.symm h2.symm).symm
theorem Dis.new {A A' B : List Nat} {n : Nat} (h : Dis A B) (hn : ∀ k ∈ A', k ∈ A ∨ n ≤ k) (hB : ∀ k ∈ B, k < n) : Dis A' B := fun k hk hm => by
  rcases hn k hk with h1 | h1
  · exact h k h1 hm
  · have := hB k hm; omega
theorem LogM.dis (h : LogM W w b s o db m d x) : Dis [b, s, o] [db, m] := fun k hk hm => by
  have := h.wd.dk k (by simpa using hk)
  simp only [List.mem_cons, List.not_mem_nil, or_false] at hm
  omega
theorem LogM.blt (h : LogM W w b s o db m d x) : ∀ k ∈ [b, s, o], k < w.heap.size := fun k hk => by
  have h1 := h.wd.wal.lt
  have h2 := h.lt
  simp only [List.mem_cons, List.not_mem_nil, or_false] at hk
  omega
theorem dat_lt (h : DAt w db m d) : ∀ k ∈ [db, m], k < w.heap.size := fun k hk => by
  have h1 := h.lt
  have h2 := h.map.lt
  simp only [List.mem_cons, List.not_mem_nil, or_false] at hk
  omega
/-- the log, and its disk, have turned -/
theorem LogM.wr {d' : Dk} {x' : Lg} (h : LogM W w b s o db m d x) (hz : W.heap.size ≤ w.heap.size) (hr : WR w b s o db m d' x' w') : ∃ s' o', LogM W w' b s' o' db m d' x' ∧ But ([db, m] ++ [b, s, o]) w w' ∧ ∀ k ∈ [b, s', o'], k ∈ [b, s, o] ∨ w.heap.size ≤ k := by
  obtain ⟨s2, o2, h1, h2, h3, h4⟩ := hr
  obtain ⟨o3, k1, k2, k3⟩ := h1.norm
  have e1 := h.lb; have e2 := h.ls; have e3 := h.lo
  have e4 : o3 = s ∨ o3 = o ∨ w.heap.size ≤ o3 := by
    simp only [List.mem_cons, List.not_mem_nil, or_false] at h4
    omega
  refine ⟨s2, o3, ⟨k1, h.lb, by omega, by omega, k3⟩, h2, fun k hk => ?_⟩
  simp only [List.mem_cons, List.not_mem_nil, or_false] at hk ⊢
  omega
structure Tri (W w : World) (b1 b2 b3 db m dc mc : Nat) (d c : Dk) (x y z : Lg) : Prop where
  ex : ∃ s1 o1 s2 o2 s3 o3, LogM W w b1 s1 o1 db m d x ∧ LogM W w b2 s2 o2 db m d y ∧ LogM W w b3 s3 o3 dc mc c z ∧ Dis [b1, s1, o1] [b2, s2, o2] ∧ Dis [b1, s1, o1] [b3, s3, o3] ∧ Dis [b2, s2, o2] [b3, s3, o3] ∧ Dis [b1, s1, o1] [dc, mc] ∧ Dis [b2, s2, o2] [dc, mc] ∧ Dis [b3, s3, o3] [db, m]
  ld : W.heap.size ≤ db ∧ W.heap.size ≤ m ∧ W.heap.size ≤ dc ∧ W.heap.size ≤ mc
  dd : Dis [db, m] [dc, mc]
  bel : Below W.heap.size W w
variable {b1 b2 b3 : Nat}
theorem Tri.swap (h : Tri W w b1 b2 b3 db m dc mc d c x y z) : Tri W w b2 b1 b3 db m dc mc d c y x z := by
  obtain ⟨s1, o1, s2, o2, s3, o3, h1, h2, h3, h4, h5, h6, h7, h8, h9⟩ := h.ex
  exact ⟨⟨s2, o2, s1, o1, s3, o3, h2, h1, h3, h4.symm, h6, h5, h8, h7, h9⟩, h.ld, h.dd, h.bel⟩
theorem Tri.quiet (h : Tri W w b1 b2 b3 db m dc mc d c x y z) (hb : Below w.heap.size w w') : Tri W w' b1 b2 b3 db m dc mc d c x y z := by
  obtain ⟨s1, o1, s2, o2, s3, o3, h1, h2, h3, r⟩ := h.ex
  exact ⟨⟨s1, o1, s2, o2, s3, o3, h1.below hb, h2.below hb, h3.below hb, r⟩, h.ld, h.dd, h.bel.trans (hb.mono h.bel.size)⟩
theorem Tri.inn (h : Tri W w b1 b2 b3 db m dc mc d c x y z) : In W w db m d ∧ In W w dc mc c := by
  obtain ⟨s1, o1, s2, o2, s3, o3, h1, h2, h3, r⟩ := h.ex
  exact ⟨⟨h1.wd.dat, h1.wd.ok, h.ld.1, h.ld.2.1, h.bel⟩, ⟨h3.wd.dat, h3.wd.ok, h.ld.2.2.1, h.ld.2.2.2, h.bel⟩⟩
theorem DAt.ltm (h : DAt w db m d) : db < w.heap.size ∧ m < w.heap.size := ⟨h.lt, h.map.lt⟩
/-- the first log has turned -/
theorem Tri.turn1 (h : Tri W w b1 b2 b3 db m dc mc d c x y z) : ∃ s o, LogM W w b1 s o db m d x ∧ ∀ w' d' x', WR w b1 s o db m d' x' w' → Tri W w' b1 b2 b3 db m dc mc d' c x' y z := by
  obtain ⟨s1, o1, s2, o2, s3, o3, h1, h2, h3, h4, h5, h6, h7, h8, h9⟩ := h.ex
  refine ⟨s1, o1, h1, fun w' d' x' hr => ?_⟩
  obtain ⟨s1', o1', k1, k2, k3⟩ := h1.wr h.bel.size hr
  refine ⟨⟨s1', o1', s2, o2, s3, o3, k1, h2.same k2 (h2.dis.app h4.symm) k1.wd.dat k1.wd.ok, h3.but (l := [db, m] ++ [b1, s1, o1]) k2 ?_, h4.new k3 h2.blt, h5.new k3 h3.blt, h6, h7.new k3 (dat_lt h3.wd.dat), h8, h9⟩, h.ld, h.dd, h.bel.trans (k2.below h.bel.size (fun k hk => ?_))⟩
  · exact Dis.appl (A := [b3, s3, o3]) (B := [dc, mc]) (h9.app h5.symm) (h.dd.symm.app h7.symm)
  · have e1 := h1.lb; have e2 := h1.ls; have e3 := h1.lo; have e4 := h.ld
    simp only [List.cons_append, List.nil_append, List.mem_cons, List.not_mem_nil, or_false] at hk
    omega
/-- the third one has turned -/
theorem Tri.turn3 (h : Tri W w b1 b2 b3 db m dc mc d c x y z) : ∃ s o, LogM W w b3 s o dc mc c z ∧ ∀ w' c' z', WR w b3 s o dc mc c' z' w' → Tri W w' b1 b2 b3 db m dc mc d c' x y z' := by
  obtain ⟨s1, o1, s2, o2, s3, o3, h1, h2, h3, h4, h5, h6, h7, h8, h9⟩ := h.ex
  refine ⟨s3, o3, h3, fun w' c' z' hr => ?_⟩
  obtain ⟨s3', o3', k1, k2, k3⟩ := h3.wr h.bel.size hr
  refine ⟨⟨s1, o1, s2, o2, s3', o3', h1.but (l := [dc, mc] ++ [b3, s3, o3]) k2 ?_, h2.but (l := [dc, mc] ++ [b3, s3, o3]) k2 ?_, k1, h4, (h5.symm.new k3 h1.blt).symm, (h6.symm.new k3 h2.blt).symm, h7, h8, h9.new k3 (dat_lt h1.wd.dat)⟩, h.ld, h.dd, h.bel.trans (k2.below h.bel.size (fun k hk => ?_))⟩
  · exact Dis.appl (A := [b1, s1, o1]) (B := [db, m]) (h7.app h5) (h.dd.app h9.symm)
  · exact Dis.appl (A := [b2, s2, o2]) (B := [db, m]) (h8.app h6) (h.dd.app h9.symm)
  · have e1 := h3.lb; have e2 := h3.ls; have e3 := h3.lo; have e4 := h.ld
    simp only [List.cons_append, List.nil_append, List.mem_cons, List.not_mem_nil, or_false] at hk
    omega
theorem Tri.log1 (h : Tri W w b1 b2 b3 db m dc mc d c x y z) : ∃ s o, WD w b1 s o db m d x := by obtain ⟨s, o, h1, _⟩ := h.turn1; exact ⟨s, o, h1.wd⟩
theorem Tri.log3 (h : Tri W w b1 b2 b3 db m dc mc d c x y z) : ∃ s o, WD w b3 s o dc mc c z := by obtain ⟨s, o, h1, _⟩ := h.turn3; exact ⟨s, o, h1.wd⟩
/-- what an act wants to know of a log -/
structure LgOk (x : Lg) : Prop where
  hl : x.log.size ≤ 1000
  hla : x.last < 98
  hol : x.old.length ≤ 999
  ho1 : ∀ k ∈ x.old, k < 100
  hfr : x.fr < 100
  hz : x.size ≤ 1048576
theorem Tri.does1 (h : Tri W w b1 b2 b3 db m dc mc d c x y z) (ok : LgOk x) (o n : Int) (s : ByteArray) (t : Nat) (ka : Option Addr) (kn kc : Nat) (ht : t < 256) (hs : s.size ≤ 300000) :
    Calls Tryz.prog 23 #[.pointer (some ⟨b1, 0, none⟩), .agg #[.int .i64 o, .string s, .int .u8 t, .int .i64 n, .slice ka kn kc]] w fun e w' => e = .returned (.int .i64 (doesS d x o (longB s t) n).1) ∧ Tri W w' b1 b2 b3 db m dc mc (doesS d x o (longB s t) n).2.1 c (doesS d x o (longB s t) n).2.2 y z := by
  obtain ⟨s1, o1, h1, h2⟩ := h.turn1
  exact (does_any w b1 s1 o1 db m d x o n s t ka kn kc h1.wd ok.hl ok.hla ok.hol ok.ho1 ok.hfr ok.hz ht hs).mono fun _ _ ⟨he, hw⟩ => ⟨he, h2 _ _ _ hw⟩
theorem Tri.does2 (h : Tri W w b1 b2 b3 db m dc mc d c x y z) (ok : LgOk y) (o n : Int) (s : ByteArray) (t : Nat) (ka : Option Addr) (kn kc : Nat) (ht : t < 256) (hs : s.size ≤ 300000) :
    Calls Tryz.prog 23 #[.pointer (some ⟨b2, 0, none⟩), .agg #[.int .i64 o, .string s, .int .u8 t, .int .i64 n, .slice ka kn kc]] w fun e w' => e = .returned (.int .i64 (doesS d y o (longB s t) n).1) ∧ Tri W w' b1 b2 b3 db m dc mc (doesS d y o (longB s t) n).2.1 c x (doesS d y o (longB s t) n).2.2 z :=
  (h.swap.does1 ok o n s t ka kn kc ht hs).mono fun _ _ ⟨he, hw⟩ => ⟨he, hw.swap⟩
theorem Tri.does3 (h : Tri W w b1 b2 b3 db m dc mc d c x y z) (ok : LgOk z) (o n : Int) (s : ByteArray) (t : Nat) (ka : Option Addr) (kn kc : Nat) (ht : t < 256) (hs : s.size ≤ 300000) :
    Calls Tryz.prog 23 #[.pointer (some ⟨b3, 0, none⟩), .agg #[.int .i64 o, .string s, .int .u8 t, .int .i64 n, .slice ka kn kc]] w fun e w' => e = .returned (.int .i64 (doesS c z o (longB s t) n).1) ∧ Tri W w' b1 b2 b3 db m dc mc d (doesS c z o (longB s t) n).2.1 x y (doesS c z o (longB s t) n).2.2 := by
  obtain ⟨s1, o1, h1, h2⟩ := h.turn3
  exact (does_any w b3 s1 o1 dc mc c z o n s t ka kn kc h1.wd ok.hl ok.hla ok.hol ok.ho1 ok.hfr ok.hz ht hs).mono fun _ _ ⟨he, hw⟩ => ⟨he, h2 _ _ _ hw⟩
theorem Tri.drop2 (h : Tri W w b1 b2 b3 db m dc mc d c x y z) (ok : LgOk y) (n : Int) :
    Calls Tryz.prog 18 #[.pointer (some ⟨b2, 0, none⟩), .int .i64 n] w fun e w' => e = .returned (.int .i64 (dropS d y n).1) ∧ Tri W w' b1 b2 b3 db m dc mc (dropS d y n).2.1 c x (dropS d y n).2.2 z := by
  obtain ⟨s1, o1, h1, h2⟩ := h.swap.turn1
  exact (wdrop_any w b2 s1 o1 db m d y n h1.wd ok.hl ok.hol ok.ho1 ok.hfr (by have := ok.hla; omega)).mono fun _ _ ⟨he, hw⟩ => ⟨he, (h2 _ _ _ hw).swap⟩
theorem Tri.last1 (h : Tri W w b1 b2 b3 db m dc mc d c x y z) : Calls Tryz.prog 16 #[.pointer (some ⟨b1, 0, none⟩)] w fun e w' => e = .returned (.int .i64 x.last) ∧ w = w' := by
  obtain ⟨s1, o1, h1⟩ := h.log1; exact last_any w b1 s1 o1 db m d x h1
theorem Tri.last2 (h : Tri W w b1 b2 b3 db m dc mc d c x y z) : Calls Tryz.prog 16 #[.pointer (some ⟨b2, 0, none⟩)] w fun e w' => e = .returned (.int .i64 y.last) ∧ w = w' := h.swap.last1
theorem Tri.last3 (h : Tri W w b1 b2 b3 db m dc mc d c x y z) : Calls Tryz.prog 16 #[.pointer (some ⟨b3, 0, none⟩)] w fun e w' => e = .returned (.int .i64 z.last) ∧ w = w' := by
  obtain ⟨s1, o1, h1⟩ := h.log3; exact last_any w b3 s1 o1 dc mc c z h1
theorem Tri.first1 (h : Tri W w b1 b2 b3 db m dc mc d c x y z) (ok : LgOk x) : Calls Tryz.prog 17 #[.pointer (some ⟨b1, 0, none⟩)] w fun e w' => e = .returned (.int .i64 ((x.old.headD x.fr : Nat) : Int)) ∧ w = w' := by
  obtain ⟨s1, o1, h1⟩ := h.log1; exact first_any w b1 s1 o1 db m d x h1 (by have := ok.hol; omega)
theorem Tri.first3 (h : Tri W w b1 b2 b3 db m dc mc d c x y z) (ok : LgOk z) : Calls Tryz.prog 17 #[.pointer (some ⟨b3, 0, none⟩)] w fun e w' => e = .returned (.int .i64 ((z.old.headD z.fr : Nat) : Int)) ∧ w = w' := by
  obtain ⟨s1, o1, h1⟩ := h.log3; exact first_any w b3 s1 o1 dc mc c z h1 (by have := ok.hol; omega)
theorem Hld.ok {log : ByteArray} {N F : Nat} (h : Hld log N F d c x) (hl : log.size ≤ 1000) (hN : N ≤ 98) (hF : F ≤ 1000000) : LgOk x := by
  obtain ⟨h1, h2, h3, h4, h5, _⟩ := h.bounds hN hF
  exact ⟨by rw [h.nm]; exact hl, h1, h2, h3, h4, h5⟩
end
end Go.Proofs.YtkpoecofblhggaaGreatDoor
