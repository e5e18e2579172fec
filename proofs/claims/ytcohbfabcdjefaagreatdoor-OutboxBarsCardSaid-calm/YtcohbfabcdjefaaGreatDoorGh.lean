/-
  OutboxBars: the state between two rounds, and what each call tells there.
-/
import Derived.Test.YtcohbfabcdjefaaGreatDoorGf
namespace Go.Proofs.YtcohbfabcdjefaaGreatDoor
open Go.RowKit Go.Maps

theorem kp_box {B : Nat} {w : World} {xb : Nat} {cs : Array Value} (h : w.heap[xb]? = some (.cells cs 35)) (hB : B ≤ xb) (c' : Array Value) : Kp B [35] w (w.setRow xb c') :=
  ⟨rfl, rfl, rfl, by simp [World.setRow], fun k o hk ho => by
    by_cases e : k = xb
    · subst e
      rw [h] at hk
      injection hk with hk
      subst hk
      rcases ho with ho | ho
      · omega
      · exact absurd (List.mem_singleton.2 rfl) (ho _ _ _ rfl)
    · rw [heap_setRow_ne _ _ _ e]; exact hk⟩
theorem DbAt.box {A B : Nat} {w : World} {tb db : Nat} {M : List It} {l n z : Nat} (h : DbAt A B w tb db M l n z) {xb : Nat} {cs : Array Value} (hx : w.heap[xb]? = some (.cells cs 35)) (hB : B ≤ xb) (c' : Array Value) : DbAt A B (w.setRow xb c') tb db M l n z := by
  have hk := kp_box hx hB c'
  have hcl : ∀ (k : Nat) (cs : Array Value) (T : TypeId) (fr : Nat × Nat), w.heap[k]? = some (.cells cs T fr) → T ∉ [35] → (w.setRow xb c').heap[k]? = some (.cells cs T fr) := fun k cs T fr e hT => hk.blk k _ e (.inr (fun _ _ _ e2 => by injection e2 with _ e3; rw [← e3]; exact hT))
  obtain ⟨sb, mb, m, lb, nb, h1, h2⟩ := h.ex
  obtain ⟨u, m1, m2⟩ := h2.mem
  exact ⟨⟨sb, mb, m, lb, nb, hcl _ _ _ _ h1 (by decide), ⟨hcl _ _ _ _ h2.st (by decide), ⟨u, ⟨hcl _ _ _ _ m1.blk (by decide)⟩, own_keep m2 fun g cs _ e => hcl _ _ _ _ e (by decide)⟩, h2.up, h2.log.kpT hk (by decide) (by decide) (by decide), h2.hA, h2.hsb, h2.hmb⟩⟩, h.hA, h.htb⟩
theorem DbB.box {A B : Nat} {w : World} {tb db : Nat} {M : List It} {k : Nat} (h : DbB A B w tb db M k) {xb : Nat} {cs : Array Value} (hx : w.heap[xb]? = some (.cells cs 35)) (hB : B ≤ xb) (c' : Array Value) : DbB A B (w.setRow xb c') tb db M k := by
  obtain ⟨l, n, z, h1, h2⟩ := h
  exact ⟨l, n, z, h1.box hx hB c', h2⟩
theorem Rw.below {w w' : World} {v : Value} {n : Nat} (h : Rw w v n) (hb : Below w.heap.size w w') : Rw w' v n := h.kx (l := []) (ts := []) (Kx.of_below hb) (by simp) (by simp)
def tX : ByteArray := ⟨#[120]⟩
def vq (q : Int) : Bool := decide (0 ≤ q) && decide (q < 8)
def Ei (q : Int) (i : Nat) : Int := if vq q then (if 64 ≤ i then 6 else 0) else 1
theorem vq_nat {q : Int} (h : vq q = true) : ∃ Q : Nat, q = Q ∧ Q < 8 := by
  unfold vq at h
  simp only [Bool.and_eq_true, decide_eq_true_eq] at h
  exact ⟨q.toNat, by omega, by omega⟩
/-- a queue that has had n items, in the db (k of them) and in the box (n of them) -/
structure InvG (A B tb db xb : Nat) (Q n k : Nat) (W : World) (f : Nat → Value) : Prop where
  hQ : Q < 8
  hn : n ≤ 64
  hk : k ≤ 64
  dbb : ∃ M, DbB A B W tb db M k ∧ Had Q k M
  had : f (8 + Q) = .int .u64 n
  row : Rw W (f Q) n
  new : NewRow xb (f Q)
/-- between two rounds -/
structure Inv (A B tb db xb : Nat) (q : Int) (i : Nat) (W : World) (f : Nat → Value) : Prop where
  bx : Bx W xb f
  sh : BxS f
  hB : B ≤ xb
  hd : db < xb
  g : vq q = true → ∃ Q : Nat, q = Q ∧ InvG A B tb db xb Q (min i 64) (min i 64) W f
/-- an item is in the db, and not yet in the box -/
structure InvC (A B tb db xb : Nat) (q : Int) (i : Nat) (W : World) (f : Nat → Value) : Prop where
  bx : Bx W xb f
  sh : BxS f
  hB : B ≤ xb
  hd : db < xb
  hi : i < 64
  g : ∃ Q : Nat, q = Q ∧ InvG A B tb db xb Q i (i + 1) W f
variable {A B tb db xb : Nat} {q : Int} {i : Nat} {W : World} {f : Nat → Value}
theorem InvG.below {Q n k : Nat} {W' : World} (h : InvG A B tb db xb Q n k W f) (hb : Below W.heap.size W W') : InvG A B tb db xb Q n k W' f := by
  obtain ⟨M, h1, h2⟩ := h.dbb
  exact ⟨h.hQ, h.hn, h.hk, ⟨M, h1.below hb, h2⟩, h.had, h.row.below hb, h.new⟩
theorem Bx.below {b : Nat} {W' : World} (h : Bx W b f) (hb : Below W.heap.size W W') : Bx W' b f := (hb.block b (heap_lt h)).trans h
theorem Inv.below {W' : World} (h : Inv A B tb db xb q i W f) (hb : Below W.heap.size W W') : Inv A B tb db xb q i W' f :=
  ⟨h.bx.below hb, h.sh, h.hB, h.hd, fun hq => by obtain ⟨Q, e, g⟩ := h.g hq; exact ⟨Q, e, g.below hb⟩⟩
theorem InvC.below {W' : World} (h : InvC A B tb db xb q i W f) (hb : Below W.heap.size W W') : InvC A B tb db xb q i W' f := by
  obtain ⟨Q, e, g⟩ := h.g
  exact ⟨h.bx.below hb, h.sh, h.hB, h.hd, h.hi, Q, e, g.below hb⟩
theorem Had.numH {Q n : Nat} {M : List It} (h : Had Q n M) : NumR M (kH Q) 1 1 := .inl ⟨h.h, rfl⟩
theorem Had.numT {Q n : Nat} {M : List It} (h : Had Q n M) (hn : n < 100) : NumR M (kT Q) 0 n := by
  have ht := h.t
  by_cases e : n = 0
  · subst e; rw [if_pos rfl] at ht; exact .inl ⟨ht, rfl⟩
  · rw [if_neg e] at ht; exact .inr ⟨_, ht, rfl, rfl, hn⟩
theorem cntN1 (n : Nat) : cntN 1 n = n := by unfold cntN; split <;> omega
theorem Ei_zero {q : Int} {i : Nat} (h : Ei q i = 0) : vq q = true ∧ i < 64 := by
  unfold Ei at h
  split at h
  · split at h
    · cases h
    · exact ⟨by assumption, by omega⟩
  · cases h
/-- Add, any text that fits, any queue that is -/
theorem InvG.add {Q n : Nat} (h : InvG A B tb db xb Q n n W f) (now : Int) (txt : ByteArray) (ht : txt.size ≤ 16368) (hn : n < 64) :
    Calls Tryz.prog 7 #[.pointer (some ⟨tb, 0, none⟩), .int .i64 Q, .string txt, .int .i64 now] W fun e w' => ∃ bk, e = .returned (.tuple #[.slice (some ⟨bk, 0, none⟩) 2 2, .int .i64 0]) ∧ RdE w' (.slice (some ⟨bk, 0, none⟩) 2 2) (putsN Q n now txt) ∧ Below W.heap.size W w' := by
  obtain ⟨M, ⟨l, n', z, hd, _⟩, hh⟩ := h.dbb
  exact add_ok hd (by have := hh.len; have := h.hk; omega) Q 1 n h.hQ hh.numH (hh.numT (by omega)) (by omega) (by omega) now txt ht (by rw [cntN1]; exact hn)
theorem InvG.full {Q n : Nat} (h : InvG A B tb db xb Q n n W f) (now : Int) (txt : ByteArray) (ht : txt.size ≤ 16368) (hn : 64 ≤ n) :
    Calls Tryz.prog 7 #[.pointer (some ⟨tb, 0, none⟩), .int .i64 Q, .string txt, .int .i64 now] W fun e w' => e = .returned (.tuple #[.slice none 0 0, .int .i64 6]) ∧ Below W.heap.size W w' := by
  obtain ⟨M, ⟨l, n', z, hd, _⟩, hh⟩ := h.dbb
  have := h.hk
  exact add_full hd (by have := hh.len; omega) Q 1 n h.hQ hh.numH (hh.numT (by omega)) (by omega) (by omega) now txt ht (by rw [cntN1]; exact hn)
theorem Inv.add_ok (h : Inv A B tb db xb q i W f) (hE : Ei q i = 0) (now : Int) :
    Calls Tryz.prog 7 #[.pointer (some ⟨tb, 0, none⟩), .int .i64 q, .string tX, .int .i64 now] W fun e w' => ∃ bk, e = .returned (.tuple #[.slice (some ⟨bk, 0, none⟩) 2 2, .int .i64 0]) ∧ RdE w' (.slice (some ⟨bk, 0, none⟩) 2 2) (putsN q.toNat i now tX) ∧ Below W.heap.size W w' := by
  obtain ⟨hq, hi⟩ := Ei_zero hE
  obtain ⟨Q, rfl, g⟩ := h.g hq
  rw [show min i 64 = i by omega] at g
  exact g.add now tX (by decide) hi
theorem Inv.add_no (h : Inv A B tb db xb q i W f) (hE : Ei q i ≠ 0) (now : Int) :
    Calls Tryz.prog 7 #[.pointer (some ⟨tb, 0, none⟩), .int .i64 q, .string tX, .int .i64 now] W fun e w' => e = .returned (.tuple #[.slice none 0 0, .int .i64 (Ei q i)]) ∧ Below W.heap.size W w' := by
  by_cases hq : vq q = true
  · obtain ⟨Q, rfl, g⟩ := h.g hq
    have h64 : 64 ≤ i := by
      unfold Ei at hE
      rw [if_pos hq] at hE
      split at hE
      · assumption
      · exact absurd rfl hE
    have e : Ei Q i = 6 := by unfold Ei; rw [if_pos hq, if_pos h64]
    rw [e]
    exact g.full now tX (by decide) (by omega)
  · have e : Ei q i = 1 := by unfold Ei; rw [if_neg hq]
    rw [e]
    exact (add_err W (.pointer (some ⟨tb, 0, none⟩)) q 1 now tX (by decide) (.inr ⟨_, rfl⟩) (onext_bad W _ q now tX (by simpa [vq] using hq))).mono fun e w' ⟨h1, h2⟩ => ⟨h1, by rw [← h2]; exact Below.refl _ _⟩
/-- what the box says of a text that fits -/
theorem InvG.bars {Q n k : Nat} (h : InvG A B tb db xb Q n k W f) (txt : ByteArray) (ht : txt.size ≤ 16368) (W' : World) :
    Calls Tryz.prog 8 #[.agg (bxA f), .int .i64 Q, .string txt] W' fun e w' => e = .returned (.int .i64 (if 64 ≤ n then 6 else 0)) ∧ Below W'.heap.size W' w' := by
  obtain ⟨a, c, e⟩ := h.row.shape
  have hn := h.hn
  exact bars_ok W' (bxA f) Q n c a h.hQ (by omega) (by rw [bxA_get f Q (by have := h.hQ; omega), e]) txt ht
theorem Inv.bars (h : Inv A B tb db xb q i W f) (W' : World) :
    Calls Tryz.prog 8 #[.agg (bxA f), .int .i64 q, .string tX] W' fun e w' => e = .returned (.int .i64 (Ei q i)) ∧ Below W'.heap.size W' w' := by
  by_cases hq : vq q = true
  · obtain ⟨Q, rfl, g⟩ := h.g hq
    have e : Ei Q i = if 64 ≤ min i 64 then 6 else 0 := by
      unfold Ei; rw [if_pos hq]
      by_cases h64 : 64 ≤ i
      · rw [if_pos h64, if_pos (by omega)]
      · rw [if_neg h64, if_neg (by omega)]
    rw [e]
    exact g.bars tX (by decide) W'
  · have e : Ei q i = 1 := by unfold Ei; rw [if_neg hq]
    rw [e]
    exact bars_bad W' (bxA f) q (by simpa [vq] using hq) tX
theorem Inv.commit (h : Inv A B tb db xb q i W f) (hE : Ei q i = 0) (now : Int) (v : Value) (hv : RdE W v (putsN q.toNat i now tX)) :
    Calls Tryz.prog 9 #[.pointer (some ⟨tb, 0, none⟩), v] W fun e w' => e = .returned (.int .i64 0) ∧ InvC A B tb db xb q i w' f ∧ Below A W w' := by
  obtain ⟨hq, hi⟩ := Ei_zero hE
  obtain ⟨Q, rfl, g⟩ := h.g hq
  rw [show min i 64 = i by omega] at g
  obtain ⟨M, hd, hh⟩ := g.dbb
  have hlen := hh.len
  have hsum := hh.sum
  refine (hd.commit (by omega) v _ hv (putsN_ok Q i (by omega) now tX (by decide)) (by simp [putsN]) (putsN_sum Q i (by omega) now tX (by decide)) (by omega) (by omega)).mono fun e w' ⟨he, hc, hb, hk⟩ => ⟨he, ⟨?_, h.sh, h.hB, h.hd, hi, Q, rfl, g.hQ, g.hn, by omega, ⟨_, hc, ?_⟩, g.had, g.row.kx hk (by decide) (fun g' a c e => ?_), g.new⟩, hb⟩
  · exact hk.blk xb _ _ _ h.bx (by have := h.hd; simp; omega) (by decide)
  · show Had Q (i + 1) (putAll M (putAll [] (putsN Q i now tX)))
    rw [putsN_all]
    exact hh.step _ (by have := valB_size 0 (u64N now) tX; have ht : tX.size = 1 := rfl; omega) (by omega)
  · have := g.new g' a c e
    have := h.hd
    simp
    omega
theorem InvC.add (h : InvC A B tb db xb q i W f) (now : Int) :
    Calls Tryz.prog 10 #[.agg (bxA f), .int .i64 q, .string tX, .int .i64 now] W fun e w' => ∃ f', e = .returned (.agg (bxA f')) ∧ BxS f' ∧ Bx w' xb f ∧ Inv A B tb db xb q (i + 1) (w'.setRow xb (bxA f')) f' ∧ Below W.heap.size W w' := by
  obtain ⟨Q, rfl, g⟩ := h.g
  have hQ := g.hQ
  have hi := h.hi
  refine (radd_any W f h.sh Q i i g.hQ (by omega) (f Q) rfl g.row g.had (by omega) tX now).mono fun e w' ⟨v', he, hr, hn, hb⟩ => ?_
  obtain ⟨a, c, rfl⟩ := hr.shape
  have hbx := h.bx.below hb
  have hxb := heap_lt h.bx
  have hf1 : updF (updF f (8 + Q) (.int .u64 ((i : Int) + 1))) Q (.slice a (i + 1) c) Q = .slice a (i + 1) c := updF_at _ _ _
  have hf2 : updF (updF f (8 + Q) (.int .u64 ((i : Int) + 1))) Q (.slice a (i + 1) c) (8 + Q) = .int .u64 ((i + 1 : Nat) : Int) := by
    rw [updF_ne _ _ _ _ (by omega), updF_at]; congr 1
  refine ⟨_, he, (h.sh.num Q hQ _).row Q hQ _ _ _, hbx, ⟨heap_setRow_same hbx _, (h.sh.num Q hQ _).row Q hQ _ _ _, h.hB, h.hd, fun _ => ⟨Q, rfl, ?_⟩⟩, hb⟩
  rw [show min (i + 1) 64 = i + 1 by omega]
  obtain ⟨M, hd, hh⟩ := (g.below hb).dbb
  refine ⟨hQ, by omega, by omega, ⟨M, hd.box hbx h.hB _, hh⟩, hf2, ?_, ?_⟩
  · rw [hf1]; exact hr.setRow hbx _
  · rw [hf1]; intro g' a' c' e; have := hn g' a' c' e; omega
/-- nothing was added -/
theorem Inv.same (h : Inv A B tb db xb q i W f) (hE : Ei q i ≠ 0) : Inv A B tb db xb q (i + 1) W f :=
  ⟨h.bx, h.sh, h.hB, h.hd, fun hq => by
    obtain ⟨Q, e, g⟩ := h.g hq
    have h64 : 64 ≤ i := by
      unfold Ei at hE
      rw [if_pos hq] at hE
      split at hE
      · assumption
      · exact absurd rfl hE
    rw [show min i 64 = min (i + 1) 64 by omega] at g
    exact ⟨Q, e, g⟩⟩
/-- what bars a text, in the end -/
def Et (q : Int) (i : Nat) (s : Nat) : Int := if vq q then (if 16368 < s then 3 else if 64 ≤ i then 6 else 0) else 1
/-- Add of any text -/
theorem Inv.add_t (h : Inv A B tb db xb q i W f) (now : Int) (txt : ByteArray) (ht : txt.size ≤ 20000) :
    Calls Tryz.prog 7 #[.pointer (some ⟨tb, 0, none⟩), .int .i64 q, .string txt, .int .i64 now] W fun e w' => ∃ a c, e = .returned (.tuple #[.slice a (if Et q i txt.size = 0 then 2 else 0) c, .int .i64 (Et q i txt.size)]) ∧ Below W.heap.size W w' := by
  by_cases hq : vq q = true
  · obtain ⟨Q, rfl, g⟩ := h.g hq
    by_cases hs : 16368 < txt.size
    · have e : Et Q i txt.size = 3 := by unfold Et; rw [if_pos hq, if_pos hs]
      rw [e]
      exact (add_err W (.pointer (some ⟨tb, 0, none⟩)) Q 3 now txt (by decide) (.inr ⟨_, rfl⟩) (onext_long W _ Q g.hQ now txt hs (by unfold maxLen; omega))).mono fun e w' ⟨h1, h2⟩ => ⟨none, 0, h1, by rw [← h2]; exact Below.refl _ _⟩
    · by_cases h64 : 64 ≤ i
      · have e : Et Q i txt.size = 6 := by unfold Et; rw [if_pos hq, if_neg hs, if_pos h64]
        rw [e]
        exact (g.full now txt (by omega) (by omega)).mono fun e w' ⟨h1, h2⟩ => ⟨none, 0, h1, h2⟩
      · have e : Et Q i txt.size = 0 := by unfold Et; rw [if_pos hq, if_neg hs, if_neg h64]
        rw [e]
        exact (g.add now txt (by omega) (by omega)).mono fun e w' ⟨bk, h1, _, h2⟩ => ⟨_, _, h1, h2⟩
  · have e : Et q i txt.size = 1 := by unfold Et; rw [if_neg hq]
    rw [e]
    exact (add_err W (.pointer (some ⟨tb, 0, none⟩)) q 1 now txt (by decide) (.inr ⟨_, rfl⟩) (onext_bad W _ q now txt (by simpa [vq] using hq))).mono fun e w' ⟨h1, h2⟩ => ⟨none, 0, h1, by rw [← h2]; exact Below.refl _ _⟩
theorem Inv.bars_t (h : Inv A B tb db xb q i W f) (txt : ByteArray) (W' : World) :
    Calls Tryz.prog 8 #[.agg (bxA f), .int .i64 q, .string txt] W' fun e w' => e = .returned (.int .i64 (Et q i txt.size)) ∧ Below W'.heap.size W' w' := by
  by_cases hq : vq q = true
  · obtain ⟨Q, rfl, g⟩ := h.g hq
    by_cases hs : 16368 < txt.size
    · have e : Et Q i txt.size = 3 := by unfold Et; rw [if_pos hq, if_pos hs]
      rw [e]
      exact bars_long W' (bxA f) Q g.hQ txt hs
    · have e : Et Q i txt.size = if 64 ≤ min i 64 then 6 else 0 := by
        unfold Et; rw [if_pos hq, if_neg hs]
        by_cases h64 : 64 ≤ i
        · rw [if_pos h64, if_pos (by omega)]
        · rw [if_neg h64, if_neg (by omega)]
      rw [e]
      exact g.bars txt (by omega) W'
  · have e : Et q i txt.size = 1 := by unfold Et; rw [if_neg hq]
    rw [e]
    exact bars_bad W' (bxA f) q (by simpa [vq] using hq) txt
/-- what bars an item that is not new -/
def Er (q : Int) (s : Nat) : Int := if vq q then (if 16368 < s then 3 else 0) else 1
theorem Er_of (q : Int) (i s : Nat) : (if Et q i s = 6 then 0 else Et q i s) = Er q s := by
  unfold Et Er
  repeat' split
  all_goals first | rfl | omega
theorem Inv.rest_t (h : Inv A B tb db xb q i W f) (txt : ByteArray) (W' : World) :
    Calls Tryz.prog 12 #[.agg (bxA f), .int .i64 q, .string txt] W' fun e w' => e = .returned (.int .i64 (Er q txt.size)) ∧ Below W'.heap.size W' w' := by
  rw [← Er_of q i]
  exact rest_of W' f q (Et q i txt.size) txt (h.bars_t txt)
theorem Inv.next_t (h : Inv A B tb db xb q i W f) (now : Int) (txt : ByteArray) (ht : txt.size ≤ 20000) :
    Calls Tryz.prog 11 #[.pointer (some ⟨tb, 0, none⟩), .int .i64 q, .string txt, .int .i64 now] W fun e w' => ∃ a c, e = .returned (.tuple #[.slice a (if Er q txt.size = 0 then 2 else 0) c, .int .i64 (Er q txt.size)]) ∧ Below W.heap.size W w' := by
  by_cases hq : vq q = true
  · obtain ⟨Q, rfl, g⟩ := h.g hq
    by_cases hs : 16368 < txt.size
    · have e : Er Q txt.size = 3 := by unfold Er; rw [if_pos hq, if_pos hs]
      rw [e]
      exact (onext_long W _ Q g.hQ now txt hs (by unfold maxLen; omega)).mono fun e w' ⟨h1, h2⟩ => ⟨none, 0, h1, by rw [← h2]; exact Below.refl _ _⟩
    · have e : Er Q txt.size = 0 := by unfold Er; rw [if_pos hq, if_neg hs]
      rw [e]
      obtain ⟨M, ⟨l, n', z, hd, _⟩, hh⟩ := g.dbb
      have := g.hk
      exact (onext_ok hd (by have := hh.len; omega) Q 1 _ g.hQ hh.numH (hh.numT (by omega)) (by omega) now txt (by omega)).mono fun e w' ⟨bk, h1, _, h2⟩ => ⟨_, _, h1, h2⟩
  · have e : Er q txt.size = 1 := by unfold Er; rw [if_neg hq]
    rw [e]
    exact (onext_bad W _ q now txt (by simpa [vq] using hq)).mono fun e w' ⟨h1, h2⟩ => ⟨none, 0, h1, by rw [← h2]; exact Below.refl _ _⟩
theorem add_nil (w : World) (q now : Int) (txt : ByteArray) : Calls Tryz.prog 7 #[.pointer none, .int .i64 q, .string txt, .int .i64 now] w fun e w' => e = .returned (.tuple #[.slice none 0 0, .int .i64 2]) ∧ w = w' :=
  add_err w (.pointer none) q 2 now txt (by decide) (.inl rfl) (onext_nil w q now txt)
end Go.Proofs.YtcohbfabcdjefaaGreatDoor
