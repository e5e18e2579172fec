/-
  For 'WalSynced': the crash of a written log, the last 'Append', sums, rows.
-/
import Derived.Test.YtkpoecofblhggaaGreatDoorPf
namespace Go.Proofs.YtkpoecofblhggaaGreatDoor
open Go.RowKit Go.Maps

variable {W w w' : World} {b sb ob db m B : Nat} {d : Dk} {x : Lg} {log : ByteArray} {A P Q : List ByteArray} {sure : Nat} {L : List Sy} {p : Sy} {f : Int} {s : ByteArray}
theorem In.crashL {F : Fs} (h : In W w db m d) (hd : d = DU (fsL log L p) f ∨ d = DW (fsL log L p)) (hv : Live log P sure L p) (hP : flen P ≤ 1000000) (hB : db < B ∧ m < B) (ka : Option Addr) (kn kc : Nat) (ks : List Int) (hkl : ks.length = kn) (hkn : kn ≤ 1000000000000000)
    (hk : 0 < kn → ∃ kb ko, ka = some ⟨kb, ko, none⟩ ∧ kb ≠ db ∧ ∀ i, i < kn → w.cell? ⟨kb, ko + i, none⟩ = some (.int .i64 (ks.getD i 0))) :
    Calls Tryz.prog 14 #[.pointer (some ⟨db, 0, none⟩), .slice ka kn kc] w fun e w' => e = .returned (.tuple #[]) ∧ (∀ v Q, PutsAt w B v Q → PutsAt w' B v Q) ∧ ∃ A q, In W w' db m (DW (fsL log L q)) ∧ St log A L q ∧ A <+: P ∧ sure ≤ A.length := by
  obtain ⟨A, q, hq, hst, h1, h2⟩ := hv.crash ks hP
  refine (h.crashP hB ka kn kc ks hkl hkn hk).mono fun e w' ⟨he, hp, hi, _⟩ => ⟨he, hp, A, q, ?_, hst, h1, h2⟩
  have e1 : ({ d with fs := crashF ks d.fs, down := true, fuse := 0 } : Dk) = DW (fsL log L q) := by
    rw [← hq]
    rcases hd with rfl | rfl <;> rfl
  rwa [e1] at hi
theorem In.crashS (h : In W w db m (DU (fsL log L p) f)) (hst : St log A L p) (hB : db < B ∧ m < B) :
    Calls Tryz.prog 14 #[.pointer (some ⟨db, 0, none⟩), .slice none 0 0] w fun e w' => e = .returned (.tuple #[]) ∧ In W w' db m (DW (fsL log L p)) :=
  (h.crashP hB none 0 0 [] rfl (by omega) (by omega)).mono fun e w' ⟨he, _, hi, _⟩ => ⟨he, by
    have e1 : ({ DU (fsL log L p) f with fs := crashF [] (DU (fsL log L p) f).fs, down := true, fuse := 0 } : Dk) = DW (fsL log L p) := by
      show DW (crashF [] (fsL log L p)) = _
      rw [hst.crash []]
    rwa [e1] at hi⟩
theorem St.lastLe (h : St log A L p) (ht : p.1.t = []) : p.1.data.size ≤ flen A := by
  have hT := (h.ok p (by simp)).1
  have hl := hT.len
  rw [offs_all, ht] at hl
  rw [← h.bodsE, flen_append]
  simp at hl
  omega
theorem flen_prefix (h : A <+: Q) : flen A ≤ flen Q := by
  obtain ⟨r, rfl⟩ := h
  rw [flen_append]; omega
theorem LW.appendSt (h : LW W w b sb ob db m (DU (fsL log L p) 0) (xOf log A L p)) (hst : St log A L p) (ht : p.1.t = []) (hl : log.size ≤ 1000) (hok : logOk log.data.toList = true) (hs : s.size ≤ 65000) (hP : flen A ≤ 900000) (hn : A.length + 1 < 98) :
    Calls Tryz.prog 10 #[.pointer (some ⟨b, 0, none⟩), .string s] w fun e w' => e = .returned (.tuple #[.int .i64 ((A.length + 1 : Nat) : Int), .int .i64 0]) ∧ Below W.heap.size W w' := by
  have hle := hst.lastLe ht
  have hlenL := inc_len hst.inc
  rw [List.length_append] at hlenL
  obtain ⟨d', x', hr, hx⟩ := hst.append hok ht hs (by omega) hn
  have hn' : (if (0 : Int) = 0 then (x'.last : Int) else 0) = ((A.length + 1 : Nat) : Int) := by rw [if_pos rfl, hx]
  by_cases hz : 16384 ≤ (xOf log A L p).size
  · exact (h.turn hl (by show A.length < 98; omega) (by show (L.map _).length ≤ 1000; rw [List.length_map]; omega) hz (by show p.1.data.size ≤ _; omega) (by omega) hst.off hr hn').mono fun e w' ⟨he, _, _, h2⟩ => ⟨he, h2.bel⟩
  · exact (h.put hl (by show A.length < 98; omega) (by omega) (by omega) hst.off hr hn').mono fun e w' ⟨he, _, _, h2⟩ => ⟨he, h2.bel⟩

def sumTo (S : Nat → ByteArray) : Nat → Nat
  | 0 => 0
  | k + 1 => sumTo S k + min (S k).size 100001
def totTo (S : Nat → ByteArray) : Nat → Nat
  | 0 => 0
  | k + 1 => totTo S k + (S k).size
theorem tot_sum {S : Nat → ByteArray} : ∀ n, sumTo S n ≤ 100000 → totTo S n = sumTo S n
  | 0, _ => rfl
  | n + 1, h => by
    rw [sumTo] at h ⊢
    rw [totTo, tot_sum n (by omega)]
    omega
theorem tot_mono {S : Nat → ByteArray} {k : Nat} : ∀ n, k ≤ n → totTo S k ≤ totTo S n
  | 0, h => by rw [Nat.le_zero.1 h]; exact Nat.le_refl _
  | n + 1, h => by
    by_cases e : k = n + 1
    · rw [e]; exact Nat.le_refl _
    · have := tot_mono (S := S) n (show k ≤ n by omega)
      rw [totTo]; omega
theorem sum_le {S : Nat → ByteArray} : ∀ k, sumTo S k ≤ k * 100001
  | 0 => Nat.le_refl _
  | k + 1 => by have := sum_le (S := S) k; rw [sumTo]; omega
theorem PutsAt.cell {v : Value} (h : PutsAt w B v Q) {k : Nat} (hk : k < Q.length) : ∃ g cap, v = .slice (some ⟨g, 0, none⟩) Q.length cap ∧ Q.length ≤ cap ∧ cap ≤ maxLen ∧ g < w.heap.size ∧ w.cell? ⟨g, k, none⟩ = some (.string Q[k]) := by
  obtain ⟨h1, h2⟩ := h
  rcases h2 with ⟨_, hz⟩ | ⟨g, cap, cur, e, hg, hh, h3, h4, h5, h6⟩
  · omega
  · refine ⟨g, cap, e, h3, h4, heap_lt hh, ?_⟩
    have e6 : (cur.toList.take (Q.length * 1))[k]? = some (.string Q[k]) := by rw [h6, List.getElem?_map, List.getElem?_eq_getElem hk]; rfl
    rw [List.getElem?_take_of_lt (by omega), Array.getElem?_toList] at e6
    simp [World.cell?, hh, e6]
theorem RecsAt.cells {v : Value} {l : List Rc} (h : RecsAt w B v l) {k : Nat} (hk : k < l.length) : ∃ g cap, v = .slice (some ⟨g, 0, none⟩) l.length cap ∧ l.length ≤ cap ∧ cap ≤ maxLen ∧ g < w.heap.size ∧ w.cell? ⟨g, k * 2, none⟩ = some (.int .i64 (l[k].1 : Nat)) ∧ w.cell? ⟨g, k * 2 + 1, none⟩ = some (.string l[k].2) := by
  obtain ⟨h1, h2⟩ := h
  rcases h2 with ⟨_, hz⟩ | ⟨g, cap, cur, e, hg, hh, h3, h4, h5, h6⟩
  · omega
  · have ha := rccells_at l k hk
    refine ⟨g, cap, e, h3, h4, heap_lt hh, ?_, ?_⟩
    · have e6 : (cur.toList.take (l.length * 2))[k * 2]? = some (.int .i64 (l[k].1 : Nat)) := by rw [h6]; exact ha.1
      rw [List.getElem?_take_of_lt (by omega), Array.getElem?_toList] at e6
      simp [World.cell?, hh, e6]
    · have e6 : (cur.toList.take (l.length * 2))[k * 2 + 1]? = some (.string l[k].2) := by rw [h6]; exact ha.2
      rw [List.getElem?_take_of_lt (by omega), Array.getElem?_toList] at e6
      simp [World.cell?, hh, e6]
theorem RecsAt.below {v : Value} {l : List Rc} (h : RecsAt w B v l) (hb : Below w.heap.size w w') : RecsAt w' B v l := by
  obtain ⟨h1, h2⟩ := h
  refine ⟨h1, h2.imp id ?_⟩
  rintro ⟨g, cap, cur, e, hg, hh, r⟩
  exact ⟨g, cap, cur, e, hg, (hb.block g (heap_lt hh)).trans hh, r⟩
theorem numb_at (n : Nat) {l : List ByteArray} {k : Nat} (hk : k < l.length) : (numb n l)[k]'(by rw [numb_len]; exact hk) = (n + k, l[k]) := by
  have := numb_get n l k hk
  rw [List.getElem?_eq_getElem (by rw [numb_len]; exact hk)] at this
  exact Option.some.inj this
theorem info_str : (Tryz.prog.info? 9).map (fun i => (i.zero, i.size, i.bytes)) = some (some (.string ⟨#[]⟩), 1, 16) := by kernel_rfl
end Go.Proofs.YtkpoecofblhggaaGreatDoor
