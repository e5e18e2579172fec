/- Lemmas for ModelStays' proof. -/
import Derived.Test.YtgoejmheihgpfaaGreatDoorPa
import Derived.StillTailTactics
namespace Go.Proofs.YtgoejmheihgpfaaGreatDoor
set_option maxRecDepth 100000
set_option maxHeartbeats 16000000
open Go.RowKit
theorem numL_step (l : Tx) (j : Nat) (h : j < l.length) : numL (l.take (j + 1)) = 10 * numL (l.take j) + (l[j].toNat - 48) := by
 rw [List.take_succ_eq_append_getElem h]
 unfold numL
 rw [List.foldl_append]
 rfl
theorem numL_lt : ∀ (l : Tx), (∀ c ∈ l, digitB c = true) → numL l < 10 ^ l.length := by
 intro l
 have key : ∀ (l : Tx) (n m : Nat), (∀ c ∈ l, digitB c = true) → n < m → l.foldl (fun n c => 10 * n + (c.toNat - 48)) n < m * 10 ^ l.length := by
  intro l; induction l with
  | nil => intro n m _ h; simpa using h
  | cons c r ih =>
   intro n m hd h; have hc := hd c (List.mem_cons_self ..); simp only [digitB, Bool.and_eq_true, decide_eq_true_eq] at hc; have := ih (10 * n + (c.toNat - 48)) (10 * m) (fun x hx => hd x (List.mem_cons_of_mem _ hx)) (by omega); rw [List.foldl_cons, List.length_cons, Nat.pow_succ]
   calc _ < 10 * m * 10 ^ r.length := this
    _ = m * (10 ^ r.length * 10) := by rw [Nat.mul_comm 10 m, Nat.mul_assoc, Nat.mul_comm 10]
 intro h
 have := key l 0 1 h (by decide)
 rw [Nat.one_mul] at this
 exact this
theorem tw_all (p : UInt8 → Bool) : ∀ (l : Tx), ∀ c ∈ l.takeWhile p, p c = true
 | [], _, h => by cases h
 | c :: r, x, h => by
  rw [List.takeWhile_cons] at h
  split at h
  ·rename_i hp
   rcases List.mem_cons.1 h with rfl | h
   ·exact hp
   ·exact tw_all p r x h
  ·cases h
theorem tw_byte {p : UInt8 → Bool} {s : ByteArray} {a j : Nat} (h : a < s.size) (hj : j < (s[a] :: (s.data.toList.drop (a + 1)).takeWhile p).length) (hs : a + j < s.size) : (s[a] :: (s.data.toList.drop (a + 1)).takeWhile p)[j] = s[a + j] := by
 cases j with
 | zero => rfl
 | succ j =>
  rw [List.getElem_cons_succ]; have hj' : j < ((s.data.toList.drop (a + 1)).takeWhile p).length := by simpa using hj
  have e : ((s.data.toList.drop (a + 1)).takeWhile p)[j] = (s.data.toList.drop (a + 1))[j]'(Nat.lt_of_lt_of_le hj' (tw_le _ _)) := by
   have h1 := List.getElem_take (xs := s.data.toList.drop (a + 1)) (j := ((s.data.toList.drop (a + 1)).takeWhile p).length) (i := j) (h := by rw [tw_take]; exact hj'); rw [← h1]; congr 1; exact (tw_take _ _).symm
  rw [e, List.getElem_drop]; have : a + 1 + j = a + (j + 1) := by omega
  simp only [this]; rfl
theorem heap_lt {w : World} {k : Nat} {o : Obj} (h : w.heap[k]? = some o) : k < w.heap.size := (zq h).1
structure NumW (w wr : World) (txt : ByteArray) (N a : Nat) : Prop where
 t : wr.heap[w.heap.size + 1]? = some (.cells #[.int .u8 2, .string txt, iV (N : Nat), iV (a : Nat)] 194 (0, 0))
 r : ∃ x0 x1 x2 x3, wr.heap[w.heap.size]? = some (.cells #[x0, x1, x2, x3] 194 (0, 0))
 bel : Below w.heap.size w wr
theorem NumW.cells {w wr : World} {txt : ByteArray} {N a : Nat} (h : NumW w wr txt N a) : wr.cell? ⟨w.heap.size + 1, 0, none⟩ = some (.int .u8 2) ∧ wr.cell? ⟨w.heap.size + 1, 1, none⟩ = some (.string txt) ∧ wr.cell? ⟨w.heap.size + 1, 2, none⟩ = some (iV (N : Nat)) ∧ wr.cell? ⟨w.heap.size + 1, 3, none⟩ = some (iV (a : Nat)) ∧ wr.frozen? ⟨w.heap.size + 1, 2, none⟩ = false := by
 have := h.t
 exact ⟨by simp [World.cell?, this], by simp [World.cell?, this], by simp [World.cell?, this], by simp [World.cell?, this], by simp [World.frozen?, this]⟩
theorem NumW.res {w wr : World} {txt : ByteArray} {N a : Nat} (h : NumW w wr txt N a) : ∃ x0 x1 x2 x3, wr.cell? ⟨w.heap.size, 0, none⟩ = some x0 ∧ wr.cell? ⟨w.heap.size, 1, none⟩ = some x1 ∧ wr.cell? ⟨w.heap.size, 2, none⟩ = some x2 ∧ wr.cell? ⟨w.heap.size, 3, none⟩ = some x3 ∧ wr.frozen? ⟨w.heap.size, 0, none⟩ = false ∧ wr.frozen? ⟨w.heap.size, 1, none⟩ = false ∧ wr.frozen? ⟨w.heap.size, 2, none⟩ = false ∧ wr.frozen? ⟨w.heap.size, 3, none⟩ = false := by
 obtain ⟨x0, x1, x2, x3, hr⟩ := h.r
 exact ⟨x0, x1, x2, x3, by simp [World.cell?, hr], by simp [World.cell?, hr], by simp [World.cell?, hr], by simp [World.cell?, hr], by simp [World.frozen?, hr], by simp [World.frozen?, hr], by simp [World.frozen?, hr], by simp [World.frozen?, hr]⟩
theorem NumW.drew {w wr : World} {txt : ByteArray} {N a : Nat} (h : NumW w wr txt N a) : NumW w wr.drew txt N a := ⟨h.t, h.r, h.bel.drew⟩
theorem NumW.put {w wr : World} {txt : ByteArray} {N a : Nat} (h : NumW w wr txt N a) (n : Nat) : NumW w (wr.setCell ⟨w.heap.size + 1, 2, none⟩ (iV (n : Nat))) txt n a := by
 refine ⟨heap_setCell_same _ _ _ _ _ _ h.t, ?_, h.bel.setCell (p := ⟨w.heap.size + 1, 2, none⟩) (by show w.heap.size ≤ w.heap.size + 1; omega) _⟩
 obtain ⟨x0, x1, x2, x3, hr⟩ := h.r
 exact ⟨x0, x1, x2, x3, (Below.heap_setCell _ _ _ _ (by show w.heap.size ≠ w.heap.size + 1; omega)).trans hr⟩
theorem num_start (w : World) (txt : ByteArray) (a : Nat) (x0 x1 x2 x3 : Value) : NumW w ((w.alloc (.cells #[x0, x1, x2, x3] 194)).alloc (.cells #[.int .u8 2, .string txt, iV ((0 : Nat) : Int), iV (a : Nat)] 194)) txt 0 a := by
 refine ⟨?_, ⟨x0, x1, x2, x3, ?_⟩, bel2 _ _ _⟩
 ·have := zw (w.alloc (.cells #[x0, x1, x2, x3] 194)) (.cells #[.int .u8 2, .string txt, iV ((0 : Nat) : Int), iV (a : Nat)] 194)
  have e : (w.alloc (.cells #[x0, x1, x2, x3] 194)).heap.size = w.heap.size + 1 := by simp
  rw [e] at this; exact this
 ·have h0 := zw w (.cells #[x0, x1, x2, x3] 194)
  exact ((zl.alloc zn _ : Below (w.alloc (.cells #[x0, x1, x2, x3] 194)).heap.size _ _).block w.heap.size (heap_lt h0)).trans h0
theorem bel_set {W w : World} {k : Nat} (h : Below W.heap.size W w) (hk : W.heap.size ≤ k) (o : Nat) (v : Value) : Below W.heap.size W (w.setCell ⟨k, o, none⟩ v) := h.setCell (p := ⟨k, o, none⟩) hk v
theorem one_digit (w : World) (s : ByteArray) (hs : s.size ≤ 4611686018427387904) (a : Nat) (ha : a < s.size) (h1 : letterB s[a] = false) (h2 : digitB s[a] = true) : Calls Tryz.prog 109 #[.string s, iV (a : Nat)] w fun e w' => e = .returned (.tuple #[tokV (oneL a s[a] (s.data.toList.drop (a + 1))).1, iV ((oneL a s[a] (s.data.toList.drop (a + 1))).2 : Nat)]) ∧ Below w.heap.size w w' := by
 obtain ⟨M, hM⟩ : ∃ M, ((s.data.toList.drop (a + 1)).takeWhile digitB).length + (a + 1) = M := ⟨_, rfl⟩
 have hMs : M ≤ s.size := by have := tw_le digitB (s.data.toList.drop (a + 1)); rw [drop_len] at this; omega
 have HT := zD (tw_text (p := digitB) ha hM)
 have HM := zD hM
 have HL0 := zD (fun V => letter_any V s[a])
 rw [h1] at HL0
 have HD0 := zD (fun V => digit_any V s[a])
 rw [h2] at HD0
 have HD := zD (fun V (k : Nat) (h : k < s.size) => digit_any V s[k])
 have hw1 : IntKind.i64.wrap ((a : Int) + 1) = (a : Int) + 1 := IntWalk.i64_in _ (by omega)
 have hw2 : IntKind.i64.wrap ((M : Int) - (a : Int)) = (M : Int) - (a : Int) := IntWalk.i64_in _ (by omega)
 have HO := zD (show oneL a s[a] (s.data.toList.drop (a + 1)) = _ from by unfold oneL; rw [if_neg (by rw [h1]; decide), if_pos h2])
 have HX := zD (u8_eq s[a] 48 (by decide) 48 rfl)
 have hL : (s[a] :: (s.data.toList.drop (a + 1)).takeWhile digitB).length = M - a := by rw [List.length_cons]; omega
 have HDG := zD (show ∀ c ∈ s[a] :: (s.data.toList.drop (a + 1)).takeWhile digitB, digitB c = true from fun c hc => by
  rcases List.mem_cons.1 hc with rfl | hc
  ·exact h2
  ·exact tw_all _ _ c hc)
 have HBY := zD (show ∀ (i : Nat) (_ : a ≤ i) (hj : i - a < (s[a] :: (s.data.toList.drop (a + 1)).takeWhile digitB).length) (hs : i < s.size), (s[a] :: (s.data.toList.drop (a + 1)).takeWhile digitB)[i - a] = s[i] from fun i h1 hj hs => by
  have e : a + (i - a) = i := by omega
  rw [tw_byte (p := digitB) ha hj (by omega)]; simp only [e])
 have hlen : ((s.data.toList.drop (a + 1)).takeWhile digitB).length + 1 = M - a := by omega
 rw [hlen] at HO
 clear hM h1 h2 hlen
 go_enter Tryz.func109, Tryz.ntmps109
 go_wp2_with fail
 refine (HL0.out _).mono ?_
 rintro e w1 ⟨rfl, rfl⟩
 go_wp2_with fail
 refine (HD0.out _).mono ?_
 rintro e w1 ⟨rfl, rfl⟩
 go_wp2_with fail
 go_loop [8] (fun i => ∃ k : Nat, a + 1 ≤ k ∧ k ≤ s.size ∧ i = iV k ∧ Hid (((s.data.toList.drop k).takeWhile digitB).length + k = M)) (fun i => s.size - (intOf i).toNat)
 case atStart => exact ⟨a + 1, by omega, by omega, by simp, HM⟩
 case round =>
  obtain ⟨k, hk1, hk2, rfl, HK⟩ := hrel
  have hcase : (k < s.size ∧ ∃ h : k < s.size, digitB s[k] = true) ∨ (k = M ∧ (¬ k < s.size ∨ ∃ h : k < s.size, digitB s[k] = false)) := by
   by_cases hlt : k < s.size
   ·cases hd : digitB s[k] with
    | true => exact .inl ⟨hlt, hlt, hd⟩
    | false => exact .inr ⟨tw_stop (p := digitB) (fun _ => hd) HK.out, .inr ⟨hlt, hd⟩⟩
   ·exact .inr ⟨tw_stop (p := digitB) (fun h => absurd h hlt) HK.out, .inl hlt⟩
  rcases hcase with ⟨hlt, _, hd⟩ | ⟨hkM, hend⟩
  ·have HDk := zD (fun V => HD.out V k hlt)
   have HS := zD (tw_step (p := digitB) hlt hd HK.out); have hwk : IntKind.i64.wrap ((k : Int) + 1) = (k : Int) + 1 := IntWalk.i64_in _ (by omega); rw [hd] at HDk; clear HK hd; go_wp2_with fail; refine (HDk.out _).mono ?_; rintro e w1 ⟨rfl, rfl⟩; go_wp2_with fail; exact ⟨⟨k + 1, by omega, by omega, by go_num, HS⟩, by simp [intOf]; omega⟩
  ·clear HK
   subst hkM; have HEN := zD hend; clear hend; have hwm : ∀ j : Nat, j < s.size → IntKind.i64.wrap ((j : Int) + 1) = (j : Int) + 1 := fun j hj => IntWalk.i64_in _ (by omega)
   by_cases h9 : 9 < k - a
   ·rw [if_pos h9] at HO
    have d9 : decide ((9 : Int) < (k : Int) - (a : Int)) = true := by rw [decide_eq_true_eq]; omega
    by_cases hlt : k < s.size
    ·have hd : digitB s[k] = false := HEN.out.elim (fun h => absurd hlt h) (fun ⟨_, h⟩ => h)
     have HDk := zD (fun V => HD.out V k hlt); rw [hd] at HDk; clear hd HEN; go_wp2_with fail; refine (HDk.out _).mono ?_; rintro e w1 ⟨rfl, rfl⟩; go_wp2_with fail; exact zR (v := .tuple #[.agg #[.int .u8 2, .string (s.extract a k), iV 0, iV (a : Nat)], iV 3]) ⟨by rw [HO.out, HT.out]; rfl, bel2 _ _ _⟩
    ·clear HEN
     go_wp2_with fail; exact zR (v := .tuple #[.agg #[.int .u8 2, .string (s.extract a k), iV 0, iV (a : Nat)], iV 3]) ⟨by rw [HO.out, HT.out]; rfl, bel2 _ _ _⟩
   rw [if_neg h9] at HO; have d9 : decide ((9 : Int) < (k : Int) - (a : Int)) = false := by rw [decide_eq_false_iff_not]; omega
   cases hx : (((s[a].toNat : Nat) : Int) == (48 : Int) && decide ((1 : Int) < (k : Int) - (a : Int))) with
   | true =>
    rw [Bool.and_eq_true] at hx; obtain ⟨x1, x2⟩ := hx
    have hp : (s[a] == 48 && decide (1 < k - a)) = true := by
     rw [Bool.and_eq_true]; refine ⟨by rw [← x1]; exact HX.out, ?_⟩; rw [decide_eq_true_eq] at x2 ⊢; omega
    rw [if_pos hp] at HO; clear hp; by_cases hlt : k < s.size
    ·have hd : digitB s[k] = false := HEN.out.elim (fun h => absurd hlt h) (fun ⟨_, h⟩ => h)
     have HDk := zD (fun V => HD.out V k hlt); rw [hd] at HDk; clear hd HEN; go_wp2_with fail; refine (HDk.out _).mono ?_; rintro e w1 ⟨rfl, rfl⟩; go_wp2_with fail; exact zR (v := .tuple #[.agg #[.int .u8 2, .string (s.extract a k), iV 0, iV (a : Nat)], iV 110]) ⟨by rw [HO.out, HT.out]; rfl, bel2 _ _ _⟩
    ·clear HEN
     go_wp2_with fail; exact zR (v := .tuple #[.agg #[.int .u8 2, .string (s.extract a k), iV 0, iV (a : Nat)], iV 110]) ⟨by rw [HO.out, HT.out]; rfl, bel2 _ _ _⟩
   | false =>
    have hp : ¬ (s[a] == 48 && decide (1 < k - a)) = true := fun h => by
     rw [Bool.and_eq_true] at h; have e1 : (((s[a].toNat : Nat) : Int) == (48 : Int)) = true := by rw [← h.1]; exact HX.out.symm
     have e2 : decide ((1 : Int) < (k : Int) - (a : Int)) = true := by have := h.2; rw [decide_eq_true_eq] at this ⊢; omega
     rw [e1, e2] at hx; cases hx
    rw [if_neg hp] at HO; clear hp; have HXX := zD hx; clear hx; generalize hq : (s[a] :: (s.data.toList.drop (a + 1)).takeWhile digitB) = l at *; have HNL := zD (fun (j : Nat) (h : j < l.length) => numL_step l j h); have HLT := zD (fun (j : Nat) (_ : j ≤ l.length) => numL_lt (l.take j) (fun c hc => HDG.out c (List.mem_of_mem_take hc))); clear hq; have hz9 : l.length ≤ 9 := by omega
    cases x1 : ((s[a].toNat : Nat) : Int) == (48 : Int) with
    | false =>
     by_cases hlt : k < s.size
     ·have hd : digitB s[k] = false := HEN.out.elim (fun h => absurd hlt h) (fun ⟨_, h⟩ => h)
      have HDk := zD (fun V => HD.out V k hlt); rw [hd] at HDk; clear hd HEN; go_wp2_with fail; refine (HDk.out _).mono ?_; rintro e w1 ⟨rfl, rfl⟩; go_wp2_with fail; have HN0 := zD (show NumW w ((w.alloc (.cells #[.int .u8 0, eS, iV 0, iV 0] 194)).alloc (.cells #[.int .u8 2, .string (s.extract a k), iV ((0 : Nat) : Int), iV (a : Nat)] 194)) (s.extract a k) 0 a from num_start _ _ _ _ _ _ _); go_loopw [9] (fun vi wr => ∃ i N : Nat, a ≤ i ∧ i ≤ k ∧ vi = iV (i : Nat) ∧ Hid (NumW w wr (s.extract a k) N a) ∧ Hid (N = numL (l.take (i - a))) ∧ N ≤ 999999999) (fun vi _ => k - (intOf vi).toNat)
      case atStart => exact ⟨a, 0, by omega, by omega, rfl, HN0, by rw [Nat.sub_self]; rfl, by omega⟩
      case round =>
       clear HN0; obtain ⟨i, N, hi1, hi2, rfl, HN, HV, hN⟩ := hrel; by_cases hjl : i < k
       ·have hil : i - a < l.length := by omega
        have hal : i < s.size := by omega
        have hby := HBY.out i hi1 hil hal; have hd := HDG.out (l[i - a]) (List.getElem_mem hil); have hst := HNL.out (i - a) hil; rw [hby] at hd hst; simp only [digitB, Bool.and_eq_true, decide_eq_true_eq] at hd; have HV2 := zD (show 10 * N + (s[i].toNat - 48) = numL (l.take (i + 1 - a)) by rw [show i + 1 - a = i - a + 1 by omega, hst, HV.out])
        have hN2 : 10 * N + (s[i].toNat - 48) ≤ 999999999 := by
         have h1 := HLT.out (i + 1 - a) (by omega); rw [← HV2.out, List.length_take] at h1; have h2 : 10 ^ (min (i + 1 - a) l.length) ≤ 10 ^ 9 := Nat.pow_le_pow_right (by decide) (by omega); omega
        clear hby hst; have hw10 : IntKind.i64.wrap (10 * (N : Int)) = 10 * (N : Int) := IntWalk.i64_in _ (by omega); have HND := zD HN.out.drew; obtain ⟨v0, v1, v2, v3, v4⟩ := HN.out.cells; clear HN HV; have hwA : IntKind.u8.wrap ((s[i].toNat : Int) - 48) = (s[i].toNat : Int) - 48 := IntWalk.u8_in _ (by omega); have hwB : IntKind.i64.wrap ((s[i].toNat : Int) - 48) = (s[i].toNat : Int) - 48 := IntWalk.i64_in _ (by omega); have hwC : IntKind.i64.wrap (10 * (N : Int) + ((s[i].toNat : Int) - 48)) = ((10 * N + (s[i].toNat - 48) : Nat) : Int) := by rw [IntWalk.i64_in _ (by omega)]; omega
        have hwD : IntKind.i64.wrap ((i : Int) + 1) = ((i + 1 : Nat) : Int) := by rw [IntWalk.i64_in _ (by omega)]; omega
        obtain ⟨y0, y1, y2, y3, y4⟩ := HND.out.cells; go_wp2_with fail; go_still_tail 9, (by kernel_rfl); change wpList _ _ _ _ _ wr.drew; generalize wr.drew = w2 at *; go_wp2_with fail; refine ⟨⟨i + 1, 10 * N + (s[i].toNat - 48), by omega, by omega, by go_num, ?_, HV2, hN2⟩, by simp [intOf]; omega⟩; have h := HND.out.put (10 * N + (s[i].toNat - 48)); rw [show ((10 * N + (s[i].toNat - 48) : Nat) : Int) = 10 * (N : Int) + ((s[i].toNat - 48 : Nat) : Int) by omega] at h; exact zD h
       ·have hik : i = k := by omega
        have HVE := zD (show N = numL l from by rw [HV.out, List.take_of_length_le (by omega)]); obtain ⟨v0, v1, v2, v3, v4⟩ := HN.out.cells; obtain ⟨x0, x1, x2, x3, z0, z1, z2, z3, f0, f1, f2, f3⟩ := HN.out.res; have HBW := zD HN.out.bel; clear HN HV; go_wp2_with fail; exact bodyPost_ret (v := .tuple #[.agg #[.int .u8 2, .string (s.extract a k), iV (N : Nat), iV (a : Nat)], iV 0]) (by simp [results, Tryz.results109, go_sem, *]) rfl ⟨by rw [HO.out, HT.out, HVE.out]; rfl, bel_set (bel_set (bel_set (bel_set HBW.out zn _ _) zn _ _) zn _ _) zn _ _⟩
     ·clear HEN
      go_wp2_with fail; have HN0 := zD (show NumW w ((w.alloc (.cells #[.int .u8 0, eS, iV 0, iV 0] 194)).alloc (.cells #[.int .u8 2, .string (s.extract a k), iV ((0 : Nat) : Int), iV (a : Nat)] 194)) (s.extract a k) 0 a from num_start _ _ _ _ _ _ _); go_loopw [9] (fun vi wr => ∃ i N : Nat, a ≤ i ∧ i ≤ k ∧ vi = iV (i : Nat) ∧ Hid (NumW w wr (s.extract a k) N a) ∧ Hid (N = numL (l.take (i - a))) ∧ N ≤ 999999999) (fun vi _ => k - (intOf vi).toNat)
      case atStart => exact ⟨a, 0, by omega, by omega, rfl, HN0, by rw [Nat.sub_self]; rfl, by omega⟩
      case round =>
       clear HN0; obtain ⟨i, N, hi1, hi2, rfl, HN, HV, hN⟩ := hrel; by_cases hjl : i < k
       ·have hil : i - a < l.length := by omega
        have hal : i < s.size := by omega
        have hby := HBY.out i hi1 hil hal; have hd := HDG.out (l[i - a]) (List.getElem_mem hil); have hst := HNL.out (i - a) hil; rw [hby] at hd hst; simp only [digitB, Bool.and_eq_true, decide_eq_true_eq] at hd; have HV2 := zD (show 10 * N + (s[i].toNat - 48) = numL (l.take (i + 1 - a)) by rw [show i + 1 - a = i - a + 1 by omega, hst, HV.out])
        have hN2 : 10 * N + (s[i].toNat - 48) ≤ 999999999 := by
         have h1 := HLT.out (i + 1 - a) (by omega); rw [← HV2.out, List.length_take] at h1; have h2 : 10 ^ (min (i + 1 - a) l.length) ≤ 10 ^ 9 := Nat.pow_le_pow_right (by decide) (by omega); omega
        clear hby hst; have hw10 : IntKind.i64.wrap (10 * (N : Int)) = 10 * (N : Int) := IntWalk.i64_in _ (by omega); have HND := zD HN.out.drew; obtain ⟨v0, v1, v2, v3, v4⟩ := HN.out.cells; clear HN HV; have hwA : IntKind.u8.wrap ((s[i].toNat : Int) - 48) = (s[i].toNat : Int) - 48 := IntWalk.u8_in _ (by omega); have hwB : IntKind.i64.wrap ((s[i].toNat : Int) - 48) = (s[i].toNat : Int) - 48 := IntWalk.i64_in _ (by omega); have hwC : IntKind.i64.wrap (10 * (N : Int) + ((s[i].toNat : Int) - 48)) = ((10 * N + (s[i].toNat - 48) : Nat) : Int) := by rw [IntWalk.i64_in _ (by omega)]; omega
        have hwD : IntKind.i64.wrap ((i : Int) + 1) = ((i + 1 : Nat) : Int) := by rw [IntWalk.i64_in _ (by omega)]; omega
        obtain ⟨y0, y1, y2, y3, y4⟩ := HND.out.cells; go_wp2_with fail; go_still_tail 9, (by kernel_rfl); change wpList _ _ _ _ _ wr.drew; generalize wr.drew = w2 at *; go_wp2_with fail; refine ⟨⟨i + 1, 10 * N + (s[i].toNat - 48), by omega, by omega, by go_num, ?_, HV2, hN2⟩, by simp [intOf]; omega⟩; have h := HND.out.put (10 * N + (s[i].toNat - 48)); rw [show ((10 * N + (s[i].toNat - 48) : Nat) : Int) = 10 * (N : Int) + ((s[i].toNat - 48 : Nat) : Int) by omega] at h; exact zD h
       ·have hik : i = k := by omega
        have HVE := zD (show N = numL l from by rw [HV.out, List.take_of_length_le (by omega)]); obtain ⟨v0, v1, v2, v3, v4⟩ := HN.out.cells; obtain ⟨x0, x1, x2, x3, z0, z1, z2, z3, f0, f1, f2, f3⟩ := HN.out.res; have HBW := zD HN.out.bel; clear HN HV; go_wp2_with fail; exact bodyPost_ret (v := .tuple #[.agg #[.int .u8 2, .string (s.extract a k), iV (N : Nat), iV (a : Nat)], iV 0]) (by simp [results, Tryz.results109, go_sem, *]) rfl ⟨by rw [HO.out, HT.out, HVE.out]; rfl, bel_set (bel_set (bel_set (bel_set HBW.out zn _ _) zn _ _) zn _ _) zn _ _⟩
    | true =>
     have x2 : decide ((1 : Int) < (k : Int) - (a : Int)) = false := by have := HXX.out; rw [x1, Bool.true_and] at this; exact this
     by_cases hlt : k < s.size
     ·have hd : digitB s[k] = false := HEN.out.elim (fun h => absurd hlt h) (fun ⟨_, h⟩ => h)
      have HDk := zD (fun V => HD.out V k hlt); rw [hd] at HDk; clear hd HEN; go_wp2_with fail; refine (HDk.out _).mono ?_; rintro e w1 ⟨rfl, rfl⟩; go_wp2_with fail; have HN0 := zD (show NumW w ((w.alloc (.cells #[.int .u8 0, eS, iV 0, iV 0] 194)).alloc (.cells #[.int .u8 2, .string (s.extract a k), iV ((0 : Nat) : Int), iV (a : Nat)] 194)) (s.extract a k) 0 a from num_start _ _ _ _ _ _ _); go_loopw [9] (fun vi wr => ∃ i N : Nat, a ≤ i ∧ i ≤ k ∧ vi = iV (i : Nat) ∧ Hid (NumW w wr (s.extract a k) N a) ∧ Hid (N = numL (l.take (i - a))) ∧ N ≤ 999999999) (fun vi _ => k - (intOf vi).toNat)
      case atStart => exact ⟨a, 0, by omega, by omega, rfl, HN0, by rw [Nat.sub_self]; rfl, by omega⟩
      case round =>
       clear HN0; obtain ⟨i, N, hi1, hi2, rfl, HN, HV, hN⟩ := hrel; by_cases hjl : i < k
       ·have hil : i - a < l.length := by omega
        have hal : i < s.size := by omega
        have hby := HBY.out i hi1 hil hal; have hd := HDG.out (l[i - a]) (List.getElem_mem hil); have hst := HNL.out (i - a) hil; rw [hby] at hd hst; simp only [digitB, Bool.and_eq_true, decide_eq_true_eq] at hd; have HV2 := zD (show 10 * N + (s[i].toNat - 48) = numL (l.take (i + 1 - a)) by rw [show i + 1 - a = i - a + 1 by omega, hst, HV.out])
        have hN2 : 10 * N + (s[i].toNat - 48) ≤ 999999999 := by
         have h1 := HLT.out (i + 1 - a) (by omega); rw [← HV2.out, List.length_take] at h1; have h2 : 10 ^ (min (i + 1 - a) l.length) ≤ 10 ^ 9 := Nat.pow_le_pow_right (by decide) (by omega); omega
        clear hby hst; have hw10 : IntKind.i64.wrap (10 * (N : Int)) = 10 * (N : Int) := IntWalk.i64_in _ (by omega); have HND := zD HN.out.drew; obtain ⟨v0, v1, v2, v3, v4⟩ := HN.out.cells; clear HN HV; have hwA : IntKind.u8.wrap ((s[i].toNat : Int) - 48) = (s[i].toNat : Int) - 48 := IntWalk.u8_in _ (by omega); have hwB : IntKind.i64.wrap ((s[i].toNat : Int) - 48) = (s[i].toNat : Int) - 48 := IntWalk.i64_in _ (by omega); have hwC : IntKind.i64.wrap (10 * (N : Int) + ((s[i].toNat : Int) - 48)) = ((10 * N + (s[i].toNat - 48) : Nat) : Int) := by rw [IntWalk.i64_in _ (by omega)]; omega
        have hwD : IntKind.i64.wrap ((i : Int) + 1) = ((i + 1 : Nat) : Int) := by rw [IntWalk.i64_in _ (by omega)]; omega
        obtain ⟨y0, y1, y2, y3, y4⟩ := HND.out.cells; go_wp2_with fail; go_still_tail 9, (by kernel_rfl); change wpList _ _ _ _ _ wr.drew; generalize wr.drew = w2 at *; go_wp2_with fail; refine ⟨⟨i + 1, 10 * N + (s[i].toNat - 48), by omega, by omega, by go_num, ?_, HV2, hN2⟩, by simp [intOf]; omega⟩; have h := HND.out.put (10 * N + (s[i].toNat - 48)); rw [show ((10 * N + (s[i].toNat - 48) : Nat) : Int) = 10 * (N : Int) + ((s[i].toNat - 48 : Nat) : Int) by omega] at h; exact zD h
       ·have hik : i = k := by omega
        have HVE := zD (show N = numL l from by rw [HV.out, List.take_of_length_le (by omega)]); obtain ⟨v0, v1, v2, v3, v4⟩ := HN.out.cells; obtain ⟨x0, x1, x2, x3, z0, z1, z2, z3, f0, f1, f2, f3⟩ := HN.out.res; have HBW := zD HN.out.bel; clear HN HV; go_wp2_with fail; exact bodyPost_ret (v := .tuple #[.agg #[.int .u8 2, .string (s.extract a k), iV (N : Nat), iV (a : Nat)], iV 0]) (by simp [results, Tryz.results109, go_sem, *]) rfl ⟨by rw [HO.out, HT.out, HVE.out]; rfl, bel_set (bel_set (bel_set (bel_set HBW.out zn _ _) zn _ _) zn _ _) zn _ _⟩
     ·clear HEN
      go_wp2_with fail; have HN0 := zD (show NumW w ((w.alloc (.cells #[.int .u8 0, eS, iV 0, iV 0] 194)).alloc (.cells #[.int .u8 2, .string (s.extract a k), iV ((0 : Nat) : Int), iV (a : Nat)] 194)) (s.extract a k) 0 a from num_start _ _ _ _ _ _ _); go_loopw [9] (fun vi wr => ∃ i N : Nat, a ≤ i ∧ i ≤ k ∧ vi = iV (i : Nat) ∧ Hid (NumW w wr (s.extract a k) N a) ∧ Hid (N = numL (l.take (i - a))) ∧ N ≤ 999999999) (fun vi _ => k - (intOf vi).toNat)
      case atStart => exact ⟨a, 0, by omega, by omega, rfl, HN0, by rw [Nat.sub_self]; rfl, by omega⟩
      case round =>
       clear HN0; obtain ⟨i, N, hi1, hi2, rfl, HN, HV, hN⟩ := hrel; by_cases hjl : i < k
       ·have hil : i - a < l.length := by omega
        have hal : i < s.size := by omega
        have hby := HBY.out i hi1 hil hal; have hd := HDG.out (l[i - a]) (List.getElem_mem hil); have hst := HNL.out (i - a) hil; rw [hby] at hd hst; simp only [digitB, Bool.and_eq_true, decide_eq_true_eq] at hd; have HV2 := zD (show 10 * N + (s[i].toNat - 48) = numL (l.take (i + 1 - a)) by rw [show i + 1 - a = i - a + 1 by omega, hst, HV.out])
        have hN2 : 10 * N + (s[i].toNat - 48) ≤ 999999999 := by
         have h1 := HLT.out (i + 1 - a) (by omega); rw [← HV2.out, List.length_take] at h1; have h2 : 10 ^ (min (i + 1 - a) l.length) ≤ 10 ^ 9 := Nat.pow_le_pow_right (by decide) (by omega); omega
        clear hby hst; have hw10 : IntKind.i64.wrap (10 * (N : Int)) = 10 * (N : Int) := IntWalk.i64_in _ (by omega); have HND := zD HN.out.drew; obtain ⟨v0, v1, v2, v3, v4⟩ := HN.out.cells; clear HN HV; have hwA : IntKind.u8.wrap ((s[i].toNat : Int) - 48) = (s[i].toNat : Int) - 48 := IntWalk.u8_in _ (by omega); have hwB : IntKind.i64.wrap ((s[i].toNat : Int) - 48) = (s[i].toNat : Int) - 48 := IntWalk.i64_in _ (by omega); have hwC : IntKind.i64.wrap (10 * (N : Int) + ((s[i].toNat : Int) - 48)) = ((10 * N + (s[i].toNat - 48) : Nat) : Int) := by rw [IntWalk.i64_in _ (by omega)]; omega
        have hwD : IntKind.i64.wrap ((i : Int) + 1) = ((i + 1 : Nat) : Int) := by rw [IntWalk.i64_in _ (by omega)]; omega
        obtain ⟨y0, y1, y2, y3, y4⟩ := HND.out.cells; go_wp2_with fail; go_still_tail 9, (by kernel_rfl); change wpList _ _ _ _ _ wr.drew; generalize wr.drew = w2 at *; go_wp2_with fail; refine ⟨⟨i + 1, 10 * N + (s[i].toNat - 48), by omega, by omega, by go_num, ?_, HV2, hN2⟩, by simp [intOf]; omega⟩; have h := HND.out.put (10 * N + (s[i].toNat - 48)); rw [show ((10 * N + (s[i].toNat - 48) : Nat) : Int) = 10 * (N : Int) + ((s[i].toNat - 48 : Nat) : Int) by omega] at h; exact zD h
       ·have hik : i = k := by omega
        have HVE := zD (show N = numL l from by rw [HV.out, List.take_of_length_le (by omega)]); obtain ⟨v0, v1, v2, v3, v4⟩ := HN.out.cells; obtain ⟨x0, x1, x2, x3, z0, z1, z2, z3, f0, f1, f2, f3⟩ := HN.out.res; have HBW := zD HN.out.bel; clear HN HV; go_wp2_with fail; exact bodyPost_ret (v := .tuple #[.agg #[.int .u8 2, .string (s.extract a k), iV (N : Nat), iV (a : Nat)], iV 0]) (by simp [results, Tryz.results109, go_sem, *]) rfl ⟨by rw [HO.out, HT.out, HVE.out]; rfl, bel_set (bel_set (bel_set (bel_set HBW.out zn _ _) zn _ _) zn _ _) zn _ _⟩
end Go.Proofs.YtgoejmheihgpfaaGreatDoor
