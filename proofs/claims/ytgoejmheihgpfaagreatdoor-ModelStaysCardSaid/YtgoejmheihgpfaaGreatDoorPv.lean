/- Lemmas for ModelStays' proof. -/
import Derived.Test.YtgoejmheihgpfaaGreatDoorPu
namespace Go.Proofs.YtgoejmheihgpfaaGreatDoor
set_option maxRecDepth 100000
set_option maxHeartbeats 16000000
open Go.RowKit
theorem Slc.shape {w : World} {k : Nat} {v : Value} {n : Nat} {xs : List Value} (h : Slc w k v n xs) : ∃ a c, v = .slice a n c := by obtain ⟨⟨a, c, rfl, -⟩, -⟩ := h; exact ⟨a, c, rfl⟩
theorem SchR.shape {w : World} {s : Sch} {ur us ug : Value} (h : SchR w s ur us ug) : (∃ a c, ur = .slice a s.records.length c) ∧ (∃ a c, us = .slice a s.services.length c) ∧ (∃ a c, ug = .slice a s.sagas.length c) := by
  obtain ⟨⟨_, a, _⟩, ⟨_, b, _⟩, ⟨_, c, _⟩⟩ := h; exact ⟨a.shape, b.shape, c.shape⟩
theorem SchO.laid {w0 w : World} {s : Sch} {ur us ug : Value} (h : SchO (w0.heap.size + 1) w s ur us ug) (hb : Below w0.heap.size w0 w) (a b c d : Value) :
    SchO w0.heap.size ((((w.setCell ⟨w0.heap.size, 0, none⟩ a).setCell ⟨w0.heap.size, 1, none⟩ b).setCell ⟨w0.heap.size, 2, none⟩ c).setCell ⟨w0.heap.size, 3, none⟩ d) s ur us ug ∧ Below w0.heap.size w0 ((((w.setCell ⟨w0.heap.size, 0, none⟩ a).setCell ⟨w0.heap.size, 1, none⟩ b).setCell ⟨w0.heap.size, 2, none⟩ c).setCell ⟨w0.heap.size, 3, none⟩ d) := by
  refine ⟨SchO.base ((((h.keep (KeepsB.set _ (Nat.lt_succ_self _) 0 a)).keep (KeepsB.set _ (Nat.lt_succ_self _) 1 b)).keep (KeepsB.set _ (Nat.lt_succ_self _) 2 c)).keep (KeepsB.set _ (Nat.lt_succ_self _) 3 d)) (Nat.le_succ _), ?_⟩; exact (((hb.setCell (p := ⟨w0.heap.size, 0, none⟩) zn a).setCell (p := ⟨w0.heap.size, 1, none⟩) zn b).setCell (p := ⟨w0.heap.size, 2, none⟩) zn c).setCell (p := ⟨w0.heap.size, 3, none⟩) zn d
abbrev zero4 : Array Value := #[eS, .slice none 0 0, .slice none 0 0, .slice none 0 0]
theorem parse_ok (w : World) (x : ByteArray) (hs : x.size ≤ 65536) (T : List Tok) (s : Sch) (i : Int) (ht : tokens x.data.toList = (T, 0, 0)) (hq : schemaA T = (s, i)) (hi : 0 ≤ i) (hL : T.length ≤ 65536) (hB : ∀ t ∈ T, t.text.length ≤ 65536) :
    Calls Tryz.prog 47 #[.string x] w fun e w' => ∃ ur us ug, e = .returned (.tuple #[.agg #[sT s.name, ur, us, ug], iV 0, iV 0]) ∧ SchO w.heap.size w' s ur us ug ∧ Below w.heap.size w w' := by
  have H0 := zD (fun A => all_any (w.alloc A) x (by omega)); rw [ht] at H0; have HS := zD (fun w' v (h : Slc w' 4 v T.length (tcells T)) => schema_any w' v T h hL hB); rw [hq] at HS; have n0 : w.heap.size ≤ (w.alloc (.cells zero4 26)).heap.size := by simp
  clear ht hq hL hB hs; go_enter Tryz.func47, Tryz.ntmps47; go_wp2_with fail; refine (H0.out _).mono ?_; rintro e w2 ⟨v, rfl, hown, hb2⟩; have hv := Slc.own hown; obtain ⟨va, vc, rfl⟩ := hv.shape; have HV := zD (HS.out w2 _ hv); have HB2 := zD hb2; have g2 : w2.heap[w.heap.size]? = some (.cells zero4 26 (0, 0)) := (hb2.block _ (by simp)).trans (zw _ _); have HG2 := zD g2; clear hown hv hb2 g2 H0 HS; go_wp2_with fail; refine HV.out.mono ?_; rintro e w3 ⟨ur, us, ug, rfl, hso, hb3⟩; obtain ⟨⟨ra, rv, rfl⟩, ⟨sa, sv, rfl⟩, ⟨ga, gv, rfl⟩⟩ := hso.read.shape; have hlt2 := (zq HG2.out).1; have HG3 := zD (((Below.refl _ w3).alloc zn (.cells (sV s ra sa ga rv sv gv) 26)).block w.heap.size (by have := hb3.size; omega) |>.trans ((hb3.block _ hlt2).trans HG2.out)); have HSO := zD ((hso.keep (KeepsB.below ((Below.refl _ w3).alloc zn (.cells (sV s ra sa ga rv sv gv) 26)))).base (B' := w.heap.size + 1) (by omega)); have HBW := zD (show Below w.heap.size w (w3.alloc (.cells (sV s ra sa ga rv sv gv) 26)) from (((Below.refl _ w).alloc zn _).trans ((HB2.out.mono n0).trans (hb3.mono (by omega)))).alloc (by have := hb3.size; omega) _); have hs3 := hb3.size; clear hso hb3 HV HB2 HG2; obtain ⟨l1, l2, l3, l4, l5, l6⟩ := laid_cells HG3.out; have k0 : (w3.alloc (.cells (sV s ra sa ga rv sv gv) 26)).cell? ⟨w.heap.size, 0, none⟩ = some (eS) := by simp only [World.cell?, HG3.out]; rfl
  have kf : ∀ o, (w3.alloc (.cells (sV s ra sa ga rv sv gv) 26)).frozen? ⟨w.heap.size, o, none⟩ = false := fun o => by simp only [World.frozen?, HG3.out]; rfl
  go_wp2_with fail; obtain ⟨m0, m1, m2, m3⟩ := laid_read HG3.out (sT s.name) (.slice ra s.records.length rv) (.slice sa s.services.length sv) (.slice ga s.sagas.length gv); have HE := HSO.out.laid HBW.out (sT s.name) (.slice ra s.records.length rv) (.slice sa s.services.length sv) (.slice ga s.sagas.length gv); exact bodyPost_ret (v := .tuple #[.agg (sV s ra sa ga rv sv gv), iV 0, iV 0]) (by simp [results, Tryz.results47, go_sem, m0, m1, m2, m3]) rfl ⟨_, _, _, rfl, HE.1, HE.2⟩
def shopToks : List Tok := (tokens shopText).1
theorem shop_toks : tokens shopText = (shopToks, 0, 0) := by kernel_rfl
theorem shop_schema : schemaA shopToks = (shop, (shopToks.length : Int)) := by kernel_rfl
theorem shop_short : (decide (shopToks.length ≤ 65536) && shopToks.all (fun t => decide (t.text.length ≤ 65536))) = true := by kernel_rfl
theorem shop_len : decide (shopText.length ≤ 65536) = true := by kernel_rfl
theorem shop_size : (bT shopText).size ≤ 65536 := by rw [bT_size]; exact of_decide_eq_true shop_len
theorem shop_gen (w : World) (s : Sch) (h : ∀ A, Calls Tryz.prog 47 #[sT shopText] (w.alloc A) fun e w' => ∃ ur us ug, e = .returned (.tuple #[.agg #[sT s.name, ur, us, ug], iV 0, iV 0]) ∧ SchO (w.alloc A).heap.size w' s ur us ug ∧ Below (w.alloc A).heap.size (w.alloc A) w') : Calls Tryz.prog 20 #[] w fun e w' => ∃ ur us ug, e = .returned (.agg #[sT s.name, ur, us, ug]) ∧ SchO w.heap.size w' s ur us ug ∧ Below w.heap.size w w' := by
  have H0 := zD h; clear h; go_enter Tryz.func20, Tryz.ntmps20; go_wp2_with fail; refine (H0.out _).mono ?_; rintro e w3 ⟨ur, us, ug, rfl, hso, hb3⟩; obtain ⟨⟨ra, rv, rfl⟩, ⟨sa, sv, rfl⟩, ⟨ga, gv, rfl⟩⟩ := hso.read.shape; have hs3 : w.heap.size + 1 ≤ w3.heap.size := by have := hb3.size; simpa using this
  have g2 : w3.heap[w.heap.size]? = some (.cells zero4 26 (0, 0)) := (hb3.block _ (by simp)).trans (zw _ _); have HG3 := zD ((((Below.refl _ w3).alloc zn (.cells (sV s ra sa ga rv sv gv) 26)).block w.heap.size (by omega)).trans g2); have HSO := zD ((hso.keep (KeepsB.below ((Below.refl _ w3).alloc zn (.cells (sV s ra sa ga rv sv gv) 26)))).base (B' := w.heap.size + 1) (by simp)); have HBW := zD (show Below w.heap.size w (w3.alloc (.cells (sV s ra sa ga rv sv gv) 26)) from (((Below.refl _ w).alloc zn _).trans (hb3.mono (by simp))).alloc (by omega) _); clear hso hb3 H0 g2; obtain ⟨l1, l2, l3, l4, l5, l6⟩ := laid_cells HG3.out; have k0 : (w3.alloc (.cells (sV s ra sa ga rv sv gv) 26)).cell? ⟨w.heap.size, 0, none⟩ = some (eS) := by simp only [World.cell?, HG3.out]; rfl
  have kf : ∀ o, (w3.alloc (.cells (sV s ra sa ga rv sv gv) 26)).frozen? ⟨w.heap.size, o, none⟩ = false := fun o => by simp only [World.frozen?, HG3.out]; rfl
  obtain ⟨m0, m1, m2, m3⟩ := laid_read HG3.out (sT s.name) (.slice ra s.records.length rv) (.slice sa s.services.length sv) (.slice ga s.sagas.length gv); have HE := zD (HSO.out.laid HBW.out (sT s.name) (.slice ra s.records.length rv) (.slice sa s.services.length sv) (.slice ga s.sagas.length gv)); go_wp2_with fail; exact bodyPost_ret (v := .agg (sV s ra sa ga rv sv gv)) (by simp [results, Tryz.results20, go_sem, m0, m1, m2, m3]) rfl ⟨_, _, _, rfl, HE.out.1, HE.out.2⟩
theorem shop_any (w : World) : Calls Tryz.prog 20 #[] w fun e w' => ∃ ur us ug, e = .returned (.agg #[sT shop.name, ur, us, ug]) ∧ SchO w.heap.size w' shop ur us ug ∧ Below w.heap.size w w' := by
  have hh := shop_short; simp only [Bool.and_eq_true, decide_eq_true_eq, List.all_eq_true] at hh; exact shop_gen w shop (fun A => parse_ok (w.alloc A) (bT shopText) shop_size shopToks shop _ shop_toks shop_schema (by omega) hh.1 hh.2)
def TxR (w : World) (a : Option Addr) (n : Nat) (xs : List Tx) : Prop := 0 < n → ∃ b o, a = some ⟨b, o, none⟩ ∧ b < w.heap.size ∧ ∀ j u, xs[j]? = some u → w.cell? ⟨b, o + j, none⟩ = some (sT u)
theorem TxR.below {w w' : World} {a : Option Addr} {n : Nat} {xs : List Tx} (h : TxR w a n xs) (hb : Below w.heap.size w w') : TxR w' a n xs := fun hn => by
  obtain ⟨b, o, e, hl, hc⟩ := h hn
  exact ⟨b, o, e, Nat.lt_of_lt_of_le hl hb.size, fun j u hu => (hb.cell (p := ⟨b, o + j, none⟩) hl).trans (hc j u hu)⟩
theorem bT_str (a : Tx) (x : ByteArray) : (x.toList == (bT a).toList) = decide (x.data.toList = a) := by
  rw [bT_list, ByteArray.toList_eq, Bool.eq_iff_iff, beq_iff_eq, decide_eq_true_iff]
def FoundAt (k : Int) (xs : List Tx) (x : Tx) : Prop := decide (0 ≤ k) = xs.contains x
theorem index_any (w : World) (a : Option Addr) (n c : Nat) (xs : List Tx) (hn : n = xs.length) (h0 : n ≤ 65536) (hc : TxR w a n xs) (x : ByteArray) :
    Calls Tryz.prog 155 #[.slice a n c, .string x] w fun e w' => ∃ k : Int, e = .returned (iV k) ∧ FoundAt k xs x.data.toList ∧ w = w' := by
  have HC := zD hc; have HN := zD hn; clear hc hn; go_enter Tryz.func155, Tryz.ntmps155; go_wp2_with fail; go_loop [8] (fun i => ∃ k : Nat, k ≤ n ∧ i = iV k ∧ Hid (∀ j u, j < k → xs[j]? = some u → u ≠ x.data.toList)) (fun i => n - (intOf i).toNat)
  case atStart => exact ⟨0, by omega, rfl, fun j u h => by omega⟩
  case round =>
    obtain ⟨k, hk, rfl, HI⟩ := hrel; by_cases hlt : k < n
    · obtain ⟨b, o, rfl, -, hcell⟩ := HC.out (by omega)
      have hx : xs[k]? = some (xs[k]'(by have := HN.out; omega)) := List.getElem?_eq_getElem _; have c0 := hcell k _ hx; have HX := zD hx; have hs := bT_str (xs[k]'(by have := HN.out; omega)) x; clear hcell HC hx; generalize xs[k]'(by have := HN.out; omega) = y at *; by_cases he : x.data.toList = y
      · rw [zt he] at hs
        have HE := zD he; clear he; go_wp2_with fail; refine zR (v := iV (k : Nat)) ⟨_, rfl, ?_, rfl⟩; unfold FoundAt; rw [show xs.contains x.data.toList = true from by rw [List.contains_iff_mem, HE.out]; exact List.mem_of_getElem? HX.out]; simp
      · rw [zf he] at hs
        have HE := zD he; clear he; go_wp2_with fail
        exact ⟨⟨k + 1, by omega, by go_num, fun j u h1 h2 => by
          by_cases e : j = k
          · subst e
            rw [HX.out] at h2; obtain rfl := Option.some.inj h2; exact fun e => HE.out e.symm
          · exact HI.out j u (by omega) h2⟩, by simp [intOf]; omega⟩
    · have hkn : k = n := by omega
      subst hkn
      have HF := zD (show xs.contains x.data.toList = false from by
        rw [← Bool.not_eq_true, List.contains_iff_mem]; intro hm; obtain ⟨j, hj, e⟩ := List.mem_iff_getElem.1 hm; exact HI.out j _ (by have := HN.out; omega) (List.getElem?_eq_getElem hj) e)
      go_wp2_with fail; refine zR (v := iV (-1)) ⟨_, rfl, ?_, rfl⟩; unfold FoundAt; rw [HF.out]; rfl
theorem contains_any (w : World) (a : Option Addr) (n c : Nat) (xs : List Tx) (hn : n = xs.length) (h0 : n ≤ 65536) (hc : TxR w a n xs) (x : ByteArray) :
    Calls Tryz.prog 128 #[.slice a n c, .string x] w fun e w' => e = .returned (.bool (xs.contains x.data.toList)) ∧ w = w' := by
  have HI := zD (index_any w a n c xs hn h0 hc x); clear hc hn; unfold FoundAt at HI; generalize xs.contains x.data.toList = B at *; go_enter Tryz.func128, Tryz.ntmps128; go_wp2_with fail; refine HI.out.mono ?_; rintro e w1 ⟨k, rfl, hk, rfl⟩; by_cases h : 0 ≤ k
  · rw [zt h] at hk
    subst hk; go_wp2_with fail; exact zR (v := .bool true) ⟨rfl, rfl⟩
  · rw [zf h] at hk
    subst hk; go_wp2_with fail; exact bodyPost_ret (v := .bool false) (by simp [results, Tryz.results128, go_sem]; omega) rfl ⟨rfl, rfl⟩
def KwIn (w : World) : Prop := 0 < w.heap.size ∧ ∀ j u, keywords[j]? = some u → w.cell? ⟨0, j, none⟩ = some (sT u)
theorem KwIn.below {w w' : World} (h : KwIn w) (hb : Below w.heap.size w w') : KwIn w' :=
  ⟨Nat.lt_of_lt_of_le h.1 hb.size, fun j u hu => (hb.cell (p := ⟨0, j, none⟩) h.1).trans (h.2 j u hu)⟩
theorem tkeyword_any (w : World) (hK : KwIn w) (s : ByteArray) : Calls Tryz.prog 89 #[.string s] w fun e w' => e = .returned (.bool (keyB s.data.toList)) ∧ w = w' := by
  have HC := zD (fun c => contains_any w (some ⟨0, 0, none⟩) 17 c keywords rfl (by decide) (fun _ => ⟨_, _, rfl, hK.1, fun j u hu => by rw [Nat.zero_add]; exact hK.2 j u hu⟩) s); rw [show keyB s.data.toList = keywords.contains s.data.toList from rfl]; generalize keywords.contains s.data.toList = B at *; go_enter Tryz.func89, Tryz.ntmps89; go_wp2_with fail; refine (HC.out _).mono ?_; rintro e w1 ⟨rfl, rfl⟩; go_wp2_with fail; exact zR (v := .bool _) ⟨rfl, rfl⟩
theorem or32 : ∀ n : Fin 256, (decide (97 ≤ bits .or .u8 ((n : Nat) : Int) 32) && decide (bits .or .u8 ((n : Nat) : Int) 32 ≤ 122)) = ((decide (97 ≤ (n : Nat)) && decide ((n : Nat) ≤ 122)) || (decide (65 ≤ (n : Nat)) && decide ((n : Nat) ≤ 90))) := by decide +kernel
theorem tletter_any (w : World) (c : UInt8) : Calls Tryz.prog 88 #[.int .u8 (c.toNat : Nat)] w fun e w' => e = .returned (.bool (letterB c)) ∧ w = w' := by
  have HL := zD (show letterB c = (decide (97 ≤ bits .or .u8 ((c.toNat : Nat) : Int) 32) && decide (bits .or .u8 ((c.toNat : Nat) : Int) 32 ≤ 122)) from (or32 ⟨c.toNat, u8_lt c⟩).symm); generalize letterB c = L at *; have hc := u8_lt c; generalize c.toNat = n at *; by_cases h1 : 97 ≤ bits .or .u8 ((n : Nat) : Int) 32
  · by_cases h2 : bits .or .u8 ((n : Nat) : Int) 32 ≤ 122
    · obtain rfl : L = true := by rw [HL.out, zt h1, zt h2]; rfl
      go_enter Tryz.func88, Tryz.ntmps88; go_wp2_with fail; exact zR (v := .bool true) ⟨rfl, rfl⟩
    · obtain rfl : L = false := by rw [HL.out, zf h2]; simp
      go_enter Tryz.func88, Tryz.ntmps88; go_wp2_with fail; exact zR (v := .bool false) ⟨rfl, rfl⟩
  · obtain rfl : L = false := by rw [HL.out, zf h1]; rfl
    go_enter Tryz.func88, Tryz.ntmps88; go_wp2_with fail; exact zR (v := .bool false) ⟨rfl, rfl⟩
theorem tdigit_any (w : World) (c : UInt8) : Calls Tryz.prog 129 #[.int .u8 (c.toNat : Nat)] w fun e w' => e = .returned (.bool (digitB c)) ∧ w = w' := by
  have hc := u8_lt c; have HL := zD (show digitB c = (decide (48 ≤ c.toNat) && decide (c.toNat ≤ 57)) from rfl); generalize digitB c = L at *; generalize c.toNat = n at *; by_cases a1 : 48 ≤ n <;> by_cases a2 : n ≤ 57
  all_goals
    first
    | omega
    | (go_enter Tryz.func129, Tryz.ntmps129
       go_wp2_with fail; go_ret; refine ⟨ret_bool ?_, rfl⟩; rw [HL.out]; simp [a1, a2] <;> omega)
theorem tinner_any (w : World) (c : UInt8) : Calls Tryz.prog 91 #[.int .u8 (c.toNat : Nat)] w fun e w' => e = .returned (.bool (innerB c)) ∧ w = w' := by
  have H1 := zD (tletter_any w c); have H2 := zD (tdigit_any w c)
  have HL := zD (show innerB c = (letterB c || digitB c || (((c.toNat : Nat) : Int) == 95)) from by
    unfold innerB; congr 1; rw [Bool.eq_iff_iff, beq_iff_eq, beq_iff_eq, ← UInt8.toNat_inj]; simp; omega)
  generalize innerB c = L at *; generalize letterB c = A at *; generalize digitB c = D at *; have hc := u8_lt c; generalize c.toNat = n at *; cases A with
  | true =>
    obtain rfl : L = true := HL.out; go_enter Tryz.func91, Tryz.ntmps91; go_wp2_with fail; refine H1.out.mono ?_; rintro e w1 ⟨rfl, rfl⟩; go_wp2_with fail; exact zR (v := .bool true) ⟨rfl, rfl⟩
  | false =>
    cases D with
    | true =>
      obtain rfl : L = true := HL.out; go_enter Tryz.func91, Tryz.ntmps91; go_wp2_with fail; refine H1.out.mono ?_; rintro e w1 ⟨rfl, rfl⟩; go_wp2_with fail; refine H2.out.mono ?_; rintro e w1 ⟨rfl, rfl⟩; go_wp2_with fail; exact zR (v := .bool true) ⟨rfl, rfl⟩
    | false =>
      have hL : L = ((n : Int) == 95) := HL.out; subst hL; go_enter Tryz.func91, Tryz.ntmps91; go_wp2_with fail; refine H1.out.mono ?_; rintro e w1 ⟨rfl, rfl⟩; go_wp2_with fail; refine H2.out.mono ?_; rintro e w1 ⟨rfl, rfl⟩; go_wp2_with fail; exact zR (v := .bool ((n : Int) == 95)) ⟨rfl, rfl⟩
theorem below_drewN {B : Nat} {w w' : World} (h : Below B w w') : ∀ n : Nat, Below B w (w'.drewN n)
  | 0 => h
  | n + 1 => (below_drewN h n).drew
theorem run_any (w0 w : World) (s : ByteArray) (hs : s.size ≤ 4611686018427387904) (hb : NewB w0 w 168 #[.string s, iV 0]) :
    Calls Tryz.prog 90 #[.pointer (some ⟨w0.heap.size, 0, none⟩), .func (.func 91) #[] #[]] w fun e w' => ∃ k, k ≤ s.size ∧ e = .returned (.string (s.extract 0 k)) ∧ Hid (∀ (j : Nat) (hj : j < s.size), j < k → innerB s[j] = true) ∧ Hid (k = s.size ∨ ∃ hk : k < s.size, innerB s[k] = false) ∧ Below w0.heap.size w0 w' := by
  have HB := zD hb; clear hb; have d0 := HB.out.cell (o := 0) rfl; have d1 := HB.out.cell (o := 1) rfl; have df := HB.out.froz; have HI := zD (fun w c => tinner_any w c); have hlt := HB.out.lt; go_enter Tryz.func90, Tryz.ntmps90; go_wp2_with fail; clear d0 d1 df; go_loopw [] (fun wr => ∃ k : Nat, k ≤ s.size ∧ Hid (NewB w0 wr 168 #[.string s, iV (k : Nat)]) ∧ Hid (∀ (j : Nat) (hj : j < s.size), j < k → innerB s[j] = true)) (fun wr => s.size - (match wr.cell? ⟨w0.heap.size, 1, none⟩ with | some v => (intOf v).toNat | none => 0))
  case atStart => exact ⟨0, by omega, HB, fun j _ h => by omega⟩
  case round =>
    clear HB hlt; obtain ⟨k, hk, HB, HA⟩ := hrel; have d0 := HB.out.cell (o := 0) rfl; have d1 := HB.out.cell (o := 1) rfl; have df := HB.out.froz; have hlt := HB.out.lt; by_cases hks : k < s.size
    · have hx : decide ((k : Int) < (s.size : Int)) = true := by simp; omega
      have HIk := zD (fun w => HI.out w s[k]); cases hi : innerB s[k] with
      | true =>
        rw [hi] at HIk; have h1 : (0 : Int) ≤ (k : Int) := by omega
        have h2 : (k : Int) < (s.size : Int) := by omega
        go_wp2_with fail; go_quiet ((go_at_call 91; exact Calls.quiet_of_same ((HIk.out _).mono fun _ _ ⟨he, hw⟩ => ⟨he, hw.symm⟩))); have HB2 := zD (HB.out.after (below_drewN zl nq)); have HD1 := zD d1; clear HB d0 d1 df hlt; generalize wr.drewN nq = wx at *; have d0 := HB2.out.cell (o := 0) rfl; have d1 := HB2.out.cell (o := 1) rfl; have df := HB2.out.froz; have hlt := HB2.out.lt; go_wp2_with fail; have HB3 := HB2.out.set 1 (iV ((k : Int) + 1))
        exact ⟨⟨k + 1, by omega, HB3, fun j hj h => by
          by_cases e : j = k
          · subst e; exact hi
          · exact HA.out j hj (by omega)⟩, by rw [HB3.cell (o := 1) (u := iV ((k : Int) + 1)) rfl, HD1.out]; simp [intOf]; omega⟩
      | false =>
        rw [hi] at HIk; go_wp2_with fail; go_quiet ((go_at_call 91; exact Calls.quiet_of_same ((HIk.out _).mono fun _ _ ⟨he, hw⟩ => ⟨he, hw.symm⟩))); have HB2 := zD (HB.out.after (below_drewN zl nq)); clear HB d0 d1 df hlt; generalize wr.drewN nq = wx at *; have d0 := HB2.out.cell (o := 0) rfl; have d1 := HB2.out.cell (o := 1) rfl; have df := HB2.out.froz; have hlt := HB2.out.lt; have h3 : (0 : Int) ≤ (k : Int) := by omega
        have h4 : (k : Int) ≤ (s.size : Int) := by omega
        go_wp2_with fail; go_quiet (fail); go_wp2_with fail; exact zR (v := .string (s.extract 0 k)) ⟨k, hk, rfl, HA, zD (.inr ⟨hks, hi⟩), below_drewN HB2.out.bel _⟩
    · have hx : decide ((k : Int) < (s.size : Int)) = false := by simp; omega
      go_wp2_with fail; go_quiet (fail); have HB2 := zD (HB.out.after (below_drewN zl nq)); clear HB d0 d1 df hlt; generalize wr.drewN nq = wx at *; have d0 := HB2.out.cell (o := 0) rfl; have d1 := HB2.out.cell (o := 1) rfl; have df := HB2.out.froz; have hlt := HB2.out.lt; have h3 : (0 : Int) ≤ (k : Int) := by omega
      have h4 : (k : Int) ≤ (s.size : Int) := by omega
      go_wp2_with fail; go_quiet (fail); go_wp2_with fail; exact zR (v := .string (s.extract 0 k)) ⟨k, hk, rfl, HA, zD (.inl (by omega)), below_drewN HB2.out.bel _⟩
theorem extract_all (s : ByteArray) (k : Nat) (hk : k ≤ s.size) : ((s.extract 0 k).toList == s.toList) = decide (k = s.size) := by
  rw [ByteArray.toList_eq, ByteArray.toList_eq, Bool.eq_iff_iff, beq_iff_eq, decide_eq_true_iff]; constructor
  · intro h
    have := congrArg List.length h; simp at this; omega
  · rintro rfl
    simp
theorem tname_any (w : World) (hK : KwIn w) (s : ByteArray) (hs : s.size ≤ 4611686018427387904) : Calls Tryz.prog 52 #[.string s] w fun e w' => e = .returned (.bool (nameT s.data.toList)) ∧ Below w.heap.size w w' := by
  have HK := zD (tkeyword_any w hK s); have HR := zD (run_any w _ s hs (NewB.mk' w _ _)); clear hK; by_cases h0 : s.size = 0
  · have hN : nameT s.data.toList = false := by
      have : s.data.toList = [] := List.eq_nil_of_length_eq_zero h0; rw [this]; rfl
    rw [hN]; clear hN; go_enter Tryz.func52, Tryz.ntmps52; go_wp2_with fail; exact zR (v := .bool false) ⟨rfl, zl⟩
  have hpos : 0 < s.size := by omega
  have HN := zD (nameT_eq hpos); by_cases h1 : 32 < s.size
  · have hN : nameT s.data.toList = false := by rw [HN.out]; simp; omega
    rw [hN]; clear hN; go_enter Tryz.func52, Tryz.ntmps52; go_wp2_with fail; exact zR (v := .bool false) ⟨rfl, zl⟩
  have hd : decide (s.size ≤ 32) = true := by rw [decide_eq_true_eq]; omega
  rw [hd, Bool.true_and] at HN; have HA := zD (fun h => name_all (s := s) h); have HB := zD (fun (j : Nat) (hj : j < s.size) h1 h => name_not (s := s) hj h1 h); have HI0 := zD (show letterB s[0] = true → innerB s[0] = true from fun h => by unfold innerB; rw [h]; rfl); have HX := zD (fun k hk => extract_all s k hk); generalize (s.data.toList.drop 1).all innerB = A at *; generalize nameT s.data.toList = N at *; generalize keyB s.data.toList = K at *; have HL0 := zD (tletter_any w s[0]); have hz0 : ((s.size : Int) == 0) = false := by rw [zb]; omega
  have hz1 : decide (32 < (s.size : Int)) = false := by rw [decide_eq_false_iff_not]; omega
  cases hl : letterB s[0] with
  | false =>
    rw [hl] at HN HL0; go_enter Tryz.func52, Tryz.ntmps52; go_wp2_with fail; refine HL0.out.mono ?_; rintro e w1 ⟨rfl, rfl⟩; go_wp2_with fail; exact zR (v := .bool false) ⟨ret_bool (by rw [HN.out]; rfl), zl⟩
  | true =>
    rw [hl] at HN HL0; cases hk : K with
    | true =>
      rw [hk] at HN HK; go_enter Tryz.func52, Tryz.ntmps52; go_wp2_with fail; refine HL0.out.mono ?_; rintro e w1 ⟨rfl, rfl⟩; go_wp2_with fail; refine HK.out.mono ?_; rintro e w1 ⟨rfl, rfl⟩; go_wp2_with fail; exact zR (v := .bool false) ⟨ret_bool (by rw [HN.out]; rfl), zl⟩
    | false =>
      rw [hk] at HN HK; go_enter Tryz.func52, Tryz.ntmps52; go_wp2_with fail; refine HL0.out.mono ?_; rintro e w1 ⟨rfl, rfl⟩; go_wp2_with fail; refine HK.out.mono ?_; rintro e w1 ⟨rfl, rfl⟩; go_wp2_with fail; refine HR.out.mono ?_; rintro e w1 ⟨k, hk, rfl, HJ, HE, hb⟩; have hx := HX.out k hk
      have HNk := zD (show N = decide (k = s.size) from by
        rw [HN.out]; rcases HE.out with h | ⟨h, h2⟩
        · rw [zt h, HA.out (fun j hj h1 => HJ.out j hj (by omega))]; rfl
        · rw [zf (by omega)]
          by_cases hk0 : 1 ≤ k
          · rw [HB.out k h hk0 h2]; rfl
          · obtain rfl : k = 0 := by omega
            rw [HI0.out hl] at h2; cases h2)
      clear HJ HE HX; go_wp2_with fail; exact zR (v := .bool (decide (k = s.size))) ⟨ret_bool HNk.out.symm, hb⟩
structure Flt where
  is : Bool
  wh : Tx
  e : Nat
  deriving DecidableEq
def fcells (f : Flt) : Array Value := #[.bool f.is, sT f.wh, iV (f.e : Nat)]
def atF (f : Flt) (right : Bool) (wh : Tx) (e : Nat) : Flt := if right || f.is then f else ⟨true, wh, e⟩
structure Aw (fb : Nat) (w w' : World) : Prop where
  os : w'.os = w.os
  tape : w'.tape = w.tape
  output : w'.output = w.output
  size : w.heap.size ≤ w'.heap.size
  block : ∀ j, j < w.heap.size → j ≠ fb → w'.heap[j]? = w.heap[j]?
theorem Aw.refl (fb : Nat) (w : World) : Aw fb w w := ⟨rfl, rfl, rfl, zn, fun _ _ _ => rfl⟩
theorem Aw.trans {fb : Nat} {w w' w'' : World} (h : Aw fb w w') (h' : Aw fb w' w'') : Aw fb w w'' :=
  ⟨h'.os.trans h.os, h'.tape.trans h.tape, h'.output.trans h.output, Nat.le_trans h.size h'.size, fun j hj hn => (h'.block j (Nat.lt_of_lt_of_le hj h.size) hn).trans (h.block j hj hn)⟩
theorem Aw.below {fb : Nat} {w w' : World} (h : Below w.heap.size w w') : Aw fb w w' := ⟨h.os, h.tape, h.output, h.size, fun j hj _ => h.block j hj⟩
theorem Aw.set {fb : Nat} (w : World) (o : Nat) (u : Value) : Aw fb w (w.setCell ⟨fb, o, none⟩ u) := ⟨rfl, rfl, rfl, by simp [World.setCell], fun j _ hn => Below.heap_setCell _ _ _ _ hn⟩
theorem Aw.cell {fb : Nat} {w w' : World} (h : Aw fb w w') {b : Nat} (hb : b < w.heap.size) (hn : b ≠ fb) (o : Nat) : w'.cell? ⟨b, o, none⟩ = w.cell? ⟨b, o, none⟩ := by
  simp only [World.cell?, h.block b hb hn]
structure FQ (w0 w1 w : World) (f : Flt) : Prop where
  nb : NewB w0 w 99 (fcells f)
  aw : Aw w0.heap.size w1 w
theorem FQ.after {w0 w1 w w' : World} {f : Flt} (h : FQ w0 w1 w f) (hb : Below w.heap.size w w') : FQ w0 w1 w' f := ⟨h.nb.after hb, h.aw.trans (Aw.below hb)⟩
theorem FQ.step {w0 w1 w w' : World} {f f' : Flt} (h : FQ w0 w1 w f) (h' : FQ w0 w w' f') : FQ w0 w1 w' f' := ⟨h'.nb, h.aw.trans h'.aw⟩
theorem FQ.start {w0 w : World} {f : Flt} (h : NewB w0 w 99 (fcells f)) : FQ w0 w w f := ⟨h, Aw.refl _ _⟩
theorem FQ.alloc {w0 w1 w : World} {f : Flt} (h : FQ w0 w1 w f) (o : Obj) : FQ w0 w1 (w.alloc o) f := h.after ((Below.refl _ w).alloc zn o)
theorem FQ.size {w0 w1 w : World} {f : Flt} (h : FQ w0 w1 w f) : w0.heap.size < w.heap.size := h.nb.lt
theorem at_any (w0 w1 w : World) (f : Flt) (h : FQ w0 w1 w f) (r : Bool) (wh : Tx) (e : Nat) :
    Calls Tryz.prog 51 #[.pointer (some ⟨w0.heap.size, 0, none⟩), .bool r, sT wh, iV (e : Nat)] w fun x w' => x = .returned (.tuple #[]) ∧ FQ w0 w1 w' (atF f r wh e) := by
  obtain ⟨i0, wh0, e0⟩ := f; have H := zD h; clear h; have d0 : w.cell? ⟨w0.heap.size, 0, none⟩ = some (.bool i0) := H.out.nb.cell rfl; have d1 : w.cell? ⟨w0.heap.size, 1, none⟩ = some (sT wh0) := H.out.nb.cell rfl; have d2 : w.cell? ⟨w0.heap.size, 2, none⟩ = some (iV (e0 : Nat)) := H.out.nb.cell rfl; have df := H.out.nb.froz; have d1' : ∀ X, (w.setCell ⟨w0.heap.size, 0, none⟩ X).cell? ⟨w0.heap.size, 1, none⟩ = some (sT wh0) := fun X => (H.out.nb.set 0 X).cell rfl
  have d2' : ∀ X Y, ((w.setCell ⟨w0.heap.size, 0, none⟩ X).setCell ⟨w0.heap.size, 1, none⟩ Y).cell? ⟨w0.heap.size, 2, none⟩ = some (iV (e0 : Nat)) := fun X Y => ((H.out.nb.set 0 X).set 1 Y).cell rfl
  have df1 : ∀ X o, (w.setCell ⟨w0.heap.size, 0, none⟩ X).frozen? ⟨w0.heap.size, o, none⟩ = false := fun X => (H.out.nb.set 0 X).froz
  have df2 : ∀ X Y o, ((w.setCell ⟨w0.heap.size, 0, none⟩ X).setCell ⟨w0.heap.size, 1, none⟩ Y).frozen? ⟨w0.heap.size, o, none⟩ = false := fun X Y => ((H.out.nb.set 0 X).set 1 Y).froz
  cases r with
  | true =>
    go_enter Tryz.func51, Tryz.ntmps51; go_wp2_with fail; go_end0; exact ⟨rfl, H.out⟩
  | false =>
    cases i0 with
    | true =>
      go_enter Tryz.func51, Tryz.ntmps51; go_wp2_with fail; go_end0; exact ⟨rfl, H.out⟩
    | false =>
      go_enter Tryz.func51, Tryz.ntmps51; go_wp2_with fail; go_end0; exact ⟨rfl, ((H.out.nb.set 0 _).set 1 _).set 2 _, ((H.out.aw.trans (Aw.set _ _ _)).trans (Aw.set _ _ _)).trans (Aw.set _ _ _)⟩
theorem at_z (w0 w : World) (f : Flt) (h : NewB w0 w 99 (fcells f)) (r : Bool) (wh : Tx) (e : Nat) (z : Int) (hz : (e : Int) = z) (x : ByteArray) (hx : bT wh = x) :
    Calls Tryz.prog 51 #[.pointer (some ⟨w0.heap.size, 0, none⟩), .bool r, .string x, iV z] w fun x w' => x = .returned (.tuple #[]) ∧ FQ w0 w w' (atF f r wh e) := by
  subst hz hx; exact at_any w0 w w f (FQ.start h) r wh e
def partT (a b : Tx) : Tx := a ++ 46 :: b
theorem bT_app (a b : Tx) : bT a ++ bT b = bT (a ++ b) := by
  apply ByteArray.ext; simp [bT]
theorem part_any (w : World) (a b : Tx) (ha : a.length ≤ 1000000) (hb : b.length ≤ 1000000) : Calls Tryz.prog 55 #[sT a, sT b] w fun e w' => e = .returned (sT (partT a b)) ∧ w = w' := by
  have h1 : (bT a).size = a.length := bT_size a; have h2 : (bT b).size = b.length := bT_size b
  have h3 : bT a ++ ⟨#[46]⟩ ++ bT b = bT (partT a b) := by
    rw [show (⟨#[46]⟩ : ByteArray) = bT [46] from rfl, bT_app, bT_app]; simp [partT]
  have H3 := zD h3; clear h3; go_enter Tryz.func55, Tryz.ntmps55; go_wp2_with fail; exact zR (v := .string (bT a ++ ⟨#[46]⟩ ++ bT b)) ⟨by rw [H3.out], rfl⟩
def contraT (y : Tx) : Tx := if y = wGive then wTake else if y = wTake then wGive else if y = wNote then wNote else []
theorem contrary_any (w : World) (y : Tx) : Calls Tryz.prog 58 #[sT y] w fun e w' => e = .returned (sT (contraT y)) ∧ w = w' := by
  have e_g : ((bT y).toList == [103, 105, 118, 101]) = decide (y = wGive) := bT_is _ wGive; have e_t : ((bT y).toList == [116, 97, 107, 101]) = decide (y = wTake) := bT_is _ wTake; have e_n : ((bT y).toList == [110, 111, 116, 101]) = decide (y = wNote) := bT_is _ wNote; unfold contraT; by_cases c1 : y = wGive
  · rw [if_pos c1]
    rw [zt c1] at e_g; clear c1 e_t e_n; go_enter Tryz.func58, Tryz.ntmps58; go_wp2_with fail; exact bodyPost_ret (v := sT wTake) (by simp [results, Tryz.results58, go_sem]; rfl) rfl ⟨rfl, rfl⟩
  rw [if_neg c1]; rw [zf c1] at e_g; by_cases c2 : y = wTake
  · rw [if_pos c2]
    rw [zt c2] at e_t; clear c1 c2 e_n; go_enter Tryz.func58, Tryz.ntmps58; go_wp2_with fail; exact bodyPost_ret (v := sT wGive) (by simp [results, Tryz.results58, go_sem]; rfl) rfl ⟨rfl, rfl⟩
  rw [if_neg c2]; rw [zf c2] at e_t; by_cases c3 : y = wNote
  · rw [if_pos c3]
    rw [zt c3] at e_n; clear c1 c2 c3; go_enter Tryz.func58, Tryz.ntmps58; go_wp2_with fail; exact bodyPost_ret (v := sT wNote) (by simp [results, Tryz.results58, go_sem]; rfl) rfl ⟨rfl, rfl⟩
  rw [if_neg c3]; rw [zf c3] at e_n; clear c1 c2 c3; go_enter Tryz.func58, Tryz.ntmps58; go_wp2_with fail; exact bodyPost_ret (v := sT []) (by simp [results, Tryz.results58, go_sem]; rfl) rfl ⟨rfl, rfl⟩
end Go.Proofs.YtgoejmheihgpfaaGreatDoor
