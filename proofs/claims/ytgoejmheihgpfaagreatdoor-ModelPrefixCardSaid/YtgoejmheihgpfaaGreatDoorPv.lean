/-
  redressref12.Parse at a text that is right; redresslaw13.Shop.
-/
import Derived.Test.YtgoejmheihgpfaaGreatDoorPu
namespace Go.Proofs.YtgoejmheihgpfaaGreatDoor
section
open Go.RowKit

theorem Slc.shape {w : World} {k : Nat} {v : Value} {n : Nat} {xs : List Value} (h : Slc w k v n xs) : ∃ a c, v = .slice a n c := by obtain ⟨⟨a, c, rfl, -⟩, -⟩ := h; exact ⟨a, c, rfl⟩
theorem SchR.shape {w : World} {s : Sch} {ur us ug : Value} (h : SchR w s ur us ug) : (∃ a c, ur = .slice a s.records.length c) ∧ (∃ a c, us = .slice a s.services.length c) ∧ (∃ a c, ug = .slice a s.sagas.length c) := by
  obtain ⟨⟨_, a, _⟩, ⟨_, b, _⟩, ⟨_, c, _⟩⟩ := h
  exact ⟨a.shape, b.shape, c.shape⟩
/-- a schema laid into a block that is older than its rows -/
theorem SchO.laid {w0 w : World} {s : Sch} {ur us ug : Value} (h : SchO (w0.heap.size + 1) w s ur us ug) (hb : Below w0.heap.size w0 w) (a b c d : Value) :
    SchO w0.heap.size ((((w.setCell ⟨w0.heap.size, 0, none⟩ a).setCell ⟨w0.heap.size, 1, none⟩ b).setCell ⟨w0.heap.size, 2, none⟩ c).setCell ⟨w0.heap.size, 3, none⟩ d) s ur us ug ∧ Below w0.heap.size w0 ((((w.setCell ⟨w0.heap.size, 0, none⟩ a).setCell ⟨w0.heap.size, 1, none⟩ b).setCell ⟨w0.heap.size, 2, none⟩ c).setCell ⟨w0.heap.size, 3, none⟩ d) := by
  refine ⟨SchO.base ((((h.keep (KeepsB.set _ (Nat.lt_succ_self _) 0 a)).keep (KeepsB.set _ (Nat.lt_succ_self _) 1 b)).keep (KeepsB.set _ (Nat.lt_succ_self _) 2 c)).keep (KeepsB.set _ (Nat.lt_succ_self _) 3 d)) (Nat.le_succ _), ?_⟩
  exact (((hb.setCell (p := ⟨w0.heap.size, 0, none⟩) (Nat.le_refl _) a).setCell (p := ⟨w0.heap.size, 1, none⟩) (Nat.le_refl _) b).setCell (p := ⟨w0.heap.size, 2, none⟩) (Nat.le_refl _) c).setCell (p := ⟨w0.heap.size, 3, none⟩) (Nat.le_refl _) d
abbrev zero4 : Array Value := #[.string ⟨#[]⟩, .slice none 0 0, .slice none 0 0, .slice none 0 0]
set_option maxRecDepth 100000 in
set_option maxHeartbeats 8000000 in
theorem parse_ok (w : World) (x : ByteArray) (hs : x.size ≤ 65536) (T : List Tok) (s : Sch) (i : Int) (ht : tokens x.data.toList = (T, 0, 0)) (hq : schemaA T = (s, i)) (hi : 0 ≤ i) (hL : T.length ≤ 65536) (hB : ∀ t ∈ T, t.text.length ≤ 65536) :
    Calls Tryz.prog 47 #[.string x] w fun e w' => ∃ ur us ug, e = .returned (.tuple #[.agg #[.string (bT s.name), ur, us, ug], .int .i64 0, .int .i64 0]) ∧ SchO w.heap.size w' s ur us ug ∧ Below w.heap.size w w' := by
  have H0 := Lib.hid (fun A => all_any (w.alloc A) x (by omega))
  rw [ht] at H0
  have HS := Lib.hid (fun w' v (h : Slc w' 4 v T.length (tcells T)) => schema_any w' v T h hL hB)
  rw [hq] at HS
  have n0 : w.heap.size ≤ (w.alloc (.cells zero4 26)).heap.size := by simp
  clear ht hq hL hB hs
  go_enter Tryz.func47, Tryz.ntmps47
  go_wp2_with fail
  refine (H0.out _).mono ?_
  rintro e w2 ⟨v, rfl, hown, hb2⟩
  have hv := Slc.own hown
  obtain ⟨va, vc, rfl⟩ := hv.shape
  have HV := Lib.hid (HS.out w2 _ hv)
  have HB2 := Lib.hid hb2
  have g2 : w2.heap[w.heap.size]? = some (.cells zero4 26 (0, 0)) := (hb2.block _ (by simp)).trans (heap_alloc_new _ _)
  have HG2 := Lib.hid g2
  clear hown hv hb2 g2 H0 HS
  go_wp2_with fail
  refine HV.out.mono ?_
  rintro e w3 ⟨ur, us, ug, rfl, hso, hb3⟩
  obtain ⟨⟨ra, rv, rfl⟩, ⟨sa, sv, rfl⟩, ⟨ga, gv, rfl⟩⟩ := hso.read.shape
  have hlt2 := (Array.getElem?_eq_some_iff.1 HG2.out).1
  have HG3 := Lib.hid (((Below.refl _ w3).alloc (Nat.le_refl _) (.cells #[.string (bT s.name), .slice ra s.records.length rv, .slice sa s.services.length sv, .slice ga s.sagas.length gv] 26)).block w.heap.size (by have := hb3.size; omega) |>.trans ((hb3.block _ hlt2).trans HG2.out))
  have HSO := Lib.hid ((hso.keep (KeepsB.below ((Below.refl _ w3).alloc (Nat.le_refl _) (.cells #[.string (bT s.name), .slice ra s.records.length rv, .slice sa s.services.length sv, .slice ga s.sagas.length gv] 26)))).base (B' := w.heap.size + 1) (by omega))
  have HBW := Lib.hid (show Below w.heap.size w (w3.alloc (.cells #[.string (bT s.name), .slice ra s.records.length rv, .slice sa s.services.length sv, .slice ga s.sagas.length gv] 26)) from (((Below.refl _ w).alloc (Nat.le_refl _) _).trans ((HB2.out.mono n0).trans (hb3.mono (by omega)))).alloc (by have := hb3.size; omega) _)
  have hs3 := hb3.size
  clear hso hb3 HV HB2 HG2
  obtain ⟨l1, l2, l3, l4, l5, l6⟩ := laid_cells HG3.out
  have k0 : (w3.alloc (.cells #[.string (bT s.name), .slice ra s.records.length rv, .slice sa s.services.length sv, .slice ga s.sagas.length gv] 26)).cell? ⟨w.heap.size, 0, none⟩ = some (.string ⟨#[]⟩) := by simp only [World.cell?, HG3.out]; rfl
  have kf : ∀ o, (w3.alloc (.cells #[.string (bT s.name), .slice ra s.records.length rv, .slice sa s.services.length sv, .slice ga s.sagas.length gv] 26)).frozen? ⟨w.heap.size, o, none⟩ = false := fun o => by simp only [World.frozen?, HG3.out]; rfl
  go_wp2_with fail
  obtain ⟨m0, m1, m2, m3⟩ := laid_read HG3.out (.string (bT s.name)) (.slice ra s.records.length rv) (.slice sa s.services.length sv) (.slice ga s.sagas.length gv)
  have HE := HSO.out.laid HBW.out (.string (bT s.name)) (.slice ra s.records.length rv) (.slice sa s.services.length sv) (.slice ga s.sagas.length gv)
  exact bodyPost_ret (v := .tuple #[.agg #[.string (bT s.name), .slice ra s.records.length rv, .slice sa s.services.length sv, .slice ga s.sagas.length gv], .int .i64 0, .int .i64 0]) (by simp [results, Tryz.results47, go_sem, m0, m1, m2, m3]) rfl ⟨_, _, _, rfl, HE.1, HE.2⟩
end

section
open Go.RowKit

def shopToks : List Tok := (tokens shopText).1
theorem shop_toks : tokens shopText = (shopToks, 0, 0) := by kernel_rfl
theorem shop_schema : schemaA shopToks = (shop, (shopToks.length : Int)) := by kernel_rfl
theorem shop_short : (decide (shopToks.length ≤ 65536) && shopToks.all (fun t => decide (t.text.length ≤ 65536))) = true := by kernel_rfl
theorem shop_len : decide (shopText.length ≤ 65536) = true := by kernel_rfl
theorem shop_size : (bT shopText).size ≤ 65536 := by rw [bT_size]; exact of_decide_eq_true shop_len
set_option maxRecDepth 100000 in
set_option maxHeartbeats 8000000 in
theorem shop_gen (w : World) (s : Sch) (h : ∀ A, Calls Tryz.prog 47 #[.string (bT shopText)] (w.alloc A) fun e w' => ∃ ur us ug, e = .returned (.tuple #[.agg #[.string (bT s.name), ur, us, ug], .int .i64 0, .int .i64 0]) ∧ SchO (w.alloc A).heap.size w' s ur us ug ∧ Below (w.alloc A).heap.size (w.alloc A) w') : Calls Tryz.prog 20 #[] w fun e w' => ∃ ur us ug, e = .returned (.agg #[.string (bT s.name), ur, us, ug]) ∧ SchO w.heap.size w' s ur us ug ∧ Below w.heap.size w w' := by
  have H0 := Lib.hid h
  clear h
  go_enter Tryz.func20, Tryz.ntmps20
  go_wp2_with fail
  refine (H0.out _).mono ?_
  rintro e w3 ⟨ur, us, ug, rfl, hso, hb3⟩
  obtain ⟨⟨ra, rv, rfl⟩, ⟨sa, sv, rfl⟩, ⟨ga, gv, rfl⟩⟩ := hso.read.shape
  have hs3 : w.heap.size + 1 ≤ w3.heap.size := by have := hb3.size; simpa using this
  have g2 : w3.heap[w.heap.size]? = some (.cells zero4 26 (0, 0)) := (hb3.block _ (by simp)).trans (heap_alloc_new _ _)
  have HG3 := Lib.hid ((((Below.refl _ w3).alloc (Nat.le_refl _) (.cells #[.string (bT s.name), .slice ra s.records.length rv, .slice sa s.services.length sv, .slice ga s.sagas.length gv] 26)).block w.heap.size (by omega)).trans g2)
  have HSO := Lib.hid ((hso.keep (KeepsB.below ((Below.refl _ w3).alloc (Nat.le_refl _) (.cells #[.string (bT s.name), .slice ra s.records.length rv, .slice sa s.services.length sv, .slice ga s.sagas.length gv] 26)))).base (B' := w.heap.size + 1) (by simp))
  have HBW := Lib.hid (show Below w.heap.size w (w3.alloc (.cells #[.string (bT s.name), .slice ra s.records.length rv, .slice sa s.services.length sv, .slice ga s.sagas.length gv] 26)) from (((Below.refl _ w).alloc (Nat.le_refl _) _).trans (hb3.mono (by simp))).alloc (by omega) _)
  clear hso hb3 H0 g2
  obtain ⟨l1, l2, l3, l4, l5, l6⟩ := laid_cells HG3.out
  have k0 : (w3.alloc (.cells #[.string (bT s.name), .slice ra s.records.length rv, .slice sa s.services.length sv, .slice ga s.sagas.length gv] 26)).cell? ⟨w.heap.size, 0, none⟩ = some (.string ⟨#[]⟩) := by simp only [World.cell?, HG3.out]; rfl
  have kf : ∀ o, (w3.alloc (.cells #[.string (bT s.name), .slice ra s.records.length rv, .slice sa s.services.length sv, .slice ga s.sagas.length gv] 26)).frozen? ⟨w.heap.size, o, none⟩ = false := fun o => by simp only [World.frozen?, HG3.out]; rfl
  obtain ⟨m0, m1, m2, m3⟩ := laid_read HG3.out (.string (bT s.name)) (.slice ra s.records.length rv) (.slice sa s.services.length sv) (.slice ga s.sagas.length gv)
  have HE := Lib.hid (HSO.out.laid HBW.out (.string (bT s.name)) (.slice ra s.records.length rv) (.slice sa s.services.length sv) (.slice ga s.sagas.length gv))
  go_wp2_with fail
  exact bodyPost_ret (v := .agg #[.string (bT s.name), .slice ra s.records.length rv, .slice sa s.services.length sv, .slice ga s.sagas.length gv]) (by simp [results, Tryz.results20, go_sem, m0, m1, m2, m3]) rfl ⟨_, _, _, rfl, HE.out.1, HE.out.2⟩
theorem shop_any (w : World) : Calls Tryz.prog 20 #[] w fun e w' => ∃ ur us ug, e = .returned (.agg #[.string (bT shop.name), ur, us, ug]) ∧ SchO w.heap.size w' shop ur us ug ∧ Below w.heap.size w w' := by
  have hh := shop_short
  simp only [Bool.and_eq_true, decide_eq_true_eq, List.all_eq_true] at hh
  exact shop_gen w shop (fun A => parse_ok (w.alloc A) (bT shopText) shop_size shopToks shop _ shop_toks shop_schema (by omega) hh.1 hh.2)
end

section
open Go.RowKit

/-- a row of texts that is only read -/
def TxR (w : World) (a : Option Addr) (n : Nat) (xs : List Tx) : Prop := 0 < n → ∃ b o, a = some ⟨b, o, none⟩ ∧ b < w.heap.size ∧ ∀ j u, xs[j]? = some u → w.cell? ⟨b, o + j, none⟩ = some (.string (bT u))
theorem TxR.below {w w' : World} {a : Option Addr} {n : Nat} {xs : List Tx} (h : TxR w a n xs) (hb : Below w.heap.size w w') : TxR w' a n xs := fun hn => by
  obtain ⟨b, o, e, hl, hc⟩ := h hn
  exact ⟨b, o, e, Nat.lt_of_lt_of_le hl hb.size, fun j u hu => (hb.cell (p := ⟨b, o + j, none⟩) hl).trans (hc j u hu)⟩
theorem bT_str (a : Tx) (x : ByteArray) : (x.toList == (bT a).toList) = decide (x.data.toList = a) := by
  rw [bT_list, ByteArray.toList_eq, Bool.eq_iff_iff, beq_iff_eq, decide_eq_true_iff]
/-- the place tells whether the text is there -/
def FoundAt (k : Int) (xs : List Tx) (x : Tx) : Prop := decide (0 ≤ k) = xs.contains x
set_option maxRecDepth 100000 in
set_option maxHeartbeats 2000000 in
theorem index_any (w : World) (a : Option Addr) (n c : Nat) (xs : List Tx) (hn : n = xs.length) (h0 : n ≤ 65536) (hc : TxR w a n xs) (x : ByteArray) :
    Calls Tryz.prog 155 #[.slice a n c, .string x] w fun e w' => ∃ k : Int, e = .returned (.int .i64 k) ∧ FoundAt k xs x.data.toList ∧ w = w' := by
  have HC := Lib.hid hc
  have HN := Lib.hid hn
  clear hc hn
  go_enter Tryz.func155, Tryz.ntmps155
  go_wp2_with fail
  go_loop [8] (fun i => ∃ k : Nat, k ≤ n ∧ i = .int .i64 k ∧ Hid (∀ j u, j < k → xs[j]? = some u → u ≠ x.data.toList)) (fun i => n - (intOf i).toNat)
  case atStart => exact ⟨0, by omega, rfl, fun j u h => by omega⟩
  case round =>
    obtain ⟨k, hk, rfl, HI⟩ := hrel
    by_cases hlt : k < n
    · obtain ⟨b, o, rfl, -, hcell⟩ := HC.out (by omega)
      have hx : xs[k]? = some (xs[k]'(by have := HN.out; omega)) := List.getElem?_eq_getElem _
      have c0 := hcell k _ hx
      have HX := Lib.hid hx
      have hs := bT_str (xs[k]'(by have := HN.out; omega)) x
      clear hcell HC hx
      generalize xs[k]'(by have := HN.out; omega) = y at *
      by_cases he : x.data.toList = y
      · rw [decide_eq_true he] at hs
        have HE := Lib.hid he
        clear he
        go_wp2_with fail
        refine bodyPost_ret (v := .int .i64 (k : Nat)) (by simp [results, Tryz.results155, go_sem]) rfl ⟨_, rfl, ?_, rfl⟩
        unfold FoundAt
        rw [show xs.contains x.data.toList = true from by rw [List.contains_iff_mem, HE.out]; exact List.mem_of_getElem? HX.out]
        simp
      · rw [decide_eq_false he] at hs
        have HE := Lib.hid he
        clear he
        go_wp2_with fail
        exact ⟨⟨k + 1, by omega, by go_num, fun j u h1 h2 => by
          by_cases e : j = k
          · subst e
            rw [HX.out] at h2
            obtain rfl := Option.some.inj h2
            exact fun e => HE.out e.symm
          · exact HI.out j u (by omega) h2⟩, by simp [intOf]; omega⟩
    · have hkn : k = n := by omega
      subst hkn
      have HF := Lib.hid (show xs.contains x.data.toList = false from by
        rw [← Bool.not_eq_true, List.contains_iff_mem]
        intro hm
        obtain ⟨j, hj, e⟩ := List.mem_iff_getElem.1 hm
        exact HI.out j _ (by have := HN.out; omega) (List.getElem?_eq_getElem hj) e)
      go_wp2_with fail
      refine bodyPost_ret (v := .int .i64 (-1)) (by simp [results, Tryz.results155, go_sem]) rfl ⟨_, rfl, ?_, rfl⟩
      unfold FoundAt
      rw [HF.out]; rfl
set_option maxRecDepth 100000 in
theorem contains_any (w : World) (a : Option Addr) (n c : Nat) (xs : List Tx) (hn : n = xs.length) (h0 : n ≤ 65536) (hc : TxR w a n xs) (x : ByteArray) :
    Calls Tryz.prog 128 #[.slice a n c, .string x] w fun e w' => e = .returned (.bool (xs.contains x.data.toList)) ∧ w = w' := by
  have HI := Lib.hid (index_any w a n c xs hn h0 hc x)
  clear hc hn
  unfold FoundAt at HI
  generalize xs.contains x.data.toList = B at *
  go_enter Tryz.func128, Tryz.ntmps128
  go_wp2_with fail
  refine HI.out.mono ?_
  rintro e w1 ⟨k, rfl, hk, rfl⟩
  by_cases h : 0 ≤ k
  · rw [decide_eq_true h] at hk
    subst hk
    go_wp2_with fail
    exact bodyPost_ret (v := .bool true) (by simp [results, Tryz.results128, go_sem]) rfl ⟨rfl, rfl⟩
  · rw [decide_eq_false h] at hk
    subst hk
    go_wp2_with fail
    exact bodyPost_ret (v := .bool false) (by simp [results, Tryz.results128, go_sem]; omega) rfl ⟨rfl, rfl⟩
/-- the table of keywords lies as its initialiser lays it -/
def KwIn (w : World) : Prop := 0 < w.heap.size ∧ ∀ j u, keywords[j]? = some u → w.cell? ⟨0, j, none⟩ = some (.string (bT u))
theorem KwIn.below {w w' : World} (h : KwIn w) (hb : Below w.heap.size w w') : KwIn w' :=
  ⟨Nat.lt_of_lt_of_le h.1 hb.size, fun j u hu => (hb.cell (p := ⟨0, j, none⟩) h.1).trans (h.2 j u hu)⟩
set_option maxRecDepth 100000 in
theorem tkeyword_any (w : World) (hK : KwIn w) (s : ByteArray) : Calls Tryz.prog 89 #[.string s] w fun e w' => e = .returned (.bool (keyB s.data.toList)) ∧ w = w' := by
  have HC := Lib.hid (fun c => contains_any w (some ⟨0, 0, none⟩) 17 c keywords rfl (by decide) (fun _ => ⟨_, _, rfl, hK.1, fun j u hu => by rw [Nat.zero_add]; exact hK.2 j u hu⟩) s)
  rw [show keyB s.data.toList = keywords.contains s.data.toList from rfl]
  generalize keywords.contains s.data.toList = B at *
  go_enter Tryz.func89, Tryz.ntmps89
  go_wp2_with fail
  refine (HC.out _).mono ?_
  rintro e w1 ⟨rfl, rfl⟩
  go_wp2_with fail
  exact bodyPost_ret (v := .bool _) (by simp [results, Tryz.results89, go_sem]) rfl ⟨rfl, rfl⟩
theorem or32 : ∀ n : Fin 256, (decide (97 ≤ bits .or .u8 ((n : Nat) : Int) 32) && decide (bits .or .u8 ((n : Nat) : Int) 32 ≤ 122)) = ((decide (97 ≤ (n : Nat)) && decide ((n : Nat) ≤ 122)) || (decide (65 ≤ (n : Nat)) && decide ((n : Nat) ≤ 90))) := by decide +kernel
theorem tletter_any (w : World) (c : UInt8) : Calls Tryz.prog 88 #[.int .u8 (c.toNat : Nat)] w fun e w' => e = .returned (.bool (letterB c)) ∧ w = w' := by
  have HL := Lib.hid (show letterB c = (decide (97 ≤ bits .or .u8 ((c.toNat : Nat) : Int) 32) && decide (bits .or .u8 ((c.toNat : Nat) : Int) 32 ≤ 122)) from (or32 ⟨c.toNat, u8_lt c⟩).symm)
  generalize letterB c = L at *
  have hc := u8_lt c
  generalize c.toNat = n at *
  by_cases h1 : 97 ≤ bits .or .u8 ((n : Nat) : Int) 32
  · by_cases h2 : bits .or .u8 ((n : Nat) : Int) 32 ≤ 122
    · obtain rfl : L = true := by rw [HL.out, decide_eq_true h1, decide_eq_true h2]; rfl
      go_enter Tryz.func88, Tryz.ntmps88
      go_wp2_with fail
      exact bodyPost_ret (v := .bool true) (by simp [results, Tryz.results88, go_sem, h2]) rfl ⟨rfl, rfl⟩
    · obtain rfl : L = false := by rw [HL.out, decide_eq_false h2]; simp
      go_enter Tryz.func88, Tryz.ntmps88
      go_wp2_with fail
      exact bodyPost_ret (v := .bool false) (by simp [results, Tryz.results88, go_sem, h2]) rfl ⟨rfl, rfl⟩
  · obtain rfl : L = false := by rw [HL.out, decide_eq_false h1]; rfl
    go_enter Tryz.func88, Tryz.ntmps88
    go_wp2_with fail
    exact bodyPost_ret (v := .bool false) (by simp [results, Tryz.results88, go_sem]) rfl ⟨rfl, rfl⟩
theorem tdigit_any (w : World) (c : UInt8) : Calls Tryz.prog 129 #[.int .u8 (c.toNat : Nat)] w fun e w' => e = .returned (.bool (digitB c)) ∧ w = w' := by
  have hc := u8_lt c
  have HL := Lib.hid (show digitB c = (decide (48 ≤ c.toNat) && decide (c.toNat ≤ 57)) from rfl)
  generalize digitB c = L at *
  generalize c.toNat = n at *
  by_cases a1 : 48 ≤ n <;> by_cases a2 : n ≤ 57
  all_goals
    first
    | omega
    | (go_enter Tryz.func129, Tryz.ntmps129
       go_wp2_with fail
       go_ret
       refine ⟨ret_bool ?_, rfl⟩
       rw [HL.out]
       simp [a1, a2] <;> omega)
theorem tinner_any (w : World) (c : UInt8) : Calls Tryz.prog 91 #[.int .u8 (c.toNat : Nat)] w fun e w' => e = .returned (.bool (innerB c)) ∧ w = w' := by
  have H1 := Lib.hid (tletter_any w c)
  have H2 := Lib.hid (tdigit_any w c)
  have HL := Lib.hid (show innerB c = (letterB c || digitB c || (((c.toNat : Nat) : Int) == 95)) from by
    unfold innerB
    congr 1
    rw [Bool.eq_iff_iff, beq_iff_eq, beq_iff_eq, ← UInt8.toNat_inj]; simp; omega)
  generalize innerB c = L at *
  generalize letterB c = A at *
  generalize digitB c = D at *
  have hc := u8_lt c
  generalize c.toNat = n at *
  cases A with
  | true =>
    obtain rfl : L = true := HL.out
    go_enter Tryz.func91, Tryz.ntmps91
    go_wp2_with fail
    refine H1.out.mono ?_
    rintro e w1 ⟨rfl, rfl⟩
    go_wp2_with fail
    exact bodyPost_ret (v := .bool true) (by simp [results, Tryz.results91, go_sem]) rfl ⟨rfl, rfl⟩
  | false =>
    cases D with
    | true =>
      obtain rfl : L = true := HL.out
      go_enter Tryz.func91, Tryz.ntmps91
      go_wp2_with fail
      refine H1.out.mono ?_
      rintro e w1 ⟨rfl, rfl⟩
      go_wp2_with fail
      refine H2.out.mono ?_
      rintro e w1 ⟨rfl, rfl⟩
      go_wp2_with fail
      exact bodyPost_ret (v := .bool true) (by simp [results, Tryz.results91, go_sem]) rfl ⟨rfl, rfl⟩
    | false =>
      have hL : L = ((n : Int) == 95) := HL.out
      subst hL
      go_enter Tryz.func91, Tryz.ntmps91
      go_wp2_with fail
      refine H1.out.mono ?_
      rintro e w1 ⟨rfl, rfl⟩
      go_wp2_with fail
      refine H2.out.mono ?_
      rintro e w1 ⟨rfl, rfl⟩
      go_wp2_with fail
      exact bodyPost_ret (v := .bool ((n : Int) == 95)) (by simp [results, Tryz.results91, go_sem]) rfl ⟨rfl, rfl⟩
end

section
open Go.RowKit

theorem below_drewN {B : Nat} {w w' : World} (h : Below B w w') : ∀ n : Nat, Below B w (w'.drewN n)
  | 0 => h
  | n + 1 => (below_drewN h n).drew
set_option maxRecDepth 100000 in
set_option maxHeartbeats 4000000 in
theorem run_any (w0 w : World) (s : ByteArray) (hs : s.size ≤ 4611686018427387904) (hb : NewB w0 w 168 #[.string s, .int .i64 0]) :
    Calls Tryz.prog 90 #[.pointer (some ⟨w0.heap.size, 0, none⟩), .func (.func 91) #[] #[]] w fun e w' => ∃ k, k ≤ s.size ∧ e = .returned (.string (s.extract 0 k)) ∧ Hid (∀ (j : Nat) (hj : j < s.size), j < k → innerB s[j] = true) ∧ Hid (k = s.size ∨ ∃ hk : k < s.size, innerB s[k] = false) ∧ Below w0.heap.size w0 w' := by
  have HB := Lib.hid hb
  clear hb
  have d0 := HB.out.cell (o := 0) rfl
  have d1 := HB.out.cell (o := 1) rfl
  have df := HB.out.froz
  have HI := Lib.hid (fun w c => tinner_any w c)
  have hlt := HB.out.lt
  go_enter Tryz.func90, Tryz.ntmps90
  go_wp2_with fail
  clear d0 d1 df
  go_loopw [] (fun wr => ∃ k : Nat, k ≤ s.size ∧ Hid (NewB w0 wr 168 #[.string s, .int .i64 (k : Nat)]) ∧ Hid (∀ (j : Nat) (hj : j < s.size), j < k → innerB s[j] = true)) (fun wr => s.size - (match wr.cell? ⟨w0.heap.size, 1, none⟩ with | some v => (intOf v).toNat | none => 0))
  case atStart => exact ⟨0, by omega, HB, fun j _ h => by omega⟩
  case round =>
    clear HB hlt
    obtain ⟨k, hk, HB, HA⟩ := hrel
    have d0 := HB.out.cell (o := 0) rfl
    have d1 := HB.out.cell (o := 1) rfl
    have df := HB.out.froz
    have hlt := HB.out.lt
    by_cases hks : k < s.size
    · have hx : decide ((k : Int) < (s.size : Int)) = true := by simp; omega
      have HIk := Lib.hid (fun w => HI.out w s[k])
      cases hi : innerB s[k] with
      | true =>
        rw [hi] at HIk
        have h1 : (0 : Int) ≤ (k : Int) := by omega
        have h2 : (k : Int) < (s.size : Int) := by omega
        go_wp2_with fail
        go_quiet ((go_at_call 91; exact Calls.quiet_of_same ((HIk.out _).mono fun _ _ ⟨he, hw⟩ => ⟨he, hw.symm⟩)))
        have HB2 := Lib.hid (HB.out.after (below_drewN (Below.refl _ _) nq))
        have HD1 := Lib.hid d1
        clear HB d0 d1 df hlt
        generalize wr.drewN nq = wx at *
        have d0 := HB2.out.cell (o := 0) rfl
        have d1 := HB2.out.cell (o := 1) rfl
        have df := HB2.out.froz
        have hlt := HB2.out.lt
        go_wp2_with fail
        have HB3 := HB2.out.set 1 (.int .i64 ((k : Int) + 1))
        exact ⟨⟨k + 1, by omega, HB3, fun j hj h => by
          by_cases e : j = k
          · subst e; exact hi
          · exact HA.out j hj (by omega)⟩, by rw [HB3.cell (o := 1) (u := .int .i64 ((k : Int) + 1)) rfl, HD1.out]; simp [intOf]; omega⟩
      | false =>
        rw [hi] at HIk
        go_wp2_with fail
        go_quiet ((go_at_call 91; exact Calls.quiet_of_same ((HIk.out _).mono fun _ _ ⟨he, hw⟩ => ⟨he, hw.symm⟩)))
        have HB2 := Lib.hid (HB.out.after (below_drewN (Below.refl _ _) nq))
        clear HB d0 d1 df hlt
        generalize wr.drewN nq = wx at *
        have d0 := HB2.out.cell (o := 0) rfl
        have d1 := HB2.out.cell (o := 1) rfl
        have df := HB2.out.froz
        have hlt := HB2.out.lt
        have h3 : (0 : Int) ≤ (k : Int) := by omega
        have h4 : (k : Int) ≤ (s.size : Int) := by omega
        go_wp2_with fail
        go_quiet (fail)
        go_wp2_with fail
        exact bodyPost_ret (v := .string (s.extract 0 k)) (by simp [results, Tryz.results90, go_sem]) rfl ⟨k, hk, rfl, HA, Lib.hid (.inr ⟨hks, hi⟩), below_drewN HB2.out.bel _⟩
    · have hx : decide ((k : Int) < (s.size : Int)) = false := by simp; omega
      go_wp2_with fail
      go_quiet (fail)
      have HB2 := Lib.hid (HB.out.after (below_drewN (Below.refl _ _) nq))
      clear HB d0 d1 df hlt
      generalize wr.drewN nq = wx at *
      have d0 := HB2.out.cell (o := 0) rfl
      have d1 := HB2.out.cell (o := 1) rfl
      have df := HB2.out.froz
      have hlt := HB2.out.lt
      have h3 : (0 : Int) ≤ (k : Int) := by omega
      have h4 : (k : Int) ≤ (s.size : Int) := by omega
      go_wp2_with fail
      go_quiet (fail)
      go_wp2_with fail
      exact bodyPost_ret (v := .string (s.extract 0 k)) (by simp [results, Tryz.results90, go_sem]) rfl ⟨k, hk, rfl, HA, Lib.hid (.inl (by omega)), below_drewN HB2.out.bel _⟩
theorem extract_all (s : ByteArray) (k : Nat) (hk : k ≤ s.size) : ((s.extract 0 k).toList == s.toList) = decide (k = s.size) := by
  rw [ByteArray.toList_eq, ByteArray.toList_eq, Bool.eq_iff_iff, beq_iff_eq, decide_eq_true_iff]
  constructor
  · intro h
    have := congrArg List.length h
    simp at this
    omega
  · rintro rfl
    simp
set_option maxRecDepth 100000 in
set_option maxHeartbeats 4000000 in
theorem tname_any (w : World) (hK : KwIn w) (s : ByteArray) (hs : s.size ≤ 4611686018427387904) : Calls Tryz.prog 52 #[.string s] w fun e w' => e = .returned (.bool (nameT s.data.toList)) ∧ Below w.heap.size w w' := by
  have HK := Lib.hid (tkeyword_any w hK s)
  have HR := Lib.hid (run_any w _ s hs (NewB.mk' w _ _))
  clear hK
  by_cases h0 : s.size = 0
  · have hN : nameT s.data.toList = false := by
      have : s.data.toList = [] := List.eq_nil_of_length_eq_zero h0
      rw [this]; rfl
    rw [hN]
    clear hN
    go_enter Tryz.func52, Tryz.ntmps52
    go_wp2_with fail
    exact bodyPost_ret (v := .bool false) (by simp [results, Tryz.results52, go_sem]) rfl ⟨rfl, Below.refl _ _⟩
  have hpos : 0 < s.size := by omega
  have HN := Lib.hid (nameT_eq hpos)
  by_cases h1 : 32 < s.size
  · have hN : nameT s.data.toList = false := by rw [HN.out]; simp; omega
    rw [hN]
    clear hN
    go_enter Tryz.func52, Tryz.ntmps52
    go_wp2_with fail
    exact bodyPost_ret (v := .bool false) (by simp [results, Tryz.results52, go_sem]) rfl ⟨rfl, Below.refl _ _⟩
  have hd : decide (s.size ≤ 32) = true := by rw [decide_eq_true_eq]; omega
  rw [hd, Bool.true_and] at HN
  have HA := Lib.hid (fun h => name_all (s := s) h)
  have HB := Lib.hid (fun (j : Nat) (hj : j < s.size) h1 h => name_not (s := s) hj h1 h)
  have HI0 := Lib.hid (show letterB s[0] = true → innerB s[0] = true from fun h => by unfold innerB; rw [h]; rfl)
  have HX := Lib.hid (fun k hk => extract_all s k hk)
  generalize (s.data.toList.drop 1).all innerB = A at *
  generalize nameT s.data.toList = N at *
  generalize keyB s.data.toList = K at *
  have HL0 := Lib.hid (tletter_any w s[0])
  have hz0 : ((s.size : Int) == 0) = false := by rw [beq_eq_false_iff_ne]; omega
  have hz1 : decide (32 < (s.size : Int)) = false := by rw [decide_eq_false_iff_not]; omega
  cases hl : letterB s[0] with
  | false =>
    rw [hl] at HN HL0
    go_enter Tryz.func52, Tryz.ntmps52
    go_wp2_with fail
    refine HL0.out.mono ?_
    rintro e w1 ⟨rfl, rfl⟩
    go_wp2_with fail
    exact bodyPost_ret (v := .bool false) (by simp [results, Tryz.results52, go_sem]) rfl ⟨ret_bool (by rw [HN.out]; rfl), Below.refl _ _⟩
  | true =>
    rw [hl] at HN HL0
    cases hk : K with
    | true =>
      rw [hk] at HN HK
      go_enter Tryz.func52, Tryz.ntmps52
      go_wp2_with fail
      refine HL0.out.mono ?_
      rintro e w1 ⟨rfl, rfl⟩
      go_wp2_with fail
      refine HK.out.mono ?_
      rintro e w1 ⟨rfl, rfl⟩
      go_wp2_with fail
      exact bodyPost_ret (v := .bool false) (by simp [results, Tryz.results52, go_sem]) rfl ⟨ret_bool (by rw [HN.out]; rfl), Below.refl _ _⟩
    | false =>
      rw [hk] at HN HK
      go_enter Tryz.func52, Tryz.ntmps52
      go_wp2_with fail
      refine HL0.out.mono ?_
      rintro e w1 ⟨rfl, rfl⟩
      go_wp2_with fail
      refine HK.out.mono ?_
      rintro e w1 ⟨rfl, rfl⟩
      go_wp2_with fail
      refine HR.out.mono ?_
      rintro e w1 ⟨k, hk, rfl, HJ, HE, hb⟩
      have hx := HX.out k hk
      have HNk := Lib.hid (show N = decide (k = s.size) from by
        rw [HN.out]
        rcases HE.out with h | ⟨h, h2⟩
        · rw [decide_eq_true h, HA.out (fun j hj h1 => HJ.out j hj (by omega))]; rfl
        · rw [decide_eq_false (by omega)]
          by_cases hk0 : 1 ≤ k
          · rw [HB.out k h hk0 h2]; rfl
          · obtain rfl : k = 0 := by omega
            rw [HI0.out hl] at h2; cases h2)
      clear HJ HE HX
      go_wp2_with fail
      exact bodyPost_ret (v := .bool (decide (k = s.size))) (by simp [results, Tryz.results52, go_sem]) rfl ⟨ret_bool HNk.out.symm, hb⟩
end
end Go.Proofs.YtgoejmheihgpfaaGreatDoor
