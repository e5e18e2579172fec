/-
  package txn: batch.
-/
import Derived.Test.YtcohbfabcdjefaaGreatDoorEs
namespace Go.Proofs.YtcohbfabcdjefaaGreatDoor
open Go.RowKit Go.Maps Go.Shelf
attribute [local go_sem] Oper.semAt_some

theorem putAll_mem {M : List It} (hU : Up M) : ∀ (L : List It) (y : It), y ∈ putAll M L → y ∈ L ∨ y ∈ M := by
  intro L
  induction L generalizing M with
  | nil => exact fun y h => .inr h
  | cons x r ih =>
    intro y h
    rcases ih (putL_up x hU) y h with h | h
    · exact .inl (by simp [h])
    · rcases putL_mem hU h with rfl | h
      · exact .inl (by simp)
      · exact .inr h
/-- the batch of a list of puts that nothing bars -/
theorem batch_good {L : List It} (hok : ∀ x ∈ L, OkE x) (hL : L.length ≤ 64) (hs : sumE L ≤ 30000) : GoodE (putAll [] L) := by
  have h1 := putAll_len (M := []) trivial L
  have h2 := putAll_sum (M := []) trivial L
  simp [sumE] at h1 h2
  exact ⟨by omega, fun x hx => hok x (by rcases putAll_mem (M := []) trivial L x hx with h | h; exact h; cases h), by omega, putAll_up (M := []) trivial L⟩
/-- what stands in memory while the puts are gone over -/
structure BaI (w : World) (mb : Nat) (N : List It) (wr : World) : Prop where
  mem : ∃ u, MemAt wr mb u false ∧ OwnI wr w.heap.size u N
  up : Up N
  bel : Below w.heap.size w wr
/-- what stands in memory while the entries are gone over -/
structure BaJ (w4 w : World) (ob : Nat) (vm : Value) (pre : List It) (W : World) : Prop where
  out : ∃ u, Boxed W ob 62 u ∧ W.ownsRow w4.heap.size 99 3 u pre.length (ecells pre) ∧ True
  size : ∃ s : Int, Boxed W (ob + 1) 3 (.int .i64 s) ∧ (sumE pre ≤ 1000000 → s = sumE pre)
  row : ∀ k, vm.ownBlock = some k → ∃ cs, W.heap[k]? = some (.cells cs 176 (0, 0))
  bel : Below w.heap.size w W
theorem keeps_cells {A B : World} {row : Option Nat} (hg : A.grownBy B row) (hr : ∀ r, row = some r → ∃ o : Obj, A.heap[r]? = some o ∧ o.isCells = false) {k : Nat} {cs : Array Value} {T : TypeId} {fr : Nat × Nat} (h : A.heap[k]? = some (.cells cs T fr)) : B.heap[k]? = some (.cells cs T fr) :=
  (hg.block k (heap_lt h) (fun e => by obtain ⟨o, ho, hc⟩ := hr k e.symm; rw [h] at ho; cases ho; cases hc)).trans h
theorem baJ_own (w4 w : World) (ob : Nat) (vm : Value) (hw : w.heap.size ≤ w4.heap.size) : OwnFrom w4.heap.size (BaJ w4 w ob vm) := fun s A B row hs hg hr => by
  obtain ⟨⟨u, h1, h2, _⟩, ⟨z, h3, h4⟩, h5, h6⟩ := hs
  have hc := @keeps_cells A B row hg (fun r e => (hr r e).2)
  refine ⟨⟨u, hc h1, own_keep h2 (fun g cs _ e => hc e), trivial⟩, ⟨z, hc h3, h4⟩, fun k hk => ?_, ?_⟩
  · obtain ⟨cs, e⟩ := h5 k hk; exact ⟨cs, hc e⟩
  · exact h6.grown hg h6.size (fun r e => by have := (hr r e).1; omega)
theorem baJ_step {w4 w W w1 : World} {ob : Nat} {vm u v' : Value} {pre : List It} {x : It} {z s' : Int} {tmp : Obj} (hrow : W.ownsRow w4.heap.size 99 3 u pre.length (ecells pre))
    (hu : Boxed W ob 62 u) (hz : Boxed W (ob + 1) 3 (.int .i64 z)) (hri : ∀ k, vm.ownBlock = some k → ∃ cs, W.heap[k]? = some (.cells cs 176 (0, 0))) (hbl : Below w.heap.size w W)
    (hgrow : ((W.setCell ⟨ob + 1, 0, none⟩ (.int .i64 s')).alloc tmp).grownBy w1 u.ownBlock) (hown' : w1.ownsRow w4.heap.size 99 3 v' (pre.length + 1) (ecells pre ++ [.string x.key, .string x.val, .bool x.gone]))
    (hs' : sumE (pre ++ [x]) ≤ 1000000 → s' = sumE (pre ++ [x])) (hob : w.heap.size ≤ ob) (hw4 : w.heap.size ≤ w4.heap.size) :
    Boxed w1 ob 62 u ∧ (KeepsFrom w4.heap.size W (w1.setCell ⟨ob, 0, none⟩ v') ∧ RowKept vm W (w1.setCell ⟨ob, 0, none⟩ v') ∧ BaJ w4 w ob vm (pre ++ [x]) (w1.setCell ⟨ob, 0, none⟩ v')) := by
  have hu2 : Boxed (W.setCell ⟨ob + 1, 0, none⟩ (.int .i64 s')) ob 62 u := hu.other (by omega) _
  have hz2 : Boxed (W.setCell ⟨ob + 1, 0, none⟩ (.int .i64 s')) (ob + 1) 3 (.int .i64 s') := hz.set _
  have hn0 := hu.not_row (by decide) hrow
  have hn1 := hz.not_row (by decide) hrow
  have hu1 : Boxed w1 ob 62 u := (hu2.alloc tmp).kept hgrow hn0
  have hz1 : Boxed w1 (ob + 1) 3 (.int .i64 s') := (hz2.alloc tmp).kept hgrow hn1
  have hblk : ∀ (k : Nat) (cs : Array Value), W.heap[k]? = some (.cells cs 176 (0, 0)) → (w1.setCell ⟨ob, 0, none⟩ v').heap[k]? = W.heap[k]? := fun k cs e => by
    have e1 : k ≠ ob := fun h => by subst h; have := hu.symm.trans e; simp at this
    have e2 : k ≠ ob + 1 := fun h => by subst h; have := hz.symm.trans e; simp at this
    have e3 : some k ≠ u.ownBlock := fun h => own_type hrow e (by decide) h.symm
    have hkl := heap_lt e
    rw [Below.heap_setCell w1 ⟨ob, 0, none⟩ v' k e1, hgrow.block k (by simp; omega) e3, Below.heap_alloc _ _ _ (by simpa using hkl), Below.heap_setCell W ⟨ob + 1, 0, none⟩ _ k e2]
  refine ⟨hu1, ?_, fun k hk o ho => ?_, ⟨v', hu1.set v', ?_, trivial⟩, ⟨s', hz1.other (by omega) v', hs'⟩, fun k hk => ?_, ?_⟩
  · refine KeepsOthers.from ((((KeepsOthers.setCell W _ _).trans (KeepsOthers.alloc _ tmp)).trans (KeepsOthers.of_grownBy hgrow fun j o ej hj => ?_)).trans (KeepsOthers.setCell _ _ _)) _
    obtain ⟨cs, e⟩ := own_block hrow ej
    have hne : j ≠ ob + 1 := fun h => by subst h; have := hz.symm.trans e; simp at this
    rw [Below.heap_alloc _ _ _ (by have := heap_lt e; simpa using this), Below.heap_setCell W ⟨ob + 1, 0, none⟩ _ j hne, e] at hj
    cases hj; rfl
  · obtain ⟨cs, e⟩ := hri k hk
    rw [hblk k cs e]; exact ho
  · rw [List.length_append, ecells_append]
    exact hown'.kept (grownBy_setCell' w1 _ v') (.inr (hu1.not_row (by decide) hown').symm)
  · obtain ⟨cs, e⟩ := hri k hk
    exact ⟨cs, (hblk k cs e).trans e⟩
  · exact ((((hbl.setCell (p := ⟨ob + 1, 0, none⟩) (by show w.heap.size ≤ ob + 1; omega) _).alloc (by have := hbl.size; simpa using this) tmp).grown hgrow (by have := hbl.size; simp; omega) (fun j ej => by have := (hrow.lt j ej).1; omega)).setCell (p := ⟨ob, 0, none⟩) hob v')
theorem info_ent : (Tryz.prog.info? 99).map (fun i => (i.zero, i.size, i.bytes)) = some (some (.agg #[.string ⟨#[]⟩, .string ⟨#[]⟩, .bool false]), 3, 40) := by kernel_rfl
set_option maxRecDepth 100000 in
set_option maxHeartbeats 4000000 in
theorem batch_any (w : World) (v : Value) (L : List It) (h : RdE w v L) (hok : ∀ x ∈ L, OkE x) (hL : L.length ≤ 64) (hs : sumE L ≤ 30000) :
    Calls Tryz.prog 21 #[v] w fun e w' => ∃ u, e = .returned (.tuple #[u, .int .i64 0]) ∧ OwnE w' w.heap.size u (putAll [] L) ∧ Below w.heap.size w w' := by
  have HRD := Lib.hid h
  have HOK := Lib.hid hok
  have HG := Lib.hid (batch_good hok hL hs)
  obtain ⟨a, c, rfl, h1, h2, h3⟩ := h
  have H3 := Lib.hid h3
  have HS := Lib.hid hs
  unfold maxLen at h2
  clear h3 hok hs
  refine (callsIn_wide (n := 5)).1 (callsIn_of_wp_marks Tryz.func21 rfl trivial ?_ rfl)
  refine wpIn_wide.2 ?_
  simp only [Tryz.ntmps21, List.size_toArray, List.length_cons, List.length_nil, Nat.reduceAdd, Nat.reduceSub, Array.replicate_succ, Array.replicate_zero, List.push_toArray, List.append_toArray, List.nil_append, List.cons_append]
  go_wp2_with fail
  refine (new_mem w).mono ?_
  rintro e w0 ⟨rfl, hm0, hw0⟩
  have HI0 := Lib.hid (show BaI w w.heap.size [] w0 from ⟨⟨_, hm0, World.ownsRow_nil _ _ _ _⟩, trivial, by rw [hw0]; exact bl1 w _⟩)
  clear hm0 hw0
  obtain ⟨mb, hmb⟩ : ∃ mb, mb = w.heap.size := ⟨_, rfl⟩
  have HMB := Lib.hid hmb
  rw [← hmb] at HI0 ⊢
  clear hmb
  go_wp2_with fail
  go_loopw [18] (fun x wr => ∃ k : Nat, k ≤ L.length ∧ x = .int .i64 k ∧ Hid (BaI w mb (putAll [] (L.take k)) wr)) (fun x _ => L.length - (intOf x).toNat)
  case atStart => exact ⟨0, Nat.zero_le _, rfl, HI0⟩
  case round =>
    obtain ⟨k, hk, rfl, HI⟩ := hrel
    by_cases hlt : k < L.length
    · obtain ⟨b, rfl, hb, hrow⟩ := H3.out (by omega)
      have f := (hrow k hlt).block (HI.out.bel.block b hb)
      have ho := HOK.out _ (List.getElem_mem hlt)
      have HSS := Lib.hid (putAll_succ [] L k hlt)
      have hNl := putAll_len (M := []) trivial (L.take k)
      generalize L[k] = x at *
      generalize putAll [] (L.take k) = N at *
      have p0 := f.c0
      have p1 := f.c1
      have p2 := f.c2
      have k0 := ho.key0
      have k1 := ho.key
      have k2 := ho.val
      have kn : (x.key.toList == ([] : List UInt8)) = false := key_ne k0
      have HV := Lib.hid (show x.gone = true → x.val = ⟨#[]⟩ from ho.gone)
      have hNl2 : N.length ≤ 64 := by rw [List.length_take] at hNl; simp at hNl; omega
      clear f hrow ho hNl
      cases hgn : x.gone with
      | false =>
        rw [hgn] at p2
        go_wp2_with fail
        obtain ⟨u, hm, hown⟩ := HI.out.mem
        obtain ⟨Z, hZ⟩ : ∃ Z, Z = (wr.alloc (.cells #[.string x.key, .string x.val, .bool false] 73 (0, 0))).alloc (.cells #[.string x.key, .string x.val, .bool false] 99 (0, 0)) := ⟨_, rfl⟩
        have hbZ : Below wr.heap.size wr Z := by rw [hZ]; exact bl2 wr _ _
        have hBW := HI.out.bel.trans (hbZ.mono HI.out.bel.size)
        have hmZ : MemAt Z mb u false := ⟨(hbZ.block mb hm.lt).trans hm.blk⟩
        have hoZ : OwnI Z w.heap.size u N := own_below hown hbZ
        have HSE := Lib.hid (set_any Z w.heap.size mb u N x hBW.size hmZ hoZ HI.out.up (by omega))
        have HBZ := Lib.hid hBW
        have HOZ := Lib.hid hoZ
        rw [← hZ]
        unfold entv at HSE
        rw [hgn] at HSE
        clear hZ hbZ hBW hmZ hoZ hm hown
        refine HSE.out.mono ?_
        rintro e w3 ⟨rfl, hset⟩
        have HF := Lib.hid (show BaI w mb (putL N x) w3 from by
          obtain ⟨u3, hm3, ho3, hb3⟩ := hset
          exact ⟨⟨u3, hm3, ho3⟩, putL_up x HI.out.up, HBZ.out.trans (hb3.below HBZ.out.size (fun k hk => by
            rcases List.mem_cons.1 hk with rfl | hk
            · rw [HMB.out]; exact Nat.le_refl _
            · exact (HOZ.out.lt k (by simpa using hk)).1))⟩)
        clear hset HSE
        go_wp2_with fail
        exact ⟨⟨k + 1, hlt, by go_num, by rw [HSS.out]; exact HF⟩, by simp [intOf]; omega⟩
      | true =>
        rw [hgn] at p2
        go_wp2_with fail
        obtain ⟨u, hm, hown⟩ := HI.out.mem
        obtain ⟨Z, hZ⟩ : ∃ Z, Z = (wr.alloc (.cells #[.string x.key, .string x.val, .bool true] 73 (0, 0))).alloc (.cells #[.string x.key, .string ⟨#[]⟩, .bool true] 99 (0, 0)) := ⟨_, rfl⟩
        have hbZ : Below wr.heap.size wr Z := by rw [hZ]; exact bl2 wr _ _
        have hBW := HI.out.bel.trans (hbZ.mono HI.out.bel.size)
        have hmZ : MemAt Z mb u false := ⟨(hbZ.block mb hm.lt).trans hm.blk⟩
        have hoZ : OwnI Z w.heap.size u N := own_below hown hbZ
        have HSE := Lib.hid (set_any Z w.heap.size mb u N x hBW.size hmZ hoZ HI.out.up (by omega))
        have HBZ := Lib.hid hBW
        have HOZ := Lib.hid hoZ
        rw [← hZ]
        unfold entv at HSE
        rw [hgn] at HSE
        rw [HV.out hgn] at HSE
        clear hZ hbZ hBW hmZ hoZ hm hown
        refine HSE.out.mono ?_
        rintro e w3 ⟨rfl, hset⟩
        have HF := Lib.hid (show BaI w mb (putL N x) w3 from by
          obtain ⟨u3, hm3, ho3, hb3⟩ := hset
          exact ⟨⟨u3, hm3, ho3⟩, putL_up x HI.out.up, HBZ.out.trans (hb3.below HBZ.out.size (fun k hk => by
            rcases List.mem_cons.1 hk with rfl | hk
            · rw [HMB.out]; exact Nat.le_refl _
            · exact (HOZ.out.lt k (by simpa using hk)).1))⟩)
        clear hset HSE
        go_wp2_with fail
        exact ⟨⟨k + 1, hlt, by go_num, by rw [HSS.out]; exact HF⟩, by simp [intOf]; omega⟩
    · have hkl : k = L.length := by omega
      subst hkl
      rw [List.take_length] at HI
      go_wp2_with fail
      obtain ⟨vm, hm, hown⟩ := HI.out.mem
      obtain ⟨W1, hW1⟩ : ∃ W1, W1 = (wr.alloc (.cells #[.slice none 0 0] 62 (0, 0))).alloc (.cells #[.int .i64 0] 3 (0, 0)) := ⟨_, rfl⟩
      have hb1 : Below wr.heap.size wr W1 := by rw [hW1]; exact bl2 wr _ _
      have q0 : W1.heap[wr.heap.size]? = some (.cells #[.slice none 0 0] 62 (0, 0)) := by rw [hW1, Below.heap_alloc _ _ _ (by simp)]; exact heap_alloc_new wr _
      have q1 : W1.heap[wr.heap.size + 1]? = some (.cells #[.int .i64 0] 3 (0, 0)) := by
        have := heap_alloc_new (wr.alloc (.cells #[.slice none 0 0] 62)) (.cells #[.int .i64 0] 3)
        rw [World.size_alloc] at this
        rw [hW1]; exact this
      have hm1 : MemAt W1 mb vm false := ⟨(hb1.block mb hm.lt).trans hm.blk⟩
      have ho1 := own_below hown hb1
      have HBW := Lib.hid (HI.out.bel.trans (hb1.mono HI.out.bel.size))
      rw [← hW1]
      clear hW1 hb1 hm hown
      obtain ⟨ob, hob⟩ : ∃ ob, ob = wr.heap.size := ⟨_, rfl⟩
      have HOB := Lib.hid (show w.heap.size ≤ ob by rw [hob]; exact HI.out.bel.size)
      rw [← hob] at q0 q1 ⊢
      clear hob
      have HQ0 := Lib.hid q0
      have HQ1 := Lib.hid q1
      have HOW := Lib.hid ho1
      have HM1 := Lib.hid hm1
      refine (from_any W1 0 mb vm false (putAll [] L) hm1 (OwnI.rd ho1) (by have := HG.out.len; omega) (Nat.zero_le _) (Nat.zero_le _)).mono ?_
      clear q0 q1 hm1 ho1
      rintro e w4 ⟨Bn, rfl, hbx, hrd, hbut, hle⟩
      have HR := Lib.hid hrd
      have HBX := Lib.hid hbx
      have HBU := Lib.hid hbut
      clear hbx hrd hbut hle
      go_wp2_with fail
      obtain ⟨N, hN⟩ : ∃ N, N = putAll [] L := ⟨_, rfl⟩
      have HNE := Lib.hid hN
      rw [← hN] at HR HG HOW
      clear hN
      have hNl : N.length ≤ 64 := by have := HNE.out; have h9 := putAll_len (M := []) trivial L; rw [← this] at h9; simp at h9; omega
      have hown4 : OwnI w4 w.heap.size vm N := own_keep HOW.out (fun g cs hg e => (HBU.out.block g (heap_lt e) (by
        simp only [List.mem_singleton]
        rintro rfl
        have := e.symm.trans HM1.out.blk
        simp at this)).trans e)
      have HO4 := Lib.hid hown4
      refine (wpIn_wide (n := 5)).1 (wpIn_rangeFunc_ownH rfl (by omega) (gf := 94) (lb := #[.pointer (some ⟨Bn, 0, none⟩)]) rfl trivial (enters_of Tryz.func94 (by kernel_rfl) rfl)
        (from_stops 4 (by omega) Bn vm N (by omega) w4 HBX.out HR.out) rowK_t (rowK_b (fun k hk => (hown4.lt k hk).2)) (Below.refl _ _) (fun _ => rfl)
        (BaJ w4 w ob vm) (fun _ _ _ => False) (baJ_own w4 w ob vm (Nat.le_trans HBW.out.size HBU.out.size)) (fun _ _ _ _ _ hs _ _ => hs) ?init
        (fun x a' W => ∃ eb, W.heap[eb]? = some (.cells #[.string x.key, .string x.val, .bool x.gone] 99 (0, 0)) ∧ a' = { tmps := #[.slice a L.length c, undef, u2, u3, .pointer (some ⟨mb, 0, none⟩), undef, u6, u7, .pointer (some ⟨ob, 0, none⟩), .pointer (some ⟨ob + 1, 0, none⟩), undef, .pointer (some ⟨eb, 0, none⟩), .slice a L.length c, .int .i64 L.length, .bool (decide ((64 : Int) < L.length)), .pointer (some ⟨mb, 0, none⟩), .slice a L.length c, .int .i64 L.length, .int .i64 L.length, .bool false, u20, u21, u22, u23, u24, u25, u26, u27, u28, u29, u30, u31, u32, u33, u34, u35, u36, u37, u38, u39, u40, u41, u42, u43, u44, u45, u46, u47, u48, u49, u50, u51, u52, .pointer (some ⟨mb, 0, none⟩), .func (.func 94) #[] #[.pointer (some ⟨Bn, 0, none⟩)], .string x.key, entv x, undef, undef, undef, undef, undef, undef, undef, undef, undef, undef, undef, undef, undef, undef, undef, undef], defers := [] })
        (fun x a' => ?ax) ?assign ?body ?done ?stop)
      case init =>
        have hne0 : ob ≠ mb := fun e => by
          have h1 := HQ0.out
          rw [e] at h1
          have := h1.symm.trans HM1.out.blk
          simp at this
        have hne1 : ob + 1 ≠ mb := fun e => by
          have h1 := HQ1.out
          rw [e] at h1
          have := h1.symm.trans HM1.out.blk
          simp at this
        exact ⟨⟨_, (HBU.out.block ob (heap_lt HQ0.out) (by simpa using hne0)).trans HQ0.out, World.ownsRow_nil _ _ _ _, trivial⟩, ⟨0, (HBU.out.block (ob + 1) (heap_lt HQ1.out) (by simpa using hne1)).trans HQ1.out, fun _ => rfl⟩, fun k hk => own_block HO4.out hk, HBW.out.trans (HBU.out.below HBW.out.size (fun k hk => by rw [List.mem_singleton.1 hk, HMB.out]; exact Nat.le_refl _))⟩
      case ax =>
        rintro s A B row ⟨eb, h1, h2⟩ hg hr
        exact ⟨eb, keeps_cells hg (fun r e => (hr r e).2) h1, h2⟩
      case assign =>
        intro l pre x W K hi hK
        unfold entv at *
        gi_wp2_with fail
        exact hK _ _ ((KeepsOthers.alloc W _).from _) (fun k hk o ho => (heap_alloc_old W _ (heap_lt ho)).trans ho) ((baJ_own w4 w ob vm (Nat.le_trans HBW.out.size HBU.out.size)).alloc _ hi) ⟨W.heap.size, heap_alloc_new W _, rfl⟩
      case body =>
        rintro l pre x a' W hwl ⟨rl, hrl⟩ ⟨⟨u, hu, hrow, _⟩, ⟨z, hz, hzs⟩, hri, hbl⟩ ⟨eb, he, rfl⟩ hlt
        have c0 := hu.cell
        have c1 := hz.cell
        have fz1 := hz.frozen
        have e0 : W.cell? ⟨eb, 0, none⟩ = some (.string x.key) := by simp [World.cell?, he]
        have e1 : W.cell? ⟨eb, 1, none⟩ = some (.string x.val) := by simp [World.cell?, he]
        have e2 : W.cell? ⟨eb, 2, none⟩ = some (.bool x.gone) := by simp [World.cell?, he]
        obtain ⟨ua, uc, rfl⟩ := own_slice hrow
        have HU := Lib.hid hu
        have HZ := Lib.hid hz
        have HRW := Lib.hid hrow
        have HRI := Lib.hid hri
        have HBL := Lib.hid hbl
        have HZS := Lib.hid hzs
        have HE := Lib.hid he
        clear hu hz hrow hri hbl hzs he
        have hneB : eb ≠ ob + 1 := fun e => by
          have h1 := HE.out
          rw [e] at h1
          have := h1.symm.trans HZ.out
          simp at this
        have so : ∀ (v : Value) (k j : Nat), k ≠ ob + 1 → (W.setCell ⟨ob + 1, 0, none⟩ v).cell? ⟨k, j, none⟩ = W.cell? ⟨k, j, none⟩ := fun v k j hk => World.cell?_setCell_other W _ _ _ (fun e => hk (by cases e; rfl))
        have s0 : ∀ v, (W.setCell ⟨ob + 1, 0, none⟩ v).cell? ⟨eb, 0, none⟩ = some (.string x.key) := fun v => (so v eb 0 hneB).trans e0
        have s1 : ∀ v, (W.setCell ⟨ob + 1, 0, none⟩ v).cell? ⟨eb, 1, none⟩ = some (.string x.val) := fun v => (so v eb 1 hneB).trans e1
        have s2 : ∀ v, (W.setCell ⟨ob + 1, 0, none⟩ v).cell? ⟨eb, 2, none⟩ = some (.bool x.gone) := fun v => (so v eb 2 hneB).trans e2
        have s3 : ∀ v, (W.setCell ⟨ob + 1, 0, none⟩ v).cell? ⟨ob, 0, none⟩ = some (.slice ua pre.length uc) := fun v => (so v ob 0 (by omega)).trans c0
        clear so
        obtain ⟨i0, hi0, hz0, hz1, hz2⟩ := info_parts info_ent
        have hww : w.heap.size ≤ w4.heap.size := Nat.le_trans HBW.out.size HBU.out.size
        have hRZ : (W.setCell ⟨ob + 1, 0, none⟩ (.int .i64 (wrap64 (z + wrap64 ((x.key.size : Int) + (x.val.size : Int)))))).ownsRow w4.heap.size 99 3 (.slice ua pre.length uc) pre.length (ecells pre) :=
          ownsRow_setCell_other (a := ⟨ob + 1, 0, none⟩) HRW.out (own_type (k := ob + 1) (T' := 3) HRW.out HZ.out (by decide)) _
        have HRZ := Lib.hid hRZ
        have HSUM := Lib.hid (show sumE (pre ++ [x]) ≤ 1000000 → wrap64 (z + wrap64 ((x.key.size : Int) + (x.val.size : Int))) = sumE (pre ++ [x]) from fun hle => by
          have h5 : sumE (pre ++ [x]) = sumE pre + (x.key.size + x.val.size) := by rw [sumE_append]; simp [sumE, szE]
          have h6 := HZS.out (by omega)
          rw [IntWalk.wrap64_in ((x.key.size : Int) + (x.val.size : Int)) ⟨by omega, by omega⟩, IntWalk.wrap64_in _ ⟨by omega, by omega⟩]
          omega)
        have HWW := Lib.hid hww
        have hlt2 : pre.length < 64 := by omega
        have hWs : w4.heap.size ≤ W.heap.size := by have := heap_lt hrl; omega
        clear hrl hwl
        have HNW := Lib.hid (show ((W.setCell ⟨ob + 1, 0, none⟩ (.int .i64 (wrap64 (z + wrap64 ((x.key.size : Int) + (x.val.size : Int)))))).alloc (.cells #[.string x.key, .string x.val, .bool x.gone] 99)).heap[W.heap.size]? = some (.cells #[.string x.key, .string x.val, .bool x.gone] 99 (0, 0)) from by
          have := heap_alloc_new (W.setCell ⟨ob + 1, 0, none⟩ (.int .i64 (wrap64 (z + wrap64 ((x.key.size : Int) + (x.val.size : Int)))))) (.cells #[.string x.key, .string x.val, .bool x.gone] 99 (0, 0))
          rwa [show (W.setCell ⟨ob + 1, 0, none⟩ (.int .i64 (wrap64 (z + wrap64 ((x.key.size : Int) + (x.val.size : Int)))))).heap.size = W.heap.size by simp] at this)
        clear hRZ hww
        gi_wp2_with (gi_at_builtin; refine wpListIn_append_own _ rfl _ _ 62 rfl w4.heap.size 99 i0 (.agg #[.string ⟨#[]⟩, .string ⟨#[]⟩, .bool false]) 3 40 Tryz.underlying62 hi0 hz0 hz1 hz2 rfl (by decide) _ _ _ rfl (HRZ.out.alloc _) ⟨W.heap.size, 0, none⟩ 1 1 [.string x.key, .string x.val, .bool x.gone] rfl rfl (World.news_of_block (cs := #[.string x.key, .string x.val, .bool x.gone]) HNW.out) (by simp [Value.oneCell']) (by unfold maxLen; omega) (by omega) (by simp; omega) ?_; intro v' w1 hown' hgrow _; obtain ⟨g', cap', rfl⟩ := ownsRow_succ hown'; obtain ⟨hv1, hfin⟩ := baJ_step HRW.out HU.out HZ.out HRI.out HBL.out hgrow hown' HSUM.out HOB.out HWW.out; have hc1 := hv1.cell; have hf1 := hv1.frozen)
        exact hfin
      case done =>
        rintro D xs W hD rfl ⟨⟨u, hu, hrow, _⟩, ⟨z, hz, hzs⟩, hri, hbl⟩ hdf
        have c0 := hu.cell
        have c1 := hz.cell
        have hsm := HG.out.sum
        have hz2 := hzs (by omega)
        have HF := Lib.hid (show OwnE W w.heap.size u (putAll [] L) ∧ Below w.heap.size w W from ⟨by rw [← HNE.out]; exact own_base hrow (Nat.le_trans HBW.out.size HBU.out.size), hbl⟩)
        go_wp2_with fail
        refine ⟨by simp, .inl ⟨_, _, rfl, run_takeDeferred hdf, ?_⟩⟩
        refine ⟨.tuple #[u, .int .i64 0], by simp [results, Tryz.results21, go_sem], u, rfl, ?_, ?_⟩
        · refine own_keep HF.out.1 (fun g cs hg e => ?_)
          have hne : g ≠ D := fun h => by rw [h, hdf] at e; cases e
          exact (World.putObj_heap_other hne).trans e
        · have hww : w.heap.size ≤ w4.heap.size := Nat.le_trans HBW.out.size HBU.out.size
          exact HF.out.2.grown (grownBy_putObj_a W D (.deferred none)) HF.out.2.size (fun k e => by cases e; omega)
      case stop =>
        intro D c pre W _ _ h
        exact h.elim
end Go.Proofs.YtcohbfabcdjefaaGreatDoor
