/-
  The document's 'Apply': the walk.
-/
import Derived.Test.YtiiafpbonkcokaaGreatRp
import Derived.Test.YtiiafpbonkcokaaGreatRr
import Derived.Test.YtiiafpbonkcokaaGreatMj
import Derived.Deep.DeepCutAuto
namespace Go.Proofs.YtiiafpbonkcokaaGreat
open Go.RowKit Go.Maps

/-- the row of tables that the document's answer keeps -/
structure ReM (W0 wr : World) (v : Value) (cur : List Fi) : Prop where
  own : wr.ownsRow W0.heap.size 35 5 v cur.length (rcells cur)
  bel : Below W0.heap.size W0 wr
  ok : ∀ f ∈ cur, FiOk f
theorem ReM.below {W0 wr w' : World} {v : Value} {cur : List Fi} (h : ReM W0 wr v cur) (hb : Below wr.heap.size wr w') : ReM W0 w' v cur :=
  ⟨h.own.kept (row := none) ⟨hb.os, hb.tape, hb.output, hb.size, fun k hk _ => hb.block k hk⟩ (by cases hv : v.ownBlock <;> simp), h.bel.trans (hb.mono h.bel.size), h.ok⟩
theorem ReM.row {W0 wr : World} {v : Value} {cur : List Fi} (h : ReM W0 wr v cur) : FRow (W0.heap.size ≤ ·) wr v cur := FRow.own h.own h.ok
/-- a second row, made while the first lies below -/
theorem ReM.of {W0 WL w' : World} {v : Value} {cur : List Fi} (hb0 : Below W0.heap.size W0 WL) (h : ReM WL w' v cur) : ReM W0 w' v cur := ⟨own_base h.own hb0.size, hb0.trans (h.bel.mono hb0.size), h.ok⟩
theorem ReM.push {W0 wr w1 : World} {v v' : Value} {cur r : List Fi} (h : ReM W0 wr v cur) (hg : wr.grownBy w1 v.ownBlock) (ho : w1.ownsRow W0.heap.size 35 5 v' (cur.length + r.length) (rcells cur ++ rcells r)) (hr : ∀ f ∈ r, FiOk f) : ReM W0 w1 v' (cur ++ r) :=
  ⟨by rw [rcells_append, List.length_append]; exact ho, h.bel.grown hg h.bel.size (fun k hk => (h.own.lt k hk).1), fun f hf => (List.mem_append.1 hf).elim (h.ok f) (hr f)⟩
theorem ReM.nil (W0 : World) : ReM W0 W0 (.slice none 0 0) [] := ⟨World.ownsRow_nil _ _ _ _, Below.refl _ _, fun _ h => by cases h⟩
theorem ReM.shape {W0 wr : World} {v : Value} {cur : List Fi} (h : ReM W0 wr v cur) : (v = .slice none 0 0 ∧ cur = []) ∨ ∃ g c, v = .slice (some ⟨g, 0, none⟩) cur.length c ∧ cur.length ≤ c ∧ c ≤ 9223372036854775807 := by
  rcases h.own.2 with ⟨rfl, hn⟩ | ⟨g, cap, _, rfl, _, _, h1, h2, _⟩
  · exact .inl ⟨rfl, List.eq_nil_of_length_eq_zero hn⟩
  · exact .inr ⟨g, cap, rfl, h1, h2⟩
theorem row_one {w : World} {k : Nat} {T : TypeId} {x : Fi} (hx : FiOk x) (h : w.heap[k]? = some (.cells #[.int .i64 x.n, .int .i64 x.level, .int .i64 x.count, .string x.first, .string x.last] T (0, 0))) : FRow (fun _ => True) w (.slice (some ⟨k, 0, none⟩) 1 1) [x] := by
  refine ⟨⟨some ⟨k, 0, none⟩, 1, rfl, by simp, by omega, (fun e => by cases e), fun _ => ⟨k, 0, rfl, trivial, heap_lt h, fun i hi => ?_⟩⟩, fun f hf => by rw [List.mem_singleton.1 hf]; exact hx⟩
  obtain rfl : i = 0 := by simpa using hi
  exact ⟨by simp [World.cell?, h], by simp [World.cell?, h], by simp [World.cell?, h], by simp [World.cell?, h], by simp [World.cell?, h]⟩
theorem rbR {w w2 : World} (e : w2.heap[w.heap.size + 2]? = some (.cells #[.int .i64 0, .int .i64 0, .slice none 0 0] 38 (0, 0))) :
    w2.cell? ⟨w.heap.size + 1 + 1, 0, none⟩ = some (.int .i64 0) ∧ w2.cell? ⟨w.heap.size + 1 + 1, 1, none⟩ = some (.int .i64 0) ∧ w2.cell? ⟨w.heap.size + 1 + 1, 2, none⟩ = some (.slice none 0 0) ∧ (∀ o, w2.frozen? ⟨w.heap.size + 1 + 1, o, none⟩ = false) ∧ w.heap.size + 1 + 1 < w2.heap.size := by
  have e' : w2.heap[w.heap.size + 1 + 1]? = some (.cells #[.int .i64 0, .int .i64 0, .slice none 0 0] 38 (0, 0)) := e
  exact ⟨by simp [World.cell?, e'], by simp [World.cell?, e'], by simp [World.cell?, e'], fun o => by simp [World.frozen?, e'], heap_lt e'⟩
theorem ri_file : (Tryz.prog.info? 35).map (fun i => (i.zero, i.size, i.bytes)) = some (some (.agg #[.int .i64 0, .int .i64 0, .int .i64 0, .string ⟨#[]⟩, .string ⟨#[]⟩]), 5, 56) := by kernel_rfl

set_option maxRecDepth 100000 in
set_option maxHeartbeats 8000000 in
theorem rapply_any (S1 S2 S3 : Nat → Prop) (w : World) (s : St) (ed : Ed) (v vd va : Value) (h1 : FRow S1 w v s.fs) (h2 : IRow S2 w vd ed.drop) (h3 : FRow S3 w va ed.add)
    (b1 : s.fs.length ≤ 1000) (b2 : ed.drop.length ≤ 1000) (b3 : ed.add.length ≤ 1000) :
    Calls Tryz.prog 20 #[stv s.next s.log v, edv vd va ed.next ed.log] w (ApR w (applyS s ed)) := by
  rw [← ref_apply]
  obtain ⟨⟨a1, c1, rfl, p1, p2, p3, p4⟩, pk⟩ := h1
  obtain ⟨⟨a2, c2, rfl, q1, q2, q3, q4⟩⟩ := h2
  obtain ⟨⟨a3, c3, rfl, r1, r2, r3, r4⟩, rk⟩ := h3
  have H1 := Lib.hid (show FRow S1 w (.slice a1 s.fs.length c1) s.fs from ⟨⟨a1, c1, rfl, p1, p2, p3, p4⟩, pk⟩)
  have H2 := Lib.hid q4
  have H3 := Lib.hid (show FRow S3 w (.slice a3 ed.add.length c3) ed.add from ⟨⟨a3, c3, rfl, r1, r2, r3, r4⟩, rk⟩)
  have H34 := Lib.hid r4
  clear p3 p4 pk q3 q4 r3 r4 rk
  obtain ⟨next, log, L⟩ := s
  obtain ⟨drop, add, enext, elog⟩ := ed
  dsimp only at *
  generalize hap : refS ⟨next, log, L⟩ ⟨drop, add, enext, elog⟩ = ap
  have HA := Lib.hid hap
  clear hap
  unfold stv edv
  obtain ⟨W1, hW1⟩ : ∃ W1, W1 = ((w.alloc (.cells #[.int .i64 next, .int .i64 log, .slice a1 L.length c1] 38)).alloc (.cells #[.slice a2 drop.length c2, .slice a3 add.length c3, .int .i64 enext, .int .i64 elog] 58)).alloc (.cells #[.int .i64 0, .int .i64 0, .slice none 0 0] 38) := ⟨_, rfl⟩
  have HW1 := Lib.hid hW1.symm
  have HB1 := Lib.hid (show Below w.heap.size w W1 by rw [hW1]; exact bl3 _ _ _ _)
  have HCK := Lib.hid (fun (W : World) (hb : Below w.heap.size w W) => rright_any S1 W ⟨next, log, L⟩ _ (H1.out.below hb))
  have z1 : W1.heap.size = w.heap.size + 3 := by rw [hW1]; simp
  have hBK : W1.heap[w.heap.size]? = some (.cells #[.int .i64 next, .int .i64 log, .slice a1 L.length c1] 38 (0, 0)) ∧ W1.heap[w.heap.size + 1]? = some (.cells #[.slice a2 drop.length c2, .slice a3 add.length c3, .int .i64 enext, .int .i64 elog] 58 (0, 0)) ∧ W1.heap[w.heap.size + 2]? = some (.cells #[.int .i64 0, .int .i64 0, .slice none 0 0] 38 (0, 0)) := by
    rw [hW1]
    refine ⟨?_, ?_, ?_⟩
    · rw [Below.heap_alloc _ _ _ (by simp; omega), Below.heap_alloc _ _ _ (by simp)]; exact heap_alloc_new w _
    · rw [Below.heap_alloc _ _ _ (by simp)]; have := heap_alloc_new (w.alloc (.cells #[.int .i64 next, .int .i64 log, .slice a1 L.length c1] 38)) (.cells #[.slice a2 drop.length c2, .slice a3 add.length c3, .int .i64 enext, .int .i64 elog] 58); rwa [World.size_alloc] at this
    · have := heap_alloc_new ((w.alloc (.cells #[.int .i64 next, .int .i64 log, .slice a1 L.length c1] 38)).alloc (.cells #[.slice a2 drop.length c2, .slice a3 add.length c3, .int .i64 enext, .int .i64 elog] 58)) (.cells #[.int .i64 0, .int .i64 0, .slice none 0 0] 38); rwa [World.size_alloc, World.size_alloc] at this
  have HCE := Lib.hid (show ∀ w', Below W1.heap.size W1 w' → (w'.cell? ⟨w.heap.size, 0, none⟩ = some (.int .i64 next) ∧ w'.cell? ⟨w.heap.size, 1, none⟩ = some (.int .i64 log) ∧ w'.cell? ⟨w.heap.size, 2, none⟩ = some (.slice a1 L.length c1)) ∧ (w'.cell? ⟨w.heap.size + 1, 0, none⟩ = some (.slice a2 drop.length c2) ∧ w'.cell? ⟨w.heap.size + 1, 1, none⟩ = some (.slice a3 add.length c3) ∧ w'.cell? ⟨w.heap.size + 1, 2, none⟩ = some (.int .i64 enext) ∧ w'.cell? ⟨w.heap.size + 1, 3, none⟩ = some (.int .i64 elog)) ∧ (w'.cell? ⟨w.heap.size + 1 + 1, 0, none⟩ = some (.int .i64 0) ∧ w'.cell? ⟨w.heap.size + 1 + 1, 1, none⟩ = some (.int .i64 0) ∧ w'.cell? ⟨w.heap.size + 1 + 1, 2, none⟩ = some (.slice none 0 0) ∧ (∀ o, w'.frozen? ⟨w.heap.size + 1 + 1, o, none⟩ = false) ∧ w.heap.size + 1 + 1 < w'.heap.size) from fun w' X => by
    have e0 := (X.block _ (by omega)).trans hBK.1
    have e1 := (X.block _ (by omega)).trans hBK.2.1
    have e2 := (X.block _ (by omega)).trans hBK.2.2
    exact ⟨⟨by simp [World.cell?, e0], by simp [World.cell?, e0], by simp [World.cell?, e0]⟩, ⟨by simp [World.cell?, e1], by simp [World.cell?, e1], by simp [World.cell?, e1], by simp [World.cell?, e1]⟩, rbR e2⟩)
  have hz1 : w.heap.size + 1 + 1 < W1.heap.size := by omega
  have HZ := Lib.hid z1
  clear hW1 z1 hBK
  obtain ⟨⟨k0, k1, k2⟩, -, -⟩ := HCE.out W1 (Below.refl _ _)
  have HBAD := Lib.hid (show ∀ (w2 : World) (E : Int), Below W1.heap.size W1 w2 → ApR w (E, s0) (.returned (.tuple #[.agg #[.int .i64 0, .int .i64 0, .slice none 0 0], .int .i64 E])) (((w2.setCell ⟨w.heap.size + 1 + 1, 0, none⟩ (.int .i64 0)).setCell ⟨w.heap.size + 1 + 1, 1, none⟩ (.int .i64 0)).setCell ⟨w.heap.size + 1 + 1, 2, none⟩ (.slice none 0 0)) from fun w2 E X => apR_bad (HB1.out.trans (X.mono HB1.out.size)) E)
  cases hck : checkB ⟨next, log, L⟩ with
  | false =>
    obtain rfl : (1, s0) = ap := by rw [← HA.out, refS_bad hck]
    have HE := Lib.hid hck
    clear hck HA
    go_enter Tryz.func20, Tryz.ntmps20
    go_wp2_with fail
    rw [HW1.out]
    refine (HCK.out _ HB1.out).mono ?_
    rintro e w2 ⟨rfl, hb⟩
    rw [HE.out]
    have HB2 := Lib.hid hb
    obtain ⟨-, -, g1, g2, g3, g4, g5⟩ := HCE.out w2 hb
    clear hb k0 k1 k2
    go_wp2_with fail
    exact bodyPost_ret (v := .tuple #[.agg #[.int .i64 0, .int .i64 0, .slice none 0 0], .int .i64 1]) (by simp [results, Tryz.results20, go_sem, g1, g2, g3]) rfl (HBAD.out w2 1 HB2.out)
  | true =>
    have HCT := Lib.hid hck
    clear hck
    obtain ⟨i0, hi0, hz0, hz1', hz2⟩ := info_parts ri_file
    go_enter Tryz.func20, Tryz.ntmps20
    go_wp2_with fail
    rw [HW1.out]
    refine (HCK.out _ HB1.out).mono ?_
    rintro e w2 ⟨rfl, hb⟩
    rw [HCT.out]
    have HB2 := Lib.hid hb
    clear k0 k1 k2
    obtain ⟨⟨k0, k1, k2⟩, ⟨e0, e1, e2, e3⟩, g1, g2, g3, g4, g5⟩ := HCE.out w2 hb
    have HR2 := Lib.hid (H1.out.below (HB1.out.trans (hb.mono HB1.out.size)))
    have hz2' : W1.heap.size ≤ w2.heap.size := hb.size
    clear hb
    go_wp2_with (first
      | (at_builtin; refine wpList_append_frow rfl _ _ 36 rfl W1.heap.size 35 i0 Tryz.underlying36 hi0 hz0 hz1' hz2 (.slice none 0 0) 0 [] rfl (World.ownsRow_nil _ _ _ _) (S := S1) _ L rfl HR2.out (by omega) (by omega) ?_; intro v3 w3 hown3 hgrow3)
      | fail)
    have hm3 : ReM W1 w3 v3 L := ⟨by simpa using hown3, HB2.out.grown hgrow3 HB2.out.size (fun k hk => by cases hk), H1.out.ok⟩
    have HM3 := Lib.hid hm3
    clear hown3 hgrow3 hm3 k0 k1 k2 e0 e1 e2 e3 g1 g2 g3 g4 g5
    obtain ⟨wz, rfl⟩ : ∃ wz : World, wz = w3 := ⟨_, rfl⟩
    go_loopw [6, 7] (fun vl i wr => ∃ k : Nat, k ≤ drop.length ∧ i = .int .i64 k ∧ Hid (∃ cur, rdropL L (drop.take k) = some cur ∧ ReM W1 wr vl cur)) (fun _ i _ => drop.length - (intOf i).toNat)
    case atStart => exact ⟨0, by omega, rfl, L, rfl, HM3.out⟩
    case round =>
      obtain ⟨k, hk, rfl, HC⟩ := hrel
      obtain ⟨cur, hd, hM⟩ := HC.out
      clear HC
      obtain ⟨-, ⟨e0, e1, e2, e3⟩, g1, g2, g3, g4, g5⟩ := HCE.out wr hM.bel
      by_cases hlt : k < drop.length
      · obtain ⟨vb, vo, rfl, _, hvb, hvc⟩ := H2.out (by omega)
        have hsh := own_slice hM.own
        obtain ⟨la, lc, rfl⟩ := hsh
        have hcd := hM.row
        have HOK := Lib.hid hM.ok
        have HCL := Lib.hid (show cur.length ≤ 1000 from Nat.le_trans (rdropL_ok _ _ _ hd H1.out.ok).2 b1)
        have HDC := Lib.hid (show ∀ w', Below W1.heap.size W1 w' → w'.cell? ⟨vb, vo + k, none⟩ = some (.int .i64 drop[k]) from fun w' X => (World.cell?_of_block (w := w) ((HB1.out.trans (X.mono HB1.out.size)).block vb hvb)).trans (hvc k hlt))
        have HS := Lib.hid (show rdropL L (drop.take (k + 1)) = if (cur.filter (ne_n drop[k])).length = cur.length then none else some (cur.filter (ne_n drop[k])) by
          rw [List.take_succ_eq_append_getElem hlt, rdropL_snoc, hd]; rfl)
        have HD := Lib.hid (show rdropL L drop = (rdropL L (drop.take (k + 1) ++ drop.drop (k + 1))) by rw [List.take_append_drop])
        have HM := Lib.hid hM
        have hcl := HCL.out
        clear hd hM hvc
        generalize drop[k] = n at *
        obtain ⟨⟨la', lc', he, l1, l2, l3, l4⟩, -⟩ := hcd
        obtain ⟨rfl, rfl⟩ : la = la' ∧ lc = lc' := by injection he with e1 e2 e3; exact ⟨e1, e3⟩
        have HL4 := Lib.hid l4
        clear he l3 l4
        obtain ⟨wo, rfl⟩ : ∃ wo : World, wo = wr := ⟨_, rfl⟩
        go_wp2_with fail
        clear e0 e1 e2 e3 g1 g2 g3 g4 g5
        go_loopw [8, 9] (fun vm i wr => ∃ j : Nat, j ≤ cur.length ∧ i = .int .i64 j ∧ Hid (ReM wo wr vm ((cur.take j).filter (ne_n n)))) (fun _ i _ => cur.length - (intOf i).toNat)
        case atStart => exact ⟨0, by omega, rfl, ReM.nil _⟩
        case round =>
          obtain ⟨j, hj, rfl, HJ⟩ := hrel
          obtain ⟨ma, mc, rfl⟩ := own_slice HJ.out.own
          have hbj := HM.out.bel.trans (HJ.out.bel.mono HM.out.bel.size)
          have HBJ := Lib.hid hbj
          obtain ⟨-, ⟨e0, e1, e2, e3⟩, g1, g2, g3, g4, g5⟩ := HCE.out wr hbj
          have d0 := HDC.out wr hbj
          clear hbj
          by_cases hjl : j < cur.length
          · obtain ⟨lb, lo, rfl, _, hlb, hlc⟩ := HL4.out (by omega)
            have hfi : FiAt wr lb (lo + j * 5) cur[j] := (hlc j hjl).block (HJ.out.bel.block lb hlb)
            have HX := Lib.hid (HOK.out _ (List.getElem_mem hjl))
            have HT := Lib.hid (show (cur.take (j + 1)).filter (ne_n n) = (cur.take j).filter (ne_n n) ++ (if ne_n n cur[j] then [cur[j]] else []) by
              rw [List.take_succ_eq_append_getElem hjl, List.filter_append]
              congr 1
              cases hq : ne_n n cur[j] <;> simp [List.filter_cons, hq])
            have hml : ((cur.take j).filter (ne_n n)).length ≤ 1000 := by
              have := List.length_filter_le (ne_n n) (cur.take j)
              rw [List.length_take] at this
              omega
            clear hlc
            generalize (cur.take j).filter (ne_n n) = cm at *
            generalize cur[j] = x at *
            obtain ⟨p0, p1, p2, p3, p4⟩ := hfi
            by_cases hx : x.n = n
            · have hb : (x.n != n) = false := by simpa using hx
              have HN := Lib.hid (show (cur.take (j + 1)).filter (ne_n n) = cm by rw [HT.out, show ne_n n x = false from hb]; simp)
              clear hx
              go_wp2_with fail
              go_quiet (fail)
              generalize hwq : wr.drewN _ = wq
              have HF := Lib.hid (show ReM wo wq (.slice ma cm.length mc) cm from HJ.out.below (by rw [← hwq]; exact below_drewN (Below.refl _ _) _))
              clear hwq
              go_wp2_with fail
              exact ⟨⟨j + 1, by omega, by go_num, by rw [HN.out]; exact HF⟩, by simp [intOf]; omega⟩
            · have hb : (x.n != n) = true := by simpa using hx
              have HN := Lib.hid (show (cur.take (j + 1)).filter (ne_n n) = cm ++ [x] by rw [HT.out, show ne_n n x = true from hb]; simp)
              clear hx
              go_wp2_with fail
              go_quiet (fail)
              generalize hwq : wr.drewN _ = wq
              have hbq : Below wr.heap.size wr wq := by rw [← hwq]; exact below_drewN (Below.refl _ _) _
              have HF := Lib.hid (HJ.out.below hbq)
              have hlbq : lb < wr.heap.size := World.block_lt_of_cell? wr _ p0
              obtain ⟨p0, p1, p2, p3, p4⟩ : FiAt wq lb (lo + j * 5) x := (FiAt.mk p0 p1 p2 p3 p4).block (hbq.block lb hlbq)
              have hwz := HF.out.bel.size
              clear hbq hwq hlbq d0 e0 e1 e2 e3 g1 g2 g3 g4 g5
              go_wp2_with (first
                | (at_builtin; refine wpList_append_frow rfl _ _ 36 rfl wo.heap.size 35 i0 Tryz.underlying36 hi0 hz0 hz1' hz2 _ cm.length _ rfl (HF.out.own.alloc _) (S := fun _ => True) _ [x] rfl (row_one HX.out (heap_alloc_new wq _)) (by simp; omega) (by simp; omega) ?_; intro v4 w4 hown4 hgrow4)
                | fail)
              have HG := Lib.hid ((HF.out.below (bl1 wq _)).push hgrow4 hown4 (fun f hf => by rw [List.mem_singleton.1 hf]; exact HX.out))
              clear hown4 hgrow4
              go_wp2_with fail
              exact ⟨⟨j + 1, by omega, by go_num, by rw [HN.out]; exact HG⟩, by simp [intOf]; omega⟩
          · have ej : j = cur.length := by omega
            subst ej
            have hJ2 := HJ.out
            rw [List.take_length] at hJ2
            have HJ2 := Lib.hid hJ2
            clear hJ2 HJ
            simp only [List.take_length]
            have hml := List.length_filter_le (ne_n n) cur
            generalize cur.filter (ne_n n) = cm at *
            by_cases he : cm.length = cur.length
            · obtain rfl : (4, s0) = ap := by
                rw [← HA.out, refS_none HCT.out]
                show rdropL L drop = none
                rw [HD.out]
                exact rdropL_app_none _ _ _ (by rw [HS.out, if_pos he])
              have hb : ((cm.length : Int) == (cur.length : Int)) = true := by rw [he]; simp
              have HB := Lib.hid HBJ.out
              clear he
              go_wp2_with fail
              exact bodyPost_ret (v := .tuple #[.agg #[.int .i64 0, .int .i64 0, .slice none 0 0], .int .i64 4]) (by simp [results, Tryz.results20, go_sem, g1, g2, g3]) rfl (HBAD.out _ 4 HB.out)
            · have hb : ((cm.length : Int) == (cur.length : Int)) = false := by rw [beq_eq_false_iff_ne]; omega
              have HN := Lib.hid (show ∃ c2, rdropL L (drop.take (k + 1)) = some c2 ∧ ReM W1 wr (.slice ma cm.length mc) c2 from ⟨cm, by rw [HS.out, if_neg he], ReM.of HM.out.bel HJ2.out⟩)
              clear he
              go_wp2_with fail
              exact ⟨⟨k + 1, by omega, by go_num, HN⟩, by simp [intOf]; omega⟩
      · rw [List.take_of_length_le (by omega)] at hd
        have hdl := rdropL_ok _ _ _ hd H1.out.ok
        obtain ⟨M0, rfl⟩ : ∃ M0, M0 = cur := ⟨_, rfl⟩
        have HD := Lib.hid hd
        have HM0 := Lib.hid hM
        have HL0 := Lib.hid (show M0.length ≤ 1000 from Nat.le_trans hdl.2 b1)
        clear hd hM hdl
        obtain ⟨wo, rfl⟩ : ∃ wo : World, wo = wr := ⟨_, rfl⟩
        go_wp2_with fail
        clear e0 e1 e2 e3 g1 g2 g3 g4 g5
        go_loopw [6, 10] (fun vl i wr => ∃ k2 : Nat, k2 ≤ add.length ∧ i = .int .i64 k2 ∧ Hid (∃ cur, raddL M0 (add.take k2) = some cur ∧ ReM W1 wr vl cur)) (fun _ i _ => add.length - (intOf i).toNat)
        case atStart => exact ⟨0, by omega, rfl, M0, rfl, HM0.out⟩
        case round =>
          obtain ⟨k2, hk2, rfl, HC⟩ := hrel
          obtain ⟨cur, hd, hM⟩ := HC.out
          clear HC
          obtain ⟨⟨k0, k1, kk2⟩, ⟨e0, e1, e2, e3⟩, g1, g2, g3, g4, g5⟩ := HCE.out wr hM.bel
          obtain ⟨wo2, rfl⟩ : ∃ wo : World, wo = wr := ⟨_, rfl⟩
          by_cases hlt2 : k2 < add.length
          · obtain ⟨fb, fo, rfl, _, hfb, hfc⟩ := H34.out (by omega)
            have hfi : FiAt wo2 fb (fo + k2 * 5) add[k2] := (hfc k2 hlt2).block ((HB1.out.trans (hM.bel.mono HB1.out.size)).block fb hfb)
            have HS := Lib.hid (show raddL M0 (add.take (k2 + 1)) = rins add[k2] cur by rw [List.take_succ_eq_append_getElem hlt2, raddL_snoc, hd]; rfl)
            have HDD := Lib.hid (show raddL M0 add = raddL M0 (add.take (k2 + 1) ++ add.drop (k2 + 1)) by rw [List.take_append_drop])
            have HX := Lib.hid (H3.out.ok _ (List.getElem_mem hlt2))
            have hcl : cur.length ≤ 2000 := by
              have := (raddL_ok _ _ _ hd HM0.out.ok (fun f hf => H3.out.ok f (List.mem_of_mem_take hf))).2
              rw [List.length_take] at this
              have := HL0.out
              omega
            have HM := Lib.hid hM
            have hsh := own_slice hM.own
            obtain ⟨la, lc, rfl⟩ := hsh
            clear hd hM hfc
            generalize add[k2] = x at *
            obtain ⟨p0, p1, p2, p3, p4⟩ := hfi
            have hfbl : fb < wo2.heap.size := World.block_lt_of_cell? wo2 _ p0
            obtain ⟨wf, hwf⟩ : ∃ wf, wo2.alloc (.cells #[.int .i64 x.n, .int .i64 x.level, .int .i64 x.count, .string x.first, .string x.last] 35) = wf := ⟨_, rfl⟩
            have hbf : Below wo2.heap.size wo2 wf := by rw [← hwf]; exact bl1 _ _
            have hxx : wf.heap[wo2.heap.size]? = some (.cells #[.int .i64 x.n, .int .i64 x.level, .int .i64 x.count, .string x.first, .string x.last] 35 (0, 0)) := by rw [← hwf]; exact heap_alloc_new _ _
            have hxl := heap_lt hxx
            have HMF := Lib.hid (HM.out.below hbf)
            have HXC := Lib.hid (show ∀ w', Below wf.heap.size wf w' → FiAt w' wo2.heap.size 0 x from fun w' X => by
              have e := (X.block _ hxl).trans hxx
              exact ⟨by simp [World.cell?, e], by simp [World.cell?, e], by simp [World.cell?, e], by simp [World.cell?, e], by simp [World.cell?, e]⟩)
            have HWF := Lib.hid hwf
            obtain ⟨⟨la', lc', he, l1, l2, l3, l4⟩, -⟩ := HMF.out.row
            obtain ⟨rfl, rfl⟩ : la = la' ∧ lc = lc' := by injection he with e1 e2 e3; exact ⟨e1, e3⟩
            have HL4 := Lib.hid (show ∀ w', Below wf.heap.size wf w' → 0 < cur.length → ∃ b o, la = some ⟨b, o, none⟩ ∧ ∀ i (hi : i < cur.length), w'.cell? ⟨b, o + i * 5, none⟩ = some (.int .i64 cur[i].n) from fun w' X h => by
              obtain ⟨b, o, e, _, hlt, hc⟩ := l4 h
              exact ⟨b, o, e, fun i hi => ((hc i hi).block (X.block b hlt)).c0⟩)
            clear hwf hbf hxx he l3 l4
            go_wp2_with fail
            rw [HWF.out]
            clear p0 p1 p2 p3 p4 k0 k1 kk2 e0 e1 e2 e3 g1 g2 g3 g4 g5
            go_loopw [12] (fun i wr => ∃ j : Nat, j ≤ cur.length ∧ i = .int .i64 j ∧ Hid (∀ q (hq : q < cur.length), q < j → cur[q].n < x.n) ∧ Hid (Below wf.heap.size wf wr)) (fun i _ => cur.length - (intOf i).toNat)
            case atStart => exact ⟨0, by omega, rfl, fun q _ h => by omega, Below.refl _ _⟩
            case round =>
              obtain ⟨j, hj, rfl, HLT, HBX⟩ := hrel
              obtain ⟨m0, m1, m2, m3, m4⟩ := HXC.out wr HBX.out
              simp only [Nat.zero_add] at m0 m1 m2 m3 m4
              by_cases hjl : j < cur.length
              · obtain ⟨lb, lo, rfl, hlc⟩ := HL4.out wr HBX.out (by omega)
                have hc0 := hlc j hjl
                have HNX := Lib.hid (show cur[j].n < x.n → ∀ q (hq : q < cur.length), q < j + 1 → cur[q].n < x.n from fun h q hq hqj => by
                  by_cases e : q = j
                  · subst e; exact h
                  · exact HLT.out q hq (by omega))
                have HRI := Lib.hid (show ¬ cur[j].n < x.n → (cur[j].n = x.n → rins x cur = none) ∧ (cur[j].n ≠ x.n → rins x cur = some (cur.take j ++ (x :: cur.drop j))) from fun h => by
                  obtain ⟨r1, r2⟩ := rins_at (f := x) (L := cur) (k := j) hj HLT.out (fun _ => h)
                  exact ⟨fun e => r1 hjl e, fun e => r2 (fun _ => e)⟩)
                clear hlc
                generalize cur[j].n = yn at *
                by_cases hc : yn < x.n
                · have HN := Lib.hid (HNX.out hc)
                  have hcb : decide (yn < x.n) = true := decide_eq_true hc
                  go_wp2_with fail
                  go_quiet (fail)
                  generalize hwq : wr.drewN _ = wq
                  have HB2 := Lib.hid (HBX.out.trans (show Below wf.heap.size wr wq by rw [← hwq]; exact below_drewN (Below.refl _ _) _))
                  clear hwq
                  go_wp2_with fail
                  exact ⟨⟨j + 1, by omega, by go_num, HN, HB2⟩, by simp [intOf]; omega⟩

                · have hcb : decide (yn < x.n) = false := decide_eq_false hc
                  obtain ⟨hr1, hr2⟩ := HRI.out hc
                  by_cases he : yn = x.n
                  · have heb : (yn == x.n) = true := by simpa using he
                    obtain rfl : (5, s0) = ap := by
                      rw [← HA.out, refS_there HCT.out HD.out]
                      show raddL M0 add = none
                      rw [HDD.out]
                      exact raddL_app_none _ _ _ (by rw [HS.out, hr1 he])
                    clear he hr1 hr2 hc
                    go_wp2_with fail
                    go_quiet (fail)
                    generalize hwq : wr.drewN _ = wq
                    have hbq : Below wr.heap.size wr wq := by rw [← hwq]; exact below_drewN (Below.refl _ _) _
                    have HBQ := Lib.hid (HBX.out.trans (hbq.mono HBX.out.size))
                    have hcq : wq.cell? ⟨lb, lo + j * 5, none⟩ = some (.int .i64 yn) := by rw [← hwq]; simpa using hc0
                    clear m0 m1 m2 m3 m4 hc0 hbq hwq
                    obtain ⟨m0, m1, m2, m3, m4⟩ := HXC.out wq HBQ.out
                    simp only [Nat.zero_add] at m0 m1 m2 m3 m4
                    go_wp2_with fail
                    go_quiet (fail)
                    generalize hwq : wq.drewN _ = wq2
                    have HB2 := Lib.hid (HMF.out.bel.trans ((HBQ.out.trans (show Below wf.heap.size wq wq2 by rw [← hwq]; exact (below_drewN (Below.refl _ _) _).mono HBQ.out.size)).mono HMF.out.bel.size))
                    clear hwq
                    obtain ⟨-, -, g1, g2, g3, g4, g5⟩ := HCE.out wq2 HB2.out
                    go_wp2_with fail
                    exact bodyPost_ret (v := .tuple #[.agg #[.int .i64 0, .int .i64 0, .slice none 0 0], .int .i64 5]) (by simp [results, Tryz.results20, go_sem, g1, g2, g3]) rfl (HBAD.out _ 5 HB2.out)
                  · have heb : (yn == x.n) = false := by simpa using he
                    have HINS := Lib.hid (hr2 he)
                    clear he hr1 hr2 hc
                    go_wp2_with fail
                    go_quiet (fail)
                    generalize hwq : wr.drewN _ = wq1
                    have hbq : Below wr.heap.size wr wq1 := by rw [← hwq]; exact below_drewN (Below.refl _ _) _
                    have HBQ1 := Lib.hid (HBX.out.trans (hbq.mono HBX.out.size))
                    have hcq : wq1.cell? ⟨lb, lo + j * 5, none⟩ = some (.int .i64 yn) := by rw [← hwq]; simpa using hc0
                    clear m0 m1 m2 m3 m4 hc0 hbq hwq
                    obtain ⟨m0, m1, m2, m3, m4⟩ := HXC.out wq1 HBQ1.out
                    simp only [Nat.zero_add] at m0 m1 m2 m3 m4
                    go_wp2_with fail
                    go_quiet (fail)
                    generalize hwq : wq1.drewN _ = wq
                    have HBQ := Lib.hid (HBQ1.out.trans (show Below wf.heap.size wq1 wq by rw [← hwq]; exact (below_drewN (Below.refl _ _) _).mono HBQ1.out.size))
                    clear hwq m0 m1 m2 m3 m4 hcq
                    have hlo : lo = 0 := by
                      rcases HMF.out.shape with ⟨e, _⟩ | ⟨g, c, e, _⟩
                      · injection e with e1; cases e1
                      · injection e with e1; cases e1; rfl
                    subst hlo
                    have HXQ := HXC.out wq HBQ.out
                    obtain ⟨m0, m1, m2, m3, m4⟩ := HXQ
                    simp only [Nat.zero_add] at m0 m1 m2 m3 m4
                    have HROW := Lib.hid (HMF.out.row.below HBQ.out)
                    have HFR := Lib.hid (HROW.out.front j hj)
                    have hj0 : (0 : Int) ≤ (j : Int) := by omega
                    have hjc : (j : Int) ≤ (lc : Int) := by omega
                    have hjc2 : j ≤ lc := by omega
                    have hjn : (j : Int) ≤ (cur.length : Int) := by omega
                    go_upto_region 28 with (first
                      | (at_builtin; refine wpList_append_frow rfl _ _ 36 rfl wq.heap.size 35 i0 Tryz.underlying36 hi0 hz0 hz1' hz2 (.slice none 0 0) 0 [] rfl (World.ownsRow_nil _ _ _ _) (S := (W1.heap.size ≤ ·)) _ (cur.take j) rfl HFR.out (by first | (simp; done) | (simp; omega) | omega) (Nat.le_refl _) ?_; intro v4 w4 hown4 hgrow4)
                      | fail)
                    have HG4 := Lib.hid (show ReM wq w4 v4 (cur.take j) from (ReM.nil wq).push hgrow4 hown4 (fun f hf => HMF.out.ok f (List.mem_of_mem_take hf)))
                    obtain ⟨ma, mc, rfl⟩ := own_slice HG4.out.own
                    have HB4 := Lib.hid (HBQ.out.trans (HG4.out.bel.mono HBQ.out.size))
                    clear hown4 hgrow4 m0 m1 m2 m3 m4
                    obtain ⟨m0, m1, m2, m3, m4⟩ := HXC.out w4 HB4.out
                    simp only [Nat.zero_add] at m0 m1 m2 m3 m4
                    have hw4 := HG4.out.bel.size
                    go_upto_region 29 with (first
                      | (at_builtin; refine wpList_append_frow rfl _ _ 36 rfl wq.heap.size 35 i0 Tryz.underlying36 hi0 hz0 hz1' hz2 _ _ _ rfl (HG4.out.own.alloc _) (S := fun _ => True) _ [x] rfl (row_one HX.out (heap_alloc_new w4 _)) (by first | (simp; done) | (simp; omega) | omega) (by first | (simp; done) | (simp; omega) | omega) ?_; intro v5 w5 hown5 hgrow5)
                      | fail)
                    have HG5 := Lib.hid ((HG4.out.below (bl1 w4 _)).push hgrow5 hown5 (fun f hf => by rw [List.mem_singleton.1 hf]; exact HX.out))
                    obtain ⟨na, nc, rfl⟩ := own_slice HG5.out.own
                    have HB5 := Lib.hid (HBQ.out.trans (HG5.out.bel.mono HBQ.out.size))
                    have hw5 := HG5.out.bel.size
                    clear hown5 hgrow5 m0 m1 m2 m3 m4
                    have HBK := Lib.hid (fun A hA => (HMF.out.row.below HB5.out).back j hj A hA)
                    go_wp2_with (first
                      | (at_builtin; refine wpList_append_frow rfl _ _ 36 rfl wq.heap.size 35 i0 Tryz.underlying36 hi0 hz0 hz1' hz2 _ _ _ rfl HG5.out.own (S := (W1.heap.size ≤ ·)) _ (cur.drop j) rfl (HBK.out _ (by first | (simp; done) | (rw [if_neg (by omega)]; simp))) (by first | (simp; done) | (simp; omega) | omega) (by omega) ?_; intro v6 w6 hown6 hgrow6)
                      | fail)
                    have HG6 := Lib.hid (HG5.out.push hgrow6 hown6 (fun f hf => HMF.out.ok f (List.mem_of_mem_drop hf)))
                    clear hown6 hgrow6
                    have HFIN := Lib.hid (show ∃ c, raddL M0 (add.take (k2 + 1)) = some c ∧ ReM W1 w6 v6 c from ⟨_, by rw [HS.out, HINS.out], by have := ReM.of (HMF.out.bel.trans (HBQ.out.mono HMF.out.bel.size)) HG6.out; simpa using this⟩)
                    go_wp2_with fail
                    exact ⟨⟨k2 + 1, by omega, by go_num, HFIN⟩, by simp [intOf]; omega⟩
              · have HRI := Lib.hid (show rins x cur = some (cur.take j ++ (x :: cur.drop j)) from (rins_at (f := x) (L := cur) (k := j) hj HLT.out (fun h => absurd h hjl)).2 (fun h => absurd h hjl))
                rcases HMF.out.shape with ⟨esh, rfl⟩ | ⟨g, gc, esh, hgl, hgc⟩
                · obtain ⟨rfl, rfl⟩ : la = none ∧ lc = 0 := by injection esh with e1 e2 e3; exact ⟨e1, e3⟩
                  obtain rfl : j = 0 := by simpa using hj
                  have HINS := Lib.hid (show rins x [] = some [x] from rfl)
                  clear esh
                  go_wp2_with fail
                  go_quiet (fail)
                  generalize hwq : wr.drewN _ = wq1
                  have hbq : Below wr.heap.size wr wq1 := by rw [← hwq]; exact below_drewN (Below.refl _ _) _
                  have HBQ1 := Lib.hid (HBX.out.trans (hbq.mono HBX.out.size))
                  clear m0 m1 m2 m3 m4 hbq hwq
                  obtain ⟨m0, m1, m2, m3, m4⟩ := HXC.out wq1 HBQ1.out
                  simp only [Nat.zero_add] at m0 m1 m2 m3 m4
                  go_wp2_with fail
                  go_quiet (fail)
                  generalize hwq : wq1.drewN _ = wq
                  have HBQ := Lib.hid (HBQ1.out.trans (show Below wf.heap.size wq1 wq by rw [← hwq]; exact (below_drewN (Below.refl _ _) _).mono HBQ1.out.size))
                  clear hwq m0 m1 m2 m3 m4
                  have HXQ := HXC.out wq HBQ.out
                  obtain ⟨m0, m1, m2, m3, m4⟩ := HXQ
                  simp only [Nat.zero_add] at m0 m1 m2 m3 m4
                  have HFR := Lib.hid (FRow.nil (fun _ => True) wq)
                  go_upto_region 28 with (first
                    | (at_builtin; refine wpList_append_frow rfl _ _ 36 rfl wq.heap.size 35 i0 Tryz.underlying36 hi0 hz0 hz1' hz2 (.slice none 0 0) 0 [] rfl (World.ownsRow_nil _ _ _ _) (S := fun _ => True) _ [] rfl HFR.out (by first | (simp; done) | (simp; omega) | omega) (Nat.le_refl _) ?_; intro v4 w4 hown4 hgrow4)
                    | fail)
                  have HG4 := Lib.hid (show ReM wq w4 v4 [] from (ReM.nil wq).push hgrow4 hown4 (fun _ h => by cases h))
                  obtain ⟨ma, mc, rfl⟩ := own_slice HG4.out.own
                  have HB4 := Lib.hid (HBQ.out.trans (HG4.out.bel.mono HBQ.out.size))
                  clear hown4 hgrow4 m0 m1 m2 m3 m4
                  obtain ⟨m0, m1, m2, m3, m4⟩ := HXC.out w4 HB4.out
                  simp only [Nat.zero_add] at m0 m1 m2 m3 m4
                  have hw4 := HG4.out.bel.size
                  go_upto_region 29 with (first
                    | (at_builtin; refine wpList_append_frow rfl _ _ 36 rfl wq.heap.size 35 i0 Tryz.underlying36 hi0 hz0 hz1' hz2 _ _ _ rfl (HG4.out.own.alloc _) (S := fun _ => True) _ [x] rfl (row_one HX.out (heap_alloc_new w4 _)) (by first | (simp; done) | (simp; omega) | omega) (by first | (simp; done) | (simp; omega) | omega) ?_; intro v5 w5 hown5 hgrow5)
                    | fail)
                  have HG5 := Lib.hid ((HG4.out.below (bl1 w4 _)).push hgrow5 hown5 (fun f hf => by rw [List.mem_singleton.1 hf]; exact HX.out))
                  obtain ⟨na, nc, rfl⟩ := own_slice HG5.out.own
                  have HB5 := Lib.hid (HBQ.out.trans (HG5.out.bel.mono HBQ.out.size))
                  have hw5 := HG5.out.bel.size
                  clear hown5 hgrow5 m0 m1 m2 m3 m4
                  have HBK := Lib.hid (FRow.nil (fun _ => True) w5)
                  go_wp2_with (first
                    | (at_builtin; refine wpList_append_frow rfl _ _ 36 rfl wq.heap.size 35 i0 Tryz.underlying36 hi0 hz0 hz1' hz2 _ _ _ rfl HG5.out.own (S := fun _ => True) _ [] rfl HBK.out (by simp) (by omega) ?_; intro v6 w6 hown6 hgrow6)
                    | fail)
                  have HG6 := Lib.hid (HG5.out.push hgrow6 hown6 (fun _ h => by cases h))
                  clear hown6 hgrow6
                  have HFIN := Lib.hid (show ∃ c, raddL M0 (add.take (k2 + 1)) = some c ∧ ReM W1 w6 v6 c from ⟨[x], by rw [HS.out]; exact HINS.out, ReM.of (HMF.out.bel.trans (HBQ.out.mono HMF.out.bel.size)) HG6.out⟩)
                  go_wp2_with fail
                  exact ⟨⟨k2 + 1, by omega, by go_num, HFIN⟩, by simp [intOf]; omega⟩
                · obtain ⟨rfl, rfl⟩ : la = some ⟨g, 0, none⟩ ∧ lc = gc := by injection esh with e1 e2 e3; exact ⟨e1, e3⟩
                  have HINS := HRI
                  have hjf : decide (j < cur.length) = false := decide_eq_false hjl
                  clear esh
                  go_wp2_with fail
                  go_quiet (fail)
                  generalize hwq : wr.drewN _ = wq1
                  have hbq : Below wr.heap.size wr wq1 := by rw [← hwq]; exact below_drewN (Below.refl _ _) _
                  have HBQ1 := Lib.hid (HBX.out.trans (hbq.mono HBX.out.size))
                  clear m0 m1 m2 m3 m4 hbq hwq
                  obtain ⟨m0, m1, m2, m3, m4⟩ := HXC.out wq1 HBQ1.out
                  simp only [Nat.zero_add] at m0 m1 m2 m3 m4
                  go_wp2_with fail
                  go_quiet (fail)
                  generalize hwq : wq1.drewN _ = wq
                  have HBQ := Lib.hid (HBQ1.out.trans (show Below wf.heap.size wq1 wq by rw [← hwq]; exact (below_drewN (Below.refl _ _) _).mono HBQ1.out.size))
                  clear hwq m0 m1 m2 m3 m4
                  have HXQ := HXC.out wq HBQ.out
                  obtain ⟨m0, m1, m2, m3, m4⟩ := HXQ
                  simp only [Nat.zero_add] at m0 m1 m2 m3 m4
                  have HROW := Lib.hid (HMF.out.row.below HBQ.out)
                  have HFR := Lib.hid (HROW.out.front j hj)
                  have hj0 : (0 : Int) ≤ (j : Int) := by omega
                  have hjc : (j : Int) ≤ (lc : Int) := by omega
                  have hjc2 : j ≤ lc := by omega
                  have hjn : (j : Int) ≤ (cur.length : Int) := by omega
                  go_upto_region 28 with (first
                    | (at_builtin; refine wpList_append_frow rfl _ _ 36 rfl wq.heap.size 35 i0 Tryz.underlying36 hi0 hz0 hz1' hz2 (.slice none 0 0) 0 [] rfl (World.ownsRow_nil _ _ _ _) (S := (W1.heap.size ≤ ·)) _ (cur.take j) rfl HFR.out (by first | (simp; done) | (simp; omega) | omega) (Nat.le_refl _) ?_; intro v4 w4 hown4 hgrow4)
                    | fail)
                  have HG4 := Lib.hid (show ReM wq w4 v4 (cur.take j) from (ReM.nil wq).push hgrow4 hown4 (fun f hf => HMF.out.ok f (List.mem_of_mem_take hf)))
                  obtain ⟨ma, mc, rfl⟩ := own_slice HG4.out.own
                  have HB4 := Lib.hid (HBQ.out.trans (HG4.out.bel.mono HBQ.out.size))
                  clear hown4 hgrow4 m0 m1 m2 m3 m4
                  obtain ⟨m0, m1, m2, m3, m4⟩ := HXC.out w4 HB4.out
                  simp only [Nat.zero_add] at m0 m1 m2 m3 m4
                  have hw4 := HG4.out.bel.size
                  go_upto_region 29 with (first
                    | (at_builtin; refine wpList_append_frow rfl _ _ 36 rfl wq.heap.size 35 i0 Tryz.underlying36 hi0 hz0 hz1' hz2 _ _ _ rfl (HG4.out.own.alloc _) (S := fun _ => True) _ [x] rfl (row_one HX.out (heap_alloc_new w4 _)) (by first | (simp; done) | (simp; omega) | omega) (by first | (simp; done) | (simp; omega) | omega) ?_; intro v5 w5 hown5 hgrow5)
                    | fail)
                  have HG5 := Lib.hid ((HG4.out.below (bl1 w4 _)).push hgrow5 hown5 (fun f hf => by rw [List.mem_singleton.1 hf]; exact HX.out))
                  obtain ⟨na, nc, rfl⟩ := own_slice HG5.out.own
                  have HB5 := Lib.hid (HBQ.out.trans (HG5.out.bel.mono HBQ.out.size))
                  have hw5 := HG5.out.bel.size
                  clear hown5 hgrow5 m0 m1 m2 m3 m4
                  have HBK := Lib.hid (fun A hA => (HMF.out.row.below HB5.out).back j hj A hA)
                  go_wp2_with (first
                    | (at_builtin; refine wpList_append_frow rfl _ _ 36 rfl wq.heap.size 35 i0 Tryz.underlying36 hi0 hz0 hz1' hz2 _ _ _ rfl HG5.out.own (S := (W1.heap.size ≤ ·)) _ (cur.drop j) rfl (HBK.out _ (by first | (simp; done) | (rw [if_neg (by omega)]; simp))) (by first | (simp; done) | (simp; omega) | omega) (by omega) ?_; intro v6 w6 hown6 hgrow6)
                    | fail)
                  have HG6 := Lib.hid (HG5.out.push hgrow6 hown6 (fun f hf => HMF.out.ok f (List.mem_of_mem_drop hf)))
                  clear hown6 hgrow6
                  have HFIN := Lib.hid (show ∃ c, raddL M0 (add.take (k2 + 1)) = some c ∧ ReM W1 w6 v6 c from ⟨_, by rw [HS.out, HINS.out], by have := ReM.of (HMF.out.bel.trans (HBQ.out.mono HMF.out.bel.size)) HG6.out; simpa using this⟩)
                  go_wp2_with fail
                  exact ⟨⟨k2 + 1, by omega, by go_num, HFIN⟩, by simp [intOf]; omega⟩
          · rw [List.take_of_length_le (by omega)] at hd
            have HD2 := Lib.hid hd
            have hcl : cur.length ≤ 2000 := by
              have := (raddL_ok _ _ _ hd HM0.out.ok H3.out.ok).2
              have := HL0.out
              omega
            have HM := Lib.hid hM
            obtain ⟨la, lc, rfl⟩ := own_slice hM.own
            clear hd hM
            have HTAIL := Lib.hid (show ∀ (wt : World), ReM W1 wt (.slice la cur.length lc) cur → FRow (w.heap.size ≤ ·) wt (.slice la cur.length lc) cur from fun wt h => h.row.wider (fun b hb hlt => Nat.le_trans HB1.out.size hb))
            by_cases hnx : next < enext <;> by_cases hlg : log < elog
            · have hmx : max next enext = enext := by omega
              have hml : max log elog = elog := by omega
              have HBT := Lib.hid (bl1 wo2 (.cells #[.int .i64 enext, .int .i64 elog, .slice la cur.length lc] 38))
              have HRT := Lib.hid (rright_any (W1.heap.size ≤ ·) _ ⟨enext, elog, cur⟩ _ (HM.out.row.below HBT.out))
              have HMT := Lib.hid (HM.out.below HBT.out)
              have HTB := Lib.hid (heap_alloc_new wo2 (.cells #[.int .i64 enext, .int .i64 elog, .slice la cur.length lc] 38))
              have HCEQ := Lib.hid (show checkB ⟨max next enext, max log elog, cur⟩ = checkB ⟨enext, elog, cur⟩ by rw [hmx, hml])
              have HFINT := Lib.hid (show ∀ w', FRow (w.heap.size ≤ ·) w' (.slice la cur.length lc) cur → Below w.heap.size w w' → ApR w (0, ⟨max next enext, max log elog, cur⟩) (.returned (.tuple #[.agg #[.int .i64 enext, .int .i64 elog, .slice la cur.length lc], .int .i64 0])) w' from fun w' h1 h2 => ⟨_, by rw [hmx, hml], h1, h2⟩)
              obtain ⟨⟨k0, k1, kk2⟩, ⟨e0, e1, e2, e3⟩, g1, g2, g3, g4, g5⟩ := HCE.out wo2 HM.out.bel
              have hlw : w.heap.size + 1 < wo2.heap.size := by omega
              have hlx : w.heap.size < wo2.heap.size := by omega
              clear g1 g2 g3 g4 hmx hml
              cases hc : checkB ⟨enext, elog, cur⟩ with
              | false =>
                obtain rfl : (1, s0) = ap := by
                  have hcc := HCEQ.out.trans hc
                  rw [← HA.out, refS_wrong (s := ⟨next, log, L⟩) (e := ⟨drop, add, enext, elog⟩) HCT.out HD.out HD2.out hcc]
                have HCC := Lib.hid hc
                clear hc
                go_wp2_with fail
                refine HRT.out.mono ?_
                rintro e w7 ⟨rfl, hb7⟩
                rw [HCC.out]
                have HM7 := Lib.hid (HMT.out.below hb7)
                clear hb7 k0 k1 kk2 e0 e1 e2 e3
                obtain ⟨-, -, g1, g2, g3, g4, g5⟩ := HCE.out w7 HM7.out.bel
                go_wp2_with fail
                exact bodyPost_ret (v := .tuple #[.agg #[.int .i64 0, .int .i64 0, .slice none 0 0], .int .i64 1]) (by simp [results, Tryz.results20, go_sem, g1, g2, g3]) rfl (HBAD.out _ 1 HM7.out.bel)
              | true =>
                obtain rfl : (0, ⟨max next enext, max log elog, cur⟩) = ap := by
                  have hcc := HCEQ.out.trans hc
                  rw [← HA.out, refS_ok (s := ⟨next, log, L⟩) (e := ⟨drop, add, enext, elog⟩) HCT.out HD.out HD2.out hcc]
                have HCC := Lib.hid hc
                clear hc
                go_wp2_with fail
                refine HRT.out.mono ?_
                rintro e w7 ⟨rfl, hb7⟩
                rw [HCC.out]
                have HM7 := Lib.hid (HMT.out.below hb7)
                have e7 := (hb7.block _ (heap_lt HTB.out)).trans HTB.out
                have t0 : w7.cell? ⟨wo2.heap.size, 0, none⟩ = some (.int .i64 enext) := by simp [World.cell?, e7]
                have t1 : w7.cell? ⟨wo2.heap.size, 1, none⟩ = some (.int .i64 elog) := by simp [World.cell?, e7]
                have t2 : w7.cell? ⟨wo2.heap.size, 2, none⟩ = some (.slice la cur.length lc) := by simp [World.cell?, e7]
                clear hb7 e7 k0 k1 kk2 e0 e1 e2 e3
                obtain ⟨-, -, g1, g2, g3, g4, g5⟩ := HCE.out w7 HM7.out.bel
                go_wp2_with fail
                refine bodyPost_ret (v := .tuple #[.agg #[.int .i64 enext, .int .i64 elog, .slice la cur.length lc], .int .i64 0]) (by simp [results, Tryz.results20, go_sem, g1, g2, g3]) rfl (HFINT.out _ (HM7.out.row.keep (fun b hb hlt => ?_) (by simp) (fun b hb _ => Nat.le_trans HB1.out.size hb)) (set3_below (HB1.out.trans (HM7.out.bel.mono HB1.out.size)) _ _ _))
                have hne : b ≠ w.heap.size + 1 + 1 := by omega
                rw [Below.heap_setCell _ _ _ _ hne, Below.heap_setCell _ _ _ _ hne, Below.heap_setCell _ _ _ _ hne]
            · have hmx : max next enext = enext := by omega
              have hml : max log elog = log := by omega
              have HBT := Lib.hid (bl1 wo2 (.cells #[.int .i64 enext, .int .i64 log, .slice la cur.length lc] 38))
              have HRT := Lib.hid (rright_any (W1.heap.size ≤ ·) _ ⟨enext, log, cur⟩ _ (HM.out.row.below HBT.out))
              have HMT := Lib.hid (HM.out.below HBT.out)
              have HTB := Lib.hid (heap_alloc_new wo2 (.cells #[.int .i64 enext, .int .i64 log, .slice la cur.length lc] 38))
              have HCEQ := Lib.hid (show checkB ⟨max next enext, max log elog, cur⟩ = checkB ⟨enext, log, cur⟩ by rw [hmx, hml])
              have HFINT := Lib.hid (show ∀ w', FRow (w.heap.size ≤ ·) w' (.slice la cur.length lc) cur → Below w.heap.size w w' → ApR w (0, ⟨max next enext, max log elog, cur⟩) (.returned (.tuple #[.agg #[.int .i64 enext, .int .i64 log, .slice la cur.length lc], .int .i64 0])) w' from fun w' h1 h2 => ⟨_, by rw [hmx, hml], h1, h2⟩)
              obtain ⟨⟨k0, k1, kk2⟩, ⟨e0, e1, e2, e3⟩, g1, g2, g3, g4, g5⟩ := HCE.out wo2 HM.out.bel
              have hlw : w.heap.size + 1 < wo2.heap.size := by omega
              have hlx : w.heap.size < wo2.heap.size := by omega
              clear g1 g2 g3 g4 hmx hml
              cases hc : checkB ⟨enext, log, cur⟩ with
              | false =>
                obtain rfl : (1, s0) = ap := by
                  have hcc := HCEQ.out.trans hc
                  rw [← HA.out, refS_wrong (s := ⟨next, log, L⟩) (e := ⟨drop, add, enext, elog⟩) HCT.out HD.out HD2.out hcc]
                have HCC := Lib.hid hc
                clear hc
                go_wp2_with fail
                refine HRT.out.mono ?_
                rintro e w7 ⟨rfl, hb7⟩
                rw [HCC.out]
                have HM7 := Lib.hid (HMT.out.below hb7)
                clear hb7 k0 k1 kk2 e0 e1 e2 e3
                obtain ⟨-, -, g1, g2, g3, g4, g5⟩ := HCE.out w7 HM7.out.bel
                go_wp2_with fail
                exact bodyPost_ret (v := .tuple #[.agg #[.int .i64 0, .int .i64 0, .slice none 0 0], .int .i64 1]) (by simp [results, Tryz.results20, go_sem, g1, g2, g3]) rfl (HBAD.out _ 1 HM7.out.bel)
              | true =>
                obtain rfl : (0, ⟨max next enext, max log elog, cur⟩) = ap := by
                  have hcc := HCEQ.out.trans hc
                  rw [← HA.out, refS_ok (s := ⟨next, log, L⟩) (e := ⟨drop, add, enext, elog⟩) HCT.out HD.out HD2.out hcc]
                have HCC := Lib.hid hc
                clear hc
                go_wp2_with fail
                refine HRT.out.mono ?_
                rintro e w7 ⟨rfl, hb7⟩
                rw [HCC.out]
                have HM7 := Lib.hid (HMT.out.below hb7)
                have e7 := (hb7.block _ (heap_lt HTB.out)).trans HTB.out
                have t0 : w7.cell? ⟨wo2.heap.size, 0, none⟩ = some (.int .i64 enext) := by simp [World.cell?, e7]
                have t1 : w7.cell? ⟨wo2.heap.size, 1, none⟩ = some (.int .i64 log) := by simp [World.cell?, e7]
                have t2 : w7.cell? ⟨wo2.heap.size, 2, none⟩ = some (.slice la cur.length lc) := by simp [World.cell?, e7]
                clear hb7 e7 k0 k1 kk2 e0 e1 e2 e3
                obtain ⟨-, -, g1, g2, g3, g4, g5⟩ := HCE.out w7 HM7.out.bel
                go_wp2_with fail
                refine bodyPost_ret (v := .tuple #[.agg #[.int .i64 enext, .int .i64 log, .slice la cur.length lc], .int .i64 0]) (by simp [results, Tryz.results20, go_sem, g1, g2, g3]) rfl (HFINT.out _ (HM7.out.row.keep (fun b hb hlt => ?_) (by simp) (fun b hb _ => Nat.le_trans HB1.out.size hb)) (set3_below (HB1.out.trans (HM7.out.bel.mono HB1.out.size)) _ _ _))
                have hne : b ≠ w.heap.size + 1 + 1 := by omega
                rw [Below.heap_setCell _ _ _ _ hne, Below.heap_setCell _ _ _ _ hne, Below.heap_setCell _ _ _ _ hne]
            · have hmx : max next enext = next := by omega
              have hml : max log elog = elog := by omega
              have HBT := Lib.hid (bl1 wo2 (.cells #[.int .i64 next, .int .i64 elog, .slice la cur.length lc] 38))
              have HRT := Lib.hid (rright_any (W1.heap.size ≤ ·) _ ⟨next, elog, cur⟩ _ (HM.out.row.below HBT.out))
              have HMT := Lib.hid (HM.out.below HBT.out)
              have HTB := Lib.hid (heap_alloc_new wo2 (.cells #[.int .i64 next, .int .i64 elog, .slice la cur.length lc] 38))
              have HCEQ := Lib.hid (show checkB ⟨max next enext, max log elog, cur⟩ = checkB ⟨next, elog, cur⟩ by rw [hmx, hml])
              have HFINT := Lib.hid (show ∀ w', FRow (w.heap.size ≤ ·) w' (.slice la cur.length lc) cur → Below w.heap.size w w' → ApR w (0, ⟨max next enext, max log elog, cur⟩) (.returned (.tuple #[.agg #[.int .i64 next, .int .i64 elog, .slice la cur.length lc], .int .i64 0])) w' from fun w' h1 h2 => ⟨_, by rw [hmx, hml], h1, h2⟩)
              obtain ⟨⟨k0, k1, kk2⟩, ⟨e0, e1, e2, e3⟩, g1, g2, g3, g4, g5⟩ := HCE.out wo2 HM.out.bel
              have hlw : w.heap.size + 1 < wo2.heap.size := by omega
              have hlx : w.heap.size < wo2.heap.size := by omega
              clear g1 g2 g3 g4 hmx hml
              cases hc : checkB ⟨next, elog, cur⟩ with
              | false =>
                obtain rfl : (1, s0) = ap := by
                  have hcc := HCEQ.out.trans hc
                  rw [← HA.out, refS_wrong (s := ⟨next, log, L⟩) (e := ⟨drop, add, enext, elog⟩) HCT.out HD.out HD2.out hcc]
                have HCC := Lib.hid hc
                clear hc
                go_wp2_with fail
                refine HRT.out.mono ?_
                rintro e w7 ⟨rfl, hb7⟩
                rw [HCC.out]
                have HM7 := Lib.hid (HMT.out.below hb7)
                clear hb7 k0 k1 kk2 e0 e1 e2 e3
                obtain ⟨-, -, g1, g2, g3, g4, g5⟩ := HCE.out w7 HM7.out.bel
                go_wp2_with fail
                exact bodyPost_ret (v := .tuple #[.agg #[.int .i64 0, .int .i64 0, .slice none 0 0], .int .i64 1]) (by simp [results, Tryz.results20, go_sem, g1, g2, g3]) rfl (HBAD.out _ 1 HM7.out.bel)
              | true =>
                obtain rfl : (0, ⟨max next enext, max log elog, cur⟩) = ap := by
                  have hcc := HCEQ.out.trans hc
                  rw [← HA.out, refS_ok (s := ⟨next, log, L⟩) (e := ⟨drop, add, enext, elog⟩) HCT.out HD.out HD2.out hcc]
                have HCC := Lib.hid hc
                clear hc
                go_wp2_with fail
                refine HRT.out.mono ?_
                rintro e w7 ⟨rfl, hb7⟩
                rw [HCC.out]
                have HM7 := Lib.hid (HMT.out.below hb7)
                have e7 := (hb7.block _ (heap_lt HTB.out)).trans HTB.out
                have t0 : w7.cell? ⟨wo2.heap.size, 0, none⟩ = some (.int .i64 next) := by simp [World.cell?, e7]
                have t1 : w7.cell? ⟨wo2.heap.size, 1, none⟩ = some (.int .i64 elog) := by simp [World.cell?, e7]
                have t2 : w7.cell? ⟨wo2.heap.size, 2, none⟩ = some (.slice la cur.length lc) := by simp [World.cell?, e7]
                clear hb7 e7 k0 k1 kk2 e0 e1 e2 e3
                obtain ⟨-, -, g1, g2, g3, g4, g5⟩ := HCE.out w7 HM7.out.bel
                go_wp2_with fail
                refine bodyPost_ret (v := .tuple #[.agg #[.int .i64 next, .int .i64 elog, .slice la cur.length lc], .int .i64 0]) (by simp [results, Tryz.results20, go_sem, g1, g2, g3]) rfl (HFINT.out _ (HM7.out.row.keep (fun b hb hlt => ?_) (by simp) (fun b hb _ => Nat.le_trans HB1.out.size hb)) (set3_below (HB1.out.trans (HM7.out.bel.mono HB1.out.size)) _ _ _))
                have hne : b ≠ w.heap.size + 1 + 1 := by omega
                rw [Below.heap_setCell _ _ _ _ hne, Below.heap_setCell _ _ _ _ hne, Below.heap_setCell _ _ _ _ hne]
            · have hmx : max next enext = next := by omega
              have hml : max log elog = log := by omega
              have HBT := Lib.hid (bl1 wo2 (.cells #[.int .i64 next, .int .i64 log, .slice la cur.length lc] 38))
              have HRT := Lib.hid (rright_any (W1.heap.size ≤ ·) _ ⟨next, log, cur⟩ _ (HM.out.row.below HBT.out))
              have HMT := Lib.hid (HM.out.below HBT.out)
              have HTB := Lib.hid (heap_alloc_new wo2 (.cells #[.int .i64 next, .int .i64 log, .slice la cur.length lc] 38))
              have HCEQ := Lib.hid (show checkB ⟨max next enext, max log elog, cur⟩ = checkB ⟨next, log, cur⟩ by rw [hmx, hml])
              have HFINT := Lib.hid (show ∀ w', FRow (w.heap.size ≤ ·) w' (.slice la cur.length lc) cur → Below w.heap.size w w' → ApR w (0, ⟨max next enext, max log elog, cur⟩) (.returned (.tuple #[.agg #[.int .i64 next, .int .i64 log, .slice la cur.length lc], .int .i64 0])) w' from fun w' h1 h2 => ⟨_, by rw [hmx, hml], h1, h2⟩)
              obtain ⟨⟨k0, k1, kk2⟩, ⟨e0, e1, e2, e3⟩, g1, g2, g3, g4, g5⟩ := HCE.out wo2 HM.out.bel
              have hlw : w.heap.size + 1 < wo2.heap.size := by omega
              have hlx : w.heap.size < wo2.heap.size := by omega
              clear g1 g2 g3 g4 hmx hml
              cases hc : checkB ⟨next, log, cur⟩ with
              | false =>
                obtain rfl : (1, s0) = ap := by
                  have hcc := HCEQ.out.trans hc
                  rw [← HA.out, refS_wrong (s := ⟨next, log, L⟩) (e := ⟨drop, add, enext, elog⟩) HCT.out HD.out HD2.out hcc]
                have HCC := Lib.hid hc
                clear hc
                go_wp2_with fail
                refine HRT.out.mono ?_
                rintro e w7 ⟨rfl, hb7⟩
                rw [HCC.out]
                have HM7 := Lib.hid (HMT.out.below hb7)
                clear hb7 k0 k1 kk2 e0 e1 e2 e3
                obtain ⟨-, -, g1, g2, g3, g4, g5⟩ := HCE.out w7 HM7.out.bel
                go_wp2_with fail
                exact bodyPost_ret (v := .tuple #[.agg #[.int .i64 0, .int .i64 0, .slice none 0 0], .int .i64 1]) (by simp [results, Tryz.results20, go_sem, g1, g2, g3]) rfl (HBAD.out _ 1 HM7.out.bel)
              | true =>
                obtain rfl : (0, ⟨max next enext, max log elog, cur⟩) = ap := by
                  have hcc := HCEQ.out.trans hc
                  rw [← HA.out, refS_ok (s := ⟨next, log, L⟩) (e := ⟨drop, add, enext, elog⟩) HCT.out HD.out HD2.out hcc]
                have HCC := Lib.hid hc
                clear hc
                go_wp2_with fail
                refine HRT.out.mono ?_
                rintro e w7 ⟨rfl, hb7⟩
                rw [HCC.out]
                have HM7 := Lib.hid (HMT.out.below hb7)
                have e7 := (hb7.block _ (heap_lt HTB.out)).trans HTB.out
                have t0 : w7.cell? ⟨wo2.heap.size, 0, none⟩ = some (.int .i64 next) := by simp [World.cell?, e7]
                have t1 : w7.cell? ⟨wo2.heap.size, 1, none⟩ = some (.int .i64 log) := by simp [World.cell?, e7]
                have t2 : w7.cell? ⟨wo2.heap.size, 2, none⟩ = some (.slice la cur.length lc) := by simp [World.cell?, e7]
                clear hb7 e7 k0 k1 kk2 e0 e1 e2 e3
                obtain ⟨-, -, g1, g2, g3, g4, g5⟩ := HCE.out w7 HM7.out.bel
                go_wp2_with fail
                refine bodyPost_ret (v := .tuple #[.agg #[.int .i64 next, .int .i64 log, .slice la cur.length lc], .int .i64 0]) (by simp [results, Tryz.results20, go_sem, g1, g2, g3]) rfl (HFINT.out _ (HM7.out.row.keep (fun b hb hlt => ?_) (by simp) (fun b hb _ => Nat.le_trans HB1.out.size hb)) (set3_below (HB1.out.trans (HM7.out.bel.mono HB1.out.size)) _ _ _))
                have hne : b ≠ w.heap.size + 1 + 1 := by omega
                rw [Below.heap_setCell _ _ _ _ hne, Below.heap_setCell _ _ _ _ hne, Below.heap_setCell _ _ _ _ hne]
end Go.Proofs.YtiiafpbonkcokaaGreat
