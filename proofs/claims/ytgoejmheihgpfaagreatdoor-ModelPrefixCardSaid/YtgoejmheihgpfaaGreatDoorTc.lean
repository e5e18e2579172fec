/-
  The walk of model.Shape.
-/
import Derived.Test.YtgoejmheihgpfaaGreatDoorTa
namespace Go.Proofs.YtgoejmheihgpfaaGreatDoor
open Go.RowKit

/-- answers a truth; if 'yes', then X -/
def GrT (X : Prop) (x : Ending) : Prop := ∃ b, x = .returned (.bool b) ∧ (b = true → X)
set_option maxRecDepth 100000 in
set_option maxHeartbeats 16000000 in
theorem shape_any (w : World) (hK : KwIn w) (s : Sch) (ra sa ga : Option Addr) (rv sv gv : Nat) (hS : SchR w s (.slice ra s.records.length rv) (.slice sa s.services.length sv) (.slice ga s.sagas.length gv)) (hM : Small s) (r : Run) (hR : RunSmall r) (v : Value) (l : List Ent) (hl : Slc w 6 v l.length (ecells l)) (hn : l.length ≤ 60) (hkl : ∀ e ∈ l, e.key.length ≤ 5000) :
    Calls Tryz.prog 16 #[.agg #[.string (bT s.name), .slice ra s.records.length rv, .slice sa s.services.length sv, .slice ga s.sagas.length gv], .agg #[.string (bT r.id), .string (bT r.sg), .string (bT r.arg), .int .i64 r.at_, .int .u8 (r.ph : Nat), .int .i64 r.tr, .bool r.st, .int .i64 r.wh, .string (bT r.vl)], v] w fun x w' => GrT (ShapeP s r l) x ∧ Below w.heap.size w w' := by
  obtain ⟨la, lc, rfl⟩ := hl.shape
  have HRI := Lib.hid (fun W (X : Below w.heap.size w W) => sright_any W (hK.below X) s _ _ _ (hS.below X) hM r hR)
  have HSG := Lib.hid (fun W (X : Below w.heap.size w W) => saga_any W s _ _ _ (hS.below X) hM r.sg)
  have HME := Lib.hid (fun W (X : Below w.heap.size w W) a b => method_any W s _ _ _ (hS.below X) hM a b)
  have HSL := Lib.hid (fun W (X : Below w.heap.size w W) => hl.below X)
  have HKL := Lib.hid hkl
  have HSP := Lib.hid (fun h1 k lv (h2 : StandP r.id (sOr (sagOf s.sagas r.sg)).steps.length l k lv) (h3 : EndP (sOr (sagOf s.sagas r.sg)).steps.length r k lv) => show ShapeP s r l from ⟨h1, k, lv, h2, h3⟩)
  have HR8 := Lib.hid (fun h => right_eight (s := s) (r := r) h)
  unfold runC at HRI
  clear hK hS hM hR hl hkl
  generalize rightR s r = RR at *
  generalize sOr (sagOf s.sagas r.sg) = G at *
  generalize ShapeP s r l = SP at *
  go_enter Tryz.func16, Tryz.ntmps16
  go_upto_region 1 with (fail)
  generalize hwa : (w.alloc (.cells #[.string (bT s.name), .slice ra s.records.length rv, .slice sa s.services.length sv, .slice ga s.sagas.length gv] 26)).alloc (.cells #[.string (bT r.id), .string (bT r.sg), .string (bT r.arg), .int .i64 r.at_, .int .u8 (r.ph : Nat), .int .i64 r.tr, .bool r.st, .int .i64 r.wh, .string (bT r.vl)] 53) = wa at *
  have HBa := Lib.hid (show Below w.heap.size w wa from hwa ▸ (bl1 w _).alloc (by simp) _)
  have HX0 := Lib.hid (show wa.heap[w.heap.size]? = some (.cells #[.string (bT s.name), .slice ra s.records.length rv, .slice sa s.services.length sv, .slice ga s.sagas.length gv] 26 (0, 0)) from hwa ▸ (Below.heap_alloc _ _ _ (by simp)).trans (heap_alloc_new _ _))
  have HX1 := Lib.hid (show wa.heap[w.heap.size + 1]? = some (.cells #[.string (bT r.id), .string (bT r.sg), .string (bT r.arg), .int .i64 r.at_, .int .u8 (r.ph : Nat), .int .i64 r.tr, .bool r.st, .int .i64 r.wh, .string (bT r.vl)] 53 (0, 0)) from hwa ▸ heap_alloc_new2 _ _ _)
  clear hwa
  have HXX := Lib.hid (fun W (X : Below wa.heap.size wa W) => show W.heap[w.heap.size]? = some (.cells #[.string (bT s.name), .slice ra s.records.length rv, .slice sa s.services.length sv, .slice ga s.sagas.length gv] 26 (0, 0)) ∧ W.heap[w.heap.size + 1]? = some (.cells #[.string (bT r.id), .string (bT r.sg), .string (bT r.arg), .int .i64 r.at_, .int .u8 (r.ph : Nat), .int .i64 r.tr, .bool r.st, .int .i64 r.wh, .string (bT r.vl)] 53 (0, 0)) from ⟨(X.block _ (Array.getElem?_eq_some_iff.1 HX0.out).1).trans HX0.out, (X.block _ (Array.getElem?_eq_some_iff.1 HX1.out).1).trans HX1.out⟩)
  obtain ⟨hx0, hx1⟩ := HXX.out wa (Below.refl _ _)
  have a00 : wa.cell? ⟨w.heap.size, 0, none⟩ = some (.string (bT s.name)) := by simp only [World.cell?, hx0]; rfl
  have a01 : wa.cell? ⟨w.heap.size, 1, none⟩ = some (.slice ra s.records.length rv) := by simp only [World.cell?, hx0]; rfl
  have a02 : wa.cell? ⟨w.heap.size, 2, none⟩ = some (.slice sa s.services.length sv) := by simp only [World.cell?, hx0]; rfl
  have a03 : wa.cell? ⟨w.heap.size, 3, none⟩ = some (.slice ga s.sagas.length gv) := by simp only [World.cell?, hx0]; rfl
  have a10 : wa.cell? ⟨w.heap.size + 1, 0, none⟩ = some (.string (bT r.id)) := by simp only [World.cell?, hx1]; rfl
  have a11 : wa.cell? ⟨w.heap.size + 1, 1, none⟩ = some (.string (bT r.sg)) := by simp only [World.cell?, hx1]; rfl
  have a12 : wa.cell? ⟨w.heap.size + 1, 2, none⟩ = some (.string (bT r.arg)) := by simp only [World.cell?, hx1]; rfl
  have a13 : wa.cell? ⟨w.heap.size + 1, 3, none⟩ = some (.int .i64 r.at_) := by simp only [World.cell?, hx1]; rfl
  have a14 : wa.cell? ⟨w.heap.size + 1, 4, none⟩ = some (.int .u8 (r.ph : Nat)) := by simp only [World.cell?, hx1]; rfl
  have a15 : wa.cell? ⟨w.heap.size + 1, 5, none⟩ = some (.int .i64 r.tr) := by simp only [World.cell?, hx1]; rfl
  have a16 : wa.cell? ⟨w.heap.size + 1, 6, none⟩ = some (.bool r.st) := by simp only [World.cell?, hx1]; rfl
  have a17 : wa.cell? ⟨w.heap.size + 1, 7, none⟩ = some (.int .i64 r.wh) := by simp only [World.cell?, hx1]; rfl
  have a18 : wa.cell? ⟨w.heap.size + 1, 8, none⟩ = some (.string (bT r.vl)) := by simp only [World.cell?, hx1]; rfl
  have hla : w.heap.size + 1 < wa.heap.size := (Array.getElem?_eq_some_iff.1 hx1).1
  clear hx0 hx1
  have HRC := Lib.hid (HRI.out wa HBa.out)
  go_wp2_with fail
  refine HRC.out.mono ?_
  rintro y w2 ⟨rfl, hb⟩
  have HB2 := Lib.hid (HBa.out.trans (hb.mono HBa.out.size))
  have HD2 := Lib.hid hb
  clear hb HRC a00 a01 a02 a03 a10 a11 a12 a13 a14 a15 a16 a17 a18 hla
  cases RR with
  | false =>
    go_wp2_with fail
    exact bodyPost_ret (v := .bool false) (by simp [results, Tryz.results16, go_sem]) rfl ⟨⟨false, rfl, fun h => by cases h⟩, HB2.out⟩
  | true =>
    have HR9 := Lib.hid (HR8.out rfl)
    have HSQ := Lib.hid (HSP.out rfl)
    clear HSP HR8 HRI
    obtain ⟨hx0, hx1⟩ := HXX.out w2 HD2.out
    have b00 : w2.cell? ⟨w.heap.size, 0, none⟩ = some (.string (bT s.name)) := by simp only [World.cell?, hx0]; rfl
    have b01 : w2.cell? ⟨w.heap.size, 1, none⟩ = some (.slice ra s.records.length rv) := by simp only [World.cell?, hx0]; rfl
    have b02 : w2.cell? ⟨w.heap.size, 2, none⟩ = some (.slice sa s.services.length sv) := by simp only [World.cell?, hx0]; rfl
    have b03 : w2.cell? ⟨w.heap.size, 3, none⟩ = some (.slice ga s.sagas.length gv) := by simp only [World.cell?, hx0]; rfl
    have b10 : w2.cell? ⟨w.heap.size + 1, 0, none⟩ = some (.string (bT r.id)) := by simp only [World.cell?, hx1]; rfl
    have b11 : w2.cell? ⟨w.heap.size + 1, 1, none⟩ = some (.string (bT r.sg)) := by simp only [World.cell?, hx1]; rfl
    have b12 : w2.cell? ⟨w.heap.size + 1, 2, none⟩ = some (.string (bT r.arg)) := by simp only [World.cell?, hx1]; rfl
    have b13 : w2.cell? ⟨w.heap.size + 1, 3, none⟩ = some (.int .i64 r.at_) := by simp only [World.cell?, hx1]; rfl
    have b14 : w2.cell? ⟨w.heap.size + 1, 4, none⟩ = some (.int .u8 (r.ph : Nat)) := by simp only [World.cell?, hx1]; rfl
    have b15 : w2.cell? ⟨w.heap.size + 1, 5, none⟩ = some (.int .i64 r.tr) := by simp only [World.cell?, hx1]; rfl
    have b16 : w2.cell? ⟨w.heap.size + 1, 6, none⟩ = some (.bool r.st) := by simp only [World.cell?, hx1]; rfl
    have b17 : w2.cell? ⟨w.heap.size + 1, 7, none⟩ = some (.int .i64 r.wh) := by simp only [World.cell?, hx1]; rfl
    have b18 : w2.cell? ⟨w.heap.size + 1, 8, none⟩ = some (.string (bT r.vl)) := by simp only [World.cell?, hx1]; rfl
    have hlb : w.heap.size + 1 < w2.heap.size := (Array.getElem?_eq_some_iff.1 hx1).1
    clear hx0 hx1
    have HSC := Lib.hid (HSG.out w2 HB2.out)
    go_wp2_with fail
    refine HSC.out.mono ?_
    rintro y w3 ⟨u, rfl, hu, hb⟩
    obtain ⟨ua, uc, rfl⟩ := own_slice hu
    have HB3 := Lib.hid (HB2.out.trans (hb.mono HB2.out.size))
    have HD3 := Lib.hid (HD2.out.trans (hb.mono HD2.out.size))
    have HGS := Lib.hid (Slc.own hu)
    clear hb hu HSC b00 b01 b02 b03 b10 b11 b12 b13 b14 b15 b16 b17 b18 hlb
    go_upto_region 4 with (fail)
    have HB4 := Lib.hid (HB3.out.alloc HB3.out.size (.cells #[.string (bT G.name), .string (bT G.arg), .slice ua G.steps.length uc] 67))
    have HD4 := Lib.hid (HD3.out.alloc HD3.out.size (.cells #[.string (bT G.name), .string (bT G.arg), .slice ua G.steps.length uc] 67))
    have HG4 := Lib.hid (heap_alloc_new w3 (.cells #[.string (bT G.name), .string (bT G.arg), .slice ua G.steps.length uc] 67))
    have HGS4 := Lib.hid (HGS.out.below (bl1 w3 (.cells #[.string (bT G.name), .string (bT G.arg), .slice ua G.steps.length uc] 67)))
    generalize w3.alloc (.cells #[.string (bT G.name), .string (bT G.arg), .slice ua G.steps.length uc] 67) = w4 at *
    have HGX := Lib.hid (fun W (X : Below w4.heap.size w4 W) => show W.heap[w3.heap.size]? = some (.cells #[.string (bT G.name), .string (bT G.arg), .slice ua G.steps.length uc] 67 (0, 0)) from (X.block _ (Array.getElem?_eq_some_iff.1 HG4.out).1).trans HG4.out)
    have HGZ := Lib.hid (fun W (X : Below w4.heap.size w4 W) => HGS4.out.below X)
    have HXY := Lib.hid (fun W (X : Below w4.heap.size w4 W) => HXX.out W (HD4.out.trans (X.mono HD4.out.size)))
    have HBW := Lib.hid (fun W (X : Below w4.heap.size w4 W) => show Below w.heap.size w W from HB4.out.trans (X.mono HB4.out.size))
    have hg8 := HR9.out.2.2.2
    clear HGS HG4 HGS4 HX0 HX1 HXX HB2 HD2 HB3 HD3
    go_wp2_with fail
    go_loopw [9, 10, 35] (fun vk vl vi wr => ∃ (k j : Nat) (lv : Int), j ≤ l.length ∧ k ≤ j ∧ -1 ≤ lv ∧ lv ≤ 60 ∧ vk = .int .i64 (k : Nat) ∧ vl = .int .i64 lv ∧ vi = .int .i64 (j : Nat) ∧ Hid (Below w4.heap.size w4 wr) ∧ Hid (StandP r.id G.steps.length (l.take j) k lv)) (fun _ _ vi _ => l.length - (intOf vi).toNat)
    case atStart => exact ⟨0, 0, -1, by omega, by omega, by omega, by omega, rfl, rfl, rfl, Lib.hid (Below.refl _ _), Lib.hid ⟨.inl rfl, rfl, rfl⟩⟩
    case round =>
      rename World => wr
      obtain ⟨k, j, lv, hj, hkj, hlv1, hlv2, rfl, rfl, rfl, HBr, HST⟩ := hrel
      have HBw := Lib.hid (HBW.out wr HBr.out)
      by_cases hlt : j < l.length
      · obtain ⟨b1, o1, rfl, hb1, p0, p1, p2, p3, p4, p5⟩ := ent_at (HSL.out wr HBw.out) hlt
        have hke := HKL.out _ (List.getElem_mem hlt)
        have HKE := Lib.hid (fun (h : ∀ q b, q < G.steps.length → (l[j]).key ≠ keyT r.id q b) => stand_keep HST.out hlt (cnt_zero (fun q hq => h q false hq)) (cnt_zero (fun q hq => h q true hq)))
        have HFO := Lib.hid (fun (q : Nat) (hq : q < G.steps.length) (h : (l[j]).key = keyT r.id q false) (h1 : lv = -1) => stand_forth (h1 ▸ HST.out) hlt (cnt_one HR9.out.1 hg8 hq h).1 (cnt_one HR9.out.1 hg8 hq h).2)
        have HBK := Lib.hid (fun (q : Nat) (hq : q < G.steps.length) (h : (l[j]).key = keyT r.id q true) h0 => stand_back HST.out hlt (cnt_one HR9.out.1 hg8 hq h).2 (cnt_one HR9.out.1 hg8 hq h).1 h0)
        generalize l[j] = e at *
        go_upto_region 8 with (fail)
        have HX5 := Lib.hid (heap_alloc_new wr (.cells #[.int .u64 e.stamp, .string (bT e.key), .string (bT e.sv), .string (bT e.mt), .string (bT e.acc), .int .i64 e.am] 71))
        have HB5 := Lib.hid (HBr.out.alloc HBr.out.size (.cells #[.int .u64 e.stamp, .string (bT e.key), .string (bT e.sv), .string (bT e.mt), .string (bT e.acc), .int .i64 e.am] 71))
        generalize wr.alloc (.cells #[.int .u64 e.stamp, .string (bT e.key), .string (bT e.sv), .string (bT e.mt), .string (bT e.acc), .int .i64 e.am] 71) = w5 at *
        clear p0 p1 p2 p3 p4 p5
        have hx5 := HX5.out
        have x1 : w5.cell? ⟨wr.heap.size, 1, none⟩ = some (.string (bT e.key)) := by simp only [World.cell?, hx5]; rfl
        have hl5 : wr.heap.size < w5.heap.size := (Array.getElem?_eq_some_iff.1 hx5).1
        have HEX := Lib.hid (fun W (X : Below w5.heap.size w5 W) => show W.cell? ⟨wr.heap.size, 2, none⟩ = some (.string (bT e.sv)) ∧ W.cell? ⟨wr.heap.size, 3, none⟩ = some (.string (bT e.mt)) ∧ wr.heap.size < W.heap.size from by
          have h := (X.block _ (Array.getElem?_eq_some_iff.1 HX5.out).1).trans HX5.out
          exact ⟨by simp only [World.cell?, h]; rfl, by simp only [World.cell?, h]; rfl, (Array.getElem?_eq_some_iff.1 h).1⟩)
        have HRD := Lib.hid (read_any w5 e.key (by omega))
        clear hx5
        go_wp2_with fail
        refine HRD.out.mono ?_
        rintro y w6 ⟨hy, hb⟩
        have HB6 := Lib.hid (HB5.out.trans (hb.mono HB5.out.size))
        have HE6 := Lib.hid hb
        clear hb HRD x1 hl5
        rcases hy with ⟨id, i, b, hid, hi8, hkey, rfl⟩ | ⟨hno, rfl⟩
        case inr =>
          have HS2 := Lib.hid (HKE.out (fun q b hq => hno r.id q b HR9.out.1 (by omega)))
          clear hno
          go_wp2_with fail
          exact ⟨⟨k, j + 1, lv, by omega, by omega, by omega, by omega, by go_num, by first | rfl | go_num, by go_num, HB6, HS2⟩, by simp [intOf]; omega⟩
        obtain ⟨hx0, hx1⟩ := HXY.out w6 HB6.out
        have rid : w6.cell? ⟨w.heap.size + 1, 0, none⟩ = some (.string (bT r.id)) := by simp only [World.cell?, hx1]; rfl
        have hrl : w.heap.size + 1 < w6.heap.size := (Array.getElem?_eq_some_iff.1 hx1).1
        have hgx := HGX.out w6 HB6.out
        have gst : w6.cell? ⟨w3.heap.size, 2, none⟩ = some (.slice ua G.steps.length uc) := by simp only [World.cell?, hgx]; rfl
        have hgl : w3.heap.size < w6.heap.size := (Array.getElem?_eq_some_iff.1 hgx).1
        clear hx0 hx1 hgx
        have e_n := bT_same id r.id
        by_cases hq : id = r.id
        case neg =>
          rw [decide_eq_false hq] at e_n
          have f_n : (!((bT id).toList == (bT r.id).toList)) = true := by rw [e_n]; rfl
          have HS2 := Lib.hid (HKE.out (fun q b hq2 hk2 => hq (keyT_inj hid HR9.out.1 hi8 (by omega) (hkey.symm.trans hk2)).1))
          clear hq hid hkey
          go_wp2_with fail
          exact ⟨⟨k, j + 1, lv, by omega, by omega, by omega, by omega, by go_num, by first | rfl | go_num, by go_num, HB6, HS2⟩, by simp [intOf]; omega⟩
        rw [decide_eq_true hq] at e_n
        have f_n : (!((bT id).toList == (bT r.id).toList)) = false := by rw [e_n]; rfl
        have HKY := Lib.hid (show e.key = keyT r.id i b from by rw [hkey, hq]; rfl)
        clear hq hid hkey
        by_cases hin : i < G.steps.length
        case neg =>
          have d1 : decide ((G.steps.length : Int) ≤ (i : Int)) = true := by rw [decide_eq_true_eq]; omega
          go_wp2_with fail
          exact bodyPost_ret (v := .bool false) (by simp [results, Tryz.results16, go_sem]) rfl ⟨⟨false, rfl, fun h => by cases h⟩, (HBW.out _ HB6.out)⟩
        have d1 : decide ((G.steps.length : Int) ≤ (i : Int)) = false := by rw [decide_eq_false_iff_not]; omega
        obtain ⟨b2, o2, rfl, hb2, s0, s1, s2⟩ := stp_at (HGZ.out w6 HB6.out) hin
        have hi1 : (0 : Int) ≤ (i : Int) := by omega
        have hi2 : (i : Int) < (G.steps.length : Int) := by omega
        generalize G.steps[i] = x at *
        go_upto_region 13 with (fail)
        have HX7 := Lib.hid (heap_alloc_new w6 (.cells #[.string (bT x.service), .string (bT x.method), .int .i64 x.node] 108))
        have HB7 := Lib.hid (HB6.out.alloc HB6.out.size (.cells #[.string (bT x.service), .string (bT x.method), .int .i64 x.node] 108))
        have HE7 := Lib.hid (HE6.out.alloc HE6.out.size (.cells #[.string (bT x.service), .string (bT x.method), .int .i64 x.node] 108))
        generalize w6.alloc (.cells #[.string (bT x.service), .string (bT x.method), .int .i64 x.node] 108) = w7 at *
        clear s0 s1 s2 rid gst hrl hgl d1 hi1 hi2
        have hx7 := HX7.out
        have y0 : w7.cell? ⟨w6.heap.size, 0, none⟩ = some (.string (bT x.service)) := by simp only [World.cell?, hx7]; rfl
        have y1 : w7.cell? ⟨w6.heap.size, 1, none⟩ = some (.string (bT x.method)) := by simp only [World.cell?, hx7]; rfl
        have hl7 : w6.heap.size < w7.heap.size := (Array.getElem?_eq_some_iff.1 hx7).1
        have HXS := Lib.hid (fun W (X : Below w7.heap.size w7 W) => show W.cell? ⟨w6.heap.size, 0, none⟩ = some (.string (bT x.service)) ∧ w6.heap.size < W.heap.size from by
          have h := (X.block _ (Array.getElem?_eq_some_iff.1 HX7.out).1).trans HX7.out
          exact ⟨by simp only [World.cell?, h]; rfl, (Array.getElem?_eq_some_iff.1 h).1⟩)
        obtain ⟨hx0, hx1⟩ := HXY.out w7 HB7.out
        have c00 : w7.cell? ⟨w.heap.size, 0, none⟩ = some (.string (bT s.name)) := by simp only [World.cell?, hx0]; rfl
        have c01 : w7.cell? ⟨w.heap.size, 1, none⟩ = some (.slice ra s.records.length rv) := by simp only [World.cell?, hx0]; rfl
        have c02 : w7.cell? ⟨w.heap.size, 2, none⟩ = some (.slice sa s.services.length sv) := by simp only [World.cell?, hx0]; rfl
        have c03 : w7.cell? ⟨w.heap.size, 3, none⟩ = some (.slice ga s.sagas.length gv) := by simp only [World.cell?, hx0]; rfl
        have hlc : w.heap.size < w7.heap.size := (Array.getElem?_eq_some_iff.1 hx0).1
        have HMC := Lib.hid (HME.out w7 (HBW.out w7 HB7.out) x.service x.method)
        generalize mOr (mthOf s x.service x.method) = mm at *
        generalize (mthOf s x.service x.method).isSome = mb at *
        obtain ⟨mn, ma, mr, me, mu⟩ := mm
        unfold mV at HMC
        clear hx0 hx1 hx7
        go_wp2_with fail
        refine HMC.out.mono ?_
        rintro y w8 ⟨rfl, hb⟩
        have HB8 := Lib.hid (HB7.out.trans (hb.mono HB7.out.size))
        have HE8 := Lib.hid (HE7.out.trans (hb.mono HE7.out.size))
        have HS8 := Lib.hid hb
        clear hb HMC y0 y1 hl7 c00 c01 c02 c03 hlc
        go_upto_region 14 with (fail)
        have HX9 := Lib.hid (heap_alloc_new w8 (.cells #[.string (bT mn), .string (bT ma), .int .u8 (mr : Nat), .string (bT me), .string (bT mu)] 92))
        have HB9 := Lib.hid (HB8.out.alloc HB8.out.size (.cells #[.string (bT mn), .string (bT ma), .int .u8 (mr : Nat), .string (bT me), .string (bT mu)] 92))
        have HE9 := Lib.hid (HE8.out.alloc HE8.out.size (.cells #[.string (bT mn), .string (bT ma), .int .u8 (mr : Nat), .string (bT me), .string (bT mu)] 92))
        have HS9 := Lib.hid (HS8.out.alloc HS8.out.size (.cells #[.string (bT mn), .string (bT ma), .int .u8 (mr : Nat), .string (bT me), .string (bT mu)] 92))
        generalize w8.alloc (.cells #[.string (bT mn), .string (bT ma), .int .u8 (mr : Nat), .string (bT me), .string (bT mu)] 92) = w9 at *
        have hx9 := HX9.out
        have m0 : w9.cell? ⟨w8.heap.size, 0, none⟩ = some (.string (bT mn)) := by simp only [World.cell?, hx9]; rfl
        have m4 : w9.cell? ⟨w8.heap.size, 4, none⟩ = some (.string (bT mu)) := by simp only [World.cell?, hx9]; rfl
        have hl9 : w8.heap.size < w9.heap.size := (Array.getElem?_eq_some_iff.1 hx9).1
        obtain ⟨z2, z3, hlz⟩ := HEX.out w9 HE9.out
        obtain ⟨t0, hlt0⟩ := HXS.out w9 HS9.out
        have e_s := bT_same e.sv x.service
        clear hx9
        cases b with
        | true =>
          by_cases q1 : lv < 0
          · have d2 : decide (lv < 0) = true := decide_eq_true q1
            have hwb : IntKind.i64.wrap ((k : Int) - 1) = (k : Int) - 1 := IntWalk.i64_in _ (by omega)
            by_cases hi9 : (i : Int) = (k : Int) - 1
            case neg =>
              have e_i : ((i : Int) == (k : Int) - 1) = false := by rw [beq_eq_false_iff_ne]; exact hi9
              have e_j : ((i : Int) != (k : Int) - 1) = true := by rw [bne_iff_ne]; exact hi9
              clear hi9
              go_wp2_with fail
              exact bodyPost_ret (v := .bool false) (by simp [results, Tryz.results16, go_sem]) rfl ⟨⟨false, rfl, fun h => by cases h⟩, (HBW.out _ HB9.out)⟩
            have e_i : ((i : Int) == (k : Int) - 1) = true := by rw [beq_iff_eq]; exact hi9
            have e_j : ((i : Int) != (k : Int) - 1) = false := by rw [bne_eq_false_iff_eq]; exact hi9
            have HS2 := Lib.hid (show StandP r.id G.steps.length (l.take (j + 1)) k ((k : Int) - 1) from by
              have h := HBK.out i hin HKY.out (by rw [if_pos q1]; omega)
              rw [if_pos q1] at h
              exact h)
            have hbd : -1 ≤ (k : Int) - 1 ∧ (k : Int) - 1 ≤ 60 := by omega
            clear hi9
            have e_w := bT_same e.mt mu
            by_cases g1 : e.sv = x.service
            case neg =>
              rw [decide_eq_false g1] at e_s
              have f_s : (!((bT e.sv).toList == (bT x.service).toList)) = true := by rw [e_s]; rfl
              clear g1 e_w
              go_wp2_with fail
              exact bodyPost_ret (v := .bool false) (by simp [results, Tryz.results16, go_sem]) rfl ⟨⟨false, rfl, fun h => by cases h⟩, (HBW.out _ HB9.out)⟩
            rw [decide_eq_true g1] at e_s
            have f_s : (!((bT e.sv).toList == (bT x.service).toList)) = false := by rw [e_s]; rfl
            clear g1
            by_cases g2 : e.mt = mu
            case neg =>
              rw [decide_eq_false g2] at e_w
              have f_w : (!((bT e.mt).toList == (bT mu).toList)) = true := by rw [e_w]; rfl
              clear g2
              go_wp2_with fail
              exact bodyPost_ret (v := .bool false) (by simp [results, Tryz.results16, go_sem]) rfl ⟨⟨false, rfl, fun h => by cases h⟩, (HBW.out _ HB9.out)⟩
            rw [decide_eq_true g2] at e_w
            have f_w : (!((bT e.mt).toList == (bT mu).toList)) = false := by rw [e_w]; rfl
            clear g2
            go_wp2_with fail
            exact ⟨⟨k, j + 1, (k : Int) - 1, by omega, by omega, by omega, by omega, by go_num, by first | rfl | go_num, by go_num, HB9, HS2⟩, by simp [intOf]; omega⟩
          have d2 : decide (lv < 0) = false := decide_eq_false q1
          have hwb : IntKind.i64.wrap (lv - 1) = lv - 1 := IntWalk.i64_in _ (by omega)
          by_cases hi9 : (i : Int) = lv - 1
          case neg =>
            have e_i : ((i : Int) == lv - 1) = false := by rw [beq_eq_false_iff_ne]; exact hi9
            have e_j : ((i : Int) != lv - 1) = true := by rw [bne_iff_ne]; exact hi9
            clear hi9
            go_wp2_with fail
            exact bodyPost_ret (v := .bool false) (by simp [results, Tryz.results16, go_sem]) rfl ⟨⟨false, rfl, fun h => by cases h⟩, (HBW.out _ HB9.out)⟩
          have e_i : ((i : Int) == lv - 1) = true := by rw [beq_iff_eq]; exact hi9
          have e_j : ((i : Int) != lv - 1) = false := by rw [bne_eq_false_iff_eq]; exact hi9
          have HS2 := Lib.hid (show StandP r.id G.steps.length (l.take (j + 1)) k (lv - 1) from by
            have h := HBK.out i hin HKY.out (by rw [if_neg q1]; omega)
            rw [if_neg q1] at h
            exact h)
          have hbd : -1 ≤ lv - 1 ∧ lv - 1 ≤ 60 := by omega
          clear hi9
          have e_w := bT_same e.mt mu
          by_cases g1 : e.sv = x.service
          case neg =>
            rw [decide_eq_false g1] at e_s
            have f_s : (!((bT e.sv).toList == (bT x.service).toList)) = true := by rw [e_s]; rfl
            clear g1 e_w
            go_wp2_with fail
            exact bodyPost_ret (v := .bool false) (by simp [results, Tryz.results16, go_sem]) rfl ⟨⟨false, rfl, fun h => by cases h⟩, (HBW.out _ HB9.out)⟩
          rw [decide_eq_true g1] at e_s
          have f_s : (!((bT e.sv).toList == (bT x.service).toList)) = false := by rw [e_s]; rfl
          clear g1
          by_cases g2 : e.mt = mu
          case neg =>
            rw [decide_eq_false g2] at e_w
            have f_w : (!((bT e.mt).toList == (bT mu).toList)) = true := by rw [e_w]; rfl
            clear g2
            go_wp2_with fail
            exact bodyPost_ret (v := .bool false) (by simp [results, Tryz.results16, go_sem]) rfl ⟨⟨false, rfl, fun h => by cases h⟩, (HBW.out _ HB9.out)⟩
          rw [decide_eq_true g2] at e_w
          have f_w : (!((bT e.mt).toList == (bT mu).toList)) = false := by rw [e_w]; rfl
          clear g2
          go_wp2_with fail
          exact ⟨⟨k, j + 1, lv - 1, by omega, by omega, by omega, by omega, by go_num, by first | rfl | go_num, by go_num, HB9, HS2⟩, by simp [intOf]; omega⟩
        | false =>
          by_cases q1 : 0 ≤ lv
          · have d2 : decide (0 ≤ lv) = true := decide_eq_true q1
            clear q1
            go_wp2_with fail
            exact bodyPost_ret (v := .bool false) (by simp [results, Tryz.results16, go_sem]) rfl ⟨⟨false, rfl, fun h => by cases h⟩, (HBW.out _ HB9.out)⟩
          have d2 : decide (0 ≤ lv) = false := decide_eq_false q1
          by_cases hi9 : i = k
          case neg =>
            have e_i : ((i : Int) == (k : Int)) = false := by rw [beq_eq_false_iff_ne]; omega
            have e_j : ((i : Int) != (k : Int)) = true := by rw [bne_iff_ne]; omega
            clear hi9
            go_wp2_with fail
            exact bodyPost_ret (v := .bool false) (by simp [results, Tryz.results16, go_sem]) rfl ⟨⟨false, rfl, fun h => by cases h⟩, (HBW.out _ HB9.out)⟩
          have e_i : ((i : Int) == (k : Int)) = true := by rw [beq_iff_eq]; omega
          have e_j : ((i : Int) != (k : Int)) = false := by rw [bne_eq_false_iff_eq]; omega
          have hlv9 : lv = -1 := by omega
          have HS2 := Lib.hid (show StandP r.id G.steps.length (l.take (j + 1)) (k + 1) lv from by
            have h := HFO.out i hin HKY.out hlv9
            rw [hlv9]
            exact h)
          clear hi9 hlv9 q1
          have e_w := bT_same e.mt mn
          by_cases g1 : e.sv = x.service
          case neg =>
            rw [decide_eq_false g1] at e_s
            have f_s : (!((bT e.sv).toList == (bT x.service).toList)) = true := by rw [e_s]; rfl
            clear g1 e_w
            go_wp2_with fail
            exact bodyPost_ret (v := .bool false) (by simp [results, Tryz.results16, go_sem]) rfl ⟨⟨false, rfl, fun h => by cases h⟩, (HBW.out _ HB9.out)⟩
          rw [decide_eq_true g1] at e_s
          have f_s : (!((bT e.sv).toList == (bT x.service).toList)) = false := by rw [e_s]; rfl
          clear g1
          by_cases g2 : e.mt = mn
          case neg =>
            rw [decide_eq_false g2] at e_w
            have f_w : (!((bT e.mt).toList == (bT mn).toList)) = true := by rw [e_w]; rfl
            clear g2
            go_wp2_with fail
            exact bodyPost_ret (v := .bool false) (by simp [results, Tryz.results16, go_sem]) rfl ⟨⟨false, rfl, fun h => by cases h⟩, (HBW.out _ HB9.out)⟩
          rw [decide_eq_true g2] at e_w
          have f_w : (!((bT e.mt).toList == (bT mn).toList)) = false := by rw [e_w]; rfl
          clear g2
          go_wp2_with fail
          exact ⟨⟨k + 1, j + 1, lv, by omega, by omega, by omega, by omega, by go_num, by first | rfl | go_num, by go_num, HB9, HS2⟩, by simp [intOf]; omega⟩
      have HSA := Lib.hid (show StandP r.id G.steps.length l k lv from by have h := HST.out; rwa [List.take_of_length_le (by omega)] at h)
      have HSF := Lib.hid (fun (h : EndP G.steps.length r k lv) => HSQ.out k lv HSA.out h)
      clear HST HSA HSQ
      obtain ⟨hx0, hx1⟩ := HXY.out wr HBr.out
      have c3 : wr.cell? ⟨w.heap.size + 1, 3, none⟩ = some (.int .i64 r.at_) := by simp only [World.cell?, hx1]; rfl
      have c4 : wr.cell? ⟨w.heap.size + 1, 4, none⟩ = some (.int .u8 (r.ph : Nat)) := by simp only [World.cell?, hx1]; rfl
      have hlc : w.heap.size + 1 < wr.heap.size := (Array.getElem?_eq_some_iff.1 hx1).1
      have hgx := HGX.out wr HBr.out
      have gst : wr.cell? ⟨w3.heap.size, 2, none⟩ = some (.slice ua G.steps.length uc) := by simp only [World.cell?, hgx]; rfl
      have hgl : w3.heap.size < wr.heap.size := (Array.getElem?_eq_some_iff.1 hgx).1
      have ha1 := HR9.out.2.1
      have ha2 := HR9.out.2.2.1
      have hwa1 : IntKind.i64.wrap (r.at_ + 1) = r.at_ + 1 := IntWalk.i64_in _ (by omega)
      unfold EndP at HSF
      generalize r.at_ = at9 at *
      generalize r.ph = ph at *
      clear hx0 hx1 hgx
      by_cases q1 : lv < 0
      case pos =>
        have d2 : decide (lv < 0) = true := decide_eq_true q1
        by_cases p1 : ph = 1
        case pos =>
          have v1 : ((ph : Int) == 1) = true := by rw [beq_iff_eq]; omega
          by_cases u1 : (k : Int) = at9
          · have e1 : ((k : Int) == at9) = true := by rw [beq_iff_eq]; exact u1
            have HV := Lib.hid (HSF.out (by rw [if_pos p1]; refine ⟨q1, ?_⟩; exact .inl u1))
            go_wp2_with fail
            exact bodyPost_ret (v := .bool true) (by simp [results, Tryz.results16, go_sem]) rfl ⟨⟨true, rfl, fun _ => HV.out⟩, HBw.out⟩
          have e1 : ((k : Int) == at9) = false := by rw [beq_eq_false_iff_ne]; exact u1
          by_cases u2 : (k : Int) = at9 + 1
          · have e2 : ((k : Int) == at9 + 1) = true := by rw [beq_iff_eq]; exact u2
            have HV := Lib.hid (HSF.out (by rw [if_pos p1]; refine ⟨q1, ?_⟩; exact .inr u2))
            go_wp2_with fail
            exact bodyPost_ret (v := .bool true) (by simp [results, Tryz.results16, go_sem]) rfl ⟨⟨true, rfl, fun _ => HV.out⟩, HBw.out⟩
          have e2 : ((k : Int) == at9 + 1) = false := by rw [beq_eq_false_iff_ne]; exact u2
          go_wp2_with fail
          exact bodyPost_ret (v := .bool false) (by simp [results, Tryz.results16, go_sem]) rfl ⟨⟨false, rfl, fun h => by cases h⟩, HBw.out⟩
        have v1 : ((ph : Int) == 1) = false := by rw [beq_eq_false_iff_ne]; omega
        by_cases p3 : ph = 3
        case pos =>
          have v3 : ((ph : Int) == 3) = true := by rw [beq_iff_eq]; omega
          by_cases u1 : k = G.steps.length
          · have e1 : ((k : Int) == (G.steps.length : Int)) = true := by rw [beq_iff_eq]; omega
            have HV := Lib.hid (HSF.out (by rw [if_neg p1, if_pos p3]; exact ⟨q1, u1⟩))
            go_wp2_with fail
            exact bodyPost_ret (v := .bool true) (by simp [results, Tryz.results16, go_sem]) rfl ⟨⟨true, rfl, fun _ => HV.out⟩, HBw.out⟩
          have e1 : ((k : Int) == (G.steps.length : Int)) = false := by rw [beq_eq_false_iff_ne]; omega
          go_wp2_with fail
          exact bodyPost_ret (v := .bool false) (by simp [results, Tryz.results16, go_sem]) rfl ⟨⟨false, rfl, fun h => by cases h⟩, HBw.out⟩
        have v3 : ((ph : Int) == 3) = false := by rw [beq_eq_false_iff_ne]; omega
        by_cases p4 : ph = 4
        case pos =>
          have v4 : ((ph : Int) == 4) = true := by rw [beq_iff_eq]; omega
          by_cases u1 : (k : Int) = 0
          · have e1 : ((k : Int) == 0) = true := by rw [beq_iff_eq]; exact u1
            obtain rfl : k = 0 := by omega
            have HV := Lib.hid (HSF.out (by rw [if_neg p1, if_neg p3, if_pos p4]; rw [if_pos q1]; rfl))
            go_wp2_with fail
            exact bodyPost_ret (v := .bool true) (by simp [results, Tryz.results16, go_sem]) rfl ⟨⟨true, rfl, fun _ => HV.out⟩, HBw.out⟩
          have e1 : ((k : Int) == 0) = false := by rw [beq_eq_false_iff_ne]; exact u1
          go_wp2_with fail
          exact bodyPost_ret (v := .bool false) (by simp [results, Tryz.results16, go_sem]) rfl ⟨⟨false, rfl, fun h => by cases h⟩, HBw.out⟩
        have v4 : ((ph : Int) == 4) = false := by rw [beq_eq_false_iff_ne]; omega
        by_cases u1 : (k : Int) = at9
        · have e1 : ((k : Int) == at9) = true := by rw [beq_iff_eq]; exact u1
          have HV := Lib.hid (HSF.out (by rw [if_neg p1, if_neg p3, if_neg p4]; rw [if_pos q1]; exact .inl u1))
          go_wp2_with fail
          exact bodyPost_ret (v := .bool true) (by simp [results, Tryz.results16, go_sem]) rfl ⟨⟨true, rfl, fun _ => HV.out⟩, HBw.out⟩
        have e1 : ((k : Int) == at9) = false := by rw [beq_eq_false_iff_ne]; exact u1
        by_cases u2 : (k : Int) = at9 + 1
        · have e2 : ((k : Int) == at9 + 1) = true := by rw [beq_iff_eq]; exact u2
          have HV := Lib.hid (HSF.out (by rw [if_neg p1, if_neg p3, if_neg p4]; rw [if_pos q1]; exact .inr u2))
          go_wp2_with fail
          exact bodyPost_ret (v := .bool true) (by simp [results, Tryz.results16, go_sem]) rfl ⟨⟨true, rfl, fun _ => HV.out⟩, HBw.out⟩
        have e2 : ((k : Int) == at9 + 1) = false := by rw [beq_eq_false_iff_ne]; exact u2
        go_wp2_with fail
        exact bodyPost_ret (v := .bool false) (by simp [results, Tryz.results16, go_sem]) rfl ⟨⟨false, rfl, fun h => by cases h⟩, HBw.out⟩
      have d2 : decide (lv < 0) = false := decide_eq_false q1
      by_cases p1 : ph = 1
      case pos =>
        have v1 : ((ph : Int) == 1) = true := by rw [beq_iff_eq]; omega
        go_wp2_with fail
        exact bodyPost_ret (v := .bool false) (by simp [results, Tryz.results16, go_sem]) rfl ⟨⟨false, rfl, fun h => by cases h⟩, HBw.out⟩
      have v1 : ((ph : Int) == 1) = false := by rw [beq_eq_false_iff_ne]; omega
      by_cases p3 : ph = 3
      case pos =>
        have v3 : ((ph : Int) == 3) = true := by rw [beq_iff_eq]; omega
        go_wp2_with fail
        exact bodyPost_ret (v := .bool false) (by simp [results, Tryz.results16, go_sem]) rfl ⟨⟨false, rfl, fun h => by cases h⟩, HBw.out⟩
      have v3 : ((ph : Int) == 3) = false := by rw [beq_eq_false_iff_ne]; omega
      by_cases p4 : ph = 4
      case pos =>
        have v4 : ((ph : Int) == 4) = true := by rw [beq_iff_eq]; omega
        by_cases u1 : lv = 0
        · have e1 : (lv == 0) = true := by rw [beq_iff_eq]; exact u1
          have HV := Lib.hid (HSF.out (by rw [if_neg p1, if_neg p3, if_pos p4]; rw [if_neg q1]; exact u1))
          go_wp2_with fail
          exact bodyPost_ret (v := .bool true) (by simp [results, Tryz.results16, go_sem]) rfl ⟨⟨true, rfl, fun _ => HV.out⟩, HBw.out⟩
        have e1 : (lv == 0) = false := by rw [beq_eq_false_iff_ne]; exact u1
        go_wp2_with fail
        exact bodyPost_ret (v := .bool false) (by simp [results, Tryz.results16, go_sem]) rfl ⟨⟨false, rfl, fun h => by cases h⟩, HBw.out⟩
      have v4 : ((ph : Int) == 4) = false := by rw [beq_eq_false_iff_ne]; omega
      by_cases u1 : lv = at9
      · have e1 : (lv == at9) = true := by rw [beq_iff_eq]; exact u1
        have HV := Lib.hid (HSF.out (by rw [if_neg p1, if_neg p3, if_neg p4]; rw [if_neg q1]; exact .inl u1))
        go_wp2_with fail
        exact bodyPost_ret (v := .bool true) (by simp [results, Tryz.results16, go_sem]) rfl ⟨⟨true, rfl, fun _ => HV.out⟩, HBw.out⟩
      have e1 : (lv == at9) = false := by rw [beq_eq_false_iff_ne]; exact u1
      by_cases u2 : lv = at9 + 1
      · have e2 : (lv == at9 + 1) = true := by rw [beq_iff_eq]; exact u2
        have HV := Lib.hid (HSF.out (by rw [if_neg p1, if_neg p3, if_neg p4]; rw [if_neg q1]; exact .inr u2))
        go_wp2_with fail
        exact bodyPost_ret (v := .bool true) (by simp [results, Tryz.results16, go_sem]) rfl ⟨⟨true, rfl, fun _ => HV.out⟩, HBw.out⟩
      have e2 : (lv == at9 + 1) = false := by rw [beq_eq_false_iff_ne]; exact u2
      go_wp2_with fail
      exact bodyPost_ret (v := .bool false) (by simp [results, Tryz.results16, go_sem]) rfl ⟨⟨false, rfl, fun h => by cases h⟩, HBw.out⟩
end Go.Proofs.YtgoejmheihgpfaaGreatDoor
