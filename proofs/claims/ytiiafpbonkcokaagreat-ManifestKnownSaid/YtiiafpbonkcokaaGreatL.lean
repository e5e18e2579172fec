/-
  'Crash' and 'Start', for every disk and every list of numbers.
-/
import Derived.Test.YtiiafpbonkcokaaGreatK
import Derived.Test.YtiiafpbonkcokaaGreatA3
namespace Go.Proofs.YtiiafpbonkcokaaGreat
open Go.RowKit Go.Maps

theorem StrsAt.row {w : World} {B : Nat} {v : Value} {l : List Nm} (h : StrsAt w B v l) (hl : l ≠ []) :
    ∃ g cap, v = .slice (some ⟨g, 0, none⟩) l.length cap ∧ B ≤ g ∧ g < w.heap.size ∧ ∀ i (hi : i < l.length), w.cell? ⟨g, i, none⟩ = some (.string ⟨l[i].toArray⟩) := by
  obtain ⟨⟨h1, h2⟩, hn⟩ := h
  rcases h2 with ⟨hv, _⟩ | ⟨g, cap, cur, hv, hg, hb, hnc, _, hcs, ht⟩
  · exact absurd (hn.1 hv) hl
  · refine ⟨g, cap, hv, hg, (Array.getElem?_eq_some_iff.1 hb).1, fun i hi => ?_⟩
    have e : w.cell? ⟨g, i, none⟩ = cur[i]? := by simp [World.cell?, hb]
    rw [e]
    have h3 : (cur.toList.take (l.length * 1))[i]? = (l.map encStr)[i]? := by rw [ht]
    rw [List.getElem?_take, if_pos (by omega), List.getElem?_map, List.getElem?_eq_getElem hi] at h3
    simpa [encStr] using h3

/-- the state of a crash behind i files: what is done, what is to come, how many numbers are used up -/
def CrashAt (w : World) (b m : Nat) (d : Dk) (ks : List Int) (wr : World) (i k : Nat) : Prop :=
  ∃ done : Fs, i ≤ d.fs.length ∧ k ≤ i ∧ done.map (·.1) = (d.fs.take i).map (·.1) ∧ DAt wr b m { d with fs := done ++ d.fs.drop i, down := true, fuse := 0 } ∧ But [b, m] w wr ∧
    crashF ks d.fs = done ++ crashF (ks.drop k) (d.fs.drop i) ∧ (done ++ d.fs.drop i).Pairwise (fun x y => bytesBefore x.1 y.1 = true)

/-- one step of it -/
theorem CrashAt.at {w : World} {b m : Nat} {d : Dk} {ks : List Int} {wr : World} {i k : Nat} (h : CrashAt w b m d ks wr i k) (hi : i < d.fs.length) :
    ∃ (P R : Fs), d.fs.drop i = d.fs[i] :: R ∧ DAt wr b m { d with fs := P ++ d.fs[i] :: R, down := true, fuse := 0 } ∧ But [b, m] w wr ∧
      (P ++ d.fs[i] :: R).Pairwise (fun x y => bytesBefore x.1 y.1 = true) ∧ fget (P ++ d.fs[i] :: R) d.fs[i].1 = some d.fs[i].2 ∧ (P ++ d.fs[i] :: R).length = d.fs.length ∧
      (d.fs[i].2.data.size = d.fs[i].2.syn → ∀ w', DAt w' b m { d with fs := P ++ d.fs[i] :: R, down := true, fuse := 0 } → But [b, m] w w' → CrashAt w b m d ks w' (i + 1) k) ∧
      (d.fs[i].2.data.size ≠ d.fs[i].2.syn → ∀ w' (n : Nat), n = stays (ks.drop k) (d.fs[i].2.data.size - d.fs[i].2.syn) + d.fs[i].2.syn →
        DAt w' b m { d with fs := fput (P ++ d.fs[i] :: R) d.fs[i].1 ⟨d.fs[i].2.data.extract 0 n, n⟩, down := true, fuse := 0 } → But [b, m] w w' → CrashAt w b m d ks w' (i + 1) (k + 1)) := by
  obtain ⟨P, hil, hki, hnm, hD, hB, hc, hp⟩ := h
  have hdr : d.fs.drop i = d.fs[i] :: d.fs.drop (i + 1) := List.drop_eq_getElem_cons hi
  rw [hdr] at hD hc hp
  have hlen : P.length = i := by
    have := congrArg List.length hnm
    simp at this; omega
  have htake : (d.fs.take (i + 1)).map (·.1) = P.map (·.1) ++ [d.fs[i].1] := by
    rw [List.take_succ_eq_append_getElem hi, List.map_append, hnm]; rfl
  refine ⟨P, d.fs.drop (i + 1), hdr, hD, hB, hp, get_mid hp, by simp; omega, fun he w' hD' hB' => ?_, fun he w' n hn hD' hB' => ?_⟩
  · refine ⟨P ++ [d.fs[i]], by omega, by omega, ?_, ?_, hB', ?_, ?_⟩
    · rw [htake, List.map_append]; rfl
    · simpa using hD'
    · rw [hc, crashF, if_pos he]; simp
    · simpa using hp
  · rw [put_mid hp] at hD'
    refine ⟨P ++ [(d.fs[i].1, ⟨d.fs[i].2.data.extract 0 n, n⟩)], by omega, by omega, ?_, ?_, hB', ?_, ?_⟩
    · rw [htake, List.map_append]; rfl
    · simpa using hD'
    · rw [hc, crashF, if_neg he, ← hn]
      simp
    · have := names_mid (k := d.fs[i].1) (f := d.fs[i].2) (g := ⟨d.fs[i].2.data.extract 0 n, n⟩) hp
      simpa using this

theorem cell_lt {w : World} {b o : Nat} {v : Value} (h : w.cell? ⟨b, o, none⟩ = some v) : b < w.heap.size := by
  unfold World.cell? at h
  simp only at h
  cases hh : w.heap[b]? with
  | none => rw [hh] at h; cases h
  | some o => exact (Array.getElem?_eq_some_iff.1 hh).1
theorem cell_alloc {w : World} {b o : Nat} {v : Value} (h : w.cell? ⟨b, o, none⟩ = some v) (x : Obj) : (w.alloc x).cell? ⟨b, o, none⟩ = some v := by
  rw [((But.refl [] w).alloc x).cell (cell_lt h) (by simp), h]
set_option maxRecDepth 100000 in
set_option maxHeartbeats 1000000 in
theorem crash_any (w : World) (b m : Nat) (d : Dk) (ka : Option Addr) (kn kc : Nat) (ks : List Int) (h : DAt w b m d) (ok : Fit d) (hkl : ks.length = kn) (hkn : kn ≤ 1000000000000000)
    (hk : 0 < kn → ∃ kb ko, ka = some ⟨kb, ko, none⟩ ∧ kb ≠ b ∧ ∀ i, i < kn → w.cell? ⟨kb, ko + i, none⟩ = some (.int .i64 (ks.getD i 0))) :
    Calls Tryz.prog 14 #[.pointer (some ⟨b, 0, none⟩), .slice ka kn kc] w fun e w' => e = .returned (.tuple #[]) ∧ DAt w' b m { d with fs := crashF ks d.fs, down := true, fuse := 0 } ∧ But [b, m] w w' := by
  have c1 := h.c1
  have c2 := h.c2
  have f1 := h.f1
  have f2 := h.f2
  have HD := Lib.hid h
  have HOK := Lib.hid ok
  have HK := Lib.hid hk
  clear h ok hk
  go_enter Tryz.func14, Tryz.ntmps14
  go_wp2_with fail
  have hD1 := (HD.out.set1 true).set2 0
  have hok1 : Fit { d with down := true, fuse := 0 } := ⟨HOK.out.len, by simp, by simp, HOK.out.rlo, HOK.out.rhi, HOK.out.sz, HOK.out.syn, HOK.out.nm, HOK.out.up⟩
  refine (list_any _ b m _ hD1 hok1).mono ?_
  rintro e w1 ⟨⟨v, rfl, hs⟩, hb⟩
  have HB1 := Lib.hid (show But [b, m] w w1 from (((But.refl _ _).setCell (.inl (by simp)) _).setCell (.inl (by simp)) _).trans (.of_below hb))
  have HD2 := Lib.hid (hD1.below hb)
  have HS := Lib.hid hs
  clear hD1 hok1 hb hs
  by_cases hF : d.fs = []
  · have hv : v = .slice none 0 0 := HS.out.2.2 (by simp [names, hF])
    subst hv
    have HF := Lib.hid hF
    clear hF
    go_wp2_with fail
    go_loopw [21] (fun i wr => i = .int .i64 0 ∧ wr = w1) (fun _ _ => 0)
    case atStart => exact ⟨rfl, rfl⟩
    case round =>
      obtain ⟨rfl, rfl⟩ := hrel
      go_wp2
      go_end0
      refine ⟨rfl, ?_, HB1.out⟩
      have e : crashF ks d.fs = d.fs := by rw [HF.out]; rfl
      rw [e]; exact HD2.out
  · obtain ⟨g, cap, hv, hg1, hg2, hcells⟩ := HS.out.row (by simpa [names] using hF)
    subst hv
    have hlen : (names d.fs).length = d.fs.length := by simp [names]
    have hgb : g ≠ b := by have := HD.out.lt; simp at hg1; omega
    have hL := HOK.out.len
    have hcells' : ∀ j (hj : j < d.fs.length), w1.cell? ⟨g, j, none⟩ = some (.string ⟨(d.fs[j]).1.toArray⟩) := by
      intro j hj
      have h1 := hcells j (by simpa [names] using hj)
      simpa [names] using h1
    rw [show (names ({ d with down := true, fuse := 0 } : Dk).fs).length = d.fs.length from hlen]
    have HCL := Lib.hid hcells'
    have hC0 : CrashAt w b m d ks w1 0 0 := ⟨[], Nat.zero_le _, Nat.le_refl _, rfl, by simpa using HD2.out, HB1.out, by simp, by simpa using HOK.out.up⟩
    have HC0 := Lib.hid hC0
    clear hC0 hF hlen hcells hcells'
    go_wp2_with fail
    go_loopw [21, 4] (fun i k wr => ∃ (I K : Nat), I ≤ d.fs.length ∧ i = .int .i64 I ∧ k = .int .i64 K ∧ K ≤ I ∧ Hid (CrashAt w b m d ks wr I K) ∧ Hid (∀ j (hj : j < d.fs.length), wr.cell? ⟨g, j, none⟩ = some (.string ⟨(d.fs[j]).1.toArray⟩))) (fun i _ _ => d.fs.length - (intOf i).toNat)
    case atStart => exact ⟨0, 0, Nat.zero_le _, rfl, rfl, Nat.le_refl _, HC0, HCL⟩
    case round =>
      obtain ⟨I, K, hI, rfl, rfl, hKI, HC, HN⟩ := hrel
      by_cases hlt : I < d.fs.length
      · obtain ⟨P, R, hdr, hD3, hB3, hp3, hg3, hl3, hsame, hcut⟩ := HC.out.at hlt
        have HG := Lib.hid hg3
        have hq := HN.out I hlt
        have hsz := HOK.out.sz _ (List.getElem_mem hlt)
        have hsy := HOK.out.syn _ (List.getElem_mem hlt)
        have hnm := HOK.out.nm _ (List.getElem_mem hlt)
        have hfd := hD3.map.look (s := ⟨d.fs[I].1.toArray⟩) (by unfold maxLen; simp [ByteArray.size]; omega)
        rw [show found (P ++ d.fs[I] :: R) (ByteArray.data ⟨d.fs[I].1.toArray⟩).toList = .agg #[.string d.fs[I].2.data, .int .i64 d.fs[I].2.syn] from (found_some (by simpa using hg3)).1] at hfd
        have c0 := hD3.c0
        have HD3 := Lib.hid hD3
        have HB3 := Lib.hid hB3
        have HSAME := Lib.hid hsame
        have HCUT := Lib.hid hcut
        have HL3 := Lib.hid hl3
        clear hdr hD3 hB3 hp3 hg3 hl3 hsame hcut
        have HNM := Lib.hid hnm
        clear hnm
        generalize d.fs[I] = x at *
        obtain ⟨nm, dt, sy⟩ := x
        dsimp only at *
        by_cases he : dt.size = sy
        · have he' : ((dt.size : Int) - sy == 0) = true := by simpa using by omega
          have HE := Lib.hid he
          clear he
          go_wp2_with fail
          refine ⟨⟨I + 1, K, by omega, by simp, rfl, by omega, Lib.hid (HSAME.out HE.out _ (HD3.out.below (bl1 _ _)) (HB3.out.alloc _)), Lib.hid (fun j hj => cell_alloc (HN.out j hj) _)⟩, ?_⟩
          simp [intOf]; omega
        · have he' : ((dt.size : Int) - sy == 0) = false := by simpa using by omega
          have HE := Lib.hid he
          clear he
          by_cases hkK : K < kn
          · obtain ⟨kb, ko, rfl, hkb, hkc⟩ := HK.out (by omega)
            have hkq0 := hkc K (by omega)
            have hkm : kb ≠ m := HD.out.map.ne_cell hkq0
            have hkbl : kb < w.heap.size := cell_lt hkq0
            have hkq : wr.cell? ⟨kb, ko + K, none⟩ = some (.int .i64 (ks.getD K 0)) := by
              rw [HB3.out.cell hkbl (by simp [hkb, hkm])]; exact hkq0
            have hkq2 := cell_alloc hkq (.cells #[.string dt, .int .i64 sy] 95)
            have hhd : (ks.drop K).headD 0 = ks.getD K 0 := by
              simp [List.getD_eq_getElem?_getD, List.headD_eq_head?_getD, List.head?_drop]
            obtain ⟨N, hN, hNs, hNle⟩ : ∃ N : Nat, min (max (ks.getD K 0) 0) ((dt.size : Int) - sy) + sy = (N : Int) ∧ N = stays (ks.drop K) (dt.size - sy) + sy ∧ N ≤ dt.size := by
              refine ⟨stays (ks.drop K) (dt.size - sy) + sy, ?_, rfl, ?_⟩ <;> (unfold stays; rw [hhd]; omega)
            have hput := HasMap.put (w := (wr.alloc (.cells #[.string dt, .int .i64 sy] 95)).drew) ((HD3.out.map.alloc _).drew) (s := ⟨nm.toArray⟩) (by have := HNM.out; unfold maxLen; simp [ByteArray.size]; omega) (by have := HL3.out; have := hL; unfold maxLen; dsimp only; omega) ⟨dt.extract 0 N, N⟩
            obtain ⟨w2, hupd, hmap, hturn⟩ := hput
            replace hupd : (Instr.mapUpdate 89 (.map (some m)) (.string ⟨nm.toArray⟩) (.agg #[.string (dt.extract 0 N), .int .i64 N])).run Tryz.prog (wr.alloc (.cells #[.string dt, .int .i64 sy] 95)).drew = .ok () w2 := hupd
            have HFIN := Lib.hid (HCUT.out HE.out w2 N hNs (((HD3.out.below (bl1 _ _)).drew).setFs hturn hmap) (((HB3.out.alloc _).drew).turned hturn (by simp)))
            have HNM2 := Lib.hid (show ∀ (j : Nat) (hj : j < d.fs.length), w2.cell? ⟨g, j, none⟩ = some (.string ⟨(d.fs[j]).1.toArray⟩) from fun j hj => turned_cell hturn (cell_alloc (HN.out j hj) _))
            have hNd : N ≤ dt.size := hNle
            have q0 := cell_alloc c0 (.cells #[.string dt, .int .i64 sy] 95)
            clear hmap hturn hNs hNle
            clear hhd
            generalize ks.getD K 0 = kv at *
            have HNN := Lib.hid hN
            clear hN
            go_wp2_with fail
            rw [HNN.out]
            go_region
            all_goals
              go_wp2_with fail
              refine ⟨⟨I + 1, K + 1, by omega, by simp, by simp, by omega, HFIN, HNM2⟩, ?_⟩
              simp [intOf]; omega
          · obtain ⟨N, hN, hNs, hNle⟩ : ∃ N : Nat, N = sy ∧ N = stays (ks.drop K) (dt.size - sy) + sy ∧ N ≤ dt.size := by
              refine ⟨sy, rfl, ?_, hsy⟩
              rw [List.drop_eq_nil_of_le (by omega)]
              unfold stays
              simp
              omega
            have hput := HasMap.put (w := (wr.alloc (.cells #[.string dt, .int .i64 sy] 95)).drew) ((HD3.out.map.alloc _).drew) (s := ⟨nm.toArray⟩) (by have := HNM.out; unfold maxLen; simp [ByteArray.size]; omega) (by have := HL3.out; have := hL; unfold maxLen; dsimp only; omega) ⟨dt.extract 0 N, N⟩
            obtain ⟨w2, hupd, hmap, hturn⟩ := hput
            replace hupd : (Instr.mapUpdate 89 (.map (some m)) (.string ⟨nm.toArray⟩) (.agg #[.string (dt.extract 0 N), .int .i64 N])).run Tryz.prog (wr.alloc (.cells #[.string dt, .int .i64 sy] 95)).drew = .ok () w2 := hupd
            have HFIN := Lib.hid (HCUT.out HE.out w2 N hNs (((HD3.out.below (bl1 _ _)).drew).setFs hturn hmap) (((HB3.out.alloc _).drew).turned hturn (by simp)))
            have HNM2 := Lib.hid (show ∀ (j : Nat) (hj : j < d.fs.length), w2.cell? ⟨g, j, none⟩ = some (.string ⟨(d.fs[j]).1.toArray⟩) from fun j hj => turned_cell hturn (cell_alloc (HN.out j hj) _))
            have hNd : N ≤ dt.size := hNle
            have q0 := cell_alloc c0 (.cells #[.string dt, .int .i64 sy] 95)
            clear hmap hturn hNs hNle
            subst hN
            go_wp2_with fail
            go_region
            all_goals
              go_wp2_with fail
              refine ⟨⟨I + 1, K + 1, by omega, by simp, by simp, by omega, HFIN, HNM2⟩, ?_⟩
              simp [intOf]; omega
      · go_wp2
        go_end0
        obtain ⟨done, _, _, _, hD4, hB4, hc4, _⟩ := HC.out
        have e : d.fs.drop I = [] := List.drop_eq_nil_of_le (by omega)
        rw [e] at hD4 hc4
        simp only [crashF, List.append_nil] at hD4 hc4
        refine ⟨rfl, ?_, hB4⟩
        rw [hc4]; exact hD4
end Go.Proofs.YtiiafpbonkcokaaGreat
