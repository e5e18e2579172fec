/-
  What a change does to a disk: the functions that 'change' is given.
-/
import Derived.Test.YtiiafpbonkcokaaGreatC
namespace Go.Proofs.YtiiafpbonkcokaaGreat
open Go.RowKit Go.Maps

theorem DAt.setFs {w w' : World} {b m : Nat} {d : Dk} (h : DAt w b m d) (ht : w.mapTurned w' m) {F : Fs} (hm : HasMap w' m F) : DAt w' b m { d with fs := F } := by
  have g := ht.grown
  have hne := h.ne
  have e : w'.heap[b]? = w.heap[b]? := g.block b h.lt (fun e => hne (by injection e))
  have ec : ∀ o, w'.cell? ⟨b, o, none⟩ = w.cell? ⟨b, o, none⟩ := fun o => World.cell?_of_block (w := w) e
  have ef : ∀ o, w'.frozen? ⟨b, o, none⟩ = w.frozen? ⟨b, o, none⟩ := fun o => World.frozen?_of_block (w := w) e
  exact ⟨(ec 0).trans h.c0, (ec 1).trans h.c1, (ec 2).trans h.c2, (ec 3).trans h.c3, (ef 0).trans h.f0, (ef 1).trans h.f1, (ef 2).trans h.f2, (ef 3).trans h.f3, Nat.lt_of_lt_of_le h.lt g.size, hm⟩
theorem DAt.drew {w : World} {b m : Nat} {d : Dk} (h : DAt w b m d) : DAt w.drew b m d := ⟨h.c0, h.c1, h.c2, h.c3, h.f0, h.f1, h.f2, h.f3, h.lt, h.map⟩

/-- 'd.files[name] = file{}' -/
theorem create_fn (w : World) (b m p q : Nat) (d : Dk) (s : ByteArray) (h : DAt w b m d) (hs : s.size ≤ maxLen) (hn : d.fs.length < maxLen)
    (hp : w.cell? ⟨p, 0, none⟩ = some (.pointer (some ⟨b, 0, none⟩))) (hq : w.cell? ⟨q, 0, none⟩ = some (.string s)) :
    Calls Tryz.prog 57 #[.pointer (some ⟨p, 0, none⟩), .pointer (some ⟨q, 0, none⟩)] w fun e w' => e = .returned (.tuple #[]) ∧ DAt w' b m { d with fs := fput d.fs s.data.toList ⟨⟨#[]⟩, 0⟩ } ∧ But [m] w w' := by
  obtain ⟨w1, hrun, hm1, ht1⟩ := HasMap.put (w := w.drew) h.map.drew hs hn ⟨⟨#[]⟩, 0⟩
  have c0 := h.c0
  have hfin : DAt w1 b m { d with fs := fput d.fs s.data.toList ⟨⟨#[]⟩, 0⟩ } ∧ But [m] w w1 := ⟨h.drew.setFs ht1 hm1, ((But.refl [m] w).drew).turned ht1 (by simp)⟩
  have H := Lib.hid hfin
  clear hfin hm1 ht1 h
  replace hrun : (Instr.mapUpdate 89 (.map (some m)) (.string s) (.agg #[.string ⟨#[]⟩, .int .i64 0])).run Tryz.prog w.drew = .ok () w1 := hrun
  go_enter Tryz.func57, Tryz.ntmps57
  go_wp2
  go_region
  go_end0
  exact ⟨rfl, H.out⟩

/-- 'd.files[name] = file{f.data + data, f.synced}' -/
theorem append_fn (w : World) (b m p q r t : Nat) (d : Dk) (s x : ByteArray) (f : Fl) (h : DAt w b m d) (hs : s.size ≤ maxLen) (hn : d.fs.length < maxLen) (hb : f.data.size + x.size ≤ 1048576)
    (ht0 : w.cell? ⟨t, 0, none⟩ = some (.string f.data)) (ht1 : w.cell? ⟨t, 1, none⟩ = some (.int .i64 f.syn)) (hr : w.cell? ⟨r, 0, none⟩ = some (.string x))
    (hp : w.cell? ⟨p, 0, none⟩ = some (.pointer (some ⟨b, 0, none⟩))) (hq : w.cell? ⟨q, 0, none⟩ = some (.string s)) :
    Calls Tryz.prog 93 #[.pointer (some ⟨t, 0, none⟩), .pointer (some ⟨r, 0, none⟩), .pointer (some ⟨p, 0, none⟩), .pointer (some ⟨q, 0, none⟩)] w fun e w' => e = .returned (.tuple #[]) ∧ DAt w' b m { d with fs := fput d.fs s.data.toList ⟨f.data ++ x, f.syn⟩ } ∧ But [m] w w' := by
  obtain ⟨w1, hrun, hm1, htu⟩ := HasMap.put (w := w.drew) h.map.drew hs hn ⟨f.data ++ x, f.syn⟩
  have c0 := h.c0
  have hfin : DAt w1 b m { d with fs := fput d.fs s.data.toList ⟨f.data ++ x, f.syn⟩ } ∧ But [m] w w1 := ⟨h.drew.setFs htu hm1, ((But.refl [m] w).drew).turned htu (by simp)⟩
  have H := Lib.hid hfin
  clear hfin hm1 htu h
  replace hrun : (Instr.mapUpdate 89 (.map (some m)) (.string s) (.agg #[.string (f.data ++ x), .int .i64 f.syn])).run Tryz.prog w.drew = .ok () w1 := hrun
  have hb' : ¬ 9223372036854775807 < f.data.size + x.size := by omega
  go_enter Tryz.func93, Tryz.ntmps93
  go_wp2
  go_region
  go_end0
  exact ⟨rfl, H.out⟩

/-- 'delete(d.files, name)' -/
theorem remove_fn (w : World) (b m p q : Nat) (d : Dk) (s : ByteArray) (h : DAt w b m d) (hs : s.size ≤ maxLen)
    (hp : w.cell? ⟨p, 0, none⟩ = some (.pointer (some ⟨b, 0, none⟩))) (hq : w.cell? ⟨q, 0, none⟩ = some (.string s)) :
    Calls Tryz.prog 91 #[.pointer (some ⟨p, 0, none⟩), .pointer (some ⟨q, 0, none⟩)] w fun e w' => e = .returned (.tuple #[]) ∧ DAt w' b m { d with fs := fdel d.fs s.data.toList } ∧ But [m] w w' := by
  obtain ⟨w1, hrun, hm1, htu⟩ := HasMap.del (w := w.drew) h.map.drew hs 0
  have c0 := h.c0
  have hfin : DAt w1 b m { d with fs := fdel d.fs s.data.toList } ∧ But [m] w w1 := ⟨h.drew.setFs htu hm1, ((But.refl [m] w).drew).turned htu (by simp)⟩
  have H := Lib.hid hfin
  clear hfin hm1 htu h
  go_enter Tryz.func91, Tryz.ntmps91
  go_wp2
  go_region
  go_end0
  exact ⟨rfl, H.out⟩

/-- 'd.files[name] = file{f.data, len(f.data)}' -/
theorem sync_fn (w : World) (b m p q t : Nat) (d : Dk) (s : ByteArray) (f : Fl) (h : DAt w b m d) (hs : s.size ≤ maxLen) (hn : d.fs.length < maxLen)
    (ht0 : w.cell? ⟨t, 0, none⟩ = some (.string f.data))
    (hp : w.cell? ⟨p, 0, none⟩ = some (.pointer (some ⟨b, 0, none⟩))) (hq : w.cell? ⟨q, 0, none⟩ = some (.string s)) :
    Calls Tryz.prog 94 #[.pointer (some ⟨t, 0, none⟩), .pointer (some ⟨p, 0, none⟩), .pointer (some ⟨q, 0, none⟩)] w fun e w' => e = .returned (.tuple #[]) ∧ DAt w' b m { d with fs := fput d.fs s.data.toList ⟨f.data, f.data.size⟩ } ∧ But [m] w w' := by
  obtain ⟨w1, hrun, hm1, htu⟩ := HasMap.put (w := w.drew) h.map.drew hs hn ⟨f.data, f.data.size⟩
  have c0 := h.c0
  have hfin : DAt w1 b m { d with fs := fput d.fs s.data.toList ⟨f.data, f.data.size⟩ } ∧ But [m] w w1 := ⟨h.drew.setFs htu hm1, ((But.refl [m] w).drew).turned htu (by simp)⟩
  have H := Lib.hid hfin
  clear hfin hm1 htu h
  replace hrun : (Instr.mapUpdate 89 (.map (some m)) (.string s) (.agg #[.string f.data, .int .i64 f.data.size])).run Tryz.prog w.drew = .ok () w1 := hrun
  go_enter Tryz.func94, Tryz.ntmps94
  go_wp2
  go_region
  go_end0
  exact ⟨rfl, H.out⟩

/-- 'delete(d.files, from); d.files[to] = f' -/
theorem rename_fn (w : World) (b m p q r t : Nat) (d : Dk) (s x : ByteArray) (f : Fl) (h : DAt w b m d) (hs : s.size ≤ maxLen) (hx : x.size ≤ maxLen) (hn : d.fs.length < maxLen)
    (ht0 : w.cell? ⟨t, 0, none⟩ = some (.string f.data)) (ht1 : w.cell? ⟨t, 1, none⟩ = some (.int .i64 f.syn)) (hr : w.cell? ⟨r, 0, none⟩ = some (.string x))
    (hp : w.cell? ⟨p, 0, none⟩ = some (.pointer (some ⟨b, 0, none⟩))) (hq : w.cell? ⟨q, 0, none⟩ = some (.string s)) :
    Calls Tryz.prog 95 #[.pointer (some ⟨p, 0, none⟩), .pointer (some ⟨q, 0, none⟩), .pointer (some ⟨t, 0, none⟩), .pointer (some ⟨r, 0, none⟩)] w fun e w' => e = .returned (.tuple #[]) ∧ DAt w' b m { d with fs := fput (fdel d.fs s.data.toList) x.data.toList f } ∧ But [m] w w' := by
  obtain ⟨w1, hrun1, hm1, htu1⟩ := HasMap.del (w := w.drew) h.map.drew hs 0
  obtain ⟨w2, hrun2, hm2, htu2⟩ := HasMap.put (w := w1.drew) hm1.drew hx (Nat.lt_of_le_of_lt (List.length_filter_le _ _) hn) f
  have c0 := h.c0
  have d1 := h.drew.setFs htu1 hm1
  have k0 := d1.c0
  have kt0 := turned_cell htu1 (show w.drew.cell? ⟨t, 0, none⟩ = _ from ht0)
  have kt1 := turned_cell htu1 (show w.drew.cell? ⟨t, 1, none⟩ = _ from ht1)
  have kr := turned_cell htu1 (show w.drew.cell? ⟨r, 0, none⟩ = _ from hr)
  have kp := turned_cell htu1 (show w.drew.cell? ⟨p, 0, none⟩ = _ from hp)
  have hfin : DAt w2 b m { d with fs := fput (fdel d.fs s.data.toList) x.data.toList f } ∧ But [m] w w2 := ⟨d1.drew.setFs htu2 hm2, (((But.refl [m] w).drew).turned htu1 (by simp)).drew.turned htu2 (by simp)⟩
  have H := Lib.hid hfin
  clear hfin hm1 htu1 hm2 htu2 h d1
  replace hrun2 : (Instr.mapUpdate 89 (.map (some m)) (.string x) (.agg #[.string f.data, .int .i64 f.syn])).run Tryz.prog w1.drew = .ok () w2 := hrun2
  go_enter Tryz.func95, Tryz.ntmps95
  go_wp2
  go_region
  go_wp2
  go_region
  go_end0
  exact ⟨rfl, H.out⟩
end Go.Proofs.YtiiafpbonkcokaaGreat
