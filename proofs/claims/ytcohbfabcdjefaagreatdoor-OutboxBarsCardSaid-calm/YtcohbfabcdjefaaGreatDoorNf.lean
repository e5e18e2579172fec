/-
  Contracts on a log that has been under way since a given world ('WA'); 'Sync', 'Last', 'First', 'Append'.
-/
import Derived.Test.YtcohbfabcdjefaaGreatDoorNe
namespace Go.Proofs.YtcohbfabcdjefaaGreatDoor
open Go.RowKit Go.Maps

/-- since world w nothing but the log at b and its disk has turned; they are x and d now -/
structure WA (w wk : World) (b sb ob db m sbk obk : Nat) (d : Dk) (x : Lg) : Prop where
  wd : WD wk b sbk obk db m d x
  but : But [db, m, b, sb, ob] w wk
  hs : sbk = sb ∨ w.heap.size ≤ sbk
  ho : obk ∈ [sb, ob] ∨ w.heap.size ≤ obk
variable {w wk : World} {b sb ob db m sbk obk : Nat} {d : Dk} {x : Lg}
theorem WA.start (h : WD w b sb ob db m d x) : WA w w b sb ob db m sb ob d x := ⟨h, But.refl _ _, .inl rfl, .inl (by simp)⟩
theorem WA.to (h : WA w wk b sb ob db m sbk obk d x) : WR w b sb ob db m d x wk := ⟨sbk, obk, h.wd, h.but, h.hs, h.ho⟩
theorem WA.comp {wn : World} (h : WA w wk b sb ob db m sbk obk d x) {l : List Nat} (hb : But l wk wn) (hl : ∀ k ∈ l, k ∈ [db, m, b, sbk, obk]) : But [db, m, b, sb, ob] w wn :=
  ⟨hb.os.trans h.but.os, hb.tape.trans h.but.tape, hb.output.trans h.but.output, Nat.le_trans h.but.size hb.size, fun k hk hn => (hb.block k (Nat.lt_of_lt_of_le hk h.but.size) (fun e => by
    have h1 := h.hs
    have h2 := h.ho
    have h3 := hl k e
    simp only [List.mem_cons, List.not_mem_nil, or_false] at hn h2 h3
    omega)).trans (h.but.block k hk hn)⟩
theorem WA.below {wn : World} (h : WA w wk b sb ob db m sbk obk d x) (hb : Below wk.heap.size wk wn) : WA w wn b sb ob db m sbk obk d x := ⟨h.wd.below hb, h.comp (l := []) (.of_below hb) (by simp), h.hs, h.ho⟩
theorem WA.drew (h : WA w wk b sb ob db m sbk obk d x) : WA w wk.drew b sb ob db m sbk obk d x := h.below (Below.refl _ _).drew
theorem WA.drewN (h : WA w wk b sb ob db m sbk obk d x) (n : Nat) : WA w (wk.drewN n) b sb ob db m sbk obk d x := h.below (below_drewN (Below.refl _ _) n)
theorem WA.step {wn : World} {d' : Dk} {x' : Lg} {l : List Nat} (h : WA w wk b sb ob db m sbk obk d x) (hd : WD wn b sbk obk db m d' x') (hb : But l wk wn) (hl : ∀ k ∈ l, k ∈ [db, m, b, sbk, obk]) : WA w wn b sb ob db m sbk obk d' x' := ⟨hd, h.comp hb hl, h.hs, h.ho⟩
theorem WA.wr {wn : World} {d' : Dk} {x' : Lg} (h : WA w wk b sb ob db m sbk obk d x) (hr : WR wk b sbk obk db m d' x' wn) : ∃ sbn obn, WA w wn b sb ob db m sbn obn d' x' := by
  obtain ⟨s2, o2, h1, h2, h3, h4⟩ := hr
  have hz := h.but.size
  have e1 := h.hs
  have e2 := h.ho
  refine ⟨s2, o2, h1, h.comp h2 (fun _ hk => hk), ?_, ?_⟩
  · rcases h3 with rfl | h3
    · exact e1
    · exact .inr (by omega)
  · rcases h4 with h4 | h4
    · simp only [List.mem_cons, List.not_mem_nil, or_false] at h4
      rcases h4 with rfl | rfl
      · rcases e1 with rfl | e1
        · exact .inl (by simp)
        · exact .inr e1
      · exact e2
    · exact .inr (by omega)
theorem WA.told (h : WA w wk b sb ob db m sbk obk d x) (e : Int) :
    Calls Tryz.prog 162 #[.pointer (some ⟨b, 0, none⟩), .int .i64 e] wk fun r w' => r = .returned (.int .i64 (toldE e)) ∧ WA w w' b sb ob db m sbk obk d (toldX e x) :=
  (told_any wk b sbk obk db m d x e h.wd).mono fun _ _ ⟨he, hd, hb⟩ => ⟨he, h.step hd hb (by simp)⟩
theorem WA.off (h : WA w wk b sb ob db m sbk obk d x) (hl : x.log.size ≤ 1000) :
    Calls Tryz.prog 161 #[.pointer (some ⟨b, 0, none⟩)] wk fun r w' => r = .returned (.int .i64 (offE d x)) ∧ WA w w' b sb ob db m sbk obk d (offX d x) :=
  (off_any wk b sbk obk db m d x h.wd hl).mono fun _ _ ⟨he, hd, hb⟩ => ⟨he, h.step hd hb (by simp)⟩
theorem WA.rotate (h : WA w wk b sb ob db m sbk obk d x) (hl : x.log.size ≤ 1000) (hla : x.last < 99) (hol : x.old.length ≤ 1000) :
    Calls Tryz.prog 153 #[.pointer (some ⟨b, 0, none⟩)] wk fun r w' => r = .returned (.int .i64 (rotateS d x).1) ∧ ∃ sbn obn, WA w w' b sb ob db m sbn obn (rotateS d x).2.1 (rotateS d x).2.2 :=
  (rotate_any wk b sbk obk db m d x h.wd hl hla hol).mono fun _ _ ⟨he, hr⟩ => ⟨he, h.wr hr⟩
theorem WA.sync (h : WA w wk b sb ob db m sbk obk d x) (hl : x.log.size ≤ 1000) :
    Calls Tryz.prog 151 #[.pointer (some ⟨db, 0, none⟩), .string (fileB x.log x.fr)] wk fun r w' => r = .returned (.int .i64 (syncE d x.nm)) ∧ WA w w' b sb ob db m sbk obk (syncD d x.nm) x :=
  (sync_any wk db m d (fileB x.log x.fr) h.wd.dat (fileB_len hl) h.wd.ok).mono fun _ _ ⟨he, hd, hb⟩ => ⟨he, h.step (h.wd.disk hd hb (h.wd.ok.sync _)) hb (by simp)⟩
theorem WA.append (h : WA w wk b sb ob db m sbk obk d x) (hl : x.log.size ≤ 1000) (t : ByteArray) (ht : t.size ≤ 1000000000000000) :
    Calls Tryz.prog 164 #[.pointer (some ⟨db, 0, none⟩), .string (fileB x.log x.fr), .string t] wk fun r w' => r = .returned (.int .i64 (appendE d x.nm t)) ∧ WA w w' b sb ob db m sbk obk (appendD d x.nm t) x :=
  (append_any wk db m d (fileB x.log x.fr) t h.wd.dat (fileB_len hl) ht h.wd.ok).mono fun _ _ ⟨he, hd, hb⟩ => ⟨he, h.step (h.wd.disk hd hb (h.wd.ok.append _ _)) hb (by simp)⟩
theorem WA.remove (h : WA w wk b sb ob db m sbk obk d x) (hl : x.log.size ≤ 1000) (k : Nat) :
    Calls Tryz.prog 78 #[.pointer (some ⟨db, 0, none⟩), .string (fileB x.log k)] wk fun r w' => r = .returned (.int .i64 (removeE d (fileL x.log k))) ∧ WA w w' b sb ob db m sbk obk (removeD d (fileL x.log k)) x :=
  (remove_any wk db m d (fileB x.log k) h.wd.dat (fileB_le _ _ hl) h.wd.ok).mono fun _ _ ⟨he, hd, hb⟩ => ⟨he, h.step (h.wd.disk hd hb (h.wd.ok.remove _)) hb (by simp)⟩
theorem WA.cells (h : WA w wk b sb ob db m sbk obk d x) : ∃ v, C5 wk b sbk db x v ∧ OldAt wk obk v x.old := h.wd.wal.cells
theorem WA.segs (h : WA w wk b sb ob db m sbk obk d x) : wk.cell? ⟨b, 0, none⟩ = some (.pointer (some ⟨sbk, 0, none⟩)) ∧ wk.cell? ⟨sbk, 0, none⟩ = some (.pointer (some ⟨db, 0, none⟩)) ∧ wk.cell? ⟨sbk, 1, none⟩ = some (.string (fileB x.log x.fr)) := h.wd.segs
theorem WA.segsT {e : Int} (h : WA w wk b sb ob db m sbk obk d (toldX e x)) : wk.cell? ⟨b, 0, none⟩ = some (.pointer (some ⟨sbk, 0, none⟩)) ∧ wk.cell? ⟨sbk, 0, none⟩ = some (.pointer (some ⟨db, 0, none⟩)) ∧ wk.cell? ⟨sbk, 1, none⟩ = some (.string (fileB x.log x.fr)) := by
  have := h.wd.segs
  have e1 : (toldX e x).log = x.log ∧ (toldX e x).fr = x.fr := by unfold toldX; split <;> exact ⟨rfl, rfl⟩
  rwa [e1.1, e1.2] at this
theorem off_zero (h : offE d x = 0) : offX d x = x := by
  unfold offE at h
  unfold offX
  split at h
  · cases h
  · rename_i h1
    rw [if_neg h1]
    split at h
    · rename_i h2; rw [if_pos h2]
    · cases h

theorem last_any (w : World) (b sb ob db m : Nat) (d : Dk) (x : Lg) (h : WD w b sb ob db m d x) : Calls Tryz.prog 53 #[.pointer (some ⟨b, 0, none⟩)] w fun e w' => e = .returned (.int .i64 x.last) ∧ w = w' := by
  obtain ⟨v, hc, _⟩ := h.wal.cells
  have b3 := hc.b3
  clear hc h
  go_enter Tryz.func53, Tryz.ntmps53
  go_wp2_with fail
  go_ret
  exact ⟨rfl, rfl⟩
theorem last_nil (w : World) : Calls Tryz.prog 53 #[.pointer none] w fun e w' => e = .returned (.int .i64 0) ∧ w = w' := by
  go_enter Tryz.func53, Tryz.ntmps53
  go_wp2_with fail
  go_ret
  exact ⟨rfl, rfl⟩
theorem first_any (w : World) (b sb ob db m : Nat) (d : Dk) (x : Lg) (h : WD w b sb ob db m d x) (hol : x.old.length ≤ 1000) : Calls Tryz.prog 54 #[.pointer (some ⟨b, 0, none⟩)] w fun e w' => e = .returned (.int .i64 ((x.old.headD x.fr : Nat) : Int)) ∧ w = w' := by
  obtain ⟨v, hc, hO⟩ := h.wal.cells
  have b0 := hc.b0
  have b2 := hc.b2
  have s2 := hc.s2
  clear h
  cases ho : x.old with
  | nil =>
    rw [ho] at hO
    obtain ⟨a, c, rfl⟩ := hO.shape
    clear hO hc ho
    go_enter Tryz.func54, Tryz.ntmps54
    go_wp2_with fail
    go_ret
    exact ⟨rfl, rfl⟩
  | cons f r =>
    rw [ho] at hO hol
    obtain ⟨off, cap, rfl, h1, h2, h3, h4⟩ := hO.cell (by simp)
    have c0 := h4 0 (by simp)
    simp only [Nat.add_zero, List.getElem_cons_zero] at c0
    have hp : 0 < (f :: r).length := by simp
    unfold maxLen at h2
    clear hO hc ho h4
    generalize (f :: r).length = n at *
    go_enter Tryz.func54, Tryz.ntmps54
    go_wp2_with fail
    go_ret
    exact ⟨rfl, rfl⟩
theorem first_nil (w : World) : Calls Tryz.prog 54 #[.pointer none] w fun e w' => e = .returned (.int .i64 0) ∧ w = w' := by
  go_enter Tryz.func54, Tryz.ntmps54
  go_wp2_with fail
  go_ret
  exact ⟨rfl, rfl⟩
set_option maxRecDepth 100000 in
set_option maxHeartbeats 1000000 in
theorem wsync_any (w : World) (b sb ob db m : Nat) (d : Dk) (x : Lg) (h : WD w b sb ob db m d x) (hl : x.log.size ≤ 1000) :
    Calls Tryz.prog 104 #[.pointer (some ⟨b, 0, none⟩)] w fun e w' => e = .returned (.int .i64 (syncS d x).1) ∧ WR w b sb ob db m (syncS d x).2.1 (syncS d x).2.2 w' := by
  have H0 := Lib.hid (WA.start h)
  clear h
  by_cases ho : offE d x = 0
  · have e1 : syncS d x = syncT d x := by simp [syncS, ho, off_zero ho]
    rw [e1]
    unfold syncT
    have HO := Lib.hid ho
    clear e1 ho
    go_enter Tryz.func104, Tryz.ntmps104
    go_wp2_with fail
    refine (H0.out.off hl).mono ?_
    rw [HO.out, off_zero HO.out]
    rintro e w1 ⟨rfl, h1⟩
    obtain ⟨v, hc, _⟩ := h1.cells
    have b0 := hc.b0
    have s0 := hc.s0
    have s1 := hc.s1
    have H1 := Lib.hid h1.drew
    clear h1 hc
    go_wp2_with fail
    go_region_held3 (fun w' => w'.cell? ⟨b, 0, none⟩ = some (.pointer (some ⟨sb, 0, none⟩)) ∧ w'.cell? ⟨sb, 0, none⟩ = some (.pointer (some ⟨db, 0, none⟩)) ∧ w'.cell? ⟨sb, 1, none⟩ = some (.string (fileB x.log x.fr)))
      (first | exact H1.out.segs | exact h2.segs | exact h3.segsT | assumption)
      (first
        | (go_at_call 151; ((with_reducible refine (H1.out.sync hl).mono ?_); rintro e w2 ⟨rfl, h2⟩))
        | (go_at_call 162; ((with_reducible refine (h2.told _).mono ?_); rintro e w3 ⟨rfl, h3⟩)))
    all_goals
      have H3 := Lib.hid h3
      clear h3 h2
      go_wp2_with fail
      go_ret
      exact ⟨rfl, H3.out.to⟩
  · have e1 : syncS d x = (offE d x, d, offX d x) := by simp [syncS, ho]
    rw [e1]
    have hne : (offE d x != 0) = true := by simpa using ho
    have HO := Lib.hid (H0.out.off hl)
    generalize offE d x = E at *
    generalize offX d x = X at *
    clear e1 ho
    go_enter Tryz.func104, Tryz.ntmps104
    go_wp2_with fail
    refine HO.out.mono ?_
    rintro e w1 ⟨rfl, h1⟩
    have H1 := Lib.hid h1
    clear h1
    go_wp2_with fail
    go_ret
    exact ⟨rfl, H1.out.to⟩
theorem wsync_nil (w : World) : Calls Tryz.prog 104 #[.pointer none] w fun e w' => e = .returned (.int .i64 2) ∧ w = w' := by
  go_enter Tryz.func104, Tryz.ntmps104
  go_wp2_with fail
  refine (woff_nil _).mono ?_
  rintro e w1 ⟨rfl, rfl⟩
  go_wp2_with fail
  go_ret
  exact ⟨rfl, rfl⟩
set_option maxRecDepth 100000 in
theorem drop_nil (w : World) (n : Int) : Calls Tryz.prog 216 #[.pointer none, .int .i64 n] w fun e w' => e = .returned (.int .i64 2) ∧ w = w' := by
  go_enter Tryz.func216, Tryz.ntmps216
  go_wp2_with fail
  refine (woff_nil _).mono ?_
  rintro e w1 ⟨rfl, rfl⟩
  go_wp2_with fail
  go_ret
  exact ⟨rfl, rfl⟩
set_option maxRecDepth 100000 in
theorem wappend_nil (w : World) (s : ByteArray) : Calls Tryz.prog 102 #[.pointer none, .string s] w fun e w' => e = .returned (.tuple #[.int .i64 0, .int .i64 2]) ∧ w = w' := by
  go_enter Tryz.func102, Tryz.ntmps102
  go_wp2_with fail
  go_ret2
  exact ⟨rfl, rfl⟩
set_option maxRecDepth 100000 in
theorem wappend_none (w : World) (b : Nat) (s : ByteArray) (h : w.cell? ⟨b, 0, none⟩ = some (.pointer none)) : Calls Tryz.prog 102 #[.pointer (some ⟨b, 0, none⟩), .string s] w fun e w' => e = .returned (.tuple #[.int .i64 0, .int .i64 2]) ∧ w = w' := by
  go_enter Tryz.func102, Tryz.ntmps102
  go_wp2_with fail
  go_ret2
  exact ⟨rfl, rfl⟩
end Go.Proofs.YtcohbfabcdjefaaGreatDoor
