/-
  Joined: A, B, C, D.
-/
import Derived.Maps.OwnSet
import Derived.Maps.Views
import Derived.Test.YtcohbfabcdjefaaGreatDoorProg
import Derived.WalkKit
import Derived.WalkLawsBesides
import Derived.WalkSpells
import Derived.Lib.Hide
namespace Go.Proofs.YtcohbfabcdjefaaGreatDoor
open Go.Maps

abbrev Nm := List UInt8
/-- a file: its bytes, and how many of them are synced -/
structure Fl where
  data : ByteArray
  syn : Nat
abbrev Fs := List (Nm × Fl)
def fval (f : Fl) : Value := .agg #[.string f.data, .int .i64 f.syn]
def zval : Value := .agg #[.string ⟨#[]⟩, .int .i64 0]
def dent (x : Nm × Fl) : Lit × DataW Value := (.string x.1, .held (fval x.2))
def dat (F : Fs) : DataW Value := .map (F.map dent)
/-- how an element of the map reads: as itself -/
def fileElem (v : Value) : Option (DataW Value × List MemPlace) := some (.held v, [])

def fget (F : Fs) (k : Nm) : Option Fl := (F.find? (fun x => x.1 == k)).map (·.2)
def fhas (F : Fs) (k : Nm) : Bool := F.any (fun x => x.1 == k)
def fdel (F : Fs) (k : Nm) : Fs := F.filter (fun x => !(x.1 == k))
def fins (x : Nm × Fl) : Fs → Fs
  | [] => [x]
  | y :: r => if bytesBefore x.1 y.1 then x :: y :: r else y :: fins x r
def fput (F : Fs) (k : Nm) (f : Fl) : Fs := fins (k, f) (fdel F k)

theorem sameKey_str (a b : Nm) : (Lit.string a).sameKey (.string b) = (a == b) := rfl

theorem dat_del (F : Fs) (k : Nm) : (dat F).del (.string k) = dat (fdel F k) := by
  simp only [dat, DataW.del, fdel, DataW.map.injEq]
  rw [List.filter_map]
  rfl
theorem insert_dent (x : Nm × Fl) : ∀ F : Fs, DataW.insert (dent x) (F.map dent) = (fins x F).map dent
  | [] => rfl
  | y :: r => by
    simp only [List.map_cons, DataW.insert, fins]
    have e : (dent x).1.before (dent y).1 = bytesBefore x.1 y.1 := rfl
    rw [e]
    split
    · rfl
    · rw [List.map_cons, insert_dent x r]
theorem dat_put (F : Fs) (k : Nm) (f : Fl) : (dat F).put (.string k) (.held (fval f)) = dat (fput F k f) := by
  simp only [dat, DataW.put, fput, DataW.map.injEq]
  rw [← insert_dent]
  congr 1
  rw [List.filter_map]
  rfl
theorem dat_has (F : Fs) (k : Nm) : Maps.has (dat F) (.string k) = fhas F k := by
  simp only [dat, Maps.has_eq, fhas, List.any_map]
  rfl
theorem dat_at (F : Fs) (k : Nm) (z : DataW Value) : (dat F).atKey (.string k) z = match fget F k with | some f => .held (fval f) | none => z := by
  simp only [dat, DataW.atKey, fget]
  rw [List.find?_map]
  have e : ((fun p : Lit × DataW Value => p.1.sameKey (.string k)) ∘ dent) = (fun x : Nm × Fl => x.1 == k) := rfl
  rw [e]
  cases F.find? (fun x => x.1 == k) <;> rfl
theorem dat_size (F : Fs) : Maps.size (dat F) = F.length := by simp [dat, Maps.size_eq]
theorem fhas_get (F : Fs) (k : Nm) : fhas F k = (fget F k).isSome := by
  induction F with
  | nil => rfl
  | cons x r ih =>
    simp only [fhas, fget, List.any_cons, List.find?_cons] at ih ⊢
    cases x.1 == k
    · simpa using ih
    · rfl
end Go.Proofs.YtcohbfabcdjefaaGreatDoor
namespace Go.Proofs.YtcohbfabcdjefaaGreatDoor
open Go.RowKit Go.Maps Go.WideMaps Go.WideElems

theorem keyLaw : Keyed Tryz.prog 9 := string_keyed Tryz.underlying9
theorem zeroFile (w : World) : (zeroValue 215).run Tryz.prog w = .ok zval w := by kernel_rfl

/-- block m of w is a map that reads as F -/
def HasMap (w : World) (m : Nat) (F : Fs) : Prop := w.ownsMap Tryz.prog 9 fileElem m F.length (dat F)

theorem HasMap.of {w : World} {m n : Nat} {F : Fs} (h : w.ownsMap Tryz.prog 9 fileElem m n (dat F)) : HasMap w m F := by
  obtain ⟨es, clock, hb, hf, _, hd⟩ := h
  refine ⟨es, clock, hb, hf, ?_, hd⟩
  have e1 : Maps.size (dat F) = es.size := by rw [hd]; simp [Maps.size, length_sorted]
  rw [dat_size] at e1
  omega
theorem HasMap.lt {w : World} {m : Nat} {F : Fs} (h : HasMap w m F) : m < w.heap.size := World.ownsMap.lt h
theorem HasMap.heap {w w' : World} {m : Nat} {F : Fs} (h : HasMap w m F) (e : w'.heap[m]? = w.heap[m]?) : HasMap w' m F := by
  obtain ⟨es, clock, hb, r⟩ := h
  exact ⟨es, clock, e.trans hb, r⟩
theorem HasMap.alloc {w : World} {m : Nat} {F : Fs} (h : HasMap w m F) (o : Obj) : HasMap (w.alloc o) m F := h.heap (Below.heap_alloc w o m h.lt)
theorem HasMap.drew {w : World} {m : Nat} {F : Fs} (h : HasMap w m F) : HasMap w.drew m F := h
theorem HasMap.ne_cell {w : World} {m b o : Nat} {F : Fs} {v : Value} (h : HasMap w m F) (hc : w.cell? ⟨b, o, none⟩ = some v) : b ≠ m := by
  rintro rfl
  obtain ⟨es, clock, hb, _⟩ := h
  simp [World.cell?, hb] at hc
theorem HasMap.setCell {w : World} {m : Nat} {F : Fs} (h : HasMap w m F) (a : Addr) (u : Value) : HasMap (w.setCell a u) m F := by
  obtain ⟨es, clock, hb, r⟩ := h
  refine ⟨es, clock, ?_, r⟩
  simp only [World.setCell, Array.getElem?_modify]
  split
  · rename_i e; subst e; rw [hb]; rfl
  · exact hb

theorem keyOk {s : ByteArray} (hs : s.size ≤ maxLen) : keyOf Tryz.prog 9 (.string s) = some (.string s.data.toList) := keyOf_string_mk Tryz.underlying9 hs

/-- what a look-up finds -/
def found (F : Fs) (k : Nm) : Value := match fget F k with | some f => fval f | none => zval

theorem HasMap.look_ok {w : World} {m : Nat} {F : Fs} (h : HasMap w m F) {s : ByteArray} (hs : s.size ≤ maxLen) :
    (Instr.lookup 58 (.map (some m)) (.string s) true).run Tryz.prog w = .ok (.tuple #[found F s.data.toList, .bool (fhas F s.data.toList)]) w := by
  obtain ⟨v, ps, hrun, hv⟩ := World.ownsMap.look_ok h keyLaw Tryz.underlying58 (zeroFile w) (zd := .held zval) (zp := []) rfl (keyOk hs)
  rw [hrun, dat_has]
  rw [dat_at] at hv
  simp only [fileElem, Option.some.injEq, Prod.mk.injEq] at hv
  have e : v = found F s.data.toList := by
    unfold found
    cases hg : fget F s.data.toList with
    | none => rw [hg] at hv; simpa using hv.1
    | some f => rw [hg] at hv; simpa using hv.1
  rw [e]
theorem HasMap.look {w : World} {m : Nat} {F : Fs} (h : HasMap w m F) {s : ByteArray} (hs : s.size ≤ maxLen) :
    (Instr.lookup 58 (.map (some m)) (.string s) false).run Tryz.prog w = .ok (found F s.data.toList) w := by
  obtain ⟨v, ps, hrun, hv⟩ := World.ownsMap.lookup h keyLaw Tryz.underlying58 (zeroFile w) (zd := .held zval) (zp := []) rfl (keyOk hs)
  rw [hrun]
  rw [dat_at] at hv
  simp only [fileElem, Option.some.injEq, Prod.mk.injEq] at hv
  have e : v = found F s.data.toList := by
    unfold found
    cases hg : fget F s.data.toList with
    | none => rw [hg] at hv; simpa using hv.1
    | some f => rw [hg] at hv; simpa using hv.1
  rw [e]
theorem HasMap.len {w : World} {m : Nat} {F : Fs} (h : HasMap w m F) (ty : TypeId) :
    (Builtin.len_ #[58] ty #[.map (some m)]).run Tryz.prog w = .ok (.int .i64 F.length) w := by
  have := World.ownsMap.len h Tryz.underlying58 ty
  rwa [dat_size] at this

/-- 'm[s] = v' -/
theorem HasMap.put {w : World} {m : Nat} {F : Fs} (h : HasMap w m F) {s : ByteArray} (hs : s.size ≤ maxLen) (hn : F.length < maxLen) (f : Fl) :
    ∃ w', (Instr.mapUpdate 58 (.map (some m)) (.string s) (fval f)).run Tryz.prog w = .ok () w' ∧ HasMap w' m (fput F s.data.toList f) ∧ w.mapTurned w' m := by
  obtain ⟨w', hrun, hown, hturn⟩ := World.ownsMap.store h keyLaw Tryz.underlying58 hn (keyOk hs) (val := fval f) (d := .held (fval f)) (ps := []) rfl
  exact ⟨w', hrun, .of (by rw [dat_put] at hown; exact hown), hturn⟩
/-- 'delete(m, s)' -/
theorem HasMap.del {w : World} {m : Nat} {F : Fs} (h : HasMap w m F) {s : ByteArray} (hs : s.size ≤ maxLen) (ty : TypeId) :
    ∃ w', (Builtin.delete_ #[58, 9] ty #[.map (some m), .string s]).run Tryz.prog w = .ok (.tuple #[]) w' ∧ HasMap w' m (fdel F s.data.toList) ∧ w.mapTurned w' m := by
  obtain ⟨w', hrun, hown, hturn⟩ := World.ownsMap.drop h keyLaw Tryz.underlying58 (keyOk hs) ty
  exact ⟨w', hrun, .of (by rw [dat_del] at hown; exact hown), hturn⟩

/-- but for the blocks on the list nothing has turned -/
structure But (l : List Nat) (w w' : World) : Prop where
  os : w'.os = w.os
  tape : w'.tape = w.tape
  output : w'.output = w.output
  size : w.heap.size ≤ w'.heap.size
  block : ∀ k, k < w.heap.size → k ∉ l → w'.heap[k]? = w.heap[k]?
theorem But.refl (l : List Nat) (w : World) : But l w w := ⟨rfl, rfl, rfl, Nat.le_refl _, fun _ _ _ => rfl⟩
theorem But.trans {l : List Nat} {a b c : World} (h : But l a b) (k : But l b c) : But l a c :=
  ⟨k.os.trans h.os, k.tape.trans h.tape, k.output.trans h.output, Nat.le_trans h.size k.size, fun i hi hn => (k.block i (Nat.lt_of_lt_of_le hi h.size) hn).trans (h.block i hi hn)⟩
theorem But.of_below {l : List Nat} {w w' : World} (h : Below w.heap.size w w') : But l w w' := ⟨h.os, h.tape, h.output, h.size, fun k hk _ => h.block k hk⟩
theorem But.wider {l l' : List Nat} {w w' : World} (h : But l w w') (hs : ∀ x ∈ l, x ∈ l') : But l' w w' := ⟨h.os, h.tape, h.output, h.size, fun k hk hn => h.block k hk (fun e => hn (hs k e))⟩
theorem But.below {l : List Nat} {B : Nat} {w w' : World} (h : But l w w') (hB : B ≤ w.heap.size) (hl : ∀ x ∈ l, B ≤ x) : Below B w w' :=
  ⟨h.os, h.tape, h.output, h.size, fun k hk => h.block k (Nat.lt_of_lt_of_le hk hB) (fun e => Nat.lt_irrefl _ (Nat.lt_of_lt_of_le hk (hl k e)))⟩
theorem But.alloc {l : List Nat} {a w : World} (h : But l a w) (o : Obj) : But l a (w.alloc o) := h.trans (.of_below ((Below.refl _ _).alloc (Nat.le_refl _) _))
theorem But.drew {l : List Nat} {a w : World} (h : But l a w) : But l a w.drew := ⟨h.os, h.tape, h.output, h.size, h.block⟩
theorem But.setCell {l : List Nat} {a w : World} (h : But l a w) {p : Addr} (hp : p.block ∈ l ∨ a.heap.size ≤ p.block) (u : Value) : But l a (w.setCell p u) :=
  ⟨h.os, h.tape, h.output, by simpa [World.setCell] using h.size, fun k hk hn => (Below.heap_setCell w p u k (fun e => by subst e; rcases hp with hp | hp; exact hn hp; omega)).trans (h.block k hk hn)⟩
theorem But.turned {l : List Nat} {a w w' : World} {m : Nat} (h : But l a w) (ht : w.mapTurned w' m) (hm : m ∈ l) : But l a w' := by
  have g := ht.grown
  exact h.trans ⟨g.os, g.tape, g.output, g.size, fun k hk hn => g.block k hk (fun e => hn (by injection e with e; rw [e]; exact hm))⟩
theorem But.cell {l : List Nat} {w w' : World} (h : But l w w') {b o : Nat} (hb : b < w.heap.size) (hn : b ∉ l) : w'.cell? ⟨b, o, none⟩ = w.cell? ⟨b, o, none⟩ := World.cell?_of_block (w := w) (h.block b hb hn)
theorem But.frozen {l : List Nat} {w w' : World} (h : But l w w') {b o : Nat} (hb : b < w.heap.size) (hn : b ∉ l) : w'.frozen? ⟨b, o, none⟩ = w.frozen? ⟨b, o, none⟩ := World.frozen?_of_block (w := w) (h.block b hb hn)
theorem turned_cell {w w' : World} {m : Nat} (ht : w.mapTurned w' m) {b o : Nat} {v : Value} (hc : w.cell? ⟨b, o, none⟩ = some v) : w'.cell? ⟨b, o, none⟩ = some v := by
  have hlt := World.block_lt_of_cell? w _ hc
  have hne : b ≠ m := by
    rintro rfl
    obtain ⟨es, c, es', c', hb, _⟩ := ht
    simp [World.cell?, hb] at hc
  exact (World.cell?_of_block (w := w) (ht.grown.block b hlt (fun e => hne (by injection e)))).trans hc
theorem turned_size {w w' : World} {m : Nat} (ht : w.mapTurned w' m) : w'.heap.size = w.heap.size := by
  obtain ⟨es, c, es', c', hb, rfl⟩ := ht
  simp [ChangeMaps.setBlock]
end Go.Proofs.YtcohbfabcdjefaaGreatDoor
namespace Go.Proofs.YtcohbfabcdjefaaGreatDoor
open Go.RowKit Go.Maps

/-- a disk -/
structure Dk where
  fs : Fs
  down : Bool
  fuse : Int
  room : Int
/-- block b holds a disk, whose map is block m -/
structure DAt (w : World) (b m : Nat) (d : Dk) : Prop where
  c0 : w.cell? ⟨b, 0, none⟩ = some (.map (some m))
  c1 : w.cell? ⟨b, 1, none⟩ = some (.bool d.down)
  c2 : w.cell? ⟨b, 2, none⟩ = some (.int .i64 d.fuse)
  c3 : w.cell? ⟨b, 3, none⟩ = some (.int .i64 d.room)
  f0 : w.frozen? ⟨b, 0, none⟩ = false
  f1 : w.frozen? ⟨b, 1, none⟩ = false
  f2 : w.frozen? ⟨b, 2, none⟩ = false
  f3 : w.frozen? ⟨b, 3, none⟩ = false
  lt : b < w.heap.size
  map : HasMap w m d.fs
theorem DAt.ne {w : World} {b m : Nat} {d : Dk} (h : DAt w b m d) : b ≠ m := h.map.ne_cell h.c0
theorem DAt.but {w w' : World} {b m : Nat} {d : Dk} {l : List Nat} (h : DAt w b m d) (hb : But l w w') (h1 : b ∉ l) (h2 : m ∉ l) : DAt w' b m d :=
  ⟨(hb.cell h.lt h1).trans h.c0, (hb.cell h.lt h1).trans h.c1, (hb.cell h.lt h1).trans h.c2, (hb.cell h.lt h1).trans h.c3,
   (hb.frozen h.lt h1).trans h.f0, (hb.frozen h.lt h1).trans h.f1, (hb.frozen h.lt h1).trans h.f2, (hb.frozen h.lt h1).trans h.f3, Nat.lt_of_lt_of_le h.lt hb.size, h.map.heap (hb.block m h.map.lt h2)⟩
theorem DAt.below {w w' : World} {b m : Nat} {d : Dk} (h : DAt w b m d) (hb : Below w.heap.size w w') : DAt w' b m d :=
  h.but (l := []) (.of_below hb) (by simp) (by simp)
theorem bl1 (w : World) (x : Obj) : Below w.heap.size w (w.alloc x) := (Below.refl _ _).alloc (Nat.le_refl _) _
theorem bl2 (w : World) (x y : Obj) : Below w.heap.size w ((w.alloc x).alloc y) := (bl1 w x).alloc (by simp) _
theorem bl3 (w : World) (x y z : Obj) : Below w.heap.size w (((w.alloc x).alloc y).alloc z) := (bl2 w x y).alloc (by simp; omega) _
theorem ret_int {k : IntKind} {a b : Int} (h : a = b) : Ending.returned (.int k a) = .returned (.int k b) := by rw [h]
theorem ret_bool {a b : Bool} (h : a = b) : Ending.returned (.bool a) = .returned (.bool b) := by rw [h]

theorem off_nil (w : World) : Calls Tryz.prog 130 #[.pointer none] w fun e w' => e = .returned (.int .i64 2) ∧ w = w' := by
  go_enter Tryz.func130, Tryz.ntmps130
  go_wp2
  go_ret
  exact ⟨rfl, rfl⟩
theorem off_up (w : World) (b : Nat) (h : w.cell? ⟨b, 1, none⟩ = some (.bool false)) : Calls Tryz.prog 130 #[.pointer (some ⟨b, 0, none⟩)] w fun e w' => e = .returned (.int .i64 0) ∧ w = w' := by
  go_enter Tryz.func130, Tryz.ntmps130
  go_wp2
  go_ret
  exact ⟨rfl, rfl⟩
theorem off_down (w : World) (b : Nat) (h : w.cell? ⟨b, 1, none⟩ = some (.bool true)) : Calls Tryz.prog 130 #[.pointer (some ⟨b, 0, none⟩)] w fun e w' => e = .returned (.int .i64 7) ∧ w = w' := by
  go_enter Tryz.func130, Tryz.ntmps130
  go_wp2
  go_ret
  exact ⟨rfl, rfl⟩

/-- may a byte stand in a name? -/
def okc (c : UInt8) : Bool := (97 ≤ c && c ≤ 122) || (48 ≤ c && c ≤ 57) || c == 46 || c == 45
/-- is a text a name? -/
def nameB (l : Nm) : Bool := l.all okc && decide (0 < l.length) && decide (l.length ≤ 32)

theorem okc_iff (c : UInt8) : okc c = true ↔ (97 ≤ (c.toNat : Int) ∧ (c.toNat : Int) ≤ 122) ∨ (48 ≤ (c.toNat : Int) ∧ (c.toNat : Int) ≤ 57) ∨ (c.toNat : Int) = 46 ∨ (c.toNat : Int) = 45 := by
  have h46 : c = 46 ↔ (c.toNat : Int) = 46 := ⟨fun h => by subst h; rfl, fun h => UInt8.toNat_inj.1 (by show c.toNat = 46; omega)⟩
  have h45 : c = 45 ↔ (c.toNat : Int) = 45 := ⟨fun h => by subst h; rfl, fun h => UInt8.toNat_inj.1 (by show c.toNat = 45; omega)⟩
  simp only [okc, Bool.or_eq_true, Bool.and_eq_true, decide_eq_true_eq, beq_iff_eq, h46, h45, UInt8.le_iff_toNat_le]
  have a : (97 : UInt8).toNat = 97 := rfl
  have b : (122 : UInt8).toNat = 122 := rfl
  have d : (48 : UInt8).toNat = 48 := rfl
  have e : (57 : UInt8).toNat = 57 := rfl
  rw [a, b, d, e]
  omega

theorem name_all (s : ByteArray) (h : ∀ (j : Nat) (h : j < s.size), okc s[j] = true) : nameB s.data.toList = (decide (0 < s.size) && decide (s.size ≤ 32)) := by
  have hall : s.data.toList.all okc = true := by
    rw [List.all_eq_true]
    intro x hx
    obtain ⟨j, hj, rfl⟩ := List.getElem_of_mem hx
    have := h j (by simpa using hj)
    simp only [Array.getElem_toList]
    exact this
  simp only [nameB, hall, Bool.true_and, Array.length_toList]
  rfl
theorem name_bad (s : ByteArray) (k : Nat) (hk : k < s.size) (h : okc s[k] = false) : nameB s.data.toList = false := by
  have hall : s.data.toList.all okc = false := by
    rw [List.all_eq_false]
    refine ⟨s[k], ?_, by simp [h]⟩
    exact List.mem_iff_getElem.2 ⟨k, by simpa using hk, by simp; rfl⟩
  simp [nameB, hall]

set_option maxHeartbeats 400000 in
theorem named_any (s : ByteArray) (w : World) (hs : s.size ≤ maxLen) :
    Calls Tryz.prog 205 #[.string s] w fun e w' => e = .returned (.bool (nameB s.data.toList)) ∧ w = w' := by
  unfold maxLen at hs
  go_enter Tryz.func205, Tryz.ntmps205
  go_wp2
  go_loop [7] (fun i => ∃ k : Nat, k ≤ s.size ∧ i = .int .i64 k ∧ Hid (∀ (j : Nat) (h : j < s.size), j < k → okc s[j] = true)) (fun i => s.size - (intOf i).toNat)
  case atStart => exact ⟨0, Nat.zero_le _, rfl, fun j _ h => by omega⟩
  case round =>
    obtain ⟨k, hk, rfl, HA⟩ := hrel
    by_cases hlt : k < s.size
    · have step : okc s[k] = true → Hid (∀ (j : Nat) (h : j < s.size), j < k + 1 → okc s[j] = true) := fun hok j hj hjk => by
        by_cases e : j = k
        · subst e; exact hok
        · exact HA.out j hj (by omega)
      have HS := Lib.hid step
      have HB := Lib.hid (name_bad s k hlt)
      have HI := Lib.hid (okc_iff s[k])
      clear step HA
      go_wp2
      all_goals first
        | (go_ret
           refine ⟨ret_bool (HB.out (Bool.eq_false_iff.2 fun hc => ?_)).symm, rfl⟩
           have h1 := HI.out.1 hc
           go_tidy
           simp only [bne_iff_ne, ne_eq] at *
           omega)
        | (refine ⟨⟨k + 1, by omega, by go_num, HS.out (HI.out.2 ?_)⟩, by simp [intOf]; omega⟩
           go_tidy
           simp only [bne_eq_false_iff_eq] at *
           omega)
    · have hk' : k = s.size := by omega
      have hn := name_all s (fun j hj => HA.out j hj (by omega))
      have HN := Lib.hid hn
      clear hn HA hk'
      go_wp2
      all_goals
        go_ret
        refine ⟨ret_bool ?_, rfl⟩
        rw [HN.out]
        clear HN
        go_tidy
        first | (simp [*]; done) | (simp [*]; omega)
end Go.Proofs.YtcohbfabcdjefaaGreatDoor
namespace Go.Proofs.YtcohbfabcdjefaaGreatDoor
open Go.RowKit Go.Maps

theorem DAt.setFs {w w' : World} {b m : Nat} {d : Dk} (h : DAt w b m d) (ht : w.mapTurned w' m) {F : Fs} (hm : HasMap w' m F) : DAt w' b m { d with fs := F } := by
  have g := ht.grown
  have hne := h.ne
  have e : w'.heap[b]? = w.heap[b]? := g.block b h.lt (fun e => hne (by injection e))
  have ec : ∀ o, w'.cell? ⟨b, o, none⟩ = w.cell? ⟨b, o, none⟩ := fun o => World.cell?_of_block (w := w) e
  have ef : ∀ o, w'.frozen? ⟨b, o, none⟩ = w.frozen? ⟨b, o, none⟩ := fun o => World.frozen?_of_block (w := w) e
  exact ⟨(ec 0).trans h.c0, (ec 1).trans h.c1, (ec 2).trans h.c2, (ec 3).trans h.c3, (ef 0).trans h.f0, (ef 1).trans h.f1, (ef 2).trans h.f2, (ef 3).trans h.f3, Nat.lt_of_lt_of_le h.lt g.size, hm⟩
theorem DAt.drew {w : World} {b m : Nat} {d : Dk} (h : DAt w b m d) : DAt w.drew b m d := ⟨h.c0, h.c1, h.c2, h.c3, h.f0, h.f1, h.f2, h.f3, h.lt, h.map⟩

/-- 'd.files[name] = file{}' -/
theorem create_fn (w : World) (b m p q : Nat) (d : Dk) (s : ByteArray) (h : DAt w b m d) (hs : s.size ≤ maxLen) (hn : d.fs.length < maxLen)
    (hp : w.cell? ⟨p, 0, none⟩ = some (.pointer (some ⟨b, 0, none⟩))) (hq : w.cell? ⟨q, 0, none⟩ = some (.string s)) :
    Calls Tryz.prog 206 #[.pointer (some ⟨p, 0, none⟩), .pointer (some ⟨q, 0, none⟩)] w fun e w' => e = .returned (.tuple #[]) ∧ DAt w' b m { d with fs := fput d.fs s.data.toList ⟨⟨#[]⟩, 0⟩ } ∧ But [m] w w' := by
  obtain ⟨w1, hrun, hm1, ht1⟩ := HasMap.put (w := w.drew) h.map.drew hs hn ⟨⟨#[]⟩, 0⟩
  have c0 := h.c0
  have hfin : DAt w1 b m { d with fs := fput d.fs s.data.toList ⟨⟨#[]⟩, 0⟩ } ∧ But [m] w w1 := ⟨h.drew.setFs ht1 hm1, ((But.refl [m] w).drew).turned ht1 (by simp)⟩
  have H := Lib.hid hfin
  clear hfin hm1 ht1 h
  replace hrun : (Instr.mapUpdate 58 (.map (some m)) (.string s) (.agg #[.string ⟨#[]⟩, .int .i64 0])).run Tryz.prog w.drew = .ok () w1 := hrun
  go_enter Tryz.func206, Tryz.ntmps206
  go_wp2
  go_region
  go_end0
  exact ⟨rfl, H.out⟩

/-- 'd.files[name] = file{f.data + data, f.synced}' -/
theorem append_fn (w : World) (b m p q r t : Nat) (d : Dk) (s x : ByteArray) (f : Fl) (h : DAt w b m d) (hs : s.size ≤ maxLen) (hn : d.fs.length < maxLen) (hb : f.data.size + x.size ≤ 1048576)
    (ht0 : w.cell? ⟨t, 0, none⟩ = some (.string f.data)) (ht1 : w.cell? ⟨t, 1, none⟩ = some (.int .i64 f.syn)) (hr : w.cell? ⟨r, 0, none⟩ = some (.string x))
    (hp : w.cell? ⟨p, 0, none⟩ = some (.pointer (some ⟨b, 0, none⟩))) (hq : w.cell? ⟨q, 0, none⟩ = some (.string s)) :
    Calls Tryz.prog 215 #[.pointer (some ⟨t, 0, none⟩), .pointer (some ⟨r, 0, none⟩), .pointer (some ⟨p, 0, none⟩), .pointer (some ⟨q, 0, none⟩)] w fun e w' => e = .returned (.tuple #[]) ∧ DAt w' b m { d with fs := fput d.fs s.data.toList ⟨f.data ++ x, f.syn⟩ } ∧ But [m] w w' := by
  obtain ⟨w1, hrun, hm1, htu⟩ := HasMap.put (w := w.drew) h.map.drew hs hn ⟨f.data ++ x, f.syn⟩
  have c0 := h.c0
  have hfin : DAt w1 b m { d with fs := fput d.fs s.data.toList ⟨f.data ++ x, f.syn⟩ } ∧ But [m] w w1 := ⟨h.drew.setFs htu hm1, ((But.refl [m] w).drew).turned htu (by simp)⟩
  have H := Lib.hid hfin
  clear hfin hm1 htu h
  replace hrun : (Instr.mapUpdate 58 (.map (some m)) (.string s) (.agg #[.string (f.data ++ x), .int .i64 f.syn])).run Tryz.prog w.drew = .ok () w1 := hrun
  have hb' : ¬ 9223372036854775807 < f.data.size + x.size := by omega
  go_enter Tryz.func215, Tryz.ntmps215
  go_wp2
  go_region
  go_end0
  exact ⟨rfl, H.out⟩

/-- 'delete(d.files, name)' -/
theorem remove_fn (w : World) (b m p q : Nat) (d : Dk) (s : ByteArray) (h : DAt w b m d) (hs : s.size ≤ maxLen)
    (hp : w.cell? ⟨p, 0, none⟩ = some (.pointer (some ⟨b, 0, none⟩))) (hq : w.cell? ⟨q, 0, none⟩ = some (.string s)) :
    Calls Tryz.prog 140 #[.pointer (some ⟨p, 0, none⟩), .pointer (some ⟨q, 0, none⟩)] w fun e w' => e = .returned (.tuple #[]) ∧ DAt w' b m { d with fs := fdel d.fs s.data.toList } ∧ But [m] w w' := by
  obtain ⟨w1, hrun, hm1, htu⟩ := HasMap.del (w := w.drew) h.map.drew hs 0
  have c0 := h.c0
  have hfin : DAt w1 b m { d with fs := fdel d.fs s.data.toList } ∧ But [m] w w1 := ⟨h.drew.setFs htu hm1, ((But.refl [m] w).drew).turned htu (by simp)⟩
  have H := Lib.hid hfin
  clear hfin hm1 htu h
  go_enter Tryz.func140, Tryz.ntmps140
  go_wp2
  go_region
  go_end0
  exact ⟨rfl, H.out⟩

/-- 'd.files[name] = file{f.data, len(f.data)}' -/
theorem sync_fn (w : World) (b m p q t : Nat) (d : Dk) (s : ByteArray) (f : Fl) (h : DAt w b m d) (hs : s.size ≤ maxLen) (hn : d.fs.length < maxLen)
    (ht0 : w.cell? ⟨t, 0, none⟩ = some (.string f.data))
    (hp : w.cell? ⟨p, 0, none⟩ = some (.pointer (some ⟨b, 0, none⟩))) (hq : w.cell? ⟨q, 0, none⟩ = some (.string s)) :
    Calls Tryz.prog 207 #[.pointer (some ⟨t, 0, none⟩), .pointer (some ⟨p, 0, none⟩), .pointer (some ⟨q, 0, none⟩)] w fun e w' => e = .returned (.tuple #[]) ∧ DAt w' b m { d with fs := fput d.fs s.data.toList ⟨f.data, f.data.size⟩ } ∧ But [m] w w' := by
  obtain ⟨w1, hrun, hm1, htu⟩ := HasMap.put (w := w.drew) h.map.drew hs hn ⟨f.data, f.data.size⟩
  have c0 := h.c0
  have hfin : DAt w1 b m { d with fs := fput d.fs s.data.toList ⟨f.data, f.data.size⟩ } ∧ But [m] w w1 := ⟨h.drew.setFs htu hm1, ((But.refl [m] w).drew).turned htu (by simp)⟩
  have H := Lib.hid hfin
  clear hfin hm1 htu h
  replace hrun : (Instr.mapUpdate 58 (.map (some m)) (.string s) (.agg #[.string f.data, .int .i64 f.data.size])).run Tryz.prog w.drew = .ok () w1 := hrun
  go_enter Tryz.func207, Tryz.ntmps207
  go_wp2
  go_region
  go_end0
  exact ⟨rfl, H.out⟩

/-- 'delete(d.files, from); d.files[to] = f' -/
theorem rename_fn (w : World) (b m p q r t : Nat) (d : Dk) (s x : ByteArray) (f : Fl) (h : DAt w b m d) (hs : s.size ≤ maxLen) (hx : x.size ≤ maxLen) (hn : d.fs.length < maxLen)
    (ht0 : w.cell? ⟨t, 0, none⟩ = some (.string f.data)) (ht1 : w.cell? ⟨t, 1, none⟩ = some (.int .i64 f.syn)) (hr : w.cell? ⟨r, 0, none⟩ = some (.string x))
    (hp : w.cell? ⟨p, 0, none⟩ = some (.pointer (some ⟨b, 0, none⟩))) (hq : w.cell? ⟨q, 0, none⟩ = some (.string s)) :
    Calls Tryz.prog 294 #[.pointer (some ⟨p, 0, none⟩), .pointer (some ⟨q, 0, none⟩), .pointer (some ⟨t, 0, none⟩), .pointer (some ⟨r, 0, none⟩)] w fun e w' => e = .returned (.tuple #[]) ∧ DAt w' b m { d with fs := fput (fdel d.fs s.data.toList) x.data.toList f } ∧ But [m] w w' := by
  obtain ⟨w1, hrun1, hm1, htu1⟩ := HasMap.del (w := w.drew) h.map.drew hs 0
  obtain ⟨w2, hrun2, hm2, htu2⟩ := HasMap.put (w := w1.drew) hm1.drew hx (Nat.lt_of_le_of_lt (List.length_filter_le _ _) hn) f
  have c0 := h.c0
  have d1 := h.drew.setFs htu1 hm1
  have k0 := d1.c0
  have kt0 := turned_cell htu1 (show w.drew.cell? ⟨t, 0, none⟩ = _ from ht0)
  have kt1 := turned_cell htu1 (show w.drew.cell? ⟨t, 1, none⟩ = _ from ht1)
  have kr := turned_cell htu1 (show w.drew.cell? ⟨r, 0, none⟩ = _ from hr)
  have kp := turned_cell htu1 (show w.drew.cell? ⟨p, 0, none⟩ = _ from hp)
  have hfin : DAt w2 b m { d with fs := fput (fdel d.fs s.data.toList) x.data.toList f } ∧ But [m] w w2 := ⟨d1.drew.setFs htu2 hm2, (((But.refl [m] w).drew).turned htu1 (by simp)).drew.turned htu2 (by simp)⟩
  have H := Lib.hid hfin
  clear hfin hm1 htu1 hm2 htu2 h d1
  replace hrun2 : (Instr.mapUpdate 58 (.map (some m)) (.string x) (.agg #[.string f.data, .int .i64 f.syn])).run Tryz.prog w1.drew = .ok () w2 := hrun2
  go_enter Tryz.func294, Tryz.ntmps294
  go_wp2
  go_region
  go_wp2
  go_region
  go_end0
  exact ⟨rfl, H.out⟩
end Go.Proofs.YtcohbfabcdjefaaGreatDoor
