/-
  Plain: the files of a disk as a list that rises by name, and how they read as a map. No program in sight.
-/
import Derived.Maps.OwnSet
import Derived.Maps.Views
namespace Go.Proofs.YtiiafpbonkcokaaGreat
open Go.Maps

abbrev Nm := List UInt8
/-- a file: its bytes, and how many of them are synced -/
structure Fl where
  data : ByteArray
  syn : Nat
abbrev Fs := List (Nm × Fl)
def fval (f : Fl) : Value := .agg #[.string f.data, .int .i64 f.syn]
def zval : Value := .agg #[.string ⟨#[]⟩, .int .i64 0]
def dent (x : Nm × Fl) : Lit × DataW Value := (.string x.1, .held (fval x.2))
def dat (F : Fs) : DataW Value := .map (F.map dent)
/-- how an element of the map reads: as itself -/
def fileElem (v : Value) : Option (DataW Value × List MemPlace) := some (.held v, [])

def fget (F : Fs) (k : Nm) : Option Fl := (F.find? (fun x => x.1 == k)).map (·.2)
def fhas (F : Fs) (k : Nm) : Bool := F.any (fun x => x.1 == k)
def fdel (F : Fs) (k : Nm) : Fs := F.filter (fun x => !(x.1 == k))
def fins (x : Nm × Fl) : Fs → Fs
  | [] => [x]
  | y :: r => if bytesBefore x.1 y.1 then x :: y :: r else y :: fins x r
def fput (F : Fs) (k : Nm) (f : Fl) : Fs := fins (k, f) (fdel F k)

theorem sameKey_str (a b : Nm) : (Lit.string a).sameKey (.string b) = (a == b) := rfl

theorem dat_del (F : Fs) (k : Nm) : (dat F).del (.string k) = dat (fdel F k) := by
  simp only [dat, DataW.del, fdel, DataW.map.injEq]
  rw [List.filter_map]
  rfl
theorem insert_dent (x : Nm × Fl) : ∀ F : Fs, DataW.insert (dent x) (F.map dent) = (fins x F).map dent
  | [] => rfl
  | y :: r => by
    simp only [List.map_cons, DataW.insert, fins]
    have e : (dent x).1.before (dent y).1 = bytesBefore x.1 y.1 := rfl
    rw [e]
    split
    · rfl
    · rw [List.map_cons, insert_dent x r]
theorem dat_put (F : Fs) (k : Nm) (f : Fl) : (dat F).put (.string k) (.held (fval f)) = dat (fput F k f) := by
  simp only [dat, DataW.put, fput, DataW.map.injEq]
  rw [← insert_dent]
  congr 1
  rw [List.filter_map]
  rfl
theorem dat_has (F : Fs) (k : Nm) : Maps.has (dat F) (.string k) = fhas F k := by
  simp only [dat, Maps.has_eq, fhas, List.any_map]
  rfl
theorem dat_at (F : Fs) (k : Nm) (z : DataW Value) : (dat F).atKey (.string k) z = match fget F k with | some f => .held (fval f) | none => z := by
  simp only [dat, DataW.atKey, fget]
  rw [List.find?_map]
  have e : ((fun p : Lit × DataW Value => p.1.sameKey (.string k)) ∘ dent) = (fun x : Nm × Fl => x.1 == k) := rfl
  rw [e]
  cases F.find? (fun x => x.1 == k) <;> rfl
theorem dat_size (F : Fs) : Maps.size (dat F) = F.length := by simp [dat, Maps.size_eq]
theorem fhas_get (F : Fs) (k : Nm) : fhas F k = (fget F k).isSome := by
  induction F with
  | nil => rfl
  | cons x r ih =>
    simp only [fhas, fget, List.any_cons, List.find?_cons] at ih ⊢
    cases x.1 == k
    · simpa using ih
    · rfl
end Go.Proofs.YtiiafpbonkcokaaGreat
