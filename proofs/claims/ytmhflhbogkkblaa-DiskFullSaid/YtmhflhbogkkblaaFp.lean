/-
  The plain law of DiskFull: 256 files of two letters each (no program in sight).
-/
import Derived.Test.YtmhflhbogkkblaaIn
namespace Go.Proofs.Ytmhflhbogkkblaa
open Go.RowKit Go.Maps

def nmF (i : Nat) : Nm := [UInt8.ofNat (97 + i % 16), UInt8.ofNat (97 + i / 16)]
theorem nmF_name : ∀ i, i < 256 → nameB (nmF i) = true := by
  have h : ((List.range 256).all fun i => nameB (nmF i)) = true := by decide +kernel
  intro i hi
  exact List.all_eq_true.1 h i (List.mem_range.2 hi)
theorem nmF_inj {i j : Nat} (hi : i < 256) (hj : j < 256) (h : nmF i = nmF j) : i = j := by
  simp only [nmF, List.cons.injEq, and_true] at h
  have h1 := congrArg UInt8.toNat h.1
  have h2 := congrArg UInt8.toNat h.2
  simp only [UInt8.toNat_ofNat'] at h1 h2
  omega
def eF : Fl := ⟨⟨#[]⟩, 0⟩
/-- behind i of them -/
structure FullAt (i : Nat) (d : Dk) : Prop where
  calm : Calm d
  room : d.room = -1
  len : d.fs.length = i
  got : ∀ j, j < i → fget d.fs (nmF j) = some eF
  only : ∀ x ∈ d.fs, ∃ j, j < i ∧ x.1 = nmF j
  tot : total d.fs = 0
theorem FullAt.zero : FullAt 0 d0 := ⟨⟨Fit.d0, rfl, rfl⟩, rfl, rfl, fun j h => absurd h (by omega), (fun x h => by simp [d0] at h), rfl⟩
theorem FullAt.none {i : Nat} {d : Dk} (h : FullAt i d) {k : Nm} (hk : ∀ j, j < i → nmF j ≠ k) : fget d.fs k = none :=
  fget_none.2 fun f hm => by
    obtain ⟨j, hj, e⟩ := h.only _ hm
    exact hk j hj e.symm
theorem Calm.create_new {d : Dk} (h : Calm d) {k : Nm} (hn : nameB k = true) (hg : fget d.fs k = none) (hl : d.fs.length < 256) : createE d k = 0 ∧ createD d k = { d with fs := fput d.fs k eF } := by
  refine ⟨by simp [createE, h.up, hn, hg, h.chgE]; omega, ?_⟩
  simp [createD, h.up, hn, hg, h.chg, eF]
  omega
theorem FullAt.step {i : Nat} {d : Dk} (h : FullAt i d) (hi : i < 256) : createE d (nmF i) = 0 ∧ FullAt (i + 1) (createD d (nmF i)) := by
  have hg : fget d.fs (nmF i) = Option.none := h.none fun j hj e => by have := nmF_inj (by omega) hi e; omega
  have hc := h.calm.create_new (nmF_name i hi) hg (by have := h.len; omega)
  have hup := h.calm.fit.up
  have hf := h.calm.fit.create (nmF i)
  rw [hc.2] at hf ⊢
  refine ⟨hc.1, ⟨hf, h.calm.up, h.calm.fu⟩, h.room, ?_, fun j hj => ?_, fun x hx => ?_, ?_⟩
  · show (fput d.fs (nmF i) eF).length = i + 1
    rw [put_len, del_none hg, h.len]
  · show fget (fput d.fs (nmF i) eF) (nmF j) = some eF
    by_cases e : j = i
    · subst e; exact fget_put_same hup _ _
    · rw [fget_put_ne hup _ _ (fun e2 => e (nmF_inj (by omega) hi e2))]
      exact h.got j (by omega)
  · have hx' : x ∈ fput d.fs (nmF i) eF := hx
    rcases mem_fins.1 hx' with rfl | hx'
    · exact ⟨i, by omega, rfl⟩
    · obtain ⟨j, hj, e⟩ := h.only x (mem_fdel.1 hx').1
      exact ⟨j, by omega, e⟩
  · show total (fput d.fs (nmF i) eF) = 0
    rw [total_put, del_none hg, h.tot]; rfl

def zzN : Nm := [122, 122]
def aaN : Nm := [97, 97]
def abN : Nm := [97, 98]
theorem aa_is : aaN = nmF 0 := by decide +kernel
theorem ab_is : abN = nmF 16 := by decide +kernel
theorem zz_not (j : Nat) (hj : j < 256) : nmF j ≠ zzN := fun e => by
  simp only [nmF, zzN, List.cons.injEq, and_true] at e
  have h1 := congrArg UInt8.toNat e.1
  simp only [UInt8.toNat_ofNat'] at h1
  have : (122 : UInt8).toNat = 122 := rfl
  omega
/-- the end of the law -/
structure FullEnd (d : Dk) (m : Nat) (e1 e2 e3 e4 : Dk) : Prop where
  zz : createE d zzN = 6 ∧ createD d zzN = d
  a1 : appendE d aaN (zeros (1048576 - m)) = 0 ∧ appendD d aaN (zeros (1048576 - m)) = e1
  a2 : appendE e1 aaN (zeros (m + 1)) = 3 ∧ appendD e1 aaN (zeros (m + 1)) = e1
  a3 : appendE e1 aaN (zeros m) = 0 ∧ appendD e1 aaN (zeros m) = e2
  us : (total e2.fs : Int) = 1048576
  rm : removeE e2 abN = 0 ∧ removeD e2 abN = e3
  cr : createE e3 zzN = 0 ∧ createD e3 zzN = e4
  ln : (names e4.fs).length = 256
theorem zeros_size (n : Nat) : (zeros n).size = n := by simp [zeros, ByteArray.size]
theorem Calm.append_some {d : Dk} (h : Calm d) (hr : d.room = -1) {k : Nm} {y : Fl} {x : ByteArray} (hg : fget d.fs k = some y) (hs : ¬ 1048576 < y.data.size + x.size) :
    appendE d k x = 0 ∧ appendD d k x = { d with fs := fput d.fs k ⟨y.data ++ x, y.syn⟩ } := by
  refine ⟨?_, ?_⟩
  · simp only [appendE, h.up, hg, hs, hr, h.chgE, Bool.false_eq_true, if_false]; simp
  · simp only [appendD, h.up, hg, hs, hr, h.chg, Bool.false_eq_true, if_false]; simp
theorem FullAt.fin {d : Dk} (h : FullAt 256 d) (m : Nat) (hm : m < 256) : ∃ e1 e2 e3 e4, FullEnd d m e1 e2 e3 e4 := by
  have hup := h.calm.fit.up
  have ga : fget d.fs aaN = some eF := by rw [aa_is]; exact h.got 0 (by omega)
  have gb : fget d.fs abN = some eF := by rw [ab_is]; exact h.got 16 (by omega)
  have gz : fget d.fs zzN = Option.none := h.none zz_not
  have hab : abN ≠ aaN := by decide +kernel
  have hza : zzN ≠ aaN := by decide +kernel
  have hzb : zzN ≠ abN := by decide +kernel
  have hnz : nameB zzN = true := by decide +kernel
  obtain ⟨f1, hf1⟩ : ∃ f, f = (⟨eF.data ++ zeros (1048576 - m), eF.syn⟩ : Fl) := ⟨_, rfl⟩
  have he0 : eF.data.size = 0 := rfl
  have hs1 : f1.data.size = 1048576 - m := by rw [hf1, ByteArray.size_append, zeros_size, he0]; omega
  have k1 := h.calm.append_some h.room (x := zeros (1048576 - m)) ga (by rw [zeros_size, he0]; omega)
  rw [← hf1] at k1
  obtain ⟨e1, he1⟩ : ∃ e, e = ({ d with fs := fput d.fs aaN f1 } : Dk) := ⟨_, rfl⟩
  have c1 : Calm e1 := by
    have := h.calm.fit.append aaN (zeros (1048576 - m))
    rw [k1.2, ← he1] at this
    exact ⟨this, by rw [he1]; exact h.calm.up, by rw [he1]; exact h.calm.fu⟩
  have r1 : e1.room = -1 := by rw [he1]; exact h.room
  have g1 : fget e1.fs aaN = some f1 := by rw [he1]; exact fget_put_same hup _ _
  obtain ⟨f2, hf2⟩ : ∃ f, f = (⟨f1.data ++ zeros m, f1.syn⟩ : Fl) := ⟨_, rfl⟩
  have hs2 : f2.data.size = 1048576 := by rw [hf2]; simp only [ByteArray.size_append, zeros_size, hs1]; omega
  have k3 := c1.append_some r1 (x := zeros m) g1 (by rw [zeros_size, hs1]; omega)
  rw [← hf2] at k3
  obtain ⟨e2, he2⟩ : ∃ e, e = ({ e1 with fs := fput e1.fs aaN f2 } : Dk) := ⟨_, rfl⟩
  have c2 : Calm e2 := by
    have := c1.fit.append aaN (zeros m)
    rw [k3.2, ← he2] at this
    exact ⟨this, by rw [he2]; exact c1.up, by rw [he2]; exact c1.fu⟩
  have t0 := total_del hup ga
  have t1 : total e1.fs = total (fdel d.fs aaN) + f1.data.size := by rw [he1]; exact total_put _ _ _
  have t2 := total_del c1.fit.up g1
  have t3 : total e2.fs = total (fdel e1.fs aaN) + f2.data.size := by rw [he2]; exact total_put _ _ _
  have g2b : fget e2.fs abN = some eF := by
    rw [he2]
    show fget (fput e1.fs aaN f2) abN = _
    rw [fget_put_ne c1.fit.up _ _ hab, he1]
    show fget (fput d.fs aaN f1) abN = _
    rw [fget_put_ne hup _ _ hab, gb]
  have g2z : fget e2.fs zzN = Option.none := by
    rw [he2]
    show fget (fput e1.fs aaN f2) zzN = _
    rw [fget_put_ne c1.fit.up _ _ hza, he1]
    show fget (fput d.fs aaN f1) zzN = _
    rw [fget_put_ne hup _ _ hza, gz]
  have lp : ∀ {F : Fs} {k : Nm} {f g : Fl}, F.Pairwise (fun x y => bytesBefore x.1 y.1 = true) → fget F k = some g → (fput F k f).length = F.length := by
    intro F k f g hF hg
    have e := put_len (fdel F k) k g
    have e2 : fput (fdel F k) k g = F := Ytmhflhbogkkblaa.rename_self hF hg
    have e3 : fdel (fdel F k) k = fdel F k := del_none (fget_del_same F k)
    rw [e2, e3] at e
    rw [put_len, e]
  have l1 : e1.fs.length = 256 := by rw [he1]; show (fput d.fs aaN f1).length = 256; rw [lp hup ga, h.len]
  have l2 : e2.fs.length = 256 := by rw [he2]; show (fput e1.fs aaN f2).length = 256; rw [lp c1.fit.up g1, l1]
  obtain ⟨e3, he3⟩ : ∃ e, e = ({ e2 with fs := fdel e2.fs abN } : Dk) := ⟨_, rfl⟩
  have k4 : removeE e2 abN = 0 ∧ removeD e2 abN = e3 := by
    refine ⟨by simp [removeE, c2.up, g2b, c2.chgE], ?_⟩
    rw [he3]
    simp [removeD, c2.up, g2b, c2.chg]
  have c3 : Calm e3 := by
    have := c2.fit.remove abN
    rw [k4.2] at this
    exact ⟨this, by rw [he3]; exact c2.up, by rw [he3]; exact c2.fu⟩
  have l3 : e3.fs.length < 256 := by rw [he3, ← l2]; exact del_lt g2b
  have l3' : e3.fs.length + 1 = 256 := by
    rw [he3]
    show (fdel e2.fs abN).length + 1 = 256
    have e := put_len (fdel e2.fs abN) abN eF
    rw [Ytmhflhbogkkblaa.rename_self c2.fit.up g2b, del_none (fget_del_same e2.fs abN)] at e
    omega
  have g3z : fget e3.fs zzN = Option.none := by rw [he3]; show fget (fdel e2.fs abN) zzN = _; rw [fget_del_ne _ hzb, g2z]
  have k5 := c3.create_new hnz g3z l3
  refine ⟨e1, e2, e3, _, ⟨⟨by simp [createE, h.calm.up, hnz, gz, h.len], by simp [createD, h.calm.up, hnz, gz, h.len]⟩, ⟨k1.1, by rw [k1.2, ← he1]⟩, ⟨?_, ?_⟩, ⟨k3.1, by rw [k3.2, ← he2]⟩, ?_, k4, ⟨k5.1, rfl⟩, ?_⟩⟩
  · have hq : 1048576 < f1.data.size + (zeros (m + 1)).size := by rw [zeros_size, hs1]; omega
    simp only [appendE, c1.up, g1, hq, Bool.false_eq_true, if_false, if_true]
  · have hq : 1048576 < f1.data.size + (zeros (m + 1)).size := by rw [zeros_size, hs1]; omega
    simp only [appendD, c1.up, g1, hq, Bool.false_eq_true, if_false, if_true]
  · have : eF.data.size = 0 := rfl
    have := h.tot
    omega
  · rw [k5.2]
    show (names (fput e3.fs zzN eF)).length = 256
    have : (names (fput e3.fs zzN eF)).length = (fput e3.fs zzN eF).length := by simp [names]
    rw [this, put_len, del_none g3z, l3']
end Go.Proofs.Ytmhflhbogkkblaa
