/-
  A RING with notes: what the program's call does and what the machine's call comes to are the same.
-/
import Derived.Test.YtdcbnbmahndecaaRing6o
import Derived.Test.YtdcbnbmahndecaaRow6
import Derived.Test.YtdcbnbmahndecaaNotes2
set_option linter.unusedVariables false
set_option linter.unusedSimpArgs false
namespace Go.Proofs.Ytdcbnbmahndecaa
open Go Go.PB
attribute [local irreducible] Mo Bin Eql Tr Wo Ap

section
variable {B : Hand} [Lets B] {x : B.X} {n k : Nat}

/-- the first N words -/
def rowOf (N : Nat) (f : Nat → Nat) : List Nat := (List.range N).map f

theorem rowOf_len {N : Nat} {f : Nat → Nat} : (rowOf N f).length = N := by simp [rowOf]
theorem rowOf_get {N i : Nat} {f : Nat → Nat} (h : i < N) : (rowOf N f)[i]? = some (f i) := by simp [rowOf, h]
theorem rowOf_set {N q v : Nat} {f : Nat → Nat} : (rowOf N f).set q v = rowOf N (upd f q v) := by
  apply List.ext_getElem?
  intro i
  rw [List.getElem?_set, rowOf_len]
  by_cases h : q = i
  · subst h
    by_cases hi : q < N
    · rw [if_pos rfl, if_pos hi, rowOf_get hi, upd_same]
    · rw [if_pos rfl, if_neg hi]; simp [rowOf, hi]
  · rw [if_neg h]
    by_cases hi : i < N
    · rw [rowOf_get hi, rowOf_get hi, upd_other (fun e => h e.symm)]
    · simp [rowOf, hi]

/-- a mark of the machine's, as the program tells it -/
def mkI (m : Nat × Nat) : Int × Nat := ((m.1 : Nat), m.2)

theorem done_comes {addr : Nat → Nat × Nat} {K : List (Nat × Nat × Value)} {A : Apart addr (n + 2) K} {nb : Nat} (hn : n = 2 ^ k) (hk : k ≤ 10) {kd v : Nat} (hv : v < 18446744073709551616) (f : Nat → Nat) :
    ∃ told f' ms, DoneT (notesAcc x addr (n + 2) K A nb) n kd v (f, []) (fun told' s' => told' = told ∧ s' = (f', ms.map mkI)) ∧ Mach.Comes 30 9 ⟨[rowOf (n + 2) f], 1⟩ (callCl n kd v) ⟨[rowOf (n + 2) f'], 1⟩ told ms ∧ ms.length ≤ 4 ∧ told.length ≤ 2 := by
  have hpos : 0 < n := by rw [hn]; exact Nat.two_pow_pos k
  by_cases k0 : kd = 0
  · rw [show callCl n kd v = Mach.putCl n v from if_pos k0]
    have h := Mach.put_alone hn hk (rowOf_len (f := f)) hv (rowOf_get (by omega)) (rowOf_get (by omega))
    have hm : f 1 % n < n := Nat.mod_lt _ hpos
    split at h
    · rename_i hd
      rw [rowOf_set, rowOf_set] at h
      refine ⟨_, _, _, (iff_of_eq (if_pos k0)).mpr ?_, h, by simp, by simp⟩
      refine ⟨by simp, by omega, by simp, by omega, ?_⟩
      show if n ≤ (f 1 + 18446744073709551616 - f 0) % 18446744073709551616 then _ else _
      rw [if_neg (by omega)]
      refine ⟨by simp, (show 2 + f 1 % n < n + 2 by omega), by simp, by omega, rfl, ?_⟩
      rw [Nat.add_comm 2]
      rfl
    · rename_i hd
      refine ⟨_, _, _, (iff_of_eq (if_pos k0)).mpr ?_, h, by simp, by simp⟩
      refine ⟨by simp, by omega, by simp, by omega, ?_⟩
      show if n ≤ (f 1 + 18446744073709551616 - f 0) % 18446744073709551616 then _ else _
      rw [if_pos (by omega)]
      exact ⟨rfl, rfl⟩
  · by_cases k1 : kd = 1
    · rw [show callCl n kd v = Mach.takeCl n from (if_neg k0).trans (if_pos k1)]
      have hm : f 0 % n < n := Nat.mod_lt _ hpos
      have h := Mach.take_alone hn hk (rowOf_len (f := f)) (rowOf_get (by omega)) (rowOf_get (by omega)) (rowOf_get (by omega))
      split at h
      · rename_i hd
        refine ⟨_, _, _, (iff_of_eq ((if_neg k0).trans (if_pos k1))).mpr ?_, h, by simp, by simp⟩
        refine ⟨by simp, by omega, by simp, by omega, ?_⟩
        show if f 0 = f 1 then _ else _
        rw [if_pos hd]
        exact ⟨rfl, rfl⟩
      · rename_i hd
        rw [rowOf_set] at h
        refine ⟨_, _, _, (iff_of_eq ((if_neg k0).trans (if_pos k1))).mpr ?_, h, by simp, by simp⟩
        refine ⟨by simp, by omega, by simp, by omega, ?_⟩
        show if f 0 = f 1 then _ else _
        rw [if_neg hd]
        refine ⟨by simp, (show 2 + f 0 % n < n + 2 by omega), by simp, by omega, ?_, ?_⟩
        · rw [Nat.add_comm 2]; rfl
        · rw [Nat.add_comm 2]; rfl
    · rw [show callCl n kd v = Mach.lenCl n from (if_neg k0).trans (if_neg k1)]
      have h := Mach.len_alone hn hk (rowOf_get (N := n + 2) (f := f) (i := 1) (by omega)) (rowOf_get (by omega))
      refine ⟨_, _, _, (iff_of_eq ((if_neg k0).trans (if_neg k1))).mpr ?_, h, by simp, by simp⟩
      exact ⟨by simp, by omega, by simp, by omega, rfl, rfl⟩

end
end Go.Proofs.Ytdcbnbmahndecaa
