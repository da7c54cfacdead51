/-
  A QUEUE as a row of numbers.
-/
import Derived.Test.YtmkkanmkjfnpdaaQueue
import Derived.Test.YtmkkanmkjfnpdaaLone
import Derived.Test.YtmkkanmkjfnpdaaRef
set_option linter.unusedVariables false
set_option linter.unusedSimpArgs false
namespace Go.Proofs.Ytmkkanmkjfnpdaa
open Go Go.PB
attribute [local irreducible] Mo Bin Eql Tr Wo Ap Wle

/-- a queue as a row of numbers -/
structure RowAt (n : Nat) (s : Nat → Nat) (row : List Nat) : Prop where
  len : row.length ≤ n
  put : s 0 = (s 1 + row.length) % 18446744073709551616
  t : s 1 < 18446744073709551616
  full : ∀ i v, row[i]? = some v → s (2 + 2 * ((s 1 + i) % n)) = (s 1 + i + 1) % 18446744073709551616 ∧ s (3 + 2 * ((s 1 + i) % n)) = v
  free : ∀ i, row.length ≤ i → i < n → s (2 + 2 * ((s 1 + i) % n)) = (s 1 + i) % 18446744073709551616

theorem mod_pow {n k a : Nat} (hn : n = 2 ^ k) (hk : k ≤ 10) : a % 18446744073709551616 % n = a % n := by
  refine Nat.mod_mod_of_dvd a ?_
  rw [hn, show 18446744073709551616 = 2 ^ 64 from rfl]
  exact Nat.pow_dvd_pow 2 (by omega)

theorem mod_inj {n a i j : Nat} (hi : i < n) (hj : j < n) (h : (a + i) % n = (a + j) % n) : i = j := by
  rcases Nat.lt_trichotomy i j with hlt | rfl | hlt
  · have hd := Nat.sub_mod_eq_zero_of_mod_eq h.symm
    rw [Nat.mod_eq_of_lt (by omega)] at hd
    omega
  · rfl
  · have hd := Nat.sub_mod_eq_zero_of_mod_eq h
    rw [Nat.mod_eq_of_lt (by omega)] at hd
    omega

end Go.Proofs.Ytmkkanmkjfnpdaa
