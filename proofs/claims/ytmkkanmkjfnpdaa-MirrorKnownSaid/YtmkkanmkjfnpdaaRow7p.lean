/-
  A QUEUE with notes: what the program's calls do and what the machine's calls come to are the same.
-/
import Derived.Test.YtmkkanmkjfnpdaaRowA
import Derived.Test.YtmkkanmkjfnpdaaQueue7m
import Derived.Test.YtmkkanmkjfnpdaaNotes
set_option linter.unusedVariables false
set_option linter.unusedSimpArgs false
namespace Go.Proofs.Ytmkkanmkjfnpdaa
open Go Go.PB
attribute [local irreducible] Mo Bin Eql Tr Wo Ap

section
variable {n k : Nat}

theorem put_plain (hn : n = 2 ^ k) (hk0 : 1 ≤ k) (hk : k ≤ 10) {v : Nat} {s : Nat → Nat} {row : List Nat} (R : RowAt n s row) :
    if row.length < n then (s (2 + 2 * (s 0 % n)) + 18446744073709551616 - s 0) % 18446744073709551616 = 0 ∧ RowAt n (upd (upd (upd s 0 ((s 0 + 1) % 18446744073709551616)) (3 + 2 * (s 0 % n)) v) (2 + 2 * (s 0 % n)) ((s 0 + 1) % 18446744073709551616)) (row ++ [v])
    else 9223372036854775808 ≤ (s (2 + 2 * (s 0 % n)) + 18446744073709551616 - s 0) % 18446744073709551616 := by
  have hle : n ≤ 1024 := by rw [hn]; exact pow_le hk
  have hpos : 2 ≤ n := by have := Nat.pow_le_pow_right (n := 2) (by omega) hk0; omega
  obtain ⟨h1, h2, h3, h4, h5⟩ := R
  have hm : s 0 % n = (s 1 + row.length) % n := by rw [h2, mod_pow hn hk]
  have hmod : s 0 % n < n := Nat.mod_lt _ (by omega)
  by_cases hf : row.length < n
  · have hq := h5 row.length (Nat.le_refl _) hf
    rw [← hm, ← h2] at hq
    rw [hq, if_pos hf]
    refine ⟨by omega, ?_⟩
    obtain ⟨m, hme⟩ : ∃ m, s 0 % n = m := ⟨_, rfl⟩
    rw [hme] at hm hmod ⊢
    have e0 : ∀ y z, upd (upd (upd s 0 ((s 0 + 1) % 18446744073709551616)) (3 + 2 * m) y) (2 + 2 * m) z 0 = (s 0 + 1) % 18446744073709551616 := fun y z => by rw [upd_other (by omega), upd_other (by omega), upd_same]
    have e1 : ∀ y z, upd (upd (upd s 0 ((s 0 + 1) % 18446744073709551616)) (3 + 2 * m) y) (2 + 2 * m) z 1 = s 1 := fun y z => by rw [upd_other (by omega), upd_other (by omega), upd_other (by omega)]
    refine ⟨by simp; omega, ?_, ?_, ?_, ?_⟩
    · rw [e0, e1]
      simp only [List.length_append, List.length_cons, List.length_nil]
      omega
    · rw [e1]; exact h3
    · intro i u hi
      rw [e1]
      by_cases e : i = row.length
      · subst e
        rw [← hm]
        have hu : v = u := by simpa using hi
        refine ⟨by rw [upd_same]; omega, ?_⟩
        rw [upd_other (by omega), upd_same, hu]
      · have hi' : i < row.length := by
          have := (List.getElem?_eq_some_iff.1 hi).1
          simp at this; omega
        rw [List.getElem?_append_left hi'] at hi
        have hne : (s 1 + i) % n ≠ m := fun hx => by
          have := mod_inj (by omega) hf (hx.trans hm)
          omega
        rw [upd_other (by omega), upd_other (by omega), upd_other (by omega), upd_other (by omega), upd_other (by omega), upd_other (by omega)]
        exact h4 i u hi
    · intro i hi hin
      simp only [List.length_append, List.length_cons, List.length_nil] at hi
      rw [e1]
      have hne : (s 1 + i) % n ≠ m := fun hx => by
        have := mod_inj hin hf (hx.trans hm)
        omega
      rw [upd_other (by omega), upd_other (by omega), upd_other (by omega)]
      exact h5 i (by omega) hin
  · rw [if_neg hf]
    have hlen : row.length = n := by omega
    obtain ⟨v0, hv0⟩ : ∃ v, row[0]? = some v := ⟨row[0]'(by omega), by simp⟩
    have hq := (h4 0 v0 hv0).1
    rw [Nat.add_zero] at hq
    have hm' : s 0 % n = s 1 % n := by rw [hm, hlen, Nat.add_mod_right]
    rw [hm', hq, h2, hlen]
    omega

theorem take_plain (hn : n = 2 ^ k) (hk0 : 1 ≤ k) (hk : k ≤ 10) {s : Nat → Nat} {row : List Nat} (R : RowAt n s row) :
    match row with
    | [] => 9223372036854775808 ≤ (s (2 + 2 * (s 1 % n)) + 18446744073709551616 - (s 1 + 1) % 18446744073709551616) % 18446744073709551616
    | v :: row => (s (2 + 2 * (s 1 % n)) + 18446744073709551616 - (s 1 + 1) % 18446744073709551616) % 18446744073709551616 = 0 ∧ s (3 + 2 * (s 1 % n)) = v ∧ RowAt n (upd (upd s 1 ((s 1 + 1) % 18446744073709551616)) (2 + 2 * (s 1 % n)) ((s 1 + n) % 18446744073709551616)) row := by
  have hle : n ≤ 1024 := by rw [hn]; exact pow_le hk
  have hpos : 2 ≤ n := by have := Nat.pow_le_pow_right (n := 2) (by omega) hk0; omega
  obtain ⟨h1, h2, h3, h4, h5⟩ := R
  have hmod : s 1 % n < n := Nat.mod_lt _ (by omega)
  cases row with
  | nil =>
    have hq := h5 0 (by simp) (by omega)
    rw [Nat.add_zero] at hq
    show 9223372036854775808 ≤ (s (2 + 2 * (s 1 % n)) + 18446744073709551616 - (s 1 + 1) % 18446744073709551616) % 18446744073709551616
    rw [hq]; omega
  | cons v row =>
    simp only [List.length_cons] at h1 h2
    have hq := h4 0 v rfl
    rw [Nat.add_zero] at hq
    show (s (2 + 2 * (s 1 % n)) + 18446744073709551616 - (s 1 + 1) % 18446744073709551616) % 18446744073709551616 = 0 ∧ _
    rw [hq.1]
    refine ⟨by omega, hq.2, ?_⟩
    obtain ⟨m, hme⟩ : ∃ m, s 1 % n = m := ⟨_, rfl⟩
    rw [hme] at hq hmod ⊢
    have e0 : ∀ z, upd (upd s 1 ((s 1 + 1) % 18446744073709551616)) (2 + 2 * m) z 0 = s 0 := fun z => by rw [upd_other (by omega), upd_other (by omega)]
    have e1 : ∀ z, upd (upd s 1 ((s 1 + 1) % 18446744073709551616)) (2 + 2 * m) z 1 = (s 1 + 1) % 18446744073709551616 := fun z => by rw [upd_other (by omega), upd_same]
    have em : ∀ i, ((s 1 + 1) % 18446744073709551616 + i) % n = (s 1 + (i + 1)) % n := fun i => by
      rw [← mod_pow (a := s 1 + (i + 1)) hn hk, ← mod_pow (a := (s 1 + 1) % 18446744073709551616 + i) hn hk]
      congr 1
      omega
    refine ⟨by omega, ?_, ?_, ?_, ?_⟩
    · rw [e0, e1]; omega
    · rw [e1]; exact Nat.mod_lt _ (by decide)
    · intro i u hi
      rw [e1, em]
      have hi' := (List.getElem?_eq_some_iff.1 hi).1
      have hne : (s 1 + (i + 1)) % n ≠ m := fun hx => by
        have := mod_inj (i := i + 1) (j := 0) (by omega) (by omega) (hx.trans (by rw [Nat.add_zero]; exact hme.symm))
        omega
      rw [upd_other (by omega), upd_other (by omega), upd_other (by omega), upd_other (by omega)]
      have := h4 (i + 1) u hi
      exact ⟨by rw [this.1]; omega, this.2⟩
    · intro i hi hin
      rw [e1, em]
      by_cases e : i + 1 = n
      · rw [show (s 1 + (i + 1)) % n = m by rw [e, Nat.add_mod_right, hme], upd_same]
        omega
      · have hne : (s 1 + (i + 1)) % n ≠ m := fun hx => by
          have := mod_inj (i := i + 1) (j := 0) (by omega) (by omega) (hx.trans (by rw [Nat.add_zero]; exact hme.symm))
          omega
        rw [upd_other (by omega), upd_other (by omega), h5 (i + 1) (by simp; omega) (by omega)]
        omega
end
end Go.Proofs.Ytmkkanmkjfnpdaa
