/-
  THE QUEUE, ALONE: as a row of numbers.
-/
import Derived.Test.YthghlchcjeocpaaQueue2
import Derived.Test.YthghlchcjeocpaaLone
import Derived.Test.YthghlchcjeocpaaRef
import Derived.Test.YthghlchcjeocpaaFp
set_option linter.unusedVariables false
set_option linter.unusedSimpArgs false
namespace Go.Proofs.Ythghlchcjeocpaa
open Go Go.PB
attribute [local irreducible] Mo Bin Eql Tr Wo Ap

/-- the access to a queue in memory of one's own -/
def queueAcc (x : solo0.X) (r b n : Nat) (h : r ≠ b) : Acc solo0 .nilIface := loneAcc x (twoAddr r b) (2 * n + 2) _ (two_apart h (.slice (some ⟨b, 0, none⟩) n n))

theorem queue_at {x : solo0.X} {r b n k : Nat} (h : r ≠ b) (hn : n = 2 ^ k) (hk : k ≤ 10) : QueueAt (queueAcc x r b n h) r b n k where
  hn := hn
  hk := hk
  hdr := fun s h hs => by
    obtain ⟨h1, h2, s1, hc, _⟩ := hs
    exact ⟨rfl, .inl (s1.o1 _ _ _ (hc.2 (r, 2, .slice (some ⟨b, 0, none⟩) n n) (List.mem_singleton.2 rfl)))⟩
  a0 := rfl
  a1 := rfl
  a2 := fun i _ => by show twoAddr r b (2 + i) = _; rw [Nat.add_comm]; rfl

/-- a queue as a row of numbers -/
structure RowAt (n : Nat) (s : Nat → Nat) (row : List Nat) : Prop where
  len : row.length ≤ n
  put : s 0 = (s 1 + row.length) % 18446744073709551616
  t : s 1 < 18446744073709551616
  full : ∀ i v, row[i]? = some v → s (2 + 2 * ((s 1 + i) % n)) = (s 1 + i + 1) % 18446744073709551616 ∧ s (3 + 2 * ((s 1 + i) % n)) = v
  free : ∀ i, row.length ≤ i → i < n → s (2 + 2 * ((s 1 + i) % n)) = (s 1 + i) % 18446744073709551616

theorem mod_pow {n k a : Nat} (hn : n = 2 ^ k) (hk : k ≤ 10) : a % 18446744073709551616 % n = a % n := by
  refine Nat.mod_mod_of_dvd a ?_
  rw [hn, show 18446744073709551616 = 2 ^ 64 from rfl]
  exact Nat.pow_dvd_pow 2 (by omega)

theorem mod_inj {n a i j : Nat} (hi : i < n) (hj : j < n) (h : (a + i) % n = (a + j) % n) : i = j := by
  rcases Nat.lt_trichotomy i j with hlt | rfl | hlt
  · have hd := Nat.sub_mod_eq_zero_of_mod_eq h.symm
    rw [Nat.mod_eq_of_lt (by omega)] at hd
    omega
  · rfl
  · have hd := Nat.sub_mod_eq_zero_of_mod_eq h
    rw [Nat.mod_eq_of_lt (by omega)] at hd
    omega

section
variable {x : solo0.X} {r b n k : Nat} {h : r ≠ b}

/-- draw, alone: one try -/
theorem draw_lone {w whose : Nat} (hw : w < 2) {s : Nat → Nat} {G : Option Nat → (Nat → Nat) → Prop} (hn : 0 < n)
    (g : if 9223372036854775808 ≤ (s (2 + 2 * (s w % n)) + 36893488147419103232 - s w - whose) % 18446744073709551616 then G none s
      else (s (2 + 2 * (s w % n)) + 36893488147419103232 - s w - whose) % 18446744073709551616 = 0 ∧ G (some (s w)) (upd s w ((s w + 1) % 18446744073709551616))) :
    DrawT (queueAcc x r b n h) n w whose s G := by
  intro X hX
  have hmod : s w % n < n := Nat.mod_lt _ hn
  refine hX _ ⟨by omega, by omega, ?_⟩
  show if 9223372036854775808 ≤ (s (2 + 2 * (s w % n)) + 36893488147419103232 - s w - whose) % 18446744073709551616 then G none s else _
  split
  · rename_i hc; rw [if_pos hc] at g; exact g
  · rename_i hc
    rw [if_neg hc] at g
    rw [if_neg (by rw [g.1]; omega)]
    refine ⟨by omega, ?_⟩
    rw [if_pos rfl]
    simpa using g.2

theorem put_row (hn : n = 2 ^ k) (hk0 : 1 ≤ k) (hk : k ≤ 10) {v : Nat} {s : Nat → Nat} {row : List Nat} (R : RowAt n s row) :
    PutT (queueAcc x r b n h) n v s fun q s' => q = decide (row.length < n) ∧ RowAt n s' (if row.length < n then row ++ [v] else row) := by
  have hle : n ≤ 1024 := by rw [hn]; exact pow_le hk
  have hpos : 2 ≤ n := by have := Nat.pow_le_pow_right (n := 2) (by omega) hk0; omega
  obtain ⟨h1, h2, h3, h4, h5⟩ := R
  have hm : s 0 % n = (s 1 + row.length) % n := by rw [h2, mod_pow hn hk]
  have hmod : s 0 % n < n := Nat.mod_lt _ (by omega)
  refine draw_lone (by omega) (by omega) ?_
  by_cases hf : row.length < n
  · have hq := h5 row.length (Nat.le_refl _) hf
    rw [← hm, ← h2] at hq
    rw [hq, show (s 0 + 36893488147419103232 - s 0 - 0) % 18446744073709551616 = 0 by omega, if_neg (by omega), if_pos hf]
    refine ⟨rfl, ?_⟩
    obtain ⟨m, hme⟩ : ∃ m, s 0 % n = m := ⟨_, rfl⟩
    simp only
    rw [hme] at hm hmod ⊢
    refine ⟨by omega, by omega, by simp; omega, ?_⟩
    have e0 : ∀ y z, upd (upd (upd s 0 ((s 0 + 1) % 18446744073709551616)) (3 + 2 * m) y) (2 + 2 * m) z 0 = (s 0 + 1) % 18446744073709551616 := fun y z => by rw [upd_other (by omega), upd_other (by omega), upd_same]
    have e1 : ∀ y z, upd (upd (upd s 0 ((s 0 + 1) % 18446744073709551616)) (3 + 2 * m) y) (2 + 2 * m) z 1 = s 1 := fun y z => by rw [upd_other (by omega), upd_other (by omega), upd_other (by omega)]
    refine ⟨by simp; omega, ?_, ?_, ?_, ?_⟩
    · rw [e0, e1]
      simp only [List.length_append, List.length_cons, List.length_nil]
      omega
    · rw [e1]; exact h3
    · intro i u hi
      rw [e1]
      by_cases e : i = row.length
      · subst e
        rw [← hm]
        have hu : v = u := by simpa using hi
        refine ⟨by rw [upd_same]; omega, ?_⟩
        rw [upd_other (by omega), upd_same, hu]
      · have hi' : i < row.length := by
          have := (List.getElem?_eq_some_iff.1 hi).1
          simp at this; omega
        rw [List.getElem?_append_left hi'] at hi
        have hne : (s 1 + i) % n ≠ m := fun hx => by
          have := mod_inj (by omega) hf (hx.trans hm)
          omega
        rw [upd_other (by omega), upd_other (by omega), upd_other (by omega), upd_other (by omega), upd_other (by omega), upd_other (by omega)]
        exact h4 i u hi
    · intro i hi hin
      simp only [List.length_append, List.length_cons, List.length_nil] at hi
      rw [e1]
      have hne : (s 1 + i) % n ≠ m := fun hx => by
        have := mod_inj hin hf (hx.trans hm)
        omega
      rw [upd_other (by omega), upd_other (by omega), upd_other (by omega)]
      exact h5 i (by omega) hin
  · have hlen : row.length = n := by omega
    obtain ⟨v0, hv0⟩ : ∃ v, row[0]? = some v := ⟨row[0]'(by omega), by simp⟩
    have hq := (h4 0 v0 hv0).1
    rw [Nat.add_zero] at hq
    have hm' : s 0 % n = s 1 % n := by rw [hm, hlen, Nat.add_mod_right]
    rw [hm', hq, if_pos (by rw [h2, hlen]; omega)]
    refine ⟨by simp [hf], ?_⟩
    rw [if_neg hf]
    exact ⟨h1, h2, h3, h4, h5⟩

theorem take_rowG (hn : n = 2 ^ k) (hk0 : 1 ≤ k) (hk : k ≤ 10) {s : Nat → Nat} {row : List Nat} (R : RowAt n s row) {G : Option Nat → (Nat → Nat) → Prop} (g : ∀ s', RowAt n s' row.tail → G row.head? s') :
    TakeT (queueAcc x r b n h) n s G := by
  have hle : n ≤ 1024 := by rw [hn]; exact pow_le hk
  have hpos : 2 ≤ n := by have := Nat.pow_le_pow_right (n := 2) (by omega) hk0; omega
  obtain ⟨h1, h2, h3, h4, h5⟩ := R
  have hmod : s 1 % n < n := Nat.mod_lt _ (by omega)
  refine draw_lone (by omega) (by omega) ?_
  cases row with
  | nil =>
    have hq := h5 0 (by simp) (by omega)
    rw [Nat.add_zero] at hq
    rw [hq, if_pos (by omega)]
    exact g s ⟨h1, h2, h3, h4, h5⟩
  | cons v row =>
    simp only [List.length_cons] at h1 h2
    have hq := h4 0 v rfl
    rw [Nat.add_zero] at hq
    rw [hq.1, if_neg (by omega)]
    refine ⟨by omega, ?_⟩
    obtain ⟨m, hme⟩ : ∃ m, s 1 % n = m := ⟨_, rfl⟩
    simp only
    rw [hme] at hq hmod ⊢
    have ev : upd s 1 ((s 1 + 1) % 18446744073709551616) (3 + 2 * m) = v := by rw [upd_other (by omega)]; exact hq.2
    refine ⟨by omega, by omega, ?_⟩
    · show G (some (upd s 1 ((s 1 + 1) % 18446744073709551616) (3 + 2 * m))) _
      rw [ev]
      refine g _ ?_
      have e0 : ∀ z, upd (upd s 1 ((s 1 + 1) % 18446744073709551616)) (2 + 2 * m) z 0 = s 0 := fun z => by rw [upd_other (by omega), upd_other (by omega)]
      have e1 : ∀ z, upd (upd s 1 ((s 1 + 1) % 18446744073709551616)) (2 + 2 * m) z 1 = (s 1 + 1) % 18446744073709551616 := fun z => by rw [upd_other (by omega), upd_same]
      have em : ∀ i, ((s 1 + 1) % 18446744073709551616 + i) % n = (s 1 + (i + 1)) % n := fun i => by
        rw [← mod_pow (a := s 1 + (i + 1)) hn hk, ← mod_pow (a := (s 1 + 1) % 18446744073709551616 + i) hn hk]
        congr 1
        omega
      refine ⟨by simp; omega, ?_, ?_, ?_, ?_⟩
      · rw [e0, e1, List.tail_cons]; omega
      · rw [e1]; exact Nat.mod_lt _ (by decide)
      · intro i u hi
        rw [e1, em]
        have hi' := (List.getElem?_eq_some_iff.1 hi).1
        simp only [List.tail_cons] at hi'
        have hne : (s 1 + (i + 1)) % n ≠ m := fun hx => by
          have := mod_inj (i := i + 1) (j := 0) (by omega) (by omega) (hx.trans (by rw [Nat.add_zero]; exact hme.symm))
          omega
        rw [upd_other (by omega), upd_other (by omega), upd_other (by omega), upd_other (by omega)]
        have := h4 (i + 1) u hi
        exact ⟨by rw [this.1]; omega, this.2⟩
      · intro i hi hin
        rw [e1, em]
        simp only [List.tail_cons] at hi
        by_cases e : i + 1 = n
        · rw [show (s 1 + (i + 1)) % n = m by rw [e, Nat.add_mod_right, hme], upd_same]
          omega
        · have hne : (s 1 + (i + 1)) % n ≠ m := fun hx => by
            have := mod_inj (i := i + 1) (j := 0) (by omega) (by omega) (hx.trans (by rw [Nat.add_zero]; exact hme.symm))
            omega
          rw [upd_other (by omega), upd_other (by omega), h5 (i + 1) (by simp; omega) (by omega)]
          omega

theorem take_row (hn : n = 2 ^ k) (hk0 : 1 ≤ k) (hk : k ≤ 10) {s : Nat → Nat} {row : List Nat} (R : RowAt n s row) :
    TakeT (queueAcc x r b n h) n s fun q s' => q = row.head? ∧ RowAt n s' row.tail := take_rowG hn hk0 hk R fun s' h => ⟨rfl, h⟩

theorem drain_row (hn : n = 2 ^ k) (hk0 : 1 ≤ k) (hk : k ≤ 10) : ∀ (f : Nat) {acc : List Nat} {s : Nat → Nat} {row : List Nat}, row.length ≤ f → RowAt n s row →
    DrainT (queueAcc x r b n h) n f acc s fun out s' => out = acc ++ row ∧ RowAt n s' [] := by
  intro f
  induction f with
  | zero =>
    intro acc s row hl R
    cases row with
    | nil => exact ⟨by simp, R⟩
    | cons a l => simp at hl
  | succ f ih =>
    intro acc s row hl R
    refine take_rowG hn hk0 hk R fun s' R' => ?_
    cases row with
    | nil => exact ⟨by simp, R'⟩
    | cons a l =>
      have := ih (acc := acc ++ [a]) (by simpa using hl) R'
      simpa using this
end

end Go.Proofs.Ythghlchcjeocpaa
