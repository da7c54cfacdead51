/-
  A QUEUE in memory of one's own, wherever its words lie: put and take, as a row of numbers.
-/
import Derived.Test.YtmkkanmkjfnpdaaRow7p
set_option linter.unusedVariables false
set_option linter.unusedSimpArgs false
namespace Go.Proofs.Ytmkkanmkjfnpdaa
open Go Go.PB
attribute [local irreducible] Mo Bin Eql Tr Wo Ap Wle

section
variable {B : Hand} [Lets B] {x : B.X} {n k N : Nat} {addr : Nat → Nat × Nat} {K : List (Nat × Nat × Value)} {ap : Apart addr N K}

/-- draw, alone: one try -/
theorem draw_lone (hN : 2 * n + 2 ≤ N) {w whose : Nat} (hw : w < 2) {s : Nat → Nat} {G : Option Nat → (Nat → Nat) → Prop} (hn : 0 < n)
    (g : if 9223372036854775808 ≤ (s (2 + 2 * (s w % n)) + 36893488147419103232 - s w - whose) % 18446744073709551616 then G none s
      else (s (2 + 2 * (s w % n)) + 36893488147419103232 - s w - whose) % 18446744073709551616 = 0 ∧ G (some (s w)) (upd s w ((s w + 1) % 18446744073709551616))) :
    DrawT (loneAcc x addr N K ap) n w whose s G := by
  intro X hX
  have hmod : s w % n < n := Nat.mod_lt _ hn
  refine hX _ ⟨by omega, by omega, ?_⟩
  show if 9223372036854775808 ≤ (s (2 + 2 * (s w % n)) + 36893488147419103232 - s w - whose) % 18446744073709551616 then G none s else _
  split
  · rename_i hc; rw [if_pos hc] at g; exact g
  · rename_i hc
    rw [if_neg hc] at g
    rw [if_neg (by rw [g.1]; omega)]
    refine ⟨by omega, ?_⟩
    rw [if_pos rfl]
    simpa using g.2


theorem put_rowG (hN : 2 * n + 2 ≤ N) (hn : n = 2 ^ k) (hk0 : 1 ≤ k) (hk : k ≤ 10) {v : Nat} {s : Nat → Nat} {row : List Nat} (R : RowAt n s row) {G : Bool → (Nat → Nat) → Prop}
    (g : ∀ s', RowAt n s' (if row.length < n then row ++ [v] else row) → (∀ j, 2 * n + 2 ≤ j → s' j = s j) → G (decide (row.length < n)) s') : PutT (loneAcc x addr N K ap) n v s G := by
  have hle : n ≤ 1024 := by rw [hn]; exact pow_le hk
  have hpos : 2 ≤ n := by have := Nat.pow_le_pow_right (n := 2) (by omega) hk0; omega
  have hp := put_plain (v := v) hn hk0 hk R
  have ht : s 0 < 18446744073709551616 := by rw [R.put]; exact Nat.mod_lt _ (by decide)
  have hm : s 0 % n < n := Nat.mod_lt _ (by omega)
  refine draw_lone hN (by omega) (by omega) ?_
  have e : (s (2 + 2 * (s 0 % n)) + 36893488147419103232 - s 0 - 0) % 18446744073709551616 = (s (2 + 2 * (s 0 % n)) + 18446744073709551616 - s 0) % 18446744073709551616 := by omega
  rw [e]
  by_cases hf : row.length < n
  · rw [if_pos hf] at hp g
    rw [decide_eq_true hf] at g
    rw [hp.1, if_neg (by omega)]
    refine ⟨rfl, ?_⟩
    dsimp only
    refine ⟨by show 3 + 2 * (s 0 % n) < N; omega, by show 2 + 2 * (s 0 % n) < N; omega, ?_⟩
    refine g _ hp.2 fun j hj => ?_
    rw [upd_other (by omega), upd_other (by omega), upd_other (by omega)]
  · rw [if_neg hf] at hp g
    rw [decide_eq_false hf] at g
    rw [if_pos hp]
    exact g _ R fun _ _ => rfl

theorem take_rowG (hN : 2 * n + 2 ≤ N) (hn : n = 2 ^ k) (hk0 : 1 ≤ k) (hk : k ≤ 10) {s : Nat → Nat} {row : List Nat} (R : RowAt n s row) {G : Option Nat → (Nat → Nat) → Prop}
    (g : ∀ s', RowAt n s' row.tail → (∀ j, 2 * n + 2 ≤ j → s' j = s j) → G row.head? s') : TakeT (loneAcc x addr N K ap) n s G := by
  have hle : n ≤ 1024 := by rw [hn]; exact pow_le hk
  have hpos : 2 ≤ n := by have := Nat.pow_le_pow_right (n := 2) (by omega) hk0; omega
  have hp := take_plain hn hk0 hk R
  have ht := R.t
  have hm : s 1 % n < n := Nat.mod_lt _ (by omega)
  refine draw_lone hN (by omega) (by omega) ?_
  have e : (s (2 + 2 * (s 1 % n)) + 36893488147419103232 - s 1 - 1) % 18446744073709551616 = (s (2 + 2 * (s 1 % n)) + 18446744073709551616 - (s 1 + 1) % 18446744073709551616) % 18446744073709551616 := by omega
  rw [e]
  cases row with
  | nil =>
    dsimp only at hp
    rw [if_pos hp]
    exact g _ R fun _ _ => rfl
  | cons v row =>
    dsimp only at hp
    obtain ⟨h1, h2, h3⟩ := hp
    rw [h1, if_neg (by omega)]
    refine ⟨rfl, ?_⟩
    dsimp only
    refine ⟨by show 3 + 2 * (s 1 % n) < N; omega, by show 2 + 2 * (s 1 % n) < N; omega, ?_⟩
    have h2' : upd s 1 ((s 1 + 1) % 18446744073709551616) (3 + 2 * (s 1 % n)) = v := by rw [upd_other (by omega)]; exact h2
    show G (some (upd s 1 ((s 1 + 1) % 18446744073709551616) (3 + 2 * (s 1 % n)))) _
    rw [h2']
    refine g _ h3 fun j hj => ?_
    rw [upd_other (by omega), upd_other (by omega)]
end
end Go.Proofs.Ytmkkanmkjfnpdaa
