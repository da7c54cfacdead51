/-
  queue.New: the row of a new queue; slots that may not be.
-/
import Derived.Test.YtmkkanmkjfnpdaaQueueN
import Derived.Test.YtmkkanmkjfnpdaaRef7w
import Derived.Test.YtmkkanmkjfnpdaaRow7p
import Derived.Test.YtmkkanmkjfnpdaaCom
set_option linter.unusedVariables false
set_option linter.unusedSimpArgs false
namespace Go.Proofs.Ytmkkanmkjfnpdaa
open Go Go.PB
attribute [local irreducible] Mo Bin Eql Tr Wo Ap Wle

section
variable {B : Hand} [Lets B] {L F G : List HProp} {x : B.X} {n k : Nat}

/-- the words of a new queue, as a row -/
theorem rowOf_succ {N : Nat} {f : Nat → Nat} : rowOf (N + 1) f = rowOf N f ++ [f N] := by
  simp [rowOf, List.range_succ]
def evenW (w : Nat) : Nat := if 2 ≤ w ∧ w % 2 = 0 then (w - 2) / 2 else 0
theorem even_row : ∀ n, rowOf (2 * n + 2) evenW = qwords n := by
  intro n
  induction n with
  | zero => rfl
  | succ n ih =>
    show rowOf ((2 * n + 2) + 1 + 1) evenW = _
    rw [rowOf_succ, rowOf_succ, ih, qwords_succ, List.append_assoc]
    have e1 : evenW (2 * n + 2) = n := by unfold evenW; rw [if_pos (by omega)]; omega
    have e2 : evenW (2 * n + 2 + 1) = 0 := by unfold evenW; rw [if_neg (by omega)]
    rw [e1, e2]; rfl
theorem seqs_row (n : Nat) : rowOf (2 * n + 2) (seqs n) = qwords n := by
  rw [← even_row]
  unfold rowOf
  refine List.map_congr_left fun w hw => ?_
  rw [List.mem_range] at hw
  unfold seqs evenW
  by_cases c : 2 ≤ w ∧ w % 2 = 0
  · rw [if_pos ⟨c.1, c.2, by omega⟩, if_pos c]
  · rw [if_neg (fun h => c ⟨h.1, h.2.1⟩), if_neg c]

theorem RowAt.seqs (h2 : 2 ≤ n) (hle : n ≤ 1024) : RowAt n (seqs n) [] := by
  refine ⟨by simp, rfl, by show 0 < 18446744073709551616; decide, fun i v hi => by simp at hi, fun i _ hi => ?_⟩
  show Go.Proofs.Ytmkkanmkjfnpdaa.seqs n (2 + 2 * ((0 + i) % n)) = (0 + i) % 18446744073709551616
  rw [Nat.zero_add, Nat.mod_eq_of_lt hi, Nat.mod_eq_of_lt (by omega)]
  unfold Go.Proofs.Ytmkkanmkjfnpdaa.seqs
  rw [if_pos (by omega)]
  omega

theorem and_self_pow {m : Nat} (h1 : 2 ≤ m) (h2 : m ≤ 1024) : (m &&& (m - 1) = 0) ↔ ∃ k, 1 ≤ k ∧ k ≤ 10 ∧ m = 2 ^ k := by
  constructor
  · intro h
    have key : ∀ m ∈ List.range 1025, m &&& (m - 1) = 0 → m = 0 ∨ m = 1 ∨ ∃ k ∈ List.range 11, 1 ≤ k ∧ m = 2 ^ k := by decide +kernel
    rcases key m (by simp; omega) h with h0 | h0 | ⟨k, hk, h0, h3⟩
    · omega
    · omega
    · exact ⟨k, h0, by simp at hk; omega, h3⟩
  · rintro ⟨k, _, hk, rfl⟩
    have key : ∀ k ∈ List.range 11, (2 ^ k) &&& (2 ^ k - 1) = 0 := by decide +kernel
    exact key k (by simp; omega)

theorem new_nopow {n : Int} (h : ¬ ∃ k : Nat, 1 ≤ k ∧ k ≤ 10 ∧ n = ((2 ^ k : Nat) : Int)) :
    Tr Try.prog B 35 [.int .i64 n] L x fun v L' x' => v = .tuple #[.pointer none, .int .i64 2] ∧ L' = L ∧ x' = x := by
  by_cases c1 : n < 2
  · refine tr_of_body Try.func35 rfl Try.ntmps35 (by simp) fun um Q hQ => ?_
    simp only [argE, Nat.zero_add, Nat.reduceAdd]
    repeat (first
      | (apply wo_po; apply mo_bin; exact rfl; exact rfl; apply bin_lssT; omega; (first | exact trivial | exact rfl))
      | refine we_seq ?_
      | (refine we_region _ rfl rfl ?_; simp only [opsOf, List.map_cons, List.map_nil, Option.map_none, Option.map_some, List.getElem?_toArray, List.getElem?_cons_zero, List.getElem?_cons_succ, Option.bind_some, Option.getD_some])
      | refine wo_nil ?_
      | (apply wo_po; apply mo_move; exact rfl; (first | exact trivial | exact rfl))
      | (apply wo_po; apply mo_assign; exact rfl; (first | exact trivial | exact rfl))
      | (apply wo_no; exact rfl)
      | (apply wo_po; apply mo_pickT; exact rfl; exact rfl; exact rfl; (first | exact trivial | exact rfl))
      | (apply we_condT; exact rfl; (first | exact rfl | (simp <;> omega) | omega))
      | refine we_ret ?_)
    (first | refine at_ret2 (ex := .ret) Try.func35 Try.results35 hQ (.inl rfl) rfl rfl ?_ | refine at_ret2 (ex := .normal) Try.func35 Try.results35 hQ (.inr rfl) rfl rfl ?_)
    exact ⟨rfl, rfl, rfl⟩
  by_cases c2 : 1024 < n
  · refine tr_of_body Try.func35 rfl Try.ntmps35 (by simp) fun um Q hQ => ?_
    simp only [argE, Nat.zero_add, Nat.reduceAdd]
    repeat (first
      | (apply wo_po; apply mo_bin; exact rfl; exact rfl; apply bin_lssF; omega; (first | exact trivial | exact rfl))
      | (apply wo_po; apply mo_bin; exact rfl; exact rfl; apply bin_gtrT; omega; (first | exact trivial | exact rfl))
      | refine we_seq ?_
      | (refine we_region _ rfl rfl ?_; simp only [opsOf, List.map_cons, List.map_nil, Option.map_none, Option.map_some, List.getElem?_toArray, List.getElem?_cons_zero, List.getElem?_cons_succ, Option.bind_some, Option.getD_some])
      | refine wo_nil ?_
      | (apply wo_po; apply mo_move; exact rfl; (first | exact trivial | exact rfl))
      | (apply wo_po; apply mo_assign; exact rfl; (first | exact trivial | exact rfl))
      | (apply wo_no; exact rfl)
      | (apply wo_po; apply mo_pickT; exact rfl; exact rfl; exact rfl; (first | exact trivial | exact rfl))
      | (apply wo_po; apply mo_pickF; exact rfl; exact rfl; exact rfl; (first | exact trivial | exact rfl))
      | (apply we_condT; exact rfl; (first | exact rfl | (simp <;> omega) | omega))
      | refine we_ret ?_)
    (first | refine at_ret2 (ex := .ret) Try.func35 Try.results35 hQ (.inl rfl) rfl rfl ?_ | refine at_ret2 (ex := .normal) Try.func35 Try.results35 hQ (.inr rfl) rfl rfl ?_)
    exact ⟨rfl, rfl, rfl⟩
  obtain ⟨n, rfl⟩ : ∃ m : Nat, n = m := ⟨n.toNat, by omega⟩
  have hand : ¬ IntKind.i64.wrap (BitVec.ofInt IntKind.i64.bits (n : Int) &&& BitVec.ofInt IntKind.i64.bits ((n : Int) - 1)).toNat = 0 := by
    have e1 : ((n : Int) - 1) = ((n - 1 : Nat) : Int) := by omega
    rw [e1, and_i64 (by omega) (by omega)]
    intro h0
    obtain ⟨k, k1, k2, e⟩ := (and_self_pow (by omega) (by omega)).1 (show n &&& (n - 1) = 0 by omega)
    exact h ⟨k, k1, k2, by rw [e]⟩
  obtain ⟨q, hq⟩ : ∃ q, IntKind.i64.wrap (BitVec.ofInt IntKind.i64.bits (n : Int) &&& BitVec.ofInt IntKind.i64.bits ((n : Int) - 1)).toNat = q := ⟨_, rfl⟩
  rw [hq] at hand
  refine tr_of_body Try.func35 rfl Try.ntmps35 (by simp) fun um Q hQ => ?_
  simp only [argE, Nat.zero_add, Nat.reduceAdd]
  repeat (first
    | (apply wo_po; apply mo_bin; exact rfl; exact rfl; apply bin_and; exact hq; (first | exact trivial | exact rfl))
    | (apply wo_po; apply mo_bin; exact rfl; exact rfl; apply bin_lssF; omega; (first | exact trivial | exact rfl))
    | (apply wo_po; apply mo_bin; exact rfl; exact rfl; apply bin_gtrF; omega; (first | exact trivial | exact rfl))
    | (apply wo_po; apply mo_bin; exact rfl; exact rfl; apply bin_neqT; omega; (first | exact trivial | exact rfl))
    | refine we_seq ?_
    | (refine we_region _ rfl rfl ?_; simp only [opsOf, List.map_cons, List.map_nil, Option.map_none, Option.map_some, List.getElem?_toArray, List.getElem?_cons_zero, List.getElem?_cons_succ, Option.bind_some, Option.getD_some])
    | refine wo_nil ?_
    | (apply wo_po; apply mo_move; exact rfl; (first | exact trivial | exact rfl))
    | (apply wo_po; apply mo_assign; exact rfl; (first | exact trivial | exact rfl))
    | (apply wo_po; apply mo_pickF; exact rfl; exact rfl; exact rfl; (first | exact trivial | exact rfl))
    | (apply wo_po; apply mo_bin; exact rfl; exact rfl; apply bin_sub; exact wrap_i64 (by omega) (by omega); (first | exact trivial | exact rfl))
    | (apply we_condT; exact rfl; (first | exact rfl | (simp <;> omega) | omega))
    | refine we_ret ?_)
  (first | refine at_ret2 (ex := .ret) Try.func35 Try.results35 hQ (.inl rfl) rfl rfl ?_ | refine at_ret2 (ex := .normal) Try.func35 Try.results35 hQ (.inr rfl) rfl rfl ?_)
  exact ⟨rfl, rfl, rfl⟩

end
end Go.Proofs.Ytmkkanmkjfnpdaa
