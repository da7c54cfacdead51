/-
  SMALL FUNCTIONS OF THE DOCUMENT's ANSWER (package patchbayref00): Within.
-/
import Derived.Test.YtabbkjciifnehaaTy
import Derived.Test.YtabbkjciifnehaaFo
set_option linter.unusedVariables false
set_option linter.unusedSimpArgs false
namespace Go.Proofs.Ytabbkjciifnehaa
open Go Go.PB
attribute [local irreducible] Mo Bin Eql Tr Wo

variable {B : Hand} [Lets B] {L : List HProp} {x : B.X}
theorem tmod_emod {n k : Int} (hk : 0 < k) : (n.tmod k < 0 → n.tmod k + k = n % k) ∧ (¬ n.tmod k < 0 → n.tmod k = n % k) := by
  have h1 := Int.emod_nonneg n (by omega : k ≠ 0)
  have h2 := Int.emod_lt_of_pos n hk
  have h3 : n.tmod k = n % k - ((if 0 ≤ n ∨ k ∣ n then 0 else k.natAbs : Nat) : Int) := Int.tmod_eq_emod
  have h4 := Int.tmod_lt_of_pos n hk
  split at h3
  · constructor <;> intro h5 <;> omega
  · rename_i hn
    have h6 : n % k ≠ 0 := fun h => hn (.inr (Int.dvd_of_emod_eq_zero h))
    constructor <;> intro h5 <;> omega

theorem within_tr {n k : Int} (hn : -9223372036854775808 ≤ n ∧ n ≤ 9223372036854775807) (hk : 0 < k ∧ k ≤ 1000000) :
    Tr Try.prog B 23 [.int .i64 n, .int .i64 k] L x fun v L' x' => v = .int .i64 (n % k) ∧ L' = L ∧ x' = x := by
  have ht := tmod_emod (n := n) hk.1
  have h1 := Int.emod_nonneg n (by omega : k ≠ 0)
  have h2 := Int.emod_lt_of_pos n hk.1
  have hlt := Int.tmod_lt_of_pos n hk.1
  obtain ⟨m, hm⟩ : ∃ m, n % k = m := ⟨_, rfl⟩
  obtain ⟨t, hte⟩ : ∃ t, n.tmod k = t := ⟨_, rfl⟩
  rw [hm] at ht h1 h2
  rw [hte] at ht hlt
  rw [hm]
  by_cases hneg : t < 0
  · have e := ht.1 hneg
    refine tr_of_body Try.func23 rfl Try.ntmps23 (by simp) fun um Q _ hQ => ?_
    simp only [argE, Nat.zero_add, Nat.reduceAdd]
    repeat (first
      | (apply wo_po; apply mo_bin; exact rfl; exact rfl; apply bin_rem; omega; exact hte; exact trivial)
      | (apply wo_po; apply mo_bin; exact rfl; exact rfl; apply bin_lssT; omega; (first | exact trivial | exact rfl))
      | refine we_seq ?_
      | (refine we_region _ rfl rfl ?_; simp only [opsOf, List.map_cons, List.map_nil, Option.map_none, Option.map_some, List.getElem?_toArray, List.getElem?_cons_zero, List.getElem?_cons_succ, Option.bind_some, Option.getD_some])
      | refine wo_nil ?_
      | (apply wo_po; apply mo_move; exact rfl; (first | exact trivial | exact rfl))
      | (apply wo_po; apply mo_assign; exact rfl; (first | exact trivial | exact rfl))
      | (apply wo_po; apply mo_bin; exact rfl; exact rfl; apply bin_add; exact wrap_i64 (by omega) (by omega); (first | exact trivial | exact rfl))
      | (apply we_condT; exact rfl; (first | exact rfl | (simp <;> omega) | omega))
      | refine we_ret ?_)
    (first | refine at_ret1 (ex := .ret) Try.func23 Try.results23 hQ (.inl rfl) rfl ?_ | refine at_ret1 (ex := .normal) Try.func23 Try.results23 hQ (.inr rfl) rfl ?_)
    exact ⟨by rw [e], rfl, rfl⟩
  · have e := ht.2 hneg
    refine tr_of_body Try.func23 rfl Try.ntmps23 (by simp) fun um Q _ hQ => ?_
    simp only [argE, Nat.zero_add, Nat.reduceAdd]
    repeat (first
      | (apply wo_po; apply mo_bin; exact rfl; exact rfl; apply bin_rem; omega; exact hte; exact trivial)
      | (apply wo_po; apply mo_bin; exact rfl; exact rfl; apply bin_lssF; omega; (first | exact trivial | exact rfl))
      | refine we_seq ?_
      | (refine we_region _ rfl rfl ?_; simp only [opsOf, List.map_cons, List.map_nil, Option.map_none, Option.map_some, List.getElem?_toArray, List.getElem?_cons_zero, List.getElem?_cons_succ, Option.bind_some, Option.getD_some])
      | refine wo_nil ?_
      | (apply wo_po; apply mo_move; exact rfl; (first | exact trivial | exact rfl))
      | (apply wo_po; apply mo_assign; exact rfl; (first | exact trivial | exact rfl))
      | (apply we_condF; exact rfl; (first | exact rfl | (simp <;> omega) | omega))
      | refine we_ret ?_
      | refine we_skip ?_)
    (first | refine at_ret1 (ex := .ret) Try.func23 Try.results23 hQ (.inl rfl) rfl ?_ | refine at_ret1 (ex := .normal) Try.func23 Try.results23 hQ (.inr rfl) rfl ?_)
    exact ⟨by rw [e], rfl, rfl⟩



end Go.Proofs.Ytabbkjciifnehaa
