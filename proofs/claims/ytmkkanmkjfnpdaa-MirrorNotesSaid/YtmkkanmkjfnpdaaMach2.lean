/-
  patchbayref00's small functions: told, kind.
-/
import Derived.Test.YtmkkanmkjfnpdaaRef
import Derived.Test.YtmkkanmkjfnpdaaMach
set_option linter.unusedVariables false
set_option linter.unusedSimpArgs false
namespace Go.Proofs.Ytmkkanmkjfnpdaa
open Go Go.PB
attribute [local irreducible] Mo Bin Eql Tr Wo Ap

variable {B : Hand} [Lets B] {L F : List HProp} {x : B.X}

theorem told_tr {n : Nat} (hn : n ≤ 30) : Tr Try.prog B 91 [.int .i64 n] L x fun v L' x' => v = .bool (Mach.told n) ∧ L' = L ∧ x' = x := by
  by_cases h1 : 1 ≤ n
  · by_cases h2 : n ≤ 5
    · refine tr_of_body Try.func91 rfl Try.ntmps91 (by simp) fun um Q hQ => ?_
      simp only [argE, Nat.zero_add, Nat.reduceAdd]
      repeat (first
        | (apply wo_po; apply mo_bin; exact rfl; exact rfl; apply bin_leqT; omega; (first | exact trivial | exact rfl))
        | (apply wo_po; apply mo_bin; exact rfl; exact rfl; apply bin_geqT; omega; (first | exact trivial | exact rfl))
        | refine we_seq ?_
        | (refine we_region _ rfl rfl ?_; simp only [opsOf, List.map_cons, List.map_nil, Option.map_none, Option.map_some, List.getElem?_toArray, List.getElem?_cons_zero, List.getElem?_cons_succ, Option.bind_some, Option.getD_some])
        | refine wo_nil ?_
        | (apply wo_po; apply mo_move; exact rfl; (first | exact trivial | exact rfl))
        | (apply wo_po; apply mo_assign; exact rfl; (first | exact trivial | exact rfl))
        | (apply wo_po; apply mo_pickT; exact rfl; exact rfl; exact rfl; (first | exact trivial | exact rfl))
        | refine we_ret ?_)
      (first | refine at_ret1 (ex := .ret) Try.func91 Try.results91 hQ (.inl rfl) rfl ?_ | refine at_ret1 (ex := .normal) Try.func91 Try.results91 hQ (.inr rfl) rfl ?_)
      exact ⟨by simp [Mach.told, h1, h2], rfl, rfl⟩
    · refine tr_of_body Try.func91 rfl Try.ntmps91 (by simp) fun um Q hQ => ?_
      simp only [argE, Nat.zero_add, Nat.reduceAdd]
      repeat (first
        | (apply wo_po; apply mo_bin; exact rfl; exact rfl; apply bin_leqF; omega; (first | exact trivial | exact rfl))
        | (apply wo_po; apply mo_bin; exact rfl; exact rfl; apply bin_geqT; omega; (first | exact trivial | exact rfl))
        | refine we_seq ?_
        | (refine we_region _ rfl rfl ?_; simp only [opsOf, List.map_cons, List.map_nil, Option.map_none, Option.map_some, List.getElem?_toArray, List.getElem?_cons_zero, List.getElem?_cons_succ, Option.bind_some, Option.getD_some])
        | refine wo_nil ?_
        | (apply wo_po; apply mo_move; exact rfl; (first | exact trivial | exact rfl))
        | (apply wo_po; apply mo_assign; exact rfl; (first | exact trivial | exact rfl))
        | (apply wo_po; apply mo_pickT; exact rfl; exact rfl; exact rfl; (first | exact trivial | exact rfl))
        | refine we_ret ?_)
      (first | refine at_ret1 (ex := .ret) Try.func91 Try.results91 hQ (.inl rfl) rfl ?_ | refine at_ret1 (ex := .normal) Try.func91 Try.results91 hQ (.inr rfl) rfl ?_)
      exact ⟨by simp [Mach.told, h1, h2], rfl, rfl⟩
  · refine tr_of_body Try.func91 rfl Try.ntmps91 (by simp) fun um Q hQ => ?_
    simp only [argE, Nat.zero_add, Nat.reduceAdd]
    repeat (first
      | (apply wo_po; apply mo_bin; exact rfl; exact rfl; apply bin_geqF; omega; (first | exact trivial | exact rfl))
      | refine we_seq ?_
      | (refine we_region _ rfl rfl ?_; simp only [opsOf, List.map_cons, List.map_nil, Option.map_none, Option.map_some, List.getElem?_toArray, List.getElem?_cons_zero, List.getElem?_cons_succ, Option.bind_some, Option.getD_some])
      | refine wo_nil ?_
      | (apply wo_po; apply mo_move; exact rfl; (first | exact trivial | exact rfl))
      | (apply wo_po; apply mo_assign; exact rfl; (first | exact trivial | exact rfl))
      | (apply wo_no; exact rfl)
      | (apply wo_po; apply mo_pickF; exact rfl; exact rfl; exact rfl; (first | exact trivial | exact rfl))
      | refine we_ret ?_)
    (first | refine at_ret1 (ex := .ret) Try.func91 Try.results91 hQ (.inl rfl) rfl ?_ | refine at_ret1 (ex := .normal) Try.func91 Try.results91 hQ (.inr rfl) rfl ?_)
    exact ⟨by simp [Mach.told, h1], rfl, rfl⟩

theorem kind_tr {n : Nat} (hn : 1 ≤ n ∧ n ≤ 5) : Tr Try.prog B 93 [.int .i64 n] L x fun v L' x' => v = .int .u8 n ∧ L' = L ∧ x' = x := by
  have : n = 1 ∨ n = 2 ∨ n = 3 ∨ n = 4 ∨ n = 5 := by omega
  rcases this with rfl | rfl | rfl | rfl | rfl
  · refine tr_of_body Try.func93 rfl Try.ntmps93 (by simp) fun um Q hQ => ?_
    simp only [argE, Nat.zero_add, Nat.reduceAdd]
    repeat (first
      | (apply wo_po; apply mo_bin; exact rfl; exact rfl; apply bin_eqlT; omega; (first | exact trivial | exact rfl))
      | refine we_seq ?_
      | (refine we_region _ rfl rfl ?_; simp only [opsOf, List.map_cons, List.map_nil, Option.map_none, Option.map_some, List.getElem?_toArray, List.getElem?_cons_zero, List.getElem?_cons_succ, Option.bind_some, Option.getD_some])
      | refine wo_nil ?_
      | (apply wo_po; apply mo_move; exact rfl; (first | exact trivial | exact rfl))
      | (apply wo_po; apply mo_assign; exact rfl; (first | exact trivial | exact rfl))
      | (apply we_condT; exact rfl; (first | exact rfl | (simp <;> omega) | omega))
      | refine we_ret ?_
      | refine we_block ?_)
    (first | refine at_ret1 (ex := .ret) Try.func93 Try.results93 hQ (.inl rfl) rfl ?_ | refine at_ret1 (ex := .normal) Try.func93 Try.results93 hQ (.inr rfl) rfl ?_)
    exact ⟨rfl, rfl, rfl⟩
  · refine tr_of_body Try.func93 rfl Try.ntmps93 (by simp) fun um Q hQ => ?_
    simp only [argE, Nat.zero_add, Nat.reduceAdd]
    repeat (first
      | (apply wo_po; apply mo_bin; exact rfl; exact rfl; apply bin_eqlT; omega; (first | exact trivial | exact rfl))
      | (apply wo_po; apply mo_bin; exact rfl; exact rfl; apply bin_eqlF; omega; (first | exact trivial | exact rfl))
      | refine we_seq ?_
      | (refine we_region _ rfl rfl ?_; simp only [opsOf, List.map_cons, List.map_nil, Option.map_none, Option.map_some, List.getElem?_toArray, List.getElem?_cons_zero, List.getElem?_cons_succ, Option.bind_some, Option.getD_some])
      | refine wo_nil ?_
      | (apply wo_po; apply mo_move; exact rfl; (first | exact trivial | exact rfl))
      | (apply wo_po; apply mo_assign; exact rfl; (first | exact trivial | exact rfl))
      | (apply we_condT; exact rfl; (first | exact rfl | (simp <;> omega) | omega))
      | (apply we_condF; exact rfl; (first | exact rfl | (simp <;> omega) | omega))
      | refine we_ret ?_
      | refine we_block ?_)
    (first | refine at_ret1 (ex := .ret) Try.func93 Try.results93 hQ (.inl rfl) rfl ?_ | refine at_ret1 (ex := .normal) Try.func93 Try.results93 hQ (.inr rfl) rfl ?_)
    exact ⟨rfl, rfl, rfl⟩
  · refine tr_of_body Try.func93 rfl Try.ntmps93 (by simp) fun um Q hQ => ?_
    simp only [argE, Nat.zero_add, Nat.reduceAdd]
    repeat (first
      | (apply wo_po; apply mo_bin; exact rfl; exact rfl; apply bin_eqlT; omega; (first | exact trivial | exact rfl))
      | (apply wo_po; apply mo_bin; exact rfl; exact rfl; apply bin_eqlF; omega; (first | exact trivial | exact rfl))
      | refine we_seq ?_
      | (refine we_region _ rfl rfl ?_; simp only [opsOf, List.map_cons, List.map_nil, Option.map_none, Option.map_some, List.getElem?_toArray, List.getElem?_cons_zero, List.getElem?_cons_succ, Option.bind_some, Option.getD_some])
      | refine wo_nil ?_
      | (apply wo_po; apply mo_move; exact rfl; (first | exact trivial | exact rfl))
      | (apply wo_po; apply mo_assign; exact rfl; (first | exact trivial | exact rfl))
      | (apply we_condT; exact rfl; (first | exact rfl | (simp <;> omega) | omega))
      | (apply we_condF; exact rfl; (first | exact rfl | (simp <;> omega) | omega))
      | refine we_ret ?_
      | refine we_block ?_)
    (first | refine at_ret1 (ex := .ret) Try.func93 Try.results93 hQ (.inl rfl) rfl ?_ | refine at_ret1 (ex := .normal) Try.func93 Try.results93 hQ (.inr rfl) rfl ?_)
    exact ⟨rfl, rfl, rfl⟩
  · refine tr_of_body Try.func93 rfl Try.ntmps93 (by simp) fun um Q hQ => ?_
    simp only [argE, Nat.zero_add, Nat.reduceAdd]
    repeat (first
      | (apply wo_po; apply mo_bin; exact rfl; exact rfl; apply bin_eqlT; omega; (first | exact trivial | exact rfl))
      | (apply wo_po; apply mo_bin; exact rfl; exact rfl; apply bin_eqlF; omega; (first | exact trivial | exact rfl))
      | refine we_seq ?_
      | (refine we_region _ rfl rfl ?_; simp only [opsOf, List.map_cons, List.map_nil, Option.map_none, Option.map_some, List.getElem?_toArray, List.getElem?_cons_zero, List.getElem?_cons_succ, Option.bind_some, Option.getD_some])
      | refine wo_nil ?_
      | (apply wo_po; apply mo_move; exact rfl; (first | exact trivial | exact rfl))
      | (apply wo_po; apply mo_assign; exact rfl; (first | exact trivial | exact rfl))
      | (apply we_condT; exact rfl; (first | exact rfl | (simp <;> omega) | omega))
      | (apply we_condF; exact rfl; (first | exact rfl | (simp <;> omega) | omega))
      | refine we_ret ?_
      | refine we_block ?_)
    (first | refine at_ret1 (ex := .ret) Try.func93 Try.results93 hQ (.inl rfl) rfl ?_ | refine at_ret1 (ex := .normal) Try.func93 Try.results93 hQ (.inr rfl) rfl ?_)
    exact ⟨rfl, rfl, rfl⟩
  · refine tr_of_body Try.func93 rfl Try.ntmps93 (by simp) fun um Q hQ => ?_
    simp only [argE, Nat.zero_add, Nat.reduceAdd]
    repeat (first
      | (apply wo_po; apply mo_bin; exact rfl; exact rfl; apply bin_eqlF; omega; (first | exact trivial | exact rfl))
      | refine we_seq ?_
      | (refine we_region _ rfl rfl ?_; simp only [opsOf, List.map_cons, List.map_nil, Option.map_none, Option.map_some, List.getElem?_toArray, List.getElem?_cons_zero, List.getElem?_cons_succ, Option.bind_some, Option.getD_some])
      | refine wo_nil ?_
      | (apply wo_po; apply mo_move; exact rfl; (first | exact trivial | exact rfl))
      | (apply wo_po; apply mo_assign; exact rfl; (first | exact trivial | exact rfl))
      | (apply we_condF; exact rfl; (first | exact rfl | (simp <;> omega) | omega))
      | refine we_ret ?_
      | refine we_skip ?_
      | refine we_block ?_)
    (first | refine at_ret1 (ex := .ret) Try.func93 Try.results93 hQ (.inl rfl) rfl ?_ | refine at_ret1 (ex := .normal) Try.func93 Try.results93 hQ (.inr rfl) rfl ?_)
    exact ⟨rfl, rfl, rfl⟩

end Go.Proofs.Ytmkkanmkjfnpdaa
