/-
  patchbaylaw02: TurnCounts' walk.
-/
import Derived.Test.YtabbkjciifnehaaLaw2c
set_option linter.unusedVariables false
set_option linter.unusedSimpArgs false
namespace Go.Proofs.Ytabbkjciifnehaa
open Go Go.PB
attribute [local irreducible] Mo Bin Eql Tr Wo Ap Wle
attribute [local instance] Pass.of_no

theorem insC_rds {L F : List HProp} {b o cc : Nat} {l : List Int} (hh : Has L (vec 1 (.slice (some ⟨b, o, none⟩) (l.length + 3) cc) (insC l)) F) : RdsO L (some ⟨b, o, none⟩) l.length (ints l) :=
  ⟨by simp, .inr ⟨b, o, rfl, fun i v hi => rd_vec hh (by unfold insC; rw [List.getElem?_append_left (List.getElem?_eq_some_iff.1 hi).1]; exact hi)⟩⟩

theorem cntF_le : ∀ (l : List Nat) (s a r : Nat), a ≤ 16384 → cntF s a l = some r → r ≤ 16384
  | [], s, a, r, h, e => by simp [cntF] at e; omega
  | n :: l, s, a, r, h, e => by
    simp only [cntF] at e
    cases hc : cntIn s a 0 n with
    | none => rw [hc] at e; cases e
    | some sa => rw [hc] at e; exact cntF_le l _ _ r (cntIn_le h hc) e

set_option maxHeartbeats 1000000 in
theorem counts_tr {L : List HProp} {a : Option Addr} {n c : Nat} {l : List Int} (hr : RdsO L a n (ints l)) (hb : n ≤ 17592186043904) :
    Tr Try.prog mT 5 [.slice a n c] L .idle fun v L' x' => v = .bool true ∧ x' = .idle := by
  have hn : n = l.length := by have := hr.1; simpa using this
  subst hn
  refine tr_of_body Try.func5 rfl Try.ntmps5 (by simp) fun um Q _ hQ => ?_
  simp only [argE, Nat.zero_add, Nat.reduceAdd]
  repeat (first
    | refine we_seq ?_
    | (refine we_region _ rfl rfl ?_; simp only [opsOf, List.map_cons, List.map_nil, Option.map_none, Option.map_some, List.getElem?_toArray, List.getElem?_cons_zero, List.getElem?_cons_succ, Option.bind_some, Option.getD_some])
    | refine wo_nil ?_
    | (apply wo_po; apply mo_move; exact rfl; (first | exact trivial | exact rfl))
    | (apply wo_po; apply mo_assign; exact rfl; (first | exact trivial | exact rfl)))
  refine wo_call (.cons rfl .nil) trivial (ints_tr hr hb) ?_
  rintro v1 L1 x1 ⟨b, o, cc, rfl, hcc, rfl, rfl⟩
  repeat (first
    | refine we_seq ?_
    | (refine we_region _ rfl rfl ?_; simp only [opsOf, List.map_cons, List.map_nil, Option.map_none, Option.map_some, List.getElem?_toArray, List.getElem?_cons_zero, List.getElem?_cons_succ, Option.bind_some, Option.getD_some])
    | refine wo_nil ?_
    | (apply wo_po; apply mo_move; exact rfl; (first | exact trivial | exact rfl))
    | (apply wo_po; apply mo_assign; exact rfl; (first | exact trivial | exact rfl)))
  refine wo_call (.cons rfl .nil) trivial (count_tr (insC_rds .here) hb) ?_
  rintro v1 L1 x1 ⟨rfl, rfl, rfl⟩
  obtain ⟨wr, hwr⟩ : ∃ w, wrongF l = w := ⟨_, rfl⟩
  have hrw := refWrong_tr (B := mT) (L := vec 1 (.slice (some ⟨b, o, none⟩) (l.length + 3) cc) (insC l) :: L) (x := (MX.idle : MX)) (c := c) hr.there hb
  rw [hwr] at hrw ⊢
  repeat (first
    | refine we_seq ?_
    | (refine we_region _ rfl rfl ?_; simp only [opsOf, List.map_cons, List.map_nil, Option.map_none, Option.map_some, List.getElem?_toArray, List.getElem?_cons_zero, List.getElem?_cons_succ, Option.bind_some, Option.getD_some])
    | refine wo_nil ?_
    | (apply wo_po; apply mo_move; exact rfl; (first | exact trivial | exact rfl))
    | (apply wo_po; apply mo_assign; exact rfl; (first | exact trivial | exact rfl))
    | (apply wo_po; apply mo_extract; exact rfl; exact rfl; (first | exact trivial | exact rfl)))
  refine wo_call (.cons rfl .nil) trivial hrw ?_
  rintro v1 L1 x1 ⟨rfl, rfl, rfl⟩
  by_cases h0 : wr = 0
  · subst h0
    obtain ⟨q, hq⟩ : ∃ q, cntF 0 1 (l.map Int.toNat) = q := ⟨_, rfl⟩
    have hrc := refCount_tr (B := mT) (L := vec 1 (.slice (some ⟨b, o, none⟩) (l.length + 3) cc) (insC l) :: L) (x := (MX.idle : MX)) (c := c) hr.there hb hwr
    rw [hq] at hrc ⊢
    rw [if_neg (by simp), if_neg (by simp)]
    repeat (first
      | (apply wo_po; apply mo_bin; exact rfl; exact rfl; apply bin_neqF; omega; (first | exact trivial | exact rfl))
      | refine we_seq ?_
      | (refine we_region _ rfl rfl ?_; simp only [opsOf, List.map_cons, List.map_nil, Option.map_none, Option.map_some, List.getElem?_toArray, List.getElem?_cons_zero, List.getElem?_cons_succ, Option.bind_some, Option.getD_some])
      | refine wo_nil ?_
      | (apply wo_po; apply mo_move; exact rfl; (first | exact trivial | exact rfl))
      | (apply wo_po; apply mo_assign; exact rfl; (first | exact trivial | exact rfl))
      | (apply we_condF; exact rfl; (first | exact rfl | (simp <;> omega) | omega))
      | refine we_skip ?_)
    refine wo_call (.cons rfl .nil) trivial hrc ?_
    rintro v1 L1 x1 ⟨rfl, rfl, rfl⟩
    cases q with
    | none =>
      simp only [Option.getD_none, Option.isSome_none, Bool.false_eq_true, if_false]
      repeat (first
        | (apply wo_po; apply mo_bin; exact rfl; exact rfl; apply bin_gtrT; omega; (first | exact trivial | exact rfl))
        | (apply wo_po; apply mo_bin; exact rfl; exact rfl; apply bin_eqlT; omega; (first | exact trivial | exact rfl))
        | refine we_seq ?_
        | (refine we_region _ rfl rfl ?_; simp only [opsOf, List.map_cons, List.map_nil, Option.map_none, Option.map_some, List.getElem?_toArray, List.getElem?_cons_zero, List.getElem?_cons_succ, Option.bind_some, Option.getD_some])
        | refine wo_nil ?_
        | (apply wo_po; apply mo_move; exact rfl; (first | exact trivial | exact rfl))
        | (apply wo_po; apply mo_assign; exact rfl; (first | exact trivial | exact rfl))
        | (apply wo_po; apply mo_pickT; exact rfl; exact rfl; exact rfl; (first | exact trivial | exact rfl))
        | (apply we_condT; exact rfl; (first | exact rfl | (simp <;> omega) | omega)))
      refine wo_call (.cons rfl (.cons rfl .nil)) rfl (kept_tr hr.there hb hcc .here) ?_
      rintro v1 L1 x1 ⟨rfl, rfl, rfl⟩
      repeat (first
        | refine wo_nil ?_
        | (apply wo_po; apply mo_assign; exact rfl; (first | exact trivial | exact rfl))
        | (apply wo_po; apply mo_pickT; exact rfl; exact rfl; exact rfl; (first | exact trivial | exact rfl))
        | refine we_ret ?_)
      (first | refine at_ret1 (ex := .ret) Try.func5 Try.results5 hQ (.inl rfl) rfl ?_ | refine at_ret1 (ex := .normal) Try.func5 Try.results5 hQ (.inr rfl) rfl ?_)
      exact ⟨rfl, rfl⟩
    | some r =>
      have hr16 := cntF_le _ _ _ r (by omega) hq
      simp only [Option.getD_some, Option.isSome_some, if_true]
      repeat (first
        | (apply wo_po; apply mo_bin; exact rfl; exact rfl; apply bin_gtrF; omega; (first | exact trivial | exact rfl))
        | (apply wo_po; apply mo_bin; exact rfl; exact rfl; apply bin_eqlT; omega; (first | exact trivial | exact rfl))
        | refine we_seq ?_
        | (refine we_region _ rfl rfl ?_; simp only [opsOf, List.map_cons, List.map_nil, Option.map_none, Option.map_some, List.getElem?_toArray, List.getElem?_cons_zero, List.getElem?_cons_succ, Option.bind_some, Option.getD_some])
        | refine wo_nil ?_
        | (apply wo_po; apply mo_move; exact rfl; (first | exact trivial | exact rfl))
        | (apply wo_po; apply mo_assign; exact rfl; (first | exact trivial | exact rfl))
        | (apply wo_po; apply mo_pickT; exact rfl; exact rfl; exact rfl; (first | exact trivial | exact rfl))
        | (apply we_condF; exact rfl; (first | exact rfl | (simp <;> omega) | omega))
        | refine we_skip ?_)
      refine wo_call (.cons rfl (.cons rfl .nil)) rfl (kept_tr hr.there hb hcc .here) ?_
      rintro v1 L1 x1 ⟨rfl, rfl, rfl⟩
      repeat (first
        | (apply wo_po; apply mo_move; exact rfl; (first | exact trivial | exact rfl))
        | (apply wo_po; apply mo_pickT; exact rfl; exact rfl; exact rfl; (first | exact trivial | exact rfl)))
      refine wo_call .nil rfl awake_tr ?_
      rintro v1 L1 x1 ⟨rfl, rfl, rfl⟩
      repeat (first
        | refine wo_nil ?_
        | (apply wo_po; apply mo_assign; exact rfl; (first | exact trivial | exact rfl))
        | (apply wo_po; apply mo_pickT; exact rfl; exact rfl; exact rfl; (first | exact trivial | exact rfl))
        | refine we_ret ?_)
      (first | refine at_ret1 (ex := .ret) Try.func5 Try.results5 hQ (.inl rfl) rfl ?_ | refine at_ret1 (ex := .normal) Try.func5 Try.results5 hQ (.inr rfl) rfl ?_)
      exact ⟨rfl, rfl⟩
  · rw [if_pos h0, if_pos h0]
    repeat (first
      | (apply wo_po; apply mo_bin; exact rfl; exact rfl; apply bin_eqlT; omega; (first | exact trivial | exact rfl))
      | (apply wo_po; apply mo_bin; exact rfl; exact rfl; apply bin_neqT; omega; (first | exact trivial | exact rfl))
      | refine we_seq ?_
      | (refine we_region _ rfl rfl ?_; simp only [opsOf, List.map_cons, List.map_nil, Option.map_none, Option.map_some, List.getElem?_toArray, List.getElem?_cons_zero, List.getElem?_cons_succ, Option.bind_some, Option.getD_some])
      | refine wo_nil ?_
      | (apply wo_po; apply mo_move; exact rfl; (first | exact trivial | exact rfl))
      | (apply wo_po; apply mo_assign; exact rfl; (first | exact trivial | exact rfl))
      | (apply wo_po; apply mo_pickT; exact rfl; exact rfl; exact rfl; (first | exact trivial | exact rfl))
      | (apply we_condT; exact rfl; (first | exact rfl | (simp <;> omega) | omega)))
    refine wo_call (.cons rfl (.cons rfl .nil)) rfl (kept_tr hr.there hb hcc .here) ?_
    rintro v1 L1 x1 ⟨rfl, rfl, rfl⟩
    repeat (first
      | (apply wo_po; apply mo_move; exact rfl; (first | exact trivial | exact rfl))
      | (apply wo_po; apply mo_pickT; exact rfl; exact rfl; exact rfl; (first | exact trivial | exact rfl)))
    refine wo_call .nil rfl awake_tr ?_
    rintro v1 L1 x1 ⟨rfl, rfl, rfl⟩
    repeat (first
      | refine wo_nil ?_
      | (apply wo_po; apply mo_assign; exact rfl; (first | exact trivial | exact rfl))
      | (apply wo_po; apply mo_pickT; exact rfl; exact rfl; exact rfl; (first | exact trivial | exact rfl))
      | refine we_ret ?_)
    (first | refine at_ret1 (ex := .ret) Try.func5 Try.results5 hQ (.inl rfl) rfl ?_ | refine at_ret1 (ex := .normal) Try.func5 Try.results5 hQ (.inr rfl) rfl ?_)
    exact ⟨rfl, rfl⟩
end Go.Proofs.Ytabbkjciifnehaa
