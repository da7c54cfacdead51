/-
  patchbaylaw14: what is not there; GaugeNames.
-/
import Derived.Test.YtnnpdmhmpgmpnaaLaw14c
set_option linter.unusedVariables false
set_option linter.unusedSimpArgs false
namespace Go.Proofs.Ytnnpdmhmpgmpnaa
open Go Go.PB
attribute [local irreducible] Mo Bin Eql Tr Wo Ap Wle

section
variable {B : Hand} [Lets B] {x : B.X} {r limit fails wait now nb : Nat} {L F : List HProp} {s : Nat → Nat} {ms : List (Int × Nat)} {gv : Value} {v0 : Option Addr}

/-- nothing that is there -/
def NoneAt (L : List HProp) (v : Option Addr) : Prop := v = none ∨ ∃ r, v = some ⟨r, 0, none⟩ ∧ Rd L r 0 (.int .u64 0)
omit [Lets B] in
theorem NoneAt.there {c : HProp} (h : NoneAt L v0) : NoneAt (c :: L) v0 := h.imp id fun ⟨r, e, hr⟩ => ⟨r, e, .there hr⟩

theorem gnil_tr (h : NoneAt L v0) : Tr Try.prog B 52 [.pointer v0] L x fun v L' x' => v = .bool true ∧ L' = L ∧ x' = x := by
  rcases h with rfl | ⟨r, rfl, hr⟩
  · refine tr_of_body Try.func52 rfl Try.ntmps52 (by simp) fun um Q hQ => ?_
    simp only [argE, Nat.zero_add, Nat.reduceAdd]
    repeat (first
      | refine we_seq ?_
      | (refine we_region _ rfl rfl ?_; simp only [opsOf, List.map_cons, List.map_nil, Option.map_none, Option.map_some, List.getElem?_toArray, List.getElem?_cons_zero, List.getElem?_cons_succ, Option.bind_some, Option.getD_some])
      | refine wo_nil ?_
      | (apply wo_po; apply mo_move; exact rfl; (first | exact trivial | exact rfl))
      | (apply wo_po; apply mo_assign; exact rfl; (first | exact trivial | exact rfl))
      | (apply wo_no; exact rfl)
      | (apply wo_po; apply mo_pickT; exact rfl; exact rfl; exact rfl; (first | exact trivial | exact rfl))
      | (apply wo_po; apply mo_bin; exact rfl; exact rfl; apply bin_eq; apply eql_ptr_nil; (first | exact trivial | exact rfl))
      | refine we_ret ?_)
    (first | refine at_ret1 (ex := .ret) Try.func52 Try.results52 hQ (.inl rfl) rfl ?_ | refine at_ret1 (ex := .normal) Try.func52 Try.results52 hQ (.inr rfl) rfl ?_)
    exact ⟨rfl, rfl, rfl⟩
  · refine tr_of_body Try.func52 rfl Try.ntmps52 (by simp) fun um Q hQ => ?_
    simp only [argE, Nat.zero_add, Nat.reduceAdd]
    repeat (first
      | (apply wo_po; apply mo_load; exact rfl; exact hr; exact rfl)
      | (apply wo_po; apply mo_bin; exact rfl; exact rfl; apply bin_eqlT; omega; (first | exact trivial | exact rfl))
      | refine we_seq ?_
      | (refine we_region _ rfl rfl ?_; simp only [opsOf, List.map_cons, List.map_nil, Option.map_none, Option.map_some, List.getElem?_toArray, List.getElem?_cons_zero, List.getElem?_cons_succ, Option.bind_some, Option.getD_some])
      | refine wo_nil ?_
      | (apply wo_po; apply mo_move; exact rfl; (first | exact trivial | exact rfl))
      | (apply wo_po; apply mo_assign; exact rfl; (first | exact trivial | exact rfl))
      | (apply wo_po; apply mo_pickF; exact rfl; exact rfl; exact rfl; (first | exact trivial | exact rfl))
      | (apply wo_po; apply mo_nilCheck; exact rfl; (first | exact trivial | exact rfl))
      | (apply wo_po; apply mo_fieldAddr; exact rfl; exact rfl; (first | exact Nat.zero_add _ | exact rfl); (first | exact trivial | exact rfl))
      | (apply wo_po; apply mo_bin; exact rfl; exact rfl; apply bin_eq; apply eql_ptr_nil; (first | exact trivial | exact rfl))
      | refine we_ret ?_)
    (first | refine at_ret1 (ex := .ret) Try.func52 Try.results52 hQ (.inl rfl) rfl ?_ | refine at_ret1 (ex := .normal) Try.func52 Try.results52 hQ (.inr rfl) rfl ?_)
    exact ⟨rfl, rfl, rfl⟩

theorem bnil_tr (h : NoneAt L v0) : Tr Try.prog B 44 [.pointer v0] L x fun v L' x' => v = .bool true ∧ L' = L ∧ x' = x := by
  rcases h with rfl | ⟨r, rfl, hr⟩
  · refine tr_of_body Try.func44 rfl Try.ntmps44 (by simp) fun um Q hQ => ?_
    simp only [argE, Nat.zero_add, Nat.reduceAdd]
    repeat (first
      | refine we_seq ?_
      | (refine we_region _ rfl rfl ?_; simp only [opsOf, List.map_cons, List.map_nil, Option.map_none, Option.map_some, List.getElem?_toArray, List.getElem?_cons_zero, List.getElem?_cons_succ, Option.bind_some, Option.getD_some])
      | refine wo_nil ?_
      | (apply wo_po; apply mo_move; exact rfl; (first | exact trivial | exact rfl))
      | (apply wo_po; apply mo_assign; exact rfl; (first | exact trivial | exact rfl))
      | (apply wo_no; exact rfl)
      | (apply wo_po; apply mo_pickT; exact rfl; exact rfl; exact rfl; (first | exact trivial | exact rfl))
      | (apply wo_po; apply mo_bin; exact rfl; exact rfl; apply bin_eq; apply eql_ptr_nil; (first | exact trivial | exact rfl))
      | refine we_ret ?_)
    (first | refine at_ret1 (ex := .ret) Try.func44 Try.results44 hQ (.inl rfl) rfl ?_ | refine at_ret1 (ex := .normal) Try.func44 Try.results44 hQ (.inr rfl) rfl ?_)
    exact ⟨rfl, rfl, rfl⟩
  · refine tr_of_body Try.func44 rfl Try.ntmps44 (by simp) fun um Q hQ => ?_
    simp only [argE, Nat.zero_add, Nat.reduceAdd]
    repeat (first
      | (apply wo_po; apply mo_load; exact rfl; exact hr; exact rfl)
      | (apply wo_po; apply mo_bin; exact rfl; exact rfl; apply bin_eqlT; omega; (first | exact trivial | exact rfl))
      | refine we_seq ?_
      | (refine we_region _ rfl rfl ?_; simp only [opsOf, List.map_cons, List.map_nil, Option.map_none, Option.map_some, List.getElem?_toArray, List.getElem?_cons_zero, List.getElem?_cons_succ, Option.bind_some, Option.getD_some])
      | refine wo_nil ?_
      | (apply wo_po; apply mo_move; exact rfl; (first | exact trivial | exact rfl))
      | (apply wo_po; apply mo_assign; exact rfl; (first | exact trivial | exact rfl))
      | (apply wo_po; apply mo_pickF; exact rfl; exact rfl; exact rfl; (first | exact trivial | exact rfl))
      | (apply wo_po; apply mo_nilCheck; exact rfl; (first | exact trivial | exact rfl))
      | (apply wo_po; apply mo_fieldAddr; exact rfl; exact rfl; (first | exact Nat.zero_add _ | exact rfl); (first | exact trivial | exact rfl))
      | (apply wo_po; apply mo_bin; exact rfl; exact rfl; apply bin_eq; apply eql_ptr_nil; (first | exact trivial | exact rfl))
      | refine we_ret ?_)
    (first | refine at_ret1 (ex := .ret) Try.func44 Try.results44 hQ (.inl rfl) rfl ?_ | refine at_ret1 (ex := .normal) Try.func44 Try.results44 hQ (.inr rfl) rfl ?_)
    exact ⟨rfl, rfl, rfl⟩

theorem enter_nil (h : NoneAt L v0) : Tr Try.prog B 19 [.pointer v0, gv] L x fun v L' x' => v = .tuple #[.bool false, .int .i64 1] ∧ L' = L ∧ x' = x := by
  refine tr_of_body Try.func19 rfl Try.ntmps19 (by simp) fun um Q hQ => ?_
  simp only [argE, Nat.zero_add, Nat.reduceAdd]
  repeat (first
    | refine we_seq ?_
    | (refine we_region _ rfl rfl ?_; simp only [opsOf, List.map_cons, List.map_nil, Option.map_none, Option.map_some, List.getElem?_toArray, List.getElem?_cons_zero, List.getElem?_cons_succ, Option.bind_some, Option.getD_some])
    | refine wo_nil ?_
    | (apply wo_po; apply mo_move; exact rfl; (first | exact trivial | exact rfl))
    | (apply wo_po; apply mo_assign; exact rfl; (first | exact trivial | exact rfl)))
  refine wo_call (.cons rfl .nil) trivial (gnil_tr h) ?_
  rintro v1 L1 x1 ⟨rfl, rfl, rfl⟩
  repeat (first
    | refine we_seq ?_
    | (refine we_region _ rfl rfl ?_; simp only [opsOf, List.map_cons, List.map_nil, Option.map_none, Option.map_some, List.getElem?_toArray, List.getElem?_cons_zero, List.getElem?_cons_succ, Option.bind_some, Option.getD_some])
    | refine wo_nil ?_
    | (apply wo_po; apply mo_assign; exact rfl; (first | exact trivial | exact rfl))
    | (apply we_condT; exact rfl; (first | exact rfl | (simp <;> omega) | omega))
    | refine we_ret ?_)
  (first | refine at_ret2 (ex := .ret) Try.func19 Try.results19 hQ (.inl rfl) rfl rfl ?_ | refine at_ret2 (ex := .normal) Try.func19 Try.results19 hQ (.inr rfl) rfl rfl ?_)
  exact ⟨rfl, rfl, rfl⟩

theorem leave_nil (h : NoneAt L v0) : Tr Try.prog B 21 [.pointer v0, gv] L x fun v L' x' => v = .int .i64 1 ∧ L' = L ∧ x' = x := by
  refine tr_of_body Try.func21 rfl Try.ntmps21 (by simp) fun um Q hQ => ?_
  simp only [argE, Nat.zero_add, Nat.reduceAdd]
  repeat (first
    | refine we_seq ?_
    | (refine we_region _ rfl rfl ?_; simp only [opsOf, List.map_cons, List.map_nil, Option.map_none, Option.map_some, List.getElem?_toArray, List.getElem?_cons_zero, List.getElem?_cons_succ, Option.bind_some, Option.getD_some])
    | refine wo_nil ?_
    | (apply wo_po; apply mo_move; exact rfl; (first | exact trivial | exact rfl))
    | (apply wo_po; apply mo_assign; exact rfl; (first | exact trivial | exact rfl)))
  refine wo_call (.cons rfl .nil) trivial (gnil_tr h) ?_
  rintro v1 L1 x1 ⟨rfl, rfl, rfl⟩
  repeat (first
    | refine we_seq ?_
    | (refine we_region _ rfl rfl ?_; simp only [opsOf, List.map_cons, List.map_nil, Option.map_none, Option.map_some, List.getElem?_toArray, List.getElem?_cons_zero, List.getElem?_cons_succ, Option.bind_some, Option.getD_some])
    | refine wo_nil ?_
    | (apply wo_po; apply mo_assign; exact rfl; (first | exact trivial | exact rfl))
    | (apply we_condT; exact rfl; (first | exact rfl | (simp <;> omega) | omega))
    | refine we_ret ?_)
  (first | refine at_ret1 (ex := .ret) Try.func21 Try.results21 hQ (.inl rfl) rfl ?_ | refine at_ret1 (ex := .normal) Try.func21 Try.results21 hQ (.inr rfl) rfl ?_)
  exact ⟨rfl, rfl, rfl⟩

theorem get_nil (h : NoneAt L v0) : Tr Try.prog B 20 [.pointer v0, gv] L x fun v L' x' => v = .tuple #[.int .u64 0, .int .u64 0, .int .i64 1] ∧ L' = L ∧ x' = x := by
  refine tr_of_body Try.func20 rfl Try.ntmps20 (by simp) fun um Q hQ => ?_
  simp only [argE, Nat.zero_add, Nat.reduceAdd]
  repeat (first
    | refine we_seq ?_
    | (refine we_region _ rfl rfl ?_; simp only [opsOf, List.map_cons, List.map_nil, Option.map_none, Option.map_some, List.getElem?_toArray, List.getElem?_cons_zero, List.getElem?_cons_succ, Option.bind_some, Option.getD_some])
    | refine wo_nil ?_
    | (apply wo_po; apply mo_move; exact rfl; (first | exact trivial | exact rfl))
    | (apply wo_po; apply mo_assign; exact rfl; (first | exact trivial | exact rfl)))
  refine wo_call (.cons rfl .nil) trivial (gnil_tr h) ?_
  rintro v1 L1 x1 ⟨rfl, rfl, rfl⟩
  repeat (first
    | refine we_seq ?_
    | (refine we_region _ rfl rfl ?_; simp only [opsOf, List.map_cons, List.map_nil, Option.map_none, Option.map_some, List.getElem?_toArray, List.getElem?_cons_zero, List.getElem?_cons_succ, Option.bind_some, Option.getD_some])
    | refine wo_nil ?_
    | (apply wo_po; apply mo_assign; exact rfl; (first | exact trivial | exact rfl))
    | (apply we_condT; exact rfl; (first | exact rfl | (simp <;> omega) | omega))
    | refine we_ret ?_)
  (first | refine at_ret3 (ex := .ret) Try.func20 Try.results20 hQ (.inl rfl) rfl rfl rfl ?_ | refine at_ret3 (ex := .normal) Try.func20 Try.results20 hQ (.inr rfl) rfl rfl rfl ?_)
  exact ⟨rfl, rfl, rfl⟩

theorem bget_nil (h : NoneAt L v0) : Tr Try.prog B 14 [.pointer v0, gv] L x fun v L' x' => v = .tuple #[.int .i64 0, .int .u64 0, .int .u64 0, .int .i64 1] ∧ L' = L ∧ x' = x := by
  refine tr_of_body Try.func14 rfl Try.ntmps14 (by simp) fun um Q hQ => ?_
  simp only [argE, Nat.zero_add, Nat.reduceAdd]
  repeat (first
    | refine we_seq ?_
    | (refine we_region _ rfl rfl ?_; simp only [opsOf, List.map_cons, List.map_nil, Option.map_none, Option.map_some, List.getElem?_toArray, List.getElem?_cons_zero, List.getElem?_cons_succ, Option.bind_some, Option.getD_some])
    | refine wo_nil ?_
    | (apply wo_po; apply mo_move; exact rfl; (first | exact trivial | exact rfl))
    | (apply wo_po; apply mo_assign; exact rfl; (first | exact trivial | exact rfl)))
  refine wo_call (.cons rfl .nil) trivial (bnil_tr h) ?_
  rintro v1 L1 x1 ⟨rfl, rfl, rfl⟩
  repeat (first
    | refine we_seq ?_
    | (refine we_region _ rfl rfl ?_; simp only [opsOf, List.map_cons, List.map_nil, Option.map_none, Option.map_some, List.getElem?_toArray, List.getElem?_cons_zero, List.getElem?_cons_succ, Option.bind_some, Option.getD_some])
    | refine wo_nil ?_
    | (apply wo_po; apply mo_assign; exact rfl; (first | exact trivial | exact rfl))
    | (apply we_condT; exact rfl; (first | exact rfl | (simp <;> omega) | omega))
    | refine we_ret ?_)
  (first | refine at_ret4 (ex := .ret) Try.func14 Try.results14 hQ (.inl rfl) rfl rfl rfl rfl ?_ | refine at_ret4 (ex := .normal) Try.func14 Try.results14 hQ (.inr rfl) rfl rfl rfl rfl ?_)
  exact ⟨rfl, rfl, rfl⟩

theorem ask_nil (h : NoneAt L v0) : Tr Try.prog B 12 [.pointer v0, gv, .int .u64 9223372036854775808] L x fun v L' x' => v = .tuple #[.bool false, .int .i64 1] ∧ L' = L ∧ x' = x := by
  refine Tr.post (R := fun v L' x' => v = .tuple #[.bool false, .int .i64 1] ∧ x' = x ∧ ∀ h, Star L' h → Star L h) ?_ (by rintro v L' x' ⟨rfl, rfl, hs⟩; exact ⟨L, ⟨rfl, rfl, rfl⟩, hs⟩)
  refine tr_of_body Try.func12 rfl Try.ntmps12 (by simp) fun um Q hQ => ?_
  simp only [argE, Nat.zero_add, Nat.reduceAdd]
  repeat (first
    | (apply wo_mo; apply mo_box; exact rfl; exact trivial)
    | refine we_seq ?_
    | (refine we_region _ rfl rfl ?_; simp only [opsOf, List.map_cons, List.map_nil, Option.map_none, Option.map_some, List.getElem?_toArray, List.getElem?_cons_zero, List.getElem?_cons_succ, Option.bind_some, Option.getD_some]))
  rintro v' L' ⟨b0, rfl, rfl⟩
  refine wo_ent (arr b0 0 [.pointer v0] :: L) .refl ?_
  repeat (first
    | (apply wo_mo; apply mo_box; exact rfl; exact trivial))
  rintro v' L' ⟨b1, rfl, rfl⟩
  refine wo_ent (arr b1 0 [.int .u64 9223372036854775808] :: arr b0 0 [.pointer v0] :: L) .refl ?_
  repeat (first
    | refine we_seq ?_
    | (refine we_region _ rfl rfl ?_; simp only [opsOf, List.map_cons, List.map_nil, Option.map_none, Option.map_some, List.getElem?_toArray, List.getElem?_cons_zero, List.getElem?_cons_succ, Option.bind_some, Option.getD_some])
    | refine wo_nil ?_
    | (apply wo_po; apply mo_assign; exact rfl; (first | exact trivial | exact rfl))
    | (apply wo_po; apply mo_load; exact rfl; (repeat (first | exact Rd.row0 rfl | exact Rd.row rfl rfl | exact Rd.still | apply Rd.there)); (first | exact trivial | exact rfl))
    | refine we_block ?_)
  refine wo_call (.cons rfl .nil) trivial (bnil_tr h.there.there) ?_
  rintro v1 L1 x1 ⟨rfl, rfl, rfl⟩
  repeat (first
    | refine we_seq ?_
    | (refine we_region _ rfl rfl ?_; simp only [opsOf, List.map_cons, List.map_nil, Option.map_none, Option.map_some, List.getElem?_toArray, List.getElem?_cons_zero, List.getElem?_cons_succ, Option.bind_some, Option.getD_some])
    | refine wo_nil ?_
    | (apply wo_po; apply mo_assign; exact rfl; (first | exact trivial | exact rfl))
    | (apply we_condT; exact rfl; (first | exact rfl | (simp <;> omega) | omega))
    | refine we_ret ?_)
  (first | refine at_ret2 (ex := .ret) Try.func12 Try.results12 hQ (.inl rfl) rfl rfl ?_ | refine at_ret2 (ex := .normal) Try.func12 Try.results12 hQ (.inr rfl) rfl rfl ?_)
  exact ⟨rfl, rfl, fun h st => Ent.star (.drop (.drop .refl)) st⟩

theorem tell_nil (h : NoneAt L v0) : Tr Try.prog B 13 [.pointer v0, gv, .int .u64 9223372036854775808, .bool true] L x fun v L' x' => v = .int .i64 1 ∧ L' = L ∧ x' = x := by
  refine Tr.post (R := fun v L' x' => v = .int .i64 1 ∧ x' = x ∧ ∀ h, Star L' h → Star L h) ?_ (by rintro v L' x' ⟨rfl, rfl, hs⟩; exact ⟨L, ⟨rfl, rfl, rfl⟩, hs⟩)
  refine tr_of_body Try.func13 rfl Try.ntmps13 (by simp) fun um Q hQ => ?_
  simp only [argE, Nat.zero_add, Nat.reduceAdd]
  repeat (first
    | (apply wo_mo; apply mo_box; exact rfl; exact trivial)
    | refine we_seq ?_
    | (refine we_region _ rfl rfl ?_; simp only [opsOf, List.map_cons, List.map_nil, Option.map_none, Option.map_some, List.getElem?_toArray, List.getElem?_cons_zero, List.getElem?_cons_succ, Option.bind_some, Option.getD_some]))
  rintro v' L' ⟨b0, rfl, rfl⟩
  refine wo_ent (arr b0 0 [.pointer v0] :: L) .refl ?_
  repeat (first
    | (apply wo_mo; apply mo_box; exact rfl; exact trivial))
  rintro v' L' ⟨b1, rfl, rfl⟩
  refine wo_ent (arr b1 0 [.int .u64 9223372036854775808] :: arr b0 0 [.pointer v0] :: L) .refl ?_
  repeat (first
    | (apply wo_mo; apply mo_box; exact rfl; exact trivial))
  rintro v' L' ⟨b2, rfl, rfl⟩
  refine wo_ent (arr b2 0 [.bool true] :: arr b1 0 [.int .u64 9223372036854775808] :: arr b0 0 [.pointer v0] :: L) .refl ?_
  repeat (first
    | refine we_seq ?_
    | (refine we_region _ rfl rfl ?_; simp only [opsOf, List.map_cons, List.map_nil, Option.map_none, Option.map_some, List.getElem?_toArray, List.getElem?_cons_zero, List.getElem?_cons_succ, Option.bind_some, Option.getD_some])
    | refine wo_nil ?_
    | (apply wo_po; apply mo_assign; exact rfl; (first | exact trivial | exact rfl))
    | (apply wo_po; apply mo_load; exact rfl; (repeat (first | exact Rd.row0 rfl | exact Rd.row rfl rfl | exact Rd.still | apply Rd.there)); (first | exact trivial | exact rfl))
    | refine we_block ?_)
  refine wo_call (.cons rfl .nil) trivial (bnil_tr h.there.there.there) ?_
  rintro v1 L1 x1 ⟨rfl, rfl, rfl⟩
  repeat (first
    | refine we_seq ?_
    | (refine we_region _ rfl rfl ?_; simp only [opsOf, List.map_cons, List.map_nil, Option.map_none, Option.map_some, List.getElem?_toArray, List.getElem?_cons_zero, List.getElem?_cons_succ, Option.bind_some, Option.getD_some])
    | refine wo_nil ?_
    | (apply wo_po; apply mo_assign; exact rfl; (first | exact trivial | exact rfl))
    | (apply we_condT; exact rfl; (first | exact rfl | (simp <;> omega) | omega))
    | refine we_ret ?_)
  (first | refine at_ret1 (ex := .ret) Try.func13 Try.results13 hQ (.inl rfl) rfl ?_ | refine at_ret1 (ex := .normal) Try.func13 Try.results13 hQ (.inr rfl) rfl ?_)
  exact ⟨rfl, rfl, fun h st => Ent.star (.drop (.drop (.drop .refl))) st⟩


/-- ahead of a round -/
def nilInv (x : B.X) (L : List HProp) : Inv (Nat × Option Addr × Option Addr × List HProp) B.X where
  e := fun i => [(1, .pointer i.2.1), (2, .pointer i.2.2.1), (3, .int .i64 i.1)]
  L := fun i => i.2.2.2
  x := fun _ => x
  ok := fun i => i.1 ≤ 2 ∧ NoneAt i.2.2.2 i.2.1 ∧ NoneAt i.2.2.2 i.2.2.1 ∧ ∀ h, Star i.2.2.2 h → Star L h

set_option maxHeartbeats 8000000 in
theorem names_tr : Tr Try.prog B 5 [] L x fun v L' x' => v = .bool true ∧ L' = L ∧ x' = x := by
  refine Tr.post (R := fun v L' x' => v = .bool true ∧ x' = x ∧ ∀ h, Star L' h → Star L h) ?_ (by rintro v L' x' ⟨rfl, rfl, hs⟩; exact ⟨L, ⟨rfl, rfl, rfl⟩, hs⟩)
  refine tr_of_body Try.func5 rfl Try.ntmps5 (by simp) fun um Q hQ => ?_
  simp only [argE, Nat.zero_add, Nat.reduceAdd]
  repeat (first
    | refine we_seq ?_
    | (refine we_region _ rfl rfl ?_; simp only [opsOf, List.map_cons, List.map_nil, Option.map_none, Option.map_some, List.getElem?_toArray, List.getElem?_cons_zero, List.getElem?_cons_succ, Option.bind_some, Option.getD_some])
    | refine wo_nil ?_
    | (apply wo_po; apply mo_assign; exact rfl; (first | exact trivial | exact rfl))
    | refine we_block ?_)
  refine we_loopN (nilInv x L) (fun i => 3 - i.1) (0, none, none, L) ⟨by simp, .inl rfl, .inl rfl, fun h st => st⟩ ⟨rfl, rfl, rfl, trivial⟩ .refl rfl ?_
  rintro ⟨i, xv, bv, L0⟩ ⟨hi, hx, hb, hL⟩
  dsimp only [nilInv] at hi hx hb hL ⊢
  by_cases hc : i < 2
  · repeat (first
      | (apply wo_po; apply mo_bin; exact rfl; exact rfl; apply bin_lssT; omega; (first | exact trivial | exact rfl))
      | refine we_seq ?_
      | (refine we_region _ rfl rfl ?_; simp only [opsOf, List.map_cons, List.map_nil, Option.map_none, Option.map_some, List.getElem?_toArray, List.getElem?_cons_zero, List.getElem?_cons_succ, Option.bind_some, Option.getD_some])
      | refine wo_nil ?_
      | (apply wo_po; apply mo_move; exact rfl; (first | exact trivial | exact rfl))
      | (apply we_condT; exact rfl; (first | exact rfl | (simp <;> omega) | omega))
      | refine we_skip ?_
      | refine we_block ?_)
    refine wo_call .nil trivial new_notes_tr ?_
    rintro v L1 x' ⟨nb, rfl, rfl, rfl⟩
    replace hx : NoneAt (notesC nb [] :: L0) xv := hx.there
    replace hb : NoneAt (notesC nb [] :: L0) bv := hb.there
    repeat (first
      | (apply wo_po; apply mo_makeInterface; exact rfl; (first | exact trivial | exact rfl))
      | refine we_seq ?_
      | (refine we_region _ rfl rfl ?_; simp only [opsOf, List.map_cons, List.map_nil, Option.map_none, Option.map_some, List.getElem?_toArray, List.getElem?_cons_zero, List.getElem?_cons_succ, Option.bind_some, Option.getD_some])
      | refine wo_nil ?_
      | (apply wo_po; apply mo_move; exact rfl; (first | exact trivial | exact rfl))
      | (apply wo_po; apply mo_assign; exact rfl; (first | exact trivial | exact rfl)))
    refine wo_call (.cons rfl (.cons rfl .nil)) trivial (enter_nil hx) ?_
    rintro v L1 x' ⟨rfl, rfl, rfl⟩
    repeat (first
      | (apply wo_po; apply mo_makeInterface; exact rfl; (first | exact trivial | exact rfl))
      | refine we_seq ?_
      | (refine we_region _ rfl rfl ?_; simp only [opsOf, List.map_cons, List.map_nil, Option.map_none, Option.map_some, List.getElem?_toArray, List.getElem?_cons_zero, List.getElem?_cons_succ, Option.bind_some, Option.getD_some])
      | refine wo_nil ?_
      | (apply wo_po; apply mo_move; exact rfl; (first | exact trivial | exact rfl))
      | (apply wo_po; apply mo_assign; exact rfl; (first | exact trivial | exact rfl))
      | (apply wo_po; apply mo_extract; exact rfl; exact rfl; (first | exact trivial | exact rfl)))
    refine wo_call (.cons rfl (.cons rfl .nil)) trivial (get_nil hx) ?_
    rintro v L1 x' ⟨rfl, rfl, rfl⟩
    repeat (first
      | (apply wo_po; apply mo_makeInterface; exact rfl; (first | exact trivial | exact rfl))
      | refine we_seq ?_
      | (refine we_region _ rfl rfl ?_; simp only [opsOf, List.map_cons, List.map_nil, Option.map_none, Option.map_some, List.getElem?_toArray, List.getElem?_cons_zero, List.getElem?_cons_succ, Option.bind_some, Option.getD_some])
      | refine wo_nil ?_
      | (apply wo_po; apply mo_move; exact rfl; (first | exact trivial | exact rfl))
      | (apply wo_po; apply mo_assign; exact rfl; (first | exact trivial | exact rfl))
      | (apply wo_po; apply mo_extract; exact rfl; exact rfl; (first | exact trivial | exact rfl)))
    refine wo_call (.cons rfl (.cons rfl (.cons rfl .nil))) trivial (ask_nil hb) ?_
    rintro v L1 x' ⟨rfl, rfl, rfl⟩
    repeat (first
      | (apply wo_po; apply mo_makeInterface; exact rfl; (first | exact trivial | exact rfl))
      | refine we_seq ?_
      | (refine we_region _ rfl rfl ?_; simp only [opsOf, List.map_cons, List.map_nil, Option.map_none, Option.map_some, List.getElem?_toArray, List.getElem?_cons_zero, List.getElem?_cons_succ, Option.bind_some, Option.getD_some])
      | refine wo_nil ?_
      | (apply wo_po; apply mo_move; exact rfl; (first | exact trivial | exact rfl))
      | (apply wo_po; apply mo_assign; exact rfl; (first | exact trivial | exact rfl))
      | (apply wo_po; apply mo_extract; exact rfl; exact rfl; (first | exact trivial | exact rfl)))
    refine wo_call (.cons rfl (.cons rfl .nil)) trivial (bget_nil hb) ?_
    rintro v L1 x' ⟨rfl, rfl, rfl⟩
    repeat (first
      | (apply wo_po; apply mo_makeInterface; exact rfl; (first | exact trivial | exact rfl))
      | (apply wo_po; apply mo_bin; exact rfl; exact rfl; apply bin_neqF; omega; (first | exact trivial | exact rfl))
      | refine we_seq ?_
      | (refine we_region _ rfl rfl ?_; simp only [opsOf, List.map_cons, List.map_nil, Option.map_none, Option.map_some, List.getElem?_toArray, List.getElem?_cons_zero, List.getElem?_cons_succ, Option.bind_some, Option.getD_some])
      | refine wo_nil ?_
      | (apply wo_po; apply mo_move; exact rfl; (first | exact trivial | exact rfl))
      | (apply wo_po; apply mo_assign; exact rfl; (first | exact trivial | exact rfl))
      | (apply wo_po; apply mo_extract; exact rfl; exact rfl; (first | exact trivial | exact rfl)))
    refine wo_call (.cons rfl (.cons rfl .nil)) (by first | exact trivial | exact rfl) (leave_nil hx) ?_
    rintro v L1 x' ⟨rfl, rfl, rfl⟩
    repeat (first
      | (apply wo_po; apply mo_makeInterface; exact rfl; (first | exact trivial | exact rfl))
      | (apply wo_po; apply mo_bin; exact rfl; exact rfl; apply bin_neqF; omega; (first | exact trivial | exact rfl))
      | (apply wo_po; apply mo_move; exact rfl; (first | exact trivial | exact rfl))
      | (apply wo_po; apply mo_pickF; exact rfl; exact rfl; exact rfl; (first | exact trivial | exact rfl)))
    refine wo_call (.cons rfl (.cons rfl (.cons rfl (.cons rfl .nil)))) (by first | exact trivial | exact rfl) (tell_nil hb) ?_
    rintro v L1 x' ⟨rfl, rfl, rfl⟩
    repeat (first
      | (apply wo_po; apply mo_bin; exact rfl; exact rfl; apply bin_neqF; omega; (first | exact trivial | exact rfl))
      | (apply wo_po; apply mo_move; exact rfl; (first | exact trivial | exact rfl))
      | (apply wo_po; apply mo_pickF; exact rfl; exact rfl; exact rfl; (first | exact trivial | exact rfl)))
    refine wo_call (.cons rfl .nil) (by first | exact trivial | exact rfl) (marks_tr (by simp) .here) ?_
    rintro v L1 x' ⟨rfl, rfl⟩
    refine wo_pure (of_has .here (vec_shape (by omega))) ?_
    rintro ⟨ma, ml, mc, rfl, hlen, _⟩
    have hml : ml = 0 := by
      simp at hlen
      omega
    subst hml
    repeat (first
      | (apply wo_po; apply mo_build (pv := []); exact rfl; exact .nil; exact rfl; exact trivial)
      | (apply wo_mo; apply mo_box; exact rfl; exact trivial)
      | (apply wo_po; apply mo_bin; exact rfl; exact rfl; apply bin_neqF; omega; (first | exact trivial | exact rfl))
      | refine we_seq ?_
      | (refine we_region _ rfl rfl ?_; simp only [opsOf, List.map_cons, List.map_nil, Option.map_none, Option.map_some, List.getElem?_toArray, List.getElem?_cons_zero, List.getElem?_cons_succ, Option.bind_some, Option.getD_some])
      | refine wo_nil ?_
      | (apply wo_po; apply mo_pickF; exact rfl; exact rfl; exact rfl; (first | exact trivial | exact rfl))
      | (apply wo_po; apply mo_len; exact rfl; (first | exact trivial | exact rfl))
      | (apply we_condF; exact rfl; (first | exact rfl | (simp <;> omega) | omega))
      | refine we_skip ?_)
    rintro v' L' ⟨xb, rfl, rfl⟩
    repeat (first
      | (apply wo_po; apply mo_build (pv := []); exact rfl; exact .nil; exact rfl; exact trivial)
      | (apply wo_mo; apply mo_box; exact rfl; exact trivial)
      | (refine we_region _ rfl rfl ?_; simp only [opsOf, List.map_cons, List.map_nil, Option.map_none, Option.map_some, List.getElem?_toArray, List.getElem?_cons_zero, List.getElem?_cons_succ, Option.bind_some, Option.getD_some])
      | refine wo_nil ?_
      | (apply wo_po; apply mo_assign; exact rfl; (first | exact trivial | exact rfl)))
    rintro v' L' ⟨bb, rfl, rfl⟩
    repeat (first
      | (refine we_region _ rfl rfl ?_; simp only [opsOf, List.map_cons, List.map_nil, Option.map_none, Option.map_some, List.getElem?_toArray, List.getElem?_cons_zero, List.getElem?_cons_succ, Option.bind_some, Option.getD_some])
      | refine wo_nil ?_
      | (apply wo_po; apply mo_move; exact rfl; (first | exact trivial | exact rfl))
      | (apply wo_po; apply mo_assign; exact rfl; (first | exact trivial | exact rfl))
      | (apply wo_po; apply mo_bin; exact rfl; exact rfl; apply bin_add; exact wrap_i64 (by omega) (by omega); (first | exact trivial | exact rfl)))
    refine at_roundS (I := nilInv _ L) (R := fun i' => 3 - i'.1 < 3 - i) (i + 1, some ⟨xb, 0, none⟩, some ⟨bb, 0, none⟩, [arr bb 0 [.int .u64 0, .int .u64 0, .int .u64 0], arr xb 0 [.int .u64 0, .int .u64 0, .int .u64 0]] ++ L0) (by simp; omega) ⟨by simp; omega, .inr ⟨_, rfl, .there (.row (k := 0) rfl rfl)⟩, .inr ⟨_, rfl, .row (k := 0) rfl rfl⟩, fun h st => hL h (star_drop (star_drop st))⟩ ⟨rfl, rfl, rfl, trivial⟩ (fun h st => Ent.star (.take .here (.take .here (.drop (.drop .refl)))) st) rfl
  · repeat (first
      | (apply wo_po; apply mo_bin; exact rfl; exact rfl; apply bin_lssF; omega; (first | exact trivial | exact rfl))
      | refine we_seq ?_
      | (refine we_region _ rfl rfl ?_; simp only [opsOf, List.map_cons, List.map_nil, Option.map_none, Option.map_some, List.getElem?_toArray, List.getElem?_cons_zero, List.getElem?_cons_succ, Option.bind_some, Option.getD_some])
      | refine wo_nil ?_
      | (apply wo_po; apply mo_move; exact rfl; (first | exact trivial | exact rfl))
      | (apply we_condF; exact rfl; (first | exact rfl | (simp <;> omega) | omega))
      | refine we_exit ?_)
    refine wo_call (.cons rfl (.cons rfl (.cons rfl .nil))) trivial (made_tr (l0 := 0) (f0 := 0) (w0 := 0) (limit := 1) (fails := 1) (wait := 1) rfl rfl rfl) ?_
    rintro v L1 x' ⟨p, g, b, rfl, rfl, rfl⟩
    refine wo_star (arr p 0 [.pointer (some ⟨g, 0, none⟩), .pointer (some ⟨b, 0, none⟩), .int .u64 (1 : Nat), .int .u64 (1 : Nat), .int .u64 (1 : Nat)] :: gC g 1 (fun _ => 0) :: bC b 1 1 (fun _ => 0) :: L0) (fun h st => st) ?_
    repeat (first
      | (apply wo_po; apply mo_bin; exact rfl; exact rfl; apply bin_neqF; omega; (first | exact trivial | exact rfl))
      | refine we_seq ?_
      | (refine we_region _ rfl rfl ?_; simp only [opsOf, List.map_cons, List.map_nil, Option.map_none, Option.map_some, List.getElem?_toArray, List.getElem?_cons_zero, List.getElem?_cons_succ, Option.bind_some, Option.getD_some])
      | refine wo_nil ?_
      | (apply wo_po; apply mo_move; exact rfl; (first | exact trivial | exact rfl))
      | (apply wo_po; apply mo_assign; exact rfl; (first | exact trivial | exact rfl))
      | (apply wo_po; apply mo_pickF; exact rfl; exact rfl; exact rfl; (first | exact trivial | exact rfl))
      | (apply wo_po; apply mo_nilCheck; exact rfl; (first | exact trivial | exact rfl))
      | (apply wo_po; apply mo_fieldAddr; exact rfl; exact rfl; (first | exact Nat.zero_add _ | exact rfl); (first | exact trivial | exact rfl))
      | (apply wo_po; apply mo_load; exact rfl; (repeat (first | exact Rd.row0 rfl | exact Rd.row rfl rfl | exact Rd.still | apply Rd.there)); (first | exact trivial | exact rfl))
      | (apply wo_po; apply mo_bin; exact rfl; exact rfl; apply bin_eq; apply eql_ptr_nil; (first | exact trivial | exact rfl))
      | (apply we_condF; exact rfl; (first | exact rfl | (simp <;> omega) | omega))
      | refine we_skip ?_)
    refine wo_call .nil trivial new_notes_tr ?_
    rintro v L1 x' ⟨nb, rfl, rfl, rfl⟩
    refine wo_star (all [gC g 1 (fun _ => 0), notesC nb []] :: arr p 0 [.pointer (some ⟨g, 0, none⟩), .pointer (some ⟨b, 0, none⟩), .int .u64 (1 : Nat), .int .u64 (1 : Nat), .int .u64 (1 : Nat)] :: bC b 1 1 (fun _ => 0) :: L0) (fun h st => star_shut (M := [_, _]) (Ent.star (.take (.there (.there .here)) (.take .here .refl)) st)) ?_
    repeat (first
      | (apply wo_po; apply mo_makeInterface; exact rfl; (first | exact trivial | exact rfl))
      | refine we_seq ?_
      | (refine we_region _ rfl rfl ?_; simp only [opsOf, List.map_cons, List.map_nil, Option.map_none, Option.map_some, List.getElem?_toArray, List.getElem?_cons_zero, List.getElem?_cons_succ, Option.bind_some, Option.getD_some])
      | refine wo_nil ?_
      | (apply wo_po; apply mo_move; exact rfl; (first | exact trivial | exact rfl))
      | (apply wo_po; apply mo_assign; exact rfl; (first | exact trivial | exact rfl))
      | (apply wo_po; apply mo_nilCheck; exact rfl; (first | exact trivial | exact rfl))
      | (apply wo_po; apply mo_fieldAddr; exact rfl; exact rfl; (first | exact Nat.zero_add _ | exact rfl); (first | exact trivial | exact rfl))
      | (apply wo_po; apply mo_load; exact rfl; (repeat (first | exact Rd.row0 rfl | exact Rd.row rfl rfl | exact Rd.still | apply Rd.there)); (first | exact trivial | exact rfl)))
    refine wo_call (.cons rfl (.cons rfl .nil)) trivial (leave_note (s := fun _ => 0) (by omega) (by omega) rfl (by simp) .here) ?_
    rintro v L1 x' ⟨rfl, rfl, rfl⟩
    refine wo_star (notesC nb [(1, 0)] :: gC g 1 (fun _ => 0) :: arr p 0 [.pointer (some ⟨g, 0, none⟩), .pointer (some ⟨b, 0, none⟩), .int .u64 (1 : Nat), .int .u64 (1 : Nat), .int .u64 (1 : Nat)] :: bC b 1 1 (fun _ => 0) :: L0) (fun h st => star_swap (star_open (M := [_, _]) st)) ?_
    repeat (first
      | refine we_seq ?_
      | (refine we_region _ rfl rfl ?_; simp only [opsOf, List.map_cons, List.map_nil, Option.map_none, Option.map_some, List.getElem?_toArray, List.getElem?_cons_zero, List.getElem?_cons_succ, Option.bind_some, Option.getD_some])
      | refine wo_nil ?_
      | (apply wo_po; apply mo_move; exact rfl; (first | exact trivial | exact rfl))
      | (apply wo_po; apply mo_assign; exact rfl; (first | exact trivial | exact rfl)))
    refine wo_call .nil (by first | exact trivial | exact rfl) awake_tr ?_
    rintro v L1 x' ⟨rfl, rfl, rfl⟩
    repeat (first
      | (apply wo_po; apply mo_bin; exact rfl; exact rfl; apply bin_eqlT; omega; (first | exact trivial | exact rfl))
      | (apply wo_po; apply mo_move; exact rfl; (first | exact trivial | exact rfl))
      | (apply wo_po; apply mo_pickT; exact rfl; exact rfl; exact rfl; (first | exact trivial | exact rfl)))
    refine wo_call (.cons rfl .nil) (by first | exact trivial | exact rfl) (marks_tr (by simp) .here) ?_
    rintro v L1 x' ⟨rfl, rfl⟩
    refine wo_pure (of_has .here (vec_shape (by omega))) ?_
    rintro ⟨ma, ml, mc, rfl, hlen, hmc, hma, hma2⟩
    have hml : ml = 1 := by
      simp [mark2] at hlen
      omega
    subst hml
    repeat (first
      | (apply wo_po; apply mo_build (pv := [(0, _)]); exact rfl; exact .cons rfl .nil; exact rfl; exact rfl)
      | (apply wo_mo; apply mo_buildSlice (sz := 2) (vs := [_]); exact rfl; exact .cons rfl .nil; exact rfl; (intro v hv; cases (List.mem_singleton.1 hv); exact rfl); omega; exact rfl))
    rintro v' L' ⟨sb, rfl, rfl⟩
    refine wo_ent (arr sb 0 [.int .u8 1, .int .i64 (0 : Nat)] :: vec 2 (.slice ma 1 mc) (([(1, 0)] : List (Int × Nat)).map mark2).flatten :: notesC nb [(1, 0)] :: gC g 1 (fun _ => 0) :: arr p 0 [.pointer (some ⟨g, 0, none⟩), .pointer (some ⟨b, 0, none⟩), .int .u64 (1 : Nat), .int .u64 (1 : Nat), .int .u64 (1 : Nat)] :: bC b 1 1 (fun _ => 0) :: L0) .refl ?_
    skip
    have hm2 : RdM (arr sb 0 [.int .u8 1, .int .i64 (0 : Nat)] :: vec 2 (.slice ma 1 mc) (([(1, 0)] : List (Int × Nat)).map mark2).flatten :: notesC nb [(1, 0)] :: gC g 1 (fun _ => 0) :: arr p 0 [.pointer (some ⟨g, 0, none⟩), .pointer (some ⟨b, 0, none⟩), .int .u64 (1 : Nat), .int .u64 (1 : Nat), .int .u64 (1 : Nat)] :: bC b 1 1 (fun _ => 0) :: L0) (some ⟨sb, 0, none⟩) [(1, 0)] := by
      intro i m hm
      match i, hm with
      | 0, hm => cases hm; exact ⟨sb, 0, rfl, Rds.all .here⟩
    refine wo_call (.cons rfl (.cons rfl .nil)) (by first | exact trivial | exact rfl) (same_marks_tr (l := [(1, 0)]) (l' := [(1, 0)]) rfl rfl (by omega) (RdM.vec (.there .here) hma2 fun h => by have := hma h; omega) hm2) ?_
    rintro v L1 x' ⟨rfl, rfl, rfl⟩
    rw [decide_eq_true rfl]
    repeat (first
      | (apply wo_po; apply mo_move; exact rfl; (first | exact trivial | exact rfl))
      | (apply wo_po; apply mo_pickT; exact rfl; exact rfl; exact rfl; (first | exact trivial | exact rfl)))
    refine wo_call (.cons rfl (.cons rfl (.cons rfl .nil))) (by first | exact trivial | exact rfl) (news_tr (limit := 0) (fails := 1) (wait := 1) (by omega) (by omega) (by omega)) ?_
    rintro v L1 x' ⟨rfl, rfl, rfl⟩
    repeat (first
      | (apply wo_po; apply mo_move; exact rfl; (first | exact trivial | exact rfl))
      | (apply wo_po; apply mo_pickT; exact rfl; exact rfl; exact rfl; (first | exact trivial | exact rfl)))
    refine wo_call (.cons rfl (.cons rfl (.cons rfl .nil))) (by first | exact trivial | exact rfl) (news_tr (limit := 1048576) (fails := 1048576) (wait := 1099511627776) (by omega) (by omega) (by omega)) ?_
    rintro v L1 x' ⟨rfl, rfl, rfl⟩
    repeat (first
      | (apply wo_po; apply mo_move; exact rfl; (first | exact trivial | exact rfl))
      | (apply wo_po; apply mo_pickT; exact rfl; exact rfl; exact rfl; (first | exact trivial | exact rfl)))
    refine wo_call (.cons rfl (.cons rfl (.cons rfl .nil))) (by first | exact trivial | exact rfl) (news_tr (limit := 1048577) (fails := 1048577) (wait := 1) (by omega) (by omega) (by omega)) ?_
    rintro v L1 x' ⟨rfl, rfl, rfl⟩
    repeat (first
      | (apply wo_po; apply mo_move; exact rfl; (first | exact trivial | exact rfl))
      | (apply wo_po; apply mo_pickT; exact rfl; exact rfl; exact rfl; (first | exact trivial | exact rfl)))
    refine wo_call (.cons rfl (.cons rfl (.cons rfl .nil))) (by first | exact trivial | exact rfl) (news_tr (limit := 1099511627776) (fails := 1) (wait := 1099511627777) (by omega) (by omega) (by omega)) ?_
    rintro v L1 x' ⟨rfl, rfl, rfl⟩
    repeat (first
      | (apply wo_po; apply mo_move; exact rfl; (first | exact trivial | exact rfl))
      | (apply wo_po; apply mo_pickT; exact rfl; exact rfl; exact rfl; (first | exact trivial | exact rfl)))
    refine wo_call (.cons rfl (.cons rfl (.cons rfl .nil))) (by first | exact trivial | exact rfl) (news_tr (limit := 1099511627777) (fails := 1) (wait := 1) (by omega) (by omega) (by omega)) ?_
    rintro v L1 x' ⟨rfl, rfl, rfl⟩
    repeat (first
      | refine wo_nil ?_
      | (apply wo_po; apply mo_assign; exact rfl; (first | exact trivial | exact rfl))
      | (apply wo_po; apply mo_pickT; exact rfl; exact rfl; exact rfl; (first | exact trivial | exact rfl))
      | refine we_ret ?_)
    (first | refine at_ret1 (ex := .ret) Try.func5 Try.results5 hQ (.inl rfl) rfl ?_ | refine at_ret1 (ex := .normal) Try.func5 Try.results5 hQ (.inr rfl) rfl ?_)
    exact ⟨rfl, rfl, fun h st => hL h (Ent.star (.drop (.drop (.drop (.drop (.drop (.drop .refl)))))) st)⟩
end
end Go.Proofs.Ytnnpdmhmpgmpnaa
