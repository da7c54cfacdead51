/-
  COUNTERS AND FLAGS (package cell), over whatever access to their word and their gate.
-/
import Derived.Test.YtkgnkloonamheaaAcc
import Derived.Test.YtkgnkloonamheaaFt
set_option linter.unusedVariables false
set_option linter.unusedSimpArgs false
namespace Go.Proofs.Ytkgnkloonamheaa
open Go Go.PB
attribute [local irreducible] Mo Bin Eql Tr Wo Ap Wle


/-- a counter, a flag that is there -/
structure CntAt {B : Hand} {gv : Value} (A : Acc B gv) (r : Nat) : Prop where
  hdr : ∀ s, Rd [A.C s] r 0 (.bool true)
  a : A.addr 0 = (r, 1)

theorem addm {u v : Nat} : IntKind.u64.wrap ((u : Int) + (v : Int)) = (((u + v) % 18446744073709551616 : Nat) : Int) := by
  rw [wrap_u64_mod]; omega
theorem subm {u v : Nat} (hv : v < 18446744073709551616) : IntKind.u64.wrap ((u : Int) - (v : Int)) = (((u + 18446744073709551616 - v) % 18446744073709551616 : Nat) : Int) := by
  rw [wrap_u64_mod]; omega

section
variable {B : Hand} [Lets B] {gv : Value} {A : Acc B gv} {r n mo : Nat} {L F : List HProp}

theorem step_tr {op : Int} {s : A.S} {T : A.S → Prop} (hs : A.step op 0 s T) (hh : Has L (A.C s) F) :
    Tr Try.prog B 53 [gv, .int .u8 op] L (A.x s) fun v L' x' => ∃ s', T s' ∧ v = .tuple #[] ∧ L' = A.C s' :: F ∧ x' = A.x s' := by
  rcases A.gate with ⟨rfl, hg⟩ | ⟨t, p, f, rfl, hm, he, hg⟩
  · refine tr_of_body Try.func53 rfl Try.ntmps53 (by simp) fun um Q hQ => ?_
    simp only [argE, Nat.zero_add, Nat.reduceAdd]
    repeat (first
      | refine we_seq ?_
      | (refine we_region _ rfl rfl ?_; simp only [opsOf, List.map_cons, List.map_nil, Option.map_none, Option.map_some, List.getElem?_toArray, List.getElem?_cons_zero, List.getElem?_cons_succ, Option.bind_some, Option.getD_some])
      | refine wo_nil ?_
      | (apply wo_po; apply mo_move; exact rfl; (first | exact trivial | exact rfl))
      | (apply wo_po; apply mo_bin; exact rfl; exact rfl; apply bin_ne; apply eql_nil_nil; (first | exact trivial | exact rfl))
      | (apply we_condF; exact rfl; (first | exact rfl | (simp <;> omega) | omega))
      | refine we_skip ?_)
    refine at_ent _ (Ent.take hh .refl) ?_
    (first | refine at_ret0 (ex := .ret) Try.func53 Try.results53 hQ (.inl rfl) ?_ | refine at_ret0 (ex := .normal) Try.func53 Try.results53 hQ (.inr rfl) ?_)
    exact ⟨s, hg _ _ _ _ hs, rfl, rfl, rfl⟩
  · refine tr_of_body Try.func53 rfl Try.ntmps53 (by simp) fun um Q hQ => ?_
    simp only [argE, Nat.zero_add, Nat.reduceAdd]
    repeat (first
      | (apply wo_po; apply mo_build (pv := [(0, _)]); exact rfl; exact .cons rfl .nil; exact rfl; exact trivial)
      | refine we_seq ?_
      | (refine we_region _ rfl rfl ?_; simp only [opsOf, List.map_cons, List.map_nil, Option.map_none, Option.map_some, List.getElem?_toArray, List.getElem?_cons_zero, List.getElem?_cons_succ, Option.bind_some, Option.getD_some])
      | refine wo_nil ?_
      | (apply wo_po; apply mo_move; exact rfl; (first | exact trivial | exact rfl))
      | (apply wo_po; apply mo_bin; exact rfl; exact rfl; apply bin_ne; apply eql_iface_nil; (first | exact trivial | exact rfl))
      | (apply we_condT; exact rfl; (first | exact rfl | (simp <;> omega) | omega)))
    refine wo_invoke (args := [_]) rfl (.cons rfl .nil) trivial (hg op 0 s T L F hs hh) ?_
    rintro v L' x' ⟨s', h1, rfl, rfl, rfl⟩
    repeat (first
      | refine wo_nil ?_)
    (first | refine at_ret0 (ex := .ret) Try.func53 Try.results53 hQ (.inl rfl) ?_ | refine at_ret0 (ex := .normal) Try.func53 Try.results53 hQ (.inr rfl) ?_)
    exact ⟨s', h1, rfl, rfl, rfl⟩


theorem cthere_tr {x : B.X} (hr : Rd L r 0 (.bool true)) : Tr Try.prog B 59 [.pointer (some ⟨r, 0, none⟩)] L x fun v L' x' => v = .bool true ∧ L' = L ∧ x' = x := by
  refine tr_of_body Try.func59 rfl Try.ntmps59 (by simp) fun um Q hQ => ?_
  simp only [argE, Nat.zero_add, Nat.reduceAdd]
  repeat (first
    | (apply wo_po; apply mo_load; exact rfl; exact hr; exact rfl)
    | refine we_seq ?_
    | (refine we_region _ rfl rfl ?_; simp only [opsOf, List.map_cons, List.map_nil, Option.map_none, Option.map_some, List.getElem?_toArray, List.getElem?_cons_zero, List.getElem?_cons_succ, Option.bind_some, Option.getD_some])
    | refine wo_nil ?_
    | (apply wo_po; apply mo_move; exact rfl; (first | exact trivial | exact rfl))
    | (apply wo_po; apply mo_assign; exact rfl; (first | exact trivial | exact rfl))
    | (apply wo_po; apply mo_pickT; exact rfl; exact rfl; exact rfl; (first | exact trivial | exact rfl))
    | (apply wo_po; apply mo_nilCheck; exact rfl; (first | exact trivial | exact rfl))
    | (apply wo_po; apply mo_fieldAddr; exact rfl; exact rfl; (first | exact Nat.zero_add _ | exact rfl); (first | exact trivial | exact rfl))
    | (apply wo_po; apply mo_bin; exact rfl; exact rfl; apply bin_ne; apply eql_ptr_nil; (first | exact trivial | exact rfl))
    | refine we_ret ?_)
  (first | refine at_ret1 (ex := .ret) Try.func59 Try.results59 hQ (.inl rfl) rfl ?_ | refine at_ret1 (ex := .normal) Try.func59 Try.results59 hQ (.inr rfl) rfl ?_)
  exact ⟨rfl, rfl, rfl⟩


theorem fthere_tr {x : B.X} (hr : Rd L r 0 (.bool true)) : Tr Try.prog B 66 [.pointer (some ⟨r, 0, none⟩)] L x fun v L' x' => v = .bool true ∧ L' = L ∧ x' = x := by
  refine tr_of_body Try.func66 rfl Try.ntmps66 (by simp) fun um Q hQ => ?_
  simp only [argE, Nat.zero_add, Nat.reduceAdd]
  repeat (first
    | (apply wo_po; apply mo_load; exact rfl; exact hr; exact rfl)
    | refine we_seq ?_
    | (refine we_region _ rfl rfl ?_; simp only [opsOf, List.map_cons, List.map_nil, Option.map_none, Option.map_some, List.getElem?_toArray, List.getElem?_cons_zero, List.getElem?_cons_succ, Option.bind_some, Option.getD_some])
    | refine wo_nil ?_
    | (apply wo_po; apply mo_move; exact rfl; (first | exact trivial | exact rfl))
    | (apply wo_po; apply mo_assign; exact rfl; (first | exact trivial | exact rfl))
    | (apply wo_po; apply mo_pickT; exact rfl; exact rfl; exact rfl; (first | exact trivial | exact rfl))
    | (apply wo_po; apply mo_nilCheck; exact rfl; (first | exact trivial | exact rfl))
    | (apply wo_po; apply mo_fieldAddr; exact rfl; exact rfl; (first | exact Nat.zero_add _ | exact rfl); (first | exact trivial | exact rfl))
    | (apply wo_po; apply mo_bin; exact rfl; exact rfl; apply bin_ne; apply eql_ptr_nil; (first | exact trivial | exact rfl))
    | refine we_ret ?_)
  (first | refine at_ret1 (ex := .ret) Try.func66 Try.results66 hQ (.inl rfl) rfl ?_ | refine at_ret1 (ex := .normal) Try.func66 Try.results66 hQ (.inr rfl) rfl ?_)
  exact ⟨rfl, rfl, rfl⟩


theorem cget_tr (R : CntAt A r) {s : A.S} {Q : Nat → A.S → Prop} (hs : A.step 1 0 s fun s => A.load 0 s Q) (hh : Has L (A.C s) F) :
    Tr Try.prog B 26 [.pointer (some ⟨r, 0, none⟩), gv] L (A.x s) fun v L' x' => ∃ o s', o < 18446744073709551616 ∧ Q o s' ∧ v = .tuple #[.int .u64 (o : Nat), .int .i64 0] ∧ L' = A.C s' :: F ∧ x' = A.x s' := by
  refine tr_of_body Try.func26 rfl Try.ntmps26 (by simp) fun um Q hQ => ?_
  simp only [argE, Nat.zero_add, Nat.reduceAdd]
  repeat (first
    | refine we_seq ?_
    | (refine we_region _ rfl rfl ?_; simp only [opsOf, List.map_cons, List.map_nil, Option.map_none, Option.map_some, List.getElem?_toArray, List.getElem?_cons_zero, List.getElem?_cons_succ, Option.bind_some, Option.getD_some])
    | refine wo_nil ?_
    | (apply wo_po; apply mo_move; exact rfl; (first | exact trivial | exact rfl))
    | (apply wo_po; apply mo_assign; exact rfl; (first | exact trivial | exact rfl)))
  refine wo_call (.cons rfl .nil) trivial (cthere_tr (Rd.of hh (R.hdr s))) ?_
  rintro v1 L1 x1 ⟨rfl, rfl, rfl⟩
  repeat (first
    | refine we_seq ?_
    | (refine we_region _ rfl rfl ?_; simp only [opsOf, List.map_cons, List.map_nil, Option.map_none, Option.map_some, List.getElem?_toArray, List.getElem?_cons_zero, List.getElem?_cons_succ, Option.bind_some, Option.getD_some])
    | refine wo_nil ?_
    | (apply wo_po; apply mo_move; exact rfl; (first | exact trivial | exact rfl))
    | (apply wo_po; apply mo_not; exact rfl; (first | exact trivial | exact rfl))
    | (apply we_condF; exact rfl; (first | exact rfl | (simp <;> omega) | omega))
    | refine we_skip ?_)
  refine wo_call (.cons rfl (.cons rfl .nil)) trivial (step_tr hs hh) ?_
  rintro v1 L1 x1 ⟨s1, h1, rfl, rfl, rfl⟩
  repeat (first
    | refine we_seq ?_
    | (refine we_region _ rfl rfl ?_; simp only [opsOf, List.map_cons, List.map_nil, Option.map_none, Option.map_some, List.getElem?_toArray, List.getElem?_cons_zero, List.getElem?_cons_succ, Option.bind_some, Option.getD_some])
    | refine wo_nil ?_
    | (apply wo_po; apply mo_move; exact rfl; (first | exact trivial | exact rfl))
    | (apply wo_po; apply mo_nilCheck; exact rfl; (first | exact trivial | exact rfl))
    | (apply wo_po; apply mo_fieldAddr; exact rfl; exact rfl; (first | exact Nat.zero_add _ | exact rfl); (first | exact trivial | exact rfl)))
  refine wo_call (.cons rfl .nil) trivial (A.load_ok _ _ _ _ _ _ _ R.a h1 .here) ?_
  rintro v1 L1 x1 ⟨o, s2, ho, h2, rfl, rfl, rfl⟩
  repeat (first
    | refine wo_nil ?_
    | (apply wo_po; apply mo_assign; exact rfl; (first | exact trivial | exact rfl))
    | refine we_ret ?_)
  (first | refine at_ret2 (ex := .ret) Try.func26 Try.results26 hQ (.inl rfl) rfl rfl ?_ | refine at_ret2 (ex := .normal) Try.func26 Try.results26 hQ (.inr rfl) rfl rfl ?_)
  exact ⟨o, s2, ho, h2, rfl, rfl, rfl⟩


theorem cadd_tr (R : CntAt A r) (hn : n < 18446744073709551616) {s : A.S} {Q : Nat → A.S → Prop} (hs : A.step 3 0 s fun s => A.add 0 n s Q) (hh : Has L (A.C s) F) :
    Tr Try.prog B 35 [.pointer (some ⟨r, 0, none⟩), gv, .int .u64 (n : Nat)] L (A.x s) fun v L' x' => ∃ o s', o < 18446744073709551616 ∧ Q o s' ∧ v = .tuple #[.int .u64 (o : Nat), .int .i64 0] ∧ L' = A.C s' :: F ∧ x' = A.x s' := by
  refine tr_of_body Try.func35 rfl Try.ntmps35 (by simp) fun um Q hQ => ?_
  simp only [argE, Nat.zero_add, Nat.reduceAdd]
  repeat (first
    | refine we_seq ?_
    | (refine we_region _ rfl rfl ?_; simp only [opsOf, List.map_cons, List.map_nil, Option.map_none, Option.map_some, List.getElem?_toArray, List.getElem?_cons_zero, List.getElem?_cons_succ, Option.bind_some, Option.getD_some])
    | refine wo_nil ?_
    | (apply wo_po; apply mo_move; exact rfl; (first | exact trivial | exact rfl))
    | (apply wo_po; apply mo_assign; exact rfl; (first | exact trivial | exact rfl)))
  refine wo_call (.cons rfl .nil) trivial (cthere_tr (Rd.of hh (R.hdr s))) ?_
  rintro v1 L1 x1 ⟨rfl, rfl, rfl⟩
  repeat (first
    | refine we_seq ?_
    | (refine we_region _ rfl rfl ?_; simp only [opsOf, List.map_cons, List.map_nil, Option.map_none, Option.map_some, List.getElem?_toArray, List.getElem?_cons_zero, List.getElem?_cons_succ, Option.bind_some, Option.getD_some])
    | refine wo_nil ?_
    | (apply wo_po; apply mo_move; exact rfl; (first | exact trivial | exact rfl))
    | (apply wo_po; apply mo_not; exact rfl; (first | exact trivial | exact rfl))
    | (apply we_condF; exact rfl; (first | exact rfl | (simp <;> omega) | omega))
    | refine we_skip ?_)
  refine wo_call (.cons rfl (.cons rfl .nil)) trivial (step_tr hs hh) ?_
  rintro v1 L1 x1 ⟨s1, h1, rfl, rfl, rfl⟩
  repeat (first
    | refine we_seq ?_
    | (refine we_region _ rfl rfl ?_; simp only [opsOf, List.map_cons, List.map_nil, Option.map_none, Option.map_some, List.getElem?_toArray, List.getElem?_cons_zero, List.getElem?_cons_succ, Option.bind_some, Option.getD_some])
    | refine wo_nil ?_
    | (apply wo_po; apply mo_move; exact rfl; (first | exact trivial | exact rfl))
    | (apply wo_po; apply mo_nilCheck; exact rfl; (first | exact trivial | exact rfl))
    | (apply wo_po; apply mo_fieldAddr; exact rfl; exact rfl; (first | exact Nat.zero_add _ | exact rfl); (first | exact trivial | exact rfl)))
  refine wo_call (.cons rfl (.cons rfl .nil)) trivial (A.add_ok _ _ _ _ _ _ _ _ R.a hn h1 .here) ?_
  rintro v1 L1 x1 ⟨o, s2, ho, h2, rfl, rfl, rfl⟩
  repeat (first
    | refine wo_nil ?_
    | (apply wo_po; apply mo_assign; exact rfl; (first | exact trivial | exact rfl))
    | refine we_ret ?_)
  (first | refine at_ret2 (ex := .ret) Try.func35 Try.results35 hQ (.inl rfl) rfl rfl ?_ | refine at_ret2 (ex := .normal) Try.func35 Try.results35 hQ (.inr rfl) rfl rfl ?_)
  exact ⟨o, s2, ho, h2, rfl, rfl, rfl⟩


theorem fget_tr (R : CntAt A r) {s : A.S} {Q : Nat → A.S → Prop} (hs : A.step 1 0 s fun s => A.load 0 s Q) (hh : Has L (A.C s) F) :
    Tr Try.prog B 30 [.pointer (some ⟨r, 0, none⟩), gv] L (A.x s) fun v L' x' => ∃ o s', o < 18446744073709551616 ∧ Q o s' ∧ v = .tuple #[.bool (decide (((o : Nat) : Int) = 1)), .int .i64 0] ∧ L' = A.C s' :: F ∧ x' = A.x s' := by
  refine tr_of_body Try.func30 rfl Try.ntmps30 (by simp) fun um Q hQ => ?_
  simp only [argE, Nat.zero_add, Nat.reduceAdd]
  repeat (first
    | refine we_seq ?_
    | (refine we_region _ rfl rfl ?_; simp only [opsOf, List.map_cons, List.map_nil, Option.map_none, Option.map_some, List.getElem?_toArray, List.getElem?_cons_zero, List.getElem?_cons_succ, Option.bind_some, Option.getD_some])
    | refine wo_nil ?_
    | (apply wo_po; apply mo_move; exact rfl; (first | exact trivial | exact rfl))
    | (apply wo_po; apply mo_assign; exact rfl; (first | exact trivial | exact rfl)))
  refine wo_call (.cons rfl .nil) trivial (fthere_tr (Rd.of hh (R.hdr s))) ?_
  rintro v1 L1 x1 ⟨rfl, rfl, rfl⟩
  repeat (first
    | refine we_seq ?_
    | (refine we_region _ rfl rfl ?_; simp only [opsOf, List.map_cons, List.map_nil, Option.map_none, Option.map_some, List.getElem?_toArray, List.getElem?_cons_zero, List.getElem?_cons_succ, Option.bind_some, Option.getD_some])
    | refine wo_nil ?_
    | (apply wo_po; apply mo_move; exact rfl; (first | exact trivial | exact rfl))
    | (apply wo_po; apply mo_not; exact rfl; (first | exact trivial | exact rfl))
    | (apply we_condF; exact rfl; (first | exact rfl | (simp <;> omega) | omega))
    | refine we_skip ?_)
  refine wo_call (.cons rfl (.cons rfl .nil)) trivial (step_tr hs hh) ?_
  rintro v1 L1 x1 ⟨s1, h1, rfl, rfl, rfl⟩
  repeat (first
    | refine we_seq ?_
    | (refine we_region _ rfl rfl ?_; simp only [opsOf, List.map_cons, List.map_nil, Option.map_none, Option.map_some, List.getElem?_toArray, List.getElem?_cons_zero, List.getElem?_cons_succ, Option.bind_some, Option.getD_some])
    | refine wo_nil ?_
    | (apply wo_po; apply mo_move; exact rfl; (first | exact trivial | exact rfl))
    | (apply wo_po; apply mo_nilCheck; exact rfl; (first | exact trivial | exact rfl))
    | (apply wo_po; apply mo_fieldAddr; exact rfl; exact rfl; (first | exact Nat.zero_add _ | exact rfl); (first | exact trivial | exact rfl)))
  refine wo_call (.cons rfl .nil) trivial (A.load_ok _ _ _ _ _ _ _ R.a h1 .here) ?_
  rintro v1 L1 x1 ⟨o, s2, ho, h2, rfl, rfl, rfl⟩
  repeat (first
    | refine wo_nil ?_
    | (apply wo_po; apply mo_assign; exact rfl; (first | exact trivial | exact rfl))
    | (apply wo_po; apply mo_bin; exact rfl; exact rfl; exact bin_eql; (first | exact trivial | exact rfl))
    | refine we_ret ?_)
  (first | refine at_ret2 (ex := .ret) Try.func30 Try.results30 hQ (.inl rfl) rfl rfl ?_ | refine at_ret2 (ex := .normal) Try.func30 Try.results30 hQ (.inr rfl) rfl rfl ?_)
  exact ⟨o, s2, ho, h2, rfl, rfl, rfl⟩


theorem fswap_tr (R : CntAt A r) (hn : n < 18446744073709551616) {s : A.S} {Q : Nat → A.S → Prop} (hs : A.step 4 0 s fun s => A.swap 0 n s Q) (hh : Has L (A.C s) F) :
    Tr Try.prog B 64 [.pointer (some ⟨r, 0, none⟩), gv, .int .u64 (n : Nat)] L (A.x s) fun v L' x' => ∃ o s', o < 18446744073709551616 ∧ Q o s' ∧ v = .tuple #[.bool (!decide (((o : Nat) : Int) = (n : Nat))), .int .i64 0] ∧ L' = A.C s' :: F ∧ x' = A.x s' := by
  refine tr_of_body Try.func64 rfl Try.ntmps64 (by simp) fun um Q hQ => ?_
  simp only [argE, Nat.zero_add, Nat.reduceAdd]
  repeat (first
    | refine we_seq ?_
    | (refine we_region _ rfl rfl ?_; simp only [opsOf, List.map_cons, List.map_nil, Option.map_none, Option.map_some, List.getElem?_toArray, List.getElem?_cons_zero, List.getElem?_cons_succ, Option.bind_some, Option.getD_some])
    | refine wo_nil ?_
    | (apply wo_po; apply mo_move; exact rfl; (first | exact trivial | exact rfl))
    | (apply wo_po; apply mo_assign; exact rfl; (first | exact trivial | exact rfl)))
  refine wo_call (.cons rfl .nil) trivial (fthere_tr (Rd.of hh (R.hdr s))) ?_
  rintro v1 L1 x1 ⟨rfl, rfl, rfl⟩
  repeat (first
    | refine we_seq ?_
    | (refine we_region _ rfl rfl ?_; simp only [opsOf, List.map_cons, List.map_nil, Option.map_none, Option.map_some, List.getElem?_toArray, List.getElem?_cons_zero, List.getElem?_cons_succ, Option.bind_some, Option.getD_some])
    | refine wo_nil ?_
    | (apply wo_po; apply mo_move; exact rfl; (first | exact trivial | exact rfl))
    | (apply wo_po; apply mo_not; exact rfl; (first | exact trivial | exact rfl))
    | (apply we_condF; exact rfl; (first | exact rfl | (simp <;> omega) | omega))
    | refine we_skip ?_)
  refine wo_call (.cons rfl (.cons rfl .nil)) trivial (step_tr hs hh) ?_
  rintro v1 L1 x1 ⟨s1, h1, rfl, rfl, rfl⟩
  repeat (first
    | refine we_seq ?_
    | (refine we_region _ rfl rfl ?_; simp only [opsOf, List.map_cons, List.map_nil, Option.map_none, Option.map_some, List.getElem?_toArray, List.getElem?_cons_zero, List.getElem?_cons_succ, Option.bind_some, Option.getD_some])
    | refine wo_nil ?_
    | (apply wo_po; apply mo_move; exact rfl; (first | exact trivial | exact rfl))
    | (apply wo_po; apply mo_nilCheck; exact rfl; (first | exact trivial | exact rfl))
    | (apply wo_po; apply mo_fieldAddr; exact rfl; exact rfl; (first | exact Nat.zero_add _ | exact rfl); (first | exact trivial | exact rfl)))
  refine wo_call (.cons rfl (.cons rfl .nil)) trivial (A.swap_ok _ _ _ _ _ _ _ _ R.a hn h1 .here) ?_
  rintro v1 L1 x1 ⟨o, s2, ho, h2, rfl, rfl, rfl⟩
  repeat (first
    | refine wo_nil ?_
    | (apply wo_po; apply mo_move; exact rfl; (first | exact trivial | exact rfl))
    | (apply wo_po; apply mo_assign; exact rfl; (first | exact trivial | exact rfl))
    | (apply wo_po; apply mo_bin; exact rfl; exact rfl; exact bin_neq; (first | exact trivial | exact rfl))
    | refine we_ret ?_)
  (first | refine at_ret2 (ex := .ret) Try.func64 Try.results64 hQ (.inl rfl) rfl rfl ?_ | refine at_ret2 (ex := .normal) Try.func64 Try.results64 hQ (.inr rfl) rfl rfl ?_)
  exact ⟨o, s2, ho, h2, rfl, rfl, rfl⟩


theorem fset_tr (R : CntAt A r) {s : A.S} {Q : Nat → A.S → Prop} (hs : A.step 4 0 s fun s => A.swap 0 1 s Q) (hh : Has L (A.C s) F) :
    Tr Try.prog B 28 [.pointer (some ⟨r, 0, none⟩), gv] L (A.x s) fun v L' x' => ∃ o s', o < 18446744073709551616 ∧ Q o s' ∧ v = .tuple #[.bool (!decide (((o : Nat) : Int) = 1)), .int .i64 0] ∧ L' = A.C s' :: F ∧ x' = A.x s' := by
  refine tr_of_body Try.func28 rfl Try.ntmps28 (by simp) fun um Q hQ => ?_
  simp only [argE, Nat.zero_add, Nat.reduceAdd]
  repeat (first
    | refine we_seq ?_
    | (refine we_region _ rfl rfl ?_; simp only [opsOf, List.map_cons, List.map_nil, Option.map_none, Option.map_some, List.getElem?_toArray, List.getElem?_cons_zero, List.getElem?_cons_succ, Option.bind_some, Option.getD_some])
    | refine wo_nil ?_
    | (apply wo_po; apply mo_move; exact rfl; (first | exact trivial | exact rfl))
    | (apply wo_po; apply mo_assign; exact rfl; (first | exact trivial | exact rfl)))
  refine wo_call (.cons rfl (.cons rfl (.cons rfl .nil))) trivial (fswap_tr (n := 1) R (by omega) hs hh) ?_
  rintro v1 L1 x1 ⟨o, s2, ho, h2, rfl, rfl, rfl⟩
  repeat (first
    | refine wo_nil ?_
    | (apply wo_po; apply mo_assign; exact rfl; (first | exact trivial | exact rfl))
    | (apply wo_po; apply mo_extract; exact rfl; exact rfl; (first | exact trivial | exact rfl))
    | refine we_ret ?_)
  (first | refine at_ret2 (ex := .ret) Try.func28 Try.results28 hQ (.inl rfl) rfl rfl ?_ | refine at_ret2 (ex := .normal) Try.func28 Try.results28 hQ (.inr rfl) rfl rfl ?_)
  exact ⟨o, s2, ho, h2, rfl, rfl, rfl⟩


theorem fclear_tr (R : CntAt A r) {s : A.S} {Q : Nat → A.S → Prop} (hs : A.step 4 0 s fun s => A.swap 0 0 s Q) (hh : Has L (A.C s) F) :
    Tr Try.prog B 70 [.pointer (some ⟨r, 0, none⟩), gv] L (A.x s) fun v L' x' => ∃ o s', o < 18446744073709551616 ∧ Q o s' ∧ v = .tuple #[.bool (!decide (((o : Nat) : Int) = 0)), .int .i64 0] ∧ L' = A.C s' :: F ∧ x' = A.x s' := by
  refine tr_of_body Try.func70 rfl Try.ntmps70 (by simp) fun um Q hQ => ?_
  simp only [argE, Nat.zero_add, Nat.reduceAdd]
  repeat (first
    | refine we_seq ?_
    | (refine we_region _ rfl rfl ?_; simp only [opsOf, List.map_cons, List.map_nil, Option.map_none, Option.map_some, List.getElem?_toArray, List.getElem?_cons_zero, List.getElem?_cons_succ, Option.bind_some, Option.getD_some])
    | refine wo_nil ?_
    | (apply wo_po; apply mo_move; exact rfl; (first | exact trivial | exact rfl))
    | (apply wo_po; apply mo_assign; exact rfl; (first | exact trivial | exact rfl)))
  refine wo_call (.cons rfl (.cons rfl (.cons rfl .nil))) trivial (fswap_tr (n := 0) R (by omega) hs hh) ?_
  rintro v1 L1 x1 ⟨o, s2, ho, h2, rfl, rfl, rfl⟩
  repeat (first
    | refine wo_nil ?_
    | (apply wo_po; apply mo_assign; exact rfl; (first | exact trivial | exact rfl))
    | (apply wo_po; apply mo_extract; exact rfl; exact rfl; (first | exact trivial | exact rfl))
    | refine we_ret ?_)
  (first | refine at_ret2 (ex := .ret) Try.func70 Try.results70 hQ (.inl rfl) rfl rfl ?_ | refine at_ret2 (ex := .normal) Try.func70 Try.results70 hQ (.inr rfl) rfl rfl ?_)
  exact ⟨o, s2, ho, h2, rfl, rfl, rfl⟩


/-- a function that change is given -/
def ToTr (A : Acc B gv) (F : List HProp) (fn : FuncId) (caps : List Value) (G : Nat → Nat × Bool) : Prop :=
  ∀ s v, v < 18446744073709551616 → Tr Try.prog B fn ([.int .u64 (v : Nat)] ++ caps) (A.C s :: F) (A.x s) fun w L' x' => w = .tuple #[.int .u64 ((G v).1 : Nat), .bool (G v).2] ∧ L' = A.C s :: F ∧ x' = A.x s
def ChangeF (A : Acc B gv) (G : Nat → Nat × Bool) (Q : Nat → Bool → A.S → Prop) (X : A.S → Prop) (s : A.S) : Prop :=
  A.step 1 0 s fun s => A.load 0 s fun o s => if (G o).2 = true then A.step 5 0 s fun s => A.cas 0 o (G o).1 s fun c s => if c = true then Q (G o).1 true s else X s else Q o false s
def ChangeT (A : Acc B gv) (G : Nat → Nat × Bool) (s : A.S) (Q : Nat → Bool → A.S → Prop) : Prop := ∀ X : A.S → Prop, (∀ s, ChangeF A G Q X s → X s) → X s

theorem change_tr (R : CntAt A r) {fn : FuncId} {caps : List Value} {G : Nat → Nat × Bool} [Ent' Try.prog fn] (hfn : ToTr A F fn caps G) (hG : ∀ v, v < 18446744073709551616 → (G v).1 < 18446744073709551616) {s : A.S} {T : Nat → Bool → A.S → Prop} (hs : ChangeT A G s T) (hh : Has L (A.C s) F) :
    Tr Try.prog B 60 [.pointer (some ⟨r, 0, none⟩), gv, .func (.func fn) #[] caps.toArray] L (A.x s) fun v L' x' => ∃ o q s', T o q s' ∧ v = .tuple #[.int .u64 (o : Nat), .bool q] ∧ L' = A.C s' :: F ∧ x' = A.x s' := by
  refine tr_of_body Try.func60 rfl Try.ntmps60 (by simp) fun um Q hQ => ?_
  simp only [argE, Nat.zero_add, Nat.reduceAdd]
  repeat (first
    | refine we_seq ?_
    | (refine we_region _ rfl rfl ?_; simp only [opsOf, List.map_cons, List.map_nil, Option.map_none, Option.map_some, List.getElem?_toArray, List.getElem?_cons_zero, List.getElem?_cons_succ, Option.bind_some, Option.getD_some])
    | refine wo_nil ?_
    | (apply wo_po; apply mo_assign; exact rfl; (first | exact trivial | exact rfl))
    | refine we_label ?_
    | refine we_block ?_
    | refine we_scope ?_)
  refine we_lfp (ChangeF A G T) (fun s => A.C s :: F) A.x s hs [(0, .pointer (some ⟨r, 0, none⟩)), (1, gv), (2, .func (.func fn) #[] caps.toArray)] ⟨rfl, rfl, rfl, trivial⟩ (.take hh .refl) rfl ?_
  clear hs hh
  intro s hs
  repeat (first
    | refine we_seq ?_
    | (refine we_region _ rfl rfl ?_; simp only [opsOf, List.map_cons, List.map_nil, Option.map_none, Option.map_some, List.getElem?_toArray, List.getElem?_cons_zero, List.getElem?_cons_succ, Option.bind_some, Option.getD_some])
    | (apply wo_po; apply mo_move; exact rfl; (first | exact trivial | exact rfl))
    | refine we_block ?_)
  refine wo_call (.cons rfl (.cons rfl .nil)) trivial (step_tr hs .here) ?_
  rintro v1 L1 x1 ⟨s1, h1, rfl, rfl, rfl⟩
  repeat (first
    | refine we_seq ?_
    | (refine we_region _ rfl rfl ?_; simp only [opsOf, List.map_cons, List.map_nil, Option.map_none, Option.map_some, List.getElem?_toArray, List.getElem?_cons_zero, List.getElem?_cons_succ, Option.bind_some, Option.getD_some])
    | refine wo_nil ?_
    | (apply wo_po; apply mo_move; exact rfl; (first | exact trivial | exact rfl))
    | (apply wo_po; apply mo_nilCheck; exact rfl; (first | exact trivial | exact rfl))
    | (apply wo_po; apply mo_fieldAddr; exact rfl; exact rfl; (first | exact Nat.zero_add _ | exact rfl); (first | exact trivial | exact rfl)))
  refine wo_call (.cons rfl .nil) trivial (A.load_ok _ _ _ _ _ _ _ R.a h1 .here) ?_
  rintro v1 L1 x1 ⟨o, s2, ho, h2, rfl, rfl, rfl⟩
  repeat (first
    | refine we_seq ?_
    | (refine we_region _ rfl rfl ?_; simp only [opsOf, List.map_cons, List.map_nil, Option.map_none, Option.map_some, List.getElem?_toArray, List.getElem?_cons_zero, List.getElem?_cons_succ, Option.bind_some, Option.getD_some])
    | refine wo_nil ?_
    | (apply wo_po; apply mo_move; exact rfl; (first | exact trivial | exact rfl))
    | (apply wo_po; apply mo_assign; exact rfl; (first | exact trivial | exact rfl)))
  refine wo_callv rfl (f := fn) (first := []) (cap := caps) rfl (.cons rfl .nil) trivial (hfn s2 _ ho) ?_
  rintro v1 L1 x1 ⟨rfl, rfl, rfl⟩
  have hGo := hG o ho
  obtain ⟨⟨g1, g2⟩, hg⟩ : ∃ y, G o = y := ⟨_, rfl⟩
  rw [hg] at h2 hGo ⊢
  cases g2
  · simp only [Bool.false_eq_true, if_false] at h2
    repeat (first
      | refine we_seq ?_
      | (refine we_region _ rfl rfl ?_; simp only [opsOf, List.map_cons, List.map_nil, Option.map_none, Option.map_some, List.getElem?_toArray, List.getElem?_cons_zero, List.getElem?_cons_succ, Option.bind_some, Option.getD_some])
      | refine wo_nil ?_
      | (apply wo_po; apply mo_move; exact rfl; (first | exact trivial | exact rfl))
      | (apply wo_po; apply mo_assign; exact rfl; (first | exact trivial | exact rfl))
      | (apply wo_po; apply mo_extract; exact rfl; exact rfl; (first | exact trivial | exact rfl))
      | (apply wo_po; apply mo_not; exact rfl; (first | exact trivial | exact rfl))
      | (apply we_condT; exact rfl; (first | exact rfl | (simp <;> omega) | omega))
      | refine we_ret ?_)
    (first | refine at_ret2 (ex := .ret) Try.func60 Try.results60 hQ (.inl rfl) rfl rfl ?_ | refine at_ret2 (ex := .normal) Try.func60 Try.results60 hQ (.inr rfl) rfl rfl ?_)
    exact ⟨o, false, s2, h2, rfl, rfl, rfl⟩
  · simp only [if_true] at h2
    repeat (first
      | refine we_seq ?_
      | (refine we_region _ rfl rfl ?_; simp only [opsOf, List.map_cons, List.map_nil, Option.map_none, Option.map_some, List.getElem?_toArray, List.getElem?_cons_zero, List.getElem?_cons_succ, Option.bind_some, Option.getD_some])
      | refine wo_nil ?_
      | (apply wo_po; apply mo_move; exact rfl; (first | exact trivial | exact rfl))
      | (apply wo_po; apply mo_assign; exact rfl; (first | exact trivial | exact rfl))
      | (apply wo_po; apply mo_extract; exact rfl; exact rfl; (first | exact trivial | exact rfl))
      | (apply wo_po; apply mo_not; exact rfl; (first | exact trivial | exact rfl))
      | (apply we_condF; exact rfl; (first | exact rfl | (simp <;> omega) | omega))
      | refine we_skip ?_)
    refine wo_call (.cons rfl (.cons rfl .nil)) trivial (step_tr h2 .here) ?_
    rintro v1 L1 x1 ⟨s3, h3, rfl, rfl, rfl⟩
    repeat (first
      | refine we_seq ?_
      | (refine we_region _ rfl rfl ?_; simp only [opsOf, List.map_cons, List.map_nil, Option.map_none, Option.map_some, List.getElem?_toArray, List.getElem?_cons_zero, List.getElem?_cons_succ, Option.bind_some, Option.getD_some])
      | refine wo_nil ?_
      | (apply wo_po; apply mo_move; exact rfl; (first | exact trivial | exact rfl))
      | (apply wo_po; apply mo_nilCheck; exact rfl; (first | exact trivial | exact rfl))
      | (apply wo_po; apply mo_fieldAddr; exact rfl; exact rfl; (first | exact Nat.zero_add _ | exact rfl); (first | exact trivial | exact rfl)))
    refine wo_call (.cons rfl (.cons rfl (.cons rfl .nil))) trivial (A.cas_ok _ _ _ _ _ _ _ _ _ R.a hGo h3 .here) ?_
    rintro v1 L1 x1 ⟨q, s4, h4, rfl, rfl, rfl⟩
    cases q
    · simp only [Bool.false_eq_true, if_false] at h4
      repeat (first
        | refine wo_nil ?_
        | (apply wo_po; apply mo_not; exact rfl; (first | exact trivial | exact rfl))
        | (apply we_condT; exact rfl; (first | exact rfl | (simp <;> omega) | omega))
        | refine we_exit ?_)
      exact at_again h4 ⟨rfl, rfl, rfl, trivial⟩ .refl
    · simp only [if_true] at h4
      repeat (first
        | refine we_seq ?_
        | (refine we_region _ rfl rfl ?_; simp only [opsOf, List.map_cons, List.map_nil, Option.map_none, Option.map_some, List.getElem?_toArray, List.getElem?_cons_zero, List.getElem?_cons_succ, Option.bind_some, Option.getD_some])
        | refine wo_nil ?_
        | (apply wo_po; apply mo_move; exact rfl; (first | exact trivial | exact rfl))
        | (apply wo_po; apply mo_assign; exact rfl; (first | exact trivial | exact rfl))
        | (apply wo_po; apply mo_not; exact rfl; (first | exact trivial | exact rfl))
        | (apply we_condF; exact rfl; (first | exact rfl | (simp <;> omega) | omega))
        | refine we_ret ?_
        | refine we_skip ?_)
      (first | refine at_ret2 (ex := .ret) Try.func60 Try.results60 hQ (.inl rfl) rfl rfl ?_ | refine at_ret2 (ex := .normal) Try.func60 Try.results60 hQ (.inr rfl) rfl rfl ?_)
      exact ⟨g1, true, s4, h4, rfl, rfl, rfl⟩

def upG (n mo v : Nat) : Nat × Bool := ((v + n) % 18446744073709551616, decide (n ≤ mo ∧ v ≤ mo - n))
def downG (n v : Nat) : Nat × Bool := ((v + 18446744073709551616 - n) % 18446744073709551616, decide (n ≤ v))
def maxG (n v : Nat) : Nat × Bool := (n, decide (v < n))


theorem up1_tr {nb mb : Nat} (hn : n < 18446744073709551616) (hm : mo < 18446744073709551616) : ToTr A (arr mb 0 [.int .u64 (mo : Nat)] :: arr nb 0 [.int .u64 (n : Nat)] :: F) 62 [.pointer (some ⟨nb, 0, none⟩), .pointer (some ⟨mb, 0, none⟩)] (upG n mo) := by
  intro s v hv
  have a1 : IntKind.u64.wrap ((v : Int) + (n : Int)) = (((v + n) % 18446744073709551616 : Nat) : Int) := addm
  unfold upG
  simp only [List.cons_append, List.nil_append]
  generalize (v + n) % 18446744073709551616 = vn at *
  by_cases c : n ≤ mo
  · have s1 : IntKind.u64.wrap ((mo : Int) - (n : Int)) = ((mo - n : Nat) : Int) := by rw [show (mo : Int) - (n : Int) = ((mo - n : Nat) : Int) by omega]; exact wrap_u64 (by omega) (by omega)
    by_cases d : v ≤ mo - n
    · rw [decide_eq_true (⟨c, d⟩ : n ≤ mo ∧ v ≤ mo - n)]
      refine tr_of_body Try.func62 rfl Try.ntmps62 (by simp) fun um Q hQ => ?_
      simp only [argE, Nat.zero_add, Nat.reduceAdd]
      repeat (first
        | refine we_seq ?_
        | (refine we_region _ rfl rfl ?_; simp only [opsOf, List.map_cons, List.map_nil, Option.map_none, Option.map_some, List.getElem?_toArray, List.getElem?_cons_zero, List.getElem?_cons_succ, Option.bind_some, Option.getD_some])
        | refine wo_nil ?_
        | (apply wo_po; apply mo_assign; exact rfl; (first | exact trivial | exact rfl)))
      refine we_draw (List.range' 0 15) (by kernel_rfl) ?_
      repeat (first
        | (apply ap_pure; exact rfl; exact rfl; (first | exact trivial | exact rfl); intro L; apply mo_bin; exact rfl; exact rfl; apply bin_add; exact a1)
        | (apply ap_pure; exact rfl; exact rfl; (first | exact trivial | exact rfl); intro L; apply mo_bin; exact rfl; exact rfl; apply bin_sub; exact s1)
        | (apply ap_pure; exact rfl; exact rfl; (first | exact trivial | exact rfl); intro L; apply mo_bin; exact rfl; exact rfl; apply bin_leqT; omega)
        | (apply ap_pure; exact rfl; exact rfl; (first | exact trivial | exact rfl); intro L; apply mo_move; exact rfl)
        | (apply ap_pure; exact rfl; exact rfl; (first | exact trivial | exact rfl); intro L; apply mo_assign; exact rfl)
        | (apply ap_pure; exact rfl; exact rfl; (first | exact trivial | exact rfl); intro L; apply mo_pickT; exact rfl; exact rfl; exact rfl)
        | (apply ap_read; exact rfl; exact rfl; (first | exact trivial | exact rfl); apply mo_load; exact rfl; (repeat (first | exact Rd.row0 rfl | exact Rd.row rfl rfl | exact Rd.still | apply Rd.there)))
        | refine ap_end ?_)
      repeat (first
        | refine we_ret ?_)
      (first | refine at_ret2 (ex := .ret) Try.func62 Try.results62 hQ (.inl rfl) rfl rfl ?_ | refine at_ret2 (ex := .normal) Try.func62 Try.results62 hQ (.inr rfl) rfl rfl ?_)
      exact ⟨rfl, rfl, rfl⟩
    · rw [decide_eq_false (fun h : n ≤ mo ∧ v ≤ mo - n => d h.2)]
      refine tr_of_body Try.func62 rfl Try.ntmps62 (by simp) fun um Q hQ => ?_
      simp only [argE, Nat.zero_add, Nat.reduceAdd]
      repeat (first
        | refine we_seq ?_
        | (refine we_region _ rfl rfl ?_; simp only [opsOf, List.map_cons, List.map_nil, Option.map_none, Option.map_some, List.getElem?_toArray, List.getElem?_cons_zero, List.getElem?_cons_succ, Option.bind_some, Option.getD_some])
        | refine wo_nil ?_
        | (apply wo_po; apply mo_assign; exact rfl; (first | exact trivial | exact rfl)))
      refine we_draw (List.range' 0 15) (by kernel_rfl) ?_
      repeat (first
        | (apply ap_pure; exact rfl; exact rfl; (first | exact trivial | exact rfl); intro L; apply mo_bin; exact rfl; exact rfl; apply bin_add; exact a1)
        | (apply ap_pure; exact rfl; exact rfl; (first | exact trivial | exact rfl); intro L; apply mo_bin; exact rfl; exact rfl; apply bin_sub; exact s1)
        | (apply ap_pure; exact rfl; exact rfl; (first | exact trivial | exact rfl); intro L; apply mo_bin; exact rfl; exact rfl; apply bin_leqT; omega)
        | (apply ap_pure; exact rfl; exact rfl; (first | exact trivial | exact rfl); intro L; apply mo_bin; exact rfl; exact rfl; apply bin_leqF; omega)
        | (apply ap_pure; exact rfl; exact rfl; (first | exact trivial | exact rfl); intro L; apply mo_move; exact rfl)
        | (apply ap_pure; exact rfl; exact rfl; (first | exact trivial | exact rfl); intro L; apply mo_assign; exact rfl)
        | (apply ap_pure; exact rfl; exact rfl; (first | exact trivial | exact rfl); intro L; apply mo_pickT; exact rfl; exact rfl; exact rfl)
        | (apply ap_read; exact rfl; exact rfl; (first | exact trivial | exact rfl); apply mo_load; exact rfl; (repeat (first | exact Rd.row0 rfl | exact Rd.row rfl rfl | exact Rd.still | apply Rd.there)))
        | refine ap_end ?_)
      repeat (first
        | refine we_ret ?_)
      (first | refine at_ret2 (ex := .ret) Try.func62 Try.results62 hQ (.inl rfl) rfl rfl ?_ | refine at_ret2 (ex := .normal) Try.func62 Try.results62 hQ (.inr rfl) rfl rfl ?_)
      exact ⟨rfl, rfl, rfl⟩
  · rw [decide_eq_false (fun h : n ≤ mo ∧ v ≤ mo - n => c h.1)]
    refine tr_of_body Try.func62 rfl Try.ntmps62 (by simp) fun um Q hQ => ?_
    simp only [argE, Nat.zero_add, Nat.reduceAdd]
    repeat (first
      | refine we_seq ?_
      | (refine we_region _ rfl rfl ?_; simp only [opsOf, List.map_cons, List.map_nil, Option.map_none, Option.map_some, List.getElem?_toArray, List.getElem?_cons_zero, List.getElem?_cons_succ, Option.bind_some, Option.getD_some])
      | refine wo_nil ?_
      | (apply wo_po; apply mo_assign; exact rfl; (first | exact trivial | exact rfl)))
    refine we_draw (List.range' 0 15) (by kernel_rfl) ?_
    repeat (first
      | (apply ap_pure; exact rfl; exact rfl; (first | exact trivial | exact rfl); intro L; apply mo_bin; exact rfl; exact rfl; apply bin_add; exact a1)
      | (apply ap_pure; exact rfl; exact rfl; (first | exact trivial | exact rfl); intro L; apply mo_bin; exact rfl; exact rfl; apply bin_leqF; omega)
      | (apply ap_pure; exact rfl; exact rfl; (first | exact trivial | exact rfl); intro L; apply mo_move; exact rfl)
      | (apply ap_pure; exact rfl; exact rfl; (first | exact trivial | exact rfl); intro L; apply mo_assign; exact rfl)
      | (apply ap_no; exact rfl; exact rfl; exact rfl; exact rfl)
      | (apply ap_pure; exact rfl; exact rfl; (first | exact trivial | exact rfl); intro L; apply mo_pickF; exact rfl; exact rfl; exact rfl)
      | (apply ap_read; exact rfl; exact rfl; (first | exact trivial | exact rfl); apply mo_load; exact rfl; (repeat (first | exact Rd.row0 rfl | exact Rd.row rfl rfl | exact Rd.still | apply Rd.there)))
      | refine ap_end ?_)
    repeat (first
      | refine we_ret ?_)
    (first | refine at_ret2 (ex := .ret) Try.func62 Try.results62 hQ (.inl rfl) rfl rfl ?_ | refine at_ret2 (ex := .normal) Try.func62 Try.results62 hQ (.inr rfl) rfl rfl ?_)
    exact ⟨rfl, rfl, rfl⟩


theorem down1_tr {nb : Nat} (hn : n < 18446744073709551616) : ToTr A (arr nb 0 [.int .u64 (n : Nat)] :: F) 61 [.pointer (some ⟨nb, 0, none⟩)] (downG n) := by
  intro s v hv
  have s1 : IntKind.u64.wrap ((v : Int) - (n : Int)) = (((v + 18446744073709551616 - n) % 18446744073709551616 : Nat) : Int) := subm hn
  unfold downG
  simp only [List.cons_append, List.nil_append]
  generalize (v + 18446744073709551616 - n) % 18446744073709551616 = vn at *
  by_cases c : n ≤ v
  · rw [decide_eq_true c]
    refine tr_of_body Try.func61 rfl Try.ntmps61 (by simp) fun um Q hQ => ?_
    simp only [argE, Nat.zero_add, Nat.reduceAdd]
    repeat (first
      | refine we_seq ?_
      | (refine we_region _ rfl rfl ?_; simp only [opsOf, List.map_cons, List.map_nil, Option.map_none, Option.map_some, List.getElem?_toArray, List.getElem?_cons_zero, List.getElem?_cons_succ, Option.bind_some, Option.getD_some])
      | refine wo_nil ?_
      | (apply wo_po; apply mo_assign; exact rfl; (first | exact trivial | exact rfl)))
    refine we_draw (List.range' 0 8) (by kernel_rfl) ?_
    repeat (first
      | (apply ap_pure; exact rfl; exact rfl; (first | exact trivial | exact rfl); intro L; apply mo_bin; exact rfl; exact rfl; apply bin_sub; exact s1)
      | (apply ap_pure; exact rfl; exact rfl; (first | exact trivial | exact rfl); intro L; apply mo_bin; exact rfl; exact rfl; apply bin_geqT; omega)
      | (apply ap_pure; exact rfl; exact rfl; (first | exact trivial | exact rfl); intro L; apply mo_move; exact rfl)
      | (apply ap_pure; exact rfl; exact rfl; (first | exact trivial | exact rfl); intro L; apply mo_assign; exact rfl)
      | (apply ap_read; exact rfl; exact rfl; (first | exact trivial | exact rfl); apply mo_load; exact rfl; (repeat (first | exact Rd.row0 rfl | exact Rd.row rfl rfl | exact Rd.still | apply Rd.there)))
      | refine ap_end ?_)
    repeat (first
      | refine we_ret ?_)
    (first | refine at_ret2 (ex := .ret) Try.func61 Try.results61 hQ (.inl rfl) rfl rfl ?_ | refine at_ret2 (ex := .normal) Try.func61 Try.results61 hQ (.inr rfl) rfl rfl ?_)
    exact ⟨rfl, rfl, rfl⟩
  · rw [decide_eq_false c]
    refine tr_of_body Try.func61 rfl Try.ntmps61 (by simp) fun um Q hQ => ?_
    simp only [argE, Nat.zero_add, Nat.reduceAdd]
    repeat (first
      | refine we_seq ?_
      | (refine we_region _ rfl rfl ?_; simp only [opsOf, List.map_cons, List.map_nil, Option.map_none, Option.map_some, List.getElem?_toArray, List.getElem?_cons_zero, List.getElem?_cons_succ, Option.bind_some, Option.getD_some])
      | refine wo_nil ?_
      | (apply wo_po; apply mo_assign; exact rfl; (first | exact trivial | exact rfl)))
    refine we_draw (List.range' 0 8) (by kernel_rfl) ?_
    repeat (first
      | (apply ap_pure; exact rfl; exact rfl; (first | exact trivial | exact rfl); intro L; apply mo_bin; exact rfl; exact rfl; apply bin_sub; exact s1)
      | (apply ap_pure; exact rfl; exact rfl; (first | exact trivial | exact rfl); intro L; apply mo_bin; exact rfl; exact rfl; apply bin_geqF; omega)
      | (apply ap_pure; exact rfl; exact rfl; (first | exact trivial | exact rfl); intro L; apply mo_move; exact rfl)
      | (apply ap_pure; exact rfl; exact rfl; (first | exact trivial | exact rfl); intro L; apply mo_assign; exact rfl)
      | (apply ap_read; exact rfl; exact rfl; (first | exact trivial | exact rfl); apply mo_load; exact rfl; (repeat (first | exact Rd.row0 rfl | exact Rd.row rfl rfl | exact Rd.still | apply Rd.there)))
      | refine ap_end ?_)
    repeat (first
      | refine we_ret ?_)
    (first | refine at_ret2 (ex := .ret) Try.func61 Try.results61 hQ (.inl rfl) rfl rfl ?_ | refine at_ret2 (ex := .normal) Try.func61 Try.results61 hQ (.inr rfl) rfl rfl ?_)
    exact ⟨rfl, rfl, rfl⟩


theorem max1_tr {nb : Nat} : ToTr A (arr nb 0 [.int .u64 (n : Nat)] :: F) 65 [.pointer (some ⟨nb, 0, none⟩)] (maxG n) := by
  intro s v hv
  unfold maxG
  simp only [List.cons_append, List.nil_append]
  by_cases c : v < n
  · rw [decide_eq_true c]
    refine tr_of_body Try.func65 rfl Try.ntmps65 (by simp) fun um Q hQ => ?_
    simp only [argE, Nat.zero_add, Nat.reduceAdd]
    repeat (first
      | refine we_seq ?_
      | (refine we_region _ rfl rfl ?_; simp only [opsOf, List.map_cons, List.map_nil, Option.map_none, Option.map_some, List.getElem?_toArray, List.getElem?_cons_zero, List.getElem?_cons_succ, Option.bind_some, Option.getD_some])
      | refine wo_nil ?_
      | (apply wo_po; apply mo_assign; exact rfl; (first | exact trivial | exact rfl)))
    refine we_draw (List.range' 0 6) (by kernel_rfl) ?_
    repeat (first
      | (apply ap_pure; exact rfl; exact rfl; (first | exact trivial | exact rfl); intro L; apply mo_bin; exact rfl; exact rfl; apply bin_gtrT; omega)
      | (apply ap_pure; exact rfl; exact rfl; (first | exact trivial | exact rfl); intro L; apply mo_move; exact rfl)
      | (apply ap_pure; exact rfl; exact rfl; (first | exact trivial | exact rfl); intro L; apply mo_assign; exact rfl)
      | (apply ap_read; exact rfl; exact rfl; (first | exact trivial | exact rfl); apply mo_load; exact rfl; (repeat (first | exact Rd.row0 rfl | exact Rd.row rfl rfl | exact Rd.still | apply Rd.there)))
      | refine ap_end ?_)
    repeat (first
      | refine we_ret ?_)
    (first | refine at_ret2 (ex := .ret) Try.func65 Try.results65 hQ (.inl rfl) rfl rfl ?_ | refine at_ret2 (ex := .normal) Try.func65 Try.results65 hQ (.inr rfl) rfl rfl ?_)
    exact ⟨rfl, rfl, rfl⟩
  · rw [decide_eq_false c]
    refine tr_of_body Try.func65 rfl Try.ntmps65 (by simp) fun um Q hQ => ?_
    simp only [argE, Nat.zero_add, Nat.reduceAdd]
    repeat (first
      | refine we_seq ?_
      | (refine we_region _ rfl rfl ?_; simp only [opsOf, List.map_cons, List.map_nil, Option.map_none, Option.map_some, List.getElem?_toArray, List.getElem?_cons_zero, List.getElem?_cons_succ, Option.bind_some, Option.getD_some])
      | refine wo_nil ?_
      | (apply wo_po; apply mo_assign; exact rfl; (first | exact trivial | exact rfl)))
    refine we_draw (List.range' 0 6) (by kernel_rfl) ?_
    repeat (first
      | (apply ap_pure; exact rfl; exact rfl; (first | exact trivial | exact rfl); intro L; apply mo_bin; exact rfl; exact rfl; apply bin_gtrF; omega)
      | (apply ap_pure; exact rfl; exact rfl; (first | exact trivial | exact rfl); intro L; apply mo_move; exact rfl)
      | (apply ap_pure; exact rfl; exact rfl; (first | exact trivial | exact rfl); intro L; apply mo_assign; exact rfl)
      | (apply ap_read; exact rfl; exact rfl; (first | exact trivial | exact rfl); apply mo_load; exact rfl; (repeat (first | exact Rd.row0 rfl | exact Rd.row rfl rfl | exact Rd.still | apply Rd.there)))
      | refine ap_end ?_)
    repeat (first
      | refine we_ret ?_)
    (first | refine at_ret2 (ex := .ret) Try.func65 Try.results65 hQ (.inl rfl) rfl rfl ?_ | refine at_ret2 (ex := .normal) Try.func65 Try.results65 hQ (.inr rfl) rfl rfl ?_)
    exact ⟨rfl, rfl, rfl⟩


theorem cup_tr (R : CntAt A r) (hn : n < 18446744073709551616) (hm : mo < 18446744073709551616) {s : A.S} {Q : Nat → Bool → A.S → Prop} (hs : ChangeT A (upG n mo) s Q) (hh : Has L (A.C s) F) :
    Tr Try.prog B 25 [.pointer (some ⟨r, 0, none⟩), gv, .int .u64 (n : Nat), .int .u64 (mo : Nat)] L (A.x s) fun v L' x' => ∃ o q s', Q o q s' ∧ v = .tuple #[.int .u64 (o : Nat), .bool q, .int .i64 0] ∧ L' = A.C s' :: F ∧ x' = A.x s' := by
  refine Tr.post (R := fun v L' x' => ∃ o q s', Q o q s' ∧ v = .tuple #[.int .u64 (o : Nat), .bool q, .int .i64 0] ∧ x' = A.x s' ∧ ∀ h, Star L' h → Star (A.C s' :: F) h) ?_ (by rintro v L' x' ⟨o, q, s', h1, rfl, rfl, hs⟩; exact ⟨_, ⟨o, q, s', h1, rfl, rfl, rfl⟩, hs⟩)
  refine tr_of_body Try.func25 rfl Try.ntmps25 (by simp) fun um Q hQ => ?_
  simp only [argE, Nat.zero_add, Nat.reduceAdd]
  repeat (first
    | (apply wo_mo; apply mo_box; exact rfl; exact trivial)
    | refine we_seq ?_
    | (refine we_region _ rfl rfl ?_; simp only [opsOf, List.map_cons, List.map_nil, Option.map_none, Option.map_some, List.getElem?_toArray, List.getElem?_cons_zero, List.getElem?_cons_succ, Option.bind_some, Option.getD_some]))
  rintro v' L' ⟨nb, rfl, rfl⟩
  refine wo_ent (arr nb 0 [.int .u64 (n : Nat)] :: L) .refl ?_
  repeat (first
    | (apply wo_mo; apply mo_box; exact rfl; exact trivial))
  rintro v' L' ⟨mb, rfl, rfl⟩
  refine wo_ent (arr mb 0 [.int .u64 (mo : Nat)] :: arr nb 0 [.int .u64 (n : Nat)] :: L) .refl ?_
  repeat (first
    | refine we_seq ?_
    | (refine we_region _ rfl rfl ?_; simp only [opsOf, List.map_cons, List.map_nil, Option.map_none, Option.map_some, List.getElem?_toArray, List.getElem?_cons_zero, List.getElem?_cons_succ, Option.bind_some, Option.getD_some])
    | refine wo_nil ?_
    | (apply wo_po; apply mo_move; exact rfl; (first | exact trivial | exact rfl))
    | (apply wo_po; apply mo_assign; exact rfl; (first | exact trivial | exact rfl)))
  refine wo_call (.cons rfl .nil) trivial (cthere_tr (Rd.of (.there (.there hh)) (R.hdr s))) ?_
  rintro v1 L1 x1 ⟨rfl, rfl, rfl⟩
  refine wo_ent (A.C s :: arr mb 0 [.int .u64 (mo : Nat)] :: arr nb 0 [.int .u64 (n : Nat)] :: F) (.take (.there (.there hh)) .refl) ?_
  repeat (first
    | (apply wo_po; apply mo_makeFunc (first := []) (cap := [_, _]); exact .nil; exact .cons rfl (.cons rfl .nil); exact trivial)
    | refine we_seq ?_
    | (refine we_region _ rfl rfl ?_; simp only [opsOf, List.map_cons, List.map_nil, Option.map_none, Option.map_some, List.getElem?_toArray, List.getElem?_cons_zero, List.getElem?_cons_succ, Option.bind_some, Option.getD_some])
    | refine wo_nil ?_
    | (apply wo_po; apply mo_move; exact rfl; (first | exact trivial | exact rfl))
    | (apply wo_po; apply mo_not; exact rfl; (first | exact trivial | exact rfl))
    | (apply we_condF; exact rfl; (first | exact rfl | (simp <;> omega) | omega))
    | refine we_skip ?_)
  refine wo_call (.cons rfl (.cons rfl (.cons rfl .nil))) trivial (change_tr R (caps := [_, _]) (up1_tr hn hm) (fun v hv => Nat.mod_lt _ (by decide)) hs .here) ?_
  rintro v1 L1 x1 ⟨o, q, s', h1, rfl, rfl, rfl⟩
  repeat (first
    | refine we_seq ?_
    | (refine we_region _ rfl rfl ?_; simp only [opsOf, List.map_cons, List.map_nil, Option.map_none, Option.map_some, List.getElem?_toArray, List.getElem?_cons_zero, List.getElem?_cons_succ, Option.bind_some, Option.getD_some])
    | refine wo_nil ?_
    | (apply wo_po; apply mo_move; exact rfl; (first | exact trivial | exact rfl))
    | (apply wo_po; apply mo_assign; exact rfl; (first | exact trivial | exact rfl))
    | (apply wo_po; apply mo_extract; exact rfl; exact rfl; (first | exact trivial | exact rfl))
    | refine we_ret ?_)
  (first | refine at_ret3 (ex := .ret) Try.func25 Try.results25 hQ (.inl rfl) rfl rfl rfl ?_ | refine at_ret3 (ex := .normal) Try.func25 Try.results25 hQ (.inr rfl) rfl rfl rfl ?_)
  exact ⟨o, q, s', h1, rfl, rfl, fun h st => Ent.star (.take .here (.drop (.drop .refl))) st⟩


theorem cdown_tr (R : CntAt A r) (hn : n < 18446744073709551616) {s : A.S} {Q : Nat → Bool → A.S → Prop} (hs : ChangeT A (downG n) s Q) (hh : Has L (A.C s) F) :
    Tr Try.prog B 24 [.pointer (some ⟨r, 0, none⟩), gv, .int .u64 (n : Nat)] L (A.x s) fun v L' x' => ∃ o q s', Q o q s' ∧ v = .tuple #[.int .u64 (o : Nat), .bool q, .int .i64 0] ∧ L' = A.C s' :: F ∧ x' = A.x s' := by
  refine Tr.post (R := fun v L' x' => ∃ o q s', Q o q s' ∧ v = .tuple #[.int .u64 (o : Nat), .bool q, .int .i64 0] ∧ x' = A.x s' ∧ ∀ h, Star L' h → Star (A.C s' :: F) h) ?_ (by rintro v L' x' ⟨o, q, s', h1, rfl, rfl, hs⟩; exact ⟨_, ⟨o, q, s', h1, rfl, rfl, rfl⟩, hs⟩)
  refine tr_of_body Try.func24 rfl Try.ntmps24 (by simp) fun um Q hQ => ?_
  simp only [argE, Nat.zero_add, Nat.reduceAdd]
  repeat (first
    | (apply wo_mo; apply mo_box; exact rfl; exact trivial)
    | refine we_seq ?_
    | (refine we_region _ rfl rfl ?_; simp only [opsOf, List.map_cons, List.map_nil, Option.map_none, Option.map_some, List.getElem?_toArray, List.getElem?_cons_zero, List.getElem?_cons_succ, Option.bind_some, Option.getD_some]))
  rintro v' L' ⟨nb, rfl, rfl⟩
  refine wo_ent (arr nb 0 [.int .u64 (n : Nat)] :: L) .refl ?_
  repeat (first
    | refine we_seq ?_
    | (refine we_region _ rfl rfl ?_; simp only [opsOf, List.map_cons, List.map_nil, Option.map_none, Option.map_some, List.getElem?_toArray, List.getElem?_cons_zero, List.getElem?_cons_succ, Option.bind_some, Option.getD_some])
    | refine wo_nil ?_
    | (apply wo_po; apply mo_move; exact rfl; (first | exact trivial | exact rfl))
    | (apply wo_po; apply mo_assign; exact rfl; (first | exact trivial | exact rfl)))
  refine wo_call (.cons rfl .nil) trivial (cthere_tr (Rd.of (.there hh) (R.hdr s))) ?_
  rintro v1 L1 x1 ⟨rfl, rfl, rfl⟩
  refine wo_ent (A.C s :: arr nb 0 [.int .u64 (n : Nat)] :: F) (.take (.there hh) .refl) ?_
  repeat (first
    | (apply wo_po; apply mo_makeFunc (first := []) (cap := [_]); exact .nil; exact .cons rfl .nil; exact trivial)
    | refine we_seq ?_
    | (refine we_region _ rfl rfl ?_; simp only [opsOf, List.map_cons, List.map_nil, Option.map_none, Option.map_some, List.getElem?_toArray, List.getElem?_cons_zero, List.getElem?_cons_succ, Option.bind_some, Option.getD_some])
    | refine wo_nil ?_
    | (apply wo_po; apply mo_move; exact rfl; (first | exact trivial | exact rfl))
    | (apply wo_po; apply mo_not; exact rfl; (first | exact trivial | exact rfl))
    | (apply we_condF; exact rfl; (first | exact rfl | (simp <;> omega) | omega))
    | refine we_skip ?_)
  refine wo_call (.cons rfl (.cons rfl (.cons rfl .nil))) trivial (change_tr R (caps := [_]) (down1_tr hn) (fun v hv => Nat.mod_lt _ (by decide)) hs .here) ?_
  rintro v1 L1 x1 ⟨o, q, s', h1, rfl, rfl, rfl⟩
  repeat (first
    | refine we_seq ?_
    | (refine we_region _ rfl rfl ?_; simp only [opsOf, List.map_cons, List.map_nil, Option.map_none, Option.map_some, List.getElem?_toArray, List.getElem?_cons_zero, List.getElem?_cons_succ, Option.bind_some, Option.getD_some])
    | refine wo_nil ?_
    | (apply wo_po; apply mo_move; exact rfl; (first | exact trivial | exact rfl))
    | (apply wo_po; apply mo_assign; exact rfl; (first | exact trivial | exact rfl))
    | (apply wo_po; apply mo_extract; exact rfl; exact rfl; (first | exact trivial | exact rfl))
    | refine we_ret ?_)
  (first | refine at_ret3 (ex := .ret) Try.func24 Try.results24 hQ (.inl rfl) rfl rfl rfl ?_ | refine at_ret3 (ex := .normal) Try.func24 Try.results24 hQ (.inr rfl) rfl rfl rfl ?_)
  exact ⟨o, q, s', h1, rfl, rfl, fun h st => Ent.star (.take .here (.drop .refl)) st⟩


theorem cmax_tr (R : CntAt A r) (hn : n < 18446744073709551616) {s : A.S} {Q : Nat → Bool → A.S → Prop} (hs : ChangeT A (maxG n) s Q) (hh : Has L (A.C s) F) :
    Tr Try.prog B 29 [.pointer (some ⟨r, 0, none⟩), gv, .int .u64 (n : Nat)] L (A.x s) fun v L' x' => ∃ o q s', Q o q s' ∧ v = .tuple #[.bool q, .int .i64 0] ∧ L' = A.C s' :: F ∧ x' = A.x s' := by
  refine Tr.post (R := fun v L' x' => ∃ o q s', Q o q s' ∧ v = .tuple #[.bool q, .int .i64 0] ∧ x' = A.x s' ∧ ∀ h, Star L' h → Star (A.C s' :: F) h) ?_ (by rintro v L' x' ⟨o, q, s', h1, rfl, rfl, hs⟩; exact ⟨_, ⟨o, q, s', h1, rfl, rfl, rfl⟩, hs⟩)
  refine tr_of_body Try.func29 rfl Try.ntmps29 (by simp) fun um Q hQ => ?_
  simp only [argE, Nat.zero_add, Nat.reduceAdd]
  repeat (first
    | (apply wo_mo; apply mo_box; exact rfl; exact trivial)
    | refine we_seq ?_
    | (refine we_region _ rfl rfl ?_; simp only [opsOf, List.map_cons, List.map_nil, Option.map_none, Option.map_some, List.getElem?_toArray, List.getElem?_cons_zero, List.getElem?_cons_succ, Option.bind_some, Option.getD_some]))
  rintro v' L' ⟨nb, rfl, rfl⟩
  refine wo_ent (arr nb 0 [.int .u64 (n : Nat)] :: L) .refl ?_
  repeat (first
    | refine we_seq ?_
    | (refine we_region _ rfl rfl ?_; simp only [opsOf, List.map_cons, List.map_nil, Option.map_none, Option.map_some, List.getElem?_toArray, List.getElem?_cons_zero, List.getElem?_cons_succ, Option.bind_some, Option.getD_some])
    | refine wo_nil ?_
    | (apply wo_po; apply mo_move; exact rfl; (first | exact trivial | exact rfl))
    | (apply wo_po; apply mo_assign; exact rfl; (first | exact trivial | exact rfl)))
  refine wo_call (.cons rfl .nil) trivial (cthere_tr (Rd.of (.there hh) (R.hdr s))) ?_
  rintro v1 L1 x1 ⟨rfl, rfl, rfl⟩
  refine wo_ent (A.C s :: arr nb 0 [.int .u64 (n : Nat)] :: F) (.take (.there hh) .refl) ?_
  repeat (first
    | (apply wo_po; apply mo_makeFunc (first := []) (cap := [_]); exact .nil; exact .cons rfl .nil; exact trivial)
    | refine we_seq ?_
    | (refine we_region _ rfl rfl ?_; simp only [opsOf, List.map_cons, List.map_nil, Option.map_none, Option.map_some, List.getElem?_toArray, List.getElem?_cons_zero, List.getElem?_cons_succ, Option.bind_some, Option.getD_some])
    | refine wo_nil ?_
    | (apply wo_po; apply mo_move; exact rfl; (first | exact trivial | exact rfl))
    | (apply wo_po; apply mo_not; exact rfl; (first | exact trivial | exact rfl))
    | (apply we_condF; exact rfl; (first | exact rfl | (simp <;> omega) | omega))
    | refine we_skip ?_)
  refine wo_call (.cons rfl (.cons rfl (.cons rfl .nil))) trivial (change_tr R (caps := [_]) (max1_tr) (fun v hv => hn) hs .here) ?_
  rintro v1 L1 x1 ⟨o, q, s', h1, rfl, rfl, rfl⟩
  repeat (first
    | refine we_seq ?_
    | (refine we_region _ rfl rfl ?_; simp only [opsOf, List.map_cons, List.map_nil, Option.map_none, Option.map_some, List.getElem?_toArray, List.getElem?_cons_zero, List.getElem?_cons_succ, Option.bind_some, Option.getD_some])
    | refine wo_nil ?_
    | (apply wo_po; apply mo_move; exact rfl; (first | exact trivial | exact rfl))
    | (apply wo_po; apply mo_assign; exact rfl; (first | exact trivial | exact rfl))
    | (apply wo_po; apply mo_extract; exact rfl; exact rfl; (first | exact trivial | exact rfl))
    | refine we_ret ?_)
  (first | refine at_ret2 (ex := .ret) Try.func29 Try.results29 hQ (.inl rfl) rfl rfl ?_ | refine at_ret2 (ex := .normal) Try.func29 Try.results29 hQ (.inr rfl) rfl rfl ?_)
  exact ⟨o, q, s', h1, rfl, rfl, fun h st => Ent.star (.take .here (.drop .refl)) st⟩

end
end Go.Proofs.Ytkgnkloonamheaa
