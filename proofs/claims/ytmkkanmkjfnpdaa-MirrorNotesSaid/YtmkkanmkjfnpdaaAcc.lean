/-
  HOW A LAYER'S CODE REACHES ITS SHARED WORDS AND ITS GATE ('Acc'): states of mine, a chunk for each, what a step of the gate and an operation on a word do to them. A layer's contracts are proved once over any Acc.
-/
import Derived.Test.YtmkkanmkjfnpdaaTy
set_option linter.unusedVariables false
set_option linter.unusedSimpArgs false
namespace Go.Proofs.Ytmkkanmkjfnpdaa
open Go Go.PB
attribute [local irreducible] Mo Bin Eql Tr Wo

/-- what one may read there -/
structure Acc (B : Hand) (gv : Value) where
  S : Type
  C : S → HProp
  x : S → B.X
  step : Int → Nat → S → (S → Prop) → Prop
  addr : Nat → Nat × Nat
  load : Nat → S → (Nat → S → Prop) → Prop
  store : Nat → Nat → S → (S → Prop) → Prop
  cas : Nat → Nat → Nat → S → (Bool → S → Prop) → Prop
  add : Nat → Nat → S → (Nat → S → Prop) → Prop
  swap : Nat → Nat → S → (Nat → S → Prop) → Prop
  gate : (gv = .nilIface ∧ ∀ op w s R, step op w s R → R s) ∨
    ∃ t p f, gv = .iface t p ∧ Met Try.prog t "Step" f ∧ Ent' Try.prog f ∧ ∀ op w s R L F, step op w s R → Has L (C s) F →
      Tr Try.prog B f [p, .agg #[.int .u8 op, .int .i64 (w : Nat)]] L (x s) fun v L' x' => ∃ s', R s' ∧ v = .tuple #[] ∧ L' = C s' :: F ∧ x' = x s'
  load_ok : ∀ w s R L F b o, addr w = (b, o) → load w s R → Has L (C s) F → Tr Try.prog B 48 [.pointer (some ⟨b, o, none⟩)] L (x s) fun v L' x' => ∃ n s', n < 18446744073709551616 ∧ R n s' ∧ v = .int .u64 (n : Nat) ∧ L' = C s' :: F ∧ x' = x s'
  store_ok : ∀ w n s R L F b o, addr w = (b, o) → n < 18446744073709551616 → store w n s R → Has L (C s) F → Tr Try.prog B 62 [.pointer (some ⟨b, o, none⟩), .int .u64 (n : Nat)] L (x s) fun v L' x' => ∃ s', R s' ∧ v = .tuple #[] ∧ L' = C s' :: F ∧ x' = x s'
  cas_ok : ∀ w m n s R L F b o, addr w = (b, o) → n < 18446744073709551616 → cas w m n s R → Has L (C s) F → Tr Try.prog B 84 [.pointer (some ⟨b, o, none⟩), .int .u64 (m : Nat), .int .u64 (n : Nat)] L (x s) fun v L' x' => ∃ q s', R q s' ∧ v = .bool q ∧ L' = C s' :: F ∧ x' = x s'
  add_ok : ∀ w n s R L F b o, addr w = (b, o) → n < 18446744073709551616 → add w n s R → Has L (C s) F → Tr Try.prog B 65 [.pointer (some ⟨b, o, none⟩), .int .u64 (n : Nat)] L (x s) fun v L' x' => ∃ m s', m < 18446744073709551616 ∧ R m s' ∧ v = .int .u64 (m : Nat) ∧ L' = C s' :: F ∧ x' = x s'

section
variable {B : Hand} [Lets B] {L F L1 : List HProp}

/- ---- sync/atomic's methods over memory that the thread owns ---- -/
theorem load_lone {b o : Nat} {n : Int} {x : B.X} (hr : Rd L b o (.int .u64 n)) : Tr Try.prog B 48 [.pointer (some ⟨b, o, none⟩)] L x fun v L' x' => v = .int .u64 n ∧ L' = L ∧ x' = x := by
  refine tr_of_body Try.func48 rfl Try.ntmps48 (by simp) fun um Q hQ => ?_
  simp only [argE, Nat.zero_add, Nat.reduceAdd]
  repeat (first
    | (apply wo_po; apply mo_ext (args := [_]); exact .cons rfl .nil; exact at_loadI hr; exact trivial)
    | refine we_seq ?_
    | (refine we_region _ rfl rfl ?_; simp only [opsOf, List.map_cons, List.map_nil, Option.map_none, Option.map_some, List.getElem?_toArray, List.getElem?_cons_zero, List.getElem?_cons_succ, Option.bind_some, Option.getD_some])
    | refine wo_nil ?_
    | (apply wo_po; apply mo_move; exact rfl; (first | exact trivial | exact rfl))
    | (apply wo_po; apply mo_assign; exact rfl; (first | exact trivial | exact rfl))
    | (apply wo_po; apply mo_nilCheck; exact rfl; (first | exact trivial | exact rfl))
    | (apply wo_po; apply mo_fieldAddr; exact rfl; exact rfl; (first | exact Nat.zero_add _ | exact rfl); (first | exact trivial | exact rfl))
    | refine we_ret ?_)
  (first | refine at_ret1 (ex := .ret) Try.func48 Try.results48 hQ (.inl rfl) rfl ?_ | refine at_ret1 (ex := .normal) Try.func48 Try.results48 hQ (.inr rfl) rfl ?_)
  exact ⟨rfl, rfl, rfl⟩
theorem store_lone {b o : Nat} {n : Int} {x : B.X} (hw : Wt L b o (.int .u64 n) L1) : Tr Try.prog B 62 [.pointer (some ⟨b, o, none⟩), .int .u64 n] L x fun v L' x' => v = .tuple #[] ∧ L' = L1 ∧ x' = x := by
  refine tr_of_body Try.func62 rfl Try.ntmps62 (by simp) fun um Q hQ => ?_
  simp only [argE, Nat.zero_add, Nat.reduceAdd]
  repeat (first
    | (apply wo_pm; apply mo_ext (args := [_, _]); exact .cons rfl (.cons rfl .nil); exact at_storeI rfl hw; exact trivial)
    | (refine we_region _ rfl rfl ?_; simp only [opsOf, List.map_cons, List.map_nil, Option.map_none, Option.map_some, List.getElem?_toArray, List.getElem?_cons_zero, List.getElem?_cons_succ, Option.bind_some, Option.getD_some])
    | refine wo_nil ?_
    | (apply wo_po; apply mo_move; exact rfl; (first | exact trivial | exact rfl))
    | (apply wo_po; apply mo_nilCheck; exact rfl; (first | exact trivial | exact rfl))
    | (apply wo_po; apply mo_fieldAddr; exact rfl; exact rfl; (first | exact Nat.zero_add _ | exact rfl); (first | exact trivial | exact rfl)))
  (first | refine at_ret0 (ex := .ret) Try.func62 Try.results62 hQ (.inl rfl) ?_ | refine at_ret0 (ex := .normal) Try.func62 Try.results62 hQ (.inr rfl) ?_)
  exact ⟨rfl, rfl, rfl⟩
theorem cas_lone {b o : Nat} {n m y : Int} {x : B.X} (hr : Rd L b o (.int .u64 n)) (hw : Wt L b o (.int .u64 y) L1) : Tr Try.prog B 84 [.pointer (some ⟨b, o, none⟩), .int .u64 m, .int .u64 y] L x fun v L' x' => v = .bool (decide (n = m)) ∧ L' = (if n = m then L1 else L) ∧ x' = x := by
  refine tr_of_body Try.func84 rfl Try.ntmps84 (by simp) fun um Q hQ => ?_
  simp only [argE, Nat.zero_add, Nat.reduceAdd]
  repeat (first
    | (apply wo_pm; apply mo_ext (args := [_, _, _]); exact .cons rfl (.cons rfl (.cons rfl .nil)); exact at_casI hr hw; exact trivial)
    | refine we_seq ?_
    | (refine we_region _ rfl rfl ?_; simp only [opsOf, List.map_cons, List.map_nil, Option.map_none, Option.map_some, List.getElem?_toArray, List.getElem?_cons_zero, List.getElem?_cons_succ, Option.bind_some, Option.getD_some])
    | refine wo_nil ?_
    | (apply wo_po; apply mo_move; exact rfl; (first | exact trivial | exact rfl))
    | (apply wo_po; apply mo_assign; exact rfl; (first | exact trivial | exact rfl))
    | (apply wo_po; apply mo_nilCheck; exact rfl; (first | exact trivial | exact rfl))
    | (apply wo_po; apply mo_fieldAddr; exact rfl; exact rfl; (first | exact Nat.zero_add _ | exact rfl); (first | exact trivial | exact rfl))
    | refine we_ret ?_)
  (first | refine at_ret1 (ex := .ret) Try.func84 Try.results84 hQ (.inl rfl) rfl ?_ | refine at_ret1 (ex := .normal) Try.func84 Try.results84 hQ (.inr rfl) rfl ?_)
  exact ⟨rfl, rfl, rfl⟩
theorem add_lone {b o : Nat} {n y r : Int} {x : B.X} (hr : Rd L b o (.int .u64 n)) (hn : IntKind.u64.wrap (n + y) = r) (hw : Wt L b o (.int .u64 r) L1) : Tr Try.prog B 65 [.pointer (some ⟨b, o, none⟩), .int .u64 y] L x fun v L' x' => v = .int .u64 r ∧ L' = L1 ∧ x' = x := by
  refine tr_of_body Try.func65 rfl Try.ntmps65 (by simp) fun um Q hQ => ?_
  simp only [argE, Nat.zero_add, Nat.reduceAdd]
  repeat (first
    | (apply wo_pm; apply mo_ext (args := [_, _]); exact .cons rfl (.cons rfl .nil); exact at_addI hr hn hw; exact trivial)
    | refine we_seq ?_
    | (refine we_region _ rfl rfl ?_; simp only [opsOf, List.map_cons, List.map_nil, Option.map_none, Option.map_some, List.getElem?_toArray, List.getElem?_cons_zero, List.getElem?_cons_succ, Option.bind_some, Option.getD_some])
    | refine wo_nil ?_
    | (apply wo_po; apply mo_move; exact rfl; (first | exact trivial | exact rfl))
    | (apply wo_po; apply mo_assign; exact rfl; (first | exact trivial | exact rfl))
    | (apply wo_po; apply mo_nilCheck; exact rfl; (first | exact trivial | exact rfl))
    | (apply wo_po; apply mo_fieldAddr; exact rfl; exact rfl; (first | exact Nat.zero_add _ | exact rfl); (first | exact trivial | exact rfl))
    | refine we_ret ?_)
  (first | refine at_ret1 (ex := .ret) Try.func65 Try.results65 hQ (.inl rfl) rfl ?_ | refine at_ret1 (ex := .normal) Try.func65 Try.results65 hQ (.inr rfl) rfl ?_)
  exact ⟨rfl, rfl, rfl⟩

end
end Go.Proofs.Ytmkkanmkjfnpdaa
