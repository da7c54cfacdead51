/-
  THE METER (package meter), over whatever access to its word and its gate.
-/
import Derived.Test.YthoefhocecdlhaaBucket
set_option linter.unusedVariables false
set_option linter.unusedSimpArgs false
namespace Go.Proofs.Ythoefhocecdlhaa
open Go Go.PB
attribute [local irreducible] Mo Bin Eql Tr Wo Ap Wle


/-- a meter that is there -/
structure MeterAt {B : Hand} {gv : Value} (A : Acc B gv) (r num den burst : Nat) : Prop where
  ok : BOk num den burst
  hdr : ∀ s, Rds [A.C s] r 0 [.int .u64 (num : Nat), .int .u64 (den : Nat), .int .u64 (burst : Nat)]
  a : A.addr 0 = (r, 3)

theorem takeN_lt {num den burst s now n t : Nat} (h : takeN num den burst s now n = some t) : t < 18446744073709551616 := by
  unfold takeN at h
  split at h
  · cases h
  · cases h; exact Nat.mod_lt _ (by decide)

section
variable {B : Hand} [Lets B] {gv : Value} {A : Acc B gv} {r num den burst now n : Nat} {L F : List HProp}

omit [Lets B] in
theorem MeterAt.rds (R : MeterAt A r num den burst) {s : A.S} (hh : Has L (A.C s) F) : Rds L r 0 [.int .u64 (num : Nat), .int .u64 (den : Nat), .int .u64 (burst : Nat)] := fun i v hv => Rd.of hh (R.hdr s i v hv)

theorem step_tr {op : Int} {s : A.S} {T : A.S → Prop} (hs : A.step op 0 s T) (hh : Has L (A.C s) F) :
    Tr Try.prog B 37 [gv, .int .u8 op] L (A.x s) fun v L' x' => ∃ s', T s' ∧ v = .tuple #[] ∧ L' = A.C s' :: F ∧ x' = A.x s' := by
  rcases A.gate with ⟨rfl, hg⟩ | ⟨t, p, f, rfl, hm, he, hg⟩
  · refine tr_of_body Try.func37 rfl Try.ntmps37 (by simp) fun um Q hQ => ?_
    simp only [argE, Nat.zero_add, Nat.reduceAdd]
    repeat (first
      | refine we_seq ?_
      | (refine we_region _ rfl rfl ?_; simp only [opsOf, List.map_cons, List.map_nil, Option.map_none, Option.map_some, List.getElem?_toArray, List.getElem?_cons_zero, List.getElem?_cons_succ, Option.bind_some, Option.getD_some])
      | refine wo_nil ?_
      | (apply wo_po; apply mo_move; exact rfl; (first | exact trivial | exact rfl))
      | (apply wo_po; apply mo_bin; exact rfl; exact rfl; apply bin_ne; apply eql_nil_nil; (first | exact trivial | exact rfl))
      | (apply we_condF; exact rfl; (first | exact rfl | (simp <;> omega) | omega))
      | refine we_skip ?_)
    refine at_ent _ (Ent.take hh .refl) ?_
    (first | refine at_ret0 (ex := .ret) Try.func37 Try.results37 hQ (.inl rfl) ?_ | refine at_ret0 (ex := .normal) Try.func37 Try.results37 hQ (.inr rfl) ?_)
    exact ⟨s, hg _ _ _ _ hs, rfl, rfl, rfl⟩
  · refine tr_of_body Try.func37 rfl Try.ntmps37 (by simp) fun um Q hQ => ?_
    simp only [argE, Nat.zero_add, Nat.reduceAdd]
    repeat (first
      | (apply wo_po; apply mo_build (pv := [(0, _)]); exact rfl; exact .cons rfl .nil; exact rfl; exact trivial)
      | refine we_seq ?_
      | (refine we_region _ rfl rfl ?_; simp only [opsOf, List.map_cons, List.map_nil, Option.map_none, Option.map_some, List.getElem?_toArray, List.getElem?_cons_zero, List.getElem?_cons_succ, Option.bind_some, Option.getD_some])
      | refine wo_nil ?_
      | (apply wo_po; apply mo_move; exact rfl; (first | exact trivial | exact rfl))
      | (apply wo_po; apply mo_bin; exact rfl; exact rfl; apply bin_ne; apply eql_iface_nil; (first | exact trivial | exact rfl))
      | (apply we_condT; exact rfl; (first | exact rfl | (simp <;> omega) | omega)))
    refine wo_invoke (args := [_]) rfl (.cons rfl .nil) trivial (hg op 0 s T L F hs hh) ?_
    rintro v L' x' ⟨s', h1, rfl, rfl, rfl⟩
    repeat (first
      | refine wo_nil ?_)
    (first | refine at_ret0 (ex := .ret) Try.func37 Try.results37 hQ (.inl rfl) ?_ | refine at_ret0 (ex := .normal) Try.func37 Try.results37 hQ (.inr rfl) ?_)
    exact ⟨s', h1, rfl, rfl, rfl⟩


theorem there_tr {x : B.X} (O : BOk num den burst) (hr : Rds L r 0 [.int .u64 (num : Nat), .int .u64 (den : Nat), .int .u64 (burst : Nat)]) : Tr Try.prog B 42 [.pointer (some ⟨r, 0, none⟩)] L x fun v L' x' => v = .bool true ∧ L' = L ∧ x' = x := by
  have hr2 := hr 2 _ rfl
  have hb := O.b1
  refine tr_of_body Try.func42 rfl Try.ntmps42 (by simp) fun um Q hQ => ?_
  simp only [argE, Nat.zero_add, Nat.reduceAdd]
  repeat (first
    | (apply wo_po; apply mo_load; exact rfl; exact hr2; exact rfl)
    | (apply wo_po; apply mo_bin; exact rfl; exact rfl; apply bin_gtrT; omega; (first | exact trivial | exact rfl))
    | refine we_seq ?_
    | (refine we_region _ rfl rfl ?_; simp only [opsOf, List.map_cons, List.map_nil, Option.map_none, Option.map_some, List.getElem?_toArray, List.getElem?_cons_zero, List.getElem?_cons_succ, Option.bind_some, Option.getD_some])
    | refine wo_nil ?_
    | (apply wo_po; apply mo_move; exact rfl; (first | exact trivial | exact rfl))
    | (apply wo_po; apply mo_assign; exact rfl; (first | exact trivial | exact rfl))
    | (apply wo_po; apply mo_pickT; exact rfl; exact rfl; exact rfl; (first | exact trivial | exact rfl))
    | (apply wo_po; apply mo_nilCheck; exact rfl; (first | exact trivial | exact rfl))
    | (apply wo_po; apply mo_fieldAddr; exact rfl; exact rfl; (first | exact Nat.zero_add _ | exact rfl); (first | exact trivial | exact rfl))
    | (apply wo_po; apply mo_bin; exact rfl; exact rfl; apply bin_ne; apply eql_ptr_nil; (first | exact trivial | exact rfl))
    | refine we_ret ?_)
  (first | refine at_ret1 (ex := .ret) Try.func42 Try.results42 hQ (.inl rfl) rfl ?_ | refine at_ret1 (ex := .normal) Try.func42 Try.results42 hQ (.inr rfl) rfl ?_)
  exact ⟨rfl, rfl, rfl⟩


theorem mmay_tr {x : B.X} (O : BOk num den burst) (ht : now ≤ 1099511627776) (hr : Rds L r 0 [.int .u64 (num : Nat), .int .u64 (den : Nat), .int .u64 (burst : Nat)]) : Tr Try.prog B 36 [.pointer (some ⟨r, 0, none⟩), .int .u64 (now : Nat)] L x fun v L' x' => v = .int .i64 0 ∧ L' = L ∧ x' = x := by
  refine tr_of_body Try.func36 rfl Try.ntmps36 (by simp) fun um Q hQ => ?_
  simp only [argE, Nat.zero_add, Nat.reduceAdd]
  repeat (first
    | refine we_seq ?_
    | (refine we_region _ rfl rfl ?_; simp only [opsOf, List.map_cons, List.map_nil, Option.map_none, Option.map_some, List.getElem?_toArray, List.getElem?_cons_zero, List.getElem?_cons_succ, Option.bind_some, Option.getD_some])
    | refine wo_nil ?_
    | (apply wo_po; apply mo_move; exact rfl; (first | exact trivial | exact rfl))
    | (apply wo_po; apply mo_assign; exact rfl; (first | exact trivial | exact rfl))
    | refine we_block ?_)
  refine wo_call (.cons rfl .nil) trivial (there_tr O hr) ?_
  rintro v L1 x1 ⟨rfl, rfl, rfl⟩
  repeat (first
    | (apply wo_po; apply mo_bin; exact rfl; exact rfl; apply bin_gtrF; omega; (first | exact trivial | exact rfl))
    | refine we_seq ?_
    | (refine we_region _ rfl rfl ?_; simp only [opsOf, List.map_cons, List.map_nil, Option.map_none, Option.map_some, List.getElem?_toArray, List.getElem?_cons_zero, List.getElem?_cons_succ, Option.bind_some, Option.getD_some])
    | refine wo_nil ?_
    | (apply wo_po; apply mo_move; exact rfl; (first | exact trivial | exact rfl))
    | (apply wo_po; apply mo_assign; exact rfl; (first | exact trivial | exact rfl))
    | (apply wo_po; apply mo_not; exact rfl; (first | exact trivial | exact rfl))
    | (apply we_condF; exact rfl; (first | exact rfl | (simp <;> omega) | omega))
    | refine we_ret ?_
    | refine we_skip ?_)
  (first | refine at_ret1 (ex := .ret) Try.func36 Try.results36 hQ (.inl rfl) rfl ?_ | refine at_ret1 (ex := .normal) Try.func36 Try.results36 hQ (.inr rfl) rfl ?_)
  exact ⟨rfl, rfl, rfl⟩
theorem mmay_far {x : B.X} (O : BOk num den burst) (ht : 1099511627776 < now) (hr : Rds L r 0 [.int .u64 (num : Nat), .int .u64 (den : Nat), .int .u64 (burst : Nat)]) : Tr Try.prog B 36 [.pointer (some ⟨r, 0, none⟩), .int .u64 (now : Nat)] L x fun v L' x' => v = .int .i64 5 ∧ L' = L ∧ x' = x := by
  refine tr_of_body Try.func36 rfl Try.ntmps36 (by simp) fun um Q hQ => ?_
  simp only [argE, Nat.zero_add, Nat.reduceAdd]
  repeat (first
    | refine we_seq ?_
    | (refine we_region _ rfl rfl ?_; simp only [opsOf, List.map_cons, List.map_nil, Option.map_none, Option.map_some, List.getElem?_toArray, List.getElem?_cons_zero, List.getElem?_cons_succ, Option.bind_some, Option.getD_some])
    | refine wo_nil ?_
    | (apply wo_po; apply mo_move; exact rfl; (first | exact trivial | exact rfl))
    | (apply wo_po; apply mo_assign; exact rfl; (first | exact trivial | exact rfl))
    | refine we_block ?_)
  refine wo_call (.cons rfl .nil) trivial (there_tr O hr) ?_
  rintro v L1 x1 ⟨rfl, rfl, rfl⟩
  repeat (first
    | (apply wo_po; apply mo_bin; exact rfl; exact rfl; apply bin_gtrT; omega; (first | exact trivial | exact rfl))
    | refine we_seq ?_
    | (refine we_region _ rfl rfl ?_; simp only [opsOf, List.map_cons, List.map_nil, Option.map_none, Option.map_some, List.getElem?_toArray, List.getElem?_cons_zero, List.getElem?_cons_succ, Option.bind_some, Option.getD_some])
    | refine wo_nil ?_
    | (apply wo_po; apply mo_move; exact rfl; (first | exact trivial | exact rfl))
    | (apply wo_po; apply mo_assign; exact rfl; (first | exact trivial | exact rfl))
    | (apply wo_po; apply mo_not; exact rfl; (first | exact trivial | exact rfl))
    | (apply we_condT; exact rfl; (first | exact rfl | (simp <;> omega) | omega))
    | (apply we_condF; exact rfl; (first | exact rfl | (simp <;> omega) | omega))
    | refine we_ret ?_)
  (first | refine at_ret1 (ex := .ret) Try.func36 Try.results36 hQ (.inl rfl) rfl ?_ | refine at_ret1 (ex := .normal) Try.func36 Try.results36 hQ (.inr rfl) rfl ?_)
  exact ⟨rfl, rfl, rfl⟩


def MTakeF (A : Acc B gv) (num den burst now n : Nat) (Q : Bool → A.S → Prop) (X : A.S → Prop) (s : A.S) : Prop :=
  A.step 1 0 s fun s => A.load 0 s fun o s => match takeN num den burst o now n with
    | none => Q false s
    | some t => A.step 5 0 s fun s => A.cas 0 o t s fun c s => if c then Q true s else X s
def MTakeT (A : Acc B gv) (num den burst now n : Nat) (s : A.S) (Q : Bool → A.S → Prop) : Prop := ∀ X : A.S → Prop, (∀ s, MTakeF A num den burst now n Q X s → X s) → X s

theorem mtake_tr (R : MeterAt A r num den burst) (ht : now ≤ 1099511627776) (hn : n < 18446744073709551616) {s : A.S} {G : Bool → A.S → Prop} (hs : MTakeT A num den burst now n s G) (hh : Has L (A.C s) F) :
    Tr Try.prog B 9 [.pointer (some ⟨r, 0, none⟩), gv, .int .u64 (now : Nat), .int .u64 (n : Nat)] L (A.x s) fun v L' x' => ∃ q s', G q s' ∧ v = .tuple #[.bool q, .int .i64 0] ∧ L' = A.C s' :: F ∧ x' = A.x s' := by
  refine tr_of_body Try.func9 rfl Try.ntmps9 (by simp) fun um Q hQ => ?_
  simp only [argE, Nat.zero_add, Nat.reduceAdd]
  repeat (first
    | refine we_seq ?_
    | (refine we_region _ rfl rfl ?_; simp only [opsOf, List.map_cons, List.map_nil, Option.map_none, Option.map_some, List.getElem?_toArray, List.getElem?_cons_zero, List.getElem?_cons_succ, Option.bind_some, Option.getD_some])
    | refine wo_nil ?_
    | (apply wo_po; apply mo_move; exact rfl; (first | exact trivial | exact rfl))
    | (apply wo_po; apply mo_assign; exact rfl; (first | exact trivial | exact rfl)))
  refine wo_call (.cons rfl (.cons rfl .nil)) trivial (mmay_tr R.ok ht (R.rds hh)) ?_
  rintro v1 L1 x1 ⟨rfl, rfl, rfl⟩
  repeat (first
    | (apply wo_po; apply mo_bin; exact rfl; exact rfl; apply bin_neqF; omega; (first | exact trivial | exact rfl))
    | refine we_seq ?_
    | (refine we_region _ rfl rfl ?_; simp only [opsOf, List.map_cons, List.map_nil, Option.map_none, Option.map_some, List.getElem?_toArray, List.getElem?_cons_zero, List.getElem?_cons_succ, Option.bind_some, Option.getD_some])
    | refine wo_nil ?_
    | (apply wo_po; apply mo_move; exact rfl; (first | exact trivial | exact rfl))
    | (apply wo_po; apply mo_assign; exact rfl; (first | exact trivial | exact rfl))
    | (apply we_condF; exact rfl; (first | exact rfl | (simp <;> omega) | omega))
    | refine we_skip ?_
    | refine we_block ?_)
  refine we_lfp (MTakeF A num den burst now n G) (fun s => A.C s :: F) A.x s hs [(0, .pointer (some ⟨r, 0, none⟩)), (1, gv), (2, .int .u64 (now : Nat)), (3, .int .u64 (n : Nat))] ⟨rfl, rfl, rfl, rfl, trivial⟩ (.take hh .refl) rfl ?_
  clear hs hh
  intro s hs
  repeat (first
    | refine we_seq ?_
    | (refine we_region _ rfl rfl ?_; simp only [opsOf, List.map_cons, List.map_nil, Option.map_none, Option.map_some, List.getElem?_toArray, List.getElem?_cons_zero, List.getElem?_cons_succ, Option.bind_some, Option.getD_some])
    | (apply wo_po; apply mo_move; exact rfl; (first | exact trivial | exact rfl))
    | refine we_block ?_)
  refine wo_call (.cons rfl (.cons rfl .nil)) trivial (step_tr hs .here) ?_
  rintro v1 L1 x1 ⟨s1, h1, rfl, rfl, rfl⟩
  repeat (first
    | refine we_seq ?_
    | (refine we_region _ rfl rfl ?_; simp only [opsOf, List.map_cons, List.map_nil, Option.map_none, Option.map_some, List.getElem?_toArray, List.getElem?_cons_zero, List.getElem?_cons_succ, Option.bind_some, Option.getD_some])
    | refine wo_nil ?_
    | (apply wo_po; apply mo_move; exact rfl; (first | exact trivial | exact rfl))
    | (apply wo_po; apply mo_nilCheck; exact rfl; (first | exact trivial | exact rfl))
    | (apply wo_po; apply mo_fieldAddr; exact rfl; exact rfl; (first | exact Nat.zero_add _ | exact rfl); (first | exact trivial | exact rfl)))
  refine wo_call (.cons rfl .nil) trivial (A.load_ok _ _ _ _ _ _ _ R.a h1 .here) ?_
  rintro v1 L1 x1 ⟨o, s2, ho, h2, rfl, rfl, rfl⟩
  have hrd : Rds (A.C s2 :: F) r 0 [.int .u64 (num : Nat), .int .u64 (den : Nat), .int .u64 (burst : Nat)] := R.rds .here
  obtain ⟨tk, htk⟩ : ∃ tk, takeN num den burst o now n = tk := ⟨_, rfl⟩
  rw [htk] at h2
  repeat (first
    | (apply wo_po; apply mo_loadA (vs := [.int .u64 (num : Nat), .int .u64 (den : Nat), .int .u64 (burst : Nat)]); exact rfl; exact rfl; exact hrd; exact trivial)
    | refine we_seq ?_
    | (refine we_region _ rfl rfl ?_; simp only [opsOf, List.map_cons, List.map_nil, Option.map_none, Option.map_some, List.getElem?_toArray, List.getElem?_cons_zero, List.getElem?_cons_succ, Option.bind_some, Option.getD_some])
    | refine wo_nil ?_
    | (apply wo_po; apply mo_move; exact rfl; (first | exact trivial | exact rfl))
    | (apply wo_po; apply mo_assign; exact rfl; (first | exact trivial | exact rfl))
    | (apply wo_po; apply mo_nilCheck; exact rfl; (first | exact trivial | exact rfl))
    | (apply wo_po; apply mo_fieldAddr; exact rfl; exact rfl; (first | exact Nat.zero_add _ | exact rfl); (first | exact trivial | exact rfl)))
  refine wo_call (.cons rfl (.cons rfl (.cons rfl (.cons rfl .nil)))) trivial (btake_tr R.ok ht ho hn htk) ?_
  rintro v1 L1 x1 ⟨rfl, rfl, rfl⟩
  cases tk with
  | none =>
    unfold takeR
    repeat (first
      | refine we_seq ?_
      | (refine we_region _ rfl rfl ?_; simp only [opsOf, List.map_cons, List.map_nil, Option.map_none, Option.map_some, List.getElem?_toArray, List.getElem?_cons_zero, List.getElem?_cons_succ, Option.bind_some, Option.getD_some])
      | refine wo_nil ?_
      | (apply wo_po; apply mo_move; exact rfl; (first | exact trivial | exact rfl))
      | (apply wo_po; apply mo_assign; exact rfl; (first | exact trivial | exact rfl))
      | (apply wo_po; apply mo_extract; exact rfl; exact rfl; (first | exact trivial | exact rfl))
      | (apply wo_po; apply mo_not; exact rfl; (first | exact trivial | exact rfl))
      | (apply we_condT; exact rfl; (first | exact rfl | (simp <;> omega) | omega))
      | refine we_ret ?_)
    (first | refine at_ret2 (ex := .ret) Try.func9 Try.results9 hQ (.inl rfl) rfl rfl ?_ | refine at_ret2 (ex := .normal) Try.func9 Try.results9 hQ (.inr rfl) rfl rfl ?_)
    exact ⟨false, s2, h2, rfl, rfl, rfl⟩
  | some t =>
    unfold takeR
    dsimp only at h2
    repeat (first
      | refine we_seq ?_
      | (refine we_region _ rfl rfl ?_; simp only [opsOf, List.map_cons, List.map_nil, Option.map_none, Option.map_some, List.getElem?_toArray, List.getElem?_cons_zero, List.getElem?_cons_succ, Option.bind_some, Option.getD_some])
      | refine wo_nil ?_
      | (apply wo_po; apply mo_move; exact rfl; (first | exact trivial | exact rfl))
      | (apply wo_po; apply mo_assign; exact rfl; (first | exact trivial | exact rfl))
      | (apply wo_po; apply mo_extract; exact rfl; exact rfl; (first | exact trivial | exact rfl))
      | (apply wo_po; apply mo_not; exact rfl; (first | exact trivial | exact rfl))
      | (apply we_condF; exact rfl; (first | exact rfl | (simp <;> omega) | omega))
      | refine we_skip ?_)
    refine wo_call (.cons rfl (.cons rfl .nil)) trivial (step_tr h2 .here) ?_
    rintro v1 L1 x1 ⟨s3, h3, rfl, rfl, rfl⟩
    repeat (first
      | refine we_seq ?_
      | (refine we_region _ rfl rfl ?_; simp only [opsOf, List.map_cons, List.map_nil, Option.map_none, Option.map_some, List.getElem?_toArray, List.getElem?_cons_zero, List.getElem?_cons_succ, Option.bind_some, Option.getD_some])
      | refine wo_nil ?_
      | (apply wo_po; apply mo_move; exact rfl; (first | exact trivial | exact rfl))
      | (apply wo_po; apply mo_nilCheck; exact rfl; (first | exact trivial | exact rfl))
      | (apply wo_po; apply mo_fieldAddr; exact rfl; exact rfl; (first | exact Nat.zero_add _ | exact rfl); (first | exact trivial | exact rfl)))
    refine wo_call (.cons rfl (.cons rfl (.cons rfl .nil))) trivial (A.cas_ok _ _ _ _ _ _ _ _ _ R.a (takeN_lt htk) h3 .here) ?_
    rintro v1 L1 x1 ⟨q, s4, h4, rfl, rfl, rfl⟩
    cases q
    · simp only [Bool.false_eq_true, if_false] at h4
      repeat (first
        | refine wo_nil ?_
        | (apply we_condF; exact rfl; (first | exact rfl | (simp <;> omega) | omega))
        | refine we_skip ?_)
      exact at_again h4 ⟨rfl, rfl, rfl, rfl, trivial⟩ .refl
    · simp only [if_true] at h4
      repeat (first
        | refine we_seq ?_
        | (refine we_region _ rfl rfl ?_; simp only [opsOf, List.map_cons, List.map_nil, Option.map_none, Option.map_some, List.getElem?_toArray, List.getElem?_cons_zero, List.getElem?_cons_succ, Option.bind_some, Option.getD_some])
        | refine wo_nil ?_
        | (apply wo_po; apply mo_assign; exact rfl; (first | exact trivial | exact rfl))
        | (apply we_condT; exact rfl; (first | exact rfl | (simp <;> omega) | omega))
        | refine we_ret ?_)
      (first | refine at_ret2 (ex := .ret) Try.func9 Try.results9 hQ (.inl rfl) rfl rfl ?_ | refine at_ret2 (ex := .normal) Try.func9 Try.results9 hQ (.inr rfl) rfl rfl ?_)
      exact ⟨true, s4, h4, rfl, rfl, rfl⟩

theorem mtake_far (R : MeterAt A r num den burst) (ht : 1099511627776 < now) {s : A.S} (hh : Has L (A.C s) F) :
    Tr Try.prog B 9 [.pointer (some ⟨r, 0, none⟩), gv, .int .u64 (now : Nat), .int .u64 (n : Nat)] L (A.x s) fun v L' x' => v = .tuple #[.bool false, .int .i64 5] ∧ L' = L ∧ x' = A.x s := by
  refine tr_of_body Try.func9 rfl Try.ntmps9 (by simp) fun um Q hQ => ?_
  simp only [argE, Nat.zero_add, Nat.reduceAdd]
  repeat (first
    | refine we_seq ?_
    | (refine we_region _ rfl rfl ?_; simp only [opsOf, List.map_cons, List.map_nil, Option.map_none, Option.map_some, List.getElem?_toArray, List.getElem?_cons_zero, List.getElem?_cons_succ, Option.bind_some, Option.getD_some])
    | refine wo_nil ?_
    | (apply wo_po; apply mo_move; exact rfl; (first | exact trivial | exact rfl))
    | (apply wo_po; apply mo_assign; exact rfl; (first | exact trivial | exact rfl)))
  refine wo_call (.cons rfl (.cons rfl .nil)) trivial (mmay_far R.ok ht (R.rds hh)) ?_
  rintro v1 L1 x1 ⟨rfl, rfl, rfl⟩
  repeat (first
    | (apply wo_po; apply mo_bin; exact rfl; exact rfl; apply bin_neqT; omega; (first | exact trivial | exact rfl))
    | refine we_seq ?_
    | (refine we_region _ rfl rfl ?_; simp only [opsOf, List.map_cons, List.map_nil, Option.map_none, Option.map_some, List.getElem?_toArray, List.getElem?_cons_zero, List.getElem?_cons_succ, Option.bind_some, Option.getD_some])
    | refine wo_nil ?_
    | (apply wo_po; apply mo_move; exact rfl; (first | exact trivial | exact rfl))
    | (apply wo_po; apply mo_assign; exact rfl; (first | exact trivial | exact rfl))
    | (apply we_condT; exact rfl; (first | exact rfl | (simp <;> omega) | omega))
    | refine we_ret ?_)
  (first | refine at_ret2 (ex := .ret) Try.func9 Try.results9 hQ (.inl rfl) rfl rfl ?_ | refine at_ret2 (ex := .normal) Try.func9 Try.results9 hQ (.inr rfl) rfl rfl ?_)
  exact ⟨rfl, rfl, rfl⟩


def MLoadT (A : Acc B gv) (s : A.S) (Q : Nat → A.S → Prop) : Prop := A.step 1 0 s fun s => A.load 0 s fun o s => Q o s

theorem mlevel_tr (R : MeterAt A r num den burst) (ht : now ≤ 1099511627776) {s : A.S} {G : Nat → A.S → Prop} (hs : MLoadT A s G) (hh : Has L (A.C s) F) :
    Tr Try.prog B 10 [.pointer (some ⟨r, 0, none⟩), gv, .int .u64 (now : Nat)] L (A.x s) fun v L' x' => ∃ o s', o < 18446744073709551616 ∧ G o s' ∧ v = .tuple #[.int .u64 (levelN num den burst o now : Nat), .int .i64 0] ∧ L' = A.C s' :: F ∧ x' = A.x s' := by
  refine tr_of_body Try.func10 rfl Try.ntmps10 (by simp) fun um Q hQ => ?_
  simp only [argE, Nat.zero_add, Nat.reduceAdd]
  repeat (first
    | refine we_seq ?_
    | (refine we_region _ rfl rfl ?_; simp only [opsOf, List.map_cons, List.map_nil, Option.map_none, Option.map_some, List.getElem?_toArray, List.getElem?_cons_zero, List.getElem?_cons_succ, Option.bind_some, Option.getD_some])
    | refine wo_nil ?_
    | (apply wo_po; apply mo_move; exact rfl; (first | exact trivial | exact rfl))
    | (apply wo_po; apply mo_assign; exact rfl; (first | exact trivial | exact rfl)))
  refine wo_call (.cons rfl (.cons rfl .nil)) trivial (mmay_tr R.ok ht (R.rds hh)) ?_
  rintro v1 L1 x1 ⟨rfl, rfl, rfl⟩
  repeat (first
    | (apply wo_po; apply mo_bin; exact rfl; exact rfl; apply bin_neqF; omega; (first | exact trivial | exact rfl))
    | refine we_seq ?_
    | (refine we_region _ rfl rfl ?_; simp only [opsOf, List.map_cons, List.map_nil, Option.map_none, Option.map_some, List.getElem?_toArray, List.getElem?_cons_zero, List.getElem?_cons_succ, Option.bind_some, Option.getD_some])
    | refine wo_nil ?_
    | (apply wo_po; apply mo_move; exact rfl; (first | exact trivial | exact rfl))
    | (apply wo_po; apply mo_assign; exact rfl; (first | exact trivial | exact rfl))
    | (apply we_condF; exact rfl; (first | exact rfl | (simp <;> omega) | omega))
    | refine we_skip ?_)
  refine wo_call (.cons rfl (.cons rfl .nil)) trivial (step_tr hs hh) ?_
  rintro v1 L1 x1 ⟨s1, h1, rfl, rfl, rfl⟩
  have hrd : Rds (A.C s1 :: F) r 0 [.int .u64 (num : Nat), .int .u64 (den : Nat), .int .u64 (burst : Nat)] := R.rds .here
  repeat (first
    | refine we_seq ?_
    | refine wo_nil ?_)
  refine we_draw [0, 1, 2, 3, 4, 5, 6, 8, 7, 9, 10, 11, 12, 13] (by kernel_rfl) ?_
  repeat (first
    | (apply ap_read; exact rfl; exact rfl; exact trivial; apply mo_loadA (vs := [.int .u64 (num : Nat), .int .u64 (den : Nat), .int .u64 (burst : Nat)]); exact rfl; exact rfl; exact hrd)
    | (apply ap_pure; exact rfl; exact rfl; (first | exact trivial | exact rfl); intro L; apply mo_move; exact rfl)
    | (apply ap_pure; exact rfl; exact rfl; (first | exact trivial | exact rfl); intro L; apply mo_nilCheck; exact rfl)
    | (apply ap_pure; exact rfl; exact rfl; (first | exact trivial | exact rfl); intro L; apply mo_fieldAddr; exact rfl; exact rfl; (first | exact Nat.zero_add _ | exact rfl)))
  refine ap_callR rfl rfl rfl trivial rfl rfl (.cons rfl .nil) (A.load_ok _ _ _ _ _ _ _ R.a h1 .here) ?_ ?_
  · rintro v1 L1 x1 ⟨o, s2, ho, h2, rfl, rfl, rfl⟩ p hp
    have hrd : Rds (A.C s2 :: F) r 0 [.int .u64 (num : Nat), .int .u64 (den : Nat), .int .u64 (burst : Nat)] := R.rds .here
    replace hp := (List.mem_filter.1 hp).1
    simp only [List.mem_cons, List.not_mem_nil, or_false] at hp
    rcases hp with rfl | rfl | rfl | rfl | rfl | rfl | rfl | rfl <;> first | exact .inl rfl | exact .inr ⟨_, rfl, trivial, mo_loadA (vs := [.int .u64 (num : Nat), .int .u64 (den : Nat), .int .u64 (burst : Nat)]) rfl rfl hrd⟩
  rintro v1 L1 x1 ⟨o, s2, ho, h2, rfl, rfl, rfl⟩
  skip
  refine ap_callv rfl rfl rfl rfl trivial rfl rfl (.cons rfl (.cons rfl (.cons rfl .nil))) (blevel_tr R.ok ht ho) ?_
  rintro v1 L1 x1 ⟨rfl, rfl, rfl⟩
  repeat (first
    | (apply ap_pure; exact rfl; exact rfl; (first | exact trivial | exact rfl); intro L; apply mo_assign; exact rfl)
    | (apply ap_pure; exact rfl; exact rfl; (first | exact trivial | exact rfl); intro L; apply mo_extract; exact rfl; exact rfl)
    | refine ap_end ?_)
  repeat (first
    | refine we_ret ?_)
  (first | refine at_ret2 (ex := .ret) Try.func10 Try.results10 hQ (.inl rfl) rfl rfl ?_ | refine at_ret2 (ex := .normal) Try.func10 Try.results10 hQ (.inr rfl) rfl rfl ?_)
  exact ⟨o, s2, ho, h2, rfl, rfl, rfl⟩

theorem mlevel_far (R : MeterAt A r num den burst) (ht : 1099511627776 < now) {s : A.S} (hh : Has L (A.C s) F) :
    Tr Try.prog B 10 [.pointer (some ⟨r, 0, none⟩), gv, .int .u64 (now : Nat)] L (A.x s) fun v L' x' => v = .tuple #[.int .u64 0, .int .i64 5] ∧ L' = L ∧ x' = A.x s := by
  refine tr_of_body Try.func10 rfl Try.ntmps10 (by simp) fun um Q hQ => ?_
  simp only [argE, Nat.zero_add, Nat.reduceAdd]
  repeat (first
    | refine we_seq ?_
    | (refine we_region _ rfl rfl ?_; simp only [opsOf, List.map_cons, List.map_nil, Option.map_none, Option.map_some, List.getElem?_toArray, List.getElem?_cons_zero, List.getElem?_cons_succ, Option.bind_some, Option.getD_some])
    | refine wo_nil ?_
    | (apply wo_po; apply mo_move; exact rfl; (first | exact trivial | exact rfl))
    | (apply wo_po; apply mo_assign; exact rfl; (first | exact trivial | exact rfl)))
  refine wo_call (.cons rfl (.cons rfl .nil)) trivial (mmay_far R.ok ht (R.rds hh)) ?_
  rintro v1 L1 x1 ⟨rfl, rfl, rfl⟩
  repeat (first
    | (apply wo_po; apply mo_bin; exact rfl; exact rfl; apply bin_neqT; omega; (first | exact trivial | exact rfl))
    | refine we_seq ?_
    | (refine we_region _ rfl rfl ?_; simp only [opsOf, List.map_cons, List.map_nil, Option.map_none, Option.map_some, List.getElem?_toArray, List.getElem?_cons_zero, List.getElem?_cons_succ, Option.bind_some, Option.getD_some])
    | refine wo_nil ?_
    | (apply wo_po; apply mo_move; exact rfl; (first | exact trivial | exact rfl))
    | (apply wo_po; apply mo_assign; exact rfl; (first | exact trivial | exact rfl))
    | (apply we_condT; exact rfl; (first | exact rfl | (simp <;> omega) | omega))
    | refine we_ret ?_)
  (first | refine at_ret2 (ex := .ret) Try.func10 Try.results10 hQ (.inl rfl) rfl rfl ?_ | refine at_ret2 (ex := .normal) Try.func10 Try.results10 hQ (.inr rfl) rfl rfl ?_)
  exact ⟨rfl, rfl, rfl⟩


theorem mstate_tr (R : MeterAt A r num den burst) {s : A.S} {G : Nat → A.S → Prop} (hs : MLoadT A s G) (hh : Has L (A.C s) F) :
    Tr Try.prog B 11 [.pointer (some ⟨r, 0, none⟩), gv] L (A.x s) fun v L' x' => ∃ o s', o < 18446744073709551616 ∧ G o s' ∧ v = .tuple #[.int .u64 (o : Nat), .int .i64 0] ∧ L' = A.C s' :: F ∧ x' = A.x s' := by
  refine tr_of_body Try.func11 rfl Try.ntmps11 (by simp) fun um Q hQ => ?_
  simp only [argE, Nat.zero_add, Nat.reduceAdd]
  repeat (first
    | refine we_seq ?_
    | (refine we_region _ rfl rfl ?_; simp only [opsOf, List.map_cons, List.map_nil, Option.map_none, Option.map_some, List.getElem?_toArray, List.getElem?_cons_zero, List.getElem?_cons_succ, Option.bind_some, Option.getD_some])
    | refine wo_nil ?_
    | (apply wo_po; apply mo_move; exact rfl; (first | exact trivial | exact rfl))
    | (apply wo_po; apply mo_assign; exact rfl; (first | exact trivial | exact rfl)))
  refine wo_call (.cons rfl .nil) trivial (there_tr R.ok (R.rds hh)) ?_
  rintro v1 L1 x1 ⟨rfl, rfl, rfl⟩
  repeat (first
    | refine we_seq ?_
    | (refine we_region _ rfl rfl ?_; simp only [opsOf, List.map_cons, List.map_nil, Option.map_none, Option.map_some, List.getElem?_toArray, List.getElem?_cons_zero, List.getElem?_cons_succ, Option.bind_some, Option.getD_some])
    | refine wo_nil ?_
    | (apply wo_po; apply mo_move; exact rfl; (first | exact trivial | exact rfl))
    | (apply wo_po; apply mo_not; exact rfl; (first | exact trivial | exact rfl))
    | (apply we_condF; exact rfl; (first | exact rfl | (simp <;> omega) | omega))
    | refine we_skip ?_)
  refine wo_call (.cons rfl (.cons rfl .nil)) trivial (step_tr hs hh) ?_
  rintro v1 L1 x1 ⟨s1, h1, rfl, rfl, rfl⟩
  repeat (first
    | refine we_seq ?_
    | (refine we_region _ rfl rfl ?_; simp only [opsOf, List.map_cons, List.map_nil, Option.map_none, Option.map_some, List.getElem?_toArray, List.getElem?_cons_zero, List.getElem?_cons_succ, Option.bind_some, Option.getD_some])
    | refine wo_nil ?_
    | (apply wo_po; apply mo_move; exact rfl; (first | exact trivial | exact rfl))
    | (apply wo_po; apply mo_nilCheck; exact rfl; (first | exact trivial | exact rfl))
    | (apply wo_po; apply mo_fieldAddr; exact rfl; exact rfl; (first | exact Nat.zero_add _ | exact rfl); (first | exact trivial | exact rfl)))
  refine wo_call (.cons rfl .nil) trivial (A.load_ok _ _ _ _ _ _ _ R.a h1 .here) ?_
  rintro v1 L1 x1 ⟨o, s2, ho, h2, rfl, rfl, rfl⟩
  repeat (first
    | refine wo_nil ?_
    | (apply wo_po; apply mo_assign; exact rfl; (first | exact trivial | exact rfl))
    | refine we_ret ?_)
  (first | refine at_ret2 (ex := .ret) Try.func11 Try.results11 hQ (.inl rfl) rfl rfl ?_ | refine at_ret2 (ex := .normal) Try.func11 Try.results11 hQ (.inr rfl) rfl rfl ?_)
  exact ⟨o, s2, ho, h2, rfl, rfl, rfl⟩


theorem mnew_tr {x : B.X} (O : BOk num den burst) : Tr Try.prog B 13 [.agg #[.int .u64 (num : Nat), .int .u64 (den : Nat), .int .u64 (burst : Nat)]] L x fun v L' x' => ∃ r, v = .tuple #[.pointer (some ⟨r, 0, none⟩), .int .i64 0] ∧ L' = arr r 0 [.int .u64 (num : Nat), .int .u64 (den : Nat), .int .u64 (burst : Nat), .int .u64 0] :: L ∧ x' = x := by
  refine Tr.post (R := fun v L' x' => ∃ r, v = .tuple #[.pointer (some ⟨r, 0, none⟩), .int .i64 0] ∧ x' = x ∧ ∀ h, Star L' h → Star (arr r 0 [.int .u64 (num : Nat), .int .u64 (den : Nat), .int .u64 (burst : Nat), .int .u64 0] :: L) h) ?_ (by rintro v L' x' ⟨r, h0, rfl, hs⟩; exact ⟨_, ⟨r, h0, rfl, rfl⟩, hs⟩)
  refine tr_of_body Try.func13 rfl Try.ntmps13 (by simp) fun um Q hQ => ?_
  simp only [argE, Nat.zero_add, Nat.reduceAdd]
  repeat (first
    | (apply wo_mo; apply mo_box; exact rfl; exact trivial)
    | refine we_seq ?_
    | (refine we_region _ rfl rfl ?_; simp only [opsOf, List.map_cons, List.map_nil, Option.map_none, Option.map_some, List.getElem?_toArray, List.getElem?_cons_zero, List.getElem?_cons_succ, Option.bind_some, Option.getD_some]))
  rintro v' L' ⟨bb, rfl, rfl⟩
  refine wo_ent (arr bb 0 [.int .u64 (num : Nat), .int .u64 (den : Nat), .int .u64 (burst : Nat)] :: L) .refl ?_
  repeat (first
    | (apply wo_po; apply mo_loadA (vs := [.int .u64 (num : Nat), .int .u64 (den : Nat), .int .u64 (burst : Nat)]); exact rfl; exact rfl; exact Rds.all .here; exact trivial)
    | refine we_seq ?_
    | (refine we_region _ rfl rfl ?_; simp only [opsOf, List.map_cons, List.map_nil, Option.map_none, Option.map_some, List.getElem?_toArray, List.getElem?_cons_zero, List.getElem?_cons_succ, Option.bind_some, Option.getD_some])
    | refine wo_nil ?_
    | (apply wo_po; apply mo_assign; exact rfl; (first | exact trivial | exact rfl)))
  refine wo_call (.cons rfl .nil) trivial (check_ok O) ?_
  rintro v1 L1 x1 ⟨rfl, rfl, rfl⟩
  repeat (first
    | (apply wo_po; apply mo_loadA (vs := [.int .u64 (num : Nat), .int .u64 (den : Nat), .int .u64 (burst : Nat)]); exact rfl; exact rfl; exact Rds.all .here; exact trivial)
    | (apply wo_po; apply mo_build (pv := [(0, _)]); exact rfl; exact .cons rfl .nil; exact rfl; exact trivial)
    | (apply wo_mo; apply mo_box; exact rfl; exact trivial)
    | (apply wo_po; apply mo_bin; exact rfl; exact rfl; apply bin_neqF; omega; (first | exact trivial | exact rfl))
    | refine we_seq ?_
    | (refine we_region _ rfl rfl ?_; simp only [opsOf, List.map_cons, List.map_nil, Option.map_none, Option.map_some, List.getElem?_toArray, List.getElem?_cons_zero, List.getElem?_cons_succ, Option.bind_some, Option.getD_some])
    | refine wo_nil ?_
    | (apply wo_po; apply mo_move; exact rfl; (first | exact trivial | exact rfl))
    | (apply wo_po; apply mo_assign; exact rfl; (first | exact trivial | exact rfl))
    | (apply we_condF; exact rfl; (first | exact rfl | (simp <;> omega) | omega))
    | refine we_skip ?_)
  rintro v' L' ⟨r, rfl, rfl⟩
  repeat (first
    | refine wo_nil ?_
    | (apply wo_po; apply mo_assign; exact rfl; (first | exact trivial | exact rfl))
    | refine we_ret ?_)
  (first | refine at_ret2 (ex := .ret) Try.func13 Try.results13 hQ (.inl rfl) rfl rfl ?_ | refine at_ret2 (ex := .normal) Try.func13 Try.results13 hQ (.inr rfl) rfl rfl ?_)
  exact ⟨r, rfl, rfl, fun h st => Ent.star (.take .here (.drop .refl)) st⟩

theorem mnew_no {x : B.X} (h1 : num < 18446744073709551616) (h2 : den < 18446744073709551616) (h3 : burst < 18446744073709551616) (O : ¬ BOk num den burst) : Tr Try.prog B 13 [.agg #[.int .u64 (num : Nat), .int .u64 (den : Nat), .int .u64 (burst : Nat)]] L x fun v L' x' => v = .tuple #[.pointer none, .int .i64 2] ∧ L' = L ∧ x' = x := by
  refine Tr.post (R := fun v L' x' => v = .tuple #[.pointer none, .int .i64 2] ∧ x' = x ∧ ∀ h, Star L' h → Star L h) ?_ (by rintro v L' x' ⟨h0, rfl, hs⟩; exact ⟨L, ⟨h0, rfl, rfl⟩, hs⟩)
  refine tr_of_body Try.func13 rfl Try.ntmps13 (by simp) fun um Q hQ => ?_
  simp only [argE, Nat.zero_add, Nat.reduceAdd]
  repeat (first
    | (apply wo_mo; apply mo_box; exact rfl; exact trivial)
    | refine we_seq ?_
    | (refine we_region _ rfl rfl ?_; simp only [opsOf, List.map_cons, List.map_nil, Option.map_none, Option.map_some, List.getElem?_toArray, List.getElem?_cons_zero, List.getElem?_cons_succ, Option.bind_some, Option.getD_some]))
  rintro v' L' ⟨bb, rfl, rfl⟩
  refine wo_ent (arr bb 0 [.int .u64 (num : Nat), .int .u64 (den : Nat), .int .u64 (burst : Nat)] :: L) .refl ?_
  repeat (first
    | (apply wo_po; apply mo_loadA (vs := [.int .u64 (num : Nat), .int .u64 (den : Nat), .int .u64 (burst : Nat)]); exact rfl; exact rfl; exact Rds.all .here; exact trivial)
    | refine we_seq ?_
    | (refine we_region _ rfl rfl ?_; simp only [opsOf, List.map_cons, List.map_nil, Option.map_none, Option.map_some, List.getElem?_toArray, List.getElem?_cons_zero, List.getElem?_cons_succ, Option.bind_some, Option.getD_some])
    | refine wo_nil ?_
    | (apply wo_po; apply mo_assign; exact rfl; (first | exact trivial | exact rfl)))
  refine wo_call (.cons rfl .nil) trivial (check_no h1 h2 h3 O) ?_
  rintro v1 L1 x1 ⟨rfl, rfl, rfl⟩
  repeat (first
    | (apply wo_po; apply mo_bin; exact rfl; exact rfl; apply bin_neqT; omega; (first | exact trivial | exact rfl))
    | refine we_seq ?_
    | (refine we_region _ rfl rfl ?_; simp only [opsOf, List.map_cons, List.map_nil, Option.map_none, Option.map_some, List.getElem?_toArray, List.getElem?_cons_zero, List.getElem?_cons_succ, Option.bind_some, Option.getD_some])
    | refine wo_nil ?_
    | (apply wo_po; apply mo_move; exact rfl; (first | exact trivial | exact rfl))
    | (apply wo_po; apply mo_assign; exact rfl; (first | exact trivial | exact rfl))
    | (apply we_condT; exact rfl; (first | exact rfl | (simp <;> omega) | omega))
    | refine we_ret ?_)
  (first | refine at_ret2 (ex := .ret) Try.func13 Try.results13 hQ (.inl rfl) rfl rfl ?_ | refine at_ret2 (ex := .normal) Try.func13 Try.results13 hQ (.inr rfl) rfl rfl ?_)
  exact ⟨rfl, rfl, fun h st => star_drop st⟩


/-- nothing that is there -/
def NoMeter (L : List HProp) (v : Option Addr) : Prop := v = none ∨ ∃ r, v = some ⟨r, 0, none⟩ ∧ Rds L r 0 [.int .u64 0, .int .u64 0, .int .u64 0]
variable {v0 : Option Addr} {x : B.X}

theorem there_nil (h : NoMeter L v0) : Tr Try.prog B 42 [.pointer v0] L x fun v L' x' => v = .bool false ∧ L' = L ∧ x' = x := by
  rcases h with rfl | ⟨r, rfl, hr⟩
  · refine tr_of_body Try.func42 rfl Try.ntmps42 (by simp) fun um Q hQ => ?_
    simp only [argE, Nat.zero_add, Nat.reduceAdd]
    repeat (first
      | refine we_seq ?_
      | (refine we_region _ rfl rfl ?_; simp only [opsOf, List.map_cons, List.map_nil, Option.map_none, Option.map_some, List.getElem?_toArray, List.getElem?_cons_zero, List.getElem?_cons_succ, Option.bind_some, Option.getD_some])
      | refine wo_nil ?_
      | (apply wo_po; apply mo_move; exact rfl; (first | exact trivial | exact rfl))
      | (apply wo_po; apply mo_assign; exact rfl; (first | exact trivial | exact rfl))
      | (apply wo_no; exact rfl)
      | (apply wo_po; apply mo_pickF; exact rfl; exact rfl; exact rfl; (first | exact trivial | exact rfl))
      | (apply wo_po; apply mo_bin; exact rfl; exact rfl; apply bin_ne; apply eql_ptr_nil; (first | exact trivial | exact rfl))
      | refine we_ret ?_)
    (first | refine at_ret1 (ex := .ret) Try.func42 Try.results42 hQ (.inl rfl) rfl ?_ | refine at_ret1 (ex := .normal) Try.func42 Try.results42 hQ (.inr rfl) rfl ?_)
    exact ⟨rfl, rfl, rfl⟩
  · have hr2 := hr 2 _ rfl
    refine tr_of_body Try.func42 rfl Try.ntmps42 (by simp) fun um Q hQ => ?_
    simp only [argE, Nat.zero_add, Nat.reduceAdd]
    repeat (first
      | (apply wo_po; apply mo_load; exact rfl; exact hr2; exact rfl)
      | (apply wo_po; apply mo_bin; exact rfl; exact rfl; apply bin_gtrF; omega; (first | exact trivial | exact rfl))
      | refine we_seq ?_
      | (refine we_region _ rfl rfl ?_; simp only [opsOf, List.map_cons, List.map_nil, Option.map_none, Option.map_some, List.getElem?_toArray, List.getElem?_cons_zero, List.getElem?_cons_succ, Option.bind_some, Option.getD_some])
      | refine wo_nil ?_
      | (apply wo_po; apply mo_move; exact rfl; (first | exact trivial | exact rfl))
      | (apply wo_po; apply mo_assign; exact rfl; (first | exact trivial | exact rfl))
      | (apply wo_po; apply mo_pickT; exact rfl; exact rfl; exact rfl; (first | exact trivial | exact rfl))
      | (apply wo_po; apply mo_nilCheck; exact rfl; (first | exact trivial | exact rfl))
      | (apply wo_po; apply mo_fieldAddr; exact rfl; exact rfl; (first | exact Nat.zero_add _ | exact rfl); (first | exact trivial | exact rfl))
      | (apply wo_po; apply mo_bin; exact rfl; exact rfl; apply bin_ne; apply eql_ptr_nil; (first | exact trivial | exact rfl))
      | refine we_ret ?_)
    (first | refine at_ret1 (ex := .ret) Try.func42 Try.results42 hQ (.inl rfl) rfl ?_ | refine at_ret1 (ex := .normal) Try.func42 Try.results42 hQ (.inr rfl) rfl ?_)
    exact ⟨rfl, rfl, rfl⟩


theorem mmay_nil (h : NoMeter L v0) : Tr Try.prog B 36 [.pointer v0, .int .u64 (now : Nat)] L x fun v L' x' => v = .int .i64 1 ∧ L' = L ∧ x' = x := by
  refine tr_of_body Try.func36 rfl Try.ntmps36 (by simp) fun um Q hQ => ?_
  simp only [argE, Nat.zero_add, Nat.reduceAdd]
  repeat (first
    | refine we_seq ?_
    | (refine we_region _ rfl rfl ?_; simp only [opsOf, List.map_cons, List.map_nil, Option.map_none, Option.map_some, List.getElem?_toArray, List.getElem?_cons_zero, List.getElem?_cons_succ, Option.bind_some, Option.getD_some])
    | refine wo_nil ?_
    | (apply wo_po; apply mo_move; exact rfl; (first | exact trivial | exact rfl))
    | (apply wo_po; apply mo_assign; exact rfl; (first | exact trivial | exact rfl))
    | refine we_block ?_)
  refine wo_call (.cons rfl .nil) trivial (there_nil h) ?_
  rintro v1 L1 x1 ⟨rfl, rfl, rfl⟩
  repeat (first
    | refine we_seq ?_
    | (refine we_region _ rfl rfl ?_; simp only [opsOf, List.map_cons, List.map_nil, Option.map_none, Option.map_some, List.getElem?_toArray, List.getElem?_cons_zero, List.getElem?_cons_succ, Option.bind_some, Option.getD_some])
    | refine wo_nil ?_
    | (apply wo_po; apply mo_assign; exact rfl; (first | exact trivial | exact rfl))
    | (apply wo_po; apply mo_not; exact rfl; (first | exact trivial | exact rfl))
    | (apply we_condT; exact rfl; (first | exact rfl | (simp <;> omega) | omega))
    | refine we_ret ?_)
  (first | refine at_ret1 (ex := .ret) Try.func36 Try.results36 hQ (.inl rfl) rfl ?_ | refine at_ret1 (ex := .normal) Try.func36 Try.results36 hQ (.inr rfl) rfl ?_)
  exact ⟨rfl, rfl, rfl⟩


theorem mtake_nil (h : NoMeter L v0) : Tr Try.prog B 9 [.pointer v0, gv, .int .u64 (now : Nat), .int .u64 (n : Nat)] L x fun v L' x' => v = .tuple #[.bool false, .int .i64 1] ∧ L' = L ∧ x' = x := by
  refine tr_of_body Try.func9 rfl Try.ntmps9 (by simp) fun um Q hQ => ?_
  simp only [argE, Nat.zero_add, Nat.reduceAdd]
  repeat (first
    | refine we_seq ?_
    | (refine we_region _ rfl rfl ?_; simp only [opsOf, List.map_cons, List.map_nil, Option.map_none, Option.map_some, List.getElem?_toArray, List.getElem?_cons_zero, List.getElem?_cons_succ, Option.bind_some, Option.getD_some])
    | refine wo_nil ?_
    | (apply wo_po; apply mo_move; exact rfl; (first | exact trivial | exact rfl))
    | (apply wo_po; apply mo_assign; exact rfl; (first | exact trivial | exact rfl)))
  refine wo_call (.cons rfl (.cons rfl .nil)) trivial (mmay_nil h) ?_
  rintro v1 L1 x1 ⟨rfl, rfl, rfl⟩
  repeat (first
    | (apply wo_po; apply mo_bin; exact rfl; exact rfl; apply bin_neqT; omega; (first | exact trivial | exact rfl))
    | refine we_seq ?_
    | (refine we_region _ rfl rfl ?_; simp only [opsOf, List.map_cons, List.map_nil, Option.map_none, Option.map_some, List.getElem?_toArray, List.getElem?_cons_zero, List.getElem?_cons_succ, Option.bind_some, Option.getD_some])
    | refine wo_nil ?_
    | (apply wo_po; apply mo_move; exact rfl; (first | exact trivial | exact rfl))
    | (apply wo_po; apply mo_assign; exact rfl; (first | exact trivial | exact rfl))
    | (apply we_condT; exact rfl; (first | exact rfl | (simp <;> omega) | omega))
    | refine we_ret ?_)
  (first | refine at_ret2 (ex := .ret) Try.func9 Try.results9 hQ (.inl rfl) rfl rfl ?_ | refine at_ret2 (ex := .normal) Try.func9 Try.results9 hQ (.inr rfl) rfl rfl ?_)
  exact ⟨rfl, rfl, rfl⟩


theorem mlevel_nil (h : NoMeter L v0) : Tr Try.prog B 10 [.pointer v0, gv, .int .u64 (now : Nat)] L x fun v L' x' => v = .tuple #[.int .u64 0, .int .i64 1] ∧ L' = L ∧ x' = x := by
  refine tr_of_body Try.func10 rfl Try.ntmps10 (by simp) fun um Q hQ => ?_
  simp only [argE, Nat.zero_add, Nat.reduceAdd]
  repeat (first
    | refine we_seq ?_
    | (refine we_region _ rfl rfl ?_; simp only [opsOf, List.map_cons, List.map_nil, Option.map_none, Option.map_some, List.getElem?_toArray, List.getElem?_cons_zero, List.getElem?_cons_succ, Option.bind_some, Option.getD_some])
    | refine wo_nil ?_
    | (apply wo_po; apply mo_move; exact rfl; (first | exact trivial | exact rfl))
    | (apply wo_po; apply mo_assign; exact rfl; (first | exact trivial | exact rfl)))
  refine wo_call (.cons rfl (.cons rfl .nil)) trivial (mmay_nil h) ?_
  rintro v1 L1 x1 ⟨rfl, rfl, rfl⟩
  repeat (first
    | (apply wo_po; apply mo_bin; exact rfl; exact rfl; apply bin_neqT; omega; (first | exact trivial | exact rfl))
    | refine we_seq ?_
    | (refine we_region _ rfl rfl ?_; simp only [opsOf, List.map_cons, List.map_nil, Option.map_none, Option.map_some, List.getElem?_toArray, List.getElem?_cons_zero, List.getElem?_cons_succ, Option.bind_some, Option.getD_some])
    | refine wo_nil ?_
    | (apply wo_po; apply mo_move; exact rfl; (first | exact trivial | exact rfl))
    | (apply wo_po; apply mo_assign; exact rfl; (first | exact trivial | exact rfl))
    | (apply we_condT; exact rfl; (first | exact rfl | (simp <;> omega) | omega))
    | refine we_ret ?_)
  (first | refine at_ret2 (ex := .ret) Try.func10 Try.results10 hQ (.inl rfl) rfl rfl ?_ | refine at_ret2 (ex := .normal) Try.func10 Try.results10 hQ (.inr rfl) rfl rfl ?_)
  exact ⟨rfl, rfl, rfl⟩


theorem mstate_nil (h : NoMeter L v0) : Tr Try.prog B 11 [.pointer v0, gv] L x fun v L' x' => v = .tuple #[.int .u64 0, .int .i64 1] ∧ L' = L ∧ x' = x := by
  refine tr_of_body Try.func11 rfl Try.ntmps11 (by simp) fun um Q hQ => ?_
  simp only [argE, Nat.zero_add, Nat.reduceAdd]
  repeat (first
    | refine we_seq ?_
    | (refine we_region _ rfl rfl ?_; simp only [opsOf, List.map_cons, List.map_nil, Option.map_none, Option.map_some, List.getElem?_toArray, List.getElem?_cons_zero, List.getElem?_cons_succ, Option.bind_some, Option.getD_some])
    | refine wo_nil ?_
    | (apply wo_po; apply mo_move; exact rfl; (first | exact trivial | exact rfl))
    | (apply wo_po; apply mo_assign; exact rfl; (first | exact trivial | exact rfl)))
  refine wo_call (.cons rfl .nil) trivial (there_nil h) ?_
  rintro v1 L1 x1 ⟨rfl, rfl, rfl⟩
  repeat (first
    | refine we_seq ?_
    | (refine we_region _ rfl rfl ?_; simp only [opsOf, List.map_cons, List.map_nil, Option.map_none, Option.map_some, List.getElem?_toArray, List.getElem?_cons_zero, List.getElem?_cons_succ, Option.bind_some, Option.getD_some])
    | refine wo_nil ?_
    | (apply wo_po; apply mo_assign; exact rfl; (first | exact trivial | exact rfl))
    | (apply wo_po; apply mo_not; exact rfl; (first | exact trivial | exact rfl))
    | (apply we_condT; exact rfl; (first | exact rfl | (simp <;> omega) | omega))
    | refine we_ret ?_)
  (first | refine at_ret2 (ex := .ret) Try.func11 Try.results11 hQ (.inl rfl) rfl rfl ?_ | refine at_ret2 (ex := .normal) Try.func11 Try.results11 hQ (.inr rfl) rfl rfl ?_)
  exact ⟨rfl, rfl, rfl⟩


theorem mbucket_nil (h : NoMeter L v0) : Tr Try.prog B 12 [.pointer v0] L x fun v L' x' => v = .agg #[.int .u64 0, .int .u64 0, .int .u64 0] ∧ L' = L ∧ x' = x := by
  refine Tr.post (R := fun v L' x' => v = .agg #[.int .u64 0, .int .u64 0, .int .u64 0] ∧ x' = x ∧ ∀ h, Star L' h → Star L h) ?_ (by rintro v L' x' ⟨h0, rfl, hs⟩; exact ⟨L, ⟨h0, rfl, rfl⟩, hs⟩)
  rcases h with rfl | ⟨r, rfl, hr⟩
  · refine tr_of_body Try.func12 rfl Try.ntmps12 (by simp) fun um Q hQ => ?_
    simp only [argE, Nat.zero_add, Nat.reduceAdd]
    repeat (first
      | (apply wo_mo; apply mo_alloc; exact trivial)
      | refine we_seq ?_
      | (refine we_region _ rfl rfl ?_; simp only [opsOf, List.map_cons, List.map_nil, Option.map_none, Option.map_some, List.getElem?_toArray, List.getElem?_cons_zero, List.getElem?_cons_succ, Option.bind_some, Option.getD_some]))
    rintro v' L' ⟨cb, rfl, rfl⟩
    repeat (first
      | (apply wo_po; apply mo_build (pv := []); exact rfl; exact .nil; exact rfl; exact trivial)
      | (apply wo_pm; apply mo_storeA (b := cb) (c := 0) (k := 0) (a := 0) (vs := [.int .u64 0, .int .u64 0, .int .u64 0]); exact rfl; exact rfl; exact rfl; (intro w hw; simp [Value.cells] at hw; rcases hw with rfl | rfl | rfl <;> rfl); exact rfl; exact Nat.le_refl 3; exact .here; exact trivial)
      | refine we_seq ?_
      | (refine we_region _ rfl rfl ?_; simp only [opsOf, List.map_cons, List.map_nil, Option.map_none, Option.map_some, List.getElem?_toArray, List.getElem?_cons_zero, List.getElem?_cons_succ, Option.bind_some, Option.getD_some])
      | refine wo_nil ?_
      | (apply wo_po; apply mo_move; exact rfl; (first | exact trivial | exact rfl))
      | (apply wo_po; apply mo_bin; exact rfl; exact rfl; apply bin_eq; apply eql_ptr_nil; (first | exact trivial | exact rfl))
      | (apply we_condT; exact rfl; (first | exact rfl | (simp <;> omega) | omega))
      | refine we_ret ?_)
    refine at_leaveM (rs := [.cell 2 25]) Try.func12 Try.results12 hQ (.inl rfl) (.cons (.cell (vs := [.int .u64 0, .int .u64 0, .int .u64 0]) rfl rfl (Rds.all .here)) .nil) ?_
    exact ⟨rfl, rfl, fun h st => star_drop st⟩
  · have hr' : ∀ {c : HProp}, Rds (c :: L) r 0 [.int .u64 0, .int .u64 0, .int .u64 0] := fun i v hv => Rd.there (hr i v hv)
    refine tr_of_body Try.func12 rfl Try.ntmps12 (by simp) fun um Q hQ => ?_
    simp only [argE, Nat.zero_add, Nat.reduceAdd]
    repeat (first
      | (apply wo_mo; apply mo_alloc; exact trivial)
      | refine we_seq ?_
      | (refine we_region _ rfl rfl ?_; simp only [opsOf, List.map_cons, List.map_nil, Option.map_none, Option.map_some, List.getElem?_toArray, List.getElem?_cons_zero, List.getElem?_cons_succ, Option.bind_some, Option.getD_some]))
    rintro v' L' ⟨cb, rfl, rfl⟩
    repeat (first
      | (apply wo_po; apply mo_loadA (vs := [.int .u64 0, .int .u64 0, .int .u64 0]); exact rfl; exact rfl; exact hr'; exact trivial)
      | (apply wo_pm; apply mo_storeA (b := cb) (c := 0) (k := 0) (a := 0) (vs := [.int .u64 0, .int .u64 0, .int .u64 0]); exact rfl; exact rfl; exact rfl; (intro w hw; simp [Value.cells] at hw; rcases hw with rfl | rfl | rfl <;> rfl); exact rfl; exact Nat.le_refl 3; exact .here; exact trivial)
      | refine we_seq ?_
      | (refine we_region _ rfl rfl ?_; simp only [opsOf, List.map_cons, List.map_nil, Option.map_none, Option.map_some, List.getElem?_toArray, List.getElem?_cons_zero, List.getElem?_cons_succ, Option.bind_some, Option.getD_some])
      | refine wo_nil ?_
      | (apply wo_po; apply mo_move; exact rfl; (first | exact trivial | exact rfl))
      | (apply wo_po; apply mo_nilCheck; exact rfl; (first | exact trivial | exact rfl))
      | (apply wo_po; apply mo_fieldAddr; exact rfl; exact rfl; (first | exact Nat.zero_add _ | exact rfl); (first | exact trivial | exact rfl))
      | (apply wo_po; apply mo_bin; exact rfl; exact rfl; apply bin_eq; apply eql_ptr_nil; (first | exact trivial | exact rfl))
      | (apply we_condF; exact rfl; (first | exact rfl | (simp <;> omega) | omega))
      | refine we_ret ?_
      | refine we_skip ?_)
    refine at_leaveM (rs := [.cell 2 25]) Try.func12 Try.results12 hQ (.inl rfl) (.cons (.cell (vs := [.int .u64 0, .int .u64 0, .int .u64 0]) rfl rfl (Rds.all .here)) .nil) ?_
    exact ⟨rfl, rfl, fun h st => star_drop st⟩
end
end Go.Proofs.Ythoefhocecdlhaa
