/-
  THE GAUGE AND THE BREAKER (package gauge), over whatever access to their words and their gate.
-/
import Derived.Test.YtnnpdmhmpgmpnaaGaugeW
set_option linter.unusedVariables false
set_option linter.unusedSimpArgs false
namespace Go.Proofs.Ytnnpdmhmpgmpnaa
open Go Go.PB
attribute [local irreducible] Mo Bin Eql Tr Wo Ap Wle

/-- a gauge that is there, as an access sees it -/
structure GaugeAt {B : Hand} {gv : Value} (A : Acc B gv) (r limit : Nat) : Prop where
  lo : 1 ≤ limit
  hi : limit ≤ 1048576
  hdr : ∀ s, Rd [A.C s] r 0 (.int .u64 (limit : Nat))
  a : ∀ w, w < 2 → A.addr w = (r, 1 + w)

/-- a breaker that is there -/
structure BreakerAt {B : Hand} {gv : Value} (A : Acc B gv) (r fails wait : Nat) : Prop where
  lo : 1 ≤ fails
  hi : fails ≤ 1048576
  whi : wait ≤ 1099511627776
  hdr : ∀ s, Rd [A.C s] r 0 (.int .u64 (fails : Nat))
  hdw : ∀ s, Rd [A.C s] r 1 (.int .u64 (wait : Nat))
  a : A.addr 0 = (r, 2)

section
variable {B : Hand} [Lets B] {gv : Value} {A : Acc B gv} {r limit fails wait : Nat} {L F : List HProp}

/-- the gate is told -/
theorem step_tr {op : Int} {w : Nat} {s : A.S} {T : A.S → Prop} (hs : A.step op w s T) (hh : Has L (A.C s) F) :
    Tr Try.prog B 48 [gv, .int .u8 op, .int .i64 w] L (A.x s) fun v L' x' => ∃ s', T s' ∧ v = .tuple #[] ∧ L' = A.C s' :: F ∧ x' = A.x s' := by
  rcases A.gate with ⟨rfl, hg⟩ | ⟨t, p, f, rfl, hm, he, hg⟩
  · refine tr_of_body Try.func48 rfl Try.ntmps48 (by simp) fun um Q hQ => ?_
    simp only [argE, Nat.zero_add, Nat.reduceAdd]
    repeat (first
      | refine we_seq ?_
      | (refine we_region _ rfl rfl ?_; simp only [opsOf, List.map_cons, List.map_nil, Option.map_none, Option.map_some, List.getElem?_toArray, List.getElem?_cons_zero, List.getElem?_cons_succ, Option.bind_some, Option.getD_some])
      | refine wo_nil ?_
      | (apply wo_po; apply mo_move; exact rfl; (first | exact trivial | exact rfl))
      | (apply wo_po; apply mo_bin; exact rfl; exact rfl; apply bin_ne; apply eql_nil_nil; (first | exact trivial | exact rfl))
      | (apply we_condF; exact rfl; (first | exact rfl | (simp <;> omega) | omega))
      | refine we_skip ?_)
    refine at_ent _ (Ent.take hh .refl) ?_
    (first | refine at_ret0 (ex := .ret) Try.func48 Try.results48 hQ (.inl rfl) ?_ | refine at_ret0 (ex := .normal) Try.func48 Try.results48 hQ (.inr rfl) ?_)
    exact ⟨s, hg _ _ _ _ hs, rfl, rfl, rfl⟩
  · refine tr_of_body Try.func48 rfl Try.ntmps48 (by simp) fun um Q hQ => ?_
    simp only [argE, Nat.zero_add, Nat.reduceAdd]
    repeat (first
      | (apply wo_po; apply mo_build (pv := [(0, _), (1, _)]); exact rfl; exact .cons rfl (.cons rfl .nil); exact rfl; exact trivial)
      | refine we_seq ?_
      | (refine we_region _ rfl rfl ?_; simp only [opsOf, List.map_cons, List.map_nil, Option.map_none, Option.map_some, List.getElem?_toArray, List.getElem?_cons_zero, List.getElem?_cons_succ, Option.bind_some, Option.getD_some])
      | refine wo_nil ?_
      | (apply wo_po; apply mo_move; exact rfl; (first | exact trivial | exact rfl))
      | (apply wo_po; apply mo_bin; exact rfl; exact rfl; apply bin_ne; apply eql_iface_nil; (first | exact trivial | exact rfl))
      | (apply we_condT; exact rfl; (first | exact rfl | (simp <;> omega) | omega)))
    refine wo_invoke (args := [_]) rfl (.cons rfl .nil) trivial (hg op w s T L F hs hh) ?_
    rintro v L' x' ⟨s', h1, rfl, rfl, rfl⟩
    repeat (first
      | refine wo_nil ?_)
    (first | refine at_ret0 (ex := .ret) Try.func48 Try.results48 hQ (.inl rfl) ?_ | refine at_ret0 (ex := .normal) Try.func48 Try.results48 hQ (.inr rfl) ?_)
    exact ⟨s', h1, rfl, rfl, rfl⟩

theorem none_tr (R : GaugeAt A r limit) {s : A.S} (hh : Has L (A.C s) F) :
    Tr Try.prog B 52 [.pointer (some ⟨r, 0, none⟩)] L (A.x s) fun v L' x' => v = .bool false ∧ L' = L ∧ x' = A.x s := by
  have hr := Rd.of hh (R.hdr s)
  have h1 := R.lo
  refine tr_of_body Try.func52 rfl Try.ntmps52 (by simp) fun um Q hQ => ?_
  simp only [argE, Nat.zero_add, Nat.reduceAdd]
  repeat (first
    | (apply wo_po; apply mo_load; exact rfl; exact hr; exact rfl)
    | (apply wo_po; apply mo_bin; exact rfl; exact rfl; apply bin_eqlF; omega; (first | exact trivial | exact rfl))
    | refine we_seq ?_
    | (refine we_region _ rfl rfl ?_; simp only [opsOf, List.map_cons, List.map_nil, Option.map_none, Option.map_some, List.getElem?_toArray, List.getElem?_cons_zero, List.getElem?_cons_succ, Option.bind_some, Option.getD_some])
    | refine wo_nil ?_
    | (apply wo_po; apply mo_move; exact rfl; (first | exact trivial | exact rfl))
    | (apply wo_po; apply mo_assign; exact rfl; (first | exact trivial | exact rfl))
    | (apply wo_po; apply mo_pickF; exact rfl; exact rfl; exact rfl; (first | exact trivial | exact rfl))
    | (apply wo_po; apply mo_nilCheck; exact rfl; (first | exact trivial | exact rfl))
    | (apply wo_po; apply mo_fieldAddr; exact rfl; exact rfl; (first | exact Nat.zero_add _ | exact rfl); (first | exact trivial | exact rfl))
    | (apply wo_po; apply mo_bin; exact rfl; exact rfl; apply bin_eq; apply eql_ptr_nil; (first | exact trivial | exact rfl))
    | refine we_ret ?_)
  (first | refine at_ret1 (ex := .ret) Try.func52 Try.results52 hQ (.inl rfl) rfl ?_ | refine at_ret1 (ex := .normal) Try.func52 Try.results52 hQ (.inr rfl) rfl ?_)
  exact ⟨rfl, rfl, rfl⟩

theorem bnone_tr (R : BreakerAt A r fails wait) {s : A.S} (hh : Has L (A.C s) F) :
    Tr Try.prog B 44 [.pointer (some ⟨r, 0, none⟩)] L (A.x s) fun v L' x' => v = .bool false ∧ L' = L ∧ x' = A.x s := by
  have hr := Rd.of hh (R.hdr s)
  have h1 := R.lo
  refine tr_of_body Try.func44 rfl Try.ntmps44 (by simp) fun um Q hQ => ?_
  simp only [argE, Nat.zero_add, Nat.reduceAdd]
  repeat (first
    | (apply wo_po; apply mo_load; exact rfl; exact hr; exact rfl)
    | (apply wo_po; apply mo_bin; exact rfl; exact rfl; apply bin_eqlF; omega; (first | exact trivial | exact rfl))
    | refine we_seq ?_
    | (refine we_region _ rfl rfl ?_; simp only [opsOf, List.map_cons, List.map_nil, Option.map_none, Option.map_some, List.getElem?_toArray, List.getElem?_cons_zero, List.getElem?_cons_succ, Option.bind_some, Option.getD_some])
    | refine wo_nil ?_
    | (apply wo_po; apply mo_move; exact rfl; (first | exact trivial | exact rfl))
    | (apply wo_po; apply mo_assign; exact rfl; (first | exact trivial | exact rfl))
    | (apply wo_po; apply mo_pickF; exact rfl; exact rfl; exact rfl; (first | exact trivial | exact rfl))
    | (apply wo_po; apply mo_nilCheck; exact rfl; (first | exact trivial | exact rfl))
    | (apply wo_po; apply mo_fieldAddr; exact rfl; exact rfl; (first | exact Nat.zero_add _ | exact rfl); (first | exact trivial | exact rfl))
    | (apply wo_po; apply mo_bin; exact rfl; exact rfl; apply bin_eq; apply eql_ptr_nil; (first | exact trivial | exact rfl))
    | refine we_ret ?_)
  (first | refine at_ret1 (ex := .ret) Try.func44 Try.results44 hQ (.inl rfl) rfl ?_ | refine at_ret1 (ex := .normal) Try.func44 Try.results44 hQ (.inr rfl) rfl ?_)
  exact ⟨rfl, rfl, rfl⟩

theorem load_tr (R : GaugeAt A r limit) {w : Nat} (hw : w < 2) {s : A.S} {Q : Nat → A.S → Prop} (hs : A.step 1 w s fun s => A.load w s Q) (hh : Has L (A.C s) F) :
    Tr Try.prog B 53 [.pointer (some ⟨r, 0, none⟩), gv, .int .i64 (w : Nat)] L (A.x s) fun v L' x' => ∃ n s', n < 18446744073709551616 ∧ Q n s' ∧ v = .int .u64 (n : Nat) ∧ L' = A.C s' :: F ∧ x' = A.x s' := by
  refine tr_of_body Try.func53 rfl Try.ntmps53 (by simp) fun um Q hQ => ?_
  simp only [argE, Nat.zero_add, Nat.reduceAdd]
  repeat (first
    | refine we_seq ?_
    | (refine we_region _ rfl rfl ?_; simp only [opsOf, List.map_cons, List.map_nil, Option.map_none, Option.map_some, List.getElem?_toArray, List.getElem?_cons_zero, List.getElem?_cons_succ, Option.bind_some, Option.getD_some])
    | refine wo_nil ?_
    | (apply wo_po; apply mo_move; exact rfl; (first | exact trivial | exact rfl))
    | (apply wo_po; apply mo_assign; exact rfl; (first | exact trivial | exact rfl)))
  refine wo_call (.cons rfl (.cons rfl (.cons rfl .nil))) trivial (step_tr hs hh) ?_
  rintro v1 L1 x1 ⟨s1, h1, rfl, rfl, rfl⟩
  repeat (first
    | (apply wo_po; apply mo_indexArr1 (j := w); exact rfl; exact rfl; omega; exact trivial)
    | refine we_seq ?_
    | (refine we_region _ rfl rfl ?_; simp only [opsOf, List.map_cons, List.map_nil, Option.map_none, Option.map_some, List.getElem?_toArray, List.getElem?_cons_zero, List.getElem?_cons_succ, Option.bind_some, Option.getD_some])
    | refine wo_nil ?_
    | (apply wo_po; apply mo_move; exact rfl; (first | exact trivial | exact rfl))
    | (apply wo_po; apply mo_nilCheck; exact rfl; (first | exact trivial | exact rfl))
    | (apply wo_po; apply mo_fieldAddr; exact rfl; exact rfl; (first | exact Nat.zero_add _ | exact rfl); (first | exact trivial | exact rfl)))
  refine wo_call (.cons rfl .nil) trivial (A.load_ok _ _ _ _ _ _ _ (R.a w hw) h1 .here) ?_
  rintro v1 L1 x1 ⟨n, s2, hn, h2, rfl, rfl, rfl⟩
  repeat (first
    | refine wo_nil ?_
    | (apply wo_po; apply mo_assign; exact rfl; (first | exact trivial | exact rfl))
    | refine we_ret ?_)
  (first | refine at_ret1 (ex := .ret) Try.func53 Try.results53 hQ (.inl rfl) rfl ?_ | refine at_ret1 (ex := .normal) Try.func53 Try.results53 hQ (.inr rfl) rfl ?_)
  exact ⟨n, s2, hn, h2, rfl, rfl, rfl⟩

theorem swap_tr (R : GaugeAt A r limit) {w a b : Nat} (hw : w < 2) (hb : b < 18446744073709551616) {s : A.S} {Q : Bool → A.S → Prop} (hs : A.step 5 w s fun s => A.cas w a b s Q) (hh : Has L (A.C s) F) :
    Tr Try.prog B 54 [.pointer (some ⟨r, 0, none⟩), gv, .int .i64 (w : Nat), .int .u64 (a : Nat), .int .u64 (b : Nat)] L (A.x s) fun v L' x' => ∃ q s', Q q s' ∧ v = .bool q ∧ L' = A.C s' :: F ∧ x' = A.x s' := by
  refine tr_of_body Try.func54 rfl Try.ntmps54 (by simp) fun um Q hQ => ?_
  simp only [argE, Nat.zero_add, Nat.reduceAdd]
  repeat (first
    | refine we_seq ?_
    | (refine we_region _ rfl rfl ?_; simp only [opsOf, List.map_cons, List.map_nil, Option.map_none, Option.map_some, List.getElem?_toArray, List.getElem?_cons_zero, List.getElem?_cons_succ, Option.bind_some, Option.getD_some])
    | refine wo_nil ?_
    | (apply wo_po; apply mo_move; exact rfl; (first | exact trivial | exact rfl))
    | (apply wo_po; apply mo_assign; exact rfl; (first | exact trivial | exact rfl)))
  refine wo_call (.cons rfl (.cons rfl (.cons rfl .nil))) trivial (step_tr hs hh) ?_
  rintro v1 L1 x1 ⟨s1, h1, rfl, rfl, rfl⟩
  repeat (first
    | (apply wo_po; apply mo_indexArr1 (j := w); exact rfl; exact rfl; omega; exact trivial)
    | refine we_seq ?_
    | (refine we_region _ rfl rfl ?_; simp only [opsOf, List.map_cons, List.map_nil, Option.map_none, Option.map_some, List.getElem?_toArray, List.getElem?_cons_zero, List.getElem?_cons_succ, Option.bind_some, Option.getD_some])
    | refine wo_nil ?_
    | (apply wo_po; apply mo_move; exact rfl; (first | exact trivial | exact rfl))
    | (apply wo_po; apply mo_nilCheck; exact rfl; (first | exact trivial | exact rfl))
    | (apply wo_po; apply mo_fieldAddr; exact rfl; exact rfl; (first | exact Nat.zero_add _ | exact rfl); (first | exact trivial | exact rfl)))
  refine wo_call (.cons rfl (.cons rfl (.cons rfl .nil))) trivial (A.cas_ok _ _ _ _ _ _ _ _ _ (R.a w hw) hb h1 .here) ?_
  rintro v1 L1 x1 ⟨q, s2, h2, rfl, rfl, rfl⟩
  repeat (first
    | refine wo_nil ?_
    | (apply wo_po; apply mo_assign; exact rfl; (first | exact trivial | exact rfl))
    | refine we_ret ?_)
  (first | refine at_ret1 (ex := .ret) Try.func54 Try.results54 hQ (.inl rfl) rfl ?_ | refine at_ret1 (ex := .normal) Try.func54 Try.results54 hQ (.inr rfl) rfl ?_)
  exact ⟨q, s2, h2, rfl, rfl, rfl⟩

/-- Enter's second loop: the peak -/
def Enter2F (A : Acc B gv) (n : Nat) (Q : Bool → A.S → Prop) (X : A.S → Prop) (s : A.S) : Prop :=
  A.step 1 1 s fun s => A.load 1 s fun p s => if n < p then Q true s else A.step 5 1 s fun s => A.cas 1 p ((n + 1) % 18446744073709551616) s fun c s => if c then Q true s else X s
def Enter2T (A : Acc B gv) (n : Nat) (Q : Bool → A.S → Prop) (s : A.S) : Prop := ∀ X : A.S → Prop, (∀ s, Enter2F A n Q X s → X s) → X s
/-- Enter's first loop: who may enter -/
def Enter1F (A : Acc B gv) (limit : Nat) (Q : Bool → A.S → Prop) (X : Nat × A.S → Prop) (y : Nat × A.S) : Prop :=
  y.1 < 18446744073709551616 ∧ if limit ≤ y.1 then Q false y.2 else A.step 5 0 y.2 fun s => A.cas 0 y.1 ((y.1 + 1) % 18446744073709551616) s fun c s => if c then Enter2T A y.1 Q s else A.step 1 0 s fun s => A.load 0 s fun n s => n < 18446744073709551616 → X (n, s)
def EnterT (A : Acc B gv) (limit : Nat) (s : A.S) (Q : Bool → A.S → Prop) : Prop :=
  A.step 1 0 s fun s => A.load 0 s fun n s => n < 18446744073709551616 → ∀ X : Nat × A.S → Prop, (∀ y, Enter1F A limit Q X y → X y) → X (n, s)

theorem enter_tr (R : GaugeAt A r limit) {s : A.S} {G : Bool → A.S → Prop} (hs : EnterT A limit s G) (hh : Has L (A.C s) F) :
    Tr Try.prog B 19 [.pointer (some ⟨r, 0, none⟩), gv] L (A.x s) fun v L' x' => ∃ q s', G q s' ∧ v = .tuple #[.bool q, .int .i64 0] ∧ L' = A.C s' :: F ∧ x' = A.x s' := by
  have hlo := R.lo
  have hhi := R.hi
  refine tr_of_body Try.func19 rfl Try.ntmps19 (by simp) fun um Q hQ => ?_
  simp only [argE, Nat.zero_add, Nat.reduceAdd]
  repeat (first
    | refine we_seq ?_
    | (refine we_region _ rfl rfl ?_; simp only [opsOf, List.map_cons, List.map_nil, Option.map_none, Option.map_some, List.getElem?_toArray, List.getElem?_cons_zero, List.getElem?_cons_succ, Option.bind_some, Option.getD_some])
    | refine wo_nil ?_
    | (apply wo_po; apply mo_move; exact rfl; (first | exact trivial | exact rfl))
    | (apply wo_po; apply mo_assign; exact rfl; (first | exact trivial | exact rfl)))
  refine wo_call (.cons rfl .nil) trivial (none_tr R hh) ?_
  rintro v1 L1 x1 ⟨rfl, rfl, rfl⟩
  repeat (first
    | refine we_seq ?_
    | (refine we_region _ rfl rfl ?_; simp only [opsOf, List.map_cons, List.map_nil, Option.map_none, Option.map_some, List.getElem?_toArray, List.getElem?_cons_zero, List.getElem?_cons_succ, Option.bind_some, Option.getD_some])
    | refine wo_nil ?_
    | (apply wo_po; apply mo_move; exact rfl; (first | exact trivial | exact rfl))
    | (apply we_condF; exact rfl; (first | exact rfl | (simp <;> omega) | omega))
    | refine we_skip ?_)
  refine wo_call (.cons rfl (.cons rfl (.cons rfl .nil))) trivial (load_tr R (w := 0) (by omega) hs hh) ?_
  rintro v1 L1 x1 ⟨n, s1, hn, h1, rfl, rfl, rfl⟩
  repeat (first
    | refine we_seq ?_
    | refine wo_nil ?_
    | (apply wo_po; apply mo_assign; exact rfl; (first | exact trivial | exact rfl)))
  refine we_block ?_
  refine we_lfpE (Enter1F A limit G) (fun y => A.C y.2 :: F) (fun y => A.x y.2) (fun y => [(0, .pointer (some ⟨r, 0, none⟩)), (1, gv), (6, .int .u64 (y.1 : Nat))]) (n, s1) (h1 hn) ⟨rfl, rfl, rfl, trivial⟩ .refl rfl ?_
  clear h1 hn hs
  rintro ⟨n, s1⟩ ⟨hn, h1⟩
  dsimp only at hn h1 ⊢
  have hr : Rd (A.C s1 :: F) r 0 (.int .u64 (limit : Nat)) := Rd.of .here (R.hdr s1)
  by_cases c1 : limit ≤ n
  · rw [if_pos c1] at h1
    repeat (first
      | (apply wo_po; apply mo_load; exact rfl; exact hr; exact trivial)
      | (apply wo_po; apply mo_bin; exact rfl; exact rfl; apply bin_geqT; omega; (first | exact trivial | exact rfl))
      | refine we_seq ?_
      | (refine we_region _ rfl rfl ?_; simp only [opsOf, List.map_cons, List.map_nil, Option.map_none, Option.map_some, List.getElem?_toArray, List.getElem?_cons_zero, List.getElem?_cons_succ, Option.bind_some, Option.getD_some])
      | refine wo_nil ?_
      | (apply wo_po; apply mo_move; exact rfl; (first | exact trivial | exact rfl))
      | (apply wo_po; apply mo_assign; exact rfl; (first | exact trivial | exact rfl))
      | (apply wo_po; apply mo_nilCheck; exact rfl; (first | exact trivial | exact rfl))
      | (apply wo_po; apply mo_fieldAddr; exact rfl; exact rfl; (first | exact Nat.zero_add _ | exact rfl); (first | exact trivial | exact rfl))
      | (apply we_condT; exact rfl; (first | exact rfl | (simp <;> omega) | omega))
      | refine we_ret ?_
      | refine we_block ?_)
    (first | refine at_ret2 (ex := .ret) Try.func19 Try.results19 hQ (.inl rfl) rfl rfl ?_ | refine at_ret2 (ex := .normal) Try.func19 Try.results19 hQ (.inr rfl) rfl rfl ?_)
    exact ⟨false, s1, h1, rfl, rfl, rfl⟩
  · rw [if_neg c1] at h1
    have hadd : IntKind.u64.wrap ((n : Int) + 1) = (((n + 1) % 18446744073709551616 : Nat) : Int) := by rw [wrap_u64_mod]; omega
    repeat (first
      | (apply wo_po; apply mo_load; exact rfl; exact hr; exact trivial)
      | (apply wo_po; apply mo_bin; exact rfl; exact rfl; apply bin_add; exact hadd; exact trivial)
      | (apply wo_po; apply mo_bin; exact rfl; exact rfl; apply bin_geqF; omega; (first | exact trivial | exact rfl))
      | refine we_seq ?_
      | (refine we_region _ rfl rfl ?_; simp only [opsOf, List.map_cons, List.map_nil, Option.map_none, Option.map_some, List.getElem?_toArray, List.getElem?_cons_zero, List.getElem?_cons_succ, Option.bind_some, Option.getD_some])
      | refine wo_nil ?_
      | (apply wo_po; apply mo_move; exact rfl; (first | exact trivial | exact rfl))
      | (apply wo_po; apply mo_nilCheck; exact rfl; (first | exact trivial | exact rfl))
      | (apply wo_po; apply mo_fieldAddr; exact rfl; exact rfl; (first | exact Nat.zero_add _ | exact rfl); (first | exact trivial | exact rfl))
      | (apply we_condF; exact rfl; (first | exact rfl | (simp <;> omega) | omega))
      | refine we_skip ?_
      | refine we_block ?_)
    refine wo_call (.cons rfl (.cons rfl (.cons rfl (.cons rfl (.cons rfl .nil))))) trivial (swap_tr R (w := 0) (by omega) (Nat.mod_lt _ (by decide)) h1 .here) ?_
    rintro v1 L1 x1 ⟨q, s2, h2, rfl, rfl, rfl⟩
    cases q
    · simp only [Bool.false_eq_true, if_false] at h2
      repeat (first
        | (refine we_region _ rfl rfl ?_; simp only [opsOf, List.map_cons, List.map_nil, Option.map_none, Option.map_some, List.getElem?_toArray, List.getElem?_cons_zero, List.getElem?_cons_succ, Option.bind_some, Option.getD_some])
        | refine wo_nil ?_
        | (apply wo_po; apply mo_move; exact rfl; (first | exact trivial | exact rfl))
        | (apply we_condF; exact rfl; (first | exact rfl | (simp <;> omega) | omega))
        | refine we_skip ?_)
      refine wo_call (.cons rfl (.cons rfl (.cons rfl .nil))) trivial (load_tr R (w := 0) (by omega) h2 .here) ?_
      rintro v1 L1 x1 ⟨m, s3, hm, h3, rfl, rfl, rfl⟩
      repeat (first
        | refine wo_nil ?_
        | (apply wo_po; apply mo_assign; exact rfl; (first | exact trivial | exact rfl)))
      exact at_again (h3 hm) ⟨rfl, rfl, rfl, trivial⟩ .refl
    · simp only [if_true] at h2
      repeat (first
        | refine wo_nil ?_
        | (apply we_condT; exact rfl; (first | exact rfl | (simp <;> omega) | omega))
        | refine we_exit ?_)
      refine we_block ?_
      refine we_lfp (Enter2F A n G) (fun s => A.C s :: F) A.x s2 h2 [(0, .pointer (some ⟨r, 0, none⟩)), (1, gv), (6, .int .u64 (n : Nat))] ⟨rfl, rfl, rfl, trivial⟩ .refl rfl ?_
      clear h2 h1
      intro s2 h2
      repeat (first
        | refine we_seq ?_
        | (refine we_region _ rfl rfl ?_; simp only [opsOf, List.map_cons, List.map_nil, Option.map_none, Option.map_some, List.getElem?_toArray, List.getElem?_cons_zero, List.getElem?_cons_succ, Option.bind_some, Option.getD_some])
        | (apply wo_po; apply mo_move; exact rfl; (first | exact trivial | exact rfl))
        | refine we_block ?_)
      refine wo_call (.cons rfl (.cons rfl (.cons rfl .nil))) trivial (load_tr R (w := 1) (by omega) h2 .here) ?_
      rintro v1 L1 x1 ⟨p, s3, hp, h3, rfl, rfl, rfl⟩
      by_cases c2 : n < p
      · rw [if_pos c2] at h3
        repeat (first
          | (apply wo_po; apply mo_bin; exact rfl; exact rfl; apply bin_gtrT; omega; (first | exact trivial | exact rfl))
          | refine we_seq ?_
          | (refine we_region _ rfl rfl ?_; simp only [opsOf, List.map_cons, List.map_nil, Option.map_none, Option.map_some, List.getElem?_toArray, List.getElem?_cons_zero, List.getElem?_cons_succ, Option.bind_some, Option.getD_some])
          | refine wo_nil ?_
          | (apply wo_po; apply mo_move; exact rfl; (first | exact trivial | exact rfl))
          | (apply wo_po; apply mo_assign; exact rfl; (first | exact trivial | exact rfl))
          | (apply wo_no; exact rfl)
          | (apply wo_po; apply mo_pickT; exact rfl; exact rfl; exact rfl; (first | exact trivial | exact rfl))
          | (apply we_condT; exact rfl; (first | exact rfl | (simp <;> omega) | omega))
          | refine we_ret ?_)
        (first | refine at_ret2 (ex := .ret) Try.func19 Try.results19 hQ (.inl rfl) rfl rfl ?_ | refine at_ret2 (ex := .normal) Try.func19 Try.results19 hQ (.inr rfl) rfl rfl ?_)
        exact ⟨true, s3, h3, rfl, rfl, rfl⟩
      · rw [if_neg c2] at h3
        repeat (first
          | (apply wo_po; apply mo_bin; exact rfl; exact rfl; apply bin_add; exact hadd; (first | exact trivial | exact rfl))
          | (apply wo_po; apply mo_bin; exact rfl; exact rfl; apply bin_gtrF; omega; (first | exact trivial | exact rfl))
          | refine we_seq ?_
          | (refine we_region _ rfl rfl ?_; simp only [opsOf, List.map_cons, List.map_nil, Option.map_none, Option.map_some, List.getElem?_toArray, List.getElem?_cons_zero, List.getElem?_cons_succ, Option.bind_some, Option.getD_some])
          | refine wo_nil ?_
          | (apply wo_po; apply mo_move; exact rfl; (first | exact trivial | exact rfl))
          | (apply wo_po; apply mo_assign; exact rfl; (first | exact trivial | exact rfl)))
        refine wo_call (.cons rfl (.cons rfl (.cons rfl (.cons rfl (.cons rfl .nil))))) rfl (swap_tr R (w := 1) (by omega) (Nat.mod_lt _ (by decide)) h3 .here) ?_
        rintro v1 L1 x1 ⟨q, s4, h4, rfl, rfl, rfl⟩
        cases q
        · simp only [Bool.false_eq_true, if_false] at h4
          repeat (first
            | refine wo_nil ?_
            | (apply wo_po; apply mo_pickF; exact rfl; exact rfl; exact rfl; (first | exact trivial | exact rfl))
            | (apply we_condF; exact rfl; (first | exact rfl | (simp <;> omega) | omega))
            | refine we_skip ?_)
          exact at_again h4 ⟨rfl, rfl, rfl, trivial⟩ .refl
        · simp only [if_true] at h4
          repeat (first
            | refine we_seq ?_
            | (refine we_region _ rfl rfl ?_; simp only [opsOf, List.map_cons, List.map_nil, Option.map_none, Option.map_some, List.getElem?_toArray, List.getElem?_cons_zero, List.getElem?_cons_succ, Option.bind_some, Option.getD_some])
            | refine wo_nil ?_
            | (apply wo_po; apply mo_assign; exact rfl; (first | exact trivial | exact rfl))
            | (apply wo_po; apply mo_pickF; exact rfl; exact rfl; exact rfl; (first | exact trivial | exact rfl))
            | (apply we_condT; exact rfl; (first | exact rfl | (simp <;> omega) | omega))
            | refine we_ret ?_)
          (first | refine at_ret2 (ex := .ret) Try.func19 Try.results19 hQ (.inl rfl) rfl rfl ?_ | refine at_ret2 (ex := .normal) Try.func19 Try.results19 hQ (.inr rfl) rfl rfl ?_)
          exact ⟨true, s4, h4, rfl, rfl, rfl⟩

def LeaveF (A : Acc B gv) (Q : Nat → A.S → Prop) (X : A.S → Prop) (s : A.S) : Prop :=
  A.step 1 0 s fun s => A.load 0 s fun n s => if n = 0 then Q 3 s else A.step 5 0 s fun s => A.cas 0 n ((n + 18446744073709551616 - 1) % 18446744073709551616) s fun c s => if c then Q 0 s else X s
def LeaveT (A : Acc B gv) (s : A.S) (Q : Nat → A.S → Prop) : Prop := ∀ X : A.S → Prop, (∀ s, LeaveF A Q X s → X s) → X s

theorem leave_tr (R : GaugeAt A r limit) {s : A.S} {G : Nat → A.S → Prop} (hs : LeaveT A s G) (hh : Has L (A.C s) F) :
    Tr Try.prog B 21 [.pointer (some ⟨r, 0, none⟩), gv] L (A.x s) fun v L' x' => ∃ q s', G q s' ∧ v = .int .i64 (q : Nat) ∧ L' = A.C s' :: F ∧ x' = A.x s' := by
  refine tr_of_body Try.func21 rfl Try.ntmps21 (by simp) fun um Q hQ => ?_
  simp only [argE, Nat.zero_add, Nat.reduceAdd]
  repeat (first
    | refine we_seq ?_
    | (refine we_region _ rfl rfl ?_; simp only [opsOf, List.map_cons, List.map_nil, Option.map_none, Option.map_some, List.getElem?_toArray, List.getElem?_cons_zero, List.getElem?_cons_succ, Option.bind_some, Option.getD_some])
    | refine wo_nil ?_
    | (apply wo_po; apply mo_move; exact rfl; (first | exact trivial | exact rfl))
    | (apply wo_po; apply mo_assign; exact rfl; (first | exact trivial | exact rfl)))
  refine wo_call (.cons rfl .nil) trivial (none_tr R hh) ?_
  rintro v1 L1 x1 ⟨rfl, rfl, rfl⟩
  repeat (first
    | refine wo_nil ?_
    | (apply we_condF; exact rfl; (first | exact rfl | (simp <;> omega) | omega))
    | refine we_skip ?_
    | refine we_block ?_)
  refine we_lfp (LeaveF A G) (fun s => A.C s :: F) A.x s hs [(0, .pointer (some ⟨r, 0, none⟩)), (1, gv)] ⟨rfl, rfl, trivial⟩ (.take hh .refl) rfl ?_
  clear hs hh
  intro s hs
  repeat (first
    | refine we_seq ?_
    | (refine we_region _ rfl rfl ?_; simp only [opsOf, List.map_cons, List.map_nil, Option.map_none, Option.map_some, List.getElem?_toArray, List.getElem?_cons_zero, List.getElem?_cons_succ, Option.bind_some, Option.getD_some])
    | (apply wo_po; apply mo_move; exact rfl; (first | exact trivial | exact rfl))
    | refine we_block ?_)
  refine wo_call (.cons rfl (.cons rfl (.cons rfl .nil))) trivial (load_tr R (w := 0) (by omega) hs .here) ?_
  rintro v1 L1 x1 ⟨n, s1, hn, h1, rfl, rfl, rfl⟩
  by_cases c1 : n = 0
  · subst c1
    simp only [if_true] at h1
    repeat (first
      | (apply wo_po; apply mo_bin; exact rfl; exact rfl; apply bin_eqlT; omega; (first | exact trivial | exact rfl))
      | refine we_seq ?_
      | (refine we_region _ rfl rfl ?_; simp only [opsOf, List.map_cons, List.map_nil, Option.map_none, Option.map_some, List.getElem?_toArray, List.getElem?_cons_zero, List.getElem?_cons_succ, Option.bind_some, Option.getD_some])
      | refine wo_nil ?_
      | (apply wo_po; apply mo_move; exact rfl; (first | exact trivial | exact rfl))
      | (apply wo_po; apply mo_assign; exact rfl; (first | exact trivial | exact rfl))
      | (apply we_condT; exact rfl; (first | exact rfl | (simp <;> omega) | omega))
      | refine we_ret ?_)
    (first | refine at_ret1 (ex := .ret) Try.func21 Try.results21 hQ (.inl rfl) rfl ?_ | refine at_ret1 (ex := .normal) Try.func21 Try.results21 hQ (.inr rfl) rfl ?_)
    exact ⟨3, s1, h1, rfl, rfl, rfl⟩
  · rw [if_neg c1] at h1
    have hsub : IntKind.u64.wrap ((n : Int) - 1) = (((n + 18446744073709551616 - 1) % 18446744073709551616 : Nat) : Int) := by rw [wrap_u64_mod]; omega
    repeat (first
      | (apply wo_po; apply mo_bin; exact rfl; exact rfl; apply bin_sub; exact hsub; exact trivial)
      | (apply wo_po; apply mo_bin; exact rfl; exact rfl; apply bin_eqlF; omega; (first | exact trivial | exact rfl))
      | refine we_seq ?_
      | (refine we_region _ rfl rfl ?_; simp only [opsOf, List.map_cons, List.map_nil, Option.map_none, Option.map_some, List.getElem?_toArray, List.getElem?_cons_zero, List.getElem?_cons_succ, Option.bind_some, Option.getD_some])
      | refine wo_nil ?_
      | (apply wo_po; apply mo_move; exact rfl; (first | exact trivial | exact rfl))
      | (apply wo_po; apply mo_assign; exact rfl; (first | exact trivial | exact rfl))
      | (apply we_condF; exact rfl; (first | exact rfl | (simp <;> omega) | omega))
      | refine we_skip ?_)
    refine wo_call (.cons rfl (.cons rfl (.cons rfl (.cons rfl (.cons rfl .nil))))) trivial (swap_tr R (w := 0) (by omega) (Nat.mod_lt _ (by decide)) h1 .here) ?_
    rintro v1 L1 x1 ⟨q, s2, h2, rfl, rfl, rfl⟩
    cases q
    · simp only [Bool.false_eq_true, if_false] at h2
      repeat (first
        | refine wo_nil ?_
        | (apply we_condF; exact rfl; (first | exact rfl | (simp <;> omega) | omega))
        | refine we_skip ?_)
      exact at_again h2 ⟨rfl, rfl, trivial⟩ .refl
    · simp only [if_true] at h2
      repeat (first
        | refine we_seq ?_
        | (refine we_region _ rfl rfl ?_; simp only [opsOf, List.map_cons, List.map_nil, Option.map_none, Option.map_some, List.getElem?_toArray, List.getElem?_cons_zero, List.getElem?_cons_succ, Option.bind_some, Option.getD_some])
        | refine wo_nil ?_
        | (apply wo_po; apply mo_assign; exact rfl; (first | exact trivial | exact rfl))
        | (apply we_condT; exact rfl; (first | exact rfl | (simp <;> omega) | omega))
        | refine we_ret ?_)
      (first | refine at_ret1 (ex := .ret) Try.func21 Try.results21 hQ (.inl rfl) rfl ?_ | refine at_ret1 (ex := .normal) Try.func21 Try.results21 hQ (.inr rfl) rfl ?_)
      exact ⟨0, s2, h2, rfl, rfl, rfl⟩

def GetT (A : Acc B gv) (s : A.S) (Q : Nat → Nat → A.S → Prop) : Prop :=
  A.step 1 0 s fun s => A.load 0 s fun a s => A.step 1 1 s fun s => A.load 1 s fun b s => Q a b s

theorem get_tr (R : GaugeAt A r limit) {s : A.S} {Q : Nat → Nat → A.S → Prop} (hs : GetT A s Q) (hh : Has L (A.C s) F) :
    Tr Try.prog B 20 [.pointer (some ⟨r, 0, none⟩), gv] L (A.x s) fun v L' x' => ∃ a b s', Q a b s' ∧ a < 18446744073709551616 ∧ b < 18446744073709551616 ∧ v = .tuple #[.int .u64 (a : Nat), .int .u64 (b : Nat), .int .i64 0] ∧ L' = A.C s' :: F ∧ x' = A.x s' := by
  refine tr_of_body Try.func20 rfl Try.ntmps20 (by simp) fun um Q hQ => ?_
  simp only [argE, Nat.zero_add, Nat.reduceAdd]
  repeat (first
    | refine we_seq ?_
    | (refine we_region _ rfl rfl ?_; simp only [opsOf, List.map_cons, List.map_nil, Option.map_none, Option.map_some, List.getElem?_toArray, List.getElem?_cons_zero, List.getElem?_cons_succ, Option.bind_some, Option.getD_some])
    | refine wo_nil ?_
    | (apply wo_po; apply mo_move; exact rfl; (first | exact trivial | exact rfl))
    | (apply wo_po; apply mo_assign; exact rfl; (first | exact trivial | exact rfl)))
  refine wo_call (.cons rfl .nil) trivial (none_tr R hh) ?_
  rintro v1 L1 x1 ⟨rfl, rfl, rfl⟩
  repeat (first
    | refine we_seq ?_
    | (refine we_region _ rfl rfl ?_; simp only [opsOf, List.map_cons, List.map_nil, Option.map_none, Option.map_some, List.getElem?_toArray, List.getElem?_cons_zero, List.getElem?_cons_succ, Option.bind_some, Option.getD_some])
    | refine wo_nil ?_
    | (apply wo_po; apply mo_move; exact rfl; (first | exact trivial | exact rfl))
    | (apply we_condF; exact rfl; (first | exact rfl | (simp <;> omega) | omega))
    | refine we_skip ?_)
  refine wo_call (.cons rfl (.cons rfl (.cons rfl .nil))) trivial (load_tr R (w := 0) (by omega) hs hh) ?_
  rintro v1 L1 x1 ⟨a, s1, ha, h1, rfl, rfl, rfl⟩
  repeat (first
    | refine we_seq ?_
    | (refine we_region _ rfl rfl ?_; simp only [opsOf, List.map_cons, List.map_nil, Option.map_none, Option.map_some, List.getElem?_toArray, List.getElem?_cons_zero, List.getElem?_cons_succ, Option.bind_some, Option.getD_some])
    | refine wo_nil ?_
    | (apply wo_po; apply mo_move; exact rfl; (first | exact trivial | exact rfl))
    | (apply wo_po; apply mo_assign; exact rfl; (first | exact trivial | exact rfl)))
  refine wo_call (.cons rfl (.cons rfl (.cons rfl .nil))) trivial (load_tr R (w := 1) (by omega) h1 .here) ?_
  rintro v1 L1 x1 ⟨b, s2, hb, h2, rfl, rfl, rfl⟩
  repeat (first
    | refine wo_nil ?_
    | (apply wo_po; apply mo_assign; exact rfl; (first | exact trivial | exact rfl))
    | refine we_ret ?_)
  (first | refine at_ret3 (ex := .ret) Try.func20 Try.results20 hQ (.inl rfl) rfl rfl rfl ?_ | refine at_ret3 (ex := .normal) Try.func20 Try.results20 hQ (.inr rfl) rfl rfl rfl ?_)
  exact ⟨a, b, s2, h2, ha, hb, rfl, rfl, rfl⟩

theorem new_tr {x : B.X} (h1 : 1 ≤ limit) (h2 : limit ≤ 1048576) :
    Tr Try.prog B 15 [.int .u64 (limit : Nat)] L x fun v L' x' => ∃ r, v = .tuple #[.pointer (some ⟨r, 0, none⟩), .int .i64 0] ∧ L' = arr r 0 [.int .u64 (limit : Nat), .int .u64 0, .int .u64 0] :: L ∧ x' = x := by
  refine tr_of_body Try.func15 rfl Try.ntmps15 (by simp) fun um Q hQ => ?_
  simp only [argE, Nat.zero_add, Nat.reduceAdd]
  repeat (first
    | (apply wo_po; apply mo_build (pv := [(0, _)]); exact rfl; exact .cons rfl .nil; exact rfl; exact trivial)
    | (apply wo_mo; apply mo_box; exact rfl; exact trivial)
    | (apply wo_po; apply mo_bin; exact rfl; exact rfl; apply bin_lssF; omega; (first | exact trivial | exact rfl))
    | (apply wo_po; apply mo_bin; exact rfl; exact rfl; apply bin_gtrF; omega; (first | exact trivial | exact rfl))
    | refine we_seq ?_
    | (refine we_region _ rfl rfl ?_; simp only [opsOf, List.map_cons, List.map_nil, Option.map_none, Option.map_some, List.getElem?_toArray, List.getElem?_cons_zero, List.getElem?_cons_succ, Option.bind_some, Option.getD_some])
    | refine wo_nil ?_
    | (apply wo_po; apply mo_move; exact rfl; (first | exact trivial | exact rfl))
    | (apply wo_po; apply mo_assign; exact rfl; (first | exact trivial | exact rfl))
    | (apply wo_po; apply mo_pickF; exact rfl; exact rfl; exact rfl; (first | exact trivial | exact rfl))
    | (apply we_condF; exact rfl; (first | exact rfl | (simp <;> omega) | omega))
    | refine we_skip ?_)
  rintro v' L' ⟨r, rfl, rfl⟩
  repeat (first
    | refine wo_nil ?_
    | (apply wo_po; apply mo_assign; exact rfl; (first | exact trivial | exact rfl))
    | refine we_ret ?_)
  (first | refine at_ret2 (ex := .ret) Try.func15 Try.results15 hQ (.inl rfl) rfl rfl ?_ | refine at_ret2 (ex := .normal) Try.func15 Try.results15 hQ (.inr rfl) rfl rfl ?_)
  exact ⟨r, rfl, rfl, rfl⟩

theorem new_no {x : B.X} (h1 : limit < 1 ∨ 1048576 < limit) :
    Tr Try.prog B 15 [.int .u64 (limit : Nat)] L x fun v L' x' => v = .tuple #[.pointer none, .int .i64 2] ∧ L' = L ∧ x' = x := by
  by_cases c : limit < 1
  · refine tr_of_body Try.func15 rfl Try.ntmps15 (by simp) fun um Q hQ => ?_
    simp only [argE, Nat.zero_add, Nat.reduceAdd]
    repeat (first
      | (apply wo_po; apply mo_bin; exact rfl; exact rfl; apply bin_lssT; omega; (first | exact trivial | exact rfl))
      | refine we_seq ?_
      | (refine we_region _ rfl rfl ?_; simp only [opsOf, List.map_cons, List.map_nil, Option.map_none, Option.map_some, List.getElem?_toArray, List.getElem?_cons_zero, List.getElem?_cons_succ, Option.bind_some, Option.getD_some])
      | refine wo_nil ?_
      | (apply wo_po; apply mo_move; exact rfl; (first | exact trivial | exact rfl))
      | (apply wo_po; apply mo_assign; exact rfl; (first | exact trivial | exact rfl))
      | (apply wo_no; exact rfl)
      | (apply wo_po; apply mo_pickT; exact rfl; exact rfl; exact rfl; (first | exact trivial | exact rfl))
      | (apply we_condT; exact rfl; (first | exact rfl | (simp <;> omega) | omega))
      | refine we_ret ?_)
    (first | refine at_ret2 (ex := .ret) Try.func15 Try.results15 hQ (.inl rfl) rfl rfl ?_ | refine at_ret2 (ex := .normal) Try.func15 Try.results15 hQ (.inr rfl) rfl rfl ?_)
    exact ⟨rfl, rfl, rfl⟩
  · refine tr_of_body Try.func15 rfl Try.ntmps15 (by simp) fun um Q hQ => ?_
    simp only [argE, Nat.zero_add, Nat.reduceAdd]
    repeat (first
      | (apply wo_po; apply mo_bin; exact rfl; exact rfl; apply bin_lssF; omega; (first | exact trivial | exact rfl))
      | (apply wo_po; apply mo_bin; exact rfl; exact rfl; apply bin_gtrT; omega; (first | exact trivial | exact rfl))
      | refine we_seq ?_
      | (refine we_region _ rfl rfl ?_; simp only [opsOf, List.map_cons, List.map_nil, Option.map_none, Option.map_some, List.getElem?_toArray, List.getElem?_cons_zero, List.getElem?_cons_succ, Option.bind_some, Option.getD_some])
      | refine wo_nil ?_
      | (apply wo_po; apply mo_move; exact rfl; (first | exact trivial | exact rfl))
      | (apply wo_po; apply mo_assign; exact rfl; (first | exact trivial | exact rfl))
      | (apply wo_po; apply mo_pickF; exact rfl; exact rfl; exact rfl; (first | exact trivial | exact rfl))
      | (apply we_condT; exact rfl; (first | exact rfl | (simp <;> omega) | omega))
      | refine we_ret ?_)
    (first | refine at_ret2 (ex := .ret) Try.func15 Try.results15 hQ (.inl rfl) rfl rfl ?_ | refine at_ret2 (ex := .normal) Try.func15 Try.results15 hQ (.inr rfl) rfl rfl ?_)
    exact ⟨rfl, rfl, rfl⟩

theorem newb_tr {x : B.X} (h1 : 1 ≤ fails) (h2 : fails ≤ 1048576) (h3 : 1 ≤ wait) (h4 : wait ≤ 1099511627776) :
    Tr Try.prog B 16 [.int .u64 (fails : Nat), .int .u64 (wait : Nat)] L x fun v L' x' => ∃ r, v = .tuple #[.pointer (some ⟨r, 0, none⟩), .int .i64 0] ∧ L' = arr r 0 [.int .u64 (fails : Nat), .int .u64 (wait : Nat), .int .u64 0] :: L ∧ x' = x := by
  refine tr_of_body Try.func16 rfl Try.ntmps16 (by simp) fun um Q hQ => ?_
  simp only [argE, Nat.zero_add, Nat.reduceAdd]
  repeat (first
    | (apply wo_po; apply mo_build (pv := [(0, _), (1, _)]); exact rfl; exact .cons rfl (.cons rfl .nil); exact rfl; exact trivial)
    | (apply wo_mo; apply mo_box; exact rfl; exact trivial)
    | (apply wo_po; apply mo_bin; exact rfl; exact rfl; apply bin_lssF; omega; (first | exact trivial | exact rfl))
    | (apply wo_po; apply mo_bin; exact rfl; exact rfl; apply bin_gtrF; omega; (first | exact trivial | exact rfl))
    | refine we_seq ?_
    | (refine we_region _ rfl rfl ?_; simp only [opsOf, List.map_cons, List.map_nil, Option.map_none, Option.map_some, List.getElem?_toArray, List.getElem?_cons_zero, List.getElem?_cons_succ, Option.bind_some, Option.getD_some])
    | refine wo_nil ?_
    | (apply wo_po; apply mo_move; exact rfl; (first | exact trivial | exact rfl))
    | (apply wo_po; apply mo_assign; exact rfl; (first | exact trivial | exact rfl))
    | (apply wo_po; apply mo_pickF; exact rfl; exact rfl; exact rfl; (first | exact trivial | exact rfl))
    | (apply we_condF; exact rfl; (first | exact rfl | (simp <;> omega) | omega))
    | refine we_skip ?_)
  rintro v' L' ⟨r, rfl, rfl⟩
  repeat (first
    | refine wo_nil ?_
    | (apply wo_po; apply mo_assign; exact rfl; (first | exact trivial | exact rfl))
    | refine we_ret ?_)
  (first | refine at_ret2 (ex := .ret) Try.func16 Try.results16 hQ (.inl rfl) rfl rfl ?_ | refine at_ret2 (ex := .normal) Try.func16 Try.results16 hQ (.inr rfl) rfl rfl ?_)
  exact ⟨r, rfl, rfl, rfl⟩

theorem newb_no {x : B.X} (h1 : fails < 1 ∨ 1048576 < fails ∨ wait < 1 ∨ 1099511627776 < wait) :
    Tr Try.prog B 16 [.int .u64 (fails : Nat), .int .u64 (wait : Nat)] L x fun v L' x' => v = .tuple #[.pointer none, .int .i64 2] ∧ L' = L ∧ x' = x := by
  by_cases c : fails < 1
  · refine tr_of_body Try.func16 rfl Try.ntmps16 (by simp) fun um Q hQ => ?_
    simp only [argE, Nat.zero_add, Nat.reduceAdd]
    repeat (first
      | (apply wo_po; apply mo_bin; exact rfl; exact rfl; apply bin_lssT; omega; (first | exact trivial | exact rfl))
      | refine we_seq ?_
      | (refine we_region _ rfl rfl ?_; simp only [opsOf, List.map_cons, List.map_nil, Option.map_none, Option.map_some, List.getElem?_toArray, List.getElem?_cons_zero, List.getElem?_cons_succ, Option.bind_some, Option.getD_some])
      | refine wo_nil ?_
      | (apply wo_po; apply mo_move; exact rfl; (first | exact trivial | exact rfl))
      | (apply wo_po; apply mo_assign; exact rfl; (first | exact trivial | exact rfl))
      | (apply wo_no; exact rfl)
      | (apply wo_po; apply mo_pickT; exact rfl; exact rfl; exact rfl; (first | exact trivial | exact rfl))
      | (apply we_condT; exact rfl; (first | exact rfl | (simp <;> omega) | omega))
      | refine we_ret ?_)
    (first | refine at_ret2 (ex := .ret) Try.func16 Try.results16 hQ (.inl rfl) rfl rfl ?_ | refine at_ret2 (ex := .normal) Try.func16 Try.results16 hQ (.inr rfl) rfl rfl ?_)
    exact ⟨rfl, rfl, rfl⟩
  by_cases c : 1048576 < fails
  · refine tr_of_body Try.func16 rfl Try.ntmps16 (by simp) fun um Q hQ => ?_
    simp only [argE, Nat.zero_add, Nat.reduceAdd]
    repeat (first
      | (apply wo_po; apply mo_bin; exact rfl; exact rfl; apply bin_lssF; omega; (first | exact trivial | exact rfl))
      | (apply wo_po; apply mo_bin; exact rfl; exact rfl; apply bin_gtrT; omega; (first | exact trivial | exact rfl))
      | refine we_seq ?_
      | (refine we_region _ rfl rfl ?_; simp only [opsOf, List.map_cons, List.map_nil, Option.map_none, Option.map_some, List.getElem?_toArray, List.getElem?_cons_zero, List.getElem?_cons_succ, Option.bind_some, Option.getD_some])
      | refine wo_nil ?_
      | (apply wo_po; apply mo_move; exact rfl; (first | exact trivial | exact rfl))
      | (apply wo_po; apply mo_assign; exact rfl; (first | exact trivial | exact rfl))
      | (apply wo_no; exact rfl)
      | (apply wo_po; apply mo_pickT; exact rfl; exact rfl; exact rfl; (first | exact trivial | exact rfl))
      | (apply wo_po; apply mo_pickF; exact rfl; exact rfl; exact rfl; (first | exact trivial | exact rfl))
      | (apply we_condT; exact rfl; (first | exact rfl | (simp <;> omega) | omega))
      | refine we_ret ?_)
    (first | refine at_ret2 (ex := .ret) Try.func16 Try.results16 hQ (.inl rfl) rfl rfl ?_ | refine at_ret2 (ex := .normal) Try.func16 Try.results16 hQ (.inr rfl) rfl rfl ?_)
    exact ⟨rfl, rfl, rfl⟩
  by_cases c : wait < 1
  · refine tr_of_body Try.func16 rfl Try.ntmps16 (by simp) fun um Q hQ => ?_
    simp only [argE, Nat.zero_add, Nat.reduceAdd]
    repeat (first
      | (apply wo_po; apply mo_bin; exact rfl; exact rfl; apply bin_lssT; omega; (first | exact trivial | exact rfl))
      | (apply wo_po; apply mo_bin; exact rfl; exact rfl; apply bin_lssF; omega; (first | exact trivial | exact rfl))
      | (apply wo_po; apply mo_bin; exact rfl; exact rfl; apply bin_gtrF; omega; (first | exact trivial | exact rfl))
      | refine we_seq ?_
      | (refine we_region _ rfl rfl ?_; simp only [opsOf, List.map_cons, List.map_nil, Option.map_none, Option.map_some, List.getElem?_toArray, List.getElem?_cons_zero, List.getElem?_cons_succ, Option.bind_some, Option.getD_some])
      | refine wo_nil ?_
      | (apply wo_po; apply mo_move; exact rfl; (first | exact trivial | exact rfl))
      | (apply wo_po; apply mo_assign; exact rfl; (first | exact trivial | exact rfl))
      | (apply wo_no; exact rfl)
      | (apply wo_po; apply mo_pickT; exact rfl; exact rfl; exact rfl; (first | exact trivial | exact rfl))
      | (apply wo_po; apply mo_pickF; exact rfl; exact rfl; exact rfl; (first | exact trivial | exact rfl))
      | (apply we_condT; exact rfl; (first | exact rfl | (simp <;> omega) | omega))
      | refine we_ret ?_)
    (first | refine at_ret2 (ex := .ret) Try.func16 Try.results16 hQ (.inl rfl) rfl rfl ?_ | refine at_ret2 (ex := .normal) Try.func16 Try.results16 hQ (.inr rfl) rfl rfl ?_)
    exact ⟨rfl, rfl, rfl⟩
  · refine tr_of_body Try.func16 rfl Try.ntmps16 (by simp) fun um Q hQ => ?_
    simp only [argE, Nat.zero_add, Nat.reduceAdd]
    repeat (first
      | (apply wo_po; apply mo_bin; exact rfl; exact rfl; apply bin_lssF; omega; (first | exact trivial | exact rfl))
      | (apply wo_po; apply mo_bin; exact rfl; exact rfl; apply bin_gtrT; omega; (first | exact trivial | exact rfl))
      | (apply wo_po; apply mo_bin; exact rfl; exact rfl; apply bin_gtrF; omega; (first | exact trivial | exact rfl))
      | refine we_seq ?_
      | (refine we_region _ rfl rfl ?_; simp only [opsOf, List.map_cons, List.map_nil, Option.map_none, Option.map_some, List.getElem?_toArray, List.getElem?_cons_zero, List.getElem?_cons_succ, Option.bind_some, Option.getD_some])
      | refine wo_nil ?_
      | (apply wo_po; apply mo_move; exact rfl; (first | exact trivial | exact rfl))
      | (apply wo_po; apply mo_assign; exact rfl; (first | exact trivial | exact rfl))
      | (apply wo_po; apply mo_pickF; exact rfl; exact rfl; exact rfl; (first | exact trivial | exact rfl))
      | (apply we_condT; exact rfl; (first | exact rfl | (simp <;> omega) | omega))
      | refine we_ret ?_)
    (first | refine at_ret2 (ex := .ret) Try.func16 Try.results16 hQ (.inl rfl) rfl rfl ?_ | refine at_ret2 (ex := .normal) Try.func16 Try.results16 hQ (.inr rfl) rfl rfl ?_)
    exact ⟨rfl, rfl, rfl⟩
end
end Go.Proofs.Ytnnpdmhmpgmpnaa
