/-
  A MIRROR's functions, over whatever access to its words.
-/
import Derived.Test.YtmkkanmkjfnpdaaQueueN
import Derived.Test.YtmkkanmkjfnpdaaWith
import Derived.Test.YtmkkanmkjfnpdaaCh
set_option linter.unusedVariables false
set_option linter.unusedSimpArgs false
namespace Go.Proofs.Ytmkkanmkjfnpdaa
open Go Go.PB
attribute [local irreducible] Mo Bin Eql Tr Wo Ap Wle

/-- the channel that tells a Pump -/
def newsC (nc : Nat) : HProp := fun h => ∃ y : Array Value × Nat × Nat, chC nc 1 y.1 y.2.1 y.2.2 h

/-- a mirror's words, queue and channel, as an access reaches them -/
structure MirAt {B : Hand} {gv : Value} (A : Acc B gv) (mr r b n k nc : Nat) : Prop where
  q : QueueAt A r b n k
  hq : ∀ s, Rd [A.C s] mr 3 (.pointer (some ⟨r, 0, none⟩))
  hc : ∀ s, Rd [A.C s] mr 4 (.chan (some nc))
  a : ∀ j, j < 3 → A.addr (2 * n + 2 + j) = (mr, j)
  news : ∃ Rs : A.S → HProp, (∀ s h, A.C s h → Star [newsC nc, Rs s] h) ∧ ∀ s h, Star [newsC nc, Rs s] h → A.C s h

section
variable {B : Hand} {gv : Value}
/-- WHAT Offer, Take, Counts DO -/
def OfferT (A : Acc B gv) (n v : Nat) (s : A.S) (Q : Bool → A.S → Prop) : Prop :=
  A.step 3 0 s fun s => A.add (2 * n + 2 + 0) 1 s fun _ s => PutT A n v s fun q s => if q = true then Q true s else A.step 3 1 s fun s => A.add (2 * n + 2 + 1) 1 s fun _ s => Q false s
def MTakeT (A : Acc B gv) (n : Nat) (s : A.S) (Q : Option Nat → A.S → Prop) : Prop :=
  TakeT A n s fun o s => match o with
    | some v => A.step 3 2 s fun s => A.add (2 * n + 2 + 2) 1 s fun _ s => Q (some v) s
    | none => Q none s
def Cnt2 (A : Acc B gv) (n : Nat) (Q : Nat → Nat → Nat → A.S → Prop) (a b : Nat) (s : A.S) : Prop := A.step 1 2 s fun s => A.load (2 * n + 2 + 2) s fun c s => Q a b c s
def Cnt1 (A : Acc B gv) (n : Nat) (Q : Nat → Nat → Nat → A.S → Prop) (a : Nat) (s : A.S) : Prop := A.step 1 1 s fun s => A.load (2 * n + 2 + 1) s fun b s => Cnt2 A n Q a b s
def CountsT (A : Acc B gv) (n : Nat) (s : A.S) (Q : Nat → Nat → Nat → A.S → Prop) : Prop := A.step 1 0 s fun s => A.load (2 * n + 2 + 0) s fun a s => Cnt1 A n Q a s
end

section
variable {B : Hand} [Lets B] {gv : Value} {A : Acc B gv} {mr r b n k nc : Nat} {L F : List HProp}

theorem mstep_tr {op : Int} {w : Nat} {s : A.S} {T : A.S → Prop} (hs : A.step op w s T) (hh : Has L (A.C s) F) :
    Tr Try.prog B 47 [gv, .int .u8 op, .int .i64 w] L (A.x s) fun v L' x' => ∃ s', T s' ∧ v = .tuple #[] ∧ L' = A.C s' :: F ∧ x' = A.x s' := by
  rcases A.gate with ⟨rfl, hg⟩ | ⟨t, p, f, rfl, hm, he, hg⟩
  · refine tr_of_body Try.func47 rfl Try.ntmps47 (by simp) fun um Q hQ => ?_
    simp only [argE, Nat.zero_add, Nat.reduceAdd]
    repeat (first
      | refine we_seq ?_
      | (refine we_region _ rfl rfl ?_; simp only [opsOf, List.map_cons, List.map_nil, Option.map_none, Option.map_some, List.getElem?_toArray, List.getElem?_cons_zero, List.getElem?_cons_succ, Option.bind_some, Option.getD_some])
      | refine wo_nil ?_
      | (apply wo_po; apply mo_move; exact rfl; (first | exact trivial | exact rfl))
      | (apply wo_po; apply mo_bin; exact rfl; exact rfl; apply bin_ne; apply eql_nil_nil; (first | exact trivial | exact rfl))
      | (apply we_condF; exact rfl; (first | exact rfl | (simp <;> omega) | omega))
      | refine we_skip ?_)
    refine at_ent _ (Ent.take hh .refl) ?_
    (first | refine at_ret0 (ex := .ret) Try.func47 Try.results47 hQ (.inl rfl) ?_ | refine at_ret0 (ex := .normal) Try.func47 Try.results47 hQ (.inr rfl) ?_)
    exact ⟨s, hg _ _ _ _ hs, rfl, rfl, rfl⟩
  · refine tr_of_body Try.func47 rfl Try.ntmps47 (by simp) fun um Q hQ => ?_
    simp only [argE, Nat.zero_add, Nat.reduceAdd]
    repeat (first
      | (apply wo_po; apply mo_build (pv := [(0, _), (1, _)]); exact rfl; exact .cons rfl (.cons rfl .nil); exact rfl; exact trivial)
      | refine we_seq ?_
      | (refine we_region _ rfl rfl ?_; simp only [opsOf, List.map_cons, List.map_nil, Option.map_none, Option.map_some, List.getElem?_toArray, List.getElem?_cons_zero, List.getElem?_cons_succ, Option.bind_some, Option.getD_some])
      | refine wo_nil ?_
      | (apply wo_po; apply mo_move; exact rfl; (first | exact trivial | exact rfl))
      | (apply wo_po; apply mo_bin; exact rfl; exact rfl; apply bin_ne; apply eql_iface_nil; (first | exact trivial | exact rfl))
      | (apply we_condT; exact rfl; (first | exact rfl | (simp <;> omega) | omega)))
    refine wo_invoke (args := [_]) rfl (.cons rfl .nil) trivial (hg op w s T L F hs hh) ?_
    rintro v L' x' ⟨s', h1, rfl, rfl, rfl⟩
    repeat (first
      | refine wo_nil ?_)
    (first | refine at_ret0 (ex := .ret) Try.func47 Try.results47 hQ (.inl rfl) ?_ | refine at_ret0 (ex := .normal) Try.func47 Try.results47 hQ (.inr rfl) ?_)
    exact ⟨s', h1, rfl, rfl, rfl⟩

theorem mthere_tr (R : MirAt A mr r b n k nc) {s : A.S} (hh : Has L (A.C s) F) : Tr Try.prog B 43 [.pointer (some ⟨mr, 0, none⟩)] L (A.x s) fun v L' x' => v = .bool true ∧ L' = L ∧ x' = A.x s := by
  have hr := Rd.of hh (R.hq s)
  refine tr_of_body Try.func43 rfl Try.ntmps43 (by simp) fun um Q hQ => ?_
  simp only [argE, Nat.zero_add, Nat.reduceAdd]
  repeat (first
    | (apply wo_po; apply mo_load; exact rfl; exact hr; (first | exact trivial | exact rfl))
    | refine we_seq ?_
    | (refine we_region _ rfl rfl ?_; simp only [opsOf, List.map_cons, List.map_nil, Option.map_none, Option.map_some, List.getElem?_toArray, List.getElem?_cons_zero, List.getElem?_cons_succ, Option.bind_some, Option.getD_some])
    | refine wo_nil ?_
    | (apply wo_po; apply mo_move; exact rfl; (first | exact trivial | exact rfl))
    | (apply wo_po; apply mo_assign; exact rfl; (first | exact trivial | exact rfl))
    | (apply wo_po; apply mo_pickT; exact rfl; exact rfl; exact rfl; (first | exact trivial | exact rfl))
    | (apply wo_po; apply mo_nilCheck; exact rfl; (first | exact trivial | exact rfl))
    | (apply wo_po; apply mo_fieldAddr; exact rfl; exact rfl; (first | exact Nat.zero_add _ | exact rfl); (first | exact trivial | exact rfl))
    | (apply wo_po; apply mo_bin; exact rfl; exact rfl; apply bin_ne; apply eql_ptr_nil; (first | exact trivial | exact rfl))
    | refine we_ret ?_)
  (first | refine at_ret1 (ex := .ret) Try.func43 Try.results43 hQ (.inl rfl) rfl ?_ | refine at_ret1 (ex := .normal) Try.func43 Try.results43 hQ (.inr rfl) rfl ?_)
  exact ⟨rfl, rfl, rfl⟩
theorem mthere_nil {x : B.X} : Tr Try.prog B 43 [.pointer none] L x fun v L' x' => v = .bool false ∧ L' = L ∧ x' = x := by
  refine tr_of_body Try.func43 rfl Try.ntmps43 (by simp) fun um Q hQ => ?_
  simp only [argE, Nat.zero_add, Nat.reduceAdd]
  repeat (first
    | refine we_seq ?_
    | (refine we_region _ rfl rfl ?_; simp only [opsOf, List.map_cons, List.map_nil, Option.map_none, Option.map_some, List.getElem?_toArray, List.getElem?_cons_zero, List.getElem?_cons_succ, Option.bind_some, Option.getD_some])
    | refine wo_nil ?_
    | (apply wo_po; apply mo_move; exact rfl; (first | exact trivial | exact rfl))
    | (apply wo_po; apply mo_assign; exact rfl; (first | exact trivial | exact rfl))
    | (apply wo_no; exact rfl)
    | (apply wo_po; apply mo_pickF; exact rfl; exact rfl; exact rfl; (first | exact trivial | exact rfl))
    | (apply wo_po; apply mo_bin; exact rfl; exact rfl; apply bin_ne; apply eql_ptr_nil; (first | exact trivial | exact rfl))
    | refine we_ret ?_)
  (first | refine at_ret1 (ex := .ret) Try.func43 Try.results43 hQ (.inl rfl) rfl ?_ | refine at_ret1 (ex := .normal) Try.func43 Try.results43 hQ (.inr rfl) rfl ?_)
  exact ⟨rfl, rfl, rfl⟩
theorem mthere_empty {x : B.X} (hr : Rd L mr 3 (.pointer none)) : Tr Try.prog B 43 [.pointer (some ⟨mr, 0, none⟩)] L x fun v L' x' => v = .bool false ∧ L' = L ∧ x' = x := by
  refine tr_of_body Try.func43 rfl Try.ntmps43 (by simp) fun um Q hQ => ?_
  simp only [argE, Nat.zero_add, Nat.reduceAdd]
  repeat (first
    | (apply wo_po; apply mo_load; exact rfl; exact hr; (first | exact trivial | exact rfl))
    | refine we_seq ?_
    | (refine we_region _ rfl rfl ?_; simp only [opsOf, List.map_cons, List.map_nil, Option.map_none, Option.map_some, List.getElem?_toArray, List.getElem?_cons_zero, List.getElem?_cons_succ, Option.bind_some, Option.getD_some])
    | refine wo_nil ?_
    | (apply wo_po; apply mo_move; exact rfl; (first | exact trivial | exact rfl))
    | (apply wo_po; apply mo_assign; exact rfl; (first | exact trivial | exact rfl))
    | (apply wo_po; apply mo_pickT; exact rfl; exact rfl; exact rfl; (first | exact trivial | exact rfl))
    | (apply wo_po; apply mo_nilCheck; exact rfl; (first | exact trivial | exact rfl))
    | (apply wo_po; apply mo_fieldAddr; exact rfl; exact rfl; (first | exact Nat.zero_add _ | exact rfl); (first | exact trivial | exact rfl))
    | (apply wo_po; apply mo_bin; exact rfl; exact rfl; apply bin_ne; apply eql_ptr_nil; (first | exact trivial | exact rfl))
    | refine we_ret ?_)
  (first | refine at_ret1 (ex := .ret) Try.func43 Try.results43 hQ (.inl rfl) rfl ?_ | refine at_ret1 (ex := .normal) Try.func43 Try.results43 hQ (.inr rfl) rfl ?_)
  exact ⟨rfl, rfl, rfl⟩

theorem mcount_tr (R : MirAt A mr r b n k nc) {j : Nat} (hj : j < 3) {s : A.S} {T : A.S → Prop} (hs : A.step 3 j s fun s => A.add (2 * n + 2 + j) 1 s fun _ s => T s) (hh : Has L (A.C s) F) :
    Tr Try.prog B 44 [.pointer (some ⟨mr, 0, none⟩), gv, .int .i64 (j : Nat)] L (A.x s) fun v L' x' => ∃ s', T s' ∧ v = .tuple #[] ∧ L' = A.C s' :: F ∧ x' = A.x s' := by
  refine tr_of_body Try.func44 rfl Try.ntmps44 (by simp) fun um Q hQ => ?_
  simp only [argE, Nat.zero_add, Nat.reduceAdd]
  repeat (first
    | refine we_seq ?_
    | (refine we_region _ rfl rfl ?_; simp only [opsOf, List.map_cons, List.map_nil, Option.map_none, Option.map_some, List.getElem?_toArray, List.getElem?_cons_zero, List.getElem?_cons_succ, Option.bind_some, Option.getD_some])
    | (apply wo_po; apply mo_move; exact rfl; (first | exact trivial | exact rfl)))
  refine wo_call (.cons rfl (.cons rfl (.cons rfl .nil))) trivial (mstep_tr hs hh) ?_
  rintro v1 L1 x1 ⟨s1, h1, rfl, rfl, rfl⟩
  repeat (first
    | (apply wo_po; apply mo_indexArr (r := j); exact rfl; exact rfl; omega; omega; omega; exact trivial)
    | (refine we_region _ rfl rfl ?_; simp only [opsOf, List.map_cons, List.map_nil, Option.map_none, Option.map_some, List.getElem?_toArray, List.getElem?_cons_zero, List.getElem?_cons_succ, Option.bind_some, Option.getD_some])
    | refine wo_nil ?_
    | (apply wo_po; apply mo_move; exact rfl; (first | exact trivial | exact rfl))
    | (apply wo_po; apply mo_nilCheck; exact rfl; (first | exact trivial | exact rfl))
    | (apply wo_po; apply mo_fieldAddr; exact rfl; exact rfl; (first | exact Nat.zero_add _ | exact rfl); (first | exact trivial | exact rfl)))
  refine wo_call (.cons rfl (.cons rfl .nil)) trivial (A.add_ok _ 1 _ _ _ _ _ _ (R.a j hj) (by omega) h1 .here) ?_
  rintro v1 L1 x1 ⟨m, s2, hm, h2, rfl, rfl, rfl⟩
  repeat (first
    | refine wo_nil ?_)
  (first | refine at_ret0 (ex := .ret) Try.func44 Try.results44 hQ (.inl rfl) ?_ | refine at_ret0 (ex := .normal) Try.func44 Try.results44 hQ (.inr rfl) ?_)
  exact ⟨s2, h2, rfl, rfl, rfl⟩

theorem moffer_tr [Chans B] (R : MirAt A mr r b n k nc) {v : Nat} (hv : v < 18446744073709551616) {s : A.S} {Q : Bool → A.S → Prop} (hs : OfferT A n v s Q) (hh : Has L (A.C s) F) :
    Tr Try.prog B 19 [.pointer (some ⟨mr, 0, none⟩), gv, .int .u64 (v : Nat)] L (A.x s) fun w L' x' => ∃ q s', Q q s' ∧ w = .tuple #[.bool q, .int .i64 0] ∧ L' = A.C s' :: F ∧ x' = A.x s' := by
  refine Tr.post (R := fun w L' x' => ∃ q s', Q q s' ∧ w = .tuple #[.bool q, .int .i64 0] ∧ x' = A.x s' ∧ ∀ h, Star L' h → Star (A.C s' :: F) h) ?_
    (by rintro w L' x' ⟨q, s', h1, rfl, rfl, h2⟩; exact ⟨_, ⟨q, s', h1, rfl, rfl, rfl⟩, h2⟩)
  refine tr_of_body Try.func19 rfl Try.ntmps19 (by simp) fun um Q hQ => ?_
  simp only [argE, Nat.zero_add, Nat.reduceAdd]
  repeat (first
    | refine we_seq ?_
    | (refine we_region _ rfl rfl ?_; simp only [opsOf, List.map_cons, List.map_nil, Option.map_none, Option.map_some, List.getElem?_toArray, List.getElem?_cons_zero, List.getElem?_cons_succ, Option.bind_some, Option.getD_some])
    | refine wo_nil ?_
    | (apply wo_po; apply mo_move; exact rfl; (first | exact trivial | exact rfl))
    | (apply wo_po; apply mo_assign; exact rfl; (first | exact trivial | exact rfl)))
  refine wo_call (.cons rfl .nil) trivial (mthere_tr R hh) ?_
  rintro v1 L1 x1 ⟨rfl, rfl, rfl⟩
  repeat (first
    | refine we_seq ?_
    | (refine we_region _ rfl rfl ?_; simp only [opsOf, List.map_cons, List.map_nil, Option.map_none, Option.map_some, List.getElem?_toArray, List.getElem?_cons_zero, List.getElem?_cons_succ, Option.bind_some, Option.getD_some])
    | refine wo_nil ?_
    | (apply wo_po; apply mo_move; exact rfl; (first | exact trivial | exact rfl))
    | (apply wo_po; apply mo_not; exact rfl; (first | exact trivial | exact rfl))
    | (apply we_condF; exact rfl; (first | exact rfl | (simp <;> omega) | omega))
    | refine we_skip ?_)
  refine wo_call (.cons rfl (.cons rfl (.cons rfl .nil))) trivial (mcount_tr (j := 0) R (by omega) hs hh) ?_
  rintro v1 L1 x1 ⟨s1, h1, rfl, rfl, rfl⟩
  have hr := Rd.of (L := A.C s1 :: F) .here (R.hq s1)
  repeat (first
    | (apply wo_po; apply mo_load; exact rfl; exact hr; (first | exact trivial | exact rfl))
    | refine we_seq ?_
    | (refine we_region _ rfl rfl ?_; simp only [opsOf, List.map_cons, List.map_nil, Option.map_none, Option.map_some, List.getElem?_toArray, List.getElem?_cons_zero, List.getElem?_cons_succ, Option.bind_some, Option.getD_some])
    | refine wo_nil ?_
    | (apply wo_po; apply mo_move; exact rfl; (first | exact trivial | exact rfl))
    | (apply wo_po; apply mo_nilCheck; exact rfl; (first | exact trivial | exact rfl))
    | (apply wo_po; apply mo_fieldAddr; exact rfl; exact rfl; (first | exact Nat.zero_add _ | exact rfl); (first | exact trivial | exact rfl)))
  refine wo_call (.cons rfl (.cons rfl (.cons rfl .nil))) trivial (put_tr R.q hv h1 .here) ?_
  rintro v1 L1 x1 ⟨q, s2, h2, rfl, rfl, rfl⟩
  cases q with
  | false =>
    rw [if_neg (by decide)] at h2
    repeat (first
      | refine we_seq ?_
      | (refine we_region _ rfl rfl ?_; simp only [opsOf, List.map_cons, List.map_nil, Option.map_none, Option.map_some, List.getElem?_toArray, List.getElem?_cons_zero, List.getElem?_cons_succ, Option.bind_some, Option.getD_some])
      | refine wo_nil ?_
      | (apply wo_po; apply mo_move; exact rfl; (first | exact trivial | exact rfl))
      | (apply wo_po; apply mo_assign; exact rfl; (first | exact trivial | exact rfl))
      | (apply wo_po; apply mo_extract; exact rfl; exact rfl; (first | exact trivial | exact rfl))
      | (apply wo_po; apply mo_not; exact rfl; (first | exact trivial | exact rfl))
      | (apply we_condT; exact rfl; (first | exact rfl | (simp <;> omega) | omega)))
    refine wo_call (.cons rfl (.cons rfl (.cons rfl .nil))) trivial (mcount_tr (j := 1) R (by omega) h2 .here) ?_
    rintro v1 L1 x1 ⟨s3, h3, rfl, rfl, rfl⟩
    repeat (first
      | refine we_seq ?_
      | (refine we_region _ rfl rfl ?_; simp only [opsOf, List.map_cons, List.map_nil, Option.map_none, Option.map_some, List.getElem?_toArray, List.getElem?_cons_zero, List.getElem?_cons_succ, Option.bind_some, Option.getD_some])
      | refine wo_nil ?_
      | (apply wo_po; apply mo_move; exact rfl; (first | exact trivial | exact rfl))
      | (apply wo_po; apply mo_assign; exact rfl; (first | exact trivial | exact rfl))
      | refine we_ret ?_)
    (first | refine at_ret2 (ex := .ret) Try.func19 Try.results19 hQ (.inl rfl) rfl rfl ?_ | refine at_ret2 (ex := .normal) Try.func19 Try.results19 hQ (.inr rfl) rfl rfl ?_)
    exact ⟨false, s3, h3, rfl, rfl, fun _ st => st⟩
  | true =>
    rw [if_pos rfl] at h2
    have hr2 := Rd.of (L := A.C s2 :: F) .here (R.hc s2)
    repeat (first
      | (apply wo_po; apply mo_load; exact rfl; exact hr2; (first | exact trivial | exact rfl))
      | (apply wo_po; apply mo_build (pv := []); exact rfl; exact .nil; exact rfl; exact trivial)
      | refine we_seq ?_
      | (refine we_region _ rfl rfl ?_; simp only [opsOf, List.map_cons, List.map_nil, Option.map_none, Option.map_some, List.getElem?_toArray, List.getElem?_cons_zero, List.getElem?_cons_succ, Option.bind_some, Option.getD_some])
      | refine wo_nil ?_
      | (apply wo_po; apply mo_move; exact rfl; (first | exact trivial | exact rfl))
      | (apply wo_po; apply mo_assign; exact rfl; (first | exact trivial | exact rfl))
      | (apply wo_po; apply mo_nilCheck; exact rfl; (first | exact trivial | exact rfl))
      | (apply wo_po; apply mo_fieldAddr; exact rfl; exact rfl; (first | exact Nat.zero_add _ | exact rfl); (first | exact trivial | exact rfl))
      | (apply wo_po; apply mo_extract; exact rfl; exact rfl; (first | exact trivial | exact rfl))
      | (apply wo_po; apply mo_not; exact rfl; (first | exact trivial | exact rfl))
      | (apply we_condF; exact rfl; (first | exact rfl | (simp <;> omega) | omega))
      | refine we_skip ?_)
    obtain ⟨Rs, hop, hsh⟩ := R.news
    refine wo_star (newsC nc :: Rs s2 :: F) (fun h st => star_open (M := [newsC nc, Rs s2]) (star_map st (fun h a => hop s2 h a) (fun _ y => y))) ?_
    refine wo_ex .here fun y => ?_
    refine wo_try rfl rfl trivial .here (fun hlt => ?_) (fun hle => ?_)
    · repeat (first
        | refine we_seq ?_
        | (refine we_region _ rfl rfl ?_; simp only [opsOf, List.map_cons, List.map_nil, Option.map_none, Option.map_some, List.getElem?_toArray, List.getElem?_cons_zero, List.getElem?_cons_succ, Option.bind_some, Option.getD_some])
        | refine wo_nil ?_
        | (apply wo_po; apply mo_assign; exact rfl; (first | exact trivial | exact rfl))
        | (apply wo_po; apply mo_extract; exact rfl; exact rfl; (first | exact trivial | exact rfl))
        | (apply wo_po; apply mo_bin; exact rfl; exact rfl; exact bin_eql; (first | exact trivial | exact rfl))
        | (apply we_condT; exact rfl; (first | exact rfl | (simp <;> omega) | omega))
        | refine we_ret ?_
        | refine we_skip ?_
        | refine we_block ?_)
      (first | refine at_ret2 (ex := .ret) Try.func19 Try.results19 hQ (.inl rfl) rfl rfl ?_ | refine at_ret2 (ex := .normal) Try.func19 Try.results19 hQ (.inr rfl) rfl rfl ?_)
      exact ⟨true, s2, h2, rfl, rfl, fun h st => star_map (star_shut (M := [newsC nc, Rs s2]) (star_map st (fun h a => ⟨(_, _, _), a⟩) (fun _ y => y))) (fun h a => hsh s2 h a) (fun _ y => y)⟩
    · repeat (first
        | refine we_seq ?_
        | (refine we_region _ rfl rfl ?_; simp only [opsOf, List.map_cons, List.map_nil, Option.map_none, Option.map_some, List.getElem?_toArray, List.getElem?_cons_zero, List.getElem?_cons_succ, Option.bind_some, Option.getD_some])
        | refine wo_nil ?_
        | (apply wo_po; apply mo_assign; exact rfl; (first | exact trivial | exact rfl))
        | (apply wo_po; apply mo_extract; exact rfl; exact rfl; (first | exact trivial | exact rfl))
        | (apply wo_po; apply mo_bin; exact rfl; exact rfl; exact bin_eql; (first | exact trivial | exact rfl))
        | (apply we_condF; exact rfl; (first | exact rfl | (simp <;> omega) | omega))
        | refine we_ret ?_
        | refine we_skip ?_
        | refine we_block ?_)
      (first | refine at_ret2 (ex := .ret) Try.func19 Try.results19 hQ (.inl rfl) rfl rfl ?_ | refine at_ret2 (ex := .normal) Try.func19 Try.results19 hQ (.inr rfl) rfl rfl ?_)
      exact ⟨true, s2, h2, rfl, rfl, fun h st => star_map (star_shut (M := [newsC nc, Rs s2]) (star_map st (fun h a => ⟨y, a⟩) (fun _ y => y))) (fun h a => hsh s2 h a) (fun _ y => y)⟩

theorem mtake_tr (R : MirAt A mr r b n k nc) {s : A.S} {Q : Option Nat → A.S → Prop} (hs : MTakeT A n s Q) (hh : Has L (A.C s) F) :
    Tr Try.prog B 20 [.pointer (some ⟨mr, 0, none⟩), gv] L (A.x s) fun w L' x' => ∃ q s', Q q s' ∧ q.getD 0 < 18446744073709551616 ∧ w = .tuple #[.int .u64 (q.getD 0 : Nat), .bool q.isSome, .int .i64 0] ∧ L' = A.C s' :: F ∧ x' = A.x s' := by
  refine tr_of_body Try.func20 rfl Try.ntmps20 (by simp) fun um Q hQ => ?_
  simp only [argE, Nat.zero_add, Nat.reduceAdd]
  repeat (first
    | refine we_seq ?_
    | (refine we_region _ rfl rfl ?_; simp only [opsOf, List.map_cons, List.map_nil, Option.map_none, Option.map_some, List.getElem?_toArray, List.getElem?_cons_zero, List.getElem?_cons_succ, Option.bind_some, Option.getD_some])
    | refine wo_nil ?_
    | (apply wo_po; apply mo_move; exact rfl; (first | exact trivial | exact rfl))
    | (apply wo_po; apply mo_assign; exact rfl; (first | exact trivial | exact rfl)))
  refine wo_call (.cons rfl .nil) trivial (mthere_tr R hh) ?_
  rintro v1 L1 x1 ⟨rfl, rfl, rfl⟩
  have hr := Rd.of hh (R.hq s)
  repeat (first
    | (apply wo_po; apply mo_load; exact rfl; exact hr; (first | exact trivial | exact rfl))
    | refine we_seq ?_
    | (refine we_region _ rfl rfl ?_; simp only [opsOf, List.map_cons, List.map_nil, Option.map_none, Option.map_some, List.getElem?_toArray, List.getElem?_cons_zero, List.getElem?_cons_succ, Option.bind_some, Option.getD_some])
    | refine wo_nil ?_
    | (apply wo_po; apply mo_move; exact rfl; (first | exact trivial | exact rfl))
    | (apply wo_po; apply mo_nilCheck; exact rfl; (first | exact trivial | exact rfl))
    | (apply wo_po; apply mo_fieldAddr; exact rfl; exact rfl; (first | exact Nat.zero_add _ | exact rfl); (first | exact trivial | exact rfl))
    | (apply wo_po; apply mo_not; exact rfl; (first | exact trivial | exact rfl))
    | (apply we_condF; exact rfl; (first | exact rfl | (simp <;> omega) | omega))
    | refine we_skip ?_)
  refine wo_call (.cons rfl (.cons rfl .nil)) trivial (take_tr R.q hs hh) ?_
  rintro v1 L1 x1 ⟨q, s2, h2, hlt, rfl, rfl, rfl⟩
  cases q with
  | none =>
    repeat (first
      | refine we_seq ?_
      | (refine we_region _ rfl rfl ?_; simp only [opsOf, List.map_cons, List.map_nil, Option.map_none, Option.map_some, List.getElem?_toArray, List.getElem?_cons_zero, List.getElem?_cons_succ, Option.bind_some, Option.getD_some])
      | refine wo_nil ?_
      | (apply wo_po; apply mo_move; exact rfl; (first | exact trivial | exact rfl))
      | (apply wo_po; apply mo_assign; exact rfl; (first | exact trivial | exact rfl))
      | (apply wo_po; apply mo_extract; exact rfl; exact rfl; (first | exact trivial | exact rfl))
      | (apply we_condF; exact rfl; (first | exact rfl | (simp <;> omega) | omega))
      | refine we_ret ?_
      | refine we_skip ?_)
    (first | refine at_ret3 (ex := .ret) Try.func20 Try.results20 hQ (.inl rfl) rfl rfl rfl ?_ | refine at_ret3 (ex := .normal) Try.func20 Try.results20 hQ (.inr rfl) rfl rfl rfl ?_)
    exact ⟨none, s2, h2, hlt, rfl, rfl, rfl⟩
  | some y =>
    repeat (first
      | refine we_seq ?_
      | (refine we_region _ rfl rfl ?_; simp only [opsOf, List.map_cons, List.map_nil, Option.map_none, Option.map_some, List.getElem?_toArray, List.getElem?_cons_zero, List.getElem?_cons_succ, Option.bind_some, Option.getD_some])
      | refine wo_nil ?_
      | (apply wo_po; apply mo_move; exact rfl; (first | exact trivial | exact rfl))
      | (apply wo_po; apply mo_assign; exact rfl; (first | exact trivial | exact rfl))
      | (apply wo_po; apply mo_extract; exact rfl; exact rfl; (first | exact trivial | exact rfl))
      | (apply we_condT; exact rfl; (first | exact rfl | (simp <;> omega) | omega)))
    refine wo_call (.cons rfl (.cons rfl (.cons rfl .nil))) trivial (mcount_tr (j := 2) R (by omega) h2 .here) ?_
    rintro v1 L1 x1 ⟨s3, h3, rfl, rfl, rfl⟩
    repeat (first
      | refine we_seq ?_
      | (refine we_region _ rfl rfl ?_; simp only [opsOf, List.map_cons, List.map_nil, Option.map_none, Option.map_some, List.getElem?_toArray, List.getElem?_cons_zero, List.getElem?_cons_succ, Option.bind_some, Option.getD_some])
      | refine wo_nil ?_
      | (apply wo_po; apply mo_move; exact rfl; (first | exact trivial | exact rfl))
      | (apply wo_po; apply mo_assign; exact rfl; (first | exact trivial | exact rfl))
      | refine we_ret ?_)
    (first | refine at_ret3 (ex := .ret) Try.func20 Try.results20 hQ (.inl rfl) rfl rfl rfl ?_ | refine at_ret3 (ex := .normal) Try.func20 Try.results20 hQ (.inr rfl) rfl rfl rfl ?_)
    exact ⟨some y, s3, h3, hlt, rfl, rfl, rfl⟩

/-- ahead of a round of Counts -/
def cntInv (A : Acc B gv) (mr n tb : Nat) (F : List HProp) (Q : Nat → Nat → Nat → A.S → Prop) : Inv (Nat × Nat × Nat × Nat × A.S) B.X where
  e := fun i => [(0, .pointer (some ⟨mr, 0, none⟩)), (1, gv), (8, .pointer (some ⟨tb, 0, none⟩)), (13, .int .i64 (i.1 : Nat))]
  L := fun i => [arr tb 0 [.int .u64 (i.2.1 : Nat), .int .u64 (i.2.2.1 : Nat), .int .u64 (i.2.2.2.1 : Nat)], A.C i.2.2.2.2] ++ F
  x := fun i => A.x i.2.2.2.2
  ok := fun i => (i.1 = 0 ∧ CountsT A n i.2.2.2.2 Q) ∨ (i.1 = 1 ∧ Cnt1 A n Q i.2.1 i.2.2.2.2) ∨ (i.1 = 2 ∧ Cnt2 A n Q i.2.1 i.2.2.1 i.2.2.2.2) ∨ (i.1 = 3 ∧ Q i.2.1 i.2.2.1 i.2.2.2.1 i.2.2.2.2)

set_option maxHeartbeats 4000000 in
theorem mcounts_tr (R : MirAt A mr r b n k nc) {s : A.S} {G : Nat → Nat → Nat → A.S → Prop} (hs : CountsT A n s G) (hh : Has L (A.C s) F) :
    Tr Try.prog B 21 [.pointer (some ⟨mr, 0, none⟩), gv] L (A.x s) fun w L' x' => ∃ a b c s', G a b c s' ∧ w = .tuple #[.int .u64 (a : Nat), .int .u64 (b : Nat), .int .u64 (c : Nat), .int .i64 0] ∧ L' = A.C s' :: F ∧ x' = A.x s' := by
  refine Tr.post (R := fun w L' x' => ∃ a b c s', G a b c s' ∧ w = .tuple #[.int .u64 (a : Nat), .int .u64 (b : Nat), .int .u64 (c : Nat), .int .i64 0] ∧ x' = A.x s' ∧ ∀ h, Star L' h → Star (A.C s' :: F) h) ?_
    (by rintro w L' x' ⟨a, b, c, s', h1, rfl, rfl, h2⟩; exact ⟨_, ⟨a, b, c, s', h1, rfl, rfl, rfl⟩, h2⟩)
  refine tr_of_body Try.func21 rfl Try.ntmps21 (by simp) fun um Q hQ => ?_
  simp only [argE, Nat.zero_add, Nat.reduceAdd]
  repeat (first
    | refine we_seq ?_
    | (refine we_region _ rfl rfl ?_; simp only [opsOf, List.map_cons, List.map_nil, Option.map_none, Option.map_some, List.getElem?_toArray, List.getElem?_cons_zero, List.getElem?_cons_succ, Option.bind_some, Option.getD_some])
    | refine wo_nil ?_
    | (apply wo_po; apply mo_move; exact rfl; (first | exact trivial | exact rfl))
    | (apply wo_po; apply mo_assign; exact rfl; (first | exact trivial | exact rfl)))
  refine wo_call (.cons rfl .nil) trivial (mthere_tr R hh) ?_
  rintro v1 L1 x1 ⟨rfl, rfl, rfl⟩
  repeat (first
    | (apply wo_mo; apply mo_alloc; exact trivial)
    | refine we_seq ?_
    | (refine we_region _ rfl rfl ?_; simp only [opsOf, List.map_cons, List.map_nil, Option.map_none, Option.map_some, List.getElem?_toArray, List.getElem?_cons_zero, List.getElem?_cons_succ, Option.bind_some, Option.getD_some])
    | refine wo_nil ?_
    | (apply wo_po; apply mo_not; exact rfl; (first | exact trivial | exact rfl))
    | (apply we_condF; exact rfl; (first | exact rfl | (simp <;> omega) | omega))
    | refine we_skip ?_)
  rintro v' L' ⟨tb, rfl, rfl⟩
  repeat (first
    | refine we_seq ?_
    | (refine we_region _ rfl rfl ?_; simp only [opsOf, List.map_cons, List.map_nil, Option.map_none, Option.map_some, List.getElem?_toArray, List.getElem?_cons_zero, List.getElem?_cons_succ, Option.bind_some, Option.getD_some])
    | refine wo_nil ?_
    | (apply wo_po; apply mo_move; exact rfl; (first | exact trivial | exact rfl))
    | refine we_block ?_)
  refine we_star ((cntInv A mr n tb F G).L (0, 0, 0, 0, s)) (fun h st => star_map st (fun _ y => y) (fun _ y => hh.star y)) ?_
  refine we_loopN (cntInv A mr n tb F G) (fun i => 3 - i.1) (0, 0, 0, 0, s) (.inl ⟨rfl, hs⟩) ⟨rfl, rfl, rfl, rfl, trivial⟩ .refl rfl ?_
  rintro ⟨i, a, b', c, s1⟩ hok
  dsimp only [cntInv] at hok ⊢
  rcases hok with ⟨rfl, hs1⟩ | ⟨rfl, hs1⟩ | ⟨rfl, hs1⟩ | ⟨rfl, hs1⟩
  · repeat (first
      | (apply wo_po; apply mo_bin; exact rfl; exact rfl; apply bin_lssT; omega; (first | exact trivial | exact rfl))
      | refine we_seq ?_
      | (refine we_region _ rfl rfl ?_; simp only [opsOf, List.map_cons, List.map_nil, Option.map_none, Option.map_some, List.getElem?_toArray, List.getElem?_cons_zero, List.getElem?_cons_succ, Option.bind_some, Option.getD_some])
      | refine wo_nil ?_
      | (apply wo_po; apply mo_move; exact rfl; (first | exact trivial | exact rfl))
      | (apply wo_po; apply mo_assign; exact rfl; (first | exact trivial | exact rfl))
      | (apply we_condT; exact rfl; (first | exact rfl | (simp <;> omega) | omega))
      | refine we_skip ?_
      | refine we_block ?_)
    refine wo_call (.cons rfl (.cons rfl (.cons rfl .nil))) trivial (mstep_tr hs1 (.there .here)) ?_
    rintro v1 L1 x1 ⟨s2, h2, rfl, rfl, rfl⟩
    repeat (first
      | (apply wo_po; apply mo_indexArr (r := 0); exact rfl; exact rfl; omega; omega; omega; exact trivial)
      | (refine we_region _ rfl rfl ?_; simp only [opsOf, List.map_cons, List.map_nil, Option.map_none, Option.map_some, List.getElem?_toArray, List.getElem?_cons_zero, List.getElem?_cons_succ, Option.bind_some, Option.getD_some])
      | refine wo_nil ?_
      | (apply wo_po; apply mo_move; exact rfl; (first | exact trivial | exact rfl))
      | (apply wo_po; apply mo_nilCheck; exact rfl; (first | exact trivial | exact rfl))
      | (apply wo_po; apply mo_fieldAddr; exact rfl; exact rfl; (first | exact Nat.zero_add _ | exact rfl); (first | exact trivial | exact rfl)))
    refine wo_call (.cons rfl .nil) trivial (A.load_ok _ _ _ _ _ _ _ (R.a 0 (by omega)) h2 .here) ?_
    rintro v1 L1 x1 ⟨m, s3, hm, h3, rfl, rfl, rfl⟩
    repeat (first
      | (apply wo_po; apply mo_indexArr (r := 0); exact rfl; exact rfl; omega; omega; omega; exact trivial)
      | (apply wo_pm; apply mo_store; exact rfl; exact rfl; exact rfl; apply Wt.row0; (repeat (first | exact Foc.here | apply Foc.there)); (first | exact Nat.lt_of_sub_eq_succ rfl | omega); (first | exact trivial | exact rfl))
      | (refine we_region _ rfl rfl ?_; simp only [opsOf, List.map_cons, List.map_nil, Option.map_none, Option.map_some, List.getElem?_toArray, List.getElem?_cons_zero, List.getElem?_cons_succ, Option.bind_some, Option.getD_some])
      | refine wo_nil ?_
      | (apply wo_po; apply mo_move; exact rfl; (first | exact trivial | exact rfl))
      | (apply wo_po; apply mo_bin; exact rfl; exact rfl; apply bin_add; exact wrap_i64 (by omega) (by omega); (first | exact trivial | exact rfl)))
    refine at_roundS (I := cntInv A mr n tb F G) (R := fun i' => 3 - i'.1 < 3 - 0) (1, m, b', c, s3) (by show 3 - 1 < 3 - 0; omega) (.inr (.inl ⟨rfl, h3⟩)) ⟨rfl, rfl, rfl, rfl, trivial⟩ (fun h st => ?_) rfl
    exact Ent.star (.take (.there .here) (.take .here .refl)) st
  · repeat (first
      | (apply wo_po; apply mo_bin; exact rfl; exact rfl; apply bin_lssT; omega; (first | exact trivial | exact rfl))
      | refine we_seq ?_
      | (refine we_region _ rfl rfl ?_; simp only [opsOf, List.map_cons, List.map_nil, Option.map_none, Option.map_some, List.getElem?_toArray, List.getElem?_cons_zero, List.getElem?_cons_succ, Option.bind_some, Option.getD_some])
      | refine wo_nil ?_
      | (apply wo_po; apply mo_move; exact rfl; (first | exact trivial | exact rfl))
      | (apply wo_po; apply mo_assign; exact rfl; (first | exact trivial | exact rfl))
      | (apply we_condT; exact rfl; (first | exact rfl | (simp <;> omega) | omega))
      | refine we_skip ?_
      | refine we_block ?_)
    refine wo_call (.cons rfl (.cons rfl (.cons rfl .nil))) trivial (mstep_tr hs1 (.there .here)) ?_
    rintro v1 L1 x1 ⟨s2, h2, rfl, rfl, rfl⟩
    repeat (first
      | (apply wo_po; apply mo_indexArr (r := 1); exact rfl; exact rfl; omega; omega; omega; exact trivial)
      | (refine we_region _ rfl rfl ?_; simp only [opsOf, List.map_cons, List.map_nil, Option.map_none, Option.map_some, List.getElem?_toArray, List.getElem?_cons_zero, List.getElem?_cons_succ, Option.bind_some, Option.getD_some])
      | refine wo_nil ?_
      | (apply wo_po; apply mo_move; exact rfl; (first | exact trivial | exact rfl))
      | (apply wo_po; apply mo_nilCheck; exact rfl; (first | exact trivial | exact rfl))
      | (apply wo_po; apply mo_fieldAddr; exact rfl; exact rfl; (first | exact Nat.zero_add _ | exact rfl); (first | exact trivial | exact rfl)))
    refine wo_call (.cons rfl .nil) trivial (A.load_ok _ _ _ _ _ _ _ (R.a 1 (by omega)) h2 .here) ?_
    rintro v1 L1 x1 ⟨m, s3, hm, h3, rfl, rfl, rfl⟩
    repeat (first
      | (apply wo_po; apply mo_indexArr (r := 1); exact rfl; exact rfl; omega; omega; omega; exact trivial)
      | (apply wo_pm; apply mo_store; exact rfl; exact rfl; exact rfl; apply Wt.row0; (repeat (first | exact Foc.here | apply Foc.there)); (first | exact Nat.lt_of_sub_eq_succ rfl | omega); (first | exact trivial | exact rfl))
      | (refine we_region _ rfl rfl ?_; simp only [opsOf, List.map_cons, List.map_nil, Option.map_none, Option.map_some, List.getElem?_toArray, List.getElem?_cons_zero, List.getElem?_cons_succ, Option.bind_some, Option.getD_some])
      | refine wo_nil ?_
      | (apply wo_po; apply mo_move; exact rfl; (first | exact trivial | exact rfl))
      | (apply wo_po; apply mo_bin; exact rfl; exact rfl; apply bin_add; exact wrap_i64 (by omega) (by omega); (first | exact trivial | exact rfl)))
    refine at_roundS (I := cntInv A mr n tb F G) (R := fun i' => 3 - i'.1 < 3 - 1) (2, a, m, c, s3) (by show 3 - 2 < 3 - 1; omega) (.inr (.inr (.inl ⟨rfl, h3⟩))) ⟨rfl, rfl, rfl, rfl, trivial⟩ (fun h st => ?_) rfl
    exact Ent.star (.take (.there .here) (.take .here .refl)) st
  · repeat (first
      | (apply wo_po; apply mo_bin; exact rfl; exact rfl; apply bin_lssT; omega; (first | exact trivial | exact rfl))
      | refine we_seq ?_
      | (refine we_region _ rfl rfl ?_; simp only [opsOf, List.map_cons, List.map_nil, Option.map_none, Option.map_some, List.getElem?_toArray, List.getElem?_cons_zero, List.getElem?_cons_succ, Option.bind_some, Option.getD_some])
      | refine wo_nil ?_
      | (apply wo_po; apply mo_move; exact rfl; (first | exact trivial | exact rfl))
      | (apply wo_po; apply mo_assign; exact rfl; (first | exact trivial | exact rfl))
      | (apply we_condT; exact rfl; (first | exact rfl | (simp <;> omega) | omega))
      | refine we_skip ?_
      | refine we_block ?_)
    refine wo_call (.cons rfl (.cons rfl (.cons rfl .nil))) trivial (mstep_tr hs1 (.there .here)) ?_
    rintro v1 L1 x1 ⟨s2, h2, rfl, rfl, rfl⟩
    repeat (first
      | (apply wo_po; apply mo_indexArr (r := 2); exact rfl; exact rfl; omega; omega; omega; exact trivial)
      | (refine we_region _ rfl rfl ?_; simp only [opsOf, List.map_cons, List.map_nil, Option.map_none, Option.map_some, List.getElem?_toArray, List.getElem?_cons_zero, List.getElem?_cons_succ, Option.bind_some, Option.getD_some])
      | refine wo_nil ?_
      | (apply wo_po; apply mo_move; exact rfl; (first | exact trivial | exact rfl))
      | (apply wo_po; apply mo_nilCheck; exact rfl; (first | exact trivial | exact rfl))
      | (apply wo_po; apply mo_fieldAddr; exact rfl; exact rfl; (first | exact Nat.zero_add _ | exact rfl); (first | exact trivial | exact rfl)))
    refine wo_call (.cons rfl .nil) trivial (A.load_ok _ _ _ _ _ _ _ (R.a 2 (by omega)) h2 .here) ?_
    rintro v1 L1 x1 ⟨m, s3, hm, h3, rfl, rfl, rfl⟩
    repeat (first
      | (apply wo_po; apply mo_indexArr (r := 2); exact rfl; exact rfl; omega; omega; omega; exact trivial)
      | (apply wo_pm; apply mo_store; exact rfl; exact rfl; exact rfl; apply Wt.row0; (repeat (first | exact Foc.here | apply Foc.there)); (first | exact Nat.lt_of_sub_eq_succ rfl | omega); (first | exact trivial | exact rfl))
      | (refine we_region _ rfl rfl ?_; simp only [opsOf, List.map_cons, List.map_nil, Option.map_none, Option.map_some, List.getElem?_toArray, List.getElem?_cons_zero, List.getElem?_cons_succ, Option.bind_some, Option.getD_some])
      | refine wo_nil ?_
      | (apply wo_po; apply mo_move; exact rfl; (first | exact trivial | exact rfl))
      | (apply wo_po; apply mo_bin; exact rfl; exact rfl; apply bin_add; exact wrap_i64 (by omega) (by omega); (first | exact trivial | exact rfl)))
    refine at_roundS (I := cntInv A mr n tb F G) (R := fun i' => 3 - i'.1 < 3 - 2) (3, a, b', m, s3) (by show 3 - 3 < 3 - 2; omega) (.inr (.inr (.inr ⟨rfl, h3⟩))) ⟨rfl, rfl, rfl, rfl, trivial⟩ (fun h st => ?_) rfl
    exact Ent.star (.take (.there .here) (.take .here .refl)) st
  · repeat (first
      | (apply wo_po; apply mo_bin; exact rfl; exact rfl; apply bin_lssF; omega; (first | exact trivial | exact rfl))
      | refine we_seq ?_
      | (refine we_region _ rfl rfl ?_; simp only [opsOf, List.map_cons, List.map_nil, Option.map_none, Option.map_some, List.getElem?_toArray, List.getElem?_cons_zero, List.getElem?_cons_succ, Option.bind_some, Option.getD_some])
      | refine wo_nil ?_
      | (apply we_condF; exact rfl; (first | exact rfl | (simp <;> omega) | omega))
      | refine we_exit ?_)
    refine we_draw (List.range' 0 10) (by kernel_rfl) ?_
    repeat (first
      | (apply ap_pure; exact rfl; exact rfl; (first | exact trivial | exact rfl); intro L; apply mo_indexArr (r := 0); exact rfl; exact rfl; omega; omega; omega)
      | (apply ap_pure; exact rfl; exact rfl; (first | exact trivial | exact rfl); intro L; apply mo_indexArr (r := 1); exact rfl; exact rfl; omega; omega; omega)
      | (apply ap_pure; exact rfl; exact rfl; (first | exact trivial | exact rfl); intro L; apply mo_indexArr (r := 2); exact rfl; exact rfl; omega; omega; omega)
      | (apply ap_pure; exact rfl; exact rfl; (first | exact trivial | exact rfl); intro L; apply mo_assign; exact rfl)
      | (apply ap_read; exact rfl; exact rfl; (first | exact trivial | exact rfl); apply mo_load; exact rfl; (repeat (first | exact Rd.row0 rfl | exact Rd.row rfl rfl | exact Rd.still | apply Rd.there)))
      | refine ap_end ?_)
    repeat (first
      | refine we_ret ?_)
    (first | refine at_ret4 (ex := .ret) Try.func21 Try.results21 hQ (.inl rfl) rfl rfl rfl rfl ?_ | refine at_ret4 (ex := .normal) Try.func21 Try.results21 hQ (.inr rfl) rfl rfl rfl rfl ?_)
    exact ⟨a, b', c, s1, hs1, rfl, rfl, fun h st => star_drop st⟩
end

section
variable {B : Hand} [Lets B] {L : List HProp}
theorem moffer_none {x : B.X} {p : Value} (ht : Tr Try.prog B 43 [p] L x fun v L' x' => v = .bool false ∧ L' = L ∧ x' = x) : Tr Try.prog B 19 [p, .nilIface, .int .u64 1] L x fun v L' x' => v = .tuple #[.bool false, .int .i64 1] ∧ L' = L ∧ x' = x := by
  refine tr_of_body Try.func19 rfl Try.ntmps19 (by simp) fun um Q hQ => ?_
  simp only [argE, Nat.zero_add, Nat.reduceAdd]
  repeat (first
    | refine we_seq ?_
    | (refine we_region _ rfl rfl ?_; simp only [opsOf, List.map_cons, List.map_nil, Option.map_none, Option.map_some, List.getElem?_toArray, List.getElem?_cons_zero, List.getElem?_cons_succ, Option.bind_some, Option.getD_some])
    | refine wo_nil ?_
    | (apply wo_po; apply mo_move; exact rfl; (first | exact trivial | exact rfl))
    | (apply wo_po; apply mo_assign; exact rfl; (first | exact trivial | exact rfl)))
  refine wo_call (.cons rfl .nil) trivial ht ?_
  rintro v1 L1 x1 ⟨rfl, rfl, rfl⟩
  repeat (first
    | refine we_seq ?_
    | (refine we_region _ rfl rfl ?_; simp only [opsOf, List.map_cons, List.map_nil, Option.map_none, Option.map_some, List.getElem?_toArray, List.getElem?_cons_zero, List.getElem?_cons_succ, Option.bind_some, Option.getD_some])
    | refine wo_nil ?_
    | (apply wo_po; apply mo_assign; exact rfl; (first | exact trivial | exact rfl))
    | (apply wo_po; apply mo_not; exact rfl; (first | exact trivial | exact rfl))
    | (apply we_condT; exact rfl; (first | exact rfl | (simp <;> omega) | omega))
    | refine we_ret ?_)
  (first | refine at_ret2 (ex := .ret) Try.func19 Try.results19 hQ (.inl rfl) rfl rfl ?_ | refine at_ret2 (ex := .normal) Try.func19 Try.results19 hQ (.inr rfl) rfl rfl ?_)
  exact ⟨rfl, rfl, rfl⟩
theorem mtake_none {x : B.X} {p : Value} (ht : Tr Try.prog B 43 [p] L x fun v L' x' => v = .bool false ∧ L' = L ∧ x' = x) : Tr Try.prog B 20 [p, .nilIface] L x fun v L' x' => v = .tuple #[.int .u64 0, .bool false, .int .i64 1] ∧ L' = L ∧ x' = x := by
  refine tr_of_body Try.func20 rfl Try.ntmps20 (by simp) fun um Q hQ => ?_
  simp only [argE, Nat.zero_add, Nat.reduceAdd]
  repeat (first
    | refine we_seq ?_
    | (refine we_region _ rfl rfl ?_; simp only [opsOf, List.map_cons, List.map_nil, Option.map_none, Option.map_some, List.getElem?_toArray, List.getElem?_cons_zero, List.getElem?_cons_succ, Option.bind_some, Option.getD_some])
    | refine wo_nil ?_
    | (apply wo_po; apply mo_move; exact rfl; (first | exact trivial | exact rfl))
    | (apply wo_po; apply mo_assign; exact rfl; (first | exact trivial | exact rfl)))
  refine wo_call (.cons rfl .nil) trivial ht ?_
  rintro v1 L1 x1 ⟨rfl, rfl, rfl⟩
  repeat (first
    | refine we_seq ?_
    | (refine we_region _ rfl rfl ?_; simp only [opsOf, List.map_cons, List.map_nil, Option.map_none, Option.map_some, List.getElem?_toArray, List.getElem?_cons_zero, List.getElem?_cons_succ, Option.bind_some, Option.getD_some])
    | refine wo_nil ?_
    | (apply wo_po; apply mo_assign; exact rfl; (first | exact trivial | exact rfl))
    | (apply wo_po; apply mo_not; exact rfl; (first | exact trivial | exact rfl))
    | (apply we_condT; exact rfl; (first | exact rfl | (simp <;> omega) | omega))
    | refine we_ret ?_)
  (first | refine at_ret3 (ex := .ret) Try.func20 Try.results20 hQ (.inl rfl) rfl rfl rfl ?_ | refine at_ret3 (ex := .normal) Try.func20 Try.results20 hQ (.inr rfl) rfl rfl rfl ?_)
  exact ⟨rfl, rfl, rfl⟩
theorem mcounts_none {x : B.X} {p : Value} (ht : Tr Try.prog B 43 [p] L x fun v L' x' => v = .bool false ∧ L' = L ∧ x' = x) : Tr Try.prog B 21 [p, .nilIface] L x fun v L' x' => v = .tuple #[.int .u64 0, .int .u64 0, .int .u64 0, .int .i64 1] ∧ L' = L ∧ x' = x := by
  refine tr_of_body Try.func21 rfl Try.ntmps21 (by simp) fun um Q hQ => ?_
  simp only [argE, Nat.zero_add, Nat.reduceAdd]
  repeat (first
    | refine we_seq ?_
    | (refine we_region _ rfl rfl ?_; simp only [opsOf, List.map_cons, List.map_nil, Option.map_none, Option.map_some, List.getElem?_toArray, List.getElem?_cons_zero, List.getElem?_cons_succ, Option.bind_some, Option.getD_some])
    | refine wo_nil ?_
    | (apply wo_po; apply mo_move; exact rfl; (first | exact trivial | exact rfl))
    | (apply wo_po; apply mo_assign; exact rfl; (first | exact trivial | exact rfl)))
  refine wo_call (.cons rfl .nil) trivial ht ?_
  rintro v1 L1 x1 ⟨rfl, rfl, rfl⟩
  repeat (first
    | refine we_seq ?_
    | (refine we_region _ rfl rfl ?_; simp only [opsOf, List.map_cons, List.map_nil, Option.map_none, Option.map_some, List.getElem?_toArray, List.getElem?_cons_zero, List.getElem?_cons_succ, Option.bind_some, Option.getD_some])
    | refine wo_nil ?_
    | (apply wo_po; apply mo_assign; exact rfl; (first | exact trivial | exact rfl))
    | (apply wo_po; apply mo_not; exact rfl; (first | exact trivial | exact rfl))
    | (apply we_condT; exact rfl; (first | exact rfl | (simp <;> omega) | omega))
    | refine we_ret ?_)
  (first | refine at_ret4 (ex := .ret) Try.func21 Try.results21 hQ (.inl rfl) rfl rfl rfl rfl ?_ | refine at_ret4 (ex := .normal) Try.func21 Try.results21 hQ (.inr rfl) rfl rfl rfl rfl ?_)
  exact ⟨rfl, rfl, rfl⟩
end
end Go.Proofs.Ytmkkanmkjfnpdaa
