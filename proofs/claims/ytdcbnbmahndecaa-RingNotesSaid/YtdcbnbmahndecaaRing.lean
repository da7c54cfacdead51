/-
  THE RING's FUNCTIONS (package ring), over whatever access to its words and its gate.
-/
import Derived.Test.YtdcbnbmahndecaaAcc
set_option linter.unusedVariables false
set_option linter.unusedSimpArgs false
namespace Go.Proofs.Ytdcbnbmahndecaa
open Go Go.PB
attribute [local irreducible] Mo Bin Eql Tr Wo Ap

/-- a ring that is there, as an access sees it: block r, its slots in block b, 2^k of them -/
structure RingAt {B : Hand} {gv : Value} (A : Acc B gv) (r b n k : Nat) : Prop where
  hn : n = 2 ^ k
  hk : k ≤ 10
  hdr : ∀ s, Rd [A.C s] r 2 (.slice (some ⟨b, 0, none⟩) n n)
  a0 : A.addr 0 = (r, 0)
  a1 : A.addr 1 = (r, 1)
  a2 : ∀ i : Nat, i < n → A.addr (2 + i) = (b, i)

section
variable {B : Hand} [Lets B] {gv : Value} {A : Acc B gv} {r b n k : Nat} {L F : List HProp}

theorem slot_tr (R : RingAt A r b n k) {p : Nat} (h1 : p < 18446744073709551616) {s : A.S} (hh : Has L (A.C s) F) :
    Tr Try.prog B 40 [.pointer (some ⟨r, 0, none⟩), .int .u64 p] L (A.x s) fun v L' x' => v = .tuple #[.int .i64 ((2 + p % n : Nat)), .pointer (some ⟨b, p % n, none⟩)] ∧ L' = L ∧ x' = A.x s := by
  have hr := Rd.of hh (R.hdr s)
  have hpow := and_pow2 R.hn R.hk (p := p) (by omega) (by omega)
  have hle : n ≤ 1024 := by rw [R.hn]; exact pow_le R.hk
  have hpos : 0 < n := by rw [R.hn]; exact Nat.two_pow_pos k
  obtain ⟨m, hm⟩ : ∃ m, p % n = m := ⟨_, rfl⟩
  have hmod : m < n := by rw [← hm]; exact Nat.mod_lt _ hpos
  rw [Int.toNat_natCast, hm] at hpow
  rw [hm]
  refine tr_of_body Try.func40 rfl Try.ntmps40 (by simp) fun um Q hQ => ?_
  simp only [argE, Nat.zero_add, Nat.reduceAdd]
  repeat (first
    | (apply wo_po; apply mo_load; exact rfl; exact hr; exact trivial)
    | (apply wo_po; apply mo_bin; exact rfl; exact rfl; apply bin_and; exact hpow; exact trivial)
    | refine we_seq ?_
    | (refine we_region _ rfl rfl ?_; simp only [opsOf, List.map_cons, List.map_nil, Option.map_none, Option.map_some, List.getElem?_toArray, List.getElem?_cons_zero, List.getElem?_cons_succ, Option.bind_some, Option.getD_some])
    | refine wo_nil ?_
    | (apply wo_po; apply mo_move; exact rfl; (first | exact trivial | exact rfl))
    | (apply wo_po; apply mo_assign; exact rfl; (first | exact trivial | exact rfl))
    | (apply wo_po; apply mo_nilCheck; exact rfl; (first | exact trivial | exact rfl))
    | (apply wo_po; apply mo_fieldAddr; exact rfl; exact rfl; (first | exact Nat.zero_add _ | exact rfl); (first | exact trivial | exact rfl))
    | (apply wo_po; apply mo_bin; exact rfl; exact rfl; apply bin_sub; exact wrap_i64 (by omega) (by omega); (first | exact trivial | exact rfl))
    | (apply wo_po; apply mo_len; exact rfl; (first | exact trivial | exact rfl))
    | (apply wo_po; apply mo_conv; exact rfl; (first | exact wrap_i64 (by omega) (by omega) | exact wrap_u64 (by omega) (by omega)); (first | exact trivial | exact rfl)))
  refine we_draw [0, 1, 2, 3, 4, 5, 6, 7, 8, 9] (by kernel_rfl) ?_
  repeat (first
    | (apply ap_read; exact rfl; exact rfl; exact trivial; apply mo_load; exact rfl; exact hr)
    | (apply ap_pure; exact rfl; exact rfl; exact trivial; intro L; apply mo_indexAddr; exact rfl; exact rfl; omega; omega; exact (show 0 + ((m : Int)).toNat * 1 = m by simp))
    | (apply ap_pure; exact rfl; exact rfl; (first | exact trivial | exact rfl); intro L; apply mo_move; exact rfl)
    | (apply ap_pure; exact rfl; exact rfl; (first | exact trivial | exact rfl); intro L; apply mo_assign; exact rfl)
    | (apply ap_pure; exact rfl; exact rfl; (first | exact trivial | exact rfl); intro L; apply mo_nilCheck; exact rfl)
    | (apply ap_pure; exact rfl; exact rfl; (first | exact trivial | exact rfl); intro L; apply mo_fieldAddr; exact rfl; exact rfl; (first | exact Nat.zero_add _ | exact rfl))
    | (apply ap_pure; exact rfl; exact rfl; (first | exact trivial | exact rfl); intro L; apply mo_bin; exact rfl; exact rfl; apply bin_add; exact wrap_i64 (by omega) (by omega))
    | refine ap_end ?_)
  refine we_ret ?_
  (first | refine at_ret2 (ex := .ret) Try.func40 Try.results40 hQ (.inl rfl) rfl rfl ?_ | refine at_ret2 (ex := .normal) Try.func40 Try.results40 hQ (.inr rfl) rfl rfl ?_)
  refine ⟨?_, rfl, rfl⟩
  simp

theorem there_tr (R : RingAt A r b n k) {s : A.S} (hh : Has L (A.C s) F) :
    Tr Try.prog B 38 [.pointer (some ⟨r, 0, none⟩)] L (A.x s) fun v L' x' => v = .bool true ∧ L' = L ∧ x' = A.x s := by
  have hr := Rd.of hh (R.hdr s)
  refine tr_of_body Try.func38 rfl Try.ntmps38 (by simp) fun um Q hQ => ?_
  simp only [argE, Nat.zero_add, Nat.reduceAdd]
  repeat (first
    | (apply wo_po; apply mo_load; exact rfl; exact hr; exact rfl)
    | refine we_seq ?_
    | (refine we_region _ rfl rfl ?_; simp only [opsOf, List.map_cons, List.map_nil, Option.map_none, Option.map_some, List.getElem?_toArray, List.getElem?_cons_zero, List.getElem?_cons_succ, Option.bind_some, Option.getD_some])
    | refine wo_nil ?_
    | (apply wo_po; apply mo_move; exact rfl; (first | exact trivial | exact rfl))
    | (apply wo_po; apply mo_assign; exact rfl; (first | exact trivial | exact rfl))
    | (apply wo_po; apply mo_pickT; exact rfl; exact rfl; exact rfl; (first | exact trivial | exact rfl))
    | (apply wo_po; apply mo_nilCheck; exact rfl; (first | exact trivial | exact rfl))
    | (apply wo_po; apply mo_fieldAddr; exact rfl; exact rfl; (first | exact Nat.zero_add _ | exact rfl); (first | exact trivial | exact rfl))
    | (apply wo_po; apply mo_bin; exact rfl; exact rfl; apply bin_ne; apply eql_ptr_nil; (first | exact trivial | exact rfl))
    | (apply wo_po; apply mo_bin; exact rfl; exact rfl; apply bin_ne; apply eql_slice_nil; (first | exact trivial | exact rfl))
    | refine we_ret ?_)
  (first | refine at_ret1 (ex := .ret) Try.func38 Try.results38 hQ (.inl rfl) rfl ?_ | refine at_ret1 (ex := .normal) Try.func38 Try.results38 hQ (.inr rfl) rfl ?_)
  exact ⟨rfl, rfl, rfl⟩

/-- the gate is told -/
theorem step_tr {op : Int} {w : Nat} {s : A.S} {T : A.S → Prop} (hs : A.step op w s T) (hh : Has L (A.C s) F) :
    Tr Try.prog B 57 [gv, .int .u8 op, .int .i64 w] L (A.x s) fun v L' x' => ∃ s', T s' ∧ v = .tuple #[] ∧ L' = A.C s' :: F ∧ x' = A.x s' := by
  rcases A.gate with ⟨rfl, hg⟩ | ⟨t, p, f, rfl, hm, he, hg⟩
  · refine tr_of_body Try.func57 rfl Try.ntmps57 (by simp) fun um Q hQ => ?_
    simp only [argE, Nat.zero_add, Nat.reduceAdd]
    repeat (first
      | refine we_seq ?_
      | (refine we_region _ rfl rfl ?_; simp only [opsOf, List.map_cons, List.map_nil, Option.map_none, Option.map_some, List.getElem?_toArray, List.getElem?_cons_zero, List.getElem?_cons_succ, Option.bind_some, Option.getD_some])
      | refine wo_nil ?_
      | (apply wo_po; apply mo_move; exact rfl; (first | exact trivial | exact rfl))
      | (apply wo_po; apply mo_bin; exact rfl; exact rfl; apply bin_ne; apply eql_nil_nil; (first | exact trivial | exact rfl))
      | (apply we_condF; exact rfl; (first | exact rfl | (simp <;> omega) | omega))
      | refine we_skip ?_)
    refine at_ent _ (Ent.take hh .refl) ?_
    (first | refine at_ret0 (ex := .ret) Try.func57 Try.results57 hQ (.inl rfl) ?_ | refine at_ret0 (ex := .normal) Try.func57 Try.results57 hQ (.inr rfl) ?_)
    exact ⟨s, hg _ _ _ _ hs, rfl, rfl, rfl⟩
  · refine tr_of_body Try.func57 rfl Try.ntmps57 (by simp) fun um Q hQ => ?_
    simp only [argE, Nat.zero_add, Nat.reduceAdd]
    repeat (first
      | (apply wo_po; apply mo_build (pv := [(0, _), (1, _)]); exact rfl; exact .cons rfl (.cons rfl .nil); exact rfl; exact trivial)
      | refine we_seq ?_
      | (refine we_region _ rfl rfl ?_; simp only [opsOf, List.map_cons, List.map_nil, Option.map_none, Option.map_some, List.getElem?_toArray, List.getElem?_cons_zero, List.getElem?_cons_succ, Option.bind_some, Option.getD_some])
      | refine wo_nil ?_
      | (apply wo_po; apply mo_move; exact rfl; (first | exact trivial | exact rfl))
      | (apply wo_po; apply mo_bin; exact rfl; exact rfl; apply bin_ne; apply eql_iface_nil; (first | exact trivial | exact rfl))
      | (apply we_condT; exact rfl; (first | exact rfl | (simp <;> omega) | omega)))
    refine wo_invoke (args := [_]) rfl (.cons rfl .nil) trivial (hg op w s T L F hs hh) ?_
    rintro v L' x' ⟨s', h1, rfl, rfl, rfl⟩
    repeat (first
      | refine wo_nil ?_)
    (first | refine at_ret0 (ex := .ret) Try.func57 Try.results57 hQ (.inl rfl) ?_ | refine at_ret0 (ex := .normal) Try.func57 Try.results57 hQ (.inr rfl) ?_)
    exact ⟨s', h1, rfl, rfl, rfl⟩

/-- a word is loaded -/
theorem load_tr {w b' o' : Nat} {s : A.S} {Q : Nat → A.S → Prop} (ha : A.addr w = (b', o')) (hs : A.step 1 w s fun s => A.load w s Q) (hh : Has L (A.C s) F) :
    Tr Try.prog B 39 [gv, .int .i64 w, .pointer (some ⟨b', o', none⟩)] L (A.x s) fun v L' x' => ∃ n s', n < 18446744073709551616 ∧ Q n s' ∧ v = .int .u64 (n : Nat) ∧ L' = A.C s' :: F ∧ x' = A.x s' := by
  refine tr_of_body Try.func39 rfl Try.ntmps39 (by simp) fun um Q hQ => ?_
  simp only [argE, Nat.zero_add, Nat.reduceAdd]
  repeat (first
    | refine we_seq ?_
    | (refine we_region _ rfl rfl ?_; simp only [opsOf, List.map_cons, List.map_nil, Option.map_none, Option.map_some, List.getElem?_toArray, List.getElem?_cons_zero, List.getElem?_cons_succ, Option.bind_some, Option.getD_some])
    | refine wo_nil ?_
    | (apply wo_po; apply mo_move; exact rfl; (first | exact trivial | exact rfl))
    | (apply wo_po; apply mo_assign; exact rfl; (first | exact trivial | exact rfl)))
  refine wo_call (.cons rfl (.cons rfl (.cons rfl .nil))) trivial (step_tr hs hh) ?_
  rintro v L' x' ⟨s1, h1, rfl, rfl, rfl⟩
  repeat (first
    | refine we_seq ?_
    | (refine we_region _ rfl rfl ?_; simp only [opsOf, List.map_cons, List.map_nil, Option.map_none, Option.map_some, List.getElem?_toArray, List.getElem?_cons_zero, List.getElem?_cons_succ, Option.bind_some, Option.getD_some])
    | refine wo_nil ?_
    | (apply wo_po; apply mo_move; exact rfl; (first | exact trivial | exact rfl)))
  refine wo_call (.cons rfl .nil) trivial (A.load_ok _ _ _ _ _ _ _ ha h1 .here) ?_
  rintro v L' x' ⟨m, s2, h2, h3, rfl, rfl, rfl⟩
  repeat (first
    | refine wo_nil ?_
    | (apply wo_po; apply mo_assign; exact rfl; (first | exact trivial | exact rfl))
    | refine we_ret ?_)
  (first | refine at_ret1 (ex := .ret) Try.func39 Try.results39 hQ (.inl rfl) rfl ?_ | refine at_ret1 (ex := .normal) Try.func39 Try.results39 hQ (.inr rfl) rfl ?_)
  exact ⟨m, s2, h2, h3, rfl, rfl, rfl⟩

theorem store_tr {w b' o' m : Nat} {s : A.S} {Q : A.S → Prop} (ha : A.addr w = (b', o')) (hm : m < 18446744073709551616) (hs : A.step 2 w s fun s => A.store w m s Q) (hh : Has L (A.C s) F) :
    Tr Try.prog B 41 [gv, .int .i64 w, .pointer (some ⟨b', o', none⟩), .int .u64 m] L (A.x s) fun v L' x' => ∃ s', Q s' ∧ v = .tuple #[] ∧ L' = A.C s' :: F ∧ x' = A.x s' := by
  refine tr_of_body Try.func41 rfl Try.ntmps41 (by simp) fun um Q hQ => ?_
  simp only [argE, Nat.zero_add, Nat.reduceAdd]
  repeat (first
    | refine we_seq ?_
    | (refine we_region _ rfl rfl ?_; simp only [opsOf, List.map_cons, List.map_nil, Option.map_none, Option.map_some, List.getElem?_toArray, List.getElem?_cons_zero, List.getElem?_cons_succ, Option.bind_some, Option.getD_some])
    | (apply wo_po; apply mo_move; exact rfl; (first | exact trivial | exact rfl)))
  refine wo_call (.cons rfl (.cons rfl (.cons rfl .nil))) trivial (step_tr hs hh) ?_
  rintro v L' x' ⟨s1, h1, rfl, rfl, rfl⟩
  repeat (first
    | (refine we_region _ rfl rfl ?_; simp only [opsOf, List.map_cons, List.map_nil, Option.map_none, Option.map_some, List.getElem?_toArray, List.getElem?_cons_zero, List.getElem?_cons_succ, Option.bind_some, Option.getD_some])
    | refine wo_nil ?_
    | (apply wo_po; apply mo_move; exact rfl; (first | exact trivial | exact rfl)))
  refine wo_call (.cons rfl (.cons rfl .nil)) trivial (A.store_ok _ _ _ _ _ _ _ _ ha hm h1 .here) ?_
  rintro v L' x' ⟨s2, h3, rfl, rfl, rfl⟩
  repeat (first
    | refine wo_nil ?_)
  (first | refine at_ret0 (ex := .ret) Try.func41 Try.results41 hQ (.inl rfl) ?_ | refine at_ret0 (ex := .normal) Try.func41 Try.results41 hQ (.inr rfl) ?_)
  exact ⟨s2, h3, rfl, rfl, rfl⟩

/-- WHAT Put DOES, over whatever access -/
def PutT (A : Acc B gv) (n v : Nat) (s : A.S) (Q : Bool → A.S → Prop) : Prop :=
  A.step 1 1 s fun s => A.load 1 s fun p s => A.step 1 0 s fun s => A.load 0 s fun t s =>
    if n ≤ (p + 18446744073709551616 - t) % 18446744073709551616 then Q false s
    else A.step 2 (2 + p % n) s fun s => A.store (2 + p % n) v s fun s => A.step 2 1 s fun s => A.store 1 ((p + 1) % 18446744073709551616) s (Q true)

theorem put_tr (R : RingAt A r b n k) {v : Nat} (hv : v < 18446744073709551616) {s : A.S} {Q : Bool → A.S → Prop} (hs : PutT A n v s Q) (hh : Has L (A.C s) F) :
    Tr Try.prog B 12 [.pointer (some ⟨r, 0, none⟩), gv, .int .u64 v] L (A.x s) fun v' L' x' => ∃ q s', Q q s' ∧ v' = .tuple #[.bool q, .int .i64 0] ∧ L' = A.C s' :: F ∧ x' = A.x s' := by
  have hle : n ≤ 1024 := by rw [R.hn]; exact pow_le R.hk
  have hpos : 0 < n := by rw [R.hn]; exact Nat.two_pow_pos k
  unfold PutT at hs
  refine tr_of_body Try.func12 rfl Try.ntmps12 (by simp) fun um Q hQ => ?_
  simp only [argE, Nat.zero_add, Nat.reduceAdd]
  repeat (first
    | refine we_seq ?_
    | (refine we_region _ rfl rfl ?_; simp only [opsOf, List.map_cons, List.map_nil, Option.map_none, Option.map_some, List.getElem?_toArray, List.getElem?_cons_zero, List.getElem?_cons_succ, Option.bind_some, Option.getD_some])
    | refine wo_nil ?_
    | (apply wo_po; apply mo_move; exact rfl; (first | exact trivial | exact rfl))
    | (apply wo_po; apply mo_assign; exact rfl; (first | exact trivial | exact rfl)))
  refine wo_call (.cons rfl .nil) trivial (there_tr R hh) ?_
  rintro v1 L1 x1 ⟨rfl, rfl, rfl⟩
  repeat (first
    | refine we_seq ?_
    | (refine we_region _ rfl rfl ?_; simp only [opsOf, List.map_cons, List.map_nil, Option.map_none, Option.map_some, List.getElem?_toArray, List.getElem?_cons_zero, List.getElem?_cons_succ, Option.bind_some, Option.getD_some])
    | refine wo_nil ?_
    | (apply wo_po; apply mo_move; exact rfl; (first | exact trivial | exact rfl))
    | (apply wo_po; apply mo_nilCheck; exact rfl; (first | exact trivial | exact rfl))
    | (apply wo_po; apply mo_fieldAddr; exact rfl; exact rfl; (first | exact Nat.zero_add _ | exact rfl); (first | exact trivial | exact rfl))
    | (apply wo_po; apply mo_not; exact rfl; (first | exact trivial | exact rfl))
    | (apply we_condF; exact rfl; (first | exact rfl | (simp <;> omega) | omega))
    | refine we_skip ?_)
  refine wo_call (.cons rfl (.cons rfl (.cons rfl .nil))) trivial (load_tr (w := 1) R.a1 hs hh) ?_
  rintro v1 L1 x1 ⟨p, s1, hp, h1, rfl, rfl, rfl⟩
  repeat (first
    | refine we_seq ?_
    | (refine we_region _ rfl rfl ?_; simp only [opsOf, List.map_cons, List.map_nil, Option.map_none, Option.map_some, List.getElem?_toArray, List.getElem?_cons_zero, List.getElem?_cons_succ, Option.bind_some, Option.getD_some])
    | refine wo_nil ?_
    | (apply wo_po; apply mo_move; exact rfl; (first | exact trivial | exact rfl))
    | (apply wo_po; apply mo_assign; exact rfl; (first | exact trivial | exact rfl))
    | (apply wo_po; apply mo_nilCheck; exact rfl; (first | exact trivial | exact rfl))
    | (apply wo_po; apply mo_fieldAddr; exact rfl; exact rfl; (first | exact Nat.zero_add _ | exact rfl); (first | exact trivial | exact rfl)))
  refine wo_call (.cons rfl (.cons rfl (.cons rfl .nil))) trivial (load_tr (w := 0) R.a0 h1 .here) ?_
  rintro v1 L1 x1 ⟨t, s2, ht, h2, rfl, rfl, rfl⟩
  have hr := Rd.of (L := A.C s2 :: F) .here (R.hdr s2)
  have hsub : IntKind.u64.wrap ((p : Int) - (t : Int)) = (((p + 18446744073709551616 - t) % 18446744073709551616 : Nat) : Int) := by rw [wrap_u64_mod]; omega
  obtain ⟨d, hd⟩ : ∃ d, (p + 18446744073709551616 - t) % 18446744073709551616 = d := ⟨_, rfl⟩
  rw [hd] at hsub h2
  repeat (first
    | (apply wo_po; apply mo_bin; exact rfl; exact rfl; apply bin_sub; exact hsub; exact trivial)
    | (apply wo_po; apply mo_load; exact rfl; exact hr; exact trivial)
    | refine we_seq ?_
    | (refine we_region _ rfl rfl ?_; simp only [opsOf, List.map_cons, List.map_nil, Option.map_none, Option.map_some, List.getElem?_toArray, List.getElem?_cons_zero, List.getElem?_cons_succ, Option.bind_some, Option.getD_some])
    | refine wo_nil ?_
    | (apply wo_po; apply mo_move; exact rfl; (first | exact trivial | exact rfl))
    | (apply wo_po; apply mo_assign; exact rfl; (first | exact trivial | exact rfl))
    | (apply wo_po; apply mo_nilCheck; exact rfl; (first | exact trivial | exact rfl))
    | (apply wo_po; apply mo_fieldAddr; exact rfl; exact rfl; (first | exact Nat.zero_add _ | exact rfl); (first | exact trivial | exact rfl))
    | (apply wo_po; apply mo_bin; exact rfl; exact rfl; exact bin_geq; (first | exact trivial | exact rfl))
    | (apply wo_po; apply mo_len; exact rfl; (first | exact trivial | exact rfl))
    | (apply wo_po; apply mo_conv; exact rfl; (first | exact wrap_i64 (by omega) (by omega) | exact wrap_u64 (by omega) (by omega)); (first | exact trivial | exact rfl)))
  by_cases hfull : n ≤ d
  · rw [if_pos hfull] at h2
    repeat (first
      | refine we_seq ?_
      | (refine we_region _ rfl rfl ?_; simp only [opsOf, List.map_cons, List.map_nil, Option.map_none, Option.map_some, List.getElem?_toArray, List.getElem?_cons_zero, List.getElem?_cons_succ, Option.bind_some, Option.getD_some])
      | refine wo_nil ?_
      | (apply wo_po; apply mo_assign; exact rfl; (first | exact trivial | exact rfl))
      | (apply we_condT; exact rfl; (first | exact rfl | (simp <;> omega) | omega))
      | refine we_ret ?_)
    (first | refine at_ret2 (ex := .ret) Try.func12 Try.results12 hQ (.inl rfl) rfl rfl ?_ | refine at_ret2 (ex := .normal) Try.func12 Try.results12 hQ (.inr rfl) rfl rfl ?_)
    exact ⟨false, s2, h2, rfl, rfl, rfl⟩
  · rw [if_neg hfull] at h2
    repeat (first
      | refine we_seq ?_
      | (refine we_region _ rfl rfl ?_; simp only [opsOf, List.map_cons, List.map_nil, Option.map_none, Option.map_some, List.getElem?_toArray, List.getElem?_cons_zero, List.getElem?_cons_succ, Option.bind_some, Option.getD_some])
      | (apply wo_po; apply mo_move; exact rfl; (first | exact trivial | exact rfl))
      | (apply we_condF; exact rfl; (first | exact rfl | (simp <;> omega) | omega))
      | refine we_skip ?_)
    refine wo_call (.cons rfl (.cons rfl .nil)) trivial (slot_tr R hp .here) ?_
    rintro v1 L1 x1 ⟨rfl, rfl, rfl⟩
    repeat (first
      | refine we_seq ?_
      | (refine we_region _ rfl rfl ?_; simp only [opsOf, List.map_cons, List.map_nil, Option.map_none, Option.map_some, List.getElem?_toArray, List.getElem?_cons_zero, List.getElem?_cons_succ, Option.bind_some, Option.getD_some])
      | refine wo_nil ?_
      | (apply wo_po; apply mo_move; exact rfl; (first | exact trivial | exact rfl))
      | (apply wo_po; apply mo_assign; exact rfl; (first | exact trivial | exact rfl))
      | (apply wo_po; apply mo_extract; exact rfl; exact rfl; (first | exact trivial | exact rfl)))
    have hmod : p % n < n := Nat.mod_lt _ hpos
    refine wo_call (.cons rfl (.cons rfl (.cons rfl (.cons rfl .nil)))) trivial (store_tr (w := 2 + p % n) (R.a2 _ hmod) hv h2 .here) ?_
    rintro v1 L1 x1 ⟨s3, h3, rfl, rfl, rfl⟩
    have hadd : IntKind.u64.wrap ((p : Int) + 1) = (((p + 1) % 18446744073709551616 : Nat) : Int) := by rw [wrap_u64_mod]; omega
    repeat (first
      | (apply wo_po; apply mo_bin; exact rfl; exact rfl; apply bin_add; exact hadd; exact trivial)
      | refine we_seq ?_
      | (refine we_region _ rfl rfl ?_; simp only [opsOf, List.map_cons, List.map_nil, Option.map_none, Option.map_some, List.getElem?_toArray, List.getElem?_cons_zero, List.getElem?_cons_succ, Option.bind_some, Option.getD_some])
      | refine wo_nil ?_
      | (apply wo_po; apply mo_move; exact rfl; (first | exact trivial | exact rfl))
      | (apply wo_po; apply mo_nilCheck; exact rfl; (first | exact trivial | exact rfl))
      | (apply wo_po; apply mo_fieldAddr; exact rfl; exact rfl; (first | exact Nat.zero_add _ | exact rfl); (first | exact trivial | exact rfl)))
    refine wo_call (.cons rfl (.cons rfl (.cons rfl (.cons rfl .nil)))) trivial (store_tr (w := 1) R.a1 (Nat.mod_lt _ (by decide)) h3 .here) ?_
    rintro v1 L1 x1 ⟨s4, h4, rfl, rfl, rfl⟩
    repeat (first
      | refine we_seq ?_
      | (refine we_region _ rfl rfl ?_; simp only [opsOf, List.map_cons, List.map_nil, Option.map_none, Option.map_some, List.getElem?_toArray, List.getElem?_cons_zero, List.getElem?_cons_succ, Option.bind_some, Option.getD_some])
      | refine wo_nil ?_
      | (apply wo_po; apply mo_assign; exact rfl; (first | exact trivial | exact rfl))
      | refine we_ret ?_)
    (first | refine at_ret2 (ex := .ret) Try.func12 Try.results12 hQ (.inl rfl) rfl rfl ?_ | refine at_ret2 (ex := .normal) Try.func12 Try.results12 hQ (.inr rfl) rfl rfl ?_)
    exact ⟨true, s4, h4, rfl, rfl, rfl⟩

/-- WHAT Take DOES -/
def TakeT (A : Acc B gv) (n : Nat) (s : A.S) (Q : Option Nat → A.S → Prop) : Prop :=
  A.step 1 0 s fun s => A.load 0 s fun t s => A.step 1 1 s fun s => A.load 1 s fun p s =>
    if t = p then Q none s
    else A.step 1 (2 + t % n) s fun s => A.load (2 + t % n) s fun v s => A.step 2 0 s fun s => A.store 0 ((t + 1) % 18446744073709551616) s (Q (some v))

theorem take_tr (R : RingAt A r b n k) {s : A.S} {Q : Option Nat → A.S → Prop} (hs : TakeT A n s Q) (hh : Has L (A.C s) F) :
    Tr Try.prog B 13 [.pointer (some ⟨r, 0, none⟩), gv] L (A.x s) fun v' L' x' => ∃ q s', Q q s' ∧ q.getD 0 < 18446744073709551616 ∧ v' = .tuple #[.int .u64 (q.getD 0 : Nat), .bool q.isSome, .int .i64 0] ∧ L' = A.C s' :: F ∧ x' = A.x s' := by
  have hle : n ≤ 1024 := by rw [R.hn]; exact pow_le R.hk
  have hpos : 0 < n := by rw [R.hn]; exact Nat.two_pow_pos k
  unfold TakeT at hs
  refine tr_of_body Try.func13 rfl Try.ntmps13 (by simp) fun um Q hQ => ?_
  simp only [argE, Nat.zero_add, Nat.reduceAdd]
  repeat (first
    | refine we_seq ?_
    | (refine we_region _ rfl rfl ?_; simp only [opsOf, List.map_cons, List.map_nil, Option.map_none, Option.map_some, List.getElem?_toArray, List.getElem?_cons_zero, List.getElem?_cons_succ, Option.bind_some, Option.getD_some])
    | refine wo_nil ?_
    | (apply wo_po; apply mo_move; exact rfl; (first | exact trivial | exact rfl))
    | (apply wo_po; apply mo_assign; exact rfl; (first | exact trivial | exact rfl)))
  refine wo_call (.cons rfl .nil) trivial (there_tr R hh) ?_
  rintro v1 L1 x1 ⟨rfl, rfl, rfl⟩
  repeat (first
    | refine we_seq ?_
    | (refine we_region _ rfl rfl ?_; simp only [opsOf, List.map_cons, List.map_nil, Option.map_none, Option.map_some, List.getElem?_toArray, List.getElem?_cons_zero, List.getElem?_cons_succ, Option.bind_some, Option.getD_some])
    | refine wo_nil ?_
    | (apply wo_po; apply mo_move; exact rfl; (first | exact trivial | exact rfl))
    | (apply wo_po; apply mo_nilCheck; exact rfl; (first | exact trivial | exact rfl))
    | (apply wo_po; apply mo_fieldAddr; exact rfl; exact rfl; (first | exact Nat.zero_add _ | exact rfl); (first | exact trivial | exact rfl))
    | (apply wo_po; apply mo_not; exact rfl; (first | exact trivial | exact rfl))
    | (apply we_condF; exact rfl; (first | exact rfl | (simp <;> omega) | omega))
    | refine we_skip ?_)
  refine wo_call (.cons rfl (.cons rfl (.cons rfl .nil))) trivial (load_tr (w := 0) R.a0 hs hh) ?_
  rintro v1 L1 x1 ⟨t, s1, ht, h1, rfl, rfl, rfl⟩
  repeat (first
    | refine we_seq ?_
    | (refine we_region _ rfl rfl ?_; simp only [opsOf, List.map_cons, List.map_nil, Option.map_none, Option.map_some, List.getElem?_toArray, List.getElem?_cons_zero, List.getElem?_cons_succ, Option.bind_some, Option.getD_some])
    | refine wo_nil ?_
    | (apply wo_po; apply mo_move; exact rfl; (first | exact trivial | exact rfl))
    | (apply wo_po; apply mo_assign; exact rfl; (first | exact trivial | exact rfl))
    | (apply wo_po; apply mo_nilCheck; exact rfl; (first | exact trivial | exact rfl))
    | (apply wo_po; apply mo_fieldAddr; exact rfl; exact rfl; (first | exact Nat.zero_add _ | exact rfl); (first | exact trivial | exact rfl)))
  refine wo_call (.cons rfl (.cons rfl (.cons rfl .nil))) trivial (load_tr (w := 1) R.a1 h1 .here) ?_
  rintro v1 L1 x1 ⟨p, s2, hp, h2, rfl, rfl, rfl⟩
  by_cases he : t = p
  · rw [if_pos he] at h2
    repeat (first
      | refine we_seq ?_
      | (refine we_region _ rfl rfl ?_; simp only [opsOf, List.map_cons, List.map_nil, Option.map_none, Option.map_some, List.getElem?_toArray, List.getElem?_cons_zero, List.getElem?_cons_succ, Option.bind_some, Option.getD_some])
      | refine wo_nil ?_
      | (apply wo_po; apply mo_move; exact rfl; (first | exact trivial | exact rfl))
      | (apply wo_po; apply mo_assign; exact rfl; (first | exact trivial | exact rfl))
      | (apply wo_po; apply mo_bin; exact rfl; exact rfl; exact bin_eql; (first | exact trivial | exact rfl))
      | (apply we_condT; exact rfl; (first | exact rfl | (simp <;> omega) | omega))
      | refine we_ret ?_)
    (first | refine at_ret3 (ex := .ret) Try.func13 Try.results13 hQ (.inl rfl) rfl rfl rfl ?_ | refine at_ret3 (ex := .normal) Try.func13 Try.results13 hQ (.inr rfl) rfl rfl rfl ?_)
    exact ⟨none, s2, h2, by decide, rfl, rfl, rfl⟩
  · rw [if_neg he] at h2
    repeat (first
      | refine we_seq ?_
      | (refine we_region _ rfl rfl ?_; simp only [opsOf, List.map_cons, List.map_nil, Option.map_none, Option.map_some, List.getElem?_toArray, List.getElem?_cons_zero, List.getElem?_cons_succ, Option.bind_some, Option.getD_some])
      | refine wo_nil ?_
      | (apply wo_po; apply mo_move; exact rfl; (first | exact trivial | exact rfl))
      | (apply wo_po; apply mo_assign; exact rfl; (first | exact trivial | exact rfl))
      | (apply wo_po; apply mo_bin; exact rfl; exact rfl; exact bin_eql; (first | exact trivial | exact rfl))
      | (apply we_condF; exact rfl; (first | exact rfl | (simp <;> omega) | omega))
      | refine we_skip ?_)
    refine wo_call (.cons rfl (.cons rfl .nil)) trivial (slot_tr R ht .here) ?_
    rintro v1 L1 x1 ⟨rfl, rfl, rfl⟩
    repeat (first
      | refine we_seq ?_
      | (refine we_region _ rfl rfl ?_; simp only [opsOf, List.map_cons, List.map_nil, Option.map_none, Option.map_some, List.getElem?_toArray, List.getElem?_cons_zero, List.getElem?_cons_succ, Option.bind_some, Option.getD_some])
      | refine wo_nil ?_
      | (apply wo_po; apply mo_move; exact rfl; (first | exact trivial | exact rfl))
      | (apply wo_po; apply mo_assign; exact rfl; (first | exact trivial | exact rfl))
      | (apply wo_po; apply mo_extract; exact rfl; exact rfl; (first | exact trivial | exact rfl)))
    have hmod : t % n < n := Nat.mod_lt _ hpos
    refine wo_call (.cons rfl (.cons rfl (.cons rfl .nil))) trivial (load_tr (w := 2 + t % n) (R.a2 _ hmod) h2 .here) ?_
    rintro v1 L1 x1 ⟨v, s3, hv, h3, rfl, rfl, rfl⟩
    have hadd : IntKind.u64.wrap ((t : Int) + 1) = (((t + 1) % 18446744073709551616 : Nat) : Int) := by rw [wrap_u64_mod]; omega
    repeat (first
      | (apply wo_po; apply mo_bin; exact rfl; exact rfl; apply bin_add; exact hadd; exact trivial)
      | refine we_seq ?_
      | (refine we_region _ rfl rfl ?_; simp only [opsOf, List.map_cons, List.map_nil, Option.map_none, Option.map_some, List.getElem?_toArray, List.getElem?_cons_zero, List.getElem?_cons_succ, Option.bind_some, Option.getD_some])
      | refine wo_nil ?_
      | (apply wo_po; apply mo_move; exact rfl; (first | exact trivial | exact rfl))
      | (apply wo_po; apply mo_assign; exact rfl; (first | exact trivial | exact rfl))
      | (apply wo_po; apply mo_nilCheck; exact rfl; (first | exact trivial | exact rfl))
      | (apply wo_po; apply mo_fieldAddr; exact rfl; exact rfl; (first | exact Nat.zero_add _ | exact rfl); (first | exact trivial | exact rfl)))
    refine wo_call (.cons rfl (.cons rfl (.cons rfl (.cons rfl .nil)))) trivial (store_tr (w := 0) R.a0 (Nat.mod_lt _ (by decide)) h3 .here) ?_
    rintro v1 L1 x1 ⟨s4, h4, rfl, rfl, rfl⟩
    repeat (first
      | refine we_seq ?_
      | (refine we_region _ rfl rfl ?_; simp only [opsOf, List.map_cons, List.map_nil, Option.map_none, Option.map_some, List.getElem?_toArray, List.getElem?_cons_zero, List.getElem?_cons_succ, Option.bind_some, Option.getD_some])
      | refine wo_nil ?_
      | (apply wo_po; apply mo_move; exact rfl; (first | exact trivial | exact rfl))
      | (apply wo_po; apply mo_assign; exact rfl; (first | exact trivial | exact rfl))
      | refine we_ret ?_)
    (first | refine at_ret3 (ex := .ret) Try.func13 Try.results13 hQ (.inl rfl) rfl rfl rfl ?_ | refine at_ret3 (ex := .normal) Try.func13 Try.results13 hQ (.inr rfl) rfl rfl rfl ?_)
    exact ⟨some v, s4, h4, hv, rfl, rfl, rfl⟩

/-- WHAT Len DOES -/
def LenT (A : Acc B gv) (n : Nat) (s : A.S) (Q : Nat → A.S → Prop) : Prop :=
  A.step 1 0 s fun s => A.load 0 s fun t s => A.step 1 1 s fun s => A.load 1 s fun p s => Q (min ((p + 18446744073709551616 - t) % 18446744073709551616) n) s

theorem len_tr (R : RingAt A r b n k) {s : A.S} {Q : Nat → A.S → Prop} (hs : LenT A n s Q) (hh : Has L (A.C s) F) :
    Tr Try.prog B 14 [.pointer (some ⟨r, 0, none⟩), gv] L (A.x s) fun v' L' x' => ∃ q s', Q q s' ∧ q ≤ n ∧ v' = .tuple #[.int .i64 (q : Nat), .int .i64 0] ∧ L' = A.C s' :: F ∧ x' = A.x s' := by
  have hle : n ≤ 1024 := by rw [R.hn]; exact pow_le R.hk
  unfold LenT at hs
  refine tr_of_body Try.func14 rfl Try.ntmps14 (by simp) fun um Q hQ => ?_
  simp only [argE, Nat.zero_add, Nat.reduceAdd]
  repeat (first
    | refine we_seq ?_
    | (refine we_region _ rfl rfl ?_; simp only [opsOf, List.map_cons, List.map_nil, Option.map_none, Option.map_some, List.getElem?_toArray, List.getElem?_cons_zero, List.getElem?_cons_succ, Option.bind_some, Option.getD_some])
    | refine wo_nil ?_
    | (apply wo_po; apply mo_move; exact rfl; (first | exact trivial | exact rfl))
    | (apply wo_po; apply mo_assign; exact rfl; (first | exact trivial | exact rfl)))
  refine wo_call (.cons rfl .nil) trivial (there_tr R hh) ?_
  rintro v1 L1 x1 ⟨rfl, rfl, rfl⟩
  repeat (first
    | refine we_seq ?_
    | (refine we_region _ rfl rfl ?_; simp only [opsOf, List.map_cons, List.map_nil, Option.map_none, Option.map_some, List.getElem?_toArray, List.getElem?_cons_zero, List.getElem?_cons_succ, Option.bind_some, Option.getD_some])
    | refine wo_nil ?_
    | (apply wo_po; apply mo_move; exact rfl; (first | exact trivial | exact rfl))
    | (apply wo_po; apply mo_nilCheck; exact rfl; (first | exact trivial | exact rfl))
    | (apply wo_po; apply mo_fieldAddr; exact rfl; exact rfl; (first | exact Nat.zero_add _ | exact rfl); (first | exact trivial | exact rfl))
    | (apply wo_po; apply mo_not; exact rfl; (first | exact trivial | exact rfl))
    | (apply we_condF; exact rfl; (first | exact rfl | (simp <;> omega) | omega))
    | refine we_skip ?_)
  refine wo_call (.cons rfl (.cons rfl (.cons rfl .nil))) trivial (load_tr (w := 0) R.a0 hs hh) ?_
  rintro v1 L1 x1 ⟨t, s1, ht, h1, rfl, rfl, rfl⟩
  repeat (first
    | refine we_seq ?_
    | (refine we_region _ rfl rfl ?_; simp only [opsOf, List.map_cons, List.map_nil, Option.map_none, Option.map_some, List.getElem?_toArray, List.getElem?_cons_zero, List.getElem?_cons_succ, Option.bind_some, Option.getD_some])
    | refine wo_nil ?_
    | (apply wo_po; apply mo_move; exact rfl; (first | exact trivial | exact rfl))
    | (apply wo_po; apply mo_assign; exact rfl; (first | exact trivial | exact rfl))
    | (apply wo_po; apply mo_nilCheck; exact rfl; (first | exact trivial | exact rfl))
    | (apply wo_po; apply mo_fieldAddr; exact rfl; exact rfl; (first | exact Nat.zero_add _ | exact rfl); (first | exact trivial | exact rfl)))
  refine wo_call (.cons rfl (.cons rfl (.cons rfl .nil))) trivial (load_tr (w := 1) R.a1 h1 .here) ?_
  rintro v1 L1 x1 ⟨p, s2, hp, h2, rfl, rfl, rfl⟩
  have hr := Rd.of (L := A.C s2 :: F) .here (R.hdr s2)
  have hsub : IntKind.u64.wrap ((p : Int) - (t : Int)) = (((p + 18446744073709551616 - t) % 18446744073709551616 : Nat) : Int) := by rw [wrap_u64_mod]; omega
  obtain ⟨d, hd⟩ : ∃ d, (p + 18446744073709551616 - t) % 18446744073709551616 = d := ⟨_, rfl⟩
  rw [hd] at hsub h2
  have hmin : (min (d : Int) (n : Int)) = ((min d n : Nat) : Int) := by omega
  repeat (first
    | (apply wo_po; apply mo_bin; exact rfl; exact rfl; apply bin_sub; exact hsub; exact trivial)
    | (apply wo_po; apply mo_load; exact rfl; exact hr; exact trivial)
    | refine we_seq ?_
    | (refine we_region _ rfl rfl ?_; simp only [opsOf, List.map_cons, List.map_nil, Option.map_none, Option.map_some, List.getElem?_toArray, List.getElem?_cons_zero, List.getElem?_cons_succ, Option.bind_some, Option.getD_some])
    | refine wo_nil ?_
    | (apply wo_po; apply mo_move; exact rfl; (first | exact trivial | exact rfl))
    | (apply wo_po; apply mo_assign; exact rfl; (first | exact trivial | exact rfl))
    | (apply wo_po; apply mo_nilCheck; exact rfl; (first | exact trivial | exact rfl))
    | (apply wo_po; apply mo_fieldAddr; exact rfl; exact rfl; (first | exact Nat.zero_add _ | exact rfl); (first | exact trivial | exact rfl))
    | (apply wo_po; apply mo_len; exact rfl; (first | exact trivial | exact rfl))
    | (apply wo_po; apply mo_conv; exact rfl; (first | exact wrap_i64 (by omega) (by omega) | exact wrap_u64 (by omega) (by omega)); (first | exact trivial | exact rfl))
    | (apply wo_po; apply mo_min; exact rfl; exact rfl; (first | exact trivial | exact rfl))
    | refine we_ret ?_)
  (first | refine at_ret2 (ex := .ret) Try.func14 Try.results14 hQ (.inl rfl) rfl rfl ?_ | refine at_ret2 (ex := .normal) Try.func14 Try.results14 hQ (.inr rfl) rfl rfl ?_)
  exact ⟨min d n, s2, h2, by omega, by rw [hmin], rfl, rfl⟩

end

section
variable {B : Hand} [Lets B] {L F : List HProp} {x : B.X}

/-- Slots of a ring that is there -/
theorem slots_tr {r b n : Nat} (hr : Rd L r 2 (.slice (some ⟨b, 0, none⟩) n n)) :
    Tr Try.prog B 16 [.pointer (some ⟨r, 0, none⟩)] L x fun v L' x' => v = .int .i64 (n : Nat) ∧ L' = L ∧ x' = x := by
  have th : Tr Try.prog B 38 [.pointer (some ⟨r, 0, none⟩)] L x fun v L' x' => v = .bool true ∧ L' = L ∧ x' = x := by
    refine tr_of_body Try.func38 rfl Try.ntmps38 (by simp) fun um Q hQ => ?_
    simp only [argE, Nat.zero_add, Nat.reduceAdd]
    repeat (first
      | (apply wo_po; apply mo_load; exact rfl; exact hr; exact rfl)
      | refine we_seq ?_
      | (refine we_region _ rfl rfl ?_; simp only [opsOf, List.map_cons, List.map_nil, Option.map_none, Option.map_some, List.getElem?_toArray, List.getElem?_cons_zero, List.getElem?_cons_succ, Option.bind_some, Option.getD_some])
      | refine wo_nil ?_
      | (apply wo_po; apply mo_move; exact rfl; (first | exact trivial | exact rfl))
      | (apply wo_po; apply mo_assign; exact rfl; (first | exact trivial | exact rfl))
      | (apply wo_po; apply mo_pickT; exact rfl; exact rfl; exact rfl; (first | exact trivial | exact rfl))
      | (apply wo_po; apply mo_nilCheck; exact rfl; (first | exact trivial | exact rfl))
      | (apply wo_po; apply mo_fieldAddr; exact rfl; exact rfl; (first | exact Nat.zero_add _ | exact rfl); (first | exact trivial | exact rfl))
      | (apply wo_po; apply mo_bin; exact rfl; exact rfl; apply bin_ne; apply eql_ptr_nil; (first | exact trivial | exact rfl))
      | (apply wo_po; apply mo_bin; exact rfl; exact rfl; apply bin_ne; apply eql_slice_nil; (first | exact trivial | exact rfl))
      | refine we_ret ?_)
    (first | refine at_ret1 (ex := .ret) Try.func38 Try.results38 hQ (.inl rfl) rfl ?_ | refine at_ret1 (ex := .normal) Try.func38 Try.results38 hQ (.inr rfl) rfl ?_)
    exact ⟨rfl, rfl, rfl⟩
  refine tr_of_body Try.func16 rfl Try.ntmps16 (by simp) fun um Q hQ => ?_
  simp only [argE, Nat.zero_add, Nat.reduceAdd]
  repeat (first
    | refine we_seq ?_
    | (refine we_region _ rfl rfl ?_; simp only [opsOf, List.map_cons, List.map_nil, Option.map_none, Option.map_some, List.getElem?_toArray, List.getElem?_cons_zero, List.getElem?_cons_succ, Option.bind_some, Option.getD_some])
    | refine wo_nil ?_
    | (apply wo_po; apply mo_move; exact rfl; (first | exact trivial | exact rfl))
    | (apply wo_po; apply mo_assign; exact rfl; (first | exact trivial | exact rfl)))
  refine wo_call (.cons rfl .nil) trivial th ?_
  rintro v1 L1 x1 ⟨rfl, rfl, rfl⟩
  repeat (first
    | (apply wo_po; apply mo_load; exact rfl; exact hr; exact trivial)
    | refine we_seq ?_
    | (refine we_region _ rfl rfl ?_; simp only [opsOf, List.map_cons, List.map_nil, Option.map_none, Option.map_some, List.getElem?_toArray, List.getElem?_cons_zero, List.getElem?_cons_succ, Option.bind_some, Option.getD_some])
    | refine wo_nil ?_
    | (apply wo_po; apply mo_move; exact rfl; (first | exact trivial | exact rfl))
    | (apply wo_po; apply mo_assign; exact rfl; (first | exact trivial | exact rfl))
    | (apply wo_po; apply mo_nilCheck; exact rfl; (first | exact trivial | exact rfl))
    | (apply wo_po; apply mo_fieldAddr; exact rfl; exact rfl; (first | exact Nat.zero_add _ | exact rfl); (first | exact trivial | exact rfl))
    | (apply wo_po; apply mo_not; exact rfl; (first | exact trivial | exact rfl))
    | (apply wo_po; apply mo_len; exact rfl; (first | exact trivial | exact rfl))
    | (apply we_condF; exact rfl; (first | exact rfl | (simp <;> omega) | omega))
    | refine we_ret ?_
    | refine we_skip ?_)
  (first | refine at_ret1 (ex := .ret) Try.func16 Try.results16 hQ (.inl rfl) rfl ?_ | refine at_ret1 (ex := .normal) Try.func16 Try.results16 hQ (.inr rfl) rfl ?_)
  exact ⟨rfl, rfl, rfl⟩

/-- a number of slots that may be -/
def mayR (n : Int) : Prop := ∃ k : Nat, k ≤ 10 ∧ n = ((2 ^ k : Nat) : Int)

theorem and_self_pow {m : Nat} (h1 : 1 ≤ m) (h2 : m ≤ 1024) : (m &&& (m - 1) = 0) ↔ ∃ k, k ≤ 10 ∧ m = 2 ^ k := by
  constructor
  · intro h
    have key : ∀ m ∈ List.range 1025, m &&& (m - 1) = 0 → m = 0 ∨ ∃ k ∈ List.range 11, m = 2 ^ k := by decide +kernel
    rcases key m (by simp; omega) h with h0 | ⟨k, hk, h0⟩
    · omega
    · exact ⟨k, by simp at hk; omega, h0⟩
  · rintro ⟨k, hk, rfl⟩
    have key : ∀ k ∈ List.range 11, (2 ^ k) &&& (2 ^ k - 1) = 0 := by decide +kernel
    exact key k (by simp; omega)

/-- New, where there may be such a ring -/
theorem new_tr {n k : Nat} (hn : n = 2 ^ k) (hk : k ≤ 10) :
    Tr Try.prog B 10 [.int .i64 n] L x fun v L' x' => ∃ r b, v = .tuple #[.pointer (some ⟨r, 0, none⟩), .int .i64 0] ∧ L' = arr r 0 [.int .u64 0, .int .u64 0, .slice (some ⟨b, 0, none⟩) n n] :: arr b 0 (zeros n [.int .u64 0]) :: L ∧ x' = x := by
  have hle : n ≤ 1024 := by rw [hn]; exact pow_le hk
  have hpos : 0 < n := by rw [hn]; exact Nat.two_pow_pos k
  have hand : IntKind.i64.wrap (BitVec.ofInt IntKind.i64.bits (n : Int) &&& BitVec.ofInt IntKind.i64.bits ((n : Int) - 1)).toNat = 0 := by
    have e1 : ((n : Int) - 1) = ((n - 1 : Nat) : Int) := by omega
    rw [e1, and_i64 (by omega) (by omega), (and_self_pow hpos hle).2 ⟨k, hk, hn⟩]; rfl
  refine tr_of_body Try.func10 rfl Try.ntmps10 (by simp) fun um Q hQ => ?_
  simp only [argE, Nat.zero_add, Nat.reduceAdd]
  repeat (first
    | (apply wo_po; apply mo_bin; exact rfl; exact rfl; apply bin_and; exact hand; (first | exact trivial | exact rfl))
    | (apply wo_mo; apply mo_make; exact rfl; exact rfl; exact rfl; omega; omega; exact trivial)
    | (apply wo_po; apply mo_bin; exact rfl; exact rfl; apply bin_lssF; omega; (first | exact trivial | exact rfl))
    | (apply wo_po; apply mo_bin; exact rfl; exact rfl; apply bin_gtrF; omega; (first | exact trivial | exact rfl))
    | (apply wo_po; apply mo_bin; exact rfl; exact rfl; apply bin_neqF; omega; (first | exact trivial | exact rfl))
    | refine we_seq ?_
    | (refine we_region _ rfl rfl ?_; simp only [opsOf, List.map_cons, List.map_nil, Option.map_none, Option.map_some, List.getElem?_toArray, List.getElem?_cons_zero, List.getElem?_cons_succ, Option.bind_some, Option.getD_some])
    | refine wo_nil ?_
    | (apply wo_po; apply mo_move; exact rfl; (first | exact trivial | exact rfl))
    | (apply wo_po; apply mo_assign; exact rfl; (first | exact trivial | exact rfl))
    | (apply wo_po; apply mo_pickF; exact rfl; exact rfl; exact rfl; (first | exact trivial | exact rfl))
    | (apply wo_po; apply mo_bin; exact rfl; exact rfl; apply bin_sub; exact wrap_i64 (by omega) (by omega); (first | exact trivial | exact rfl))
    | (apply we_condF; exact rfl; (first | exact rfl | (simp <;> omega) | omega))
    | refine we_skip ?_)
  rintro v' L' ⟨b, rfl, rfl⟩
  repeat (first
    | (apply wo_po; apply mo_build (pv := [(2, _)]); exact rfl; exact .cons rfl .nil; exact rfl; exact trivial)
    | (apply wo_mo; apply mo_box; exact rfl; exact trivial))
  rintro v' L' ⟨r, rfl, rfl⟩
  repeat (first
    | refine wo_nil ?_
    | (apply wo_po; apply mo_assign; exact rfl; (first | exact trivial | exact rfl))
    | refine we_ret ?_)
  (first | refine at_ret2 (ex := .ret) Try.func10 Try.results10 hQ (.inl rfl) rfl rfl ?_ | refine at_ret2 (ex := .normal) Try.func10 Try.results10 hQ (.inr rfl) rfl rfl ?_)
  exact ⟨r, b, rfl, rfl, rfl⟩

/-- New refuses -/
theorem new_tr' {n : Int} (hn : n < 1 ∨ 1024 < n) :
    Tr Try.prog B 10 [.int .i64 n] L x fun v L' x' => v = .tuple #[.pointer none, .int .i64 2] ∧ L' = L ∧ x' = x := by
  by_cases h1 : n < 1
  · refine tr_of_body Try.func10 rfl Try.ntmps10 (by simp) fun um Q hQ => ?_
    simp only [argE, Nat.zero_add, Nat.reduceAdd]
    repeat (first
      | (apply wo_po; apply mo_bin; exact rfl; exact rfl; apply bin_lssT; omega; (first | exact trivial | exact rfl))
      | refine we_seq ?_
      | (refine we_region _ rfl rfl ?_; simp only [opsOf, List.map_cons, List.map_nil, Option.map_none, Option.map_some, List.getElem?_toArray, List.getElem?_cons_zero, List.getElem?_cons_succ, Option.bind_some, Option.getD_some])
      | refine wo_nil ?_
      | (apply wo_po; apply mo_move; exact rfl; (first | exact trivial | exact rfl))
      | (apply wo_po; apply mo_assign; exact rfl; (first | exact trivial | exact rfl))
      | (apply wo_no; exact rfl)
      | (apply wo_po; apply mo_pickT; exact rfl; exact rfl; exact rfl; (first | exact trivial | exact rfl))
      | (apply we_condT; exact rfl; (first | exact rfl | (simp <;> omega) | omega))
      | refine we_ret ?_)
    (first | refine at_ret2 (ex := .ret) Try.func10 Try.results10 hQ (.inl rfl) rfl rfl ?_ | refine at_ret2 (ex := .normal) Try.func10 Try.results10 hQ (.inr rfl) rfl rfl ?_)
    exact ⟨rfl, rfl, rfl⟩
  · refine tr_of_body Try.func10 rfl Try.ntmps10 (by simp) fun um Q hQ => ?_
    simp only [argE, Nat.zero_add, Nat.reduceAdd]
    repeat (first
      | (apply wo_po; apply mo_bin; exact rfl; exact rfl; apply bin_lssF; omega; (first | exact trivial | exact rfl))
      | (apply wo_po; apply mo_bin; exact rfl; exact rfl; apply bin_gtrT; omega; (first | exact trivial | exact rfl))
      | refine we_seq ?_
      | (refine we_region _ rfl rfl ?_; simp only [opsOf, List.map_cons, List.map_nil, Option.map_none, Option.map_some, List.getElem?_toArray, List.getElem?_cons_zero, List.getElem?_cons_succ, Option.bind_some, Option.getD_some])
      | refine wo_nil ?_
      | (apply wo_po; apply mo_move; exact rfl; (first | exact trivial | exact rfl))
      | (apply wo_po; apply mo_assign; exact rfl; (first | exact trivial | exact rfl))
      | (apply wo_no; exact rfl)
      | (apply wo_po; apply mo_pickT; exact rfl; exact rfl; exact rfl; (first | exact trivial | exact rfl))
      | (apply wo_po; apply mo_pickF; exact rfl; exact rfl; exact rfl; (first | exact trivial | exact rfl))
      | (apply we_condT; exact rfl; (first | exact rfl | (simp <;> omega) | omega))
      | refine we_ret ?_)
    (first | refine at_ret2 (ex := .ret) Try.func10 Try.results10 hQ (.inl rfl) rfl rfl ?_ | refine at_ret2 (ex := .normal) Try.func10 Try.results10 hQ (.inr rfl) rfl rfl ?_)
    exact ⟨rfl, rfl, rfl⟩

end
end Go.Proofs.Ytdcbnbmahndecaa
