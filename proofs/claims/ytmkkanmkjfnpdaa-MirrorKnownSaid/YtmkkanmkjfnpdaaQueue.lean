/-
  THE QUEUE's FUNCTIONS (package queue), over whatever access to its words and its gate.
-/
import Derived.Test.YtmkkanmkjfnpdaaAcc
import Derived.Test.YtmkkanmkjfnpdaaFo
set_option linter.unusedVariables false
set_option linter.unusedSimpArgs false
namespace Go.Proofs.Ytmkkanmkjfnpdaa
open Go Go.PB
attribute [local irreducible] Mo Bin Eql Tr Wo Ap Wle

/-- a queue that is there, as an access sees it: block r, its slots in block b, 2^k of them, two cells each -/
structure QueueAt {B : Hand} {gv : Value} (A : Acc B gv) (r b n k : Nat) : Prop where
  hn : n = 2 ^ k
  hk : k ≤ 10
  hdr : ∀ s, Rd [A.C s] r 2 (.slice (some ⟨b, 0, none⟩) n n)
  a0 : A.addr 0 = (r, 0)
  a1 : A.addr 1 = (r, 1)
  a2 : ∀ i : Nat, i < 2 * n → A.addr (2 + i) = (b, i)

section
variable {B : Hand} [Lets B] {gv : Value} {A : Acc B gv} {r b n k : Nat} {L F : List HProp}

theorem there_tr (R : QueueAt A r b n k) {s : A.S} (hh : Has L (A.C s) F) :
    Tr Try.prog B 66 [.pointer (some ⟨r, 0, none⟩)] L (A.x s) fun v L' x' => v = .bool true ∧ L' = L ∧ x' = A.x s := by
  have hr := Rd.of hh (R.hdr s)
  refine tr_of_body Try.func66 rfl Try.ntmps66 (by simp) fun um Q hQ => ?_
  simp only [argE, Nat.zero_add, Nat.reduceAdd]
  repeat (first
    | (apply wo_po; apply mo_load; exact rfl; exact hr; exact rfl)
    | refine we_seq ?_
    | (refine we_region _ rfl rfl ?_; simp only [opsOf, List.map_cons, List.map_nil, Option.map_none, Option.map_some, List.getElem?_toArray, List.getElem?_cons_zero, List.getElem?_cons_succ, Option.bind_some, Option.getD_some])
    | refine wo_nil ?_
    | (apply wo_po; apply mo_move; exact rfl; (first | exact trivial | exact rfl))
    | (apply wo_po; apply mo_assign; exact rfl; (first | exact trivial | exact rfl))
    | (apply wo_po; apply mo_pickT; exact rfl; exact rfl; exact rfl; (first | exact trivial | exact rfl))
    | (apply wo_po; apply mo_nilCheck; exact rfl; (first | exact trivial | exact rfl))
    | (apply wo_po; apply mo_fieldAddr; exact rfl; exact rfl; (first | exact Nat.zero_add _ | exact rfl); (first | exact trivial | exact rfl))
    | (apply wo_po; apply mo_bin; exact rfl; exact rfl; apply bin_ne; apply eql_ptr_nil; (first | exact trivial | exact rfl))
    | (apply wo_po; apply mo_bin; exact rfl; exact rfl; apply bin_ne; apply eql_slice_nil; (first | exact trivial | exact rfl))
    | refine we_ret ?_)
  (first | refine at_ret1 (ex := .ret) Try.func66 Try.results66 hQ (.inl rfl) rfl ?_ | refine at_ret1 (ex := .normal) Try.func66 Try.results66 hQ (.inr rfl) rfl ?_)
  exact ⟨rfl, rfl, rfl⟩

/-- the gate is told -/
theorem step_tr {op : Int} {w : Nat} {s : A.S} {T : A.S → Prop} (hs : A.step op w s T) (hh : Has L (A.C s) F) :
    Tr Try.prog B 68 [gv, .int .u8 op, .int .i64 w] L (A.x s) fun v L' x' => ∃ s', T s' ∧ v = .tuple #[] ∧ L' = A.C s' :: F ∧ x' = A.x s' := by
  rcases A.gate with ⟨rfl, hg⟩ | ⟨t, p, f, rfl, hm, he, hg⟩
  · refine tr_of_body Try.func68 rfl Try.ntmps68 (by simp) fun um Q hQ => ?_
    simp only [argE, Nat.zero_add, Nat.reduceAdd]
    repeat (first
      | refine we_seq ?_
      | (refine we_region _ rfl rfl ?_; simp only [opsOf, List.map_cons, List.map_nil, Option.map_none, Option.map_some, List.getElem?_toArray, List.getElem?_cons_zero, List.getElem?_cons_succ, Option.bind_some, Option.getD_some])
      | refine wo_nil ?_
      | (apply wo_po; apply mo_move; exact rfl; (first | exact trivial | exact rfl))
      | (apply wo_po; apply mo_bin; exact rfl; exact rfl; apply bin_ne; apply eql_nil_nil; (first | exact trivial | exact rfl))
      | (apply we_condF; exact rfl; (first | exact rfl | (simp <;> omega) | omega))
      | refine we_skip ?_)
    refine at_ent _ (Ent.take hh .refl) ?_
    (first | refine at_ret0 (ex := .ret) Try.func68 Try.results68 hQ (.inl rfl) ?_ | refine at_ret0 (ex := .normal) Try.func68 Try.results68 hQ (.inr rfl) ?_)
    exact ⟨s, hg _ _ _ _ hs, rfl, rfl, rfl⟩
  · refine tr_of_body Try.func68 rfl Try.ntmps68 (by simp) fun um Q hQ => ?_
    simp only [argE, Nat.zero_add, Nat.reduceAdd]
    repeat (first
      | (apply wo_po; apply mo_build (pv := [(0, _), (1, _)]); exact rfl; exact .cons rfl (.cons rfl .nil); exact rfl; exact trivial)
      | refine we_seq ?_
      | (refine we_region _ rfl rfl ?_; simp only [opsOf, List.map_cons, List.map_nil, Option.map_none, Option.map_some, List.getElem?_toArray, List.getElem?_cons_zero, List.getElem?_cons_succ, Option.bind_some, Option.getD_some])
      | refine wo_nil ?_
      | (apply wo_po; apply mo_move; exact rfl; (first | exact trivial | exact rfl))
      | (apply wo_po; apply mo_bin; exact rfl; exact rfl; apply bin_ne; apply eql_iface_nil; (first | exact trivial | exact rfl))
      | (apply we_condT; exact rfl; (first | exact rfl | (simp <;> omega) | omega)))
    refine wo_invoke (args := [_]) rfl (.cons rfl .nil) trivial (hg op w s T L F hs hh) ?_
    rintro v L' x' ⟨s', h1, rfl, rfl, rfl⟩
    repeat (first
      | refine wo_nil ?_)
    (first | refine at_ret0 (ex := .ret) Try.func68 Try.results68 hQ (.inl rfl) ?_ | refine at_ret0 (ex := .normal) Try.func68 Try.results68 hQ (.inr rfl) ?_)
    exact ⟨s', h1, rfl, rfl, rfl⟩

/-- one try of draw: word w; whose; what is asked of the outcome; X: once more -/
def DrawF (A : Acc B gv) (n w whose : Nat) (Q : Option Nat → A.S → Prop) (X : A.S → Prop) (s : A.S) : Prop :=
  A.step 1 w s fun s => A.load w s fun t s => A.step 1 (2 + 2 * (t % n)) s fun s => A.load (2 + 2 * (t % n)) s fun q s =>
    if 9223372036854775808 ≤ (q + 36893488147419103232 - t - whose) % 18446744073709551616 then Q none s
    else if 0 < (q + 36893488147419103232 - t - whose) % 18446744073709551616 then X s
    else A.step 5 w s fun s => A.cas w t ((t + 1) % 18446744073709551616) s fun c s => if c then Q (some t) s else X s

/-- WHAT draw DOES: tries, until one tells (the least such) -/
def DrawT (A : Acc B gv) (n w whose : Nat) (s : A.S) (Q : Option Nat → A.S → Prop) : Prop :=
  ∀ X : A.S → Prop, (∀ s, DrawF A n w whose Q X s → X s) → X s

theorem draw_tr (R : QueueAt A r b n k) {w whose : Nat} (hw : w = 0 ∨ w = 1) (hwh : whose ≤ 1) {s : A.S} {G : Option Nat → A.S → Prop} (hs : DrawT A n w whose s G) (hh : Has L (A.C s) F) :
    Tr Try.prog B 67 [.pointer (some ⟨r, 0, none⟩), gv, .int .i64 w, .pointer (some ⟨r, w, none⟩), .int .u64 whose] L (A.x s) fun v' L' x' => ∃ q s', G q s' ∧
      (match q with
        | none => v' = .tuple #[.int .u64 0, .int .i64 0, .bool false]
        | some t => t < 18446744073709551616 ∧ v' = .tuple #[.int .u64 (t : Nat), .int .i64 ((t % n : Nat) : Int), .bool true]) ∧ L' = A.C s' :: F ∧ x' = A.x s' := by
  have hle : n ≤ 1024 := by rw [R.hn]; exact pow_le R.hk
  have hpos : 0 < n := by rw [R.hn]; exact Nat.two_pow_pos k
  have aw : A.addr w = (r, w) := by rcases hw with rfl | rfl; exact R.a0; exact R.a1
  refine tr_of_body Try.func67 rfl Try.ntmps67 (by simp) fun um Q hQ => ?_
  simp only [argE, Nat.zero_add, Nat.reduceAdd]
  repeat (first
    | refine we_seq ?_
    | (refine we_region _ rfl rfl ?_; simp only [opsOf, List.map_cons, List.map_nil, Option.map_none, Option.map_some, List.getElem?_toArray, List.getElem?_cons_zero, List.getElem?_cons_succ, Option.bind_some, Option.getD_some])
    | refine wo_nil ?_
    | (apply wo_po; apply mo_assign; exact rfl; (first | exact trivial | exact rfl))
    | refine we_label ?_
    | refine we_block ?_
    | refine we_scope ?_)
  refine we_lfp (DrawF A n w whose G) (fun s => A.C s :: F) A.x s hs [(0, .pointer (some ⟨r, 0, none⟩)), (1, gv), (2, .int .i64 w), (3, .pointer (some ⟨r, w, none⟩)), (4, .int .u64 whose)] ⟨rfl, rfl, rfl, rfl, rfl, trivial⟩ (.take hh .refl) rfl ?_
  intro s hs
  repeat (first
    | refine we_seq ?_
    | (refine we_region _ rfl rfl ?_; simp only [opsOf, List.map_cons, List.map_nil, Option.map_none, Option.map_some, List.getElem?_toArray, List.getElem?_cons_zero, List.getElem?_cons_succ, Option.bind_some, Option.getD_some])
    | (apply wo_po; apply mo_move; exact rfl; (first | exact trivial | exact rfl))
    | refine we_block ?_)
  refine wo_call (.cons rfl (.cons rfl (.cons rfl .nil))) trivial (step_tr hs .here) ?_
  rintro v1 L1 x1 ⟨s1, h1, rfl, rfl, rfl⟩
  repeat (first
    | refine we_seq ?_
    | (refine we_region _ rfl rfl ?_; simp only [opsOf, List.map_cons, List.map_nil, Option.map_none, Option.map_some, List.getElem?_toArray, List.getElem?_cons_zero, List.getElem?_cons_succ, Option.bind_some, Option.getD_some])
    | refine wo_nil ?_
    | (apply wo_po; apply mo_move; exact rfl; (first | exact trivial | exact rfl)))
  refine wo_call (.cons rfl .nil) trivial (A.load_ok _ _ _ _ _ _ _ aw h1 .here) ?_
  rintro v1 L1 x1 ⟨t, s2, ht, h2, rfl, rfl, rfl⟩
  have hpow := and_pow2 R.hn R.hk (p := t) (by omega) (by omega)
  rw [Int.toNat_natCast] at hpow
  obtain ⟨m, hm⟩ : ∃ m, t % n = m := ⟨_, rfl⟩
  have hmod : m < n := by rw [← hm]; exact Nat.mod_lt _ hpos
  rw [hm] at hpow h2
  have hr : Rd (A.C s2 :: F) r 2 _ := Rd.of .here (R.hdr s2)
  have hw2 : IntKind.i64.wrap ((2 : Int) + 2 * (m : Int)) = ((2 + 2 * m : Nat) : Int) := by rw [wrap_i64 (by omega) (by omega)]; omega
  repeat (first
    | (apply wo_po; apply mo_bin; exact rfl; exact rfl; apply bin_and; exact hpow; exact trivial)
    | (apply wo_po; apply mo_load; exact rfl; exact hr; exact trivial)
    | (apply wo_po; apply mo_bin; exact rfl; exact rfl; apply bin_mul; exact wrap_i64 (by omega) (by omega); exact trivial)
    | (apply wo_po; apply mo_bin; exact rfl; exact rfl; apply bin_add; exact hw2; exact trivial)
    | refine we_seq ?_
    | (refine we_region _ rfl rfl ?_; simp only [opsOf, List.map_cons, List.map_nil, Option.map_none, Option.map_some, List.getElem?_toArray, List.getElem?_cons_zero, List.getElem?_cons_succ, Option.bind_some, Option.getD_some])
    | refine wo_nil ?_
    | (apply wo_po; apply mo_move; exact rfl; (first | exact trivial | exact rfl))
    | (apply wo_po; apply mo_assign; exact rfl; (first | exact trivial | exact rfl))
    | (apply wo_po; apply mo_nilCheck; exact rfl; (first | exact trivial | exact rfl))
    | (apply wo_po; apply mo_fieldAddr; exact rfl; exact rfl; (first | exact Nat.zero_add _ | exact rfl); (first | exact trivial | exact rfl))
    | (apply wo_po; apply mo_bin; exact rfl; exact rfl; apply bin_sub; exact wrap_i64 (by omega) (by omega); (first | exact trivial | exact rfl))
    | (apply wo_po; apply mo_len; exact rfl; (first | exact trivial | exact rfl))
    | (apply wo_po; apply mo_conv; exact rfl; (first | exact wrap_i64 (by omega) (by omega) | exact wrap_u64 (by omega) (by omega)); (first | exact trivial | exact rfl)))
  refine wo_call (.cons rfl (.cons rfl (.cons rfl .nil))) trivial (step_tr h2 .here) ?_
  rintro v1 L1 x1 ⟨s3, h3, rfl, rfl, rfl⟩
  have hr3 : Rd (A.C s3 :: F) r 2 _ := Rd.of .here (R.hdr s3)
  repeat (first
    | (apply wo_po; apply mo_load; exact rfl; exact hr3; exact trivial)
    | (apply wo_po; apply mo_indexAddr (r := 2 * m); exact rfl; exact rfl; omega; omega; omega; exact trivial)
    | refine we_seq ?_
    | (refine we_region _ rfl rfl ?_; simp only [opsOf, List.map_cons, List.map_nil, Option.map_none, Option.map_some, List.getElem?_toArray, List.getElem?_cons_zero, List.getElem?_cons_succ, Option.bind_some, Option.getD_some])
    | refine wo_nil ?_
    | (apply wo_po; apply mo_move; exact rfl; (first | exact trivial | exact rfl))
    | (apply wo_po; apply mo_nilCheck; exact rfl; (first | exact trivial | exact rfl))
    | (apply wo_po; apply mo_fieldAddr; exact rfl; exact rfl; (first | exact Nat.zero_add _ | exact rfl); (first | exact trivial | exact rfl)))
  refine wo_call (.cons rfl .nil) trivial (A.load_ok _ _ _ _ _ _ _ (R.a2 (2 * m) (by omega)) h3 .here) ?_
  rintro v1 L1 x1 ⟨q, s4, hq, h4, rfl, rfl, rfl⟩
  have hsub1 : IntKind.u64.wrap ((q : Int) - (t : Int)) = (((q + 18446744073709551616 - t) % 18446744073709551616 : Nat) : Int) := by rw [wrap_u64_mod]; omega
  have hsub2 : IntKind.u64.wrap ((((q + 18446744073709551616 - t) % 18446744073709551616 : Nat) : Int) - (whose : Int)) = (((q + 36893488147419103232 - t - whose) % 18446744073709551616 : Nat) : Int) := by rw [wrap_u64_mod]; omega
  obtain ⟨d, hd⟩ : ∃ d, (q + 36893488147419103232 - t - whose) % 18446744073709551616 = d := ⟨_, rfl⟩
  obtain ⟨d0, hd0⟩ : ∃ d, (q + 18446744073709551616 - t) % 18446744073709551616 = d := ⟨_, rfl⟩
  rw [hd0] at hsub1 hsub2
  rw [hd] at hsub2 h4
  have hd64 : d < 18446744073709551616 := by rw [← hd]; exact Nat.mod_lt _ (by decide)
  clear hd hd0
  obtain ⟨sd, hsd⟩ : ∃ sd, IntKind.i64.wrap (d : Int) = sd := ⟨_, rfl⟩
  have hsd' := hsd
  rw [wrap_i64_s hd64] at hsd'
  by_cases c1 : 9223372036854775808 ≤ d
  · rw [if_pos c1] at h4
    have hneg : sd < 0 := by rw [if_neg (by omega)] at hsd'; omega
    clear hsd'
    repeat (first
      | (apply wo_po; apply mo_bin; exact rfl; exact rfl; apply bin_sub; exact hsub1; exact trivial)
      | (apply wo_po; apply mo_bin; exact rfl; exact rfl; apply bin_sub; exact hsub2; exact trivial)
      | (apply wo_po; apply mo_conv; exact rfl; exact hsd; exact trivial)
      | (apply wo_po; apply mo_bin; exact rfl; exact rfl; apply bin_lssT; omega; (first | exact trivial | exact rfl))
      | refine we_seq ?_
      | (refine we_region _ rfl rfl ?_; simp only [opsOf, List.map_cons, List.map_nil, Option.map_none, Option.map_some, List.getElem?_toArray, List.getElem?_cons_zero, List.getElem?_cons_succ, Option.bind_some, Option.getD_some])
      | refine wo_nil ?_
      | (apply wo_po; apply mo_move; exact rfl; (first | exact trivial | exact rfl))
      | (apply wo_po; apply mo_assign; exact rfl; (first | exact trivial | exact rfl))
      | (apply we_condT; exact rfl; (first | exact rfl | (simp <;> omega) | omega))
      | refine we_ret ?_
      | refine we_block ?_)
    (first | refine at_ret3 (ex := .ret) Try.func67 Try.results67 hQ (.inl rfl) rfl rfl rfl ?_ | refine at_ret3 (ex := .normal) Try.func67 Try.results67 hQ (.inr rfl) rfl rfl rfl ?_)
    exact ⟨none, s4, h4, rfl, rfl, rfl⟩
  · rw [if_neg c1] at h4
    by_cases c2 : 0 < d
    · rw [if_pos c2] at h4
      have hneg : 0 < sd := by rw [if_pos (by omega)] at hsd'; omega
      clear hsd'
      repeat (first
        | (apply wo_po; apply mo_bin; exact rfl; exact rfl; apply bin_sub; exact hsub1; exact trivial)
        | (apply wo_po; apply mo_bin; exact rfl; exact rfl; apply bin_sub; exact hsub2; exact trivial)
        | (apply wo_po; apply mo_conv; exact rfl; exact hsd; exact trivial)
        | (apply wo_po; apply mo_bin; exact rfl; exact rfl; apply bin_lssF; omega; (first | exact trivial | exact rfl))
        | (apply wo_po; apply mo_bin; exact rfl; exact rfl; apply bin_gtrT; omega; (first | exact trivial | exact rfl))
        | refine we_seq ?_
        | (refine we_region _ rfl rfl ?_; simp only [opsOf, List.map_cons, List.map_nil, Option.map_none, Option.map_some, List.getElem?_toArray, List.getElem?_cons_zero, List.getElem?_cons_succ, Option.bind_some, Option.getD_some])
        | refine wo_nil ?_
        | (apply wo_po; apply mo_move; exact rfl; (first | exact trivial | exact rfl))
        | (apply wo_po; apply mo_assign; exact rfl; (first | exact trivial | exact rfl))
        | (apply we_condT; exact rfl; (first | exact rfl | (simp <;> omega) | omega))
        | (apply we_condF; exact rfl; (first | exact rfl | (simp <;> omega) | omega))
        | refine we_block ?_
        | refine we_exit ?_)
      exact at_again h4 ⟨rfl, rfl, rfl, rfl, rfl, trivial⟩ .refl
    · rw [if_neg c2] at h4
      have hneg : sd = 0 := by rw [if_pos (by omega)] at hsd'; omega
      clear hsd'
      repeat (first
        | (apply wo_po; apply mo_bin; exact rfl; exact rfl; apply bin_sub; exact hsub1; exact trivial)
        | (apply wo_po; apply mo_bin; exact rfl; exact rfl; apply bin_sub; exact hsub2; exact trivial)
        | (apply wo_po; apply mo_conv; exact rfl; exact hsd; exact trivial)
        | (apply wo_po; apply mo_bin; exact rfl; exact rfl; apply bin_lssF; omega; (first | exact trivial | exact rfl))
        | (apply wo_po; apply mo_bin; exact rfl; exact rfl; apply bin_gtrF; omega; (first | exact trivial | exact rfl))
        | refine we_seq ?_
        | (refine we_region _ rfl rfl ?_; simp only [opsOf, List.map_cons, List.map_nil, Option.map_none, Option.map_some, List.getElem?_toArray, List.getElem?_cons_zero, List.getElem?_cons_succ, Option.bind_some, Option.getD_some])
        | refine wo_nil ?_
        | (apply wo_po; apply mo_move; exact rfl; (first | exact trivial | exact rfl))
        | (apply wo_po; apply mo_assign; exact rfl; (first | exact trivial | exact rfl))
        | (apply we_condF; exact rfl; (first | exact rfl | (simp <;> omega) | omega))
        | refine we_skip ?_
        | refine we_block ?_)
      refine wo_call (.cons rfl (.cons rfl (.cons rfl .nil))) trivial (step_tr h4 .here) ?_
      rintro v1 L1 x1 ⟨s5, h5, rfl, rfl, rfl⟩
      have hadd : IntKind.u64.wrap ((t : Int) + 1) = (((t + 1) % 18446744073709551616 : Nat) : Int) := by rw [wrap_u64_mod]; omega
      repeat (first
        | (apply wo_po; apply mo_bin; exact rfl; exact rfl; apply bin_add; exact hadd; exact trivial)
        | refine we_seq ?_
        | (refine we_region _ rfl rfl ?_; simp only [opsOf, List.map_cons, List.map_nil, Option.map_none, Option.map_some, List.getElem?_toArray, List.getElem?_cons_zero, List.getElem?_cons_succ, Option.bind_some, Option.getD_some])
        | refine wo_nil ?_
        | (apply wo_po; apply mo_move; exact rfl; (first | exact trivial | exact rfl)))
      refine wo_call (.cons rfl (.cons rfl (.cons rfl .nil))) trivial (A.cas_ok _ _ _ _ _ _ _ _ _ aw (Nat.mod_lt _ (by decide)) h5 .here) ?_
      rintro v1 L1 x1 ⟨c, s6, h6, rfl, rfl, rfl⟩
      cases c
      · simp only [Bool.false_eq_true, if_false] at h6
        repeat (first
          | refine wo_nil ?_
          | (apply we_condF; exact rfl; (first | exact rfl | (simp <;> omega) | omega))
          | refine we_skip ?_)
        exact at_again h6 ⟨rfl, rfl, rfl, rfl, rfl, trivial⟩ .refl
      · repeat (first
          | refine we_seq ?_
          | (refine we_region _ rfl rfl ?_; simp only [opsOf, List.map_cons, List.map_nil, Option.map_none, Option.map_some, List.getElem?_toArray, List.getElem?_cons_zero, List.getElem?_cons_succ, Option.bind_some, Option.getD_some])
          | refine wo_nil ?_
          | (apply wo_po; apply mo_move; exact rfl; (first | exact trivial | exact rfl))
          | (apply wo_po; apply mo_assign; exact rfl; (first | exact trivial | exact rfl))
          | (apply we_condT; exact rfl; (first | exact rfl | (simp <;> omega) | omega))
          | refine we_ret ?_)
        (first | refine at_ret3 (ex := .ret) Try.func67 Try.results67 hQ (.inl rfl) rfl rfl rfl ?_ | refine at_ret3 (ex := .normal) Try.func67 Try.results67 hQ (.inr rfl) rfl rfl rfl ?_)
        exact ⟨some t, s6, by simpa using h6, ⟨ht, by rw [hm]⟩, rfl, rfl⟩


/-- a value word is loaded or stored; Q: what is asked -/
def PutT (A : Acc B gv) (n v : Nat) (s : A.S) (G : Bool → A.S → Prop) : Prop :=
  DrawT A n 0 0 s fun q s => match q with
    | none => G false s
    | some t => A.step 2 (3 + 2 * (t % n)) s fun s => A.store (3 + 2 * (t % n)) v s fun s => A.step 2 (2 + 2 * (t % n)) s fun s => A.store (2 + 2 * (t % n)) ((t + 1) % 18446744073709551616) s (G true)

def TakeT (A : Acc B gv) (n : Nat) (s : A.S) (G : Option Nat → A.S → Prop) : Prop :=
  DrawT A n 1 1 s fun q s => match q with
    | none => G none s
    | some t => A.step 1 (3 + 2 * (t % n)) s fun s => A.load (3 + 2 * (t % n)) s fun v s => A.step 2 (2 + 2 * (t % n)) s fun s => A.store (2 + 2 * (t % n)) ((t + n) % 18446744073709551616) s (G (some v))

theorem put_tr (R : QueueAt A r b n k) {v : Nat} (hv : v < 18446744073709551616) {s : A.S} {G : Bool → A.S → Prop} (hs : PutT A n v s G) (hh : Has L (A.C s) F) :
    Tr Try.prog B 45 [.pointer (some ⟨r, 0, none⟩), gv, .int .u64 v] L (A.x s) fun v' L' x' => ∃ q s', G q s' ∧ v' = .tuple #[.bool q, .int .i64 0] ∧ L' = A.C s' :: F ∧ x' = A.x s' := by
  have hle : n ≤ 1024 := by rw [R.hn]; exact pow_le R.hk
  have hpos : 0 < n := by rw [R.hn]; exact Nat.two_pow_pos k
  unfold PutT at hs
  refine tr_of_body Try.func45 rfl Try.ntmps45 (by simp) fun um Q hQ => ?_
  simp only [argE, Nat.zero_add, Nat.reduceAdd]
  repeat (first
    | refine we_seq ?_
    | (refine we_region _ rfl rfl ?_; simp only [opsOf, List.map_cons, List.map_nil, Option.map_none, Option.map_some, List.getElem?_toArray, List.getElem?_cons_zero, List.getElem?_cons_succ, Option.bind_some, Option.getD_some])
    | refine wo_nil ?_
    | (apply wo_po; apply mo_move; exact rfl; (first | exact trivial | exact rfl))
    | (apply wo_po; apply mo_assign; exact rfl; (first | exact trivial | exact rfl)))
  refine wo_call (.cons rfl .nil) trivial (there_tr R hh) ?_
  rintro v1 L1 x1 ⟨rfl, rfl, rfl⟩
  repeat (first
    | refine we_seq ?_
    | (refine we_region _ rfl rfl ?_; simp only [opsOf, List.map_cons, List.map_nil, Option.map_none, Option.map_some, List.getElem?_toArray, List.getElem?_cons_zero, List.getElem?_cons_succ, Option.bind_some, Option.getD_some])
    | refine wo_nil ?_
    | (apply wo_po; apply mo_move; exact rfl; (first | exact trivial | exact rfl))
    | (apply wo_po; apply mo_nilCheck; exact rfl; (first | exact trivial | exact rfl))
    | (apply wo_po; apply mo_fieldAddr; exact rfl; exact rfl; (first | exact Nat.zero_add _ | exact rfl); (first | exact trivial | exact rfl))
    | (apply wo_po; apply mo_not; exact rfl; (first | exact trivial | exact rfl))
    | (apply we_condF; exact rfl; (first | exact rfl | (simp <;> omega) | omega))
    | refine we_skip ?_)
  refine wo_call (.cons rfl (.cons rfl (.cons rfl (.cons rfl (.cons rfl .nil))))) trivial (draw_tr (w := 0) (whose := 0) R (.inl rfl) (by omega) hs hh) ?_
  rintro v1 L1 x1 ⟨q, s1, h1, h2, rfl, rfl⟩
  cases q with
  | none =>
    subst h2
    repeat (first
      | refine we_seq ?_
      | (refine we_region _ rfl rfl ?_; simp only [opsOf, List.map_cons, List.map_nil, Option.map_none, Option.map_some, List.getElem?_toArray, List.getElem?_cons_zero, List.getElem?_cons_succ, Option.bind_some, Option.getD_some])
      | refine wo_nil ?_
      | (apply wo_po; apply mo_move; exact rfl; (first | exact trivial | exact rfl))
      | (apply wo_po; apply mo_assign; exact rfl; (first | exact trivial | exact rfl))
      | (apply wo_po; apply mo_extract; exact rfl; exact rfl; (first | exact trivial | exact rfl))
      | (apply wo_po; apply mo_not; exact rfl; (first | exact trivial | exact rfl))
      | (apply we_condT; exact rfl; (first | exact rfl | (simp <;> omega) | omega))
      | refine we_ret ?_)
    (first | refine at_ret2 (ex := .ret) Try.func45 Try.results45 hQ (.inl rfl) rfl rfl ?_ | refine at_ret2 (ex := .normal) Try.func45 Try.results45 hQ (.inr rfl) rfl rfl ?_)
    exact ⟨false, s1, h1, rfl, rfl, rfl⟩
  | some t =>
    obtain ⟨ht, rfl⟩ := h2
    obtain ⟨m, hm⟩ : ∃ m, t % n = m := ⟨_, rfl⟩
    have hmod : m < n := by rw [← hm]; exact Nat.mod_lt _ hpos
    simp only at h1
    rw [hm] at h1 ⊢
    have hw2 : IntKind.i64.wrap ((2 : Int) + 2 * (m : Int)) = ((2 + 2 * m : Nat) : Int) := by rw [wrap_i64 (by omega) (by omega)]; omega
    have hw3 : IntKind.i64.wrap ((3 : Int) + 2 * (m : Int)) = ((3 + 2 * m : Nat) : Int) := by rw [wrap_i64 (by omega) (by omega)]; omega
    have a3 : A.addr (3 + 2 * m) = (b, 2 * m + 1) := by rw [show 3 + 2 * m = 2 + (2 * m + 1) by omega]; exact R.a2 _ (by omega)
    repeat (first
      | (apply wo_po; apply mo_bin; exact rfl; exact rfl; apply bin_mul; exact wrap_i64 (by omega) (by omega); exact trivial)
      | (apply wo_po; apply mo_bin; exact rfl; exact rfl; apply bin_add; exact hw3; exact trivial)
      | refine we_seq ?_
      | (refine we_region _ rfl rfl ?_; simp only [opsOf, List.map_cons, List.map_nil, Option.map_none, Option.map_some, List.getElem?_toArray, List.getElem?_cons_zero, List.getElem?_cons_succ, Option.bind_some, Option.getD_some])
      | refine wo_nil ?_
      | (apply wo_po; apply mo_move; exact rfl; (first | exact trivial | exact rfl))
      | (apply wo_po; apply mo_assign; exact rfl; (first | exact trivial | exact rfl))
      | (apply wo_po; apply mo_extract; exact rfl; exact rfl; (first | exact trivial | exact rfl))
      | (apply wo_po; apply mo_not; exact rfl; (first | exact trivial | exact rfl))
      | (apply we_condF; exact rfl; (first | exact rfl | (simp <;> omega) | omega))
      | refine we_skip ?_)
    refine wo_call (.cons rfl (.cons rfl (.cons rfl .nil))) trivial (step_tr h1 .here) ?_
    rintro v1 L1 x1 ⟨s3, h3, rfl, rfl, rfl⟩
    have hr3 : Rd (A.C s3 :: F) r 2 _ := Rd.of .here (R.hdr s3)
    repeat (first
      | (apply wo_po; apply mo_load; exact rfl; exact hr3; exact trivial)
      | (apply wo_po; apply mo_indexAddr (r := 2 * m); exact rfl; exact rfl; omega; omega; omega; exact trivial)
      | refine we_seq ?_
      | (refine we_region _ rfl rfl ?_; simp only [opsOf, List.map_cons, List.map_nil, Option.map_none, Option.map_some, List.getElem?_toArray, List.getElem?_cons_zero, List.getElem?_cons_succ, Option.bind_some, Option.getD_some])
      | refine wo_nil ?_
      | (apply wo_po; apply mo_move; exact rfl; (first | exact trivial | exact rfl))
      | (apply wo_po; apply mo_nilCheck; exact rfl; (first | exact trivial | exact rfl))
      | (apply wo_po; apply mo_fieldAddr; exact rfl; exact rfl; (first | exact Nat.zero_add _ | exact rfl); (first | exact trivial | exact rfl)))
    refine wo_call (.cons rfl (.cons rfl .nil)) trivial (A.store_ok _ _ _ _ _ _ _ _ a3 hv h3 .here) ?_
    rintro v1 L1 x1 ⟨s4, h4, rfl, rfl, rfl⟩
    repeat (first
      | (apply wo_po; apply mo_bin; exact rfl; exact rfl; apply bin_mul; exact wrap_i64 (by omega) (by omega); exact trivial)
      | (apply wo_po; apply mo_bin; exact rfl; exact rfl; apply bin_add; exact hw2; exact trivial)
      | refine we_seq ?_
      | (refine we_region _ rfl rfl ?_; simp only [opsOf, List.map_cons, List.map_nil, Option.map_none, Option.map_some, List.getElem?_toArray, List.getElem?_cons_zero, List.getElem?_cons_succ, Option.bind_some, Option.getD_some])
      | refine wo_nil ?_
      | (apply wo_po; apply mo_move; exact rfl; (first | exact trivial | exact rfl)))
    refine wo_call (.cons rfl (.cons rfl (.cons rfl .nil))) trivial (step_tr h4 .here) ?_
    rintro v1 L1 x1 ⟨s5, h5, rfl, rfl, rfl⟩
    have hr5 : Rd (A.C s5 :: F) r 2 _ := Rd.of .here (R.hdr s5)
    have hadd : IntKind.u64.wrap ((t : Int) + 1) = (((t + 1) % 18446744073709551616 : Nat) : Int) := by rw [wrap_u64_mod]; omega
    repeat (first
      | (apply wo_po; apply mo_load; exact rfl; exact hr5; exact trivial)
      | (apply wo_po; apply mo_indexAddr (r := 2 * m); exact rfl; exact rfl; omega; omega; omega; exact trivial)
      | (apply wo_po; apply mo_bin; exact rfl; exact rfl; apply bin_add; exact hadd; exact trivial)
      | refine we_seq ?_
      | (refine we_region _ rfl rfl ?_; simp only [opsOf, List.map_cons, List.map_nil, Option.map_none, Option.map_some, List.getElem?_toArray, List.getElem?_cons_zero, List.getElem?_cons_succ, Option.bind_some, Option.getD_some])
      | refine wo_nil ?_
      | (apply wo_po; apply mo_move; exact rfl; (first | exact trivial | exact rfl))
      | (apply wo_po; apply mo_nilCheck; exact rfl; (first | exact trivial | exact rfl))
      | (apply wo_po; apply mo_fieldAddr; exact rfl; exact rfl; (first | exact Nat.zero_add _ | exact rfl); (first | exact trivial | exact rfl)))
    refine wo_call (.cons rfl (.cons rfl .nil)) trivial (A.store_ok _ _ _ _ _ _ _ _ (R.a2 (2 * m) (by omega)) (Nat.mod_lt _ (by decide)) h5 .here) ?_
    rintro v1 L1 x1 ⟨s6, h6, rfl, rfl, rfl⟩
    repeat (first
      | refine we_seq ?_
      | (refine we_region _ rfl rfl ?_; simp only [opsOf, List.map_cons, List.map_nil, Option.map_none, Option.map_some, List.getElem?_toArray, List.getElem?_cons_zero, List.getElem?_cons_succ, Option.bind_some, Option.getD_some])
      | refine wo_nil ?_
      | (apply wo_po; apply mo_assign; exact rfl; (first | exact trivial | exact rfl))
      | refine we_ret ?_)
    (first | refine at_ret2 (ex := .ret) Try.func45 Try.results45 hQ (.inl rfl) rfl rfl ?_ | refine at_ret2 (ex := .normal) Try.func45 Try.results45 hQ (.inr rfl) rfl rfl ?_)
    exact ⟨true, s6, h6, rfl, rfl, rfl⟩

theorem take_tr (R : QueueAt A r b n k) {s : A.S} {G : Option Nat → A.S → Prop} (hs : TakeT A n s G) (hh : Has L (A.C s) F) :
    Tr Try.prog B 46 [.pointer (some ⟨r, 0, none⟩), gv] L (A.x s) fun v' L' x' => ∃ q s', G q s' ∧ q.getD 0 < 18446744073709551616 ∧ v' = .tuple #[.int .u64 (q.getD 0 : Nat), .bool q.isSome, .int .i64 0] ∧ L' = A.C s' :: F ∧ x' = A.x s' := by
  have hle : n ≤ 1024 := by rw [R.hn]; exact pow_le R.hk
  have hpos : 0 < n := by rw [R.hn]; exact Nat.two_pow_pos k
  unfold TakeT at hs
  refine tr_of_body Try.func46 rfl Try.ntmps46 (by simp) fun um Q hQ => ?_
  simp only [argE, Nat.zero_add, Nat.reduceAdd]
  repeat (first
    | refine we_seq ?_
    | (refine we_region _ rfl rfl ?_; simp only [opsOf, List.map_cons, List.map_nil, Option.map_none, Option.map_some, List.getElem?_toArray, List.getElem?_cons_zero, List.getElem?_cons_succ, Option.bind_some, Option.getD_some])
    | refine wo_nil ?_
    | (apply wo_po; apply mo_move; exact rfl; (first | exact trivial | exact rfl))
    | (apply wo_po; apply mo_assign; exact rfl; (first | exact trivial | exact rfl)))
  refine wo_call (.cons rfl .nil) trivial (there_tr R hh) ?_
  rintro v1 L1 x1 ⟨rfl, rfl, rfl⟩
  repeat (first
    | refine we_seq ?_
    | (refine we_region _ rfl rfl ?_; simp only [opsOf, List.map_cons, List.map_nil, Option.map_none, Option.map_some, List.getElem?_toArray, List.getElem?_cons_zero, List.getElem?_cons_succ, Option.bind_some, Option.getD_some])
    | refine wo_nil ?_
    | (apply wo_po; apply mo_move; exact rfl; (first | exact trivial | exact rfl))
    | (apply wo_po; apply mo_nilCheck; exact rfl; (first | exact trivial | exact rfl))
    | (apply wo_po; apply mo_fieldAddr; exact rfl; exact rfl; (first | exact Nat.zero_add _ | exact rfl); (first | exact trivial | exact rfl))
    | (apply wo_po; apply mo_not; exact rfl; (first | exact trivial | exact rfl))
    | (apply we_condF; exact rfl; (first | exact rfl | (simp <;> omega) | omega))
    | refine we_skip ?_)
  refine wo_call (.cons rfl (.cons rfl (.cons rfl (.cons rfl (.cons rfl .nil))))) trivial (draw_tr (w := 1) (whose := 1) R (.inr rfl) (by omega) hs hh) ?_
  rintro v1 L1 x1 ⟨q, s1, h1, h2, rfl, rfl⟩
  cases q with
  | none =>
    subst h2
    repeat (first
      | refine we_seq ?_
      | (refine we_region _ rfl rfl ?_; simp only [opsOf, List.map_cons, List.map_nil, Option.map_none, Option.map_some, List.getElem?_toArray, List.getElem?_cons_zero, List.getElem?_cons_succ, Option.bind_some, Option.getD_some])
      | refine wo_nil ?_
      | (apply wo_po; apply mo_move; exact rfl; (first | exact trivial | exact rfl))
      | (apply wo_po; apply mo_assign; exact rfl; (first | exact trivial | exact rfl))
      | (apply wo_po; apply mo_extract; exact rfl; exact rfl; (first | exact trivial | exact rfl))
      | (apply wo_po; apply mo_not; exact rfl; (first | exact trivial | exact rfl))
      | (apply we_condT; exact rfl; (first | exact rfl | (simp <;> omega) | omega))
      | refine we_ret ?_)
    (first | refine at_ret3 (ex := .ret) Try.func46 Try.results46 hQ (.inl rfl) rfl rfl rfl ?_ | refine at_ret3 (ex := .normal) Try.func46 Try.results46 hQ (.inr rfl) rfl rfl rfl ?_)
    exact ⟨none, s1, h1, by decide, rfl, rfl, rfl⟩
  | some t =>
    obtain ⟨ht, rfl⟩ := h2
    obtain ⟨m, hm⟩ : ∃ m, t % n = m := ⟨_, rfl⟩
    have hmod : m < n := by rw [← hm]; exact Nat.mod_lt _ hpos
    simp only at h1
    rw [hm] at h1 ⊢
    have hw2 : IntKind.i64.wrap ((2 : Int) + 2 * (m : Int)) = ((2 + 2 * m : Nat) : Int) := by rw [wrap_i64 (by omega) (by omega)]; omega
    have hw3 : IntKind.i64.wrap ((3 : Int) + 2 * (m : Int)) = ((3 + 2 * m : Nat) : Int) := by rw [wrap_i64 (by omega) (by omega)]; omega
    have a3 : A.addr (3 + 2 * m) = (b, 2 * m + 1) := by rw [show 3 + 2 * m = 2 + (2 * m + 1) by omega]; exact R.a2 _ (by omega)
    repeat (first
      | (apply wo_po; apply mo_bin; exact rfl; exact rfl; apply bin_mul; exact wrap_i64 (by omega) (by omega); exact trivial)
      | (apply wo_po; apply mo_bin; exact rfl; exact rfl; apply bin_add; exact hw3; exact trivial)
      | refine we_seq ?_
      | (refine we_region _ rfl rfl ?_; simp only [opsOf, List.map_cons, List.map_nil, Option.map_none, Option.map_some, List.getElem?_toArray, List.getElem?_cons_zero, List.getElem?_cons_succ, Option.bind_some, Option.getD_some])
      | refine wo_nil ?_
      | (apply wo_po; apply mo_move; exact rfl; (first | exact trivial | exact rfl))
      | (apply wo_po; apply mo_assign; exact rfl; (first | exact trivial | exact rfl))
      | (apply wo_po; apply mo_extract; exact rfl; exact rfl; (first | exact trivial | exact rfl))
      | (apply wo_po; apply mo_not; exact rfl; (first | exact trivial | exact rfl))
      | (apply we_condF; exact rfl; (first | exact rfl | (simp <;> omega) | omega))
      | refine we_skip ?_)
    refine wo_call (.cons rfl (.cons rfl (.cons rfl .nil))) trivial (step_tr h1 .here) ?_
    rintro v1 L1 x1 ⟨s3, h3, rfl, rfl, rfl⟩
    have hr3 : Rd (A.C s3 :: F) r 2 _ := Rd.of .here (R.hdr s3)
    repeat (first
      | (apply wo_po; apply mo_load; exact rfl; exact hr3; exact trivial)
      | (apply wo_po; apply mo_indexAddr (r := 2 * m); exact rfl; exact rfl; omega; omega; omega; exact trivial)
      | refine we_seq ?_
      | (refine we_region _ rfl rfl ?_; simp only [opsOf, List.map_cons, List.map_nil, Option.map_none, Option.map_some, List.getElem?_toArray, List.getElem?_cons_zero, List.getElem?_cons_succ, Option.bind_some, Option.getD_some])
      | refine wo_nil ?_
      | (apply wo_po; apply mo_move; exact rfl; (first | exact trivial | exact rfl))
      | (apply wo_po; apply mo_nilCheck; exact rfl; (first | exact trivial | exact rfl))
      | (apply wo_po; apply mo_fieldAddr; exact rfl; exact rfl; (first | exact Nat.zero_add _ | exact rfl); (first | exact trivial | exact rfl)))
    refine wo_call (.cons rfl .nil) trivial (A.load_ok _ _ _ _ _ _ _ a3 h3 .here) ?_
    rintro v1 L1 x1 ⟨v, s4, hv, h4, rfl, rfl, rfl⟩
    repeat (first
      | (apply wo_po; apply mo_bin; exact rfl; exact rfl; apply bin_mul; exact wrap_i64 (by omega) (by omega); exact trivial)
      | (apply wo_po; apply mo_bin; exact rfl; exact rfl; apply bin_add; exact hw2; exact trivial)
      | refine we_seq ?_
      | (refine we_region _ rfl rfl ?_; simp only [opsOf, List.map_cons, List.map_nil, Option.map_none, Option.map_some, List.getElem?_toArray, List.getElem?_cons_zero, List.getElem?_cons_succ, Option.bind_some, Option.getD_some])
      | refine wo_nil ?_
      | (apply wo_po; apply mo_move; exact rfl; (first | exact trivial | exact rfl))
      | (apply wo_po; apply mo_assign; exact rfl; (first | exact trivial | exact rfl)))
    refine wo_call (.cons rfl (.cons rfl (.cons rfl .nil))) trivial (step_tr h4 .here) ?_
    rintro v1 L1 x1 ⟨s5, h5, rfl, rfl, rfl⟩
    have hr5 : Rd (A.C s5 :: F) r 2 _ := Rd.of .here (R.hdr s5)
    have hadd : IntKind.u64.wrap ((t : Int) + (n : Int)) = (((t + n) % 18446744073709551616 : Nat) : Int) := by rw [wrap_u64_mod]; omega
    repeat (first
      | refine we_seq ?_
      | refine wo_nil ?_)
    refine we_draw [0, 1, 2, 3, 4, 5, 6, 7, 8, 9, 10, 11, 12, 13, 14, 15] (by kernel_rfl) ?_
    repeat (first
      | (apply ap_read; exact rfl; exact rfl; exact trivial; apply mo_load; exact rfl; exact hr5)
      | (apply ap_pure; exact rfl; exact rfl; exact trivial; intro L; apply mo_indexAddr (r := 2 * m); exact rfl; exact rfl; omega; omega; omega)
      | (apply ap_pure; exact rfl; exact rfl; exact trivial; intro L; apply mo_conv; exact rfl; exact wrap_u64 (by omega) (by omega))
      | (apply ap_pure; exact rfl; exact rfl; exact trivial; intro L; apply mo_bin; exact rfl; exact rfl; apply bin_add; exact hadd)
      | (apply ap_pure; exact rfl; exact rfl; (first | exact trivial | exact rfl); intro L; apply mo_move; exact rfl)
      | (apply ap_pure; exact rfl; exact rfl; (first | exact trivial | exact rfl); intro L; apply mo_nilCheck; exact rfl)
      | (apply ap_pure; exact rfl; exact rfl; (first | exact trivial | exact rfl); intro L; apply mo_fieldAddr; exact rfl; exact rfl; (first | exact Nat.zero_add _ | exact rfl))
      | (apply ap_pure; exact rfl; exact rfl; (first | exact trivial | exact rfl); intro L; apply mo_len; exact rfl))
    refine ap_callv rfl rfl rfl rfl trivial rfl rfl (.cons rfl (.cons rfl .nil)) (A.store_ok _ _ _ _ _ _ _ _ (R.a2 (2 * m) (by omega)) (Nat.mod_lt _ (by decide)) h5 .here) ?_
    rintro v1 L1 x1 ⟨s6, h6, rfl, rfl, rfl⟩
    refine ap_end ?_
    repeat (first
      | refine we_seq ?_
      | (refine we_region _ rfl rfl ?_; simp only [opsOf, List.map_cons, List.map_nil, Option.map_none, Option.map_some, List.getElem?_toArray, List.getElem?_cons_zero, List.getElem?_cons_succ, Option.bind_some, Option.getD_some])
      | refine wo_nil ?_
      | (apply wo_po; apply mo_move; exact rfl; (first | exact trivial | exact rfl))
      | (apply wo_po; apply mo_assign; exact rfl; (first | exact trivial | exact rfl))
      | refine we_ret ?_)
    (first | refine at_ret3 (ex := .ret) Try.func46 Try.results46 hQ (.inl rfl) rfl rfl rfl ?_ | refine at_ret3 (ex := .normal) Try.func46 Try.results46 hQ (.inr rfl) rfl rfl rfl ?_)
    exact ⟨some v, s6, h6, hv, rfl, rfl, rfl⟩
end
end Go.Proofs.Ytmkkanmkjfnpdaa
