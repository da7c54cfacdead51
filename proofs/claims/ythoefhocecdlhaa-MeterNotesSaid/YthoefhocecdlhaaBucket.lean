/-
  THE BUCKET (package bucket): Check, Take, Level, as numbers.
-/
import Derived.Test.YthoefhocecdlhaaBits
set_option linter.unusedVariables false
set_option linter.unusedSimpArgs false
namespace Go.Proofs.Ythoefhocecdlhaa
open Go Go.PB
attribute [local irreducible] Mo Bin Eql Tr Wo Ap Wle


/-- what Take makes of a state -/
def takeN (num den burst s now n : Nat) : Option Nat :=
  if burst * den < n * den + (max s (now * num) - now * num) then none else some ((max s (now * num) + n * den) % 18446744073709551616)
/-- what Level tells -/
def levelN (num den burst s now : Nat) : Nat :=
  if burst * den < max s (now * num) - now * num then 0 else (burst * den - (max s (now * num) - now * num)) / den

/-- what Take tells -/
def takeR (s : Nat) : Option Nat → Value
  | none => .tuple #[.int .u64 (s : Nat), .bool false, .int .i64 0]
  | some t => .tuple #[.int .u64 (t : Nat), .bool true, .int .i64 0]

structure BOk (num den burst : Nat) : Prop where
  n1 : 1 ≤ num
  n2 : num ≤ 65536
  d1 : 1 ≤ den
  d2 : den ≤ 65536
  b1 : 1 ≤ burst
  b2 : burst ≤ 1048576

section
variable {B : Hand} [Lets B] {L F : List HProp} {x : B.X} {num den burst now n s h1 l1 h2 l2 b wb : Nat}

theorem mo_maxN {P : Program} {e : Env} {ty : TypeId} {o o' : Operand} {tys : Array TypeId} {k : IntKind} {a b c : Nat} (hx : ev e o = some (.int k a)) (hy : ev e o' = some (.int k b)) (h : max a b = c) : Mo P e (.call ⟨.builtin .max, #[o, o'], tys⟩) ty L fun v' L' => v' = .int k c ∧ L' = L := by
  have := mo_max (P := P) (ty := ty) (L := L) (tys := tys) hx hy
  rw [show max (a : Int) (b : Int) = (c : Int) by omega] at this
  exact this

theorem check_ok (O : BOk num den burst) : Tr Try.prog B 43 [.agg #[.int .u64 (num : Nat), .int .u64 (den : Nat), .int .u64 (burst : Nat)]] L x fun v L' x' => v = .int .i64 0 ∧ L' = L ∧ x' = x := by
  obtain ⟨n1, n2, d1, d2, b1, b2⟩ := O
  refine Tr.post (R := fun v L' x' => v = .int .i64 0 ∧ x' = x ∧ ∀ h, Star L' h → Star L h) ?_ (by rintro v L' x' ⟨h0, rfl, hs⟩; exact ⟨L, ⟨h0, rfl, rfl⟩, hs⟩)
  refine tr_of_body Try.func43 rfl Try.ntmps43 (by simp) fun um Q hQ => ?_
  simp only [argE, Nat.zero_add, Nat.reduceAdd]
  repeat (first
    | (apply wo_mo; apply mo_box; exact rfl; exact trivial)
    | refine we_seq ?_
    | (refine we_region _ rfl rfl ?_; simp only [opsOf, List.map_cons, List.map_nil, Option.map_none, Option.map_some, List.getElem?_toArray, List.getElem?_cons_zero, List.getElem?_cons_succ, Option.bind_some, Option.getD_some]))
  rintro v' L' ⟨bb, rfl, rfl⟩
  refine wo_ent (arr bb 0 [.int .u64 (num : Nat), .int .u64 (den : Nat), .int .u64 (burst : Nat)] :: L) .refl ?_
  repeat (first
    | (apply wo_po; apply mo_bin; exact rfl; exact rfl; apply bin_lssF; omega; (first | exact trivial | exact rfl))
    | (apply wo_po; apply mo_bin; exact rfl; exact rfl; apply bin_gtrF; omega; (first | exact trivial | exact rfl))
    | refine we_seq ?_
    | (refine we_region _ rfl rfl ?_; simp only [opsOf, List.map_cons, List.map_nil, Option.map_none, Option.map_some, List.getElem?_toArray, List.getElem?_cons_zero, List.getElem?_cons_succ, Option.bind_some, Option.getD_some])
    | refine wo_nil ?_
    | (apply wo_po; apply mo_move; exact rfl; (first | exact trivial | exact rfl))
    | (apply wo_po; apply mo_assign; exact rfl; (first | exact trivial | exact rfl))
    | (apply wo_po; apply mo_pickF; exact rfl; exact rfl; exact rfl; (first | exact trivial | exact rfl))
    | (apply wo_po; apply mo_fieldAddr; exact rfl; exact rfl; (first | exact Nat.zero_add _ | exact rfl); (first | exact trivial | exact rfl))
    | (apply wo_po; apply mo_load; exact rfl; (repeat (first | exact Rd.row0 rfl | exact Rd.row rfl rfl | exact Rd.still | apply Rd.there)); (first | exact trivial | exact rfl))
    | (apply we_condF; exact rfl; (first | exact rfl | (simp <;> omega) | omega))
    | refine we_ret ?_
    | refine we_skip ?_)
  (first | refine at_ret1 (ex := .ret) Try.func43 Try.results43 hQ (.inl rfl) rfl ?_ | refine at_ret1 (ex := .normal) Try.func43 Try.results43 hQ (.inr rfl) rfl ?_)
  exact ⟨rfl, rfl, fun h st => star_drop st⟩

theorem check_no (hn : num < 18446744073709551616) (hd : den < 18446744073709551616) (hb : burst < 18446744073709551616) (O : ¬ BOk num den burst) : Tr Try.prog B 43 [.agg #[.int .u64 (num : Nat), .int .u64 (den : Nat), .int .u64 (burst : Nat)]] L x fun v L' x' => v = .int .i64 2 ∧ L' = L ∧ x' = x := by
  have hc : (num < 1) ∨ (1 ≤ num ∧ 65536 < num) ∨ (1 ≤ num ∧ num ≤ 65536 ∧ den < 1) ∨ (1 ≤ num ∧ num ≤ 65536 ∧ 1 ≤ den ∧ 65536 < den) ∨ (1 ≤ num ∧ num ≤ 65536 ∧ 1 ≤ den ∧ den ≤ 65536 ∧ burst < 1) ∨ (1 ≤ num ∧ num ≤ 65536 ∧ 1 ≤ den ∧ den ≤ 65536 ∧ 1 ≤ burst ∧ 1048576 < burst) := by
    have : ¬ (1 ≤ num ∧ num ≤ 65536 ∧ 1 ≤ den ∧ den ≤ 65536 ∧ 1 ≤ burst ∧ burst ≤ 1048576) := fun ⟨a, b, c, d, e, f⟩ => O ⟨a, b, c, d, e, f⟩
    omega
  refine Tr.post (R := fun v L' x' => v = .int .i64 2 ∧ x' = x ∧ ∀ h, Star L' h → Star L h) ?_ (by rintro v L' x' ⟨h0, rfl, hs⟩; exact ⟨L, ⟨h0, rfl, rfl⟩, hs⟩)
  refine tr_of_body Try.func43 rfl Try.ntmps43 (by simp) fun um Q hQ => ?_
  simp only [argE, Nat.zero_add, Nat.reduceAdd]
  repeat (first
    | (apply wo_mo; apply mo_box; exact rfl; exact trivial)
    | refine we_seq ?_
    | (refine we_region _ rfl rfl ?_; simp only [opsOf, List.map_cons, List.map_nil, Option.map_none, Option.map_some, List.getElem?_toArray, List.getElem?_cons_zero, List.getElem?_cons_succ, Option.bind_some, Option.getD_some]))
  rintro v' L' ⟨bb, rfl, rfl⟩
  refine wo_ent (arr bb 0 [.int .u64 (num : Nat), .int .u64 (den : Nat), .int .u64 (burst : Nat)] :: L) .refl ?_
  rcases hc with c | c | c | c | c | c
  all_goals
    repeat (first
      | (apply wo_po; apply mo_bin; exact rfl; exact rfl; apply bin_lssT; omega; (first | exact trivial | exact rfl))
      | (apply wo_po; apply mo_bin; exact rfl; exact rfl; apply bin_lssF; omega; (first | exact trivial | exact rfl))
      | (apply wo_po; apply mo_bin; exact rfl; exact rfl; apply bin_gtrT; omega; (first | exact trivial | exact rfl))
      | (apply wo_po; apply mo_bin; exact rfl; exact rfl; apply bin_gtrF; omega; (first | exact trivial | exact rfl))
      | refine we_seq ?_
      | (refine we_region _ rfl rfl ?_; simp only [opsOf, List.map_cons, List.map_nil, Option.map_none, Option.map_some, List.getElem?_toArray, List.getElem?_cons_zero, List.getElem?_cons_succ, Option.bind_some, Option.getD_some])
      | refine wo_nil ?_
      | (apply wo_po; apply mo_move; exact rfl; (first | exact trivial | exact rfl))
      | (apply wo_po; apply mo_assign; exact rfl; (first | exact trivial | exact rfl))
      | (apply wo_no; exact rfl)
      | (apply wo_po; apply mo_pickT; exact rfl; exact rfl; exact rfl; (first | exact trivial | exact rfl))
      | (apply wo_po; apply mo_pickF; exact rfl; exact rfl; exact rfl; (first | exact trivial | exact rfl))
      | (apply wo_po; apply mo_fieldAddr; exact rfl; exact rfl; (first | exact Nat.zero_add _ | exact rfl); (first | exact trivial | exact rfl))
      | (apply wo_po; apply mo_load; exact rfl; (repeat (first | exact Rd.row0 rfl | exact Rd.row rfl rfl | exact Rd.still | apply Rd.there)); (first | exact trivial | exact rfl))
      | (apply we_condT; exact rfl; (first | exact rfl | (simp <;> omega) | omega))
      | refine we_ret ?_)
    (first | refine at_ret1 (ex := .ret) Try.func43 Try.results43 hQ (.inl rfl) rfl ?_ | refine at_ret1 (ex := .normal) Try.func43 Try.results43 hQ (.inr rfl) rfl ?_)
    exact ⟨rfl, rfl, fun h st => star_drop st⟩


/-- ahead of a tick -/
def mayInv (x : B.X) (L : List HProp) (sb cp : Nat) : Inv Nat B.X where
  e := fun i => [(13, .slice (some ⟨sb, 0, none⟩) 1 cp), (14, .int .i64 1), (15, .int .i64 (i : Nat))]
  L := fun _ => L
  x := fun _ => x
  ok := fun i => i ≤ 1

theorem may_tr {sb cp : Nat} (O : BOk num den burst) (ht : now ≤ 1099511627776) (hr : Rd L sb 0 (.int .u64 (now : Nat))) : Tr Try.prog B 63 [.agg #[.int .u64 (num : Nat), .int .u64 (den : Nat), .int .u64 (burst : Nat)], .slice (some ⟨sb, 0, none⟩) 1 cp] L x fun v L' x' => v = .int .i64 0 ∧ L' = L ∧ x' = x := by
  refine Tr.post (R := fun v L' x' => v = .int .i64 0 ∧ x' = x ∧ ∀ h, Star L' h → Star L h) ?_ (by rintro v L' x' ⟨h0, rfl, hs⟩; exact ⟨L, ⟨h0, rfl, rfl⟩, hs⟩)
  refine tr_of_body Try.func63 rfl Try.ntmps63 (by simp) fun um Q hQ => ?_
  simp only [argE, Nat.zero_add, Nat.reduceAdd]
  repeat (first
    | (apply wo_mo; apply mo_box; exact rfl; exact trivial)
    | refine we_seq ?_
    | (refine we_region _ rfl rfl ?_; simp only [opsOf, List.map_cons, List.map_nil, Option.map_none, Option.map_some, List.getElem?_toArray, List.getElem?_cons_zero, List.getElem?_cons_succ, Option.bind_some, Option.getD_some]))
  rintro v' L' ⟨bb, rfl, rfl⟩
  refine wo_ent (arr bb 0 [.int .u64 (num : Nat), .int .u64 (den : Nat), .int .u64 (burst : Nat)] :: L) .refl ?_
  repeat (first
    | (apply wo_po; apply mo_loadA (vs := [.int .u64 (num : Nat), .int .u64 (den : Nat), .int .u64 (burst : Nat)]); exact rfl; exact rfl; exact Rds.all .here; exact trivial)
    | refine we_seq ?_
    | (refine we_region _ rfl rfl ?_; simp only [opsOf, List.map_cons, List.map_nil, Option.map_none, Option.map_some, List.getElem?_toArray, List.getElem?_cons_zero, List.getElem?_cons_succ, Option.bind_some, Option.getD_some])
    | refine wo_nil ?_
    | (apply wo_po; apply mo_assign; exact rfl; (first | exact trivial | exact rfl)))
  refine wo_call (.cons rfl .nil) trivial (check_ok O) ?_
  rintro v L' x' ⟨rfl, rfl, rfl⟩
  repeat (first
    | (apply wo_po; apply mo_bin; exact rfl; exact rfl; apply bin_neqF; omega; (first | exact trivial | exact rfl))
    | refine we_seq ?_
    | (refine we_region _ rfl rfl ?_; simp only [opsOf, List.map_cons, List.map_nil, Option.map_none, Option.map_some, List.getElem?_toArray, List.getElem?_cons_zero, List.getElem?_cons_succ, Option.bind_some, Option.getD_some])
    | refine wo_nil ?_
    | (apply wo_po; apply mo_move; exact rfl; (first | exact trivial | exact rfl))
    | (apply wo_po; apply mo_assign; exact rfl; (first | exact trivial | exact rfl))
    | (apply wo_po; apply mo_len; exact rfl; (first | exact trivial | exact rfl))
    | (apply we_condF; exact rfl; (first | exact rfl | (simp <;> omega) | omega))
    | refine we_skip ?_
    | refine we_block ?_)
  refine we_loopN (mayInv x' (arr bb 0 [.int .u64 (num : Nat), .int .u64 (den : Nat), .int .u64 (burst : Nat)] :: L) sb cp) (fun i => 2 - i) 0 (by show 0 ≤ 1; omega) ⟨rfl, rfl, rfl, trivial⟩ .refl rfl ?_
  intro i hi
  dsimp only [mayInv] at hi ⊢
  by_cases c : i < 1
  · have : i = 0 := by omega
    subst this
    repeat (first
      | (apply wo_po; apply mo_indexAddr (r := 0); exact rfl; exact rfl; omega; omega; omega; exact trivial)
      | (apply wo_po; apply mo_load; exact rfl; exact (Rd.there hr); exact trivial)
      | (apply wo_po; apply mo_bin; exact rfl; exact rfl; apply bin_lssT; omega; (first | exact trivial | exact rfl))
      | (apply wo_po; apply mo_bin; exact rfl; exact rfl; apply bin_gtrF; omega; (first | exact trivial | exact rfl))
      | refine we_seq ?_
      | (refine we_region _ rfl rfl ?_; simp only [opsOf, List.map_cons, List.map_nil, Option.map_none, Option.map_some, List.getElem?_toArray, List.getElem?_cons_zero, List.getElem?_cons_succ, Option.bind_some, Option.getD_some])
      | refine wo_nil ?_
      | (apply wo_po; apply mo_move; exact rfl; (first | exact trivial | exact rfl))
      | (apply wo_po; apply mo_assign; exact rfl; (first | exact trivial | exact rfl))
      | (apply wo_po; apply mo_bin; exact rfl; exact rfl; apply bin_add; exact wrap_i64 (by omega) (by omega); (first | exact trivial | exact rfl))
      | (apply we_condT; exact rfl; (first | exact rfl | (simp <;> omega) | omega))
      | (apply we_condF; exact rfl; (first | exact rfl | (simp <;> omega) | omega))
      | refine we_skip ?_
      | refine we_block ?_)
    exact at_round (I := mayInv _ _ sb cp) (R := fun i' => 2 - i' < 2 - 0) 1 (by omega) (by show 1 ≤ 1; omega) ⟨rfl, rfl, rfl, trivial⟩ .refl rfl
  · repeat (first
      | (apply wo_po; apply mo_bin; exact rfl; exact rfl; apply bin_lssF; omega; (first | exact trivial | exact rfl))
      | refine we_seq ?_
      | (refine we_region _ rfl rfl ?_; simp only [opsOf, List.map_cons, List.map_nil, Option.map_none, Option.map_some, List.getElem?_toArray, List.getElem?_cons_zero, List.getElem?_cons_succ, Option.bind_some, Option.getD_some])
      | refine wo_nil ?_
      | (apply wo_po; apply mo_assign; exact rfl; (first | exact trivial | exact rfl))
      | (apply we_condF; exact rfl; (first | exact rfl | (simp <;> omega) | omega))
      | refine we_ret ?_
      | refine we_exit ?_)
    (first | refine at_ret1 (ex := .ret) Try.func63 Try.results63 hQ (.inl rfl) rfl ?_ | refine at_ret1 (ex := .normal) Try.func63 Try.results63 hQ (.inr rfl) rfl ?_)
    exact ⟨rfl, rfl, fun h st => star_drop st⟩


theorem ahead_tr (O : BOk num den burst) (ht : now ≤ 1099511627776) (hs : s < 18446744073709551616) : Tr Try.prog B 64 [.agg #[.int .u64 (num : Nat), .int .u64 (den : Nat), .int .u64 (burst : Nat)], .int .u64 (s : Nat), .int .u64 (now : Nat)] L x fun v L' x' => v = .tuple #[.int .u64 (max s (now * num) : Nat), .int .u64 (max s (now * num) - now * num : Nat)] ∧ L' = L ∧ x' = x := by
  have hm : now * num ≤ 1099511627776 * 65536 := Nat.mul_le_mul ht O.n2
  have m1 : IntKind.u64.wrap ((now : Int) * (num : Int)) = ((now * num : Nat) : Int) := mulw rfl (by omega)
  generalize now * num = ck at *
  have s1 : IntKind.u64.wrap (((max s ck : Nat) : Int) - (ck : Int)) = ((max s ck - ck : Nat) : Int) := subw (by omega) (by omega)
  refine Tr.post (R := fun v L' x' => v = .tuple #[.int .u64 (max s ck : Nat), .int .u64 (max s ck - ck : Nat)] ∧ x' = x ∧ ∀ h, Star L' h → Star L h) ?_ (by rintro v L' x' ⟨h0, rfl, hs⟩; exact ⟨L, ⟨h0, rfl, rfl⟩, hs⟩)
  refine tr_of_body Try.func64 rfl Try.ntmps64 (by simp) fun um Q hQ => ?_
  simp only [argE, Nat.zero_add, Nat.reduceAdd]
  repeat (first
    | (apply wo_mo; apply mo_box; exact rfl; exact trivial)
    | refine we_seq ?_
    | (refine we_region _ rfl rfl ?_; simp only [opsOf, List.map_cons, List.map_nil, Option.map_none, Option.map_some, List.getElem?_toArray, List.getElem?_cons_zero, List.getElem?_cons_succ, Option.bind_some, Option.getD_some]))
  rintro v' L' ⟨bb, rfl, rfl⟩
  refine wo_ent (arr bb 0 [.int .u64 (num : Nat), .int .u64 (den : Nat), .int .u64 (burst : Nat)] :: L) .refl ?_
  repeat (first
    | (apply wo_po; apply mo_bin; exact rfl; exact rfl; apply bin_mul; (first | exact m1); (first | exact trivial | exact rfl))
    | (apply wo_po; apply mo_bin; exact rfl; exact rfl; apply bin_sub; (first | exact s1); (first | exact trivial | exact rfl))
    | (apply wo_po; apply mo_maxN (c := max s ck); exact rfl; exact rfl; exact rfl; exact trivial)
    | refine we_seq ?_
    | (refine we_region _ rfl rfl ?_; simp only [opsOf, List.map_cons, List.map_nil, Option.map_none, Option.map_some, List.getElem?_toArray, List.getElem?_cons_zero, List.getElem?_cons_succ, Option.bind_some, Option.getD_some])
    | refine wo_nil ?_
    | (apply wo_po; apply mo_move; exact rfl; (first | exact trivial | exact rfl))
    | (apply wo_po; apply mo_assign; exact rfl; (first | exact trivial | exact rfl))
    | (apply wo_po; apply mo_fieldAddr; exact rfl; exact rfl; (first | exact Nat.zero_add _ | exact rfl); (first | exact trivial | exact rfl))
    | (apply wo_po; apply mo_load; exact rfl; (repeat (first | exact Rd.row0 rfl | exact Rd.row rfl rfl | exact Rd.still | apply Rd.there)); (first | exact trivial | exact rfl))
    | refine we_ret ?_)
  (first | refine at_ret2 (ex := .ret) Try.func64 Try.results64 hQ (.inl rfl) rfl rfl ?_ | refine at_ret2 (ex := .normal) Try.func64 Try.results64 hQ (.inr rfl) rfl rfl ?_)
  exact ⟨rfl, rfl, fun h st => star_drop st⟩


theorem times_tr {a b : Nat} (ha : a < 18446744073709551616) (hb : b < 18446744073709551616) : Tr Try.prog B 65 [.int .u64 (a : Nat), .int .u64 (b : Nat)] L x fun v L' x' => v = .agg #[.int .u64 (a * b / 18446744073709551616 : Nat), .int .u64 (a * b % 18446744073709551616 : Nat)] ∧ L' = L ∧ x' = x := by
  refine Tr.post (R := fun v L' x' => v = .agg #[.int .u64 (a * b / 18446744073709551616 : Nat), .int .u64 (a * b % 18446744073709551616 : Nat)] ∧ x' = x ∧ ∀ h, Star L' h → Star L h) ?_ (by rintro v L' x' ⟨h0, rfl, hs⟩; exact ⟨L, ⟨h0, rfl, rfl⟩, hs⟩)
  refine tr_of_body Try.func65 rfl Try.ntmps65 (by simp) fun um Q hQ => ?_
  simp only [argE, Nat.zero_add, Nat.reduceAdd]
  repeat (first
    | (apply wo_mo; apply mo_alloc; exact trivial)
    | refine we_seq ?_
    | (refine we_region _ rfl rfl ?_; simp only [opsOf, List.map_cons, List.map_nil, Option.map_none, Option.map_some, List.getElem?_toArray, List.getElem?_cons_zero, List.getElem?_cons_succ, Option.bind_some, Option.getD_some]))
  rintro v' L' ⟨cb, rfl, rfl⟩
  repeat (first
    | refine we_seq ?_
    | (refine we_region _ rfl rfl ?_; simp only [opsOf, List.map_cons, List.map_nil, Option.map_none, Option.map_some, List.getElem?_toArray, List.getElem?_cons_zero, List.getElem?_cons_succ, Option.bind_some, Option.getD_some])
    | refine wo_nil ?_
    | (apply wo_po; apply mo_move; exact rfl; (first | exact trivial | exact rfl)))
  refine wo_call (.cons rfl (.cons rfl .nil)) trivial (mul64_tr ha hb) ?_
  rintro v' L' x' ⟨rfl, rfl, rfl⟩
  repeat (first
    | (apply wo_po; apply mo_build (pv := [(0, _), (1, _)]); exact rfl; exact .cons rfl (.cons rfl .nil); exact rfl; exact trivial)
    | (apply wo_pm; apply mo_storeA (b := cb) (c := 0) (k := 0) (a := 0) (vs := [.int .u64 0, .int .u64 0]); exact rfl; exact rfl; exact rfl; (intro w hw; simp [Value.cells] at hw; rcases hw with rfl | rfl <;> rfl); exact rfl; exact Nat.le_refl 2; exact .here; exact trivial)
    | refine we_seq ?_
    | (refine we_region _ rfl rfl ?_; simp only [opsOf, List.map_cons, List.map_nil, Option.map_none, Option.map_some, List.getElem?_toArray, List.getElem?_cons_zero, List.getElem?_cons_succ, Option.bind_some, Option.getD_some])
    | refine wo_nil ?_
    | (apply wo_po; apply mo_move; exact rfl; (first | exact trivial | exact rfl))
    | (apply wo_po; apply mo_assign; exact rfl; (first | exact trivial | exact rfl))
    | (apply wo_po; apply mo_extract; exact rfl; exact rfl; (first | exact trivial | exact rfl))
    | refine we_ret ?_)
  refine at_leaveM (rs := [.cell 4 163]) Try.func65 Try.results65 hQ (.inl rfl) (.cons (.cell (vs := [.int .u64 (a * b / 18446744073709551616 : Nat), .int .u64 (a * b % 18446744073709551616 : Nat)]) rfl rfl (Rds.all .here)) .nil) ?_
  exact ⟨rfl, rfl, fun h st => star_drop st⟩


theorem wadd_tr (e1 : h1 < 18446744073709551616) (e2 : l1 < 18446744073709551616) (e3 : l2 < 18446744073709551616) (e4 : h1 + 1 < 18446744073709551616) (hh : Has L (arr wb 0 [.int .u64 (h1 : Nat), .int .u64 (l1 : Nat)]) F) : Tr Try.prog B 66 [.pointer (some ⟨wb, 0, none⟩), .agg #[.int .u64 0, .int .u64 (l2 : Nat)]] L x fun v L' x' => v = .tuple #[] ∧ L' = arr wb 0 [.int .u64 (h1 + (l1 + l2) / 18446744073709551616 : Nat), .int .u64 ((l1 + l2) % 18446744073709551616 : Nat)] :: F ∧ x' = x := by
  refine Tr.post (R := fun v L' x' => v = .tuple #[] ∧ x' = x ∧ ∀ h, Star L' h → Star (arr wb 0 [.int .u64 (h1 + (l1 + l2) / 18446744073709551616 : Nat), .int .u64 ((l1 + l2) % 18446744073709551616 : Nat)] :: F) h) ?_ (by rintro v L' x' ⟨h0, rfl, hs⟩; exact ⟨_, ⟨h0, rfl, rfl⟩, hs⟩)
  refine tr_star (arr wb 0 [.int .u64 (h1 : Nat), .int .u64 (l1 : Nat)] :: F) (fun h st => hh.star st) ?_
  have s1 : IntKind.u64.wrap ((h1 : Int) + (0 : Int)) = (h1 : Int) := wrap_u64 (by omega) (by omega)
  have hc : (l1 + l2) / 18446744073709551616 ≤ 1 := by omega
  have s2 : IntKind.u64.wrap ((h1 : Int) + (((l1 + l2) / 18446744073709551616 : Nat) : Int)) = ((h1 + (l1 + l2) / 18446744073709551616 : Nat) : Int) := addw rfl (by omega)
  have hadd := fun (L : List HProp) => at_add64 (P := Try.prog) (L := L) (a := l1) (b := l2)
  generalize (l1 + l2) / 18446744073709551616 = cy at *
  generalize (l1 + l2) % 18446744073709551616 = lo at *
  refine tr_of_body Try.func66 rfl Try.ntmps66 (by simp) fun um Q hQ => ?_
  simp only [argE, Nat.zero_add, Nat.reduceAdd]
  repeat (first
    | (apply wo_mo; apply mo_box; exact rfl; exact trivial)
    | refine we_seq ?_
    | (refine we_region _ rfl rfl ?_; simp only [opsOf, List.map_cons, List.map_nil, Option.map_none, Option.map_some, List.getElem?_toArray, List.getElem?_cons_zero, List.getElem?_cons_succ, Option.bind_some, Option.getD_some]))
  rintro v' L' ⟨vb, rfl, rfl⟩
  refine wo_ent (arr vb 0 [.int .u64 0, .int .u64 (l2 : Nat)] :: arr wb 0 [.int .u64 (h1 : Nat), .int .u64 (l1 : Nat)] :: F) .refl ?_
  repeat (first
    | refine we_seq ?_
    | (refine we_region _ rfl rfl ?_; simp only [opsOf, List.map_cons, List.map_nil, Option.map_none, Option.map_some, List.getElem?_toArray, List.getElem?_cons_zero, List.getElem?_cons_succ, Option.bind_some, Option.getD_some])
    | refine wo_nil ?_
    | (apply wo_po; apply mo_assign; exact rfl; (first | exact trivial | exact rfl)))
  refine we_draw (List.range' 0 15) (by kernel_rfl) ?_
  repeat (first
    | (apply ap_pure; exact rfl; exact rfl; (first | exact trivial | exact rfl); intro L; apply mo_move; exact rfl)
    | (apply ap_pure; exact rfl; exact rfl; (first | exact trivial | exact rfl); intro L; apply mo_nilCheck; exact rfl)
    | (apply ap_pure; exact rfl; exact rfl; (first | exact trivial | exact rfl); intro L; apply mo_fieldAddr; exact rfl; exact rfl; (first | exact Nat.zero_add _ | exact rfl))
    | (apply ap_read; exact rfl; exact rfl; (first | exact trivial | exact rfl); apply mo_load; exact rfl; (repeat (first | exact Rd.row0 rfl | exact Rd.row rfl rfl | exact Rd.still | apply Rd.there))))
  refine ap_loud rfl rfl rfl rfl rfl trivial (mo_ext (args := [_, _, _]) (.cons rfl (.cons rfl (.cons rfl .nil))) (hadd _)) ?_
  rintro v' L' ⟨rfl, rfl⟩
  repeat (first
    | (apply ap_pure; exact rfl; exact rfl; (first | exact trivial | exact rfl); intro L; apply mo_move; exact rfl)
    | (apply ap_pure; exact rfl; exact rfl; (first | exact trivial | exact rfl); intro L; apply mo_nilCheck; exact rfl)
    | (apply ap_pure; exact rfl; exact rfl; (first | exact trivial | exact rfl); intro L; apply mo_fieldAddr; exact rfl; exact rfl; (first | exact Nat.zero_add _ | exact rfl))
    | (apply ap_pure; exact rfl; exact rfl; (first | exact trivial | exact rfl); intro L; apply mo_extract; exact rfl; exact rfl))
  refine ap_loud rfl rfl rfl rfl rfl trivial (mo_store rfl rfl rfl (Wt.row (k := 1) (vs := [.int .u64 (h1 : Nat), .int .u64 (l1 : Nat)]) (Nat.lt_succ_self 1) rfl (.there .here))) ?_
  rintro v' L' ⟨rfl, rfl⟩
  repeat (first
    | (apply ap_pure; exact rfl; exact rfl; (first | exact trivial | exact rfl); intro L; apply mo_assign; exact rfl)
    | refine ap_end ?_)
  repeat (first
    | refine we_seq ?_)
  refine we_draw (List.range' 0 10) (by kernel_rfl) ?_
  repeat (first
    | (apply ap_pure; exact rfl; exact rfl; (first | exact trivial | exact rfl); intro L; apply mo_bin; exact rfl; exact rfl; apply bin_add; exact s1)
    | (apply ap_pure; exact rfl; exact rfl; (first | exact trivial | exact rfl); intro L; apply mo_move; exact rfl)
    | (apply ap_pure; exact rfl; exact rfl; (first | exact trivial | exact rfl); intro L; apply mo_nilCheck; exact rfl)
    | (apply ap_pure; exact rfl; exact rfl; (first | exact trivial | exact rfl); intro L; apply mo_fieldAddr; exact rfl; exact rfl; (first | exact Nat.zero_add _ | exact rfl))
    | (apply ap_read; exact rfl; exact rfl; (first | exact trivial | exact rfl); apply mo_load; exact rfl; (repeat (first | exact Rd.row0 rfl | exact Rd.row rfl rfl | exact Rd.still | apply Rd.there))))
  refine ap_loud rfl rfl rfl rfl rfl trivial (mo_store rfl rfl rfl (Wt.row0 (k := 0) (.there .here) (by simp))) ?_
  rintro v' L' ⟨rfl, rfl⟩
  repeat (first
    | refine ap_end ?_)
  repeat (first
    | (apply wo_po; apply mo_bin; exact rfl; exact rfl; apply bin_add; (first | exact s2); (first | exact trivial | exact rfl))
    | (apply wo_pm; apply mo_store; exact rfl; exact rfl; exact rfl; apply Wt.row0; (repeat (first | exact Foc.here | apply Foc.there)); (first | exact Nat.lt_of_sub_eq_succ rfl | omega); (first | exact trivial | exact rfl))
    | (refine we_region _ rfl rfl ?_; simp only [opsOf, List.map_cons, List.map_nil, Option.map_none, Option.map_some, List.getElem?_toArray, List.getElem?_cons_zero, List.getElem?_cons_succ, Option.bind_some, Option.getD_some])
    | refine wo_nil ?_
    | (apply wo_po; apply mo_move; exact rfl; (first | exact trivial | exact rfl))
    | (apply wo_po; apply mo_nilCheck; exact rfl; (first | exact trivial | exact rfl))
    | (apply wo_po; apply mo_fieldAddr; exact rfl; exact rfl; (first | exact Nat.zero_add _ | exact rfl); (first | exact trivial | exact rfl))
    | (apply wo_po; apply mo_load; exact rfl; (repeat (first | exact Rd.row0 rfl | exact Rd.row rfl rfl | exact Rd.still | apply Rd.there)); (first | exact trivial | exact rfl)))
  (first | refine at_ret0 (ex := .ret) Try.func66 Try.results66 hQ (.inl rfl) ?_ | refine at_ret0 (ex := .normal) Try.func66 Try.results66 hQ (.inr rfl) ?_)
  exact ⟨rfl, rfl, fun h st => Ent.star (.take (.there .here) (.drop .refl)) st⟩


theorem above_tr (e1 : l1 < 18446744073709551616) (e2 : l2 < 18446744073709551616) {q : Bool} (hq : q = decide (h2 * 18446744073709551616 + l2 < h1 * 18446744073709551616 + l1)) : Tr Try.prog B 67 [.agg #[.int .u64 (h1 : Nat), .int .u64 (l1 : Nat)], .agg #[.int .u64 (h2 : Nat), .int .u64 (l2 : Nat)]] L x fun v L' x' => v = .bool q ∧ L' = L ∧ x' = x := by
  refine Tr.post (R := fun v L' x' => v = .bool q ∧ x' = x ∧ ∀ h, Star L' h → Star L h) ?_ (by rintro v L' x' ⟨h0, rfl, hs⟩; exact ⟨L, ⟨h0, rfl, rfl⟩, hs⟩)
  have hc : (h2 < h1 ∧ q = true) ∨ (h1 = h2 ∧ l2 < l1 ∧ q = true) ∨ (h1 = h2 ∧ l1 ≤ l2 ∧ q = false) ∨ (h1 < h2 ∧ q = false) := by
    rcases Nat.lt_trichotomy h1 h2 with c | c | c
    · exact .inr (.inr (.inr ⟨c, by rw [hq]; exact decide_eq_false (by omega)⟩))
    · by_cases d : l2 < l1
      · exact .inr (.inl ⟨c, d, by rw [hq]; exact decide_eq_true (by omega)⟩)
      · exact .inr (.inr (.inl ⟨c, by omega, by rw [hq]; exact decide_eq_false (by omega)⟩))
    · exact .inl ⟨c, by rw [hq]; exact decide_eq_true (by omega)⟩
  clear hq
  refine tr_of_body Try.func67 rfl Try.ntmps67 (by simp) fun um Q hQ => ?_
  simp only [argE, Nat.zero_add, Nat.reduceAdd]
  repeat (first
    | (apply wo_mo; apply mo_box; exact rfl; exact trivial)
    | refine we_seq ?_
    | (refine we_region _ rfl rfl ?_; simp only [opsOf, List.map_cons, List.map_nil, Option.map_none, Option.map_some, List.getElem?_toArray, List.getElem?_cons_zero, List.getElem?_cons_succ, Option.bind_some, Option.getD_some]))
  rintro v' L' ⟨ab, rfl, rfl⟩
  refine wo_ent (arr ab 0 [.int .u64 (h1 : Nat), .int .u64 (l1 : Nat)] :: L) .refl ?_
  repeat (first
    | (apply wo_mo; apply mo_box; exact rfl; exact trivial))
  rintro v' L' ⟨cb, rfl, rfl⟩
  refine wo_ent (arr cb 0 [.int .u64 (h2 : Nat), .int .u64 (l2 : Nat)] :: arr ab 0 [.int .u64 (h1 : Nat), .int .u64 (l1 : Nat)] :: L) .refl ?_
  rcases hc with ⟨c, rfl⟩ | ⟨c, d, rfl⟩ | ⟨c, d, rfl⟩ | ⟨c, rfl⟩
  all_goals
    repeat (first
      | (apply wo_po; apply mo_bin; exact rfl; exact rfl; apply bin_gtrT; omega; (first | exact trivial | exact rfl))
      | (apply wo_po; apply mo_bin; exact rfl; exact rfl; apply bin_gtrF; omega; (first | exact trivial | exact rfl))
      | (apply wo_po; apply mo_bin; exact rfl; exact rfl; apply bin_eqlT; omega; (first | exact trivial | exact rfl))
      | (apply wo_po; apply mo_bin; exact rfl; exact rfl; apply bin_eqlF; omega; (first | exact trivial | exact rfl))
      | refine we_seq ?_
      | (refine we_region _ rfl rfl ?_; simp only [opsOf, List.map_cons, List.map_nil, Option.map_none, Option.map_some, List.getElem?_toArray, List.getElem?_cons_zero, List.getElem?_cons_succ, Option.bind_some, Option.getD_some])
      | refine wo_nil ?_
      | (apply wo_po; apply mo_move; exact rfl; (first | exact trivial | exact rfl))
      | (apply wo_po; apply mo_assign; exact rfl; (first | exact trivial | exact rfl))
      | (apply wo_no; exact rfl)
      | (apply wo_nu; exact rfl)
      | (apply wo_po; apply mo_pickT; exact rfl; exact rfl; exact rfl; (first | exact trivial | exact rfl))
      | (apply wo_po; apply mo_pickF; exact rfl; exact rfl; exact rfl; (first | exact trivial | exact rfl))
      | (apply wo_po; apply mo_fieldAddr; exact rfl; exact rfl; (first | exact Nat.zero_add _ | exact rfl); (first | exact trivial | exact rfl))
      | (apply wo_po; apply mo_load; exact rfl; (repeat (first | exact Rd.row0 rfl | exact Rd.row rfl rfl | exact Rd.still | apply Rd.there)); (first | exact trivial | exact rfl))
      | refine we_ret ?_)
    (first | refine at_ret1 (ex := .ret) Try.func67 Try.results67 hQ (.inl rfl) rfl ?_ | refine at_ret1 (ex := .normal) Try.func67 Try.results67 hQ (.inr rfl) rfl ?_)
    exact ⟨rfl, rfl, fun h st => star_drop (star_drop st)⟩


set_option maxHeartbeats 2000000 in
theorem btake_tr (O : BOk num den burst) (ht : now ≤ 1099511627776) (hs : s < 18446744073709551616) (hn : n < 18446744073709551616) {r : Option Nat} (hr : takeN num den burst s now n = r) : Tr Try.prog B 39 [.agg #[.int .u64 (num : Nat), .int .u64 (den : Nat), .int .u64 (burst : Nat)], .int .u64 (s : Nat), .int .u64 (now : Nat), .int .u64 (n : Nat)] L x fun v L' x' => v = takeR s r ∧ L' = L ∧ x' = x := by
  refine Tr.post (R := fun v L' x' => v = takeR s r ∧ x' = x ∧ ∀ h, Star L' h → Star L h) ?_ (by rintro v L' x' ⟨h0, rfl, hs⟩; exact ⟨L, ⟨h0, rfl, rfl⟩, hs⟩)
  refine tr_of_body Try.func39 rfl Try.ntmps39 (by simp) fun um Q hQ => ?_
  simp only [argE, Nat.zero_add, Nat.reduceAdd]
  repeat (first
    | (apply wo_mo; apply mo_box; exact rfl; exact trivial)
    | refine we_seq ?_
    | (refine we_region _ rfl rfl ?_; simp only [opsOf, List.map_cons, List.map_nil, Option.map_none, Option.map_some, List.getElem?_toArray, List.getElem?_cons_zero, List.getElem?_cons_succ, Option.bind_some, Option.getD_some]))
  rintro v' L' ⟨bb, rfl, rfl⟩
  refine wo_ent (arr bb 0 [.int .u64 (num : Nat), .int .u64 (den : Nat), .int .u64 (burst : Nat)] :: L) .refl ?_
  repeat (first
    | (apply wo_po; apply mo_loadA (vs := [.int .u64 (num : Nat), .int .u64 (den : Nat), .int .u64 (burst : Nat)]); exact rfl; exact rfl; exact Rds.all .here; exact trivial)
    | (apply wo_mo; apply mo_buildSlice (sz := 1) (vs := [_]); exact rfl; exact .cons rfl .nil; exact rfl; (intro v hv; cases (List.mem_singleton.1 hv); exact rfl); omega; exact trivial)
    | refine we_seq ?_
    | (refine we_region _ rfl rfl ?_; simp only [opsOf, List.map_cons, List.map_nil, Option.map_none, Option.map_some, List.getElem?_toArray, List.getElem?_cons_zero, List.getElem?_cons_succ, Option.bind_some, Option.getD_some])
    | refine wo_nil ?_
    | (apply wo_po; apply mo_move; exact rfl; (first | exact trivial | exact rfl))
    | (apply wo_po; apply mo_assign; exact rfl; (first | exact trivial | exact rfl)))
  rintro v' L' ⟨sb, rfl, rfl⟩
  refine wo_ent (arr sb 0 [.int .u64 (now : Nat)] :: arr bb 0 [.int .u64 (num : Nat), .int .u64 (den : Nat), .int .u64 (burst : Nat)] :: L) .refl ?_
  skip
  refine wo_call (.cons rfl (.cons rfl .nil)) trivial (may_tr O ht (Rd.row (k := 0) rfl rfl)) ?_
  rintro v' L' x' ⟨rfl, rfl, rfl⟩
  repeat (first
    | (apply wo_po; apply mo_loadA (vs := [.int .u64 (num : Nat), .int .u64 (den : Nat), .int .u64 (burst : Nat)]); exact rfl; exact rfl; exact Rds.all (.there .here); exact trivial)
    | (apply wo_po; apply mo_bin; exact rfl; exact rfl; apply bin_neqF; omega; (first | exact trivial | exact rfl))
    | refine we_seq ?_
    | (refine we_region _ rfl rfl ?_; simp only [opsOf, List.map_cons, List.map_nil, Option.map_none, Option.map_some, List.getElem?_toArray, List.getElem?_cons_zero, List.getElem?_cons_succ, Option.bind_some, Option.getD_some])
    | refine wo_nil ?_
    | (apply wo_po; apply mo_move; exact rfl; (first | exact trivial | exact rfl))
    | (apply wo_po; apply mo_assign; exact rfl; (first | exact trivial | exact rfl))
    | (apply we_condF; exact rfl; (first | exact rfl | (simp <;> omega) | omega))
    | refine we_skip ?_)
  refine wo_call (.cons rfl (.cons rfl (.cons rfl .nil))) trivial (ahead_tr O ht hs) ?_
  rintro v' L' x' ⟨rfl, rfl, rfl⟩

  have hm : now * num ≤ 1099511627776 * 65536 := Nat.mul_le_mul ht O.n2
  have hbd : burst * den ≤ 1048576 * 65536 := Nat.mul_le_mul O.b2 O.d2
  have hnd : n * den ≤ 18446744073709551615 * 65536 := Nat.mul_le_mul (by omega) O.d2
  have hd1 := O.d1
  have hd2 := O.d2
  have m1 : IntKind.u64.wrap ((burst : Int) * (den : Int)) = ((burst * den : Nat) : Int) := mulw rfl (by omega)
  unfold takeN at hr
  have hT := times_tr (B := B) (x := x') (L := arr sb 0 [.int .u64 (now : Nat)] :: arr bb 0 [.int .u64 (num : Nat), .int .u64 (den : Nat), .int .u64 (burst : Nat)] :: L) (a := n) (b := den) hn (by omega)
  generalize burst * den = bd at *
  generalize hck : now * num = ck at *
  generalize n * den = nd at *
  obtain ⟨hi, hhi⟩ : ∃ hi, nd / 18446744073709551616 = hi := ⟨_, rfl⟩
  obtain ⟨lo, hlo⟩ : ∃ lo, nd % 18446744073709551616 = lo := ⟨_, rfl⟩
  obtain ⟨t, htt⟩ : ∃ t, max s ck = t := ⟨_, rfl⟩
  rw [htt] at hr ⊢
  rw [hhi, hlo] at hT
  have ht64 : t < 18446744073709551616 := by omega
  have hsum : nd = hi * 18446744073709551616 + lo := by omega
  repeat (first
    | refine we_seq ?_
    | (refine we_region _ rfl rfl ?_; simp only [opsOf, List.map_cons, List.map_nil, Option.map_none, Option.map_some, List.getElem?_toArray, List.getElem?_cons_zero, List.getElem?_cons_succ, Option.bind_some, Option.getD_some])
    | refine wo_nil ?_
    | (apply wo_po; apply mo_move; exact rfl; (first | exact trivial | exact rfl))
    | (apply wo_po; apply mo_assign; exact rfl; (first | exact trivial | exact rfl))
    | (apply wo_po; apply mo_fieldAddr; exact rfl; exact rfl; (first | exact Nat.zero_add _ | exact rfl); (first | exact trivial | exact rfl))
    | (apply wo_po; apply mo_extract; exact rfl; exact rfl; (first | exact trivial | exact rfl))
    | (apply wo_po; apply mo_load; exact rfl; (repeat (first | exact Rd.row0 rfl | exact Rd.row rfl rfl | exact Rd.still | apply Rd.there)); (first | exact trivial | exact rfl)))
  refine wo_call (.cons rfl (.cons rfl .nil)) trivial hT ?_
  rintro v' L' x2 ⟨rfl, rfl, rfl⟩
  repeat (first
    | (apply wo_mo; apply mo_alloc; exact trivial))
  rintro v' L' ⟨nb, rfl, rfl⟩
  repeat (first
    | (apply wo_pm; apply mo_storeA (c := 0) (k := 0) (a := 0) (vs := [.int .u64 0, .int .u64 0]); exact rfl; exact rfl; exact rfl; (intro w hw; simp [Value.cells] at hw; rcases hw with rfl | rfl <;> rfl); exact rfl; exact Nat.le_refl 2; exact .here; exact trivial)
    | refine we_seq ?_
    | (refine we_region _ rfl rfl ?_; simp only [opsOf, List.map_cons, List.map_nil, Option.map_none, Option.map_some, List.getElem?_toArray, List.getElem?_cons_zero, List.getElem?_cons_succ, Option.bind_some, Option.getD_some])
    | refine wo_nil ?_)
  refine wo_ent (arr nb 0 [.int .u64 (hi : Nat), .int .u64 (lo : Nat)] :: arr sb 0 [.int .u64 (now : Nat)] :: arr bb 0 [.int .u64 (num : Nat), .int .u64 (den : Nat), .int .u64 (burst : Nat)] :: L) .refl ?_
  repeat (first
    | (apply wo_po; apply mo_loadA (vs := [.int .u64 (hi : Nat), .int .u64 (lo : Nat)]); exact rfl; exact rfl; exact Rds.all .here; exact trivial)
    | (apply wo_mo; apply mo_alloc; exact trivial))
  rintro v' L' ⟨ab, rfl, rfl⟩
  repeat (first
    | (apply wo_pm; apply mo_storeA (c := 0) (k := 0) (a := 0) (vs := [.int .u64 0, .int .u64 0]); exact rfl; exact rfl; exact rfl; (intro w hw; simp [Value.cells] at hw; rcases hw with rfl | rfl <;> rfl); exact rfl; exact Nat.le_refl 2; exact .here; exact trivial)
    | refine we_seq ?_
    | (refine we_region _ rfl rfl ?_; simp only [opsOf, List.map_cons, List.map_nil, Option.map_none, Option.map_some, List.getElem?_toArray, List.getElem?_cons_zero, List.getElem?_cons_succ, Option.bind_some, Option.getD_some])
    | refine wo_nil ?_
    | (apply wo_po; apply mo_move; exact rfl; (first | exact trivial | exact rfl)))
  refine wo_ent (arr ab 0 [.int .u64 (hi : Nat), .int .u64 (lo : Nat)] :: arr nb 0 [.int .u64 (hi : Nat), .int .u64 (lo : Nat)] :: arr sb 0 [.int .u64 (now : Nat)] :: arr bb 0 [.int .u64 (num : Nat), .int .u64 (den : Nat), .int .u64 (burst : Nat)] :: L) .refl ?_
  repeat (first
    | (apply wo_po; apply mo_build (pv := [(0, _), (1, _)]); exact rfl; exact .cons rfl (.cons rfl .nil); exact rfl; exact trivial))
  refine wo_call (.cons rfl (.cons rfl .nil)) trivial (wadd_tr (by omega) (by omega) (by omega) (by omega) .here) ?_
  rintro v' L' x3 ⟨rfl, rfl, rfl⟩
  obtain ⟨hi2, hhi2⟩ : ∃ hi2, hi + (lo + (t - ck)) / 18446744073709551616 = hi2 := ⟨_, rfl⟩
  obtain ⟨lo2, hlo2⟩ : ∃ lo2, (lo + (t - ck)) % 18446744073709551616 = lo2 := ⟨_, rfl⟩
  rw [hhi2, hlo2]
  repeat (first
    | (apply wo_po; apply mo_loadA (vs := [.int .u64 (hi2 : Nat), .int .u64 (lo2 : Nat)]); exact rfl; exact rfl; exact Rds.all .here; exact trivial)
    | (apply wo_po; apply mo_bin; exact rfl; exact rfl; apply bin_mul; (first | exact m1); (first | exact trivial | exact rfl))
    | (apply wo_po; apply mo_build (pv := [(0, _), (1, _)]); exact rfl; exact .cons rfl (.cons rfl .nil); exact rfl; exact trivial)
    | refine we_seq ?_
    | (refine we_region _ rfl rfl ?_; simp only [opsOf, List.map_cons, List.map_nil, Option.map_none, Option.map_some, List.getElem?_toArray, List.getElem?_cons_zero, List.getElem?_cons_succ, Option.bind_some, Option.getD_some])
    | refine wo_nil ?_
    | (apply wo_po; apply mo_fieldAddr; exact rfl; exact rfl; (first | exact Nat.zero_add _ | exact rfl); (first | exact trivial | exact rfl))
    | (apply wo_po; apply mo_load; exact rfl; (repeat (first | exact Rd.row0 rfl | exact Rd.row rfl rfl | exact Rd.still | apply Rd.there)); (first | exact trivial | exact rfl)))
  refine wo_call (.cons rfl (.cons rfl .nil)) trivial (above_tr (h1 := hi2) (l1 := lo2) (h2 := 0) (l2 := bd) (by omega) (by omega) (q := decide (bd < nd + (t - ck))) (by congr 1; apply propext; omega)) ?_
  rintro v' L' x4 ⟨rfl, rfl, rfl⟩
  by_cases c : bd < nd + (t - ck)
  · rw [if_pos c] at hr
    subst hr
    rw [decide_eq_true c]
    repeat (first
      | refine we_seq ?_
      | (refine we_region _ rfl rfl ?_; simp only [opsOf, List.map_cons, List.map_nil, Option.map_none, Option.map_some, List.getElem?_toArray, List.getElem?_cons_zero, List.getElem?_cons_succ, Option.bind_some, Option.getD_some])
      | refine wo_nil ?_
      | (apply wo_po; apply mo_move; exact rfl; (first | exact trivial | exact rfl))
      | (apply wo_po; apply mo_assign; exact rfl; (first | exact trivial | exact rfl))
      | (apply we_condT; exact rfl; (first | exact rfl | (simp <;> omega) | omega))
      | refine we_ret ?_)
    (first | refine at_ret3 (ex := .ret) Try.func39 Try.results39 hQ (.inl rfl) rfl rfl rfl ?_ | refine at_ret3 (ex := .normal) Try.func39 Try.results39 hQ (.inr rfl) rfl rfl rfl ?_)
    exact ⟨rfl, rfl, fun h st => Ent.star (.drop (.drop (.drop (.drop .refl)))) st⟩
  · rw [if_neg c] at hr
    subst hr
    rw [decide_eq_false c]
    have a1 : IntKind.u64.wrap ((t : Int) + (lo : Int)) = (((t + nd) % 18446744073709551616 : Nat) : Int) := (wrap_u64_mod _).trans (by omega)
    repeat (first
      | (apply wo_po; apply mo_bin; exact rfl; exact rfl; apply bin_add; (first | exact a1); (first | exact trivial | exact rfl))
      | refine we_seq ?_
      | (refine we_region _ rfl rfl ?_; simp only [opsOf, List.map_cons, List.map_nil, Option.map_none, Option.map_some, List.getElem?_toArray, List.getElem?_cons_zero, List.getElem?_cons_succ, Option.bind_some, Option.getD_some])
      | refine wo_nil ?_
      | (apply wo_po; apply mo_move; exact rfl; (first | exact trivial | exact rfl))
      | (apply wo_po; apply mo_assign; exact rfl; (first | exact trivial | exact rfl))
      | (apply wo_po; apply mo_fieldAddr; exact rfl; exact rfl; (first | exact Nat.zero_add _ | exact rfl); (first | exact trivial | exact rfl))
      | (apply wo_po; apply mo_load; exact rfl; (repeat (first | exact Rd.row0 rfl | exact Rd.row rfl rfl | exact Rd.still | apply Rd.there)); (first | exact trivial | exact rfl))
      | (apply we_condF; exact rfl; (first | exact rfl | (simp <;> omega) | omega))
      | refine we_ret ?_
      | refine we_skip ?_)
    (first | refine at_ret3 (ex := .ret) Try.func39 Try.results39 hQ (.inl rfl) rfl rfl rfl ?_ | refine at_ret3 (ex := .normal) Try.func39 Try.results39 hQ (.inr rfl) rfl rfl rfl ?_)
    exact ⟨rfl, rfl, fun h st => Ent.star (.drop (.drop (.drop (.drop .refl)))) st⟩


set_option maxHeartbeats 2000000 in
theorem blevel_tr (O : BOk num den burst) (ht : now ≤ 1099511627776) (hs : s < 18446744073709551616) : Tr Try.prog B 41 [.agg #[.int .u64 (num : Nat), .int .u64 (den : Nat), .int .u64 (burst : Nat)], .int .u64 (s : Nat), .int .u64 (now : Nat)] L x fun v L' x' => v = .tuple #[.int .u64 (levelN num den burst s now : Nat), .int .i64 0] ∧ L' = L ∧ x' = x := by
  obtain ⟨lv, hlv⟩ : ∃ lv, levelN num den burst s now = lv := ⟨_, rfl⟩
  rw [hlv]
  refine Tr.post (R := fun v L' x' => v = .tuple #[.int .u64 (lv : Nat), .int .i64 0] ∧ x' = x ∧ ∀ h, Star L' h → Star L h) ?_ (by rintro v L' x' ⟨h0, rfl, hs⟩; exact ⟨L, ⟨h0, rfl, rfl⟩, hs⟩)
  refine tr_of_body Try.func41 rfl Try.ntmps41 (by simp) fun um Q hQ => ?_
  simp only [argE, Nat.zero_add, Nat.reduceAdd]
  repeat (first
    | (apply wo_mo; apply mo_box; exact rfl; exact trivial)
    | refine we_seq ?_
    | (refine we_region _ rfl rfl ?_; simp only [opsOf, List.map_cons, List.map_nil, Option.map_none, Option.map_some, List.getElem?_toArray, List.getElem?_cons_zero, List.getElem?_cons_succ, Option.bind_some, Option.getD_some]))
  rintro v' L' ⟨bb, rfl, rfl⟩
  refine wo_ent (arr bb 0 [.int .u64 (num : Nat), .int .u64 (den : Nat), .int .u64 (burst : Nat)] :: L) .refl ?_
  repeat (first
    | (apply wo_po; apply mo_loadA (vs := [.int .u64 (num : Nat), .int .u64 (den : Nat), .int .u64 (burst : Nat)]); exact rfl; exact rfl; exact Rds.all .here; exact trivial)
    | (apply wo_mo; apply mo_buildSlice (sz := 1) (vs := [_]); exact rfl; exact .cons rfl .nil; exact rfl; (intro v hv; cases (List.mem_singleton.1 hv); exact rfl); omega; exact trivial)
    | refine we_seq ?_
    | (refine we_region _ rfl rfl ?_; simp only [opsOf, List.map_cons, List.map_nil, Option.map_none, Option.map_some, List.getElem?_toArray, List.getElem?_cons_zero, List.getElem?_cons_succ, Option.bind_some, Option.getD_some])
    | refine wo_nil ?_
    | (apply wo_po; apply mo_move; exact rfl; (first | exact trivial | exact rfl))
    | (apply wo_po; apply mo_assign; exact rfl; (first | exact trivial | exact rfl)))
  rintro v' L' ⟨sb, rfl, rfl⟩
  refine wo_ent (arr sb 0 [.int .u64 (now : Nat)] :: arr bb 0 [.int .u64 (num : Nat), .int .u64 (den : Nat), .int .u64 (burst : Nat)] :: L) .refl ?_
  skip
  refine wo_call (.cons rfl (.cons rfl .nil)) trivial (may_tr O ht (Rd.row (k := 0) rfl rfl)) ?_
  rintro v' L' x' ⟨rfl, rfl, rfl⟩
  repeat (first
    | (apply wo_po; apply mo_loadA (vs := [.int .u64 (num : Nat), .int .u64 (den : Nat), .int .u64 (burst : Nat)]); exact rfl; exact rfl; exact Rds.all (.there .here); exact trivial)
    | (apply wo_po; apply mo_bin; exact rfl; exact rfl; apply bin_neqF; omega; (first | exact trivial | exact rfl))
    | refine we_seq ?_
    | (refine we_region _ rfl rfl ?_; simp only [opsOf, List.map_cons, List.map_nil, Option.map_none, Option.map_some, List.getElem?_toArray, List.getElem?_cons_zero, List.getElem?_cons_succ, Option.bind_some, Option.getD_some])
    | refine wo_nil ?_
    | (apply wo_po; apply mo_move; exact rfl; (first | exact trivial | exact rfl))
    | (apply wo_po; apply mo_assign; exact rfl; (first | exact trivial | exact rfl))
    | (apply we_condF; exact rfl; (first | exact rfl | (simp <;> omega) | omega))
    | refine we_skip ?_)
  refine wo_call (.cons rfl (.cons rfl (.cons rfl .nil))) trivial (ahead_tr O ht hs) ?_
  rintro v' L' x' ⟨rfl, rfl, rfl⟩

  have hm : now * num ≤ 1099511627776 * 65536 := Nat.mul_le_mul ht O.n2
  have hbd : burst * den ≤ 1048576 * 65536 := Nat.mul_le_mul O.b2 O.d2
  have hd1 := O.d1
  have hd2 := O.d2
  have m1 : IntKind.u64.wrap ((burst : Int) * (den : Int)) = ((burst * den : Nat) : Int) := mulw rfl (by omega)
  unfold levelN at hlv
  generalize burst * den = bd at *
  generalize hck : now * num = ck at *
  obtain ⟨t, htt⟩ : ∃ t, max s ck - ck = t := ⟨_, rfl⟩
  rw [htt] at hlv ⊢
  by_cases c : bd < t
  · rw [if_pos c] at hlv
    subst hlv
    repeat (first
      | (apply wo_po; apply mo_bin; exact rfl; exact rfl; apply bin_mul; (first | exact m1); (first | exact trivial | exact rfl))
      | (apply wo_po; apply mo_bin; exact rfl; exact rfl; apply bin_gtrT; omega; (first | exact trivial | exact rfl))
      | refine we_seq ?_
      | (refine we_region _ rfl rfl ?_; simp only [opsOf, List.map_cons, List.map_nil, Option.map_none, Option.map_some, List.getElem?_toArray, List.getElem?_cons_zero, List.getElem?_cons_succ, Option.bind_some, Option.getD_some])
      | refine wo_nil ?_
      | (apply wo_po; apply mo_move; exact rfl; (first | exact trivial | exact rfl))
      | (apply wo_po; apply mo_assign; exact rfl; (first | exact trivial | exact rfl))
      | (apply wo_po; apply mo_fieldAddr; exact rfl; exact rfl; (first | exact Nat.zero_add _ | exact rfl); (first | exact trivial | exact rfl))
      | (apply wo_po; apply mo_extract; exact rfl; exact rfl; (first | exact trivial | exact rfl))
      | (apply wo_po; apply mo_load; exact rfl; (repeat (first | exact Rd.row0 rfl | exact Rd.row rfl rfl | exact Rd.still | apply Rd.there)); (first | exact trivial | exact rfl))
      | (apply we_condT; exact rfl; (first | exact rfl | (simp <;> omega) | omega))
      | refine we_ret ?_)
    (first | refine at_ret2 (ex := .ret) Try.func41 Try.results41 hQ (.inl rfl) rfl rfl ?_ | refine at_ret2 (ex := .normal) Try.func41 Try.results41 hQ (.inr rfl) rfl rfl ?_)
    exact ⟨rfl, rfl, fun h st => Ent.star (.drop (.drop .refl)) st⟩
  · rw [if_neg c] at hlv
    subst hlv
    have s1 : IntKind.u64.wrap ((bd : Int) - (t : Int)) = ((bd - t : Nat) : Int) := subw (by omega) (by omega)
    have q1 : IntKind.u64.wrap (((bd - t : Nat) : Int).tdiv (den : Int)) = (((bd - t) / den : Nat) : Int) := by
      rw [← Int.ofNat_tdiv]
      have := Nat.div_le_self (bd - t) den
      generalize (bd - t) / den = z at *
      exact wrap_u64 (by omega) (by omega)
    repeat (first
      | (apply wo_po; apply mo_bin; exact rfl; exact rfl; apply bin_mul; (first | exact m1); (first | exact trivial | exact rfl))
      | (apply wo_po; apply mo_bin; exact rfl; exact rfl; apply bin_sub; (first | exact s1); (first | exact trivial | exact rfl))
      | (apply wo_po; apply mo_bin; exact rfl; exact rfl; apply bin_quo; omega; (first | exact q1); (first | exact trivial | exact rfl))
      | (apply wo_po; apply mo_bin; exact rfl; exact rfl; apply bin_gtrF; omega; (first | exact trivial | exact rfl))
      | refine we_seq ?_
      | (refine we_region _ rfl rfl ?_; simp only [opsOf, List.map_cons, List.map_nil, Option.map_none, Option.map_some, List.getElem?_toArray, List.getElem?_cons_zero, List.getElem?_cons_succ, Option.bind_some, Option.getD_some])
      | refine wo_nil ?_
      | (apply wo_po; apply mo_move; exact rfl; (first | exact trivial | exact rfl))
      | (apply wo_po; apply mo_assign; exact rfl; (first | exact trivial | exact rfl))
      | (apply wo_po; apply mo_fieldAddr; exact rfl; exact rfl; (first | exact Nat.zero_add _ | exact rfl); (first | exact trivial | exact rfl))
      | (apply wo_po; apply mo_extract; exact rfl; exact rfl; (first | exact trivial | exact rfl))
      | (apply wo_po; apply mo_load; exact rfl; (repeat (first | exact Rd.row0 rfl | exact Rd.row rfl rfl | exact Rd.still | apply Rd.there)); (first | exact trivial | exact rfl))
      | (apply we_condF; exact rfl; (first | exact rfl | (simp <;> omega) | omega))
      | refine we_ret ?_
      | refine we_skip ?_)
    (first | refine at_ret2 (ex := .ret) Try.func41 Try.results41 hQ (.inl rfl) rfl rfl ?_ | refine at_ret2 (ex := .normal) Try.func41 Try.results41 hQ (.inr rfl) rfl rfl ?_)
    exact ⟨rfl, rfl, fun h st => Ent.star (.drop (.drop .refl)) st⟩
end
end Go.Proofs.Ythoefhocecdlhaa
