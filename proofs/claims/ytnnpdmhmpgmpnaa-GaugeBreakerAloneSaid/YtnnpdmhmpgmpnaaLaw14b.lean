/-
  patchbaylaw14: GaugeBreakerAlone's walk.
-/
import Derived.Test.YtnnpdmhmpgmpnaaLaw14a
import Derived.Test.YtnnpdmhmpgmpnaaFp
set_option linter.unusedVariables false
set_option linter.unusedSimpArgs false
namespace Go.Proofs.Ytnnpdmhmpgmpnaa
open Go Go.PB
attribute [local irreducible] Mo Bin Eql Tr Wo Ap Wle

section
variable {B : Hand} [Lets B] {x : B.X} {r limit fails wait now a b c a' c' : Nat} {L F : List HProp} {s : Nat → Nat} {q good : Bool} {o : Option (Nat × Nat × Nat)}

theorem ask_is (h1 : 1 ≤ fails) (h2 : fails ≤ 1048576) (h3 : wait ≤ 1099511627776) (hn : now ≤ 1099511627776) (S : BS s a b c) (hq : decide (a = 0 ∨ c + wait ≤ now) = q) (e1 : (if a ≠ 0 ∧ c + wait ≤ now then 2 else a) = a') (e2 : (if a ≠ 0 ∧ c + wait ≤ now then now else c) = c') (hh : Has L (bC r fails wait s) F) :
    Tr Try.prog B 12 [.pointer (some ⟨r, 0, none⟩), .nilIface, .int .u64 (now : Nat)] L x fun v L' x' => ∃ s', v = .tuple #[.bool q, .int .i64 0] ∧ BS s' a' b c' ∧ L' = bC r fails wait s' :: F ∧ x' = x := by
  subst hq; subst e1; subst e2
  exact ask_lone h1 h2 h3 hn S hh
end

/-- what a row of Step holds, in memory that is only read -/
structure StAt (L : List HProp) (a : Option Addr) (l : List (Nat × Bool × Bool)) : Prop where
  rng : ∀ y ∈ l, y.1 < 18446744073709551616
  at_ : ∀ i y, l[i]? = some y → ∃ b o, a = some ⟨b, o, none⟩ ∧ Rd L b (o + 3 * i) (.int .u64 y.1) ∧ Rd L b (o + 3 * i + 1) (.bool y.2.1) ∧ Rd L b (o + 3 * i + 2) (.bool y.2.2)

/-- what the statement keeps -/
structure AM where
  i : Nat
  now : Nat
  since : Nat
  bad : Nat
  st : Nat
  s : Nat → Nat

structure AOk (fl : Nat) (m : AM) : Prop where
  i : m.i ≤ 200
  now : m.now ≤ 29 * m.i
  since : m.since ≤ m.now
  bs : BS m.s m.st m.bad m.since
  st : m.st ≤ 2
  zero : m.st = 0 → m.since = 0 ∧ m.bad < fl
  open_ : m.st ≠ 0 → m.bad = fl

def alInv (x : solo0.X) (p g b fl wt : Nat) (s0 : Nat → Nat) (a : Option Addr) (l : List (Nat × Bool × Bool)) (cap : Nat) (W : World) : Inv AM solo0.X where
  e := fun m => [(0, .slice a l.length cap), (7, .pointer (some ⟨p, 0, none⟩)), (8, .int .u64 m.now), (9, .int .u64 m.since), (10, .int .u64 m.bad), (11, .int .i64 m.st), (12, .int .i64 m.i)]
  L := fun m => [arr p 0 [.pointer (some ⟨g, 0, none⟩), .pointer (some ⟨b, 0, none⟩), .int .u64 (2 : Nat), .int .u64 (fl : Nat), .int .u64 (wt : Nat)], gC g 2 s0, bC b fl wt m.s, base W]
  x := fun _ => x
  ok := AOk fl

set_option maxHeartbeats 4000000 in
theorem alone_tr {fails wait : Nat} {x : solo0.X} {a : Option Addr} {l : List (Nat × Bool × Bool)} {cap : Nat} {W : World} (hl : StAt [base W] a l) :
    Tr Try.prog solo0 3 [.slice a l.length cap, .int .u64 (fails : Nat), .int .u64 (wait : Nat)] [base W] x fun v L' x' => v = .bool true := by
  have m1 : (fails : Int).tmod 4 = ((fails % 4 : Nat) : Int) := by rw [Int.tmod_eq_emod_of_nonneg (by omega)]; omega
  have m2 : (wait : Int).tmod 20 = ((wait % 20 : Nat) : Int) := by rw [Int.tmod_eq_emod_of_nonneg (by omega)]; omega
  obtain ⟨fl, hfl⟩ : ∃ fl, 1 + fails % 4 % 1048576 = fl := ⟨_, rfl⟩
  obtain ⟨wt, hwt⟩ : ∃ wt, 1 + wait % 20 % 1099511627776 = wt := ⟨_, rfl⟩
  have f1 : 1 ≤ fl ∧ fl ≤ 4 := by omega
  have w1 : 1 ≤ wt ∧ wt ≤ 20 := by omega
  refine tr_of_body Try.func3 rfl Try.ntmps3 (by simp) fun um Q hQ => ?_
  simp only [argE, Nat.zero_add, Nat.reduceAdd]
  repeat (first
    | (apply wo_po; apply mo_bin; exact rfl; exact rfl; apply bin_rem; omega; (first | exact m1 | exact m2); exact trivial)
    | (apply wo_po; apply mo_bin; exact rfl; exact rfl; apply bin_lssT; omega; (first | exact trivial | exact rfl))
    | (apply wo_po; apply mo_bin; exact rfl; exact rfl; apply bin_lssF; omega; (first | exact trivial | exact rfl))
    | (apply wo_po; apply mo_bin; exact rfl; exact rfl; apply bin_leqT; omega; (first | exact trivial | exact rfl))
    | (apply wo_po; apply mo_bin; exact rfl; exact rfl; apply bin_leqF; omega; (first | exact trivial | exact rfl))
    | (apply wo_po; apply mo_bin; exact rfl; exact rfl; apply bin_gtrT; omega; (first | exact trivial | exact rfl))
    | (apply wo_po; apply mo_bin; exact rfl; exact rfl; apply bin_gtrF; omega; (first | exact trivial | exact rfl))
    | (apply wo_po; apply mo_bin; exact rfl; exact rfl; apply bin_geqT; omega; (first | exact trivial | exact rfl))
    | (apply wo_po; apply mo_bin; exact rfl; exact rfl; apply bin_geqF; omega; (first | exact trivial | exact rfl))
    | (apply wo_po; apply mo_bin; exact rfl; exact rfl; apply bin_eqlT; omega; (first | exact trivial | exact rfl))
    | (apply wo_po; apply mo_bin; exact rfl; exact rfl; apply bin_eqlF; omega; (first | exact trivial | exact rfl))
    | (apply wo_po; apply mo_bin; exact rfl; exact rfl; apply bin_neqT; omega; (first | exact trivial | exact rfl))
    | (apply wo_po; apply mo_bin; exact rfl; exact rfl; apply bin_neqF; omega; (first | exact trivial | exact rfl))
    | refine we_seq ?_
    | (refine we_region _ rfl rfl ?_; simp only [opsOf, List.map_cons, List.map_nil, Option.map_none, Option.map_some, List.getElem?_toArray, List.getElem?_cons_zero, List.getElem?_cons_succ, Option.bind_some, Option.getD_some])
    | refine wo_nil ?_
    | (apply wo_po; apply mo_move; exact rfl; (first | exact trivial | exact rfl))
    | (apply wo_po; apply mo_assign; exact rfl; (first | exact trivial | exact rfl))
    | (apply wo_no; exact rfl)
    | (apply wo_po; apply mo_pickT; exact rfl; exact rfl; exact rfl; (first | exact trivial | exact rfl))
    | (apply wo_po; apply mo_pickF; exact rfl; exact rfl; exact rfl; (first | exact trivial | exact rfl))
    | (apply wo_po; apply mo_nilCheck; exact rfl; (first | exact trivial | exact rfl))
    | (apply wo_po; apply mo_fieldAddr; exact rfl; exact rfl; (first | exact Nat.zero_add _ | exact rfl); (first | exact trivial | exact rfl))
    | (apply wo_po; apply mo_extract; exact rfl; exact rfl; (first | exact trivial | exact rfl))
    | (apply wo_po; apply mo_not; exact rfl; (first | exact trivial | exact rfl))
    | (apply wo_po; apply mo_load; exact rfl; (repeat (first | exact Rd.row0 rfl | exact Rd.row rfl rfl | exact Rd.still | apply Rd.there)); (first | exact trivial | exact rfl))
    | (apply wo_po; apply mo_bin; exact rfl; exact rfl; exact bin_lss; (first | exact trivial | exact rfl))
    | (apply wo_po; apply mo_bin; exact rfl; exact rfl; exact bin_gtr; (first | exact trivial | exact rfl))
    | (apply wo_po; apply mo_bin; exact rfl; exact rfl; exact bin_leq; (first | exact trivial | exact rfl))
    | (apply wo_po; apply mo_bin; exact rfl; exact rfl; exact bin_geq; (first | exact trivial | exact rfl))
    | (apply wo_po; apply mo_bin; exact rfl; exact rfl; exact bin_eql; (first | exact trivial | exact rfl))
    | (apply wo_po; apply mo_bin; exact rfl; exact rfl; exact bin_neq; (first | exact trivial | exact rfl))
    | (apply wo_po; apply mo_bin; exact rfl; exact rfl; apply bin_add; exact wrap_i64 (by omega) (by omega); (first | exact trivial | exact rfl))
    | (apply wo_po; apply mo_bin; exact rfl; exact rfl; apply bin_sub; exact wrap_i64 (by omega) (by omega); (first | exact trivial | exact rfl))
    | (apply wo_po; apply mo_bin; exact rfl; exact rfl; apply bin_ne; apply eql_ptr_nil; (first | exact trivial | exact rfl))
    | (apply wo_po; apply mo_bin; exact rfl; exact rfl; apply bin_eq; apply eql_ptr_nil; (first | exact trivial | exact rfl))
    | (apply wo_po; apply mo_bin; exact rfl; exact rfl; apply bin_ne; apply eql_slice_nil; (first | exact trivial | exact rfl))
    | (apply wo_po; apply mo_bin; exact rfl; exact rfl; apply bin_eq; apply eql_slice_nil; (first | exact trivial | exact rfl))
    | (apply wo_po; apply mo_bin; exact rfl; exact rfl; apply bin_ne; apply eql_nil_nil; (first | exact trivial | exact rfl))
    | (apply wo_po; apply mo_bin; exact rfl; exact rfl; apply bin_eq; apply eql_nil_nil; (first | exact trivial | exact rfl))
    | (apply wo_po; apply mo_bin; exact rfl; exact rfl; apply bin_ne; apply eql_iface_nil; (first | exact trivial | exact rfl))
    | (apply wo_po; apply mo_len; exact rfl; (first | exact trivial | exact rfl))
    | (apply wo_po; apply mo_conv; exact rfl; (first | exact wrap_i64 (by omega) (by omega) | exact wrap_u64 (by omega) (by omega)); (first | exact trivial | exact rfl))
    | (apply wo_po; apply mo_min; exact rfl; exact rfl; (first | exact trivial | exact rfl))
    | (apply we_condT; exact rfl; (first | exact rfl | (simp <;> omega) | omega))
    | (apply we_condF; exact rfl; (first | exact rfl | (simp <;> omega) | omega))
    | refine we_ret ?_
    | refine we_skip ?_
    | refine we_label ?_
    | refine we_block ?_
    | refine we_scope ?_
    | refine we_exit ?_)
  refine wo_call (.cons rfl (.cons rfl (.cons rfl .nil))) trivial (made_tr (l0 := 1) (f0 := fails % 4) (w0 := wait % 20) (limit := 2) rfl hfl hwt) ?_
  rintro v' L' x1 ⟨p, g, b, rfl, rfl, rfl⟩
  repeat (first
    | (fail)
    | (apply wo_po; apply mo_bin; exact rfl; exact rfl; apply bin_lssT; omega; (first | exact trivial | exact rfl))
    | (apply wo_po; apply mo_bin; exact rfl; exact rfl; apply bin_lssF; omega; (first | exact trivial | exact rfl))
    | (apply wo_po; apply mo_bin; exact rfl; exact rfl; apply bin_leqT; omega; (first | exact trivial | exact rfl))
    | (apply wo_po; apply mo_bin; exact rfl; exact rfl; apply bin_leqF; omega; (first | exact trivial | exact rfl))
    | (apply wo_po; apply mo_bin; exact rfl; exact rfl; apply bin_gtrT; omega; (first | exact trivial | exact rfl))
    | (apply wo_po; apply mo_bin; exact rfl; exact rfl; apply bin_gtrF; omega; (first | exact trivial | exact rfl))
    | (apply wo_po; apply mo_bin; exact rfl; exact rfl; apply bin_geqT; omega; (first | exact trivial | exact rfl))
    | (apply wo_po; apply mo_bin; exact rfl; exact rfl; apply bin_geqF; omega; (first | exact trivial | exact rfl))
    | (apply wo_po; apply mo_bin; exact rfl; exact rfl; apply bin_eqlT; omega; (first | exact trivial | exact rfl))
    | (apply wo_po; apply mo_bin; exact rfl; exact rfl; apply bin_eqlF; omega; (first | exact trivial | exact rfl))
    | (apply wo_po; apply mo_bin; exact rfl; exact rfl; apply bin_neqT; omega; (first | exact trivial | exact rfl))
    | (apply wo_po; apply mo_bin; exact rfl; exact rfl; apply bin_neqF; omega; (first | exact trivial | exact rfl))
    | refine we_seq ?_
    | (refine we_region _ rfl rfl ?_; simp only [opsOf, List.map_cons, List.map_nil, Option.map_none, Option.map_some, List.getElem?_toArray, List.getElem?_cons_zero, List.getElem?_cons_succ, Option.bind_some, Option.getD_some])
    | refine wo_nil ?_
    | (apply wo_po; apply mo_move; exact rfl; (first | exact trivial | exact rfl))
    | (apply wo_po; apply mo_assign; exact rfl; (first | exact trivial | exact rfl))
    | (apply wo_no; exact rfl)
    | (apply wo_po; apply mo_pickT; exact rfl; exact rfl; exact rfl; (first | exact trivial | exact rfl))
    | (apply wo_po; apply mo_pickF; exact rfl; exact rfl; exact rfl; (first | exact trivial | exact rfl))
    | (apply wo_po; apply mo_nilCheck; exact rfl; (first | exact trivial | exact rfl))
    | (apply wo_po; apply mo_fieldAddr; exact rfl; exact rfl; (first | exact Nat.zero_add _ | exact rfl); (first | exact trivial | exact rfl))
    | (apply wo_po; apply mo_extract; exact rfl; exact rfl; (first | exact trivial | exact rfl))
    | (apply wo_po; apply mo_not; exact rfl; (first | exact trivial | exact rfl))
    | (apply wo_po; apply mo_load; exact rfl; (repeat (first | exact Rd.row0 rfl | exact Rd.row rfl rfl | exact Rd.still | apply Rd.there)); (first | exact trivial | exact rfl))
    | (apply wo_po; apply mo_bin; exact rfl; exact rfl; exact bin_lss; (first | exact trivial | exact rfl))
    | (apply wo_po; apply mo_bin; exact rfl; exact rfl; exact bin_gtr; (first | exact trivial | exact rfl))
    | (apply wo_po; apply mo_bin; exact rfl; exact rfl; exact bin_leq; (first | exact trivial | exact rfl))
    | (apply wo_po; apply mo_bin; exact rfl; exact rfl; exact bin_geq; (first | exact trivial | exact rfl))
    | (apply wo_po; apply mo_bin; exact rfl; exact rfl; exact bin_eql; (first | exact trivial | exact rfl))
    | (apply wo_po; apply mo_bin; exact rfl; exact rfl; exact bin_neq; (first | exact trivial | exact rfl))
    | (apply wo_po; apply mo_bin; exact rfl; exact rfl; apply bin_add; exact wrap_i64 (by omega) (by omega); (first | exact trivial | exact rfl))
    | (apply wo_po; apply mo_bin; exact rfl; exact rfl; apply bin_sub; exact wrap_i64 (by omega) (by omega); (first | exact trivial | exact rfl))
    | (apply wo_po; apply mo_bin; exact rfl; exact rfl; apply bin_ne; apply eql_ptr_nil; (first | exact trivial | exact rfl))
    | (apply wo_po; apply mo_bin; exact rfl; exact rfl; apply bin_eq; apply eql_ptr_nil; (first | exact trivial | exact rfl))
    | (apply wo_po; apply mo_bin; exact rfl; exact rfl; apply bin_ne; apply eql_slice_nil; (first | exact trivial | exact rfl))
    | (apply wo_po; apply mo_bin; exact rfl; exact rfl; apply bin_eq; apply eql_slice_nil; (first | exact trivial | exact rfl))
    | (apply wo_po; apply mo_bin; exact rfl; exact rfl; apply bin_ne; apply eql_nil_nil; (first | exact trivial | exact rfl))
    | (apply wo_po; apply mo_bin; exact rfl; exact rfl; apply bin_eq; apply eql_nil_nil; (first | exact trivial | exact rfl))
    | (apply wo_po; apply mo_bin; exact rfl; exact rfl; apply bin_ne; apply eql_iface_nil; (first | exact trivial | exact rfl))
    | (apply wo_po; apply mo_len; exact rfl; (first | exact trivial | exact rfl))
    | (apply wo_po; apply mo_conv; exact rfl; (first | exact wrap_i64 (by omega) (by omega) | exact wrap_u64 (by omega) (by omega)); (first | exact trivial | exact rfl))
    | (apply wo_po; apply mo_min; exact rfl; exact rfl; (first | exact trivial | exact rfl))
    | (apply we_condT; exact rfl; (first | exact rfl | (simp <;> omega) | omega))
    | (apply we_condF; exact rfl; (first | exact rfl | (simp <;> omega) | omega))
    | refine we_ret ?_
    | refine we_skip ?_
    | refine we_label ?_
    | refine we_block ?_
    | refine we_scope ?_
    | refine we_exit ?_)
  refine wo_call .nil (by first | exact trivial | exact rfl) awake_tr ?_
  rintro v' L' x1 ⟨rfl, rfl, rfl⟩
  repeat (first
    | (fail)
    | (apply wo_po; apply mo_bin; exact rfl; exact rfl; apply bin_lssT; omega; (first | exact trivial | exact rfl))
    | (apply wo_po; apply mo_bin; exact rfl; exact rfl; apply bin_lssF; omega; (first | exact trivial | exact rfl))
    | (apply wo_po; apply mo_bin; exact rfl; exact rfl; apply bin_leqT; omega; (first | exact trivial | exact rfl))
    | (apply wo_po; apply mo_bin; exact rfl; exact rfl; apply bin_leqF; omega; (first | exact trivial | exact rfl))
    | (apply wo_po; apply mo_bin; exact rfl; exact rfl; apply bin_gtrT; omega; (first | exact trivial | exact rfl))
    | (apply wo_po; apply mo_bin; exact rfl; exact rfl; apply bin_gtrF; omega; (first | exact trivial | exact rfl))
    | (apply wo_po; apply mo_bin; exact rfl; exact rfl; apply bin_geqT; omega; (first | exact trivial | exact rfl))
    | (apply wo_po; apply mo_bin; exact rfl; exact rfl; apply bin_geqF; omega; (first | exact trivial | exact rfl))
    | (apply wo_po; apply mo_bin; exact rfl; exact rfl; apply bin_eqlT; omega; (first | exact trivial | exact rfl))
    | (apply wo_po; apply mo_bin; exact rfl; exact rfl; apply bin_eqlF; omega; (first | exact trivial | exact rfl))
    | (apply wo_po; apply mo_bin; exact rfl; exact rfl; apply bin_neqT; omega; (first | exact trivial | exact rfl))
    | (apply wo_po; apply mo_bin; exact rfl; exact rfl; apply bin_neqF; omega; (first | exact trivial | exact rfl))
    | refine we_seq ?_
    | (refine we_region _ rfl rfl ?_; simp only [opsOf, List.map_cons, List.map_nil, Option.map_none, Option.map_some, List.getElem?_toArray, List.getElem?_cons_zero, List.getElem?_cons_succ, Option.bind_some, Option.getD_some])
    | refine wo_nil ?_
    | (apply wo_po; apply mo_move; exact rfl; (first | exact trivial | exact rfl))
    | (apply wo_po; apply mo_assign; exact rfl; (first | exact trivial | exact rfl))
    | (apply wo_no; exact rfl)
    | (apply wo_po; apply mo_pickT; exact rfl; exact rfl; exact rfl; (first | exact trivial | exact rfl))
    | (apply wo_po; apply mo_pickF; exact rfl; exact rfl; exact rfl; (first | exact trivial | exact rfl))
    | (apply wo_po; apply mo_nilCheck; exact rfl; (first | exact trivial | exact rfl))
    | (apply wo_po; apply mo_fieldAddr; exact rfl; exact rfl; (first | exact Nat.zero_add _ | exact rfl); (first | exact trivial | exact rfl))
    | (apply wo_po; apply mo_extract; exact rfl; exact rfl; (first | exact trivial | exact rfl))
    | (apply wo_po; apply mo_not; exact rfl; (first | exact trivial | exact rfl))
    | (apply wo_po; apply mo_load; exact rfl; (repeat (first | exact Rd.row0 rfl | exact Rd.row rfl rfl | exact Rd.still | apply Rd.there)); (first | exact trivial | exact rfl))
    | (apply wo_po; apply mo_bin; exact rfl; exact rfl; exact bin_lss; (first | exact trivial | exact rfl))
    | (apply wo_po; apply mo_bin; exact rfl; exact rfl; exact bin_gtr; (first | exact trivial | exact rfl))
    | (apply wo_po; apply mo_bin; exact rfl; exact rfl; exact bin_leq; (first | exact trivial | exact rfl))
    | (apply wo_po; apply mo_bin; exact rfl; exact rfl; exact bin_geq; (first | exact trivial | exact rfl))
    | (apply wo_po; apply mo_bin; exact rfl; exact rfl; exact bin_eql; (first | exact trivial | exact rfl))
    | (apply wo_po; apply mo_bin; exact rfl; exact rfl; exact bin_neq; (first | exact trivial | exact rfl))
    | (apply wo_po; apply mo_bin; exact rfl; exact rfl; apply bin_add; exact wrap_i64 (by omega) (by omega); (first | exact trivial | exact rfl))
    | (apply wo_po; apply mo_bin; exact rfl; exact rfl; apply bin_sub; exact wrap_i64 (by omega) (by omega); (first | exact trivial | exact rfl))
    | (apply wo_po; apply mo_bin; exact rfl; exact rfl; apply bin_ne; apply eql_ptr_nil; (first | exact trivial | exact rfl))
    | (apply wo_po; apply mo_bin; exact rfl; exact rfl; apply bin_eq; apply eql_ptr_nil; (first | exact trivial | exact rfl))
    | (apply wo_po; apply mo_bin; exact rfl; exact rfl; apply bin_ne; apply eql_slice_nil; (first | exact trivial | exact rfl))
    | (apply wo_po; apply mo_bin; exact rfl; exact rfl; apply bin_eq; apply eql_slice_nil; (first | exact trivial | exact rfl))
    | (apply wo_po; apply mo_bin; exact rfl; exact rfl; apply bin_ne; apply eql_nil_nil; (first | exact trivial | exact rfl))
    | (apply wo_po; apply mo_bin; exact rfl; exact rfl; apply bin_eq; apply eql_nil_nil; (first | exact trivial | exact rfl))
    | (apply wo_po; apply mo_bin; exact rfl; exact rfl; apply bin_ne; apply eql_iface_nil; (first | exact trivial | exact rfl))
    | (apply wo_po; apply mo_len; exact rfl; (first | exact trivial | exact rfl))
    | (apply wo_po; apply mo_conv; exact rfl; (first | exact wrap_i64 (by omega) (by omega) | exact wrap_u64 (by omega) (by omega)); (first | exact trivial | exact rfl))
    | (apply wo_po; apply mo_min; exact rfl; exact rfl; (first | exact trivial | exact rfl))
    | (apply we_condT; exact rfl; (first | exact rfl | (simp <;> omega) | omega))
    | (apply we_condF; exact rfl; (first | exact rfl | (simp <;> omega) | omega))
    | refine we_ret ?_
    | refine we_skip ?_
    | refine we_label ?_
    | refine we_block ?_
    | refine we_scope ?_
    | refine we_exit ?_)
  refine we_loopN (alInv x1 p g b fl wt (fun _ => 0) a l cap W) (fun m => 201 - m.i) ⟨0, 0, 0, 0, 0, fun _ => 0⟩ ⟨by simp, by simp, by simp, ⟨by simp, by simp, by simp, rfl⟩, by simp, fun _ => ⟨rfl, f1.1⟩, fun h => absurd rfl h⟩ ⟨rfl, rfl, rfl, rfl, rfl, rfl, rfl, trivial⟩ .refl rfl ?_
  generalize (fun _ : Nat => 0) = s0
  rintro ⟨i, now, since, bad, st, s⟩ ⟨hi, hnow, hsince, hS, hst, hz, ho⟩
  dsimp only [alInv] at hi hnow hsince hS hst hz ho ⊢
  have hb1 : bad ≤ fl := by
    by_cases c : st = 0
    · exact Nat.le_of_lt (hz c).2
    · exact Nat.le_of_eq (ho c)
  by_cases hci : i < l.length
  · by_cases hci2 : i < 200
    · obtain ⟨⟨y1, yq, yg⟩, hy⟩ : ∃ y, l[i]? = some y := ⟨l[i], by simp [hci]⟩
      obtain ⟨bb, oo, rfl, e1, e2, e3⟩ := hl.at_ i _ hy
      dsimp only at e1 e2 e3
      have hy1 : y1 < 18446744073709551616 := hl.rng _ (List.mem_of_getElem? hy)
      have r1 : ∀ {c d e : HProp}, Rd [c, d, e, base W] bb (oo + 3 * i) (.int .u64 y1) := fun {c d e} => Rd.there (Rd.there (Rd.there e1))
      have r2 : ∀ {c d e : HProp}, Rd [c, d, e, base W] bb (oo + 3 * i + 1) (.bool yq) := fun {c d e} => Rd.there (Rd.there (Rd.there e2))
      have r3 : ∀ {c d e : HProp}, Rd [c, d, e, base W] bb (oo + 3 * i + 2) (.bool yg) := fun {c d e} => Rd.there (Rd.there (Rd.there e3))
      have q1 : (y1 : Int).tmod 30 = ((y1 % 30 : Nat) : Int) := by rw [Int.tmod_eq_emod_of_nonneg (by omega)]; omega
      obtain ⟨nw, hnw⟩ : ∃ nw, now + y1 % 30 = nw := ⟨_, rfl⟩
      have a1 : IntKind.u64.wrap ((now : Int) + ((y1 % 30 : Nat) : Int)) = ((nw : Nat) : Int) := (wrap_u64 (by omega) (by omega)).trans (by omega)
      have a2 : IntKind.u64.wrap ((since : Int) + ((wt : Nat) : Int)) = ((since + wt : Nat) : Int) := (wrap_u64 (by omega) (by omega)).trans (by omega)
      cases yq with
      | true =>
        by_cases c0 : st = 0
        · subst c0
          obtain ⟨z1, z2⟩ := hz rfl
          repeat (first
            | (apply wo_po; apply mo_indexAddr (r := oo + 3 * i); exact rfl; exact rfl; omega; omega; omega; (first | exact trivial | exact rfl))
            | (apply wo_po; apply mo_load; exact rfl; (first | exact r1 | exact r2 | exact r3); exact trivial)
            | (apply wo_po; apply mo_bin; exact rfl; exact rfl; apply bin_rem; omega; exact q1; exact trivial)
            | (apply wo_po; apply mo_bin; exact rfl; exact rfl; apply bin_add; exact a1; exact trivial)
            | (apply wo_po; apply mo_bin; exact rfl; exact rfl; apply bin_lssT; omega; (first | exact trivial | exact rfl))
            | (apply wo_po; apply mo_bin; exact rfl; exact rfl; apply bin_lssF; omega; (first | exact trivial | exact rfl))
            | (apply wo_po; apply mo_bin; exact rfl; exact rfl; apply bin_leqT; omega; (first | exact trivial | exact rfl))
            | (apply wo_po; apply mo_bin; exact rfl; exact rfl; apply bin_leqF; omega; (first | exact trivial | exact rfl))
            | (apply wo_po; apply mo_bin; exact rfl; exact rfl; apply bin_gtrT; omega; (first | exact trivial | exact rfl))
            | (apply wo_po; apply mo_bin; exact rfl; exact rfl; apply bin_gtrF; omega; (first | exact trivial | exact rfl))
            | (apply wo_po; apply mo_bin; exact rfl; exact rfl; apply bin_geqT; omega; (first | exact trivial | exact rfl))
            | (apply wo_po; apply mo_bin; exact rfl; exact rfl; apply bin_geqF; omega; (first | exact trivial | exact rfl))
            | (apply wo_po; apply mo_bin; exact rfl; exact rfl; apply bin_eqlT; omega; (first | exact trivial | exact rfl))
            | (apply wo_po; apply mo_bin; exact rfl; exact rfl; apply bin_eqlF; omega; (first | exact trivial | exact rfl))
            | (apply wo_po; apply mo_bin; exact rfl; exact rfl; apply bin_neqT; omega; (first | exact trivial | exact rfl))
            | (apply wo_po; apply mo_bin; exact rfl; exact rfl; apply bin_neqF; omega; (first | exact trivial | exact rfl))
            | refine we_seq ?_
            | (refine we_region _ rfl rfl ?_; simp only [opsOf, List.map_cons, List.map_nil, Option.map_none, Option.map_some, List.getElem?_toArray, List.getElem?_cons_zero, List.getElem?_cons_succ, Option.bind_some, Option.getD_some])
            | refine wo_nil ?_
            | (apply wo_po; apply mo_move; exact rfl; (first | exact trivial | exact rfl))
            | (apply wo_po; apply mo_assign; exact rfl; (first | exact trivial | exact rfl))
            | (apply wo_no; exact rfl)
            | (apply wo_po; apply mo_pickT; exact rfl; exact rfl; exact rfl; (first | exact trivial | exact rfl))
            | (apply wo_po; apply mo_pickF; exact rfl; exact rfl; exact rfl; (first | exact trivial | exact rfl))
            | (apply wo_po; apply mo_nilCheck; exact rfl; (first | exact trivial | exact rfl))
            | (apply wo_po; apply mo_fieldAddr; exact rfl; exact rfl; (first | exact Nat.zero_add _ | exact rfl); (first | exact trivial | exact rfl))
            | (apply wo_po; apply mo_extract; exact rfl; exact rfl; (first | exact trivial | exact rfl))
            | (apply wo_po; apply mo_not; exact rfl; (first | exact trivial | exact rfl))
            | (apply wo_po; apply mo_load; exact rfl; (repeat (first | exact Rd.row0 rfl | exact Rd.row rfl rfl | exact Rd.still | apply Rd.there)); (first | exact trivial | exact rfl))
            | (apply wo_po; apply mo_bin; exact rfl; exact rfl; exact bin_lss; (first | exact trivial | exact rfl))
            | (apply wo_po; apply mo_bin; exact rfl; exact rfl; exact bin_gtr; (first | exact trivial | exact rfl))
            | (apply wo_po; apply mo_bin; exact rfl; exact rfl; exact bin_leq; (first | exact trivial | exact rfl))
            | (apply wo_po; apply mo_bin; exact rfl; exact rfl; exact bin_geq; (first | exact trivial | exact rfl))
            | (apply wo_po; apply mo_bin; exact rfl; exact rfl; exact bin_eql; (first | exact trivial | exact rfl))
            | (apply wo_po; apply mo_bin; exact rfl; exact rfl; exact bin_neq; (first | exact trivial | exact rfl))
            | (apply wo_po; apply mo_bin; exact rfl; exact rfl; apply bin_add; exact wrap_i64 (by omega) (by omega); (first | exact trivial | exact rfl))
            | (apply wo_po; apply mo_bin; exact rfl; exact rfl; apply bin_sub; exact wrap_i64 (by omega) (by omega); (first | exact trivial | exact rfl))
            | (apply wo_po; apply mo_bin; exact rfl; exact rfl; apply bin_ne; apply eql_ptr_nil; (first | exact trivial | exact rfl))
            | (apply wo_po; apply mo_bin; exact rfl; exact rfl; apply bin_eq; apply eql_ptr_nil; (first | exact trivial | exact rfl))
            | (apply wo_po; apply mo_bin; exact rfl; exact rfl; apply bin_ne; apply eql_slice_nil; (first | exact trivial | exact rfl))
            | (apply wo_po; apply mo_bin; exact rfl; exact rfl; apply bin_eq; apply eql_slice_nil; (first | exact trivial | exact rfl))
            | (apply wo_po; apply mo_bin; exact rfl; exact rfl; apply bin_ne; apply eql_nil_nil; (first | exact trivial | exact rfl))
            | (apply wo_po; apply mo_bin; exact rfl; exact rfl; apply bin_eq; apply eql_nil_nil; (first | exact trivial | exact rfl))
            | (apply wo_po; apply mo_bin; exact rfl; exact rfl; apply bin_ne; apply eql_iface_nil; (first | exact trivial | exact rfl))
            | (apply wo_po; apply mo_len; exact rfl; (first | exact trivial | exact rfl))
            | (apply wo_po; apply mo_conv; exact rfl; (first | exact wrap_i64 (by omega) (by omega) | exact wrap_u64 (by omega) (by omega)); (first | exact trivial | exact rfl))
            | (apply wo_po; apply mo_min; exact rfl; exact rfl; (first | exact trivial | exact rfl))
            | (apply we_condT; exact rfl; (first | exact rfl | (simp <;> omega) | omega))
            | (apply we_condF; exact rfl; (first | exact rfl | (simp <;> omega) | omega))
            | refine we_ret ?_
            | refine we_skip ?_
            | refine we_label ?_
            | refine we_block ?_
            | refine we_scope ?_
            | refine we_exit ?_)
          refine wo_call (.cons rfl (.cons rfl (.cons rfl .nil))) trivial (ask_is (q := true) (a' := 0) (c' := since) (by omega) (by omega) (by omega) (by omega) hS (by simp) (by simp) (by simp) (.there (.there .here))) ?_
          rintro v' L' x2 ⟨s', rfl, S', rfl, rfl⟩
          repeat (first
            | (apply wo_po; apply mo_bin; exact rfl; exact rfl; apply bin_ne; apply eql_bool; (first | exact trivial | exact rfl))
            | (apply wo_po; apply mo_bin; exact rfl; exact rfl; apply bin_lssT; omega; (first | exact trivial | exact rfl))
            | (apply wo_po; apply mo_bin; exact rfl; exact rfl; apply bin_lssF; omega; (first | exact trivial | exact rfl))
            | (apply wo_po; apply mo_bin; exact rfl; exact rfl; apply bin_leqT; omega; (first | exact trivial | exact rfl))
            | (apply wo_po; apply mo_bin; exact rfl; exact rfl; apply bin_leqF; omega; (first | exact trivial | exact rfl))
            | (apply wo_po; apply mo_bin; exact rfl; exact rfl; apply bin_gtrT; omega; (first | exact trivial | exact rfl))
            | (apply wo_po; apply mo_bin; exact rfl; exact rfl; apply bin_gtrF; omega; (first | exact trivial | exact rfl))
            | (apply wo_po; apply mo_bin; exact rfl; exact rfl; apply bin_geqT; omega; (first | exact trivial | exact rfl))
            | (apply wo_po; apply mo_bin; exact rfl; exact rfl; apply bin_geqF; omega; (first | exact trivial | exact rfl))
            | (apply wo_po; apply mo_bin; exact rfl; exact rfl; apply bin_eqlT; omega; (first | exact trivial | exact rfl))
            | (apply wo_po; apply mo_bin; exact rfl; exact rfl; apply bin_eqlF; omega; (first | exact trivial | exact rfl))
            | (apply wo_po; apply mo_bin; exact rfl; exact rfl; apply bin_neqT; omega; (first | exact trivial | exact rfl))
            | (apply wo_po; apply mo_bin; exact rfl; exact rfl; apply bin_neqF; omega; (first | exact trivial | exact rfl))
            | refine we_seq ?_
            | (refine we_region _ rfl rfl ?_; simp only [opsOf, List.map_cons, List.map_nil, Option.map_none, Option.map_some, List.getElem?_toArray, List.getElem?_cons_zero, List.getElem?_cons_succ, Option.bind_some, Option.getD_some])
            | refine wo_nil ?_
            | (apply wo_po; apply mo_move; exact rfl; (first | exact trivial | exact rfl))
            | (apply wo_po; apply mo_assign; exact rfl; (first | exact trivial | exact rfl))
            | (apply wo_no; exact rfl)
            | (apply wo_po; apply mo_pickT; exact rfl; exact rfl; exact rfl; (first | exact trivial | exact rfl))
            | (apply wo_po; apply mo_pickF; exact rfl; exact rfl; exact rfl; (first | exact trivial | exact rfl))
            | (apply wo_po; apply mo_nilCheck; exact rfl; (first | exact trivial | exact rfl))
            | (apply wo_po; apply mo_fieldAddr; exact rfl; exact rfl; (first | exact Nat.zero_add _ | exact rfl); (first | exact trivial | exact rfl))
            | (apply wo_po; apply mo_extract; exact rfl; exact rfl; (first | exact trivial | exact rfl))
            | (apply wo_po; apply mo_not; exact rfl; (first | exact trivial | exact rfl))
            | (apply wo_po; apply mo_load; exact rfl; (repeat (first | exact Rd.row0 rfl | exact Rd.row rfl rfl | exact Rd.still | apply Rd.there)); (first | exact trivial | exact rfl))
            | (apply wo_po; apply mo_bin; exact rfl; exact rfl; exact bin_lss; (first | exact trivial | exact rfl))
            | (apply wo_po; apply mo_bin; exact rfl; exact rfl; exact bin_gtr; (first | exact trivial | exact rfl))
            | (apply wo_po; apply mo_bin; exact rfl; exact rfl; exact bin_leq; (first | exact trivial | exact rfl))
            | (apply wo_po; apply mo_bin; exact rfl; exact rfl; exact bin_geq; (first | exact trivial | exact rfl))
            | (apply wo_po; apply mo_bin; exact rfl; exact rfl; exact bin_eql; (first | exact trivial | exact rfl))
            | (apply wo_po; apply mo_bin; exact rfl; exact rfl; exact bin_neq; (first | exact trivial | exact rfl))
            | (apply wo_po; apply mo_bin; exact rfl; exact rfl; apply bin_add; exact wrap_i64 (by omega) (by omega); (first | exact trivial | exact rfl))
            | (apply wo_po; apply mo_bin; exact rfl; exact rfl; apply bin_sub; exact wrap_i64 (by omega) (by omega); (first | exact trivial | exact rfl))
            | (apply wo_po; apply mo_bin; exact rfl; exact rfl; apply bin_ne; apply eql_ptr_nil; (first | exact trivial | exact rfl))
            | (apply wo_po; apply mo_bin; exact rfl; exact rfl; apply bin_eq; apply eql_ptr_nil; (first | exact trivial | exact rfl))
            | (apply wo_po; apply mo_bin; exact rfl; exact rfl; apply bin_ne; apply eql_slice_nil; (first | exact trivial | exact rfl))
            | (apply wo_po; apply mo_bin; exact rfl; exact rfl; apply bin_eq; apply eql_slice_nil; (first | exact trivial | exact rfl))
            | (apply wo_po; apply mo_bin; exact rfl; exact rfl; apply bin_ne; apply eql_nil_nil; (first | exact trivial | exact rfl))
            | (apply wo_po; apply mo_bin; exact rfl; exact rfl; apply bin_eq; apply eql_nil_nil; (first | exact trivial | exact rfl))
            | (apply wo_po; apply mo_bin; exact rfl; exact rfl; apply bin_ne; apply eql_iface_nil; (first | exact trivial | exact rfl))
            | (apply wo_po; apply mo_len; exact rfl; (first | exact trivial | exact rfl))
            | (apply wo_po; apply mo_conv; exact rfl; (first | exact wrap_i64 (by omega) (by omega) | exact wrap_u64 (by omega) (by omega)); (first | exact trivial | exact rfl))
            | (apply wo_po; apply mo_min; exact rfl; exact rfl; (first | exact trivial | exact rfl))
            | (apply we_condT; exact rfl; (first | exact rfl | (simp <;> omega) | omega))
            | (apply we_condF; exact rfl; (first | exact rfl | (simp <;> omega) | omega))
            | refine we_ret ?_
            | refine we_skip ?_
            | refine we_label ?_
            | refine we_block ?_
            | refine we_scope ?_
            | refine we_exit ?_)
          refine at_round (I := alInv x2 p g b fl wt s0 _ l cap W) (R := fun m' => 201 - m'.i < 201 - i) ⟨i + 1, nw, since, bad, 0, s'⟩ (by simp; omega) ⟨by simp; omega, by simp; omega, by simp; omega, S', by simp, fun _ => ⟨z1, z2⟩, fun h => absurd rfl h⟩ ⟨rfl, rfl, rfl, rfl, rfl, rfl, rfl, trivial⟩ (.take (.there .here) (.take (.there .here) (.take .here .refl))) rfl
        · have z1 := ho c0
          by_cases c1 : since + wt ≤ nw
          · repeat (first
              | (apply wo_po; apply mo_indexAddr (r := oo + 3 * i); exact rfl; exact rfl; omega; omega; omega; (first | exact trivial | exact rfl))
              | (apply wo_po; apply mo_load; exact rfl; (first | exact r1 | exact r2 | exact r3); exact trivial)
              | (apply wo_po; apply mo_bin; exact rfl; exact rfl; apply bin_rem; omega; exact q1; exact trivial)
              | (apply wo_po; apply mo_bin; exact rfl; exact rfl; apply bin_add; exact a1; exact trivial)
              | (apply wo_po; apply mo_bin; exact rfl; exact rfl; apply bin_add; exact a2; (first | exact trivial | exact rfl))
              | (apply wo_po; apply mo_bin; exact rfl; exact rfl; apply bin_lssT; omega; (first | exact trivial | exact rfl))
              | (apply wo_po; apply mo_bin; exact rfl; exact rfl; apply bin_lssF; omega; (first | exact trivial | exact rfl))
              | (apply wo_po; apply mo_bin; exact rfl; exact rfl; apply bin_leqT; omega; (first | exact trivial | exact rfl))
              | (apply wo_po; apply mo_bin; exact rfl; exact rfl; apply bin_leqF; omega; (first | exact trivial | exact rfl))
              | (apply wo_po; apply mo_bin; exact rfl; exact rfl; apply bin_gtrT; omega; (first | exact trivial | exact rfl))
              | (apply wo_po; apply mo_bin; exact rfl; exact rfl; apply bin_gtrF; omega; (first | exact trivial | exact rfl))
              | (apply wo_po; apply mo_bin; exact rfl; exact rfl; apply bin_geqT; omega; (first | exact trivial | exact rfl))
              | (apply wo_po; apply mo_bin; exact rfl; exact rfl; apply bin_geqF; omega; (first | exact trivial | exact rfl))
              | (apply wo_po; apply mo_bin; exact rfl; exact rfl; apply bin_eqlT; omega; (first | exact trivial | exact rfl))
              | (apply wo_po; apply mo_bin; exact rfl; exact rfl; apply bin_eqlF; omega; (first | exact trivial | exact rfl))
              | (apply wo_po; apply mo_bin; exact rfl; exact rfl; apply bin_neqT; omega; (first | exact trivial | exact rfl))
              | (apply wo_po; apply mo_bin; exact rfl; exact rfl; apply bin_neqF; omega; (first | exact trivial | exact rfl))
              | refine we_seq ?_
              | (refine we_region _ rfl rfl ?_; simp only [opsOf, List.map_cons, List.map_nil, Option.map_none, Option.map_some, List.getElem?_toArray, List.getElem?_cons_zero, List.getElem?_cons_succ, Option.bind_some, Option.getD_some])
              | refine wo_nil ?_
              | (apply wo_po; apply mo_move; exact rfl; (first | exact trivial | exact rfl))
              | (apply wo_po; apply mo_assign; exact rfl; (first | exact trivial | exact rfl))
              | (apply wo_no; exact rfl)
              | (apply wo_po; apply mo_pickT; exact rfl; exact rfl; exact rfl; (first | exact trivial | exact rfl))
              | (apply wo_po; apply mo_pickF; exact rfl; exact rfl; exact rfl; (first | exact trivial | exact rfl))
              | (apply wo_po; apply mo_nilCheck; exact rfl; (first | exact trivial | exact rfl))
              | (apply wo_po; apply mo_fieldAddr; exact rfl; exact rfl; (first | exact Nat.zero_add _ | exact rfl); (first | exact trivial | exact rfl))
              | (apply wo_po; apply mo_extract; exact rfl; exact rfl; (first | exact trivial | exact rfl))
              | (apply wo_po; apply mo_not; exact rfl; (first | exact trivial | exact rfl))
              | (apply wo_po; apply mo_load; exact rfl; (repeat (first | exact Rd.row0 rfl | exact Rd.row rfl rfl | exact Rd.still | apply Rd.there)); (first | exact trivial | exact rfl))
              | (apply wo_po; apply mo_bin; exact rfl; exact rfl; exact bin_lss; (first | exact trivial | exact rfl))
              | (apply wo_po; apply mo_bin; exact rfl; exact rfl; exact bin_gtr; (first | exact trivial | exact rfl))
              | (apply wo_po; apply mo_bin; exact rfl; exact rfl; exact bin_leq; (first | exact trivial | exact rfl))
              | (apply wo_po; apply mo_bin; exact rfl; exact rfl; exact bin_geq; (first | exact trivial | exact rfl))
              | (apply wo_po; apply mo_bin; exact rfl; exact rfl; exact bin_eql; (first | exact trivial | exact rfl))
              | (apply wo_po; apply mo_bin; exact rfl; exact rfl; exact bin_neq; (first | exact trivial | exact rfl))
              | (apply wo_po; apply mo_bin; exact rfl; exact rfl; apply bin_add; exact wrap_i64 (by omega) (by omega); (first | exact trivial | exact rfl))
              | (apply wo_po; apply mo_bin; exact rfl; exact rfl; apply bin_sub; exact wrap_i64 (by omega) (by omega); (first | exact trivial | exact rfl))
              | (apply wo_po; apply mo_bin; exact rfl; exact rfl; apply bin_ne; apply eql_ptr_nil; (first | exact trivial | exact rfl))
              | (apply wo_po; apply mo_bin; exact rfl; exact rfl; apply bin_eq; apply eql_ptr_nil; (first | exact trivial | exact rfl))
              | (apply wo_po; apply mo_bin; exact rfl; exact rfl; apply bin_ne; apply eql_slice_nil; (first | exact trivial | exact rfl))
              | (apply wo_po; apply mo_bin; exact rfl; exact rfl; apply bin_eq; apply eql_slice_nil; (first | exact trivial | exact rfl))
              | (apply wo_po; apply mo_bin; exact rfl; exact rfl; apply bin_ne; apply eql_nil_nil; (first | exact trivial | exact rfl))
              | (apply wo_po; apply mo_bin; exact rfl; exact rfl; apply bin_eq; apply eql_nil_nil; (first | exact trivial | exact rfl))
              | (apply wo_po; apply mo_bin; exact rfl; exact rfl; apply bin_ne; apply eql_iface_nil; (first | exact trivial | exact rfl))
              | (apply wo_po; apply mo_len; exact rfl; (first | exact trivial | exact rfl))
              | (apply wo_po; apply mo_conv; exact rfl; (first | exact wrap_i64 (by omega) (by omega) | exact wrap_u64 (by omega) (by omega)); (first | exact trivial | exact rfl))
              | (apply wo_po; apply mo_min; exact rfl; exact rfl; (first | exact trivial | exact rfl))
              | (apply we_condT; exact rfl; (first | exact rfl | (simp <;> omega) | omega))
              | (apply we_condF; exact rfl; (first | exact rfl | (simp <;> omega) | omega))
              | refine we_ret ?_
              | refine we_skip ?_
              | refine we_label ?_
              | refine we_block ?_
              | refine we_scope ?_
              | refine we_exit ?_)
            refine wo_call (.cons rfl (.cons rfl (.cons rfl .nil))) trivial (ask_is (q := true) (a' := 2) (c' := nw) (by omega) (by omega) (by omega) (by omega) hS (by simp [c1]) (by rw [if_pos ⟨c0, c1⟩]) (by rw [if_pos ⟨c0, c1⟩]) (.there (.there .here))) ?_
            rintro v' L' x2 ⟨s', rfl, S', rfl, rfl⟩
            repeat (first
              | (apply wo_po; apply mo_bin; exact rfl; exact rfl; apply bin_ne; apply eql_bool; (first | exact trivial | exact rfl))
              | (apply wo_po; apply mo_bin; exact rfl; exact rfl; apply bin_lssT; omega; (first | exact trivial | exact rfl))
              | (apply wo_po; apply mo_bin; exact rfl; exact rfl; apply bin_lssF; omega; (first | exact trivial | exact rfl))
              | (apply wo_po; apply mo_bin; exact rfl; exact rfl; apply bin_leqT; omega; (first | exact trivial | exact rfl))
              | (apply wo_po; apply mo_bin; exact rfl; exact rfl; apply bin_leqF; omega; (first | exact trivial | exact rfl))
              | (apply wo_po; apply mo_bin; exact rfl; exact rfl; apply bin_gtrT; omega; (first | exact trivial | exact rfl))
              | (apply wo_po; apply mo_bin; exact rfl; exact rfl; apply bin_gtrF; omega; (first | exact trivial | exact rfl))
              | (apply wo_po; apply mo_bin; exact rfl; exact rfl; apply bin_geqT; omega; (first | exact trivial | exact rfl))
              | (apply wo_po; apply mo_bin; exact rfl; exact rfl; apply bin_geqF; omega; (first | exact trivial | exact rfl))
              | (apply wo_po; apply mo_bin; exact rfl; exact rfl; apply bin_eqlT; omega; (first | exact trivial | exact rfl))
              | (apply wo_po; apply mo_bin; exact rfl; exact rfl; apply bin_eqlF; omega; (first | exact trivial | exact rfl))
              | (apply wo_po; apply mo_bin; exact rfl; exact rfl; apply bin_neqT; omega; (first | exact trivial | exact rfl))
              | (apply wo_po; apply mo_bin; exact rfl; exact rfl; apply bin_neqF; omega; (first | exact trivial | exact rfl))
              | refine we_seq ?_
              | (refine we_region _ rfl rfl ?_; simp only [opsOf, List.map_cons, List.map_nil, Option.map_none, Option.map_some, List.getElem?_toArray, List.getElem?_cons_zero, List.getElem?_cons_succ, Option.bind_some, Option.getD_some])
              | refine wo_nil ?_
              | (apply wo_po; apply mo_move; exact rfl; (first | exact trivial | exact rfl))
              | (apply wo_po; apply mo_assign; exact rfl; (first | exact trivial | exact rfl))
              | (apply wo_no; exact rfl)
              | (apply wo_po; apply mo_pickT; exact rfl; exact rfl; exact rfl; (first | exact trivial | exact rfl))
              | (apply wo_po; apply mo_pickF; exact rfl; exact rfl; exact rfl; (first | exact trivial | exact rfl))
              | (apply wo_po; apply mo_nilCheck; exact rfl; (first | exact trivial | exact rfl))
              | (apply wo_po; apply mo_fieldAddr; exact rfl; exact rfl; (first | exact Nat.zero_add _ | exact rfl); (first | exact trivial | exact rfl))
              | (apply wo_po; apply mo_extract; exact rfl; exact rfl; (first | exact trivial | exact rfl))
              | (apply wo_po; apply mo_not; exact rfl; (first | exact trivial | exact rfl))
              | (apply wo_po; apply mo_load; exact rfl; (repeat (first | exact Rd.row0 rfl | exact Rd.row rfl rfl | exact Rd.still | apply Rd.there)); (first | exact trivial | exact rfl))
              | (apply wo_po; apply mo_bin; exact rfl; exact rfl; exact bin_lss; (first | exact trivial | exact rfl))
              | (apply wo_po; apply mo_bin; exact rfl; exact rfl; exact bin_gtr; (first | exact trivial | exact rfl))
              | (apply wo_po; apply mo_bin; exact rfl; exact rfl; exact bin_leq; (first | exact trivial | exact rfl))
              | (apply wo_po; apply mo_bin; exact rfl; exact rfl; exact bin_geq; (first | exact trivial | exact rfl))
              | (apply wo_po; apply mo_bin; exact rfl; exact rfl; exact bin_eql; (first | exact trivial | exact rfl))
              | (apply wo_po; apply mo_bin; exact rfl; exact rfl; exact bin_neq; (first | exact trivial | exact rfl))
              | (apply wo_po; apply mo_bin; exact rfl; exact rfl; apply bin_add; exact wrap_i64 (by omega) (by omega); (first | exact trivial | exact rfl))
              | (apply wo_po; apply mo_bin; exact rfl; exact rfl; apply bin_sub; exact wrap_i64 (by omega) (by omega); (first | exact trivial | exact rfl))
              | (apply wo_po; apply mo_bin; exact rfl; exact rfl; apply bin_ne; apply eql_ptr_nil; (first | exact trivial | exact rfl))
              | (apply wo_po; apply mo_bin; exact rfl; exact rfl; apply bin_eq; apply eql_ptr_nil; (first | exact trivial | exact rfl))
              | (apply wo_po; apply mo_bin; exact rfl; exact rfl; apply bin_ne; apply eql_slice_nil; (first | exact trivial | exact rfl))
              | (apply wo_po; apply mo_bin; exact rfl; exact rfl; apply bin_eq; apply eql_slice_nil; (first | exact trivial | exact rfl))
              | (apply wo_po; apply mo_bin; exact rfl; exact rfl; apply bin_ne; apply eql_nil_nil; (first | exact trivial | exact rfl))
              | (apply wo_po; apply mo_bin; exact rfl; exact rfl; apply bin_eq; apply eql_nil_nil; (first | exact trivial | exact rfl))
              | (apply wo_po; apply mo_bin; exact rfl; exact rfl; apply bin_ne; apply eql_iface_nil; (first | exact trivial | exact rfl))
              | (apply wo_po; apply mo_len; exact rfl; (first | exact trivial | exact rfl))
              | (apply wo_po; apply mo_conv; exact rfl; (first | exact wrap_i64 (by omega) (by omega) | exact wrap_u64 (by omega) (by omega)); (first | exact trivial | exact rfl))
              | (apply wo_po; apply mo_min; exact rfl; exact rfl; (first | exact trivial | exact rfl))
              | (apply we_condT; exact rfl; (first | exact rfl | (simp <;> omega) | omega))
              | (apply we_condF; exact rfl; (first | exact rfl | (simp <;> omega) | omega))
              | refine we_ret ?_
              | refine we_skip ?_
              | refine we_label ?_
              | refine we_block ?_
              | refine we_scope ?_
              | refine we_exit ?_)
            refine at_round (I := alInv x2 p g b fl wt s0 _ l cap W) (R := fun m' => 201 - m'.i < 201 - i) ⟨i + 1, nw, nw, bad, 2, s'⟩ (by simp; omega) ⟨by simp; omega, by simp; omega, by simp, S', by simp, fun h => absurd h (by simp), fun _ => z1⟩ ⟨rfl, rfl, rfl, rfl, rfl, rfl, rfl, trivial⟩ (.take (.there .here) (.take (.there .here) (.take .here .refl))) rfl
          · repeat (first
              | (apply wo_po; apply mo_indexAddr (r := oo + 3 * i); exact rfl; exact rfl; omega; omega; omega; (first | exact trivial | exact rfl))
              | (apply wo_po; apply mo_load; exact rfl; (first | exact r1 | exact r2 | exact r3); exact trivial)
              | (apply wo_po; apply mo_bin; exact rfl; exact rfl; apply bin_rem; omega; exact q1; exact trivial)
              | (apply wo_po; apply mo_bin; exact rfl; exact rfl; apply bin_add; exact a1; exact trivial)
              | (apply wo_po; apply mo_bin; exact rfl; exact rfl; apply bin_add; exact a2; (first | exact trivial | exact rfl))
              | (apply wo_po; apply mo_bin; exact rfl; exact rfl; apply bin_lssT; omega; (first | exact trivial | exact rfl))
              | (apply wo_po; apply mo_bin; exact rfl; exact rfl; apply bin_lssF; omega; (first | exact trivial | exact rfl))
              | (apply wo_po; apply mo_bin; exact rfl; exact rfl; apply bin_leqT; omega; (first | exact trivial | exact rfl))
              | (apply wo_po; apply mo_bin; exact rfl; exact rfl; apply bin_leqF; omega; (first | exact trivial | exact rfl))
              | (apply wo_po; apply mo_bin; exact rfl; exact rfl; apply bin_gtrT; omega; (first | exact trivial | exact rfl))
              | (apply wo_po; apply mo_bin; exact rfl; exact rfl; apply bin_gtrF; omega; (first | exact trivial | exact rfl))
              | (apply wo_po; apply mo_bin; exact rfl; exact rfl; apply bin_geqT; omega; (first | exact trivial | exact rfl))
              | (apply wo_po; apply mo_bin; exact rfl; exact rfl; apply bin_geqF; omega; (first | exact trivial | exact rfl))
              | (apply wo_po; apply mo_bin; exact rfl; exact rfl; apply bin_eqlT; omega; (first | exact trivial | exact rfl))
              | (apply wo_po; apply mo_bin; exact rfl; exact rfl; apply bin_eqlF; omega; (first | exact trivial | exact rfl))
              | (apply wo_po; apply mo_bin; exact rfl; exact rfl; apply bin_neqT; omega; (first | exact trivial | exact rfl))
              | (apply wo_po; apply mo_bin; exact rfl; exact rfl; apply bin_neqF; omega; (first | exact trivial | exact rfl))
              | refine we_seq ?_
              | (refine we_region _ rfl rfl ?_; simp only [opsOf, List.map_cons, List.map_nil, Option.map_none, Option.map_some, List.getElem?_toArray, List.getElem?_cons_zero, List.getElem?_cons_succ, Option.bind_some, Option.getD_some])
              | refine wo_nil ?_
              | (apply wo_po; apply mo_move; exact rfl; (first | exact trivial | exact rfl))
              | (apply wo_po; apply mo_assign; exact rfl; (first | exact trivial | exact rfl))
              | (apply wo_no; exact rfl)
              | (apply wo_po; apply mo_pickT; exact rfl; exact rfl; exact rfl; (first | exact trivial | exact rfl))
              | (apply wo_po; apply mo_pickF; exact rfl; exact rfl; exact rfl; (first | exact trivial | exact rfl))
              | (apply wo_po; apply mo_nilCheck; exact rfl; (first | exact trivial | exact rfl))
              | (apply wo_po; apply mo_fieldAddr; exact rfl; exact rfl; (first | exact Nat.zero_add _ | exact rfl); (first | exact trivial | exact rfl))
              | (apply wo_po; apply mo_extract; exact rfl; exact rfl; (first | exact trivial | exact rfl))
              | (apply wo_po; apply mo_not; exact rfl; (first | exact trivial | exact rfl))
              | (apply wo_po; apply mo_load; exact rfl; (repeat (first | exact Rd.row0 rfl | exact Rd.row rfl rfl | exact Rd.still | apply Rd.there)); (first | exact trivial | exact rfl))
              | (apply wo_po; apply mo_bin; exact rfl; exact rfl; exact bin_lss; (first | exact trivial | exact rfl))
              | (apply wo_po; apply mo_bin; exact rfl; exact rfl; exact bin_gtr; (first | exact trivial | exact rfl))
              | (apply wo_po; apply mo_bin; exact rfl; exact rfl; exact bin_leq; (first | exact trivial | exact rfl))
              | (apply wo_po; apply mo_bin; exact rfl; exact rfl; exact bin_geq; (first | exact trivial | exact rfl))
              | (apply wo_po; apply mo_bin; exact rfl; exact rfl; exact bin_eql; (first | exact trivial | exact rfl))
              | (apply wo_po; apply mo_bin; exact rfl; exact rfl; exact bin_neq; (first | exact trivial | exact rfl))
              | (apply wo_po; apply mo_bin; exact rfl; exact rfl; apply bin_add; exact wrap_i64 (by omega) (by omega); (first | exact trivial | exact rfl))
              | (apply wo_po; apply mo_bin; exact rfl; exact rfl; apply bin_sub; exact wrap_i64 (by omega) (by omega); (first | exact trivial | exact rfl))
              | (apply wo_po; apply mo_bin; exact rfl; exact rfl; apply bin_ne; apply eql_ptr_nil; (first | exact trivial | exact rfl))
              | (apply wo_po; apply mo_bin; exact rfl; exact rfl; apply bin_eq; apply eql_ptr_nil; (first | exact trivial | exact rfl))
              | (apply wo_po; apply mo_bin; exact rfl; exact rfl; apply bin_ne; apply eql_slice_nil; (first | exact trivial | exact rfl))
              | (apply wo_po; apply mo_bin; exact rfl; exact rfl; apply bin_eq; apply eql_slice_nil; (first | exact trivial | exact rfl))
              | (apply wo_po; apply mo_bin; exact rfl; exact rfl; apply bin_ne; apply eql_nil_nil; (first | exact trivial | exact rfl))
              | (apply wo_po; apply mo_bin; exact rfl; exact rfl; apply bin_eq; apply eql_nil_nil; (first | exact trivial | exact rfl))
              | (apply wo_po; apply mo_bin; exact rfl; exact rfl; apply bin_ne; apply eql_iface_nil; (first | exact trivial | exact rfl))
              | (apply wo_po; apply mo_len; exact rfl; (first | exact trivial | exact rfl))
              | (apply wo_po; apply mo_conv; exact rfl; (first | exact wrap_i64 (by omega) (by omega) | exact wrap_u64 (by omega) (by omega)); (first | exact trivial | exact rfl))
              | (apply wo_po; apply mo_min; exact rfl; exact rfl; (first | exact trivial | exact rfl))
              | (apply we_condT; exact rfl; (first | exact rfl | (simp <;> omega) | omega))
              | (apply we_condF; exact rfl; (first | exact rfl | (simp <;> omega) | omega))
              | refine we_ret ?_
              | refine we_skip ?_
              | refine we_label ?_
              | refine we_block ?_
              | refine we_scope ?_
              | refine we_exit ?_)
            refine wo_call (.cons rfl (.cons rfl (.cons rfl .nil))) trivial (ask_is (q := false) (a' := st) (c' := since) (by omega) (by omega) (by omega) (by omega) hS (by simp [c0, c1]) (by rw [if_neg (fun h => c1 h.2)]) (by rw [if_neg (fun h => c1 h.2)]) (.there (.there .here))) ?_
            rintro v' L' x2 ⟨s', rfl, S', rfl, rfl⟩
            repeat (first
              | (apply wo_po; apply mo_bin; exact rfl; exact rfl; apply bin_ne; apply eql_bool; (first | exact trivial | exact rfl))
              | (apply wo_po; apply mo_bin; exact rfl; exact rfl; apply bin_lssT; omega; (first | exact trivial | exact rfl))
              | (apply wo_po; apply mo_bin; exact rfl; exact rfl; apply bin_lssF; omega; (first | exact trivial | exact rfl))
              | (apply wo_po; apply mo_bin; exact rfl; exact rfl; apply bin_leqT; omega; (first | exact trivial | exact rfl))
              | (apply wo_po; apply mo_bin; exact rfl; exact rfl; apply bin_leqF; omega; (first | exact trivial | exact rfl))
              | (apply wo_po; apply mo_bin; exact rfl; exact rfl; apply bin_gtrT; omega; (first | exact trivial | exact rfl))
              | (apply wo_po; apply mo_bin; exact rfl; exact rfl; apply bin_gtrF; omega; (first | exact trivial | exact rfl))
              | (apply wo_po; apply mo_bin; exact rfl; exact rfl; apply bin_geqT; omega; (first | exact trivial | exact rfl))
              | (apply wo_po; apply mo_bin; exact rfl; exact rfl; apply bin_geqF; omega; (first | exact trivial | exact rfl))
              | (apply wo_po; apply mo_bin; exact rfl; exact rfl; apply bin_eqlT; omega; (first | exact trivial | exact rfl))
              | (apply wo_po; apply mo_bin; exact rfl; exact rfl; apply bin_eqlF; omega; (first | exact trivial | exact rfl))
              | (apply wo_po; apply mo_bin; exact rfl; exact rfl; apply bin_neqT; omega; (first | exact trivial | exact rfl))
              | (apply wo_po; apply mo_bin; exact rfl; exact rfl; apply bin_neqF; omega; (first | exact trivial | exact rfl))
              | refine we_seq ?_
              | (refine we_region _ rfl rfl ?_; simp only [opsOf, List.map_cons, List.map_nil, Option.map_none, Option.map_some, List.getElem?_toArray, List.getElem?_cons_zero, List.getElem?_cons_succ, Option.bind_some, Option.getD_some])
              | refine wo_nil ?_
              | (apply wo_po; apply mo_move; exact rfl; (first | exact trivial | exact rfl))
              | (apply wo_po; apply mo_assign; exact rfl; (first | exact trivial | exact rfl))
              | (apply wo_no; exact rfl)
              | (apply wo_po; apply mo_pickT; exact rfl; exact rfl; exact rfl; (first | exact trivial | exact rfl))
              | (apply wo_po; apply mo_pickF; exact rfl; exact rfl; exact rfl; (first | exact trivial | exact rfl))
              | (apply wo_po; apply mo_nilCheck; exact rfl; (first | exact trivial | exact rfl))
              | (apply wo_po; apply mo_fieldAddr; exact rfl; exact rfl; (first | exact Nat.zero_add _ | exact rfl); (first | exact trivial | exact rfl))
              | (apply wo_po; apply mo_extract; exact rfl; exact rfl; (first | exact trivial | exact rfl))
              | (apply wo_po; apply mo_not; exact rfl; (first | exact trivial | exact rfl))
              | (apply wo_po; apply mo_load; exact rfl; (repeat (first | exact Rd.row0 rfl | exact Rd.row rfl rfl | exact Rd.still | apply Rd.there)); (first | exact trivial | exact rfl))
              | (apply wo_po; apply mo_bin; exact rfl; exact rfl; exact bin_lss; (first | exact trivial | exact rfl))
              | (apply wo_po; apply mo_bin; exact rfl; exact rfl; exact bin_gtr; (first | exact trivial | exact rfl))
              | (apply wo_po; apply mo_bin; exact rfl; exact rfl; exact bin_leq; (first | exact trivial | exact rfl))
              | (apply wo_po; apply mo_bin; exact rfl; exact rfl; exact bin_geq; (first | exact trivial | exact rfl))
              | (apply wo_po; apply mo_bin; exact rfl; exact rfl; exact bin_eql; (first | exact trivial | exact rfl))
              | (apply wo_po; apply mo_bin; exact rfl; exact rfl; exact bin_neq; (first | exact trivial | exact rfl))
              | (apply wo_po; apply mo_bin; exact rfl; exact rfl; apply bin_add; exact wrap_i64 (by omega) (by omega); (first | exact trivial | exact rfl))
              | (apply wo_po; apply mo_bin; exact rfl; exact rfl; apply bin_sub; exact wrap_i64 (by omega) (by omega); (first | exact trivial | exact rfl))
              | (apply wo_po; apply mo_bin; exact rfl; exact rfl; apply bin_ne; apply eql_ptr_nil; (first | exact trivial | exact rfl))
              | (apply wo_po; apply mo_bin; exact rfl; exact rfl; apply bin_eq; apply eql_ptr_nil; (first | exact trivial | exact rfl))
              | (apply wo_po; apply mo_bin; exact rfl; exact rfl; apply bin_ne; apply eql_slice_nil; (first | exact trivial | exact rfl))
              | (apply wo_po; apply mo_bin; exact rfl; exact rfl; apply bin_eq; apply eql_slice_nil; (first | exact trivial | exact rfl))
              | (apply wo_po; apply mo_bin; exact rfl; exact rfl; apply bin_ne; apply eql_nil_nil; (first | exact trivial | exact rfl))
              | (apply wo_po; apply mo_bin; exact rfl; exact rfl; apply bin_eq; apply eql_nil_nil; (first | exact trivial | exact rfl))
              | (apply wo_po; apply mo_bin; exact rfl; exact rfl; apply bin_ne; apply eql_iface_nil; (first | exact trivial | exact rfl))
              | (apply wo_po; apply mo_len; exact rfl; (first | exact trivial | exact rfl))
              | (apply wo_po; apply mo_conv; exact rfl; (first | exact wrap_i64 (by omega) (by omega) | exact wrap_u64 (by omega) (by omega)); (first | exact trivial | exact rfl))
              | (apply wo_po; apply mo_min; exact rfl; exact rfl; (first | exact trivial | exact rfl))
              | (apply we_condT; exact rfl; (first | exact rfl | (simp <;> omega) | omega))
              | (apply we_condF; exact rfl; (first | exact rfl | (simp <;> omega) | omega))
              | refine we_ret ?_
              | refine we_skip ?_
              | refine we_label ?_
              | refine we_block ?_
              | refine we_scope ?_
              | refine we_exit ?_)
            refine at_round (I := alInv x2 p g b fl wt s0 _ l cap W) (R := fun m' => 201 - m'.i < 201 - i) ⟨i + 1, nw, since, bad, st, s'⟩ (by simp; omega) ⟨by simp; omega, by simp; omega, by simp; omega, S', hst, fun h => absurd h c0, fun _ => z1⟩ ⟨rfl, rfl, rfl, rfl, rfl, rfl, rfl, trivial⟩ (.take (.there .here) (.take (.there .here) (.take .here .refl))) rfl
      | false =>
        repeat (first
          | (apply wo_po; apply mo_indexAddr (r := oo + 3 * i); exact rfl; exact rfl; omega; omega; omega; (first | exact trivial | exact rfl))
          | (apply wo_po; apply mo_load; exact rfl; (first | exact r1 | exact r2 | exact r3); exact trivial)
          | (apply wo_po; apply mo_bin; exact rfl; exact rfl; apply bin_rem; omega; exact q1; exact trivial)
          | (apply wo_po; apply mo_bin; exact rfl; exact rfl; apply bin_add; exact a1; exact trivial)
          | (apply wo_po; apply mo_bin; exact rfl; exact rfl; apply bin_lssT; omega; (first | exact trivial | exact rfl))
          | (apply wo_po; apply mo_bin; exact rfl; exact rfl; apply bin_lssF; omega; (first | exact trivial | exact rfl))
          | (apply wo_po; apply mo_bin; exact rfl; exact rfl; apply bin_leqT; omega; (first | exact trivial | exact rfl))
          | (apply wo_po; apply mo_bin; exact rfl; exact rfl; apply bin_leqF; omega; (first | exact trivial | exact rfl))
          | (apply wo_po; apply mo_bin; exact rfl; exact rfl; apply bin_gtrT; omega; (first | exact trivial | exact rfl))
          | (apply wo_po; apply mo_bin; exact rfl; exact rfl; apply bin_gtrF; omega; (first | exact trivial | exact rfl))
          | (apply wo_po; apply mo_bin; exact rfl; exact rfl; apply bin_geqT; omega; (first | exact trivial | exact rfl))
          | (apply wo_po; apply mo_bin; exact rfl; exact rfl; apply bin_geqF; omega; (first | exact trivial | exact rfl))
          | (apply wo_po; apply mo_bin; exact rfl; exact rfl; apply bin_eqlT; omega; (first | exact trivial | exact rfl))
          | (apply wo_po; apply mo_bin; exact rfl; exact rfl; apply bin_eqlF; omega; (first | exact trivial | exact rfl))
          | (apply wo_po; apply mo_bin; exact rfl; exact rfl; apply bin_neqT; omega; (first | exact trivial | exact rfl))
          | (apply wo_po; apply mo_bin; exact rfl; exact rfl; apply bin_neqF; omega; (first | exact trivial | exact rfl))
          | refine we_seq ?_
          | (refine we_region _ rfl rfl ?_; simp only [opsOf, List.map_cons, List.map_nil, Option.map_none, Option.map_some, List.getElem?_toArray, List.getElem?_cons_zero, List.getElem?_cons_succ, Option.bind_some, Option.getD_some])
          | refine wo_nil ?_
          | (apply wo_po; apply mo_move; exact rfl; (first | exact trivial | exact rfl))
          | (apply wo_po; apply mo_assign; exact rfl; (first | exact trivial | exact rfl))
          | (apply wo_no; exact rfl)
          | (apply wo_po; apply mo_pickT; exact rfl; exact rfl; exact rfl; (first | exact trivial | exact rfl))
          | (apply wo_po; apply mo_pickF; exact rfl; exact rfl; exact rfl; (first | exact trivial | exact rfl))
          | (apply wo_po; apply mo_nilCheck; exact rfl; (first | exact trivial | exact rfl))
          | (apply wo_po; apply mo_fieldAddr; exact rfl; exact rfl; (first | exact Nat.zero_add _ | exact rfl); (first | exact trivial | exact rfl))
          | (apply wo_po; apply mo_extract; exact rfl; exact rfl; (first | exact trivial | exact rfl))
          | (apply wo_po; apply mo_not; exact rfl; (first | exact trivial | exact rfl))
          | (apply wo_po; apply mo_load; exact rfl; (repeat (first | exact Rd.row0 rfl | exact Rd.row rfl rfl | exact Rd.still | apply Rd.there)); (first | exact trivial | exact rfl))
          | (apply wo_po; apply mo_bin; exact rfl; exact rfl; exact bin_lss; (first | exact trivial | exact rfl))
          | (apply wo_po; apply mo_bin; exact rfl; exact rfl; exact bin_gtr; (first | exact trivial | exact rfl))
          | (apply wo_po; apply mo_bin; exact rfl; exact rfl; exact bin_leq; (first | exact trivial | exact rfl))
          | (apply wo_po; apply mo_bin; exact rfl; exact rfl; exact bin_geq; (first | exact trivial | exact rfl))
          | (apply wo_po; apply mo_bin; exact rfl; exact rfl; exact bin_eql; (first | exact trivial | exact rfl))
          | (apply wo_po; apply mo_bin; exact rfl; exact rfl; exact bin_neq; (first | exact trivial | exact rfl))
          | (apply wo_po; apply mo_bin; exact rfl; exact rfl; apply bin_add; exact wrap_i64 (by omega) (by omega); (first | exact trivial | exact rfl))
          | (apply wo_po; apply mo_bin; exact rfl; exact rfl; apply bin_sub; exact wrap_i64 (by omega) (by omega); (first | exact trivial | exact rfl))
          | (apply wo_po; apply mo_bin; exact rfl; exact rfl; apply bin_ne; apply eql_ptr_nil; (first | exact trivial | exact rfl))
          | (apply wo_po; apply mo_bin; exact rfl; exact rfl; apply bin_eq; apply eql_ptr_nil; (first | exact trivial | exact rfl))
          | (apply wo_po; apply mo_bin; exact rfl; exact rfl; apply bin_ne; apply eql_slice_nil; (first | exact trivial | exact rfl))
          | (apply wo_po; apply mo_bin; exact rfl; exact rfl; apply bin_eq; apply eql_slice_nil; (first | exact trivial | exact rfl))
          | (apply wo_po; apply mo_bin; exact rfl; exact rfl; apply bin_ne; apply eql_nil_nil; (first | exact trivial | exact rfl))
          | (apply wo_po; apply mo_bin; exact rfl; exact rfl; apply bin_eq; apply eql_nil_nil; (first | exact trivial | exact rfl))
          | (apply wo_po; apply mo_bin; exact rfl; exact rfl; apply bin_ne; apply eql_iface_nil; (first | exact trivial | exact rfl))
          | (apply wo_po; apply mo_len; exact rfl; (first | exact trivial | exact rfl))
          | (apply wo_po; apply mo_conv; exact rfl; (first | exact wrap_i64 (by omega) (by omega) | exact wrap_u64 (by omega) (by omega)); (first | exact trivial | exact rfl))
          | (apply wo_po; apply mo_min; exact rfl; exact rfl; (first | exact trivial | exact rfl))
          | (apply we_condT; exact rfl; (first | exact rfl | (simp <;> omega) | omega))
          | (apply we_condF; exact rfl; (first | exact rfl | (simp <;> omega) | omega))
          | refine we_ret ?_
          | refine we_skip ?_
          | refine we_label ?_
          | refine we_block ?_
          | refine we_scope ?_
          | refine we_exit ?_)
        refine we_draw (List.range' 0 12) (by kernel_rfl) ?_
        repeat (first
          | (apply ap_pure; exact rfl; exact rfl; exact trivial; intro L; apply mo_indexAddr (r := oo + 3 * i); exact rfl; exact rfl; omega; omega; omega)
          | (apply ap_read; exact rfl; exact rfl; exact trivial; apply mo_load; exact rfl; exact r3)
          | (apply ap_pure; exact rfl; exact rfl; (first | exact trivial | exact rfl); intro L; apply mo_move; exact rfl)
          | (apply ap_pure; exact rfl; exact rfl; (first | exact trivial | exact rfl); intro L; apply mo_assign; exact rfl)
          | (apply ap_no; exact rfl; exact rfl; exact rfl; exact rfl)
          | (apply ap_pure; exact rfl; exact rfl; (first | exact trivial | exact rfl); intro L; apply mo_nilCheck; exact rfl)
          | (apply ap_pure; exact rfl; exact rfl; (first | exact trivial | exact rfl); intro L; apply mo_fieldAddr; exact rfl; exact rfl; (first | exact Nat.zero_add _ | exact rfl))
          | (apply ap_pure; exact rfl; exact rfl; (first | exact trivial | exact rfl); intro L; apply mo_extract; exact rfl; exact rfl)
          | (apply ap_pure; exact rfl; exact rfl; (first | exact trivial | exact rfl); intro L; apply mo_not; exact rfl)
          | (apply ap_pure; exact rfl; exact rfl; (first | exact trivial | exact rfl); intro L; apply mo_pickT; exact rfl; exact rfl; exact rfl)
          | (apply ap_pure; exact rfl; exact rfl; (first | exact trivial | exact rfl); intro L; apply mo_pickF; exact rfl; exact rfl; exact rfl)
          | (apply ap_pure; exact rfl; exact rfl; (first | exact trivial | exact rfl); intro L; apply mo_len; exact rfl)
          | (apply ap_pure; exact rfl; exact rfl; (first | exact trivial | exact rfl); intro L; apply mo_bin; exact rfl; exact rfl; exact bin_lss)
          | (apply ap_pure; exact rfl; exact rfl; (first | exact trivial | exact rfl); intro L; apply mo_bin; exact rfl; exact rfl; exact bin_gtr)
          | (apply ap_pure; exact rfl; exact rfl; (first | exact trivial | exact rfl); intro L; apply mo_bin; exact rfl; exact rfl; exact bin_leq)
          | (apply ap_pure; exact rfl; exact rfl; (first | exact trivial | exact rfl); intro L; apply mo_bin; exact rfl; exact rfl; exact bin_geq)
          | (apply ap_pure; exact rfl; exact rfl; (first | exact trivial | exact rfl); intro L; apply mo_bin; exact rfl; exact rfl; exact bin_eql)
          | (apply ap_pure; exact rfl; exact rfl; (first | exact trivial | exact rfl); intro L; apply mo_bin; exact rfl; exact rfl; exact bin_neq)
          | (apply ap_pure; exact rfl; exact rfl; (first | exact trivial | exact rfl); intro L; apply mo_bin; exact rfl; exact rfl; apply bin_add; exact wrap_i64 (by omega) (by omega))
          | (apply ap_pure; exact rfl; exact rfl; (first | exact trivial | exact rfl); intro L; apply mo_bin; exact rfl; exact rfl; apply bin_sub; exact wrap_i64 (by omega) (by omega))
          | (apply ap_read; exact rfl; exact rfl; (first | exact trivial | exact rfl); apply mo_load; exact rfl; (repeat (first | exact Rd.row0 rfl | exact Rd.row rfl rfl | exact Rd.still | apply Rd.there)))
          | refine ap_end ?_)
        refine ap_callv rfl rfl rfl rfl trivial rfl rfl (.cons rfl (.cons rfl (.cons rfl (.cons rfl .nil)))) (tell_lone (fails := fl) (wait := wt) (now := nw) (good := yg) (by omega) (by omega) (by omega) (by omega) hS hb1 (.there (.there .here))) ?_
        rintro v' L' x2 ⟨s', rfl, hS', rfl, rfl⟩
        repeat (first
          | (fail)
          | (apply ap_pure; exact rfl; exact rfl; (first | exact trivial | exact rfl); intro L; apply mo_move; exact rfl)
          | (apply ap_pure; exact rfl; exact rfl; (first | exact trivial | exact rfl); intro L; apply mo_assign; exact rfl)
          | (apply ap_no; exact rfl; exact rfl; exact rfl; exact rfl)
          | (apply ap_pure; exact rfl; exact rfl; (first | exact trivial | exact rfl); intro L; apply mo_nilCheck; exact rfl)
          | (apply ap_pure; exact rfl; exact rfl; (first | exact trivial | exact rfl); intro L; apply mo_fieldAddr; exact rfl; exact rfl; (first | exact Nat.zero_add _ | exact rfl))
          | (apply ap_pure; exact rfl; exact rfl; (first | exact trivial | exact rfl); intro L; apply mo_extract; exact rfl; exact rfl)
          | (apply ap_pure; exact rfl; exact rfl; (first | exact trivial | exact rfl); intro L; apply mo_not; exact rfl)
          | (apply ap_pure; exact rfl; exact rfl; (first | exact trivial | exact rfl); intro L; apply mo_pickT; exact rfl; exact rfl; exact rfl)
          | (apply ap_pure; exact rfl; exact rfl; (first | exact trivial | exact rfl); intro L; apply mo_pickF; exact rfl; exact rfl; exact rfl)
          | (apply ap_pure; exact rfl; exact rfl; (first | exact trivial | exact rfl); intro L; apply mo_len; exact rfl)
          | (apply ap_pure; exact rfl; exact rfl; (first | exact trivial | exact rfl); intro L; apply mo_bin; exact rfl; exact rfl; exact bin_lss)
          | (apply ap_pure; exact rfl; exact rfl; (first | exact trivial | exact rfl); intro L; apply mo_bin; exact rfl; exact rfl; exact bin_gtr)
          | (apply ap_pure; exact rfl; exact rfl; (first | exact trivial | exact rfl); intro L; apply mo_bin; exact rfl; exact rfl; exact bin_leq)
          | (apply ap_pure; exact rfl; exact rfl; (first | exact trivial | exact rfl); intro L; apply mo_bin; exact rfl; exact rfl; exact bin_geq)
          | (apply ap_pure; exact rfl; exact rfl; (first | exact trivial | exact rfl); intro L; apply mo_bin; exact rfl; exact rfl; exact bin_eql)
          | (apply ap_pure; exact rfl; exact rfl; (first | exact trivial | exact rfl); intro L; apply mo_bin; exact rfl; exact rfl; exact bin_neq)
          | (apply ap_pure; exact rfl; exact rfl; (first | exact trivial | exact rfl); intro L; apply mo_bin; exact rfl; exact rfl; apply bin_add; exact wrap_i64 (by omega) (by omega))
          | (apply ap_pure; exact rfl; exact rfl; (first | exact trivial | exact rfl); intro L; apply mo_bin; exact rfl; exact rfl; apply bin_sub; exact wrap_i64 (by omega) (by omega))
          | (apply ap_read; exact rfl; exact rfl; (first | exact trivial | exact rfl); apply mo_load; exact rfl; (repeat (first | exact Rd.row0 rfl | exact Rd.row rfl rfl | exact Rd.still | apply Rd.there)))
          | refine ap_end ?_)
        by_cases c1 : st = 1
        · subst c1
          rw [show tellG fl nw yg 1 bad since = none from if_pos (.inl rfl)] at hS'
          have z1 := ho (by omega)
          repeat (first
            | (fail)
            | (apply wo_po; apply mo_bin; exact rfl; exact rfl; apply bin_lssT; omega; (first | exact trivial | exact rfl))
            | (apply wo_po; apply mo_bin; exact rfl; exact rfl; apply bin_lssF; omega; (first | exact trivial | exact rfl))
            | (apply wo_po; apply mo_bin; exact rfl; exact rfl; apply bin_leqT; omega; (first | exact trivial | exact rfl))
            | (apply wo_po; apply mo_bin; exact rfl; exact rfl; apply bin_leqF; omega; (first | exact trivial | exact rfl))
            | (apply wo_po; apply mo_bin; exact rfl; exact rfl; apply bin_gtrT; omega; (first | exact trivial | exact rfl))
            | (apply wo_po; apply mo_bin; exact rfl; exact rfl; apply bin_gtrF; omega; (first | exact trivial | exact rfl))
            | (apply wo_po; apply mo_bin; exact rfl; exact rfl; apply bin_geqT; omega; (first | exact trivial | exact rfl))
            | (apply wo_po; apply mo_bin; exact rfl; exact rfl; apply bin_geqF; omega; (first | exact trivial | exact rfl))
            | (apply wo_po; apply mo_bin; exact rfl; exact rfl; apply bin_eqlT; omega; (first | exact trivial | exact rfl))
            | (apply wo_po; apply mo_bin; exact rfl; exact rfl; apply bin_eqlF; omega; (first | exact trivial | exact rfl))
            | (apply wo_po; apply mo_bin; exact rfl; exact rfl; apply bin_neqT; omega; (first | exact trivial | exact rfl))
            | (apply wo_po; apply mo_bin; exact rfl; exact rfl; apply bin_neqF; omega; (first | exact trivial | exact rfl))
            | refine we_seq ?_
            | (refine we_region _ rfl rfl ?_; simp only [opsOf, List.map_cons, List.map_nil, Option.map_none, Option.map_some, List.getElem?_toArray, List.getElem?_cons_zero, List.getElem?_cons_succ, Option.bind_some, Option.getD_some])
            | refine wo_nil ?_
            | (apply wo_po; apply mo_move; exact rfl; (first | exact trivial | exact rfl))
            | (apply wo_po; apply mo_assign; exact rfl; (first | exact trivial | exact rfl))
            | (apply wo_no; exact rfl)
            | (apply wo_po; apply mo_pickT; exact rfl; exact rfl; exact rfl; (first | exact trivial | exact rfl))
            | (apply wo_po; apply mo_pickF; exact rfl; exact rfl; exact rfl; (first | exact trivial | exact rfl))
            | (apply wo_po; apply mo_nilCheck; exact rfl; (first | exact trivial | exact rfl))
            | (apply wo_po; apply mo_fieldAddr; exact rfl; exact rfl; (first | exact Nat.zero_add _ | exact rfl); (first | exact trivial | exact rfl))
            | (apply wo_po; apply mo_extract; exact rfl; exact rfl; (first | exact trivial | exact rfl))
            | (apply wo_po; apply mo_not; exact rfl; (first | exact trivial | exact rfl))
            | (apply wo_po; apply mo_load; exact rfl; (repeat (first | exact Rd.row0 rfl | exact Rd.row rfl rfl | exact Rd.still | apply Rd.there)); (first | exact trivial | exact rfl))
            | (apply wo_po; apply mo_bin; exact rfl; exact rfl; exact bin_lss; (first | exact trivial | exact rfl))
            | (apply wo_po; apply mo_bin; exact rfl; exact rfl; exact bin_gtr; (first | exact trivial | exact rfl))
            | (apply wo_po; apply mo_bin; exact rfl; exact rfl; exact bin_leq; (first | exact trivial | exact rfl))
            | (apply wo_po; apply mo_bin; exact rfl; exact rfl; exact bin_geq; (first | exact trivial | exact rfl))
            | (apply wo_po; apply mo_bin; exact rfl; exact rfl; exact bin_eql; (first | exact trivial | exact rfl))
            | (apply wo_po; apply mo_bin; exact rfl; exact rfl; exact bin_neq; (first | exact trivial | exact rfl))
            | (apply wo_po; apply mo_bin; exact rfl; exact rfl; apply bin_add; exact wrap_i64 (by omega) (by omega); (first | exact trivial | exact rfl))
            | (apply wo_po; apply mo_bin; exact rfl; exact rfl; apply bin_sub; exact wrap_i64 (by omega) (by omega); (first | exact trivial | exact rfl))
            | (apply wo_po; apply mo_bin; exact rfl; exact rfl; apply bin_ne; apply eql_ptr_nil; (first | exact trivial | exact rfl))
            | (apply wo_po; apply mo_bin; exact rfl; exact rfl; apply bin_eq; apply eql_ptr_nil; (first | exact trivial | exact rfl))
            | (apply wo_po; apply mo_bin; exact rfl; exact rfl; apply bin_ne; apply eql_slice_nil; (first | exact trivial | exact rfl))
            | (apply wo_po; apply mo_bin; exact rfl; exact rfl; apply bin_eq; apply eql_slice_nil; (first | exact trivial | exact rfl))
            | (apply wo_po; apply mo_bin; exact rfl; exact rfl; apply bin_ne; apply eql_nil_nil; (first | exact trivial | exact rfl))
            | (apply wo_po; apply mo_bin; exact rfl; exact rfl; apply bin_eq; apply eql_nil_nil; (first | exact trivial | exact rfl))
            | (apply wo_po; apply mo_bin; exact rfl; exact rfl; apply bin_ne; apply eql_iface_nil; (first | exact trivial | exact rfl))
            | (apply wo_po; apply mo_len; exact rfl; (first | exact trivial | exact rfl))
            | (apply wo_po; apply mo_conv; exact rfl; (first | exact wrap_i64 (by omega) (by omega) | exact wrap_u64 (by omega) (by omega)); (first | exact trivial | exact rfl))
            | (apply wo_po; apply mo_min; exact rfl; exact rfl; (first | exact trivial | exact rfl))
            | (apply we_condT; exact rfl; (first | exact rfl | (simp <;> omega) | omega))
            | (apply we_condF; exact rfl; (first | exact rfl | (simp <;> omega) | omega))
            | refine we_ret ?_
            | refine we_skip ?_
            | refine we_label ?_
            | refine we_block ?_
            | refine we_scope ?_
            | refine we_exit ?_)
          refine at_round (I := alInv x2 p g b fl wt s0 _ l cap W) (R := fun m' => 201 - m'.i < 201 - i) ⟨i + 1, nw, since, bad, 1, s'⟩ (by simp; omega) ⟨by simp; omega, by simp; omega, by simp; omega, hS', by simp, fun h => absurd h (by simp), fun _ => z1⟩ ⟨rfl, rfl, rfl, rfl, rfl, rfl, rfl, trivial⟩ (.take (.there .here) (.take (.there .here) (.take .here .refl))) rfl
        · have r4 : ∀ {c d e : HProp}, Rd [c, d, e, base W] bb (oo + 3 * i + 2) (.bool yg) := fun {c d e} => Rd.there (Rd.there (Rd.there e3))
          cases yg with
          | true =>
            have S' : BS s' 0 0 0 := by
              by_cases c2 : st = 0 ∧ bad = 0
              · rw [show tellG fl nw true st bad since = none from if_pos (.inr ⟨rfl, c2.1, c2.2⟩)] at hS'
                have hS2 : BS s' st bad since := hS'
                rw [c2.1, c2.2, (hz c2.1).1] at hS2
                exact hS2
              · rw [show tellG fl nw true st bad since = some (0, 0, 0) from (if_neg (fun h => by rcases h with h | h; exact c1 h; exact c2 h.2)).trans (if_pos rfl)] at hS'
                exact hS'
            repeat (first
              | (apply wo_po; apply mo_indexAddr (r := oo + 3 * i); exact rfl; exact rfl; omega; omega; omega; (first | exact trivial | exact rfl))
              | (apply wo_po; apply mo_load; exact rfl; (first | exact r1 | exact r2 | exact r3); exact trivial)
              | (apply wo_po; apply mo_bin; exact rfl; exact rfl; apply bin_lssT; omega; (first | exact trivial | exact rfl))
              | (apply wo_po; apply mo_bin; exact rfl; exact rfl; apply bin_lssF; omega; (first | exact trivial | exact rfl))
              | (apply wo_po; apply mo_bin; exact rfl; exact rfl; apply bin_leqT; omega; (first | exact trivial | exact rfl))
              | (apply wo_po; apply mo_bin; exact rfl; exact rfl; apply bin_leqF; omega; (first | exact trivial | exact rfl))
              | (apply wo_po; apply mo_bin; exact rfl; exact rfl; apply bin_gtrT; omega; (first | exact trivial | exact rfl))
              | (apply wo_po; apply mo_bin; exact rfl; exact rfl; apply bin_gtrF; omega; (first | exact trivial | exact rfl))
              | (apply wo_po; apply mo_bin; exact rfl; exact rfl; apply bin_geqT; omega; (first | exact trivial | exact rfl))
              | (apply wo_po; apply mo_bin; exact rfl; exact rfl; apply bin_geqF; omega; (first | exact trivial | exact rfl))
              | (apply wo_po; apply mo_bin; exact rfl; exact rfl; apply bin_eqlT; omega; (first | exact trivial | exact rfl))
              | (apply wo_po; apply mo_bin; exact rfl; exact rfl; apply bin_eqlF; omega; (first | exact trivial | exact rfl))
              | (apply wo_po; apply mo_bin; exact rfl; exact rfl; apply bin_neqT; omega; (first | exact trivial | exact rfl))
              | (apply wo_po; apply mo_bin; exact rfl; exact rfl; apply bin_neqF; omega; (first | exact trivial | exact rfl))
              | refine we_seq ?_
              | (refine we_region _ rfl rfl ?_; simp only [opsOf, List.map_cons, List.map_nil, Option.map_none, Option.map_some, List.getElem?_toArray, List.getElem?_cons_zero, List.getElem?_cons_succ, Option.bind_some, Option.getD_some])
              | refine wo_nil ?_
              | (apply wo_po; apply mo_move; exact rfl; (first | exact trivial | exact rfl))
              | (apply wo_po; apply mo_assign; exact rfl; (first | exact trivial | exact rfl))
              | (apply wo_no; exact rfl)
              | (apply wo_po; apply mo_pickT; exact rfl; exact rfl; exact rfl; (first | exact trivial | exact rfl))
              | (apply wo_po; apply mo_pickF; exact rfl; exact rfl; exact rfl; (first | exact trivial | exact rfl))
              | (apply wo_po; apply mo_nilCheck; exact rfl; (first | exact trivial | exact rfl))
              | (apply wo_po; apply mo_fieldAddr; exact rfl; exact rfl; (first | exact Nat.zero_add _ | exact rfl); (first | exact trivial | exact rfl))
              | (apply wo_po; apply mo_extract; exact rfl; exact rfl; (first | exact trivial | exact rfl))
              | (apply wo_po; apply mo_not; exact rfl; (first | exact trivial | exact rfl))
              | (apply wo_po; apply mo_load; exact rfl; (repeat (first | exact Rd.row0 rfl | exact Rd.row rfl rfl | exact Rd.still | apply Rd.there)); (first | exact trivial | exact rfl))
              | (apply wo_po; apply mo_bin; exact rfl; exact rfl; exact bin_lss; (first | exact trivial | exact rfl))
              | (apply wo_po; apply mo_bin; exact rfl; exact rfl; exact bin_gtr; (first | exact trivial | exact rfl))
              | (apply wo_po; apply mo_bin; exact rfl; exact rfl; exact bin_leq; (first | exact trivial | exact rfl))
              | (apply wo_po; apply mo_bin; exact rfl; exact rfl; exact bin_geq; (first | exact trivial | exact rfl))
              | (apply wo_po; apply mo_bin; exact rfl; exact rfl; exact bin_eql; (first | exact trivial | exact rfl))
              | (apply wo_po; apply mo_bin; exact rfl; exact rfl; exact bin_neq; (first | exact trivial | exact rfl))
              | (apply wo_po; apply mo_bin; exact rfl; exact rfl; apply bin_add; exact wrap_i64 (by omega) (by omega); (first | exact trivial | exact rfl))
              | (apply wo_po; apply mo_bin; exact rfl; exact rfl; apply bin_sub; exact wrap_i64 (by omega) (by omega); (first | exact trivial | exact rfl))
              | (apply wo_po; apply mo_bin; exact rfl; exact rfl; apply bin_ne; apply eql_ptr_nil; (first | exact trivial | exact rfl))
              | (apply wo_po; apply mo_bin; exact rfl; exact rfl; apply bin_eq; apply eql_ptr_nil; (first | exact trivial | exact rfl))
              | (apply wo_po; apply mo_bin; exact rfl; exact rfl; apply bin_ne; apply eql_slice_nil; (first | exact trivial | exact rfl))
              | (apply wo_po; apply mo_bin; exact rfl; exact rfl; apply bin_eq; apply eql_slice_nil; (first | exact trivial | exact rfl))
              | (apply wo_po; apply mo_bin; exact rfl; exact rfl; apply bin_ne; apply eql_nil_nil; (first | exact trivial | exact rfl))
              | (apply wo_po; apply mo_bin; exact rfl; exact rfl; apply bin_eq; apply eql_nil_nil; (first | exact trivial | exact rfl))
              | (apply wo_po; apply mo_bin; exact rfl; exact rfl; apply bin_ne; apply eql_iface_nil; (first | exact trivial | exact rfl))
              | (apply wo_po; apply mo_len; exact rfl; (first | exact trivial | exact rfl))
              | (apply wo_po; apply mo_conv; exact rfl; (first | exact wrap_i64 (by omega) (by omega) | exact wrap_u64 (by omega) (by omega)); (first | exact trivial | exact rfl))
              | (apply wo_po; apply mo_min; exact rfl; exact rfl; (first | exact trivial | exact rfl))
              | (apply we_condT; exact rfl; (first | exact rfl | (simp <;> omega) | omega))
              | (apply we_condF; exact rfl; (first | exact rfl | (simp <;> omega) | omega))
              | refine we_ret ?_
              | refine we_skip ?_
              | refine we_label ?_
              | refine we_block ?_
              | refine we_scope ?_
              | refine we_exit ?_)
            refine at_round (I := alInv x2 p g b fl wt s0 _ l cap W) (R := fun m' => 201 - m'.i < 201 - i) ⟨i + 1, nw, 0, 0, 0, s'⟩ (by simp; omega) ⟨by simp; omega, by simp; omega, by simp, S', by simp, fun _ => ⟨rfl, f1.1⟩, fun h => absurd rfl h⟩ ⟨rfl, rfl, rfl, rfl, rfl, rfl, rfl, trivial⟩ (.take (.there .here) (.take (.there .here) (.take .here .refl))) rfl
          | false =>
            have n1 : ¬ (st = 1 ∨ (false = true ∧ st = 0 ∧ bad = 0)) := fun h => by rcases h with h | h; exact c1 h; exact absurd h.1 (by decide)
            by_cases c2 : st = 2
            · have z1 := ho (by omega)
              subst c2
              rw [show tellG fl nw false 2 bad since = some (1, bad, nw) from ((if_neg n1).trans (if_neg (by decide))).trans (if_pos rfl)] at hS'
              repeat (first
                | (apply wo_po; apply mo_indexAddr (r := oo + 3 * i); exact rfl; exact rfl; omega; omega; omega; (first | exact trivial | exact rfl))
                | (apply wo_po; apply mo_load; exact rfl; (first | exact r1 | exact r2 | exact r3); exact trivial)
                | (apply wo_po; apply mo_bin; exact rfl; exact rfl; apply bin_lssT; omega; (first | exact trivial | exact rfl))
                | (apply wo_po; apply mo_bin; exact rfl; exact rfl; apply bin_lssF; omega; (first | exact trivial | exact rfl))
                | (apply wo_po; apply mo_bin; exact rfl; exact rfl; apply bin_leqT; omega; (first | exact trivial | exact rfl))
                | (apply wo_po; apply mo_bin; exact rfl; exact rfl; apply bin_leqF; omega; (first | exact trivial | exact rfl))
                | (apply wo_po; apply mo_bin; exact rfl; exact rfl; apply bin_gtrT; omega; (first | exact trivial | exact rfl))
                | (apply wo_po; apply mo_bin; exact rfl; exact rfl; apply bin_gtrF; omega; (first | exact trivial | exact rfl))
                | (apply wo_po; apply mo_bin; exact rfl; exact rfl; apply bin_geqT; omega; (first | exact trivial | exact rfl))
                | (apply wo_po; apply mo_bin; exact rfl; exact rfl; apply bin_geqF; omega; (first | exact trivial | exact rfl))
                | (apply wo_po; apply mo_bin; exact rfl; exact rfl; apply bin_eqlT; omega; (first | exact trivial | exact rfl))
                | (apply wo_po; apply mo_bin; exact rfl; exact rfl; apply bin_eqlF; omega; (first | exact trivial | exact rfl))
                | (apply wo_po; apply mo_bin; exact rfl; exact rfl; apply bin_neqT; omega; (first | exact trivial | exact rfl))
                | (apply wo_po; apply mo_bin; exact rfl; exact rfl; apply bin_neqF; omega; (first | exact trivial | exact rfl))
                | refine we_seq ?_
                | (refine we_region _ rfl rfl ?_; simp only [opsOf, List.map_cons, List.map_nil, Option.map_none, Option.map_some, List.getElem?_toArray, List.getElem?_cons_zero, List.getElem?_cons_succ, Option.bind_some, Option.getD_some])
                | refine wo_nil ?_
                | (apply wo_po; apply mo_move; exact rfl; (first | exact trivial | exact rfl))
                | (apply wo_po; apply mo_assign; exact rfl; (first | exact trivial | exact rfl))
                | (apply wo_no; exact rfl)
                | (apply wo_po; apply mo_pickT; exact rfl; exact rfl; exact rfl; (first | exact trivial | exact rfl))
                | (apply wo_po; apply mo_pickF; exact rfl; exact rfl; exact rfl; (first | exact trivial | exact rfl))
                | (apply wo_po; apply mo_nilCheck; exact rfl; (first | exact trivial | exact rfl))
                | (apply wo_po; apply mo_fieldAddr; exact rfl; exact rfl; (first | exact Nat.zero_add _ | exact rfl); (first | exact trivial | exact rfl))
                | (apply wo_po; apply mo_extract; exact rfl; exact rfl; (first | exact trivial | exact rfl))
                | (apply wo_po; apply mo_not; exact rfl; (first | exact trivial | exact rfl))
                | (apply wo_po; apply mo_load; exact rfl; (repeat (first | exact Rd.row0 rfl | exact Rd.row rfl rfl | exact Rd.still | apply Rd.there)); (first | exact trivial | exact rfl))
                | (apply wo_po; apply mo_bin; exact rfl; exact rfl; exact bin_lss; (first | exact trivial | exact rfl))
                | (apply wo_po; apply mo_bin; exact rfl; exact rfl; exact bin_gtr; (first | exact trivial | exact rfl))
                | (apply wo_po; apply mo_bin; exact rfl; exact rfl; exact bin_leq; (first | exact trivial | exact rfl))
                | (apply wo_po; apply mo_bin; exact rfl; exact rfl; exact bin_geq; (first | exact trivial | exact rfl))
                | (apply wo_po; apply mo_bin; exact rfl; exact rfl; exact bin_eql; (first | exact trivial | exact rfl))
                | (apply wo_po; apply mo_bin; exact rfl; exact rfl; exact bin_neq; (first | exact trivial | exact rfl))
                | (apply wo_po; apply mo_bin; exact rfl; exact rfl; apply bin_add; exact wrap_i64 (by omega) (by omega); (first | exact trivial | exact rfl))
                | (apply wo_po; apply mo_bin; exact rfl; exact rfl; apply bin_sub; exact wrap_i64 (by omega) (by omega); (first | exact trivial | exact rfl))
                | (apply wo_po; apply mo_bin; exact rfl; exact rfl; apply bin_ne; apply eql_ptr_nil; (first | exact trivial | exact rfl))
                | (apply wo_po; apply mo_bin; exact rfl; exact rfl; apply bin_eq; apply eql_ptr_nil; (first | exact trivial | exact rfl))
                | (apply wo_po; apply mo_bin; exact rfl; exact rfl; apply bin_ne; apply eql_slice_nil; (first | exact trivial | exact rfl))
                | (apply wo_po; apply mo_bin; exact rfl; exact rfl; apply bin_eq; apply eql_slice_nil; (first | exact trivial | exact rfl))
                | (apply wo_po; apply mo_bin; exact rfl; exact rfl; apply bin_ne; apply eql_nil_nil; (first | exact trivial | exact rfl))
                | (apply wo_po; apply mo_bin; exact rfl; exact rfl; apply bin_eq; apply eql_nil_nil; (first | exact trivial | exact rfl))
                | (apply wo_po; apply mo_bin; exact rfl; exact rfl; apply bin_ne; apply eql_iface_nil; (first | exact trivial | exact rfl))
                | (apply wo_po; apply mo_len; exact rfl; (first | exact trivial | exact rfl))
                | (apply wo_po; apply mo_conv; exact rfl; (first | exact wrap_i64 (by omega) (by omega) | exact wrap_u64 (by omega) (by omega)); (first | exact trivial | exact rfl))
                | (apply wo_po; apply mo_min; exact rfl; exact rfl; (first | exact trivial | exact rfl))
                | (apply we_condT; exact rfl; (first | exact rfl | (simp <;> omega) | omega))
                | (apply we_condF; exact rfl; (first | exact rfl | (simp <;> omega) | omega))
                | refine we_ret ?_
                | refine we_skip ?_
                | refine we_label ?_
                | refine we_block ?_
                | refine we_scope ?_
                | refine we_exit ?_)
              refine at_round (I := alInv x2 p g b fl wt s0 _ l cap W) (R := fun m' => 201 - m'.i < 201 - i) ⟨i + 1, nw, nw, bad, 1, s'⟩ (by simp; omega) ⟨by simp; omega, by simp; omega, by simp, hS', by simp, fun h => absurd h (by simp), fun _ => z1⟩ ⟨rfl, rfl, rfl, rfl, rfl, rfl, rfl, trivial⟩ (.take (.there .here) (.take (.there .here) (.take .here .refl))) rfl
            · have c3 : st = 0 := by omega
              subst c3
              obtain ⟨z1, z2⟩ := hz rfl
              have a3 : IntKind.u64.wrap ((bad : Int) + (1 : Int)) = ((bad + 1 : Nat) : Int) := (wrap_u64 (by omega) (by omega)).trans (by omega)
              by_cases c4 : bad + 1 = fl
              · rw [show tellG fl nw false 0 bad since = some (1, fl, nw) from (((if_neg n1).trans (if_neg (by decide))).trans (if_neg c2)).trans (if_pos c4)] at hS'
                repeat (first
                  | (apply wo_po; apply mo_indexAddr (r := oo + 3 * i); exact rfl; exact rfl; omega; omega; omega; (first | exact trivial | exact rfl))
                  | (apply wo_po; apply mo_load; exact rfl; (first | exact r1 | exact r2 | exact r3); exact trivial)
                  | (apply wo_po; apply mo_bin; exact rfl; exact rfl; apply bin_add; exact a3; exact trivial)
                  | (apply wo_po; apply mo_bin; exact rfl; exact rfl; apply bin_lssT; omega; (first | exact trivial | exact rfl))
                  | (apply wo_po; apply mo_bin; exact rfl; exact rfl; apply bin_lssF; omega; (first | exact trivial | exact rfl))
                  | (apply wo_po; apply mo_bin; exact rfl; exact rfl; apply bin_leqT; omega; (first | exact trivial | exact rfl))
                  | (apply wo_po; apply mo_bin; exact rfl; exact rfl; apply bin_leqF; omega; (first | exact trivial | exact rfl))
                  | (apply wo_po; apply mo_bin; exact rfl; exact rfl; apply bin_gtrT; omega; (first | exact trivial | exact rfl))
                  | (apply wo_po; apply mo_bin; exact rfl; exact rfl; apply bin_gtrF; omega; (first | exact trivial | exact rfl))
                  | (apply wo_po; apply mo_bin; exact rfl; exact rfl; apply bin_geqT; omega; (first | exact trivial | exact rfl))
                  | (apply wo_po; apply mo_bin; exact rfl; exact rfl; apply bin_geqF; omega; (first | exact trivial | exact rfl))
                  | (apply wo_po; apply mo_bin; exact rfl; exact rfl; apply bin_eqlT; omega; (first | exact trivial | exact rfl))
                  | (apply wo_po; apply mo_bin; exact rfl; exact rfl; apply bin_eqlF; omega; (first | exact trivial | exact rfl))
                  | (apply wo_po; apply mo_bin; exact rfl; exact rfl; apply bin_neqT; omega; (first | exact trivial | exact rfl))
                  | (apply wo_po; apply mo_bin; exact rfl; exact rfl; apply bin_neqF; omega; (first | exact trivial | exact rfl))
                  | refine we_seq ?_
                  | (refine we_region _ rfl rfl ?_; simp only [opsOf, List.map_cons, List.map_nil, Option.map_none, Option.map_some, List.getElem?_toArray, List.getElem?_cons_zero, List.getElem?_cons_succ, Option.bind_some, Option.getD_some])
                  | refine wo_nil ?_
                  | (apply wo_po; apply mo_move; exact rfl; (first | exact trivial | exact rfl))
                  | (apply wo_po; apply mo_assign; exact rfl; (first | exact trivial | exact rfl))
                  | (apply wo_no; exact rfl)
                  | (apply wo_po; apply mo_pickT; exact rfl; exact rfl; exact rfl; (first | exact trivial | exact rfl))
                  | (apply wo_po; apply mo_pickF; exact rfl; exact rfl; exact rfl; (first | exact trivial | exact rfl))
                  | (apply wo_po; apply mo_nilCheck; exact rfl; (first | exact trivial | exact rfl))
                  | (apply wo_po; apply mo_fieldAddr; exact rfl; exact rfl; (first | exact Nat.zero_add _ | exact rfl); (first | exact trivial | exact rfl))
                  | (apply wo_po; apply mo_extract; exact rfl; exact rfl; (first | exact trivial | exact rfl))
                  | (apply wo_po; apply mo_not; exact rfl; (first | exact trivial | exact rfl))
                  | (apply wo_po; apply mo_load; exact rfl; (repeat (first | exact Rd.row0 rfl | exact Rd.row rfl rfl | exact Rd.still | apply Rd.there)); (first | exact trivial | exact rfl))
                  | (apply wo_po; apply mo_bin; exact rfl; exact rfl; exact bin_lss; (first | exact trivial | exact rfl))
                  | (apply wo_po; apply mo_bin; exact rfl; exact rfl; exact bin_gtr; (first | exact trivial | exact rfl))
                  | (apply wo_po; apply mo_bin; exact rfl; exact rfl; exact bin_leq; (first | exact trivial | exact rfl))
                  | (apply wo_po; apply mo_bin; exact rfl; exact rfl; exact bin_geq; (first | exact trivial | exact rfl))
                  | (apply wo_po; apply mo_bin; exact rfl; exact rfl; exact bin_eql; (first | exact trivial | exact rfl))
                  | (apply wo_po; apply mo_bin; exact rfl; exact rfl; exact bin_neq; (first | exact trivial | exact rfl))
                  | (apply wo_po; apply mo_bin; exact rfl; exact rfl; apply bin_add; exact wrap_i64 (by omega) (by omega); (first | exact trivial | exact rfl))
                  | (apply wo_po; apply mo_bin; exact rfl; exact rfl; apply bin_sub; exact wrap_i64 (by omega) (by omega); (first | exact trivial | exact rfl))
                  | (apply wo_po; apply mo_bin; exact rfl; exact rfl; apply bin_ne; apply eql_ptr_nil; (first | exact trivial | exact rfl))
                  | (apply wo_po; apply mo_bin; exact rfl; exact rfl; apply bin_eq; apply eql_ptr_nil; (first | exact trivial | exact rfl))
                  | (apply wo_po; apply mo_bin; exact rfl; exact rfl; apply bin_ne; apply eql_slice_nil; (first | exact trivial | exact rfl))
                  | (apply wo_po; apply mo_bin; exact rfl; exact rfl; apply bin_eq; apply eql_slice_nil; (first | exact trivial | exact rfl))
                  | (apply wo_po; apply mo_bin; exact rfl; exact rfl; apply bin_ne; apply eql_nil_nil; (first | exact trivial | exact rfl))
                  | (apply wo_po; apply mo_bin; exact rfl; exact rfl; apply bin_eq; apply eql_nil_nil; (first | exact trivial | exact rfl))
                  | (apply wo_po; apply mo_bin; exact rfl; exact rfl; apply bin_ne; apply eql_iface_nil; (first | exact trivial | exact rfl))
                  | (apply wo_po; apply mo_len; exact rfl; (first | exact trivial | exact rfl))
                  | (apply wo_po; apply mo_conv; exact rfl; (first | exact wrap_i64 (by omega) (by omega) | exact wrap_u64 (by omega) (by omega)); (first | exact trivial | exact rfl))
                  | (apply wo_po; apply mo_min; exact rfl; exact rfl; (first | exact trivial | exact rfl))
                  | (apply we_condT; exact rfl; (first | exact rfl | (simp <;> omega) | omega))
                  | (apply we_condF; exact rfl; (first | exact rfl | (simp <;> omega) | omega))
                  | refine we_ret ?_
                  | refine we_skip ?_
                  | refine we_label ?_
                  | refine we_block ?_
                  | refine we_scope ?_
                  | refine we_exit ?_)
                refine at_round (I := alInv x2 p g b fl wt s0 _ l cap W) (R := fun m' => 201 - m'.i < 201 - i) ⟨i + 1, nw, nw, (bad + 1), 1, s'⟩ (by simp; omega) ⟨by simp; omega, by simp; omega, by simp, by rw [c4]; exact hS', by simp, fun h => absurd h (by simp), fun _ => c4⟩ ⟨rfl, rfl, rfl, rfl, rfl, rfl, rfl, trivial⟩ (.take (.there .here) (.take (.there .here) (.take .here .refl))) rfl
              · rw [show tellG fl nw false 0 bad since = some (0, bad + 1, 0) from (((if_neg n1).trans (if_neg (by decide))).trans (if_neg c2)).trans (if_neg c4)] at hS'
                repeat (first
                  | (apply wo_po; apply mo_indexAddr (r := oo + 3 * i); exact rfl; exact rfl; omega; omega; omega; (first | exact trivial | exact rfl))
                  | (apply wo_po; apply mo_load; exact rfl; (first | exact r1 | exact r2 | exact r3); exact trivial)
                  | (apply wo_po; apply mo_bin; exact rfl; exact rfl; apply bin_add; exact a3; exact trivial)
                  | (apply wo_po; apply mo_bin; exact rfl; exact rfl; apply bin_lssT; omega; (first | exact trivial | exact rfl))
                  | (apply wo_po; apply mo_bin; exact rfl; exact rfl; apply bin_lssF; omega; (first | exact trivial | exact rfl))
                  | (apply wo_po; apply mo_bin; exact rfl; exact rfl; apply bin_leqT; omega; (first | exact trivial | exact rfl))
                  | (apply wo_po; apply mo_bin; exact rfl; exact rfl; apply bin_leqF; omega; (first | exact trivial | exact rfl))
                  | (apply wo_po; apply mo_bin; exact rfl; exact rfl; apply bin_gtrT; omega; (first | exact trivial | exact rfl))
                  | (apply wo_po; apply mo_bin; exact rfl; exact rfl; apply bin_gtrF; omega; (first | exact trivial | exact rfl))
                  | (apply wo_po; apply mo_bin; exact rfl; exact rfl; apply bin_geqT; omega; (first | exact trivial | exact rfl))
                  | (apply wo_po; apply mo_bin; exact rfl; exact rfl; apply bin_geqF; omega; (first | exact trivial | exact rfl))
                  | (apply wo_po; apply mo_bin; exact rfl; exact rfl; apply bin_eqlT; omega; (first | exact trivial | exact rfl))
                  | (apply wo_po; apply mo_bin; exact rfl; exact rfl; apply bin_eqlF; omega; (first | exact trivial | exact rfl))
                  | (apply wo_po; apply mo_bin; exact rfl; exact rfl; apply bin_neqT; omega; (first | exact trivial | exact rfl))
                  | (apply wo_po; apply mo_bin; exact rfl; exact rfl; apply bin_neqF; omega; (first | exact trivial | exact rfl))
                  | refine we_seq ?_
                  | (refine we_region _ rfl rfl ?_; simp only [opsOf, List.map_cons, List.map_nil, Option.map_none, Option.map_some, List.getElem?_toArray, List.getElem?_cons_zero, List.getElem?_cons_succ, Option.bind_some, Option.getD_some])
                  | refine wo_nil ?_
                  | (apply wo_po; apply mo_move; exact rfl; (first | exact trivial | exact rfl))
                  | (apply wo_po; apply mo_assign; exact rfl; (first | exact trivial | exact rfl))
                  | (apply wo_no; exact rfl)
                  | (apply wo_po; apply mo_pickT; exact rfl; exact rfl; exact rfl; (first | exact trivial | exact rfl))
                  | (apply wo_po; apply mo_pickF; exact rfl; exact rfl; exact rfl; (first | exact trivial | exact rfl))
                  | (apply wo_po; apply mo_nilCheck; exact rfl; (first | exact trivial | exact rfl))
                  | (apply wo_po; apply mo_fieldAddr; exact rfl; exact rfl; (first | exact Nat.zero_add _ | exact rfl); (first | exact trivial | exact rfl))
                  | (apply wo_po; apply mo_extract; exact rfl; exact rfl; (first | exact trivial | exact rfl))
                  | (apply wo_po; apply mo_not; exact rfl; (first | exact trivial | exact rfl))
                  | (apply wo_po; apply mo_load; exact rfl; (repeat (first | exact Rd.row0 rfl | exact Rd.row rfl rfl | exact Rd.still | apply Rd.there)); (first | exact trivial | exact rfl))
                  | (apply wo_po; apply mo_bin; exact rfl; exact rfl; exact bin_lss; (first | exact trivial | exact rfl))
                  | (apply wo_po; apply mo_bin; exact rfl; exact rfl; exact bin_gtr; (first | exact trivial | exact rfl))
                  | (apply wo_po; apply mo_bin; exact rfl; exact rfl; exact bin_leq; (first | exact trivial | exact rfl))
                  | (apply wo_po; apply mo_bin; exact rfl; exact rfl; exact bin_geq; (first | exact trivial | exact rfl))
                  | (apply wo_po; apply mo_bin; exact rfl; exact rfl; exact bin_eql; (first | exact trivial | exact rfl))
                  | (apply wo_po; apply mo_bin; exact rfl; exact rfl; exact bin_neq; (first | exact trivial | exact rfl))
                  | (apply wo_po; apply mo_bin; exact rfl; exact rfl; apply bin_add; exact wrap_i64 (by omega) (by omega); (first | exact trivial | exact rfl))
                  | (apply wo_po; apply mo_bin; exact rfl; exact rfl; apply bin_sub; exact wrap_i64 (by omega) (by omega); (first | exact trivial | exact rfl))
                  | (apply wo_po; apply mo_bin; exact rfl; exact rfl; apply bin_ne; apply eql_ptr_nil; (first | exact trivial | exact rfl))
                  | (apply wo_po; apply mo_bin; exact rfl; exact rfl; apply bin_eq; apply eql_ptr_nil; (first | exact trivial | exact rfl))
                  | (apply wo_po; apply mo_bin; exact rfl; exact rfl; apply bin_ne; apply eql_slice_nil; (first | exact trivial | exact rfl))
                  | (apply wo_po; apply mo_bin; exact rfl; exact rfl; apply bin_eq; apply eql_slice_nil; (first | exact trivial | exact rfl))
                  | (apply wo_po; apply mo_bin; exact rfl; exact rfl; apply bin_ne; apply eql_nil_nil; (first | exact trivial | exact rfl))
                  | (apply wo_po; apply mo_bin; exact rfl; exact rfl; apply bin_eq; apply eql_nil_nil; (first | exact trivial | exact rfl))
                  | (apply wo_po; apply mo_bin; exact rfl; exact rfl; apply bin_ne; apply eql_iface_nil; (first | exact trivial | exact rfl))
                  | (apply wo_po; apply mo_len; exact rfl; (first | exact trivial | exact rfl))
                  | (apply wo_po; apply mo_conv; exact rfl; (first | exact wrap_i64 (by omega) (by omega) | exact wrap_u64 (by omega) (by omega)); (first | exact trivial | exact rfl))
                  | (apply wo_po; apply mo_min; exact rfl; exact rfl; (first | exact trivial | exact rfl))
                  | (apply we_condT; exact rfl; (first | exact rfl | (simp <;> omega) | omega))
                  | (apply we_condF; exact rfl; (first | exact rfl | (simp <;> omega) | omega))
                  | refine we_ret ?_
                  | refine we_skip ?_
                  | refine we_label ?_
                  | refine we_block ?_
                  | refine we_scope ?_
                  | refine we_exit ?_)
                refine at_round (I := alInv x2 p g b fl wt s0 _ l cap W) (R := fun m' => 201 - m'.i < 201 - i) ⟨i + 1, nw, since, (bad + 1), 0, s'⟩ (by simp; omega) ⟨by simp; omega, by simp; omega, by simp; omega, by rw [z1]; exact hS', by simp, fun _ => ⟨z1, by simp; omega⟩, fun h => absurd rfl h⟩ ⟨rfl, rfl, rfl, rfl, rfl, rfl, rfl, trivial⟩ (.take (.there .here) (.take (.there .here) (.take .here .refl))) rfl
    · repeat (first
        | (fail)
        | (apply wo_po; apply mo_bin; exact rfl; exact rfl; apply bin_lssT; omega; (first | exact trivial | exact rfl))
        | (apply wo_po; apply mo_bin; exact rfl; exact rfl; apply bin_lssF; omega; (first | exact trivial | exact rfl))
        | (apply wo_po; apply mo_bin; exact rfl; exact rfl; apply bin_leqT; omega; (first | exact trivial | exact rfl))
        | (apply wo_po; apply mo_bin; exact rfl; exact rfl; apply bin_leqF; omega; (first | exact trivial | exact rfl))
        | (apply wo_po; apply mo_bin; exact rfl; exact rfl; apply bin_gtrT; omega; (first | exact trivial | exact rfl))
        | (apply wo_po; apply mo_bin; exact rfl; exact rfl; apply bin_gtrF; omega; (first | exact trivial | exact rfl))
        | (apply wo_po; apply mo_bin; exact rfl; exact rfl; apply bin_geqT; omega; (first | exact trivial | exact rfl))
        | (apply wo_po; apply mo_bin; exact rfl; exact rfl; apply bin_geqF; omega; (first | exact trivial | exact rfl))
        | (apply wo_po; apply mo_bin; exact rfl; exact rfl; apply bin_eqlT; omega; (first | exact trivial | exact rfl))
        | (apply wo_po; apply mo_bin; exact rfl; exact rfl; apply bin_eqlF; omega; (first | exact trivial | exact rfl))
        | (apply wo_po; apply mo_bin; exact rfl; exact rfl; apply bin_neqT; omega; (first | exact trivial | exact rfl))
        | (apply wo_po; apply mo_bin; exact rfl; exact rfl; apply bin_neqF; omega; (first | exact trivial | exact rfl))
        | refine we_seq ?_
        | (refine we_region _ rfl rfl ?_; simp only [opsOf, List.map_cons, List.map_nil, Option.map_none, Option.map_some, List.getElem?_toArray, List.getElem?_cons_zero, List.getElem?_cons_succ, Option.bind_some, Option.getD_some])
        | refine wo_nil ?_
        | (apply wo_po; apply mo_move; exact rfl; (first | exact trivial | exact rfl))
        | (apply wo_po; apply mo_assign; exact rfl; (first | exact trivial | exact rfl))
        | (apply wo_no; exact rfl)
        | (apply wo_po; apply mo_pickT; exact rfl; exact rfl; exact rfl; (first | exact trivial | exact rfl))
        | (apply wo_po; apply mo_pickF; exact rfl; exact rfl; exact rfl; (first | exact trivial | exact rfl))
        | (apply wo_po; apply mo_nilCheck; exact rfl; (first | exact trivial | exact rfl))
        | (apply wo_po; apply mo_fieldAddr; exact rfl; exact rfl; (first | exact Nat.zero_add _ | exact rfl); (first | exact trivial | exact rfl))
        | (apply wo_po; apply mo_extract; exact rfl; exact rfl; (first | exact trivial | exact rfl))
        | (apply wo_po; apply mo_not; exact rfl; (first | exact trivial | exact rfl))
        | (apply wo_po; apply mo_load; exact rfl; (repeat (first | exact Rd.row0 rfl | exact Rd.row rfl rfl | exact Rd.still | apply Rd.there)); (first | exact trivial | exact rfl))
        | (apply wo_po; apply mo_bin; exact rfl; exact rfl; exact bin_lss; (first | exact trivial | exact rfl))
        | (apply wo_po; apply mo_bin; exact rfl; exact rfl; exact bin_gtr; (first | exact trivial | exact rfl))
        | (apply wo_po; apply mo_bin; exact rfl; exact rfl; exact bin_leq; (first | exact trivial | exact rfl))
        | (apply wo_po; apply mo_bin; exact rfl; exact rfl; exact bin_geq; (first | exact trivial | exact rfl))
        | (apply wo_po; apply mo_bin; exact rfl; exact rfl; exact bin_eql; (first | exact trivial | exact rfl))
        | (apply wo_po; apply mo_bin; exact rfl; exact rfl; exact bin_neq; (first | exact trivial | exact rfl))
        | (apply wo_po; apply mo_bin; exact rfl; exact rfl; apply bin_add; exact wrap_i64 (by omega) (by omega); (first | exact trivial | exact rfl))
        | (apply wo_po; apply mo_bin; exact rfl; exact rfl; apply bin_sub; exact wrap_i64 (by omega) (by omega); (first | exact trivial | exact rfl))
        | (apply wo_po; apply mo_bin; exact rfl; exact rfl; apply bin_ne; apply eql_ptr_nil; (first | exact trivial | exact rfl))
        | (apply wo_po; apply mo_bin; exact rfl; exact rfl; apply bin_eq; apply eql_ptr_nil; (first | exact trivial | exact rfl))
        | (apply wo_po; apply mo_bin; exact rfl; exact rfl; apply bin_ne; apply eql_slice_nil; (first | exact trivial | exact rfl))
        | (apply wo_po; apply mo_bin; exact rfl; exact rfl; apply bin_eq; apply eql_slice_nil; (first | exact trivial | exact rfl))
        | (apply wo_po; apply mo_bin; exact rfl; exact rfl; apply bin_ne; apply eql_nil_nil; (first | exact trivial | exact rfl))
        | (apply wo_po; apply mo_bin; exact rfl; exact rfl; apply bin_eq; apply eql_nil_nil; (first | exact trivial | exact rfl))
        | (apply wo_po; apply mo_bin; exact rfl; exact rfl; apply bin_ne; apply eql_iface_nil; (first | exact trivial | exact rfl))
        | (apply wo_po; apply mo_len; exact rfl; (first | exact trivial | exact rfl))
        | (apply wo_po; apply mo_conv; exact rfl; (first | exact wrap_i64 (by omega) (by omega) | exact wrap_u64 (by omega) (by omega)); (first | exact trivial | exact rfl))
        | (apply wo_po; apply mo_min; exact rfl; exact rfl; (first | exact trivial | exact rfl))
        | (apply we_condT; exact rfl; (first | exact rfl | (simp <;> omega) | omega))
        | (apply we_condF; exact rfl; (first | exact rfl | (simp <;> omega) | omega))
        | refine we_ret ?_
        | refine we_skip ?_
        | refine we_label ?_
        | refine we_block ?_
        | refine we_scope ?_
        | refine we_exit ?_)
      refine wo_call (.cons rfl (.cons rfl .nil)) trivial (bget_lone (by omega) (by omega) (by omega) hS (.there (.there .here))) ?_
      rintro v' L' x2 ⟨rfl, rfl, rfl⟩
      repeat (first
        | (fail)
        | (apply wo_po; apply mo_bin; exact rfl; exact rfl; apply bin_lssT; omega; (first | exact trivial | exact rfl))
        | (apply wo_po; apply mo_bin; exact rfl; exact rfl; apply bin_lssF; omega; (first | exact trivial | exact rfl))
        | (apply wo_po; apply mo_bin; exact rfl; exact rfl; apply bin_leqT; omega; (first | exact trivial | exact rfl))
        | (apply wo_po; apply mo_bin; exact rfl; exact rfl; apply bin_leqF; omega; (first | exact trivial | exact rfl))
        | (apply wo_po; apply mo_bin; exact rfl; exact rfl; apply bin_gtrT; omega; (first | exact trivial | exact rfl))
        | (apply wo_po; apply mo_bin; exact rfl; exact rfl; apply bin_gtrF; omega; (first | exact trivial | exact rfl))
        | (apply wo_po; apply mo_bin; exact rfl; exact rfl; apply bin_geqT; omega; (first | exact trivial | exact rfl))
        | (apply wo_po; apply mo_bin; exact rfl; exact rfl; apply bin_geqF; omega; (first | exact trivial | exact rfl))
        | (apply wo_po; apply mo_bin; exact rfl; exact rfl; apply bin_eqlT; omega; (first | exact trivial | exact rfl))
        | (apply wo_po; apply mo_bin; exact rfl; exact rfl; apply bin_eqlF; omega; (first | exact trivial | exact rfl))
        | (apply wo_po; apply mo_bin; exact rfl; exact rfl; apply bin_neqT; omega; (first | exact trivial | exact rfl))
        | (apply wo_po; apply mo_bin; exact rfl; exact rfl; apply bin_neqF; omega; (first | exact trivial | exact rfl))
        | refine we_seq ?_
        | (refine we_region _ rfl rfl ?_; simp only [opsOf, List.map_cons, List.map_nil, Option.map_none, Option.map_some, List.getElem?_toArray, List.getElem?_cons_zero, List.getElem?_cons_succ, Option.bind_some, Option.getD_some])
        | refine wo_nil ?_
        | (apply wo_po; apply mo_move; exact rfl; (first | exact trivial | exact rfl))
        | (apply wo_po; apply mo_assign; exact rfl; (first | exact trivial | exact rfl))
        | (apply wo_no; exact rfl)
        | (apply wo_po; apply mo_pickT; exact rfl; exact rfl; exact rfl; (first | exact trivial | exact rfl))
        | (apply wo_po; apply mo_pickF; exact rfl; exact rfl; exact rfl; (first | exact trivial | exact rfl))
        | (apply wo_po; apply mo_nilCheck; exact rfl; (first | exact trivial | exact rfl))
        | (apply wo_po; apply mo_fieldAddr; exact rfl; exact rfl; (first | exact Nat.zero_add _ | exact rfl); (first | exact trivial | exact rfl))
        | (apply wo_po; apply mo_extract; exact rfl; exact rfl; (first | exact trivial | exact rfl))
        | (apply wo_po; apply mo_not; exact rfl; (first | exact trivial | exact rfl))
        | (apply wo_po; apply mo_load; exact rfl; (repeat (first | exact Rd.row0 rfl | exact Rd.row rfl rfl | exact Rd.still | apply Rd.there)); (first | exact trivial | exact rfl))
        | (apply wo_po; apply mo_bin; exact rfl; exact rfl; exact bin_lss; (first | exact trivial | exact rfl))
        | (apply wo_po; apply mo_bin; exact rfl; exact rfl; exact bin_gtr; (first | exact trivial | exact rfl))
        | (apply wo_po; apply mo_bin; exact rfl; exact rfl; exact bin_leq; (first | exact trivial | exact rfl))
        | (apply wo_po; apply mo_bin; exact rfl; exact rfl; exact bin_geq; (first | exact trivial | exact rfl))
        | (apply wo_po; apply mo_bin; exact rfl; exact rfl; exact bin_eql; (first | exact trivial | exact rfl))
        | (apply wo_po; apply mo_bin; exact rfl; exact rfl; exact bin_neq; (first | exact trivial | exact rfl))
        | (apply wo_po; apply mo_bin; exact rfl; exact rfl; apply bin_add; exact wrap_i64 (by omega) (by omega); (first | exact trivial | exact rfl))
        | (apply wo_po; apply mo_bin; exact rfl; exact rfl; apply bin_sub; exact wrap_i64 (by omega) (by omega); (first | exact trivial | exact rfl))
        | (apply wo_po; apply mo_bin; exact rfl; exact rfl; apply bin_ne; apply eql_ptr_nil; (first | exact trivial | exact rfl))
        | (apply wo_po; apply mo_bin; exact rfl; exact rfl; apply bin_eq; apply eql_ptr_nil; (first | exact trivial | exact rfl))
        | (apply wo_po; apply mo_bin; exact rfl; exact rfl; apply bin_ne; apply eql_slice_nil; (first | exact trivial | exact rfl))
        | (apply wo_po; apply mo_bin; exact rfl; exact rfl; apply bin_eq; apply eql_slice_nil; (first | exact trivial | exact rfl))
        | (apply wo_po; apply mo_bin; exact rfl; exact rfl; apply bin_ne; apply eql_nil_nil; (first | exact trivial | exact rfl))
        | (apply wo_po; apply mo_bin; exact rfl; exact rfl; apply bin_eq; apply eql_nil_nil; (first | exact trivial | exact rfl))
        | (apply wo_po; apply mo_bin; exact rfl; exact rfl; apply bin_ne; apply eql_iface_nil; (first | exact trivial | exact rfl))
        | (apply wo_po; apply mo_len; exact rfl; (first | exact trivial | exact rfl))
        | (apply wo_po; apply mo_conv; exact rfl; (first | exact wrap_i64 (by omega) (by omega) | exact wrap_u64 (by omega) (by omega)); (first | exact trivial | exact rfl))
        | (apply wo_po; apply mo_min; exact rfl; exact rfl; (first | exact trivial | exact rfl))
        | (apply we_condT; exact rfl; (first | exact rfl | (simp <;> omega) | omega))
        | (apply we_condF; exact rfl; (first | exact rfl | (simp <;> omega) | omega))
        | refine we_ret ?_
        | refine we_skip ?_
        | refine we_label ?_
        | refine we_block ?_
        | refine we_scope ?_
        | refine we_exit ?_)
      (first | refine at_ret1 (ex := .ret) Try.func3 Try.results3 hQ (.inl rfl) rfl ?_ | refine at_ret1 (ex := .normal) Try.func3 Try.results3 hQ (.inr rfl) rfl ?_)
      rfl
  · repeat (first
      | (fail)
      | (apply wo_po; apply mo_bin; exact rfl; exact rfl; apply bin_lssT; omega; (first | exact trivial | exact rfl))
      | (apply wo_po; apply mo_bin; exact rfl; exact rfl; apply bin_lssF; omega; (first | exact trivial | exact rfl))
      | (apply wo_po; apply mo_bin; exact rfl; exact rfl; apply bin_leqT; omega; (first | exact trivial | exact rfl))
      | (apply wo_po; apply mo_bin; exact rfl; exact rfl; apply bin_leqF; omega; (first | exact trivial | exact rfl))
      | (apply wo_po; apply mo_bin; exact rfl; exact rfl; apply bin_gtrT; omega; (first | exact trivial | exact rfl))
      | (apply wo_po; apply mo_bin; exact rfl; exact rfl; apply bin_gtrF; omega; (first | exact trivial | exact rfl))
      | (apply wo_po; apply mo_bin; exact rfl; exact rfl; apply bin_geqT; omega; (first | exact trivial | exact rfl))
      | (apply wo_po; apply mo_bin; exact rfl; exact rfl; apply bin_geqF; omega; (first | exact trivial | exact rfl))
      | (apply wo_po; apply mo_bin; exact rfl; exact rfl; apply bin_eqlT; omega; (first | exact trivial | exact rfl))
      | (apply wo_po; apply mo_bin; exact rfl; exact rfl; apply bin_eqlF; omega; (first | exact trivial | exact rfl))
      | (apply wo_po; apply mo_bin; exact rfl; exact rfl; apply bin_neqT; omega; (first | exact trivial | exact rfl))
      | (apply wo_po; apply mo_bin; exact rfl; exact rfl; apply bin_neqF; omega; (first | exact trivial | exact rfl))
      | refine we_seq ?_
      | (refine we_region _ rfl rfl ?_; simp only [opsOf, List.map_cons, List.map_nil, Option.map_none, Option.map_some, List.getElem?_toArray, List.getElem?_cons_zero, List.getElem?_cons_succ, Option.bind_some, Option.getD_some])
      | refine wo_nil ?_
      | (apply wo_po; apply mo_move; exact rfl; (first | exact trivial | exact rfl))
      | (apply wo_po; apply mo_assign; exact rfl; (first | exact trivial | exact rfl))
      | (apply wo_no; exact rfl)
      | (apply wo_po; apply mo_pickT; exact rfl; exact rfl; exact rfl; (first | exact trivial | exact rfl))
      | (apply wo_po; apply mo_pickF; exact rfl; exact rfl; exact rfl; (first | exact trivial | exact rfl))
      | (apply wo_po; apply mo_nilCheck; exact rfl; (first | exact trivial | exact rfl))
      | (apply wo_po; apply mo_fieldAddr; exact rfl; exact rfl; (first | exact Nat.zero_add _ | exact rfl); (first | exact trivial | exact rfl))
      | (apply wo_po; apply mo_extract; exact rfl; exact rfl; (first | exact trivial | exact rfl))
      | (apply wo_po; apply mo_not; exact rfl; (first | exact trivial | exact rfl))
      | (apply wo_po; apply mo_load; exact rfl; (repeat (first | exact Rd.row0 rfl | exact Rd.row rfl rfl | exact Rd.still | apply Rd.there)); (first | exact trivial | exact rfl))
      | (apply wo_po; apply mo_bin; exact rfl; exact rfl; exact bin_lss; (first | exact trivial | exact rfl))
      | (apply wo_po; apply mo_bin; exact rfl; exact rfl; exact bin_gtr; (first | exact trivial | exact rfl))
      | (apply wo_po; apply mo_bin; exact rfl; exact rfl; exact bin_leq; (first | exact trivial | exact rfl))
      | (apply wo_po; apply mo_bin; exact rfl; exact rfl; exact bin_geq; (first | exact trivial | exact rfl))
      | (apply wo_po; apply mo_bin; exact rfl; exact rfl; exact bin_eql; (first | exact trivial | exact rfl))
      | (apply wo_po; apply mo_bin; exact rfl; exact rfl; exact bin_neq; (first | exact trivial | exact rfl))
      | (apply wo_po; apply mo_bin; exact rfl; exact rfl; apply bin_add; exact wrap_i64 (by omega) (by omega); (first | exact trivial | exact rfl))
      | (apply wo_po; apply mo_bin; exact rfl; exact rfl; apply bin_sub; exact wrap_i64 (by omega) (by omega); (first | exact trivial | exact rfl))
      | (apply wo_po; apply mo_bin; exact rfl; exact rfl; apply bin_ne; apply eql_ptr_nil; (first | exact trivial | exact rfl))
      | (apply wo_po; apply mo_bin; exact rfl; exact rfl; apply bin_eq; apply eql_ptr_nil; (first | exact trivial | exact rfl))
      | (apply wo_po; apply mo_bin; exact rfl; exact rfl; apply bin_ne; apply eql_slice_nil; (first | exact trivial | exact rfl))
      | (apply wo_po; apply mo_bin; exact rfl; exact rfl; apply bin_eq; apply eql_slice_nil; (first | exact trivial | exact rfl))
      | (apply wo_po; apply mo_bin; exact rfl; exact rfl; apply bin_ne; apply eql_nil_nil; (first | exact trivial | exact rfl))
      | (apply wo_po; apply mo_bin; exact rfl; exact rfl; apply bin_eq; apply eql_nil_nil; (first | exact trivial | exact rfl))
      | (apply wo_po; apply mo_bin; exact rfl; exact rfl; apply bin_ne; apply eql_iface_nil; (first | exact trivial | exact rfl))
      | (apply wo_po; apply mo_len; exact rfl; (first | exact trivial | exact rfl))
      | (apply wo_po; apply mo_conv; exact rfl; (first | exact wrap_i64 (by omega) (by omega) | exact wrap_u64 (by omega) (by omega)); (first | exact trivial | exact rfl))
      | (apply wo_po; apply mo_min; exact rfl; exact rfl; (first | exact trivial | exact rfl))
      | (apply we_condT; exact rfl; (first | exact rfl | (simp <;> omega) | omega))
      | (apply we_condF; exact rfl; (first | exact rfl | (simp <;> omega) | omega))
      | refine we_ret ?_
      | refine we_skip ?_
      | refine we_label ?_
      | refine we_block ?_
      | refine we_scope ?_
      | refine we_exit ?_)
    refine wo_call (.cons rfl (.cons rfl .nil)) trivial (bget_lone (by omega) (by omega) (by omega) hS (.there (.there .here))) ?_
    rintro v' L' x2 ⟨rfl, rfl, rfl⟩
    repeat (first
      | (fail)
      | (apply wo_po; apply mo_bin; exact rfl; exact rfl; apply bin_lssT; omega; (first | exact trivial | exact rfl))
      | (apply wo_po; apply mo_bin; exact rfl; exact rfl; apply bin_lssF; omega; (first | exact trivial | exact rfl))
      | (apply wo_po; apply mo_bin; exact rfl; exact rfl; apply bin_leqT; omega; (first | exact trivial | exact rfl))
      | (apply wo_po; apply mo_bin; exact rfl; exact rfl; apply bin_leqF; omega; (first | exact trivial | exact rfl))
      | (apply wo_po; apply mo_bin; exact rfl; exact rfl; apply bin_gtrT; omega; (first | exact trivial | exact rfl))
      | (apply wo_po; apply mo_bin; exact rfl; exact rfl; apply bin_gtrF; omega; (first | exact trivial | exact rfl))
      | (apply wo_po; apply mo_bin; exact rfl; exact rfl; apply bin_geqT; omega; (first | exact trivial | exact rfl))
      | (apply wo_po; apply mo_bin; exact rfl; exact rfl; apply bin_geqF; omega; (first | exact trivial | exact rfl))
      | (apply wo_po; apply mo_bin; exact rfl; exact rfl; apply bin_eqlT; omega; (first | exact trivial | exact rfl))
      | (apply wo_po; apply mo_bin; exact rfl; exact rfl; apply bin_eqlF; omega; (first | exact trivial | exact rfl))
      | (apply wo_po; apply mo_bin; exact rfl; exact rfl; apply bin_neqT; omega; (first | exact trivial | exact rfl))
      | (apply wo_po; apply mo_bin; exact rfl; exact rfl; apply bin_neqF; omega; (first | exact trivial | exact rfl))
      | refine we_seq ?_
      | (refine we_region _ rfl rfl ?_; simp only [opsOf, List.map_cons, List.map_nil, Option.map_none, Option.map_some, List.getElem?_toArray, List.getElem?_cons_zero, List.getElem?_cons_succ, Option.bind_some, Option.getD_some])
      | refine wo_nil ?_
      | (apply wo_po; apply mo_move; exact rfl; (first | exact trivial | exact rfl))
      | (apply wo_po; apply mo_assign; exact rfl; (first | exact trivial | exact rfl))
      | (apply wo_no; exact rfl)
      | (apply wo_po; apply mo_pickT; exact rfl; exact rfl; exact rfl; (first | exact trivial | exact rfl))
      | (apply wo_po; apply mo_pickF; exact rfl; exact rfl; exact rfl; (first | exact trivial | exact rfl))
      | (apply wo_po; apply mo_nilCheck; exact rfl; (first | exact trivial | exact rfl))
      | (apply wo_po; apply mo_fieldAddr; exact rfl; exact rfl; (first | exact Nat.zero_add _ | exact rfl); (first | exact trivial | exact rfl))
      | (apply wo_po; apply mo_extract; exact rfl; exact rfl; (first | exact trivial | exact rfl))
      | (apply wo_po; apply mo_not; exact rfl; (first | exact trivial | exact rfl))
      | (apply wo_po; apply mo_load; exact rfl; (repeat (first | exact Rd.row0 rfl | exact Rd.row rfl rfl | exact Rd.still | apply Rd.there)); (first | exact trivial | exact rfl))
      | (apply wo_po; apply mo_bin; exact rfl; exact rfl; exact bin_lss; (first | exact trivial | exact rfl))
      | (apply wo_po; apply mo_bin; exact rfl; exact rfl; exact bin_gtr; (first | exact trivial | exact rfl))
      | (apply wo_po; apply mo_bin; exact rfl; exact rfl; exact bin_leq; (first | exact trivial | exact rfl))
      | (apply wo_po; apply mo_bin; exact rfl; exact rfl; exact bin_geq; (first | exact trivial | exact rfl))
      | (apply wo_po; apply mo_bin; exact rfl; exact rfl; exact bin_eql; (first | exact trivial | exact rfl))
      | (apply wo_po; apply mo_bin; exact rfl; exact rfl; exact bin_neq; (first | exact trivial | exact rfl))
      | (apply wo_po; apply mo_bin; exact rfl; exact rfl; apply bin_add; exact wrap_i64 (by omega) (by omega); (first | exact trivial | exact rfl))
      | (apply wo_po; apply mo_bin; exact rfl; exact rfl; apply bin_sub; exact wrap_i64 (by omega) (by omega); (first | exact trivial | exact rfl))
      | (apply wo_po; apply mo_bin; exact rfl; exact rfl; apply bin_ne; apply eql_ptr_nil; (first | exact trivial | exact rfl))
      | (apply wo_po; apply mo_bin; exact rfl; exact rfl; apply bin_eq; apply eql_ptr_nil; (first | exact trivial | exact rfl))
      | (apply wo_po; apply mo_bin; exact rfl; exact rfl; apply bin_ne; apply eql_slice_nil; (first | exact trivial | exact rfl))
      | (apply wo_po; apply mo_bin; exact rfl; exact rfl; apply bin_eq; apply eql_slice_nil; (first | exact trivial | exact rfl))
      | (apply wo_po; apply mo_bin; exact rfl; exact rfl; apply bin_ne; apply eql_nil_nil; (first | exact trivial | exact rfl))
      | (apply wo_po; apply mo_bin; exact rfl; exact rfl; apply bin_eq; apply eql_nil_nil; (first | exact trivial | exact rfl))
      | (apply wo_po; apply mo_bin; exact rfl; exact rfl; apply bin_ne; apply eql_iface_nil; (first | exact trivial | exact rfl))
      | (apply wo_po; apply mo_len; exact rfl; (first | exact trivial | exact rfl))
      | (apply wo_po; apply mo_conv; exact rfl; (first | exact wrap_i64 (by omega) (by omega) | exact wrap_u64 (by omega) (by omega)); (first | exact trivial | exact rfl))
      | (apply wo_po; apply mo_min; exact rfl; exact rfl; (first | exact trivial | exact rfl))
      | (apply we_condT; exact rfl; (first | exact rfl | (simp <;> omega) | omega))
      | (apply we_condF; exact rfl; (first | exact rfl | (simp <;> omega) | omega))
      | refine we_ret ?_
      | refine we_skip ?_
      | refine we_label ?_
      | refine we_block ?_
      | refine we_scope ?_
      | refine we_exit ?_)
    (first | refine at_ret1 (ex := .ret) Try.func3 Try.results3 hQ (.inl rfl) rfl ?_ | refine at_ret1 (ex := .normal) Try.func3 Try.results3 hQ (.inr rfl) rfl ?_)
    rfl

end Go.Proofs.Ytnnpdmhmpgmpnaa
