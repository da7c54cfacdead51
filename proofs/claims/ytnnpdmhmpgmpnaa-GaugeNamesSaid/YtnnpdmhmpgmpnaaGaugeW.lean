/-
  THE BREAKER's WORD (package gauge): taken apart, put together.
-/
import Derived.Test.YtnnpdmhmpgmpnaaAcc
import Derived.Test.YtnnpdmhmpgmpnaaFt
set_option linter.unusedVariables false
set_option linter.unusedSimpArgs false
namespace Go.Proofs.Ytnnpdmhmpgmpnaa
open Go Go.PB
attribute [local irreducible] Mo Bin Eql Tr Wo Ap Wle

/-- a word taken apart, as the program holds it -/
def w3 (a b c : Nat) : Value := .agg #[.int .u64 (a : Nat), .int .u64 (b : Nat), .int .u64 (c : Nat)]
def packN (a b c : Nat) : Nat := ((((c * 2 ^ 23) % 18446744073709551616) ||| ((b * 2 ^ 2) % 18446744073709551616)) % 18446744073709551616 ||| a) % 18446744073709551616

theorem packN_lt {a b c : Nat} : packN a b c < 18446744073709551616 := Nat.mod_lt _ (by decide)

theorem packN_eq {a b c : Nat} (ha : a < 4) (hb : b < 2097152) (hc : c < 2199023255552) : packN a b c = c * 8388608 + b * 4 + a := by
  unfold packN
  have h1 : (c * 2 ^ 23) % 18446744073709551616 = 2 ^ 23 * c := by omega
  have h2 : (b * 2 ^ 2) % 18446744073709551616 = b * 4 := by omega
  rw [h1, h2, ← Nat.two_pow_add_eq_or_of_lt (i := 23) (b := b * 4) (by omega)]
  have h3 : (2 ^ 23 * c + b * 4) % 18446744073709551616 = 2 ^ 2 * (c * 2097152 + b) := by omega
  rw [h3, ← Nat.two_pow_add_eq_or_of_lt (i := 2) (b := a) (by omega)]
  omega

section
variable {B : Hand} [Lets B] {L F : List HProp} {x : B.X} {w : Nat}

theorem apart_tr (hw : w < 18446744073709551616) : Tr Try.prog B 49 [.int .u64 (w : Nat)] L x fun v L' x' => v = w3 (w % 4) (w / 4 % 2097152) (w / 8388608) ∧ L' = L ∧ x' = x := by
  refine Tr.post (R := fun v L' x' => v = w3 (w % 4) (w / 4 % 2097152) (w / 8388608) ∧ x' = x ∧ ∀ h, Star L' h → Star L h) ?_ (by rintro v L' x' ⟨rfl, rfl, hs⟩; exact ⟨L, ⟨rfl, rfl, rfl⟩, hs⟩)
  have a1 : IntKind.u64.wrap (BitVec.ofInt IntKind.u64.bits (w : Int) &&& BitVec.ofInt IntKind.u64.bits (3 : Int)).toNat = ((w % 4 : Nat) : Int) := by
    rw [show (3 : Int) = ((3 : Nat) : Int) from rfl, and_u64' hw (by omega), show w &&& 3 = w % 4 from Nat.and_two_pow_sub_one_eq_mod w 2]; omega
  have s1 : (w : Int).fdiv (2 ^ (min (2 : Int).toNat IntKind.u64.bits)) = ((w / 4 : Nat) : Int) := by
    have := u64_shr (a := w) (n := 2) (by omega) hw
    rw [show ((2 : Nat) : Int) = 2 from rfl] at this
    rw [this]; omega
  have s2 : (w : Int).fdiv (2 ^ (min (23 : Int).toNat IntKind.u64.bits)) = ((w / 8388608 : Nat) : Int) := by
    have := u64_shr (a := w) (n := 23) (by omega) hw
    rw [show ((23 : Nat) : Int) = 23 from rfl] at this
    rw [this]; omega
  have a2 : IntKind.u64.wrap (BitVec.ofInt IntKind.u64.bits ((w / 4 : Nat) : Int) &&& BitVec.ofInt IntKind.u64.bits (2097151 : Int)).toNat = ((w / 4 % 2097152 : Nat) : Int) := by
    rw [show (2097151 : Int) = ((2097151 : Nat) : Int) from rfl, and_u64' (by omega) (by omega), show w / 4 &&& 2097151 = w / 4 % 2097152 from Nat.and_two_pow_sub_one_eq_mod (w / 4) 21]; omega
  refine tr_of_body Try.func49 rfl Try.ntmps49 (by simp) fun um Q hQ => ?_
  simp only [argE, Nat.zero_add, Nat.reduceAdd]
  repeat (first
    | (apply wo_mo; apply mo_alloc; exact trivial)
    | (apply wo_po; apply mo_bin; exact rfl; exact rfl; apply bin_lssT; omega; (first | exact trivial | exact rfl))
    | (apply wo_po; apply mo_bin; exact rfl; exact rfl; apply bin_lssF; omega; (first | exact trivial | exact rfl))
    | (apply wo_po; apply mo_bin; exact rfl; exact rfl; apply bin_leqT; omega; (first | exact trivial | exact rfl))
    | (apply wo_po; apply mo_bin; exact rfl; exact rfl; apply bin_leqF; omega; (first | exact trivial | exact rfl))
    | (apply wo_po; apply mo_bin; exact rfl; exact rfl; apply bin_gtrT; omega; (first | exact trivial | exact rfl))
    | (apply wo_po; apply mo_bin; exact rfl; exact rfl; apply bin_gtrF; omega; (first | exact trivial | exact rfl))
    | (apply wo_po; apply mo_bin; exact rfl; exact rfl; apply bin_geqT; omega; (first | exact trivial | exact rfl))
    | (apply wo_po; apply mo_bin; exact rfl; exact rfl; apply bin_geqF; omega; (first | exact trivial | exact rfl))
    | (apply wo_po; apply mo_bin; exact rfl; exact rfl; apply bin_eqlT; omega; (first | exact trivial | exact rfl))
    | (apply wo_po; apply mo_bin; exact rfl; exact rfl; apply bin_eqlF; omega; (first | exact trivial | exact rfl))
    | (apply wo_po; apply mo_bin; exact rfl; exact rfl; apply bin_neqT; omega; (first | exact trivial | exact rfl))
    | (apply wo_po; apply mo_bin; exact rfl; exact rfl; apply bin_neqF; omega; (first | exact trivial | exact rfl))
    | refine we_seq ?_
    | (refine we_region _ rfl rfl ?_; simp only [opsOf, List.map_cons, List.map_nil, Option.map_none, Option.map_some, List.getElem?_toArray, List.getElem?_cons_zero, List.getElem?_cons_succ, Option.bind_some, Option.getD_some])
    | refine wo_nil ?_
    | (apply wo_po; apply mo_move; exact rfl; (first | exact trivial | exact rfl))
    | (apply wo_po; apply mo_assign; exact rfl; (first | exact trivial | exact rfl))
    | (apply wo_no; exact rfl)
    | (apply wo_po; apply mo_pickT; exact rfl; exact rfl; exact rfl; (first | exact trivial | exact rfl))
    | (apply wo_po; apply mo_pickF; exact rfl; exact rfl; exact rfl; (first | exact trivial | exact rfl))
    | (apply wo_po; apply mo_nilCheck; exact rfl; (first | exact trivial | exact rfl))
    | (apply wo_po; apply mo_fieldAddr; exact rfl; exact rfl; (first | exact Nat.zero_add _ | exact rfl); (first | exact trivial | exact rfl))
    | (apply wo_po; apply mo_extract; exact rfl; exact rfl; (first | exact trivial | exact rfl))
    | (apply wo_po; apply mo_not; exact rfl; (first | exact trivial | exact rfl))
    | (apply wo_po; apply mo_load; exact rfl; (repeat (first | exact Rd.row0 rfl | exact Rd.row rfl rfl | exact Rd.still | apply Rd.there)); (first | exact trivial | exact rfl))
    | (apply wo_po; apply mo_bin; exact rfl; exact rfl; exact bin_lss; (first | exact trivial | exact rfl))
    | (apply wo_po; apply mo_bin; exact rfl; exact rfl; exact bin_gtr; (first | exact trivial | exact rfl))
    | (apply wo_po; apply mo_bin; exact rfl; exact rfl; exact bin_leq; (first | exact trivial | exact rfl))
    | (apply wo_po; apply mo_bin; exact rfl; exact rfl; exact bin_geq; (first | exact trivial | exact rfl))
    | (apply wo_po; apply mo_bin; exact rfl; exact rfl; exact bin_eql; (first | exact trivial | exact rfl))
    | (apply wo_po; apply mo_bin; exact rfl; exact rfl; exact bin_neq; (first | exact trivial | exact rfl))
    | (apply wo_po; apply mo_bin; exact rfl; exact rfl; apply bin_add; exact wrap_i64 (by omega) (by omega); (first | exact trivial | exact rfl))
    | (apply wo_po; apply mo_bin; exact rfl; exact rfl; apply bin_sub; exact wrap_i64 (by omega) (by omega); (first | exact trivial | exact rfl))
    | (apply wo_po; apply mo_bin; exact rfl; exact rfl; apply bin_ne; apply eql_ptr_nil; (first | exact trivial | exact rfl))
    | (apply wo_po; apply mo_bin; exact rfl; exact rfl; apply bin_eq; apply eql_ptr_nil; (first | exact trivial | exact rfl))
    | (apply wo_po; apply mo_bin; exact rfl; exact rfl; apply bin_ne; apply eql_slice_nil; (first | exact trivial | exact rfl))
    | (apply wo_po; apply mo_bin; exact rfl; exact rfl; apply bin_eq; apply eql_slice_nil; (first | exact trivial | exact rfl))
    | (apply wo_po; apply mo_bin; exact rfl; exact rfl; apply bin_ne; apply eql_nil_nil; (first | exact trivial | exact rfl))
    | (apply wo_po; apply mo_bin; exact rfl; exact rfl; apply bin_eq; apply eql_nil_nil; (first | exact trivial | exact rfl))
    | (apply wo_po; apply mo_bin; exact rfl; exact rfl; apply bin_ne; apply eql_iface_nil; (first | exact trivial | exact rfl))
    | (apply wo_po; apply mo_len; exact rfl; (first | exact trivial | exact rfl))
    | (apply wo_po; apply mo_conv; exact rfl; (first | exact wrap_i64 (by omega) (by omega) | exact wrap_u64 (by omega) (by omega)); (first | exact trivial | exact rfl))
    | (apply wo_po; apply mo_min; exact rfl; exact rfl; (first | exact trivial | exact rfl))
    | (apply we_condT; exact rfl; (first | exact rfl | (simp <;> omega) | omega))
    | (apply we_condF; exact rfl; (first | exact rfl | (simp <;> omega) | omega))
    | refine we_ret ?_
    | refine we_skip ?_
    | refine we_label ?_
    | refine we_block ?_
    | refine we_scope ?_
    | refine we_exit ?_)
  rintro v' L' ⟨cb, rfl, rfl⟩
  repeat (first
    | (apply wo_po; apply mo_bin; exact rfl; exact rfl; apply bin_and; (first | exact a1 | exact a2); exact trivial)
    | (apply wo_po; apply mo_bin; exact rfl; exact rfl; apply bin_shr; omega; (first | exact s1 | exact s2); exact trivial)
    | (apply wo_po; apply mo_buildV; (repeat (first | exact EvL.nil | apply EvL.cons rfl)); exact rfl; exact trivial)
    | (apply wo_pm; apply mo_storeA (c := 0) (k := 0) (a := 0) (vs := [.int .u64 0, .int .u64 0, .int .u64 0]); exact rfl; exact rfl; exact rfl; (intro w hw; simp [Value.cells] at hw; rcases hw with rfl | rfl | rfl <;> rfl); exact rfl; exact Nat.le_refl 3; exact .here; exact trivial)
    | (apply wo_po; apply mo_bin; exact rfl; exact rfl; apply bin_lssT; omega; (first | exact trivial | exact rfl))
    | (apply wo_po; apply mo_bin; exact rfl; exact rfl; apply bin_lssF; omega; (first | exact trivial | exact rfl))
    | (apply wo_po; apply mo_bin; exact rfl; exact rfl; apply bin_leqT; omega; (first | exact trivial | exact rfl))
    | (apply wo_po; apply mo_bin; exact rfl; exact rfl; apply bin_leqF; omega; (first | exact trivial | exact rfl))
    | (apply wo_po; apply mo_bin; exact rfl; exact rfl; apply bin_gtrT; omega; (first | exact trivial | exact rfl))
    | (apply wo_po; apply mo_bin; exact rfl; exact rfl; apply bin_gtrF; omega; (first | exact trivial | exact rfl))
    | (apply wo_po; apply mo_bin; exact rfl; exact rfl; apply bin_geqT; omega; (first | exact trivial | exact rfl))
    | (apply wo_po; apply mo_bin; exact rfl; exact rfl; apply bin_geqF; omega; (first | exact trivial | exact rfl))
    | (apply wo_po; apply mo_bin; exact rfl; exact rfl; apply bin_eqlT; omega; (first | exact trivial | exact rfl))
    | (apply wo_po; apply mo_bin; exact rfl; exact rfl; apply bin_eqlF; omega; (first | exact trivial | exact rfl))
    | (apply wo_po; apply mo_bin; exact rfl; exact rfl; apply bin_neqT; omega; (first | exact trivial | exact rfl))
    | (apply wo_po; apply mo_bin; exact rfl; exact rfl; apply bin_neqF; omega; (first | exact trivial | exact rfl))
    | refine we_seq ?_
    | (refine we_region _ rfl rfl ?_; simp only [opsOf, List.map_cons, List.map_nil, Option.map_none, Option.map_some, List.getElem?_toArray, List.getElem?_cons_zero, List.getElem?_cons_succ, Option.bind_some, Option.getD_some])
    | refine wo_nil ?_
    | (apply wo_po; apply mo_move; exact rfl; (first | exact trivial | exact rfl))
    | (apply wo_po; apply mo_assign; exact rfl; (first | exact trivial | exact rfl))
    | (apply wo_no; exact rfl)
    | (apply wo_po; apply mo_pickT; exact rfl; exact rfl; exact rfl; (first | exact trivial | exact rfl))
    | (apply wo_po; apply mo_pickF; exact rfl; exact rfl; exact rfl; (first | exact trivial | exact rfl))
    | (apply wo_po; apply mo_nilCheck; exact rfl; (first | exact trivial | exact rfl))
    | (apply wo_po; apply mo_fieldAddr; exact rfl; exact rfl; (first | exact Nat.zero_add _ | exact rfl); (first | exact trivial | exact rfl))
    | (apply wo_po; apply mo_extract; exact rfl; exact rfl; (first | exact trivial | exact rfl))
    | (apply wo_po; apply mo_not; exact rfl; (first | exact trivial | exact rfl))
    | (apply wo_po; apply mo_load; exact rfl; (repeat (first | exact Rd.row0 rfl | exact Rd.row rfl rfl | exact Rd.still | apply Rd.there)); (first | exact trivial | exact rfl))
    | (apply wo_po; apply mo_bin; exact rfl; exact rfl; exact bin_lss; (first | exact trivial | exact rfl))
    | (apply wo_po; apply mo_bin; exact rfl; exact rfl; exact bin_gtr; (first | exact trivial | exact rfl))
    | (apply wo_po; apply mo_bin; exact rfl; exact rfl; exact bin_leq; (first | exact trivial | exact rfl))
    | (apply wo_po; apply mo_bin; exact rfl; exact rfl; exact bin_geq; (first | exact trivial | exact rfl))
    | (apply wo_po; apply mo_bin; exact rfl; exact rfl; exact bin_eql; (first | exact trivial | exact rfl))
    | (apply wo_po; apply mo_bin; exact rfl; exact rfl; exact bin_neq; (first | exact trivial | exact rfl))
    | (apply wo_po; apply mo_bin; exact rfl; exact rfl; apply bin_add; exact wrap_i64 (by omega) (by omega); (first | exact trivial | exact rfl))
    | (apply wo_po; apply mo_bin; exact rfl; exact rfl; apply bin_sub; exact wrap_i64 (by omega) (by omega); (first | exact trivial | exact rfl))
    | (apply wo_po; apply mo_bin; exact rfl; exact rfl; apply bin_ne; apply eql_ptr_nil; (first | exact trivial | exact rfl))
    | (apply wo_po; apply mo_bin; exact rfl; exact rfl; apply bin_eq; apply eql_ptr_nil; (first | exact trivial | exact rfl))
    | (apply wo_po; apply mo_bin; exact rfl; exact rfl; apply bin_ne; apply eql_slice_nil; (first | exact trivial | exact rfl))
    | (apply wo_po; apply mo_bin; exact rfl; exact rfl; apply bin_eq; apply eql_slice_nil; (first | exact trivial | exact rfl))
    | (apply wo_po; apply mo_bin; exact rfl; exact rfl; apply bin_ne; apply eql_nil_nil; (first | exact trivial | exact rfl))
    | (apply wo_po; apply mo_bin; exact rfl; exact rfl; apply bin_eq; apply eql_nil_nil; (first | exact trivial | exact rfl))
    | (apply wo_po; apply mo_bin; exact rfl; exact rfl; apply bin_ne; apply eql_iface_nil; (first | exact trivial | exact rfl))
    | (apply wo_po; apply mo_len; exact rfl; (first | exact trivial | exact rfl))
    | (apply wo_po; apply mo_conv; exact rfl; (first | exact wrap_i64 (by omega) (by omega) | exact wrap_u64 (by omega) (by omega)); (first | exact trivial | exact rfl))
    | (apply wo_po; apply mo_min; exact rfl; exact rfl; (first | exact trivial | exact rfl))
    | (apply we_condT; exact rfl; (first | exact rfl | (simp <;> omega) | omega))
    | (apply we_condF; exact rfl; (first | exact rfl | (simp <;> omega) | omega))
    | refine we_ret ?_
    | refine we_skip ?_
    | refine we_label ?_
    | refine we_block ?_
    | refine we_scope ?_
    | refine we_exit ?_)
  refine at_leaveM (rs := [.cell 2 128]) Try.func49 Try.results49 hQ (.inl rfl) (.cons (.cell (vs := [.int .u64 ((w % 4 : Nat) : Int), .int .u64 ((w / 4 % 2097152 : Nat) : Int), .int .u64 ((w / 8388608 : Nat) : Int)]) rfl rfl (Rds.all .here)) .nil) ?_
  exact ⟨rfl, rfl, fun h st => star_drop st⟩

theorem packed_tr {a b c : Nat} (ha : a < 18446744073709551616) (hb : b < 18446744073709551616) (hc : c < 18446744073709551616) : Tr Try.prog B 74 [w3 a b c] L x fun v L' x' => v = .int .u64 (packN a b c : Nat) ∧ L' = L ∧ x' = x := by
  refine Tr.post (R := fun v L' x' => v = .int .u64 (packN a b c : Nat) ∧ x' = x ∧ ∀ h, Star L' h → Star L h) ?_ (by rintro v L' x' ⟨rfl, rfl, hs⟩; exact ⟨L, ⟨rfl, rfl, rfl⟩, hs⟩)
  have s1 : IntKind.u64.wrap ((c : Int) * 2 ^ (min (23 : Int).toNat IntKind.u64.bits)) = (((c * 2 ^ 23) % 18446744073709551616 : Nat) : Int) := u64_shl (n := 23) (by omega)
  have s2 : IntKind.u64.wrap ((b : Int) * 2 ^ (min (2 : Int).toNat IntKind.u64.bits)) = (((b * 2 ^ 2) % 18446744073709551616 : Nat) : Int) := u64_shl (n := 2) (by omega)
  have o1 := or_u64 (a := (c * 2 ^ 23) % 18446744073709551616) (b := (b * 2 ^ 2) % 18446744073709551616) (Nat.mod_lt _ (by decide)) (Nat.mod_lt _ (by decide))
  have o2 := or_u64 (a := (((c * 2 ^ 23) % 18446744073709551616) ||| ((b * 2 ^ 2) % 18446744073709551616)) % 18446744073709551616) (b := a) (Nat.mod_lt _ (by decide)) ha
  refine tr_of_body Try.func74 rfl Try.ntmps74 (by simp) fun um Q hQ => ?_
  simp only [argE, Nat.zero_add, Nat.reduceAdd]
  repeat (first
    | (apply wo_mo; apply mo_box; exact rfl; exact trivial)
    | (apply wo_po; apply mo_bin; exact rfl; exact rfl; apply bin_lssT; omega; (first | exact trivial | exact rfl))
    | (apply wo_po; apply mo_bin; exact rfl; exact rfl; apply bin_lssF; omega; (first | exact trivial | exact rfl))
    | (apply wo_po; apply mo_bin; exact rfl; exact rfl; apply bin_leqT; omega; (first | exact trivial | exact rfl))
    | (apply wo_po; apply mo_bin; exact rfl; exact rfl; apply bin_leqF; omega; (first | exact trivial | exact rfl))
    | (apply wo_po; apply mo_bin; exact rfl; exact rfl; apply bin_gtrT; omega; (first | exact trivial | exact rfl))
    | (apply wo_po; apply mo_bin; exact rfl; exact rfl; apply bin_gtrF; omega; (first | exact trivial | exact rfl))
    | (apply wo_po; apply mo_bin; exact rfl; exact rfl; apply bin_geqT; omega; (first | exact trivial | exact rfl))
    | (apply wo_po; apply mo_bin; exact rfl; exact rfl; apply bin_geqF; omega; (first | exact trivial | exact rfl))
    | (apply wo_po; apply mo_bin; exact rfl; exact rfl; apply bin_eqlT; omega; (first | exact trivial | exact rfl))
    | (apply wo_po; apply mo_bin; exact rfl; exact rfl; apply bin_eqlF; omega; (first | exact trivial | exact rfl))
    | (apply wo_po; apply mo_bin; exact rfl; exact rfl; apply bin_neqT; omega; (first | exact trivial | exact rfl))
    | (apply wo_po; apply mo_bin; exact rfl; exact rfl; apply bin_neqF; omega; (first | exact trivial | exact rfl))
    | refine we_seq ?_
    | (refine we_region _ rfl rfl ?_; simp only [opsOf, List.map_cons, List.map_nil, Option.map_none, Option.map_some, List.getElem?_toArray, List.getElem?_cons_zero, List.getElem?_cons_succ, Option.bind_some, Option.getD_some])
    | refine wo_nil ?_
    | (apply wo_po; apply mo_move; exact rfl; (first | exact trivial | exact rfl))
    | (apply wo_po; apply mo_assign; exact rfl; (first | exact trivial | exact rfl))
    | (apply wo_no; exact rfl)
    | (apply wo_po; apply mo_pickT; exact rfl; exact rfl; exact rfl; (first | exact trivial | exact rfl))
    | (apply wo_po; apply mo_pickF; exact rfl; exact rfl; exact rfl; (first | exact trivial | exact rfl))
    | (apply wo_po; apply mo_nilCheck; exact rfl; (first | exact trivial | exact rfl))
    | (apply wo_po; apply mo_fieldAddr; exact rfl; exact rfl; (first | exact Nat.zero_add _ | exact rfl); (first | exact trivial | exact rfl))
    | (apply wo_po; apply mo_extract; exact rfl; exact rfl; (first | exact trivial | exact rfl))
    | (apply wo_po; apply mo_not; exact rfl; (first | exact trivial | exact rfl))
    | (apply wo_po; apply mo_load; exact rfl; (repeat (first | exact Rd.row0 rfl | exact Rd.row rfl rfl | exact Rd.still | apply Rd.there)); (first | exact trivial | exact rfl))
    | (apply wo_po; apply mo_bin; exact rfl; exact rfl; exact bin_lss; (first | exact trivial | exact rfl))
    | (apply wo_po; apply mo_bin; exact rfl; exact rfl; exact bin_gtr; (first | exact trivial | exact rfl))
    | (apply wo_po; apply mo_bin; exact rfl; exact rfl; exact bin_leq; (first | exact trivial | exact rfl))
    | (apply wo_po; apply mo_bin; exact rfl; exact rfl; exact bin_geq; (first | exact trivial | exact rfl))
    | (apply wo_po; apply mo_bin; exact rfl; exact rfl; exact bin_eql; (first | exact trivial | exact rfl))
    | (apply wo_po; apply mo_bin; exact rfl; exact rfl; exact bin_neq; (first | exact trivial | exact rfl))
    | (apply wo_po; apply mo_bin; exact rfl; exact rfl; apply bin_add; exact wrap_i64 (by omega) (by omega); (first | exact trivial | exact rfl))
    | (apply wo_po; apply mo_bin; exact rfl; exact rfl; apply bin_sub; exact wrap_i64 (by omega) (by omega); (first | exact trivial | exact rfl))
    | (apply wo_po; apply mo_bin; exact rfl; exact rfl; apply bin_ne; apply eql_ptr_nil; (first | exact trivial | exact rfl))
    | (apply wo_po; apply mo_bin; exact rfl; exact rfl; apply bin_eq; apply eql_ptr_nil; (first | exact trivial | exact rfl))
    | (apply wo_po; apply mo_bin; exact rfl; exact rfl; apply bin_ne; apply eql_slice_nil; (first | exact trivial | exact rfl))
    | (apply wo_po; apply mo_bin; exact rfl; exact rfl; apply bin_eq; apply eql_slice_nil; (first | exact trivial | exact rfl))
    | (apply wo_po; apply mo_bin; exact rfl; exact rfl; apply bin_ne; apply eql_nil_nil; (first | exact trivial | exact rfl))
    | (apply wo_po; apply mo_bin; exact rfl; exact rfl; apply bin_eq; apply eql_nil_nil; (first | exact trivial | exact rfl))
    | (apply wo_po; apply mo_bin; exact rfl; exact rfl; apply bin_ne; apply eql_iface_nil; (first | exact trivial | exact rfl))
    | (apply wo_po; apply mo_len; exact rfl; (first | exact trivial | exact rfl))
    | (apply wo_po; apply mo_conv; exact rfl; (first | exact wrap_i64 (by omega) (by omega) | exact wrap_u64 (by omega) (by omega)); (first | exact trivial | exact rfl))
    | (apply wo_po; apply mo_min; exact rfl; exact rfl; (first | exact trivial | exact rfl))
    | (apply we_condT; exact rfl; (first | exact rfl | (simp <;> omega) | omega))
    | (apply we_condF; exact rfl; (first | exact rfl | (simp <;> omega) | omega))
    | refine we_ret ?_
    | refine we_skip ?_
    | refine we_label ?_
    | refine we_block ?_
    | refine we_scope ?_
    | refine we_exit ?_)
  rintro v' L' ⟨cb, rfl, rfl⟩
  refine wo_ent (arr cb 0 [.int .u64 (a : Nat), .int .u64 (b : Nat), .int .u64 (c : Nat)] :: L) .refl ?_
  repeat (first
    | (apply wo_po; apply mo_bin; exact rfl; exact rfl; apply bin_or; (first | exact o1 | exact o2); exact trivial)
    | (apply wo_po; apply mo_bin; exact rfl; exact rfl; apply bin_shl; omega; (first | exact s1 | exact s2); exact trivial)
    | (apply wo_po; apply mo_bin; exact rfl; exact rfl; apply bin_lssT; omega; (first | exact trivial | exact rfl))
    | (apply wo_po; apply mo_bin; exact rfl; exact rfl; apply bin_lssF; omega; (first | exact trivial | exact rfl))
    | (apply wo_po; apply mo_bin; exact rfl; exact rfl; apply bin_leqT; omega; (first | exact trivial | exact rfl))
    | (apply wo_po; apply mo_bin; exact rfl; exact rfl; apply bin_leqF; omega; (first | exact trivial | exact rfl))
    | (apply wo_po; apply mo_bin; exact rfl; exact rfl; apply bin_gtrT; omega; (first | exact trivial | exact rfl))
    | (apply wo_po; apply mo_bin; exact rfl; exact rfl; apply bin_gtrF; omega; (first | exact trivial | exact rfl))
    | (apply wo_po; apply mo_bin; exact rfl; exact rfl; apply bin_geqT; omega; (first | exact trivial | exact rfl))
    | (apply wo_po; apply mo_bin; exact rfl; exact rfl; apply bin_geqF; omega; (first | exact trivial | exact rfl))
    | (apply wo_po; apply mo_bin; exact rfl; exact rfl; apply bin_eqlT; omega; (first | exact trivial | exact rfl))
    | (apply wo_po; apply mo_bin; exact rfl; exact rfl; apply bin_eqlF; omega; (first | exact trivial | exact rfl))
    | (apply wo_po; apply mo_bin; exact rfl; exact rfl; apply bin_neqT; omega; (first | exact trivial | exact rfl))
    | (apply wo_po; apply mo_bin; exact rfl; exact rfl; apply bin_neqF; omega; (first | exact trivial | exact rfl))
    | refine we_seq ?_
    | (refine we_region _ rfl rfl ?_; simp only [opsOf, List.map_cons, List.map_nil, Option.map_none, Option.map_some, List.getElem?_toArray, List.getElem?_cons_zero, List.getElem?_cons_succ, Option.bind_some, Option.getD_some])
    | refine wo_nil ?_
    | (apply wo_po; apply mo_move; exact rfl; (first | exact trivial | exact rfl))
    | (apply wo_po; apply mo_assign; exact rfl; (first | exact trivial | exact rfl))
    | (apply wo_no; exact rfl)
    | (apply wo_po; apply mo_pickT; exact rfl; exact rfl; exact rfl; (first | exact trivial | exact rfl))
    | (apply wo_po; apply mo_pickF; exact rfl; exact rfl; exact rfl; (first | exact trivial | exact rfl))
    | (apply wo_po; apply mo_nilCheck; exact rfl; (first | exact trivial | exact rfl))
    | (apply wo_po; apply mo_fieldAddr; exact rfl; exact rfl; (first | exact Nat.zero_add _ | exact rfl); (first | exact trivial | exact rfl))
    | (apply wo_po; apply mo_extract; exact rfl; exact rfl; (first | exact trivial | exact rfl))
    | (apply wo_po; apply mo_not; exact rfl; (first | exact trivial | exact rfl))
    | (apply wo_po; apply mo_load; exact rfl; (repeat (first | exact Rd.row0 rfl | exact Rd.row rfl rfl | exact Rd.still | apply Rd.there)); (first | exact trivial | exact rfl))
    | (apply wo_po; apply mo_bin; exact rfl; exact rfl; exact bin_lss; (first | exact trivial | exact rfl))
    | (apply wo_po; apply mo_bin; exact rfl; exact rfl; exact bin_gtr; (first | exact trivial | exact rfl))
    | (apply wo_po; apply mo_bin; exact rfl; exact rfl; exact bin_leq; (first | exact trivial | exact rfl))
    | (apply wo_po; apply mo_bin; exact rfl; exact rfl; exact bin_geq; (first | exact trivial | exact rfl))
    | (apply wo_po; apply mo_bin; exact rfl; exact rfl; exact bin_eql; (first | exact trivial | exact rfl))
    | (apply wo_po; apply mo_bin; exact rfl; exact rfl; exact bin_neq; (first | exact trivial | exact rfl))
    | (apply wo_po; apply mo_bin; exact rfl; exact rfl; apply bin_add; exact wrap_i64 (by omega) (by omega); (first | exact trivial | exact rfl))
    | (apply wo_po; apply mo_bin; exact rfl; exact rfl; apply bin_sub; exact wrap_i64 (by omega) (by omega); (first | exact trivial | exact rfl))
    | (apply wo_po; apply mo_bin; exact rfl; exact rfl; apply bin_ne; apply eql_ptr_nil; (first | exact trivial | exact rfl))
    | (apply wo_po; apply mo_bin; exact rfl; exact rfl; apply bin_eq; apply eql_ptr_nil; (first | exact trivial | exact rfl))
    | (apply wo_po; apply mo_bin; exact rfl; exact rfl; apply bin_ne; apply eql_slice_nil; (first | exact trivial | exact rfl))
    | (apply wo_po; apply mo_bin; exact rfl; exact rfl; apply bin_eq; apply eql_slice_nil; (first | exact trivial | exact rfl))
    | (apply wo_po; apply mo_bin; exact rfl; exact rfl; apply bin_ne; apply eql_nil_nil; (first | exact trivial | exact rfl))
    | (apply wo_po; apply mo_bin; exact rfl; exact rfl; apply bin_eq; apply eql_nil_nil; (first | exact trivial | exact rfl))
    | (apply wo_po; apply mo_bin; exact rfl; exact rfl; apply bin_ne; apply eql_iface_nil; (first | exact trivial | exact rfl))
    | (apply wo_po; apply mo_len; exact rfl; (first | exact trivial | exact rfl))
    | (apply wo_po; apply mo_conv; exact rfl; (first | exact wrap_i64 (by omega) (by omega) | exact wrap_u64 (by omega) (by omega)); (first | exact trivial | exact rfl))
    | (apply wo_po; apply mo_min; exact rfl; exact rfl; (first | exact trivial | exact rfl))
    | (apply we_condT; exact rfl; (first | exact rfl | (simp <;> omega) | omega))
    | (apply we_condF; exact rfl; (first | exact rfl | (simp <;> omega) | omega))
    | refine we_ret ?_
    | refine we_skip ?_
    | refine we_label ?_
    | refine we_block ?_
    | refine we_scope ?_
    | refine we_exit ?_)
  (first | refine at_ret1 (ex := .ret) Try.func74 Try.results74 hQ (.inl rfl) rfl ?_ | refine at_ret1 (ex := .normal) Try.func74 Try.results74 hQ (.inr rfl) rfl ?_)
  exact ⟨rfl, rfl, fun h st => star_drop st⟩
end
end Go.Proofs.Ytnnpdmhmpgmpnaa
