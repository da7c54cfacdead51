/-
  FOUNDATION, PART 12. Small arithmetic: wrapping, masks. No program is in sight.
-/
import Derived.Test.YtdcbnbmahndecaaFk
set_option linter.unusedVariables false
set_option linter.unusedSimpArgs false
namespace Go.PB

theorem wrap_u64 {n : Int} (h1 : 0 ≤ n) (h2 : n < 18446744073709551616) : IntKind.u64.wrap n = n := by
  unfold IntKind.wrap IntKind.signed IntKind.bits
  simp only [Bool.false_and, Bool.false_eq_true, if_false]
  omega

theorem wrap_u64_mod (n : Int) : IntKind.u64.wrap n = n % 18446744073709551616 := by
  unfold IntKind.wrap IntKind.signed IntKind.bits
  simp only [Bool.false_and, Bool.false_eq_true, if_false]
  rfl

theorem pow_le {k : Nat} (hk : k ≤ 10) : 2 ^ k ≤ 1024 := Nat.le_trans (Nat.pow_le_pow_right (by omega) hk) (by decide)

theorem bv_and64 {a b : Nat} (ha : a < 18446744073709551616) (hb : b < 18446744073709551616) : (BitVec.ofInt 64 (a : Int) &&& BitVec.ofInt 64 (b : Int)).toNat = a &&& b := by
  rw [BitVec.ofInt_natCast, BitVec.ofInt_natCast, BitVec.toNat_and, BitVec.toNat_ofNat, BitVec.toNat_ofNat, Nat.mod_eq_of_lt (by omega), Nat.mod_eq_of_lt (by omega)]

theorem and_u64 {a b : Nat} (ha : a < 18446744073709551616) (hb : b < 18446744073709551616) : IntKind.u64.wrap (BitVec.ofInt IntKind.u64.bits (a : Int) &&& BitVec.ofInt IntKind.u64.bits (b : Int)).toNat = ((a &&& b : Nat) : Int) := by
  show IntKind.u64.wrap (((BitVec.ofInt 64 (a : Int) &&& BitVec.ofInt 64 (b : Int)).toNat : Nat) : Int) = _
  rw [bv_and64 ha hb]
  have : a &&& b ≤ a := Nat.and_le_left
  exact wrap_u64 (by omega) (by omega)

theorem and_i64 {a b : Nat} (ha : a < 9223372036854775808) (hb : b < 9223372036854775808) : IntKind.i64.wrap (BitVec.ofInt IntKind.i64.bits (a : Int) &&& BitVec.ofInt IntKind.i64.bits (b : Int)).toNat = ((a &&& b : Nat) : Int) := by
  show IntKind.i64.wrap (((BitVec.ofInt 64 (a : Int) &&& BitVec.ofInt 64 (b : Int)).toNat : Nat) : Int) = _
  rw [bv_and64 (by omega) (by omega)]
  have : a &&& b ≤ a := Nat.and_le_left
  exact wrap_i64 (by omega) (by omega)

/-- a mask of 2^k slots -/
theorem and_pow2 {p : Int} {n k : Nat} (hn : n = 2 ^ k) (hk : k ≤ 10) (h0 : 0 ≤ p) (h1 : p < 18446744073709551616) : IntKind.u64.wrap (BitVec.ofInt IntKind.u64.bits p &&& BitVec.ofInt IntKind.u64.bits ((n : Int) - 1)).toNat = ((p.toNat % n : Nat) : Int) := by
  have hpos : 0 < n := by subst hn; exact Nat.two_pow_pos k
  have hle := pow_le hk
  obtain ⟨q, rfl⟩ : ∃ q : Nat, p = q := ⟨p.toNat, by omega⟩
  have e1 : ((n : Int) - 1) = ((n - 1 : Nat) : Int) := by omega
  rw [e1, and_u64 (by omega) (by omega), hn, Nat.and_two_pow_sub_one_eq_mod, Int.toNat_natCast]

theorem wrap_i64_s {n : Nat} (h : n < 18446744073709551616) : IntKind.i64.wrap (n : Int) = if n < 9223372036854775808 then (n : Int) else (n : Int) - 18446744073709551616 := by
  unfold IntKind.wrap IntKind.signed IntKind.bits
  simp only [Bool.true_and, decide_eq_true_eq]
  split <;> split <;> omega

/- comparisons that are decided -/
theorem bin_lssT {P : Program} {xt : TypeId} {x y : Operand} {k : IntKind} {a b : Int} (h : a < b) : Bin P .lss xt x y (.int k a) (.int k b) (.bool true) := by
  have t := bin_lss (P := P) (xt := xt) (x := x) (y := y) (k := k) (a := a) (b := b)
  rwa [decide_eq_true h] at t
theorem bin_lssF {P : Program} {xt : TypeId} {x y : Operand} {k : IntKind} {a b : Int} (h : ¬ (a < b)) : Bin P .lss xt x y (.int k a) (.int k b) (.bool false) := by
  have t := bin_lss (P := P) (xt := xt) (x := x) (y := y) (k := k) (a := a) (b := b)
  rwa [decide_eq_false h] at t
theorem bin_leqT {P : Program} {xt : TypeId} {x y : Operand} {k : IntKind} {a b : Int} (h : a ≤ b) : Bin P .leq xt x y (.int k a) (.int k b) (.bool true) := by
  have t := bin_leq (P := P) (xt := xt) (x := x) (y := y) (k := k) (a := a) (b := b)
  rwa [decide_eq_true h] at t
theorem bin_leqF {P : Program} {xt : TypeId} {x y : Operand} {k : IntKind} {a b : Int} (h : ¬ (a ≤ b)) : Bin P .leq xt x y (.int k a) (.int k b) (.bool false) := by
  have t := bin_leq (P := P) (xt := xt) (x := x) (y := y) (k := k) (a := a) (b := b)
  rwa [decide_eq_false h] at t
theorem bin_gtrT {P : Program} {xt : TypeId} {x y : Operand} {k : IntKind} {a b : Int} (h : b < a) : Bin P .gtr xt x y (.int k a) (.int k b) (.bool true) := by
  have t := bin_gtr (P := P) (xt := xt) (x := x) (y := y) (k := k) (a := a) (b := b)
  rwa [decide_eq_true h] at t
theorem bin_gtrF {P : Program} {xt : TypeId} {x y : Operand} {k : IntKind} {a b : Int} (h : ¬ (b < a)) : Bin P .gtr xt x y (.int k a) (.int k b) (.bool false) := by
  have t := bin_gtr (P := P) (xt := xt) (x := x) (y := y) (k := k) (a := a) (b := b)
  rwa [decide_eq_false h] at t
theorem bin_geqT {P : Program} {xt : TypeId} {x y : Operand} {k : IntKind} {a b : Int} (h : b ≤ a) : Bin P .geq xt x y (.int k a) (.int k b) (.bool true) := by
  have t := bin_geq (P := P) (xt := xt) (x := x) (y := y) (k := k) (a := a) (b := b)
  rwa [decide_eq_true h] at t
theorem bin_geqF {P : Program} {xt : TypeId} {x y : Operand} {k : IntKind} {a b : Int} (h : ¬ (b ≤ a)) : Bin P .geq xt x y (.int k a) (.int k b) (.bool false) := by
  have t := bin_geq (P := P) (xt := xt) (x := x) (y := y) (k := k) (a := a) (b := b)
  rwa [decide_eq_false h] at t
theorem bin_eqlT {P : Program} {xt : TypeId} {x y : Operand} {k : IntKind} {a b : Int} (h : a = b) : Bin P .eql xt x y (.int k a) (.int k b) (.bool true) := by
  have t := bin_eql (P := P) (xt := xt) (x := x) (y := y) (k := k) (a := a) (b := b)
  rwa [decide_eq_true h] at t
theorem bin_eqlF {P : Program} {xt : TypeId} {x y : Operand} {k : IntKind} {a b : Int} (h : ¬ (a = b)) : Bin P .eql xt x y (.int k a) (.int k b) (.bool false) := by
  have t := bin_eql (P := P) (xt := xt) (x := x) (y := y) (k := k) (a := a) (b := b)
  rwa [decide_eq_false h] at t
theorem bin_neqT {P : Program} {xt : TypeId} {x y : Operand} {k : IntKind} {a b : Int} (h : ¬ (a = b)) : Bin P .neq xt x y (.int k a) (.int k b) (.bool true) := by
  have t := bin_neq (P := P) (xt := xt) (x := x) (y := y) (k := k) (a := a) (b := b)
  rwa [decide_eq_false h] at t
theorem bin_neqF {P : Program} {xt : TypeId} {x y : Operand} {k : IntKind} {a b : Int} (h : a = b) : Bin P .neq xt x y (.int k a) (.int k b) (.bool false) := by
  have t := bin_neq (P := P) (xt := xt) (x := x) (y := y) (k := k) (a := a) (b := b)
  rwa [decide_eq_true h] at t

end Go.PB
