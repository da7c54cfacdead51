/-
  math/bits: Mul64 (its own text), Add64 (the model stands in).
-/
import Derived.Test.YthoefhocecdlhaaAcc
import Derived.Test.YthoefhocecdlhaaFt
import Derived.Lib.Mul64
import Derived.Laws.Externs
set_option linter.unusedVariables false
set_option linter.unusedSimpArgs false
namespace Go.Proofs.Ythoefhocecdlhaa
open Go Go.PB
attribute [local irreducible] Mo Bin Eql Tr Wo Ap Wle


theorem mulw {u v w : Nat} (h : u * v = w) (hw : w < 18446744073709551616) : IntKind.u64.wrap ((u : Int) * (v : Int)) = (w : Int) := by
  rw [← Int.natCast_mul, h]; exact wrap_u64 (by omega) (by omega)
theorem addw {u v w : Nat} (h : u + v = w) (hw : w < 18446744073709551616) : IntKind.u64.wrap ((u : Int) + (v : Int)) = (w : Int) := by
  rw [← Int.natCast_add, h]; exact wrap_u64 (by omega) (by omega)
theorem subw {u v w : Nat} (h : v + w = u) (hw : u < 18446744073709551616) : IntKind.u64.wrap ((u : Int) - (v : Int)) = (w : Int) := by
  rw [show (u : Int) - (v : Int) = (w : Int) by omega]; exact wrap_u64 (by omega) (by omega)
theorem mulm {u v : Nat} : IntKind.u64.wrap ((u : Int) * (v : Int)) = ((u * v % 18446744073709551616 : Nat) : Int) := by
  rw [← Int.natCast_mul, wrap_u64_mod]; generalize u * v = m; omega
theorem lowm {u : Nat} (h : u < 18446744073709551616) : IntKind.u64.wrap (BitVec.ofInt IntKind.u64.bits (u : Int) &&& BitVec.ofInt IntKind.u64.bits (4294967295 : Int)).toNat = ((u % 4294967296 : Nat) : Int) := by
  rw [show (4294967295 : Int) = ((4294967295 : Nat) : Int) from rfl, and_u64' h (by omega), show u &&& 4294967295 = u % 4294967296 from Nat.and_two_pow_sub_one_eq_mod u 32]; omega
theorem highm {u : Nat} (h : u < 18446744073709551616) : (u : Int).fdiv (2 ^ (min (32 : Int).toNat IntKind.u64.bits)) = ((u / 4294967296 : Nat) : Int) := by
  have := u64_shr (a := u) (n := 32) (by omega) h
  rw [show ((32 : Nat) : Int) = 32 from rfl] at this
  rw [this]; omega

section
variable {B : Hand} [Lets B] {L F : List HProp} {x : B.X} {a b : Nat}

set_option maxHeartbeats 2000000 in
theorem mul64_tr (ha : a < 18446744073709551616) (hb : b < 18446744073709551616) : Tr Try.prog B 97 [.int .u64 (a : Nat), .int .u64 (b : Nat)] L x fun v L' x' => v = .tuple #[.int .u64 (a * b / 18446744073709551616 : Nat), .int .u64 (a * b % 18446744073709551616 : Nat)] ∧ L' = L ∧ x' = x := by
  obtain ⟨k1, k2, k3, k4⟩ := Go.Lib.mul64_hi a b ha hb
  have e1 := lowm ha
  have e2 := lowm hb
  have e3 := highm ha
  have e4 := highm hb
  have hab : a * b / 18446744073709551616 < 18446744073709551616 := Nat.div_lt_of_lt_mul (Nat.mul_lt_mul'' ha hb)
  have e5 := mulm (u := a) (v := b)
  generalize a * b / 18446744073709551616 = hi at *
  generalize a * b % 18446744073709551616 = lo at *
  generalize a % 4294967296 = x0 at *
  generalize a / 4294967296 = x1 at *
  generalize b % 4294967296 = y0 at *
  generalize b / 4294967296 = y1 at *
  have m1 : IntKind.u64.wrap ((x0 : Int) * (y0 : Int)) = ((x0 * y0 : Nat) : Int) := mulw rfl (by omega)
  have m2 : IntKind.u64.wrap ((x1 : Int) * (y0 : Int)) = ((x1 * y0 : Nat) : Int) := mulw rfl (by omega)
  have m3 : IntKind.u64.wrap ((x0 : Int) * (y1 : Int)) = ((x0 * y1 : Nat) : Int) := mulw rfl (by omega)
  have m4 : IntKind.u64.wrap ((x1 : Int) * (y1 : Int)) = ((x1 * y1 : Nat) : Int) := mulw rfl (by omega)
  generalize x0 * y0 = p00 at *
  generalize x1 * y0 = p10 at *
  generalize x0 * y1 = p01 at *
  generalize x1 * y1 = p11 at *
  have h1 := highm (u := p00) (by omega)
  have s1 : IntKind.u64.wrap ((p10 : Int) + ((p00 / 4294967296 : Nat) : Int)) = ((p10 + p00 / 4294967296 : Nat) : Int) := addw rfl (by omega)
  generalize p00 / 4294967296 = c00 at *
  generalize p10 + c00 = t at *
  have h2 := highm (u := t) (by omega)
  have l2 := lowm (u := t) (by omega)
  generalize t / 4294967296 = w2 at *
  generalize t % 4294967296 = w1 at *
  have s2 : IntKind.u64.wrap ((w1 : Int) + (p01 : Int)) = ((w1 + p01 : Nat) : Int) := addw rfl (by omega)
  have s3 : IntKind.u64.wrap ((p11 : Int) + (w2 : Int)) = ((p11 + w2 : Nat) : Int) := addw rfl (by omega)
  generalize w1 + p01 = w1' at *
  generalize p11 + w2 = q at *
  have h3 := highm (u := w1') (by omega)
  have s4 : IntKind.u64.wrap ((q : Int) + ((w1' / 4294967296 : Nat) : Int)) = (hi : Int) := addw k4 hab
  refine tr_of_body Try.func97 rfl Try.ntmps97 (by simp) fun um Q hQ => ?_
  simp only [argE, Nat.zero_add, Nat.reduceAdd]
  repeat (first
    | (apply wo_po; apply mo_bin; exact rfl; exact rfl; apply bin_and; (first | exact e1 | exact e2 | exact l2); (first | exact trivial | exact rfl))
    | (apply wo_po; apply mo_bin; exact rfl; exact rfl; apply bin_shr; omega; (first | exact e3 | exact e4 | exact h1 | exact h2 | exact h3); (first | exact trivial | exact rfl))
    | (apply wo_po; apply mo_bin; exact rfl; exact rfl; apply bin_mul; (first | exact m1 | exact m2 | exact m3 | exact m4 | exact e5); (first | exact trivial | exact rfl))
    | (apply wo_po; apply mo_bin; exact rfl; exact rfl; apply bin_add; (first | exact s1 | exact s2 | exact s3 | exact s4); (first | exact trivial | exact rfl))
    | refine we_seq ?_
    | (refine we_region _ rfl rfl ?_; simp only [opsOf, List.map_cons, List.map_nil, Option.map_none, Option.map_some, List.getElem?_toArray, List.getElem?_cons_zero, List.getElem?_cons_succ, Option.bind_some, Option.getD_some])
    | refine wo_nil ?_
    | (apply wo_po; apply mo_move; exact rfl; (first | exact trivial | exact rfl))
    | (apply wo_po; apply mo_assign; exact rfl; (first | exact trivial | exact rfl))
    | refine we_ret ?_)
  (first | refine at_ret2 (ex := .ret) Try.func97 Try.results97 hQ (.inl rfl) rfl rfl ?_ | refine at_ret2 (ex := .normal) Try.func97 Try.results97 hQ (.inr rfl) rfl rfl ?_)
  exact ⟨rfl, rfl, rfl⟩
end

instance : Exn Try.prog 98 add64Entry := ⟨⟨Try.f98, Try.func98, by kernel_rfl, by kernel_rfl, by kernel_rfl, by kernel_rfl⟩⟩

theorem at_add64 {P : Program} {L : List HProp} {a b : Nat} : ∀ (M : Mark → Prop) h (Q : Value → Hp → Prop) X, Star L h → (∀ v L' h', (v = .tuple #[.int .u64 ((a + b) % 18446744073709551616 : Nat), .int .u64 ((a + b) / 18446744073709551616 : Nat)] ∧ L' = L) → Star L' h' → Q v h') → wpS P M (add64Entry [.int .u64 (a : Nat), .int .u64 (b : Nat), .int .u64 0].toArray) h Q X := by
  intro M h Q X s q
  exact q _ L h ⟨rfl, rfl⟩ s
end Go.Proofs.Ythoefhocecdlhaa
