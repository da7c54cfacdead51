/-
  patchbaylaw23: works, MirrorKnown.
-/
import Derived.Test.YtmkkanmkjfnpdaaMirAcc
import Derived.Test.YtmkkanmkjfnpdaaFp
import Derived.Test.YtmkkanmkjfnpdaaCh
set_option linter.unusedVariables false
set_option linter.unusedSimpArgs false
namespace Go.Proofs.Ytmkkanmkjfnpdaa
open Go Go.PB
attribute [local irreducible] Mo Bin Eql Tr Wo Ap Wle

section
theorem nopow_1 : ¬ ∃ k : Nat, 1 ≤ k ∧ k ≤ 10 ∧ (1 : Int) = ((2 ^ k : Nat) : Int) := by
  rintro ⟨k, h1, h2, e⟩
  have key : ∀ k ∈ List.range 11, 1 ≤ k → 2 ^ k ≠ 1 := by decide +kernel
  exact key k (by simp; omega) h1 (by omega)
theorem nopow_3 : ¬ ∃ k : Nat, 1 ≤ k ∧ k ≤ 10 ∧ (3 : Int) = ((2 ^ k : Nat) : Int) := by
  rintro ⟨k, h1, h2, e⟩
  have key : ∀ k ∈ List.range 11, 1 ≤ k → 2 ^ k ≠ 3 := by decide +kernel
  exact key k (by simp; omega) h1 (by omega)
theorem nopow_2048 : ¬ ∃ k : Nat, 1 ≤ k ∧ k ≤ 10 ∧ (2048 : Int) = ((2 ^ k : Nat) : Int) := by
  rintro ⟨k, h1, h2, e⟩
  have key : ∀ k ∈ List.range 11, 1 ≤ k → 2 ^ k ≠ 2048 := by decide +kernel
  exact key k (by simp; omega) h1 (by omega)
theorem counts_lone0 {B : Hand} [Lets B] {x : B.X} {mr r b n nc : Nat} {f : Nat → Nat} {ap : Apart (maddr mr r b n) (2 * n + 5) (mK mr r b n nc)} {G : Nat → Nat → Nat → (Nat → Nat) → Prop} (g : G (f (2 * n + 2)) (f (2 * n + 3)) (f (2 * n + 4)) f) : CountsT (loneAcc x (maddr mr r b n) (2 * n + 5) (mK mr r b n nc) ap) n f G :=
  ⟨by show 2 * n + 2 + 0 < 2 * n + 5; omega, by show 2 * n + 2 + 1 < 2 * n + 5; omega, by show 2 * n + 2 + 2 < 2 * n + 5; omega, g⟩
end

section
variable {B : Hand} [Lets B] [Chans B] {L : List HProp} {x : B.X}

theorem works_tr : Tr Try.prog B 10 [] L x fun v L' x' => v = .bool true ∧ L' = L ∧ x' = x := by
  refine Tr.post (R := fun v L' x' => v = .bool true ∧ x' = x ∧ ∀ h, Star L' h → Star L h) ?_ (by rintro v L' x' ⟨h0, rfl, hs⟩; exact ⟨L, ⟨h0, rfl, rfl⟩, hs⟩)
  refine tr_of_body Try.func10 rfl Try.ntmps10 (by simp) fun um Q hQ => ?_
  simp only [argE, Nat.zero_add, Nat.reduceAdd]
  repeat (first
    | refine we_seq ?_
    | (refine we_region _ rfl rfl ?_; simp only [opsOf, List.map_cons, List.map_nil, Option.map_none, Option.map_some, List.getElem?_toArray, List.getElem?_cons_zero, List.getElem?_cons_succ, Option.bind_some, Option.getD_some])
    | refine wo_nil ?_
    | (apply wo_po; apply mo_assign; exact rfl; (first | exact trivial | exact rfl)))
  refine wo_call (.cons rfl .nil) trivial (mnew_tr (n := 2) (k := 1) rfl (by omega) (by omega)) ?_
  rintro v' L' x' ⟨mr, r, b, nc, hrb, hmr, hmb, rfl, rfl, rfl⟩
  repeat (first
    | (apply wo_po; apply mo_bin; exact rfl; exact rfl; apply bin_neqF; omega; (first | exact trivial | exact rfl))
    | refine we_seq ?_
    | (refine we_region _ rfl rfl ?_; simp only [opsOf, List.map_cons, List.map_nil, Option.map_none, Option.map_some, List.getElem?_toArray, List.getElem?_cons_zero, List.getElem?_cons_succ, Option.bind_some, Option.getD_some])
    | refine wo_nil ?_
    | (apply wo_po; apply mo_move; exact rfl; (first | exact trivial | exact rfl))
    | (apply wo_po; apply mo_assign; exact rfl; (first | exact trivial | exact rfl))
    | (apply wo_po; apply mo_extract; exact rfl; exact rfl; (first | exact trivial | exact rfl))
    | (apply we_condF; exact rfl; (first | exact rfl | (simp <;> omega) | omega))
    | refine we_skip ?_)
  refine wo_star ((mirLone x' mr r b 2 nc (m_apart hrb hmr hmb)).C (seqs 2) :: L) (fun h st => star_shut (M := [_, _]) st) ?_
  refine wo_call (.cons rfl (.cons rfl (.cons rfl .nil))) trivial (moffer_tr (A := (mirLone x' mr r b 2 nc (m_apart hrb hmr hmb))) (lone_at (k := 1) rfl (by omega)) (v := 5) (by omega) (offer_lone (k := 1) rfl (by omega) (by omega) (RowAt.seqs (by omega) (by omega)) (G := fun q f' => q = true ∧ RowAt 2 f' [5] ∧ f' (2 * 2 + 2) = 1 ∧ f' (2 * 2 + 3) = 0 ∧ f' (2 * 2 + 4) = 0) (fun f' R' e0 e1 e2 => ⟨rfl, R', e0.trans rfl, e1.trans rfl, e2.trans rfl⟩)) .here) ?_
  rintro v' L' x' ⟨q1, f1, ⟨rfl, R1, a1, b1, d1⟩, rfl, rfl, rfl⟩
  repeat (first
    | refine we_seq ?_
    | (refine we_region _ rfl rfl ?_; simp only [opsOf, List.map_cons, List.map_nil, Option.map_none, Option.map_some, List.getElem?_toArray, List.getElem?_cons_zero, List.getElem?_cons_succ, Option.bind_some, Option.getD_some])
    | refine wo_nil ?_
    | (apply wo_po; apply mo_move; exact rfl; (first | exact trivial | exact rfl))
    | (apply wo_po; apply mo_assign; exact rfl; (first | exact trivial | exact rfl))
    | (apply wo_po; apply mo_extract; exact rfl; exact rfl; (first | exact trivial | exact rfl)))
  refine wo_call (.cons rfl (.cons rfl (.cons rfl .nil))) trivial (moffer_tr (A := (mirLone x' mr r b 2 nc (m_apart hrb hmr hmb))) (lone_at (k := 1) rfl (by omega)) (v := 6) (by omega) (offer_lone (k := 1) rfl (by omega) (by omega) R1 (G := fun q f' => q = true ∧ RowAt 2 f' [5, 6] ∧ f' (2 * 2 + 2) = 2 ∧ f' (2 * 2 + 3) = 0 ∧ f' (2 * 2 + 4) = 0) (fun f' R' e0 e1 e2 => ⟨rfl, R', e0.trans (by rw [a1]), e1.trans b1, e2.trans d1⟩)) .here) ?_
  rintro v' L' x' ⟨q2, f2, ⟨rfl, R2, a2, b2, d2⟩, rfl, rfl, rfl⟩
  repeat (first
    | refine we_seq ?_
    | (refine we_region _ rfl rfl ?_; simp only [opsOf, List.map_cons, List.map_nil, Option.map_none, Option.map_some, List.getElem?_toArray, List.getElem?_cons_zero, List.getElem?_cons_succ, Option.bind_some, Option.getD_some])
    | refine wo_nil ?_
    | (apply wo_po; apply mo_move; exact rfl; (first | exact trivial | exact rfl))
    | (apply wo_po; apply mo_assign; exact rfl; (first | exact trivial | exact rfl))
    | (apply wo_po; apply mo_extract; exact rfl; exact rfl; (first | exact trivial | exact rfl)))
  refine wo_call (.cons rfl (.cons rfl (.cons rfl .nil))) trivial (moffer_tr (A := (mirLone x' mr r b 2 nc (m_apart hrb hmr hmb))) (lone_at (k := 1) rfl (by omega)) (v := 7) (by omega) (offer_lone (k := 1) rfl (by omega) (by omega) R2 (G := fun q f' => q = false ∧ RowAt 2 f' [5, 6] ∧ f' (2 * 2 + 2) = 3 ∧ f' (2 * 2 + 3) = 1 ∧ f' (2 * 2 + 4) = 0) (fun f' R' e0 e1 e2 => ⟨rfl, R', e0.trans (by rw [a2]), e1.trans (by rw [b2]; rfl), e2.trans d2⟩)) .here) ?_
  rintro v' L' x' ⟨q3, f3, ⟨rfl, R3, a3, b3, d3⟩, rfl, rfl, rfl⟩
  repeat (first
    | refine we_seq ?_
    | (refine we_region _ rfl rfl ?_; simp only [opsOf, List.map_cons, List.map_nil, Option.map_none, Option.map_some, List.getElem?_toArray, List.getElem?_cons_zero, List.getElem?_cons_succ, Option.bind_some, Option.getD_some])
    | refine wo_nil ?_
    | (apply wo_po; apply mo_move; exact rfl; (first | exact trivial | exact rfl))
    | (apply wo_po; apply mo_assign; exact rfl; (first | exact trivial | exact rfl))
    | (apply wo_po; apply mo_extract; exact rfl; exact rfl; (first | exact trivial | exact rfl)))
  refine wo_call (.cons rfl (.cons rfl .nil)) trivial (mtake_tr (A := (mirLone x' mr r b 2 nc (m_apart hrb hmr hmb))) (lone_at (k := 1) rfl (by omega)) (take_lone (k := 1) rfl (by omega) (by omega) R3 (G := fun q f' => q = some 5 ∧ f' (2 * 2 + 2) = 3 ∧ f' (2 * 2 + 3) = 1 ∧ f' (2 * 2 + 4) = 1) (fun f' R' e0 e1 e2 => ⟨rfl, e0.trans a3, e1.trans b3, e2.trans (by rw [d3]; rfl)⟩)) .here) ?_
  rintro v' L' x' ⟨q4, f4, ⟨rfl, a4, b4, d4⟩, _, rfl, rfl, rfl⟩
  repeat (first
    | refine we_seq ?_
    | (refine we_region _ rfl rfl ?_; simp only [opsOf, List.map_cons, List.map_nil, Option.map_none, Option.map_some, List.getElem?_toArray, List.getElem?_cons_zero, List.getElem?_cons_succ, Option.bind_some, Option.getD_some])
    | refine wo_nil ?_
    | (apply wo_po; apply mo_move; exact rfl; (first | exact trivial | exact rfl))
    | (apply wo_po; apply mo_assign; exact rfl; (first | exact trivial | exact rfl))
    | (apply wo_po; apply mo_extract; exact rfl; exact rfl; (first | exact trivial | exact rfl)))
  refine wo_call (.cons rfl (.cons rfl .nil)) trivial (mcounts_tr (A := (mirLone x' mr r b 2 nc (m_apart hrb hmr hmb))) (lone_at (k := 1) rfl (by omega)) (counts_with (A := loneAcc x' (maddr mr r b 2) (2 * 2 + 5) (mK mr r b 2 nc) (m_apart hrb hmr hmb)) (counts_lone0 (G := fun a b c f' => a = 3 ∧ b = 1 ∧ c = 1) ⟨a4, b4, d4⟩)) .here) ?_
  rintro v' L' x' ⟨ca, cb, cc, f5, ⟨rfl, rfl, rfl⟩, rfl, rfl, rfl⟩
  repeat (first
    | (apply wo_po; apply mo_bin; exact rfl; exact rfl; apply bin_eqlT; omega; (first | exact trivial | exact rfl))
    | refine we_seq ?_
    | (refine we_region _ rfl rfl ?_; simp only [opsOf, List.map_cons, List.map_nil, Option.map_none, Option.map_some, List.getElem?_toArray, List.getElem?_cons_zero, List.getElem?_cons_succ, Option.bind_some, Option.getD_some])
    | refine wo_nil ?_
    | (apply wo_po; apply mo_move; exact rfl; (first | exact trivial | exact rfl))
    | (apply wo_po; apply mo_assign; exact rfl; (first | exact trivial | exact rfl))
    | (apply wo_po; apply mo_pickT; exact rfl; exact rfl; exact rfl; (first | exact trivial | exact rfl))
    | (apply wo_po; apply mo_extract; exact rfl; exact rfl; (first | exact trivial | exact rfl))
    | (apply wo_po; apply mo_not; exact rfl; (first | exact trivial | exact rfl))
    | refine we_ret ?_)
  (first | refine at_ret1 (ex := .ret) Try.func10 Try.results10 hQ (.inl rfl) rfl ?_ | refine at_ret1 (ex := .normal) Try.func10 Try.results10 hQ (.inr rfl) rfl ?_)
  exact ⟨rfl, rfl, fun h st => star_drop st⟩

omit [Chans B] in
theorem mpump_none {p : Value} (ht : Tr Try.prog B 43 [p] L x fun v L' x' => v = .bool false ∧ L' = L ∧ x' = x) : Tr Try.prog B 22 [p, .chan none, .chan none] L x fun v L' x' => v = .tuple #[.int .i64 0, .int .i64 1] ∧ L' = L ∧ x' = x := by
  refine tr_of_body Try.func22 rfl Try.ntmps22 (by simp) fun um Q hQ => ?_
  simp only [argE, Nat.zero_add, Nat.reduceAdd]
  repeat (first
    | refine we_seq ?_
    | (refine we_region _ rfl rfl ?_; simp only [opsOf, List.map_cons, List.map_nil, Option.map_none, Option.map_some, List.getElem?_toArray, List.getElem?_cons_zero, List.getElem?_cons_succ, Option.bind_some, Option.getD_some])
    | refine wo_nil ?_
    | (apply wo_po; apply mo_move; exact rfl; (first | exact trivial | exact rfl))
    | (apply wo_po; apply mo_assign; exact rfl; (first | exact trivial | exact rfl)))
  refine wo_call (.cons rfl .nil) trivial ht ?_
  rintro v1 L1 x1 ⟨rfl, rfl, rfl⟩
  repeat (first
    | refine we_seq ?_
    | (refine we_region _ rfl rfl ?_; simp only [opsOf, List.map_cons, List.map_nil, Option.map_none, Option.map_some, List.getElem?_toArray, List.getElem?_cons_zero, List.getElem?_cons_succ, Option.bind_some, Option.getD_some])
    | refine wo_nil ?_
    | (apply wo_po; apply mo_move; exact rfl; (first | exact trivial | exact rfl))
    | (apply wo_po; apply mo_assign; exact rfl; (first | exact trivial | exact rfl))
    | (apply wo_no; exact rfl)
    | (apply wo_po; apply mo_pickT; exact rfl; exact rfl; exact rfl; (first | exact trivial | exact rfl))
    | (apply wo_po; apply mo_not; exact rfl; (first | exact trivial | exact rfl))
    | (apply we_condT; exact rfl; (first | exact rfl | (simp <;> omega) | omega))
    | refine we_ret ?_)
  (first | refine at_ret2 (ex := .ret) Try.func22 Try.results22 hQ (.inl rfl) rfl rfl ?_ | refine at_ret2 (ex := .normal) Try.func22 Try.results22 hQ (.inr rfl) rfl rfl ?_)
  exact ⟨rfl, rfl, rfl⟩

omit [Chans B] in
theorem mpump_nil {p : Value} (ht : Tr Try.prog B 43 [p] L x fun v L' x' => v = .bool true ∧ L' = L ∧ x' = x) : Tr Try.prog B 22 [p, .chan none, .chan none] L x fun v L' x' => v = .tuple #[.int .i64 0, .int .i64 1] ∧ L' = L ∧ x' = x := by
  refine tr_of_body Try.func22 rfl Try.ntmps22 (by simp) fun um Q hQ => ?_
  simp only [argE, Nat.zero_add, Nat.reduceAdd]
  repeat (first
    | refine we_seq ?_
    | (refine we_region _ rfl rfl ?_; simp only [opsOf, List.map_cons, List.map_nil, Option.map_none, Option.map_some, List.getElem?_toArray, List.getElem?_cons_zero, List.getElem?_cons_succ, Option.bind_some, Option.getD_some])
    | refine wo_nil ?_
    | (apply wo_po; apply mo_move; exact rfl; (first | exact trivial | exact rfl))
    | (apply wo_po; apply mo_assign; exact rfl; (first | exact trivial | exact rfl)))
  refine wo_call (.cons rfl .nil) trivial ht ?_
  rintro v1 L1 x1 ⟨rfl, rfl, rfl⟩
  repeat (first
    | (apply wo_po; apply mo_bin; exact rfl; exact rfl; apply bin_eq; apply eql_chan_nil; (first | exact trivial | exact rfl))
    | refine we_seq ?_
    | (refine we_region _ rfl rfl ?_; simp only [opsOf, List.map_cons, List.map_nil, Option.map_none, Option.map_some, List.getElem?_toArray, List.getElem?_cons_zero, List.getElem?_cons_succ, Option.bind_some, Option.getD_some])
    | refine wo_nil ?_
    | (apply wo_po; apply mo_move; exact rfl; (first | exact trivial | exact rfl))
    | (apply wo_po; apply mo_assign; exact rfl; (first | exact trivial | exact rfl))
    | (apply wo_no; exact rfl)
    | (apply wo_po; apply mo_pickT; exact rfl; exact rfl; exact rfl; (first | exact trivial | exact rfl))
    | (apply wo_po; apply mo_pickF; exact rfl; exact rfl; exact rfl; (first | exact trivial | exact rfl))
    | (apply wo_po; apply mo_not; exact rfl; (first | exact trivial | exact rfl))
    | (apply we_condT; exact rfl; (first | exact rfl | (simp <;> omega) | omega))
    | refine we_ret ?_)
  (first | refine at_ret2 (ex := .ret) Try.func22 Try.results22 hQ (.inl rfl) rfl rfl ?_ | refine at_ret2 (ex := .normal) Try.func22 Try.results22 hQ (.inr rfl) rfl rfl ?_)
  exact ⟨rfl, rfl, rfl⟩

theorem known_tr : Tr Try.prog B 4 [] L x fun v L' x' => v = .bool true := by
  refine tr_of_body Try.func4 rfl Try.ntmps4 (by simp) fun um Q hQ => ?_
  simp only [argE, Nat.zero_add, Nat.reduceAdd]
  repeat (first
    | (apply wo_po; apply mo_build (pv := []); exact rfl; exact .nil; exact rfl; exact trivial)
    | (apply wo_mo; apply mo_box; exact rfl; exact trivial)
    | refine we_seq ?_
    | (refine we_region _ rfl rfl ?_; simp only [opsOf, List.map_cons, List.map_nil, Option.map_none, Option.map_some, List.getElem?_toArray, List.getElem?_cons_zero, List.getElem?_cons_succ, Option.bind_some, Option.getD_some])
    | refine wo_nil ?_
    | (apply wo_po; apply mo_assign; exact rfl; (first | exact trivial | exact rfl)))
  rintro v' L' ⟨mr, rfl, rfl⟩
  refine wo_ent (arr mr 0 [.int .u64 0, .int .u64 0, .int .u64 0, .pointer none, .chan none] :: L) .refl ?_
  have hr : ∀ {c : HProp}, Rd (c :: arr mr 0 [.int .u64 0, .int .u64 0, .int .u64 0, .pointer none, .chan none] :: L) mr 3 (.pointer none) := fun {c} => Rd.there (Rd.row0 rfl)
  repeat (first
    | refine we_seq ?_
    | (refine we_region _ rfl rfl ?_; simp only [opsOf, List.map_cons, List.map_nil, Option.map_none, Option.map_some, List.getElem?_toArray, List.getElem?_cons_zero, List.getElem?_cons_succ, Option.bind_some, Option.getD_some])
    | refine wo_nil ?_
    | (apply wo_po; apply mo_move; exact rfl; (first | exact trivial | exact rfl))
    | (apply wo_po; apply mo_assign; exact rfl; (first | exact trivial | exact rfl)))
  refine wo_call (.cons rfl (.cons rfl (.cons rfl .nil))) trivial (moffer_none mthere_nil) ?_
  rintro v1 L1 x1 ⟨rfl, rfl, rfl⟩
  repeat (first
    | refine we_seq ?_
    | (refine we_region _ rfl rfl ?_; simp only [opsOf, List.map_cons, List.map_nil, Option.map_none, Option.map_some, List.getElem?_toArray, List.getElem?_cons_zero, List.getElem?_cons_succ, Option.bind_some, Option.getD_some])
    | refine wo_nil ?_
    | (apply wo_po; apply mo_move; exact rfl; (first | exact trivial | exact rfl))
    | (apply wo_po; apply mo_assign; exact rfl; (first | exact trivial | exact rfl))
    | (apply wo_po; apply mo_extract; exact rfl; exact rfl; (first | exact trivial | exact rfl)))
  refine wo_call (.cons rfl (.cons rfl .nil)) trivial (mtake_none mthere_nil) ?_
  rintro v1 L1 x1 ⟨rfl, rfl, rfl⟩
  repeat (first
    | refine we_seq ?_
    | (refine we_region _ rfl rfl ?_; simp only [opsOf, List.map_cons, List.map_nil, Option.map_none, Option.map_some, List.getElem?_toArray, List.getElem?_cons_zero, List.getElem?_cons_succ, Option.bind_some, Option.getD_some])
    | refine wo_nil ?_
    | (apply wo_po; apply mo_move; exact rfl; (first | exact trivial | exact rfl))
    | (apply wo_po; apply mo_assign; exact rfl; (first | exact trivial | exact rfl))
    | (apply wo_po; apply mo_extract; exact rfl; exact rfl; (first | exact trivial | exact rfl)))
  refine wo_call (.cons rfl (.cons rfl .nil)) trivial (mcounts_none mthere_nil) ?_
  rintro v1 L1 x1 ⟨rfl, rfl, rfl⟩
  repeat (first
    | refine we_seq ?_
    | (refine we_region _ rfl rfl ?_; simp only [opsOf, List.map_cons, List.map_nil, Option.map_none, Option.map_some, List.getElem?_toArray, List.getElem?_cons_zero, List.getElem?_cons_succ, Option.bind_some, Option.getD_some])
    | refine wo_nil ?_
    | (apply wo_po; apply mo_move; exact rfl; (first | exact trivial | exact rfl))
    | (apply wo_po; apply mo_assign; exact rfl; (first | exact trivial | exact rfl))
    | (apply wo_po; apply mo_extract; exact rfl; exact rfl; (first | exact trivial | exact rfl)))
  refine wo_call (.cons rfl (.cons rfl (.cons rfl .nil))) trivial (moffer_none (mthere_empty (Rd.row0 rfl))) ?_
  rintro v1 L1 x1 ⟨rfl, rfl, rfl⟩
  repeat (first
    | refine we_seq ?_
    | (refine we_region _ rfl rfl ?_; simp only [opsOf, List.map_cons, List.map_nil, Option.map_none, Option.map_some, List.getElem?_toArray, List.getElem?_cons_zero, List.getElem?_cons_succ, Option.bind_some, Option.getD_some])
    | refine wo_nil ?_
    | (apply wo_po; apply mo_move; exact rfl; (first | exact trivial | exact rfl))
    | (apply wo_po; apply mo_assign; exact rfl; (first | exact trivial | exact rfl))
    | (apply wo_po; apply mo_extract; exact rfl; exact rfl; (first | exact trivial | exact rfl)))
  refine wo_call (.cons rfl (.cons rfl .nil)) trivial (mtake_none (mthere_empty (Rd.row0 rfl))) ?_
  rintro v1 L1 x1 ⟨rfl, rfl, rfl⟩
  repeat (first
    | refine we_seq ?_
    | (refine we_region _ rfl rfl ?_; simp only [opsOf, List.map_cons, List.map_nil, Option.map_none, Option.map_some, List.getElem?_toArray, List.getElem?_cons_zero, List.getElem?_cons_succ, Option.bind_some, Option.getD_some])
    | refine wo_nil ?_
    | (apply wo_po; apply mo_move; exact rfl; (first | exact trivial | exact rfl))
    | (apply wo_po; apply mo_assign; exact rfl; (first | exact trivial | exact rfl))
    | (apply wo_po; apply mo_extract; exact rfl; exact rfl; (first | exact trivial | exact rfl)))
  refine wo_call (.cons rfl (.cons rfl .nil)) trivial (mcounts_none (mthere_empty (Rd.row0 rfl))) ?_
  rintro v1 L1 x1 ⟨rfl, rfl, rfl⟩
  repeat (first
    | refine we_seq ?_
    | (refine we_region _ rfl rfl ?_; simp only [opsOf, List.map_cons, List.map_nil, Option.map_none, Option.map_some, List.getElem?_toArray, List.getElem?_cons_zero, List.getElem?_cons_succ, Option.bind_some, Option.getD_some])
    | refine wo_nil ?_
    | (apply wo_po; apply mo_move; exact rfl; (first | exact trivial | exact rfl))
    | (apply wo_po; apply mo_assign; exact rfl; (first | exact trivial | exact rfl))
    | (apply wo_po; apply mo_extract; exact rfl; exact rfl; (first | exact trivial | exact rfl)))
  refine wo_call (.cons rfl .nil) trivial (mnew_tr (n := 2) (k := 1) rfl (by omega) (by omega)) ?_
  rintro v' L' x' ⟨m2, r, b, nc, hrb, hmr, hmb, rfl, rfl, rfl⟩
  repeat (first
    | refine we_seq ?_
    | (refine we_region _ rfl rfl ?_; simp only [opsOf, List.map_cons, List.map_nil, Option.map_none, Option.map_some, List.getElem?_toArray, List.getElem?_cons_zero, List.getElem?_cons_succ, Option.bind_some, Option.getD_some])
    | refine wo_nil ?_
    | (apply wo_po; apply mo_move; exact rfl; (first | exact trivial | exact rfl))
    | (apply wo_po; apply mo_assign; exact rfl; (first | exact trivial | exact rfl))
    | (apply wo_po; apply mo_extract; exact rfl; exact rfl; (first | exact trivial | exact rfl)))
  refine wo_star ((mirLone x' m2 r b 2 nc (m_apart hrb hmr hmb)).C (seqs 2) :: arr mr 0 [.int .u64 0, .int .u64 0, .int .u64 0, .pointer none, .chan none] :: L) (fun h st => star_shut (M := [_, _]) st) ?_
  refine wo_call (.cons rfl (.cons rfl (.cons rfl .nil))) trivial (mpump_none mthere_nil) ?_
  rintro v1 L1 x1 ⟨rfl, rfl, rfl⟩
  repeat (first
    | refine we_seq ?_
    | (refine we_region _ rfl rfl ?_; simp only [opsOf, List.map_cons, List.map_nil, Option.map_none, Option.map_some, List.getElem?_toArray, List.getElem?_cons_zero, List.getElem?_cons_succ, Option.bind_some, Option.getD_some])
    | refine wo_nil ?_
    | (apply wo_po; apply mo_move; exact rfl; (first | exact trivial | exact rfl))
    | (apply wo_po; apply mo_assign; exact rfl; (first | exact trivial | exact rfl))
    | (apply wo_po; apply mo_extract; exact rfl; exact rfl; (first | exact trivial | exact rfl)))
  refine wo_call (.cons rfl (.cons rfl (.cons rfl .nil))) trivial (mpump_none (mthere_empty hr)) ?_
  rintro v1 L1 x1 ⟨rfl, rfl, rfl⟩
  repeat (first
    | refine we_seq ?_
    | (refine we_region _ rfl rfl ?_; simp only [opsOf, List.map_cons, List.map_nil, Option.map_none, Option.map_some, List.getElem?_toArray, List.getElem?_cons_zero, List.getElem?_cons_succ, Option.bind_some, Option.getD_some])
    | refine wo_nil ?_
    | (apply wo_po; apply mo_move; exact rfl; (first | exact trivial | exact rfl))
    | (apply wo_po; apply mo_assign; exact rfl; (first | exact trivial | exact rfl))
    | (apply wo_po; apply mo_extract; exact rfl; exact rfl; (first | exact trivial | exact rfl)))
  refine wo_call (.cons rfl (.cons rfl (.cons rfl .nil))) trivial (mpump_nil (mthere_tr (A := mirLone x1 m2 r b 2 nc (m_apart hrb hmr hmb)) (lone_at (k := 1) rfl (by omega)) .here)) ?_
  rintro v1 L1 x1 ⟨rfl, rfl, rfl⟩
  repeat (first
    | (apply wo_po; apply mo_bin; exact rfl; exact rfl; apply bin_eqlT; omega; (first | exact trivial | exact rfl))
    | refine we_seq ?_
    | (refine we_region _ rfl rfl ?_; simp only [opsOf, List.map_cons, List.map_nil, Option.map_none, Option.map_some, List.getElem?_toArray, List.getElem?_cons_zero, List.getElem?_cons_succ, Option.bind_some, Option.getD_some])
    | refine wo_nil ?_
    | (apply wo_po; apply mo_move; exact rfl; (first | exact trivial | exact rfl))
    | (apply wo_po; apply mo_assign; exact rfl; (first | exact trivial | exact rfl))
    | (apply wo_po; apply mo_pickT; exact rfl; exact rfl; exact rfl; (first | exact trivial | exact rfl))
    | (apply wo_po; apply mo_extract; exact rfl; exact rfl; (first | exact trivial | exact rfl)))
  refine wo_call (.cons rfl .nil) trivial (mnew_no (n := 1) (nopow_1)) ?_
  rintro v1 L1 x1 ⟨rfl, rfl, rfl⟩
  repeat (first
    | refine we_seq ?_
    | (refine we_region _ rfl rfl ?_; simp only [opsOf, List.map_cons, List.map_nil, Option.map_none, Option.map_some, List.getElem?_toArray, List.getElem?_cons_zero, List.getElem?_cons_succ, Option.bind_some, Option.getD_some])
    | refine wo_nil ?_
    | (apply wo_po; apply mo_move; exact rfl; (first | exact trivial | exact rfl))
    | (apply wo_po; apply mo_assign; exact rfl; (first | exact trivial | exact rfl))
    | (apply wo_po; apply mo_extract; exact rfl; exact rfl; (first | exact trivial | exact rfl)))
  refine wo_call (.cons rfl .nil) trivial (mnew_no (n := 3) (nopow_3)) ?_
  rintro v1 L1 x1 ⟨rfl, rfl, rfl⟩
  repeat (first
    | refine we_seq ?_
    | (refine we_region _ rfl rfl ?_; simp only [opsOf, List.map_cons, List.map_nil, Option.map_none, Option.map_some, List.getElem?_toArray, List.getElem?_cons_zero, List.getElem?_cons_succ, Option.bind_some, Option.getD_some])
    | refine wo_nil ?_
    | (apply wo_po; apply mo_move; exact rfl; (first | exact trivial | exact rfl))
    | (apply wo_po; apply mo_assign; exact rfl; (first | exact trivial | exact rfl))
    | (apply wo_po; apply mo_extract; exact rfl; exact rfl; (first | exact trivial | exact rfl)))
  refine wo_call (.cons rfl .nil) trivial (mnew_no (n := 2048) (nopow_2048)) ?_
  rintro v1 L1 x1 ⟨rfl, rfl, rfl⟩
  repeat (first
    | refine we_seq ?_
    | (refine we_region _ rfl rfl ?_; simp only [opsOf, List.map_cons, List.map_nil, Option.map_none, Option.map_some, List.getElem?_toArray, List.getElem?_cons_zero, List.getElem?_cons_succ, Option.bind_some, Option.getD_some])
    | refine wo_nil ?_
    | (apply wo_po; apply mo_move; exact rfl; (first | exact trivial | exact rfl))
    | (apply wo_po; apply mo_assign; exact rfl; (first | exact trivial | exact rfl))
    | (apply wo_po; apply mo_extract; exact rfl; exact rfl; (first | exact trivial | exact rfl)))
  refine wo_call .nil rfl works_tr ?_
  rintro v' L' x' ⟨rfl, rfl, rfl⟩
  repeat (first
    | (apply wo_po; apply mo_bin; exact rfl; exact rfl; apply bin_eqlT; omega; (first | exact trivial | exact rfl))
    | refine wo_nil ?_
    | (apply wo_po; apply mo_move; exact rfl; (first | exact trivial | exact rfl))
    | (apply wo_po; apply mo_assign; exact rfl; (first | exact trivial | exact rfl))
    | (apply wo_po; apply mo_pickT; exact rfl; exact rfl; exact rfl; (first | exact trivial | exact rfl))
    | refine we_ret ?_)
  (first | refine at_ret1 (ex := .ret) Try.func4 Try.results4 hQ (.inl rfl) rfl ?_ | refine at_ret1 (ex := .normal) Try.func4 Try.results4 hQ (.inr rfl) rfl ?_)
  rfl
end
end Go.Proofs.Ytmkkanmkjfnpdaa
