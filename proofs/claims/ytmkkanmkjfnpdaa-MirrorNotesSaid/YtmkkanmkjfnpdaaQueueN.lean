/-
  queue.New.
-/
import Derived.Test.YtmkkanmkjfnpdaaQueue
set_option linter.unusedVariables false
set_option linter.unusedSimpArgs false
namespace Go.Proofs.Ytmkkanmkjfnpdaa
open Go Go.PB
attribute [local irreducible] Mo Bin Eql Tr Wo Ap Wle

section
variable {B : Hand} [Lets B] {L F : List HProp} {x : B.X}
/-- the words that a new queue has -/
def seqs (j : Nat) (w : Nat) : Nat := if 2 ≤ w ∧ w % 2 = 0 ∧ (w - 2) / 2 < j then (w - 2) / 2 else 0

/-- ahead of a round of New -/
def newInv (x : B.X) (r b n : Nat) (L : List HProp) : Inv (Nat × (Nat → Nat)) B.X where
  e := fun i => [(4, .pointer (some ⟨r, 0, none⟩)), (27, .int .i64 n), (28, .int .i64 i.1), (3, .int .i64 0)]
  L := fun i => wds (twoAddr r b) (2 * n + 2) [(r, 2, .slice (some ⟨b, 0, none⟩) n n)] i.2 :: L
  x := fun _ => x
  ok := fun i => i.1 ≤ n ∧ i.2 = seqs i.1

theorem new_tr {n k : Nat} (hn : n = 2 ^ k) (hk0 : 1 ≤ k) (hk : k ≤ 10) :
    Tr Try.prog B 35 [.int .i64 n] L x fun v L' x' => ∃ r b, v = .tuple #[.pointer (some ⟨r, 0, none⟩), .int .i64 0] ∧ r ≠ b ∧ L' = wds (twoAddr r b) (2 * n + 2) [(r, 2, .slice (some ⟨b, 0, none⟩) n n)] (seqs n) :: L ∧ x' = x := by
  have hle : n ≤ 1024 := by rw [hn]; exact pow_le hk
  have hpos : 2 ≤ n := by have := Nat.pow_le_pow_right (n := 2) (by omega) hk0; omega
  have hand : IntKind.i64.wrap (BitVec.ofInt IntKind.i64.bits (n : Int) &&& BitVec.ofInt IntKind.i64.bits ((n : Int) - 1)).toNat = 0 := by
    have e1 : ((n : Int) - 1) = ((n - 1 : Nat) : Int) := by omega
    have key : ∀ k ∈ List.range 11, (2 ^ k) &&& (2 ^ k - 1) = 0 := by decide +kernel
    rw [e1, and_i64 (by omega) (by omega), hn, key k (by simp; omega)]; rfl
  refine tr_of_body Try.func35 rfl Try.ntmps35 (by simp) fun um Q hQ => ?_
  simp only [argE, Nat.zero_add, Nat.reduceAdd]
  repeat (first
    | (apply wo_po; apply mo_bin; exact rfl; exact rfl; apply bin_and; exact hand; (first | exact trivial | exact rfl))
    | (apply wo_mo; apply mo_make; exact rfl; exact rfl; exact rfl; omega; omega; exact trivial)
    | (apply wo_po; apply mo_bin; exact rfl; exact rfl; apply bin_lssF; omega; (first | exact trivial | exact rfl))
    | (apply wo_po; apply mo_bin; exact rfl; exact rfl; apply bin_gtrF; omega; (first | exact trivial | exact rfl))
    | (apply wo_po; apply mo_bin; exact rfl; exact rfl; apply bin_neqF; omega; (first | exact trivial | exact rfl))
    | refine we_seq ?_
    | (refine we_region _ rfl rfl ?_; simp only [opsOf, List.map_cons, List.map_nil, Option.map_none, Option.map_some, List.getElem?_toArray, List.getElem?_cons_zero, List.getElem?_cons_succ, Option.bind_some, Option.getD_some])
    | refine wo_nil ?_
    | (apply wo_po; apply mo_move; exact rfl; (first | exact trivial | exact rfl))
    | (apply wo_po; apply mo_assign; exact rfl; (first | exact trivial | exact rfl))
    | (apply wo_po; apply mo_pickF; exact rfl; exact rfl; exact rfl; (first | exact trivial | exact rfl))
    | (apply wo_po; apply mo_bin; exact rfl; exact rfl; apply bin_sub; exact wrap_i64 (by omega) (by omega); (first | exact trivial | exact rfl))
    | (apply we_condF; exact rfl; (first | exact rfl | (simp <;> omega) | omega))
    | refine we_skip ?_)
  rintro v' L' ⟨b, rfl, rfl⟩
  repeat (first
    | (apply wo_po; apply mo_build (pv := [(2, _)]); exact rfl; exact .cons rfl .nil; exact rfl; exact trivial)
    | (apply wo_mo; apply mo_box; exact rfl; exact trivial))
  rintro v' L' ⟨r, rfl, rfl⟩
  refine wo_ent (arr r 0 [.int .u64 0, .int .u64 0, .slice (some ⟨b, 0, none⟩) n n] :: arr b 0 (zeros n [.int .u64 0, .int .u64 0]) :: L) .refl ?_
  refine wo_pure (p := r ≠ b) (fun h st => ?_) fun hne => ?_
  · obtain ⟨n', rfl⟩ : ∃ n', n = n' + 1 := ⟨n - 1, by omega⟩
    exact star_ne (ws := .int .u64 0 :: zeros n' [.int .u64 0, .int .u64 0]) st
  refine wo_star (wds (twoAddr r b) (2 * n + 2) [(r, 2, .slice (some ⟨b, 0, none⟩) n n)] (fun _ => 0) :: L) (fun h st => two_wds (fun i hi => zeros_two hi) st) ?_
  have hhdr : ∀ s : Nat → Nat, Rd (wds (twoAddr r b) (2 * n + 2) [(r, 2, .slice (some ⟨b, 0, none⟩) n n)] s :: L) r 2 (.slice (some ⟨b, 0, none⟩) n n) := fun s => Rd.of .here fun h hs => by
    obtain ⟨h1, h2, s1, hc, _⟩ := hs
    exact ⟨rfl, .inl (s1.o1 _ _ _ (hc.2 (r, 2, .slice (some ⟨b, 0, none⟩) n n) (List.mem_singleton.2 rfl)))⟩
  repeat (first
    | (apply wo_po; apply mo_load; exact rfl; exact hhdr _; exact trivial)
    | refine we_seq ?_
    | (refine we_region _ rfl rfl ?_; simp only [opsOf, List.map_cons, List.map_nil, Option.map_none, Option.map_some, List.getElem?_toArray, List.getElem?_cons_zero, List.getElem?_cons_succ, Option.bind_some, Option.getD_some])
    | refine wo_nil ?_
    | (apply wo_po; apply mo_move; exact rfl; (first | exact trivial | exact rfl))
    | (apply wo_po; apply mo_assign; exact rfl; (first | exact trivial | exact rfl))
    | (apply wo_po; apply mo_nilCheck; exact rfl; (first | exact trivial | exact rfl))
    | (apply wo_po; apply mo_fieldAddr; exact rfl; exact rfl; (first | exact Nat.zero_add _ | exact rfl); (first | exact trivial | exact rfl))
    | (apply wo_po; apply mo_len; exact rfl; (first | exact trivial | exact rfl))
    | refine we_block ?_)
  refine we_loopN (newInv x r b n L) (fun i => n - i.1) (0, fun _ => 0) ⟨by simp, by funext w; simp [seqs]⟩ ⟨rfl, rfl, rfl, rfl, trivial⟩ .refl rfl ?_
  rintro ⟨j, s⟩ ⟨hj, hs⟩
  dsimp only [newInv] at hj hs ⊢
  subst hs
  by_cases hc : j < n
  · repeat (first
      | (apply wo_po; apply mo_load; exact rfl; exact hhdr _; exact trivial)
      | (apply wo_po; apply mo_indexAddr (r := 2 * j); exact rfl; exact rfl; omega; omega; omega; exact trivial)
      | (apply wo_po; apply mo_bin; exact rfl; exact rfl; apply bin_lssT; omega; (first | exact trivial | exact rfl))
      | refine we_seq ?_
      | (refine we_region _ rfl rfl ?_; simp only [opsOf, List.map_cons, List.map_nil, Option.map_none, Option.map_some, List.getElem?_toArray, List.getElem?_cons_zero, List.getElem?_cons_succ, Option.bind_some, Option.getD_some])
      | refine wo_nil ?_
      | (apply wo_po; apply mo_move; exact rfl; (first | exact trivial | exact rfl))
      | (apply wo_po; apply mo_assign; exact rfl; (first | exact trivial | exact rfl))
      | (apply wo_po; apply mo_nilCheck; exact rfl; (first | exact trivial | exact rfl))
      | (apply wo_po; apply mo_fieldAddr; exact rfl; exact rfl; (first | exact Nat.zero_add _ | exact rfl); (first | exact trivial | exact rfl))
      | (apply wo_po; apply mo_conv; exact rfl; (first | exact wrap_i64 (by omega) (by omega) | exact wrap_u64 (by omega) (by omega)); (first | exact trivial | exact rfl))
      | (apply we_condT; exact rfl; (first | exact rfl | (simp <;> omega) | omega))
      | refine we_skip ?_
      | refine we_block ?_)
    refine wo_call (.cons rfl (.cons rfl .nil)) trivial (store_lone (wt_wds (two_apart hne _) .here (w := 2 + 2 * j) (by omega) (by rw [Nat.add_comm]; rfl) (n := j) (by omega))) ?_
    rintro v L' x' ⟨rfl, rfl, rfl⟩
    repeat (first
      | (refine we_region _ rfl rfl ?_; simp only [opsOf, List.map_cons, List.map_nil, Option.map_none, Option.map_some, List.getElem?_toArray, List.getElem?_cons_zero, List.getElem?_cons_succ, Option.bind_some, Option.getD_some])
      | refine wo_nil ?_
      | (apply wo_po; apply mo_move; exact rfl; (first | exact trivial | exact rfl))
      | (apply wo_po; apply mo_bin; exact rfl; exact rfl; apply bin_add; exact wrap_i64 (by omega) (by omega); (first | exact trivial | exact rfl)))
    refine at_round (I := newInv x' r b n L) (R := fun i' => n - i'.1 < n - j) (j + 1, upd (seqs j) (2 + 2 * j) j) (by simp; omega) ⟨by simp; omega, ?_⟩ ⟨rfl, rfl, rfl, rfl, trivial⟩ .refl rfl
    funext w
    simp only [upd, seqs]
    split <;> split <;> (try split) <;> omega
  · obtain rfl : j = n := by omega
    repeat (first
      | (apply wo_po; apply mo_bin; exact rfl; exact rfl; apply bin_lssF; omega; (first | exact trivial | exact rfl))
      | refine we_seq ?_
      | (refine we_region _ rfl rfl ?_; simp only [opsOf, List.map_cons, List.map_nil, Option.map_none, Option.map_some, List.getElem?_toArray, List.getElem?_cons_zero, List.getElem?_cons_succ, Option.bind_some, Option.getD_some])
      | refine wo_nil ?_
      | (apply wo_po; apply mo_move; exact rfl; (first | exact trivial | exact rfl))
      | (apply wo_po; apply mo_assign; exact rfl; (first | exact trivial | exact rfl))
      | (apply we_condF; exact rfl; (first | exact rfl | (simp <;> omega) | omega))
      | refine we_ret ?_
      | refine we_exit ?_)
    (first | refine at_ret2 (ex := .ret) Try.func35 Try.results35 hQ (.inl rfl) rfl rfl ?_ | refine at_ret2 (ex := .normal) Try.func35 Try.results35 hQ (.inr rfl) rfl rfl ?_)
    exact ⟨r, b, rfl, hne, rfl, rfl⟩
end
end Go.Proofs.Ytmkkanmkjfnpdaa
