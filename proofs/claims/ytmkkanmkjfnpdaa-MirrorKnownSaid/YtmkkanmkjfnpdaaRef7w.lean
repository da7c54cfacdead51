/-
  patchbayref07: May, Words, World, the codes, Put, Take, Drain.
-/
import Derived.Test.YtmkkanmkjfnpdaaQueue7m
import Derived.Test.YtmkkanmkjfnpdaaCom
set_option linter.unusedVariables false
set_option linter.unusedSimpArgs false
namespace Go.Proofs.Ytmkkanmkjfnpdaa
open Go Go.PB
attribute [local irreducible] Mo Bin Eql Tr Wo Ap

section
variable {B : Hand} [Lets B] {L F : List HProp} {x : B.X} {n v : Nat}

/-- ahead of a round of May -/
def mayInv (x : B.X) (L : List HProp) (n : Int) : Inv Nat B.X where
  e := fun k => [(0, .int .i64 n), (3, .int .i64 ((2 ^ k : Nat) : Int))]
  L := fun _ => L
  x := fun _ => x
  ok := fun k => 1 ≤ k ∧ k ≤ 11 ∧ ∀ j, 1 ≤ j → j < k → n ≠ ((2 ^ j : Nat) : Int)

theorem may_tr {n : Int} {q : Bool} (hq : q = true ↔ ∃ k, 1 ≤ k ∧ k ≤ 10 ∧ n = ((2 ^ k : Nat) : Int)) :
    Tr Try.prog B 9 [.int .i64 n] L x fun v L' x' => v = .bool q ∧ L' = L ∧ x' = x := by
  refine tr_of_body Try.func9 rfl Try.ntmps9 (by simp) fun um Q hQ => ?_
  simp only [argE, Nat.zero_add, Nat.reduceAdd]
  repeat (first
    | refine we_seq ?_
    | (refine we_region _ rfl rfl ?_; simp only [opsOf, List.map_cons, List.map_nil, Option.map_none, Option.map_some, List.getElem?_toArray, List.getElem?_cons_zero, List.getElem?_cons_succ, Option.bind_some, Option.getD_some])
    | refine wo_nil ?_
    | (apply wo_po; apply mo_assign; exact rfl; (first | exact trivial | exact rfl))
    | refine we_block ?_)
  refine we_loopN (mayInv x L n) (fun k => 11 - k) 1 ⟨by omega, by omega, fun j hj hj2 => by omega⟩ ⟨rfl, rfl, trivial⟩ .refl rfl ?_
  rintro k ⟨hk1, hk, hno⟩
  dsimp only [mayInv] at hk hno ⊢
  obtain ⟨m, hm⟩ : ∃ m, 2 ^ k = m := ⟨_, rfl⟩
  have h2 : 2 ^ (k + 1) = 2 * m := by rw [← hm]; omega
  rw [hm]
  by_cases hc : k ≤ 10
  · have hle : m ≤ 1024 := by rw [← hm]; exact pow_le hc
    have hpos : 0 < m := by rw [← hm]; exact Nat.two_pow_pos k
    by_cases he : (m : Int) = n
    · repeat (first
        | (apply wo_po; apply mo_bin; exact rfl; exact rfl; apply bin_leqT; omega; (first | exact trivial | exact rfl))
        | (apply wo_po; apply mo_bin; exact rfl; exact rfl; apply bin_eqlT; omega; (first | exact trivial | exact rfl))
        | refine we_seq ?_
        | (refine we_region _ rfl rfl ?_; simp only [opsOf, List.map_cons, List.map_nil, Option.map_none, Option.map_some, List.getElem?_toArray, List.getElem?_cons_zero, List.getElem?_cons_succ, Option.bind_some, Option.getD_some])
        | refine wo_nil ?_
        | (apply wo_po; apply mo_move; exact rfl; (first | exact trivial | exact rfl))
        | (apply wo_po; apply mo_assign; exact rfl; (first | exact trivial | exact rfl))
        | (apply we_condT; exact rfl; (first | exact rfl | (simp <;> omega) | omega))
        | refine we_ret ?_
        | refine we_skip ?_
        | refine we_block ?_)
      (first | refine at_ret1 (ex := .ret) Try.func9 Try.results9 hQ (.inl rfl) rfl ?_ | refine at_ret1 (ex := .normal) Try.func9 Try.results9 hQ (.inr rfl) rfl ?_)
      have : q = true := hq.2 ⟨k, hk1, hc, by rw [hm, he]⟩
      exact ⟨by rw [this], rfl, rfl⟩
    · repeat (first
        | (apply wo_po; apply mo_bin; exact rfl; exact rfl; apply bin_mul; exact wrap_i64 (by omega) (by omega); exact trivial)
        | (apply wo_po; apply mo_bin; exact rfl; exact rfl; apply bin_leqT; omega; (first | exact trivial | exact rfl))
        | (apply wo_po; apply mo_bin; exact rfl; exact rfl; apply bin_eqlF; omega; (first | exact trivial | exact rfl))
        | refine we_seq ?_
        | (refine we_region _ rfl rfl ?_; simp only [opsOf, List.map_cons, List.map_nil, Option.map_none, Option.map_some, List.getElem?_toArray, List.getElem?_cons_zero, List.getElem?_cons_succ, Option.bind_some, Option.getD_some])
        | refine wo_nil ?_
        | (apply wo_po; apply mo_move; exact rfl; (first | exact trivial | exact rfl))
        | (apply wo_po; apply mo_assign; exact rfl; (first | exact trivial | exact rfl))
        | (apply we_condT; exact rfl; (first | exact rfl | (simp <;> omega) | omega))
        | (apply we_condF; exact rfl; (first | exact rfl | (simp <;> omega) | omega))
        | refine we_skip ?_
        | refine we_block ?_)
      refine at_round (I := mayInv x L n) (R := fun i' => 11 - i' < 11 - k) (k + 1) (by omega) ⟨by omega, by omega, fun j hj1 hj => ?_⟩ ⟨rfl, ?_, trivial⟩ .refl rfl
      · by_cases e : j = k
        · subst e; rw [hm]; exact fun h => he h.symm
        · exact hno j hj1 (by omega)
      · show some (Value.int .i64 (2 * (m : Int))) = some (Value.int .i64 ((2 ^ (k + 1) : Nat) : Int))
        rw [h2, Int.natCast_mul]
        rfl
  · have : k = 11 := by omega
    subst this
    have hm' : m = 2048 := hm.symm
    subst hm'
    repeat (first
      | (apply wo_po; apply mo_bin; exact rfl; exact rfl; apply bin_leqF; omega; (first | exact trivial | exact rfl))
      | refine we_seq ?_
      | (refine we_region _ rfl rfl ?_; simp only [opsOf, List.map_cons, List.map_nil, Option.map_none, Option.map_some, List.getElem?_toArray, List.getElem?_cons_zero, List.getElem?_cons_succ, Option.bind_some, Option.getD_some])
      | refine wo_nil ?_
      | (apply wo_po; apply mo_move; exact rfl; (first | exact trivial | exact rfl))
      | (apply wo_po; apply mo_assign; exact rfl; (first | exact trivial | exact rfl))
      | (apply we_condF; exact rfl; (first | exact rfl | (simp <;> omega) | omega))
      | refine we_ret ?_
      | refine we_exit ?_)
    (first | refine at_ret1 (ex := .ret) Try.func9 Try.results9 hQ (.inl rfl) rfl ?_ | refine at_ret1 (ex := .normal) Try.func9 Try.results9 hQ (.inr rfl) rfl ?_)
    have : q = false := by
      cases q with
      | false => rfl
      | true =>
        obtain ⟨j, hj1, hj, e⟩ := hq.1 rfl
        exact absurd e (hno j hj1 (by omega))
    exact ⟨by rw [this], rfl, rfl⟩

/-- the words of a queue without values -/
def qwords (n : Nat) : List Nat := 0 :: 0 :: ((List.range n).map fun i => [i, 0]).flatten

theorem qwords_len : ∀ n, (qwords n).length = 2 * n + 2 := by
  intro n
  have : ∀ n, ((List.range n).map fun i => [i, 0]).flatten.length = 2 * n := by
    intro n
    induction n with
    | zero => rfl
    | succ n ih => rw [List.range_succ, List.map_append, List.flatten_append, List.length_append, ih]; simp; omega
  simp only [qwords, List.length_cons, this]

theorem qwords_succ (n : Nat) : qwords (n + 1) = qwords n ++ [n, 0] := by
  simp [qwords, List.range_succ]

def wordsInv (x : B.X) (L : List HProp) (n : Nat) : Inv (Nat × Value) B.X where
  e := fun i => [(0, .int .i64 (n : Nat)), (3, i.2), (4, .int .i64 (i.1 : Nat))]
  L := fun i => vec 1 i.2 ((qwords i.1).map num) :: L
  x := fun _ => x
  ok := fun i => i.1 ≤ n

theorem words_tr (hn : n ≤ 1024) : Tr Try.prog B 36 [.int .i64 (n : Nat)] L x fun v L' x' => L' = vec 1 v ((qwords n).map num) :: L ∧ x' = x := by
  refine Tr.post (R := fun v L' x' => x' = x ∧ ∀ h, Star L' h → Star (vec 1 v ((qwords n).map num) :: L) h) ?_
    (by rintro v L' x' ⟨rfl, hs⟩; exact ⟨_, ⟨rfl, rfl⟩, hs⟩)
  refine tr_of_body Try.func36 rfl Try.ntmps36 (by simp) fun um Q hQ => ?_
  simp only [argE, Nat.zero_add, Nat.reduceAdd]
  repeat (first
    | (apply wo_mo; apply mo_buildSlice (sz := 1) (vs := [num 0, num 0]); exact rfl; exact .cons rfl (.cons rfl .nil); exact rfl; (repeat (first | exact List.forall_mem_nil _ | refine List.forall_mem_cons.2 ⟨rfl, ?_⟩)); omega; exact trivial)
    | refine we_seq ?_
    | (refine we_region _ rfl rfl ?_; simp only [opsOf, List.map_cons, List.map_nil, Option.map_none, Option.map_some, List.getElem?_toArray, List.getElem?_cons_zero, List.getElem?_cons_succ, Option.bind_some, Option.getD_some])
    | refine wo_nil ?_
    | (apply wo_po; apply mo_move; exact rfl; (first | exact trivial | exact rfl))
    | (apply wo_po; apply mo_assign; exact rfl; (first | exact trivial | exact rfl)))
  rintro v' L' ⟨sb, rfl, rfl⟩
  refine wo_star (vec 1 (.slice none 0 0) [] :: arr sb 0 [num 0, num 0] :: L) (fun h st => vec_nil st) ?_
  repeat (first
    | (apply wo_mo; apply mo_append (sz := 1) (new := [num 0, num 0]); exact rfl; exact rfl; exact rfl; exact rfl; exact .here; exact rfl; exact .inr ⟨_, _, rfl, Rds.all (.there .here)⟩; (repeat (first | exact List.forall_mem_nil _ | refine List.forall_mem_cons.2 ⟨rfl, ?_⟩)); (simp only [sliceLen]; omega); exact trivial))
  rintro v' L' rfl
  repeat (first
    | refine we_seq ?_
    | (refine we_region _ rfl rfl ?_; simp only [opsOf, List.map_cons, List.map_nil, Option.map_none, Option.map_some, List.getElem?_toArray, List.getElem?_cons_zero, List.getElem?_cons_succ, Option.bind_some, Option.getD_some])
    | refine wo_nil ?_
    | (apply wo_po; apply mo_assign; exact rfl; (first | exact trivial | exact rfl)))
  refine we_block ?_
  refine we_star (vec 1 v' ((qwords 0).map num) :: L) (fun h st => Ent.star (.take .here (.drop .refl)) st) ?_
  refine we_loopN (wordsInv x L n) (fun i => n - i.1) (0, v') (by show 0 ≤ n; omega) ⟨rfl, rfl, rfl, trivial⟩ .refl rfl ?_
  rintro ⟨i, sv⟩ hi
  dsimp only [wordsInv] at hi ⊢
  refine we_pure (of_has .here (vec_shape (by omega))) ?_
  rintro ⟨sa, sn, sc, rfl, hlen, _⟩
  have hsn : sn = 2 * i + 2 := by rw [List.length_map, qwords_len] at hlen; omega
  by_cases hc : i < n
  · repeat (first
      | (apply wo_mo; apply mo_buildSlice (sz := 1) (vs := [num i, num 0]); exact rfl; exact .cons rfl (.cons rfl .nil); exact rfl; (repeat (first | exact List.forall_mem_nil _ | refine List.forall_mem_cons.2 ⟨rfl, ?_⟩)); omega; exact trivial)
      | (apply wo_po; apply mo_bin; exact rfl; exact rfl; apply bin_lssT; omega; (first | exact trivial | exact rfl))
      | refine we_seq ?_
      | (refine we_region _ rfl rfl ?_; simp only [opsOf, List.map_cons, List.map_nil, Option.map_none, Option.map_some, List.getElem?_toArray, List.getElem?_cons_zero, List.getElem?_cons_succ, Option.bind_some, Option.getD_some])
      | refine wo_nil ?_
      | (apply wo_po; apply mo_move; exact rfl; (first | exact trivial | exact rfl))
      | (apply wo_po; apply mo_conv; exact rfl; (first | exact wrap_i64 (by omega) (by omega) | exact wrap_u64 (by omega) (by omega)); (first | exact trivial | exact rfl))
      | (apply we_condT; exact rfl; (first | exact rfl | (simp <;> omega) | omega))
      | refine we_skip ?_
      | refine we_block ?_)
    rintro v' L' ⟨sb, rfl, rfl⟩
    repeat (first
      | (apply wo_mo; apply mo_append (sz := 1) (new := [num i, num 0]); exact rfl; exact rfl; exact rfl; exact rfl; exact (.there .here); exact rfl; exact .inr ⟨_, _, rfl, Rds.all .here⟩; (repeat (first | exact List.forall_mem_nil _ | refine List.forall_mem_cons.2 ⟨rfl, ?_⟩)); (simp only [sliceLen]; omega); exact trivial))
    rintro v' L' rfl
    repeat (first
      | (refine we_region _ rfl rfl ?_; simp only [opsOf, List.map_cons, List.map_nil, Option.map_none, Option.map_some, List.getElem?_toArray, List.getElem?_cons_zero, List.getElem?_cons_succ, Option.bind_some, Option.getD_some])
      | refine wo_nil ?_
      | (apply wo_po; apply mo_move; exact rfl; (first | exact trivial | exact rfl))
      | (apply wo_po; apply mo_assign; exact rfl; (first | exact trivial | exact rfl))
      | (apply wo_po; apply mo_bin; exact rfl; exact rfl; apply bin_add; exact wrap_i64 (by omega) (by omega); (first | exact trivial | exact rfl)))
    refine at_roundS (I := wordsInv _ L n) (R := fun i' => n - i'.1 < n - i) (i + 1, v') (by show n - (i + 1) < n - i; omega) (by show i + 1 ≤ n; omega) ⟨rfl, rfl, rfl, trivial⟩ (fun h st => ?_) rfl
    show Star (vec 1 v' ((qwords (i + 1)).map num) :: L) h
    rw [qwords_succ, List.map_append]
    exact Ent.star (.take .here (.drop .refl)) st
  · obtain rfl : i = n := by omega
    repeat (first
      | (apply wo_po; apply mo_bin; exact rfl; exact rfl; apply bin_lssF; omega; (first | exact trivial | exact rfl))
      | refine we_seq ?_
      | (refine we_region _ rfl rfl ?_; simp only [opsOf, List.map_cons, List.map_nil, Option.map_none, Option.map_some, List.getElem?_toArray, List.getElem?_cons_zero, List.getElem?_cons_succ, Option.bind_some, Option.getD_some])
      | refine wo_nil ?_
      | (apply wo_po; apply mo_move; exact rfl; (first | exact trivial | exact rfl))
      | (apply wo_po; apply mo_assign; exact rfl; (first | exact trivial | exact rfl))
      | (apply we_condF; exact rfl; (first | exact rfl | (simp <;> omega) | omega))
      | refine we_ret ?_
      | refine we_exit ?_)
    (first | refine at_ret1 (ex := .ret) Try.func36 Try.results36 hQ (.inl rfl) rfl ?_ | refine at_ret1 (ex := .normal) Try.func36 Try.results36 hQ (.inr rfl) rfl ?_)
    exact ⟨rfl, fun h st => st⟩

set_option maxHeartbeats 8000000 in
theorem put_code_tr {on a : Nat} (h1 : 1 ≤ n) (hn : n ≤ 1024) (ho : on ≤ 1000) (ha : a ≤ 1000) : Tr Try.prog B 95 [.int .i64 (on : Nat), .int .i64 (n : Nat), .int .i64 (a : Nat), .int .i64 0, .int .i64 1] L x fun v L' x' => ∃ kb, v = .slice (some ⟨kb, 0, none⟩) 17 17 ∧ L' = arr kb 0 ((Mach.qputCode on n a).map inC).flatten :: L ∧ x' = x := by
  have hsub : IntKind.i64.wrap ((n : Int) - 1) = ((n - 1 : Nat) : Int) := (wrap_i64 (by omega) (by omega)).trans (by omega)
  have h9 : IntKind.u64.wrap ((a : Int) + 9) = ((a + 9 : Nat) : Int) := (wrap_u64 (by omega) (by omega)).trans (by omega)
  have h16 : IntKind.u64.wrap ((a : Int) + 16) = ((a + 16 : Nat) : Int) := (wrap_u64 (by omega) (by omega)).trans (by omega)
  have h17 : IntKind.u64.wrap ((a : Int) + 17) = ((a + 17 : Nat) : Int) := (wrap_u64 (by omega) (by omega)).trans (by omega)
  refine tr_of_body Try.func95 rfl Try.ntmps95 (by simp) fun um Q hQ => ?_
  simp only [argE, Nat.zero_add, Nat.reduceAdd]
  repeat (first
    | (apply wo_po; apply mo_bin; exact rfl; exact rfl; apply bin_sub; exact hsub; exact trivial)
    | (apply wo_po; apply mo_bin; exact rfl; exact rfl; apply bin_add; (first | exact h9 | exact h16 | exact h17); exact trivial)
    | (apply wo_po; apply mo_buildV; (repeat (first | exact EvL.nil | apply EvL.cons rfl)); exact rfl; exact trivial)
    | (apply wo_mo; apply mo_buildSlice (sz := 7); exact rfl; (repeat (first | exact EvL.nil | apply EvL.cons rfl)); exact rfl; (repeat (first | exact List.forall_mem_nil _ | refine List.forall_mem_cons.2 ⟨rfl, ?_⟩)); omega; exact trivial)
    | refine we_seq ?_
    | (refine we_region _ rfl rfl ?_; simp only [opsOf, List.map_cons, List.map_nil, Option.map_none, Option.map_some, List.getElem?_toArray, List.getElem?_cons_zero, List.getElem?_cons_succ, Option.bind_some, Option.getD_some])
    | refine wo_nil ?_
    | (apply wo_po; apply mo_move; exact rfl; (first | exact trivial | exact rfl))
    | (apply wo_po; apply mo_assign; exact rfl; (first | exact trivial | exact rfl))
    | (apply wo_po; apply mo_conv; exact rfl; (first | exact wrap_i64 (by omega) (by omega) | exact wrap_u64 (by omega) (by omega)); (first | exact trivial | exact rfl)))
  rintro v' L' ⟨kb, rfl, rfl⟩
  repeat (first
    | refine wo_nil ?_
    | (apply wo_po; apply mo_assign; exact rfl; (first | exact trivial | exact rfl))
    | refine we_ret ?_)
  (first | refine at_ret1 (ex := .ret) Try.func95 Try.results95 hQ (.inl rfl) rfl ?_ | refine at_ret1 (ex := .normal) Try.func95 Try.results95 hQ (.inr rfl) rfl ?_)
  exact ⟨kb, rfl, rfl, rfl⟩

set_option maxHeartbeats 8000000 in
theorem take_code_tr {on a : Nat} (h1 : 1 ≤ n) (hn : n ≤ 1024) (ho : on ≤ 1000) (ha : a ≤ 1000) : Tr Try.prog B 64 [.int .i64 (on : Nat), .int .i64 (n : Nat), .int .i64 (a : Nat), .int .i64 0, .int .i64 1] L x fun v L' x' => ∃ kb, v = .slice (some ⟨kb, 0, none⟩) 19 19 ∧ L' = arr kb 0 ((Mach.qtakeCode on n a).map inC).flatten :: L ∧ x' = x := by
  have hsub : IntKind.i64.wrap ((n : Int) - 1) = ((n - 1 : Nat) : Int) := (wrap_i64 (by omega) (by omega)).trans (by omega)
  have h9 : IntKind.u64.wrap ((a : Int) + 10) = ((a + 10 : Nat) : Int) := (wrap_u64 (by omega) (by omega)).trans (by omega)
  have h16 : IntKind.u64.wrap ((a : Int) + 17) = ((a + 17 : Nat) : Int) := (wrap_u64 (by omega) (by omega)).trans (by omega)
  have h17 : IntKind.u64.wrap ((a : Int) + 19) = ((a + 19 : Nat) : Int) := (wrap_u64 (by omega) (by omega)).trans (by omega)
  refine tr_of_body Try.func64 rfl Try.ntmps64 (by simp) fun um Q hQ => ?_
  simp only [argE, Nat.zero_add, Nat.reduceAdd]
  repeat (first
    | (apply wo_po; apply mo_bin; exact rfl; exact rfl; apply bin_sub; exact hsub; exact trivial)
    | (apply wo_po; apply mo_bin; exact rfl; exact rfl; apply bin_add; (first | exact h9 | exact h16 | exact h17); exact trivial)
    | (apply wo_po; apply mo_buildV; (repeat (first | exact EvL.nil | apply EvL.cons rfl)); exact rfl; exact trivial)
    | (apply wo_mo; apply mo_buildSlice (sz := 7); exact rfl; (repeat (first | exact EvL.nil | apply EvL.cons rfl)); exact rfl; (repeat (first | exact List.forall_mem_nil _ | refine List.forall_mem_cons.2 ⟨rfl, ?_⟩)); omega; exact trivial)
    | refine we_seq ?_
    | (refine we_region _ rfl rfl ?_; simp only [opsOf, List.map_cons, List.map_nil, Option.map_none, Option.map_some, List.getElem?_toArray, List.getElem?_cons_zero, List.getElem?_cons_succ, Option.bind_some, Option.getD_some])
    | refine wo_nil ?_
    | (apply wo_po; apply mo_move; exact rfl; (first | exact trivial | exact rfl))
    | (apply wo_po; apply mo_assign; exact rfl; (first | exact trivial | exact rfl))
    | (apply wo_po; apply mo_conv; exact rfl; (first | exact wrap_i64 (by omega) (by omega) | exact wrap_u64 (by omega) (by omega)); (first | exact trivial | exact rfl)))
  rintro v' L' ⟨kb, rfl, rfl⟩
  repeat (first
    | refine wo_nil ?_
    | (apply wo_po; apply mo_assign; exact rfl; (first | exact trivial | exact rfl))
    | refine we_ret ?_)
  (first | refine at_ret1 (ex := .ret) Try.func64 Try.results64 hQ (.inl rfl) rfl ?_ | refine at_ret1 (ex := .normal) Try.func64 Try.results64 hQ (.inr rfl) rfl ?_)
  exact ⟨kb, rfl, rfl, rfl⟩

end
end Go.Proofs.Ytmkkanmkjfnpdaa
