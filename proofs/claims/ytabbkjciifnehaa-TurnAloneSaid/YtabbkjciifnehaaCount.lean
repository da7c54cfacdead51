/-
  turn.Count, against a plain model ('cntF', 'wrongF'); slices.Min.
-/
import Derived.Test.YtabbkjciifnehaaStr
import Derived.Test.YtabbkjciifnehaaWrong
set_option linter.unusedVariables false
set_option linter.unusedSimpArgs false
namespace Go.Proofs.Ytabbkjciifnehaa
open Go Go.PB
attribute [local irreducible] Mo Bin Eql Tr Wo Ap Wle

/-- so many steps of one thread among those of the threads ahead -/
def cntIn (sum all k : Nat) : Nat → Option (Nat × Nat)
  | 0 => some (sum, all)
  | r + 1 => if 16384 < all * (sum + 1) / (k + 1) then none else cntIn (sum + 1) (all * (sum + 1) / (k + 1)) (k + 1) r
def cntF (sum all : Nat) : List Nat → Option Nat
  | [] => some all
  | n :: l => (cntIn sum all 0 n).bind fun sa => cntF sa.1 sa.2 l
def overF (s : Int) : List Int → Bool
  | [] => false
  | n :: l => decide (16384 - s < n) || overF (s + n) l
/-- what is wrong with numbers of steps -/
def wrongF (l : List Int) : Int := if ∃ n ∈ l, n < 0 then 2 else if 16 < l.length then 4 else if overF 0 l = true then 4 else 0
def sumI (l : List Int) : Int := l.foldr (· + ·) 0

theorem overF_sum : ∀ (l : List Int) (s : Int), (∀ n ∈ l, 0 ≤ n) → s ≤ 16384 → overF s l = false → s + sumI l ≤ 16384
  | [], s, _, h, _ => by simpa [sumI] using h
  | n :: l, s, hn, h, ho => by
    simp only [overF, Bool.or_eq_false_iff, decide_eq_false_iff_not] at ho
    have := overF_sum l (s + n) (fun m hm => hn m (by simp [hm])) (by omega) ho.2
    simp only [sumI, List.foldr_cons] at this ⊢
    omega
theorem sumI_nonneg : ∀ (l : List Int), (∀ n ∈ l, 0 ≤ n) → 0 ≤ sumI l
  | [], _ => by simp [sumI]
  | n :: l, h => by
    have h1 := sumI_nonneg l fun m hm => h m (by simp [hm])
    have h2 := h n (by simp)
    simp only [sumI, List.foldr_cons] at h1 ⊢
    omega
theorem cntIn_sum {sum all : Nat} : ∀ {r k s a : Nat}, cntIn sum all k r = some (s, a) → s = sum + r := by
  intro r
  induction r generalizing sum all with
  | zero => intro k s a h; simp [cntIn] at h; omega
  | succ r ih =>
    intro k s a h
    simp only [cntIn] at h
    split at h
    · cases h
    · have := ih h; omega
theorem cntIn_le {sum all : Nat} (ha : all ≤ 16384) : ∀ {r k s a : Nat}, cntIn sum all k r = some (s, a) → a ≤ 16384 := by
  intro r
  induction r generalizing sum all with
  | zero => intro k s a h; simp [cntIn] at h; omega
  | succ r ih =>
    intro k s a h
    simp only [cntIn] at h
    split at h
    · cases h
    · exact ih (by omega) h

section
variable {B : Hand} [Lets B] {L : List HProp} {x : B.X} {a : Option Addr} {n c : Nat} {l : List Int}

abbrev ints (l : List Int) : List Value := l.map fun k => .int .i64 k

def minInv (sv : Value) (l : List Int) (L : List HProp) (x : B.X) : PB.Inv (Nat × Int) B.X where
  e := fun i => [(0, sv), (3, .int .i64 i.2), (4, .int .i64 (i.1 : Nat))]
  L := fun _ => L
  x := fun _ => x
  ok := fun i => i.1 ≤ l.length ∧ (∀ k v, k < i.1 → l[k]? = some v → i.2 ≤ v) ∧ i.2 ∈ l

theorem min_tr (hr : RdsO L a n (ints l)) (h0 : 0 < l.length) (hb : n ≤ 17592186043904) :
    Tr Try.prog B 51 [.slice a n c] L x fun v L' x' => (∃ m : Int, v = .int .i64 m ∧ (m < 0 ↔ ∃ k ∈ l, k < 0)) ∧ L' = L ∧ x' = x := by
  have hn : n = l.length := by have := hr.1; simpa using this
  subst hn
  obtain ⟨b, o, rfl, hrd⟩ := hr.rds h0
  have hri : ∀ i (h : i < l.length), Rd L b (o + i) (.int .i64 l[i]) := fun i h => hrd i _ (by rw [List.getElem?_map, List.getElem?_eq_getElem h]; rfl)
  refine tr_of_body Try.func51 rfl Try.ntmps51 (by simp) fun um Q _ hQ => ?_
  simp only [argE, Nat.zero_add, Nat.reduceAdd]
  repeat (first
    | (apply wo_po; apply mo_index1 (j := 0); exact rfl; exact rfl; omega; exact trivial)
    | (apply wo_po; apply mo_load; exact rfl; exact hri 0 h0; exact trivial)
    | (apply wo_po; apply mo_bin; exact rfl; exact rfl; apply bin_lssF; omega; (first | exact trivial | exact rfl))
    | refine we_seq ?_
    | (refine we_region _ rfl rfl ?_; simp only [opsOf, List.map_cons, List.map_nil, Option.map_none, Option.map_some, List.getElem?_toArray, List.getElem?_cons_zero, List.getElem?_cons_succ, Option.bind_some, Option.getD_some])
    | refine wo_nil ?_
    | (apply wo_po; apply mo_move; exact rfl; (first | exact trivial | exact rfl))
    | (apply wo_po; apply mo_assign; exact rfl; (first | exact trivial | exact rfl))
    | (apply wo_po; apply mo_len; exact rfl; (first | exact trivial | exact rfl))
    | (apply we_condF; exact rfl; (first | exact rfl | (simp <;> omega) | omega))
    | refine we_skip ?_
    | refine we_block ?_)
  refine we_loopN (minInv (.slice (some ⟨b, o, none⟩) l.length c) l L x) (fun i => l.length - i.1) (1, l[0]) ⟨by show 1 ≤ l.length; omega, fun k v hk hv => ?_, List.getElem_mem h0⟩ ⟨rfl, rfl, rfl, trivial⟩ .refl rfl ?_
  · obtain rfl : k = 0 := by simp only at hk; omega
    rw [List.getElem?_eq_getElem h0] at hv; cases hv; exact Int.le_refl _
  rintro ⟨i, m⟩ ⟨hi, hm1, hm2⟩
  simp only at hi hm1 hm2
  simp only [minInv]
  by_cases hlt : i < l.length
  · repeat (first
      | (apply wo_po; apply mo_index1; exact rfl; exact rfl; omega; (first | exact trivial | exact rfl))
      | (apply wo_po; apply mo_load; exact rfl; exact hri i hlt; exact trivial)
      | (apply wo_po; apply mo_bin; exact rfl; exact rfl; apply bin_lssT; omega; (first | exact trivial | exact rfl))
      | refine we_seq ?_
      | (refine we_region _ rfl rfl ?_; simp only [opsOf, List.map_cons, List.map_nil, Option.map_none, Option.map_some, List.getElem?_toArray, List.getElem?_cons_zero, List.getElem?_cons_succ, Option.bind_some, Option.getD_some])
      | refine wo_nil ?_
      | (apply wo_po; apply mo_move; exact rfl; (first | exact trivial | exact rfl))
      | (apply wo_po; apply mo_assign; exact rfl; (first | exact trivial | exact rfl))
      | (apply wo_po; apply mo_bin; exact rfl; exact rfl; apply bin_add; exact wrap_i64 (by omega) (by omega); (first | exact trivial | exact rfl))
      | (apply wo_po; apply mo_len; exact rfl; (first | exact trivial | exact rfl))
      | (apply wo_po; apply mo_min; exact rfl; exact rfl; (first | exact trivial | exact rfl))
      | (apply we_condT; exact rfl; (first | exact rfl | (simp <;> omega) | omega))
      | refine we_skip ?_
      | refine we_block ?_)
    refine at_round (I := minInv (.slice (some ⟨b, o, none⟩) l.length c) l L x) (R := fun j => l.length - j.1 < l.length - i) (i + 1, min m l[i]) (by show l.length - (i + 1) < l.length - i; omega) ⟨by show i + 1 ≤ l.length; omega, fun k v hk hv => ?_, ?_⟩ ⟨rfl, rfl, rfl, trivial⟩ .refl rfl
    · simp only at hk ⊢
      by_cases e : k = i
      · subst e; rw [List.getElem?_eq_getElem hlt] at hv; cases hv; exact Int.min_le_right _ _
      · exact Int.le_trans (Int.min_le_left _ _) (hm1 k v (by omega) hv)
    · simp only
      rcases Int.le_total m l[i] with h | h
      · rw [Int.min_eq_left h]; exact hm2
      · rw [Int.min_eq_right h]; exact List.getElem_mem hlt
  · repeat (first
      | (apply wo_po; apply mo_bin; exact rfl; exact rfl; apply bin_lssF; omega; (first | exact trivial | exact rfl))
      | refine we_seq ?_
      | (refine we_region _ rfl rfl ?_; simp only [opsOf, List.map_cons, List.map_nil, Option.map_none, Option.map_some, List.getElem?_toArray, List.getElem?_cons_zero, List.getElem?_cons_succ, Option.bind_some, Option.getD_some])
      | refine wo_nil ?_
      | (apply wo_po; apply mo_move; exact rfl; (first | exact trivial | exact rfl))
      | (apply wo_po; apply mo_assign; exact rfl; (first | exact trivial | exact rfl))
      | (apply wo_po; apply mo_len; exact rfl; (first | exact trivial | exact rfl))
      | (apply we_condF; exact rfl; (first | exact rfl | (simp <;> omega) | omega))
      | refine we_ret ?_
      | refine we_exit ?_)
    (first | refine at_ret1 (ex := .ret) Try.func51 Try.results51 hQ (.inl rfl) rfl ?_ | refine at_ret1 (ex := .normal) Try.func51 Try.results51 hQ (.inr rfl) rfl ?_)
    refine ⟨⟨m, rfl, fun h => ⟨m, hm2, h⟩, ?_⟩, rfl, rfl⟩
    rintro ⟨k, hk, hk0⟩
    obtain ⟨j, hj⟩ := List.mem_iff_getElem?.1 hk
    have := hm1 j k (by have := (List.getElem?_eq_some_iff.1 hj).1; omega) hj
    omega

/-- the sums -/
def sumInv (sv : Value) (l : List Int) (L : List HProp) (x : B.X) : PB.Inv (Nat × Int) B.X where
  e := fun i => [(0, sv), (4, .int .i64 i.2), (5, .int .i64 1), (22, sv), (23, .int .i64 (l.length : Nat)), (24, .int .i64 (i.1 : Nat))]
  L := fun _ => L
  x := fun _ => x
  ok := fun i => i.1 ≤ l.length ∧ 0 ≤ i.2 ∧ i.2 ≤ 16384 ∧ overF i.2 (l.drop i.1) = overF 0 l
/-- the orders -/
def cntInv (sv : Value) (l : List Int) (L : List HProp) (x : B.X) : PB.Inv (Nat × Nat × Nat) B.X where
  e := fun i => [(4, .int .i64 (i.2.1 : Nat)), (5, .int .i64 (i.2.2 : Nat)), (36, sv), (37, .int .i64 (l.length : Nat)), (38, .int .i64 (i.1 : Nat))]
  L := fun _ => L
  x := fun _ => x
  ok := fun i => i.1 ≤ l.length ∧ (i.2.1 : Int) + sumI (l.drop i.1) ≤ 16384 ∧ i.2.2 ≤ 16384 ∧ cntF i.2.1 i.2.2 ((l.drop i.1).map Int.toNat) = cntF 0 1 (l.map Int.toNat)
def cntInv2 (sv : Value) (m n j : Nat) (s0 a0 : Nat) (L : List HProp) (x : B.X) : PB.Inv (Nat × Nat × Nat) B.X where
  e := fun i => [(4, .int .i64 (i.2.1 : Nat)), (5, .int .i64 (i.2.2 : Nat)), (36, sv), (37, .int .i64 (m : Nat)), (38, .int .i64 (j : Nat)), (42, .int .i64 (n : Nat)), (43, .int .i64 (i.1 : Nat))]
  L := fun _ => L
  x := fun _ => x
  ok := fun i => i.1 ≤ n ∧ i.2.1 = s0 + i.1 ∧ i.2.2 ≤ 16384 ∧ cntIn i.2.1 i.2.2 i.1 (n - i.1) = cntIn s0 a0 0 n

/-- COUNT -/
theorem count_tr (hr : RdsO L a n (ints l)) (hb : n ≤ 17592186043904) :
    Tr Try.prog B 26 [.slice a n c] L x fun v L' x' =>
      v = .tuple #[.int .i64 (if wrongF l ≠ 0 then 0 else ((cntF 0 1 (l.map Int.toNat)).getD 0 : Nat)), .int .i64 (if wrongF l ≠ 0 then wrongF l else if (cntF 0 1 (l.map Int.toNat)).isSome = true then 0 else 20)] ∧ L' = L ∧ x' = x := by
  have hn : n = l.length := by have := hr.1; simpa using this
  subst hn
  have hri : ∀ i (h : i < l.length), ∃ b o, a = some ⟨b, o, none⟩ ∧ Rd L b (o + i) (.int .i64 l[i]) := fun i h => by
    obtain ⟨b, o, e, hrd⟩ := hr.rds (by omega)
    exact ⟨b, o, e, hrd i _ (by rw [List.getElem?_map, List.getElem?_eq_getElem h]; rfl)⟩
  by_cases hneg : ∃ k ∈ l, k < 0
  · have hw : wrongF l = 2 := by unfold wrongF; rw [if_pos hneg]
    have h0 : 0 < l.length := by obtain ⟨k, hk, _⟩ := hneg; exact List.length_pos_of_mem hk
    refine tr_of_body Try.func26 rfl Try.ntmps26 (by simp) fun um Q _ hQ => ?_
    simp only [argE, Nat.zero_add, Nat.reduceAdd]
    repeat (first
      | (apply wo_po; apply mo_bin; exact rfl; exact rfl; apply bin_gtrT; omega; (first | exact trivial | exact rfl))
      | refine we_seq ?_
      | (refine we_region _ rfl rfl ?_; simp only [opsOf, List.map_cons, List.map_nil, Option.map_none, Option.map_some, List.getElem?_toArray, List.getElem?_cons_zero, List.getElem?_cons_succ, Option.bind_some, Option.getD_some])
      | refine wo_nil ?_
      | (apply wo_po; apply mo_move; exact rfl; (first | exact trivial | exact rfl))
      | (apply wo_po; apply mo_assign; exact rfl; (first | exact trivial | exact rfl))
      | (apply wo_po; apply mo_len; exact rfl; (first | exact trivial | exact rfl)))
    refine wo_call (.cons rfl .nil) rfl (min_tr hr h0 hb) ?_
    rintro v' L' x' ⟨⟨m, rfl, hm⟩, rfl, rfl⟩
    have hm0 : m < 0 := hm.2 hneg
    repeat (first
      | (apply wo_po; apply mo_bin; exact rfl; exact rfl; apply bin_lssT; omega; (first | exact trivial | exact rfl))
      | refine we_seq ?_
      | (refine we_region _ rfl rfl ?_; simp only [opsOf, List.map_cons, List.map_nil, Option.map_none, Option.map_some, List.getElem?_toArray, List.getElem?_cons_zero, List.getElem?_cons_succ, Option.bind_some, Option.getD_some])
      | refine wo_nil ?_
      | (apply wo_po; apply mo_assign; exact rfl; (first | exact trivial | exact rfl))
      | (apply wo_po; apply mo_pickT; exact rfl; exact rfl; exact rfl; (first | exact trivial | exact rfl))
      | (apply we_condT; exact rfl; (first | exact rfl | (simp <;> omega) | omega))
      | refine we_ret ?_)
    (first | refine at_ret2 (ex := .ret) Try.func26 Try.results26 hQ (.inl rfl) rfl rfl ?_ | refine at_ret2 (ex := .normal) Try.func26 Try.results26 hQ (.inr rfl) rfl rfl ?_)
    rw [hw]
    exact ⟨rfl, rfl, rfl⟩
  have hpos : ∀ k ∈ l, 0 ≤ k := fun k hk => by
    by_cases h : 0 ≤ k
    · exact h
    · exact absurd ⟨k, hk, by omega⟩ hneg
  refine tr_of_body Try.func26 rfl Try.ntmps26 (by simp) fun um Q _ hQ => ?_
  simp only [argE, Nat.zero_add, Nat.reduceAdd]
  repeat (first
    | refine we_seq ?_
    | (refine we_region _ rfl rfl ?_; simp only [opsOf, List.map_cons, List.map_nil, Option.map_none, Option.map_some, List.getElem?_toArray, List.getElem?_cons_zero, List.getElem?_cons_succ, Option.bind_some, Option.getD_some])
    | refine wo_nil ?_
    | (apply wo_po; apply mo_move; exact rfl; (first | exact trivial | exact rfl))
    | (apply wo_po; apply mo_assign; exact rfl; (first | exact trivial | exact rfl))
    | (apply wo_po; apply mo_bin; exact rfl; exact rfl; exact bin_gtr; (first | exact trivial | exact rfl))
    | (apply wo_po; apply mo_len; exact rfl; (first | exact trivial | exact rfl)))
  have hnw : wrongF l = if 16 < l.length then 4 else if overF 0 l = true then 4 else 0 := by unfold wrongF; rw [if_neg hneg]
  let MI : PB.Inv Unit B.X := ⟨fun _ => [(0, .slice a l.length c), (2, .int .i64 0), (3, .int .i64 0), (4, .int .i64 0), (5, .int .i64 1), (18, .bool false)], fun _ => L, fun _ => x, fun _ => True⟩
  refine wo_join MI ?_ ?_
  · by_cases h0 : 0 < l.length
    · rw [show decide ((0 : Int) < ((l.length : Nat) : Int)) = true from decide_eq_true (by omega)]
      repeat (first
        | (apply wo_po; apply mo_move; exact rfl; (first | exact trivial | exact rfl)))
      refine wo_call (.cons rfl .nil) rfl (min_tr hr h0 hb) ?_
      rintro v' L' x' ⟨⟨m, rfl, hm⟩, rfl, rfl⟩
      have hm0 : ¬ m < 0 := fun h => hneg (hm.1 h)
      repeat (first
        | (apply wo_po; apply mo_bin; exact rfl; exact rfl; apply bin_lssF; omega; (first | exact trivial | exact rfl))
        | refine wo_nil ?_
        | (apply wo_po; apply mo_pickT; exact rfl; exact rfl; exact rfl; (first | exact trivial | exact rfl)))
      refine at_mid (I := MI) () trivial ?_ .refl rfl
      exact ⟨rfl, rfl, rfl, rfl, rfl, rfl, trivial⟩
    · rw [show decide ((0 : Int) < ((l.length : Nat) : Int)) = false from decide_eq_false (by omega)]
      repeat (first
        | refine wo_nil ?_
        | (apply wo_no; exact rfl)
        | (apply wo_po; apply mo_pickF; exact rfl; exact rfl; exact rfl; (first | exact trivial | exact rfl)))
      refine at_mid (I := MI) () trivial ?_ .refl rfl
      exact ⟨rfl, rfl, rfl, rfl, rfl, rfl, trivial⟩
  rintro ⟨⟩ _
  simp only [MI]
  by_cases h16 : 16 < l.length
  · repeat (first
      | (apply wo_po; apply mo_bin; exact rfl; exact rfl; apply bin_gtrT; omega; (first | exact trivial | exact rfl))
      | refine we_seq ?_
      | (refine we_region _ rfl rfl ?_; simp only [opsOf, List.map_cons, List.map_nil, Option.map_none, Option.map_some, List.getElem?_toArray, List.getElem?_cons_zero, List.getElem?_cons_succ, Option.bind_some, Option.getD_some])
      | refine wo_nil ?_
      | (apply wo_po; apply mo_move; exact rfl; (first | exact trivial | exact rfl))
      | (apply wo_po; apply mo_assign; exact rfl; (first | exact trivial | exact rfl))
      | (apply wo_po; apply mo_len; exact rfl; (first | exact trivial | exact rfl))
      | (apply we_condT; exact rfl; (first | exact rfl | (simp <;> omega) | omega))
      | (apply we_condF; exact rfl; (first | exact rfl | (simp <;> omega) | omega))
      | refine we_ret ?_
      | refine we_skip ?_)
    (first | refine at_ret2 (ex := .ret) Try.func26 Try.results26 hQ (.inl rfl) rfl rfl ?_ | refine at_ret2 (ex := .normal) Try.func26 Try.results26 hQ (.inr rfl) rfl rfl ?_)
    rw [hnw, if_pos h16]
    exact ⟨rfl, rfl, rfl⟩
  rw [if_neg h16] at hnw
  repeat (first
    | (apply wo_po; apply mo_bin; exact rfl; exact rfl; apply bin_gtrF; omega; (first | exact trivial | exact rfl))
    | refine we_seq ?_
    | (refine we_region _ rfl rfl ?_; simp only [opsOf, List.map_cons, List.map_nil, Option.map_none, Option.map_some, List.getElem?_toArray, List.getElem?_cons_zero, List.getElem?_cons_succ, Option.bind_some, Option.getD_some])
    | refine wo_nil ?_
    | (apply wo_po; apply mo_move; exact rfl; (first | exact trivial | exact rfl))
    | (apply wo_po; apply mo_len; exact rfl; (first | exact trivial | exact rfl))
    | (apply we_condF; exact rfl; (first | exact rfl | (simp <;> omega) | omega))
    | refine we_skip ?_
    | refine we_block ?_)
  refine we_loopN (sumInv (.slice a l.length c) l L x) (fun i => l.length - i.1) (0, 0) ⟨Nat.zero_le _, Int.le_refl _, by show (0 : Int) ≤ 16384; omega, rfl⟩ ⟨rfl, rfl, rfl, rfl, rfl, rfl, trivial⟩ .refl rfl ?_
  rintro ⟨i, s⟩ ⟨hi, hs0, hs1, hov⟩
  simp only at hi hs0 hs1 hov
  simp only [sumInv]
  by_cases hlt : i < l.length
  · obtain ⟨b, o, rfl, hrd⟩ := hri i hlt
    have hdr : l.drop i = l[i] :: l.drop (i + 1) := List.drop_eq_getElem_cons hlt
    have hli := hpos l[i] (List.getElem_mem hlt)
    rw [hdr] at hov
    simp only [overF] at hov
    by_cases hbig : 16384 - s < l[i]
    · repeat (first
        | (apply wo_po; apply mo_index1; exact rfl; exact rfl; omega; (first | exact trivial | exact rfl))
        | (apply wo_po; apply mo_load; exact rfl; exact hrd; exact trivial)
        | (apply wo_po; apply mo_bin; exact rfl; exact rfl; apply bin_lssT; omega; (first | exact trivial | exact rfl))
        | (apply wo_po; apply mo_bin; exact rfl; exact rfl; apply bin_gtrT; omega; (first | exact trivial | exact rfl))
        | refine we_seq ?_
        | (refine we_region _ rfl rfl ?_; simp only [opsOf, List.map_cons, List.map_nil, Option.map_none, Option.map_some, List.getElem?_toArray, List.getElem?_cons_zero, List.getElem?_cons_succ, Option.bind_some, Option.getD_some])
        | refine wo_nil ?_
        | (apply wo_po; apply mo_move; exact rfl; (first | exact trivial | exact rfl))
        | (apply wo_po; apply mo_assign; exact rfl; (first | exact trivial | exact rfl))
        | (apply wo_po; apply mo_bin; exact rfl; exact rfl; apply bin_sub; exact wrap_i64 (by omega) (by omega); (first | exact trivial | exact rfl))
        | (apply we_condT; exact rfl; (first | exact rfl | (simp <;> omega) | omega))
        | refine we_ret ?_
        | refine we_skip ?_
        | refine we_block ?_)
      (first | refine at_ret2 (ex := .ret) Try.func26 Try.results26 hQ (.inl rfl) rfl rfl ?_ | refine at_ret2 (ex := .normal) Try.func26 Try.results26 hQ (.inr rfl) rfl rfl ?_)
      have ho : overF 0 l = true := by rw [← hov]; simp [hbig]
      rw [ho] at hnw
      rw [show wrongF l = 4 from hnw]
      exact ⟨rfl, rfl, rfl⟩
    · repeat (first
        | (apply wo_po; apply mo_index1; exact rfl; exact rfl; omega; (first | exact trivial | exact rfl))
        | (apply wo_po; apply mo_load; exact rfl; exact hrd; exact trivial)
        | (apply wo_po; apply mo_bin; exact rfl; exact rfl; apply bin_lssT; omega; (first | exact trivial | exact rfl))
        | (apply wo_po; apply mo_bin; exact rfl; exact rfl; apply bin_gtrF; omega; (first | exact trivial | exact rfl))
        | refine we_seq ?_
        | (refine we_region _ rfl rfl ?_; simp only [opsOf, List.map_cons, List.map_nil, Option.map_none, Option.map_some, List.getElem?_toArray, List.getElem?_cons_zero, List.getElem?_cons_succ, Option.bind_some, Option.getD_some])
        | refine wo_nil ?_
        | (apply wo_po; apply mo_move; exact rfl; (first | exact trivial | exact rfl))
        | (apply wo_po; apply mo_assign; exact rfl; (first | exact trivial | exact rfl))
        | (apply wo_po; apply mo_bin; exact rfl; exact rfl; apply bin_add; exact wrap_i64 (by omega) (by omega); (first | exact trivial | exact rfl))
        | (apply wo_po; apply mo_bin; exact rfl; exact rfl; apply bin_sub; exact wrap_i64 (by omega) (by omega); (first | exact trivial | exact rfl))
        | (apply we_condT; exact rfl; (first | exact rfl | (simp <;> omega) | omega))
        | (apply we_condF; exact rfl; (first | exact rfl | (simp <;> omega) | omega))
        | refine we_skip ?_
        | refine we_block ?_)
      refine at_round (I := sumInv (.slice (some ⟨b, o, none⟩) l.length c) l L x) (R := fun j => l.length - j.1 < l.length - i) (i + 1, s + l[i]) (by show l.length - (i + 1) < l.length - i; omega) ⟨by show i + 1 ≤ l.length; omega, by show 0 ≤ s + l[i]; omega, by show s + l[i] ≤ 16384; omega, by rw [← hov]; simp [hbig]⟩ ⟨rfl, rfl, rfl, rfl, rfl, rfl, trivial⟩ .refl rfl
  obtain rfl : i = l.length := by omega
  rw [List.drop_length] at hov
  have hov0 : overF 0 l = false := hov.symm
  rw [hov0, if_neg (by decide)] at hnw
  have hsum := overF_sum l 0 hpos (by omega) hov0
  rw [hnw] at hQ
  simp only [ne_eq, not_true_eq_false, if_false] at hQ
  repeat (first
    | (apply wo_po; apply mo_bin; exact rfl; exact rfl; apply bin_lssF; omega; (first | exact trivial | exact rfl))
    | refine we_seq ?_
    | (refine we_region _ rfl rfl ?_; simp only [opsOf, List.map_cons, List.map_nil, Option.map_none, Option.map_some, List.getElem?_toArray, List.getElem?_cons_zero, List.getElem?_cons_succ, Option.bind_some, Option.getD_some])
    | refine wo_nil ?_
    | (apply wo_po; apply mo_move; exact rfl; (first | exact trivial | exact rfl))
    | (apply wo_po; apply mo_assign; exact rfl; (first | exact trivial | exact rfl))
    | (apply wo_po; apply mo_len; exact rfl; (first | exact trivial | exact rfl))
    | (apply we_condF; exact rfl; (first | exact rfl | (simp <;> omega) | omega))
    | refine we_block ?_
    | refine we_exit ?_)
  refine we_loopN (cntInv (.slice a l.length c) l L x) (fun i => l.length - i.1) (0, 0, 1) ⟨Nat.zero_le _, by simpa using hsum, by show 1 ≤ 16384; omega, rfl⟩ ⟨rfl, rfl, rfl, rfl, rfl, trivial⟩ .refl rfl ?_
  rintro ⟨i, s2, al⟩ ⟨hi, hs2, hal, hcn⟩
  simp only at hi hs2 hal hcn
  simp only [cntInv]
  by_cases hlt : i < l.length
  · obtain ⟨b, o, rfl, hrd⟩ := hri i hlt
    have hdr : l.drop i = l[i] :: l.drop (i + 1) := List.drop_eq_getElem_cons hlt
    obtain ⟨m, hm⟩ : ∃ m : Nat, l[i] = m := ⟨l[i].toNat, by have := hpos l[i] (List.getElem_mem hlt); omega⟩
    have hnn := sumI_nonneg (l.drop (i + 1)) fun n hn => hpos n (List.mem_of_mem_drop hn)
    rw [hdr, hm] at hcn hs2
    simp only [List.map_cons, Int.toNat_natCast, cntF, sumI, List.foldr_cons] at hcn hs2
    rw [show List.foldr (· + ·) 0 (l.drop (i + 1)) = sumI (l.drop (i + 1)) from rfl] at hs2
    rw [hm] at hrd
    repeat (first
      | (apply wo_po; apply mo_index1; exact rfl; exact rfl; omega; (first | exact trivial | exact rfl))
      | (apply wo_po; apply mo_load; exact rfl; exact hrd; exact trivial)
      | (apply wo_po; apply mo_bin; exact rfl; exact rfl; apply bin_lssT; omega; (first | exact trivial | exact rfl))
      | refine we_seq ?_
      | (refine we_region _ rfl rfl ?_; simp only [opsOf, List.map_cons, List.map_nil, Option.map_none, Option.map_some, List.getElem?_toArray, List.getElem?_cons_zero, List.getElem?_cons_succ, Option.bind_some, Option.getD_some])
      | refine wo_nil ?_
      | (apply wo_po; apply mo_move; exact rfl; (first | exact trivial | exact rfl))
      | (apply wo_po; apply mo_assign; exact rfl; (first | exact trivial | exact rfl))
      | (apply we_condT; exact rfl; (first | exact rfl | (simp <;> omega) | omega))
      | refine we_skip ?_
      | refine we_block ?_)
    refine we_loopN (cntInv2 (.slice (some ⟨b, o, none⟩) l.length c) l.length m i s2 al L x) (fun j => m - j.1) (0, s2, al) ⟨Nat.zero_le _, rfl, hal, rfl⟩ ⟨rfl, rfl, rfl, rfl, rfl, rfl, rfl, trivial⟩ .refl rfl ?_
    rintro ⟨k, s3, a3⟩ ⟨hk, hs3, ha3, hin⟩
    simp only at hk hs3 ha3 hin
    simp only [cntInv2]
    by_cases hkm : k < m
    · have hprod : a3 * (s3 + 1) ≤ 16384 * 16384 := Nat.mul_le_mul ha3 (by omega)
      have hdiv : a3 * (s3 + 1) / (k + 1) ≤ 16384 * 16384 := Nat.le_trans (Nat.div_le_self _ _) hprod
      have w1 : IntKind.i64.wrap ((a3 : Int) * ((s3 : Int) + 1)) = ((a3 * (s3 + 1) : Nat) : Int) := by
        rw [show ((a3 : Int) * ((s3 : Int) + 1)) = ((a3 * (s3 + 1) : Nat) : Int) by simp]
        exact wrap_i64 (by omega) (by omega)
      obtain ⟨q, hq⟩ : ∃ q, a3 * (s3 + 1) / (k + 1) = q := ⟨_, rfl⟩
      rw [hq] at hdiv
      have w2 : IntKind.i64.wrap (((a3 * (s3 + 1) : Nat) : Int).tdiv ((k : Int) + 1)) = (q : Int) := by
        rw [show ((a3 * (s3 + 1) : Nat) : Int).tdiv ((k : Int) + 1) = (q : Int) by rw [show ((k : Int) + 1) = ((k + 1 : Nat) : Int) by simp, ← Int.ofNat_tdiv, hq]]
        exact wrap_i64 (by omega) (by omega)
      have hstep : m - k = (m - (k + 1)) + 1 := by omega
      rw [hstep] at hin
      simp only [cntIn] at hin
      rw [hq] at hin
      repeat (first
        | (apply wo_po; apply mo_bin; exact rfl; exact rfl; apply bin_mul; exact w1; exact trivial)
        | (apply wo_po; apply mo_bin; exact rfl; exact rfl; apply bin_quo; omega; exact w2; exact trivial)
        | (apply wo_po; apply mo_bin; exact rfl; exact rfl; apply bin_lssT; omega; (first | exact trivial | exact rfl))
        | refine we_seq ?_
        | (refine we_region _ rfl rfl ?_; simp only [opsOf, List.map_cons, List.map_nil, Option.map_none, Option.map_some, List.getElem?_toArray, List.getElem?_cons_zero, List.getElem?_cons_succ, Option.bind_some, Option.getD_some])
        | refine wo_nil ?_
        | (apply wo_po; apply mo_move; exact rfl; (first | exact trivial | exact rfl))
        | (apply wo_po; apply mo_assign; exact rfl; (first | exact trivial | exact rfl))
        | (apply wo_po; apply mo_bin; exact rfl; exact rfl; exact bin_gtr; (first | exact trivial | exact rfl))
        | (apply wo_po; apply mo_bin; exact rfl; exact rfl; apply bin_add; exact wrap_i64 (by omega) (by omega); (first | exact trivial | exact rfl))
        | (apply we_condT; exact rfl; (first | exact rfl | (simp <;> omega) | omega))
        | refine we_skip ?_
        | refine we_block ?_)
      by_cases hbig : 16384 < q
      · rw [if_pos hbig] at hin
        rw [← hin] at hcn
        repeat (first
          | refine we_seq ?_
          | (refine we_region _ rfl rfl ?_; simp only [opsOf, List.map_cons, List.map_nil, Option.map_none, Option.map_some, List.getElem?_toArray, List.getElem?_cons_zero, List.getElem?_cons_succ, Option.bind_some, Option.getD_some])
          | refine wo_nil ?_
          | (apply wo_po; apply mo_assign; exact rfl; (first | exact trivial | exact rfl))
          | (apply we_condT; exact rfl; (first | exact rfl | (simp <;> omega) | omega))
          | refine we_ret ?_)
        (first | refine at_ret2 (ex := .ret) Try.func26 Try.results26 hQ (.inl rfl) rfl rfl ?_ | refine at_ret2 (ex := .normal) Try.func26 Try.results26 hQ (.inr rfl) rfl rfl ?_)
        rw [← hcn]
        exact ⟨rfl, rfl, rfl⟩
      · rw [if_neg hbig] at hin
        repeat (first
          | (refine we_region _ rfl rfl ?_; simp only [opsOf, List.map_cons, List.map_nil, Option.map_none, Option.map_some, List.getElem?_toArray, List.getElem?_cons_zero, List.getElem?_cons_succ, Option.bind_some, Option.getD_some])
          | refine wo_nil ?_
          | (apply wo_po; apply mo_move; exact rfl; (first | exact trivial | exact rfl))
          | (apply wo_po; apply mo_bin; exact rfl; exact rfl; apply bin_add; exact wrap_i64 (by omega) (by omega); (first | exact trivial | exact rfl))
          | (apply we_condF; exact rfl; (first | exact rfl | (simp <;> omega) | omega))
          | refine we_skip ?_)
        refine at_round (I := cntInv2 (.slice (some ⟨b, o, none⟩) l.length c) l.length m i s2 al L x) (R := fun j => m - j.1 < m - k) (k + 1, s3 + 1, q) (by show m - (k + 1) < m - k; omega) ⟨by show k + 1 ≤ m; omega, by show s3 + 1 = s2 + (k + 1); omega, by show q ≤ 16384; omega, hin⟩ ⟨by simp only [Int.natCast_add, Int.natCast_one]; exact rfl, rfl, rfl, rfl, rfl, rfl, rfl, trivial⟩ .refl rfl
    · obtain rfl : k = m := by omega
      rw [Nat.sub_self] at hin
      simp only [cntIn] at hin
      rw [← hin] at hcn
      repeat (first
        | (apply wo_po; apply mo_bin; exact rfl; exact rfl; apply bin_lssF; omega; (first | exact trivial | exact rfl))
        | refine we_seq ?_
        | (refine we_region _ rfl rfl ?_; simp only [opsOf, List.map_cons, List.map_nil, Option.map_none, Option.map_some, List.getElem?_toArray, List.getElem?_cons_zero, List.getElem?_cons_succ, Option.bind_some, Option.getD_some])
        | refine wo_nil ?_
        | (apply wo_po; apply mo_move; exact rfl; (first | exact trivial | exact rfl))
        | (apply wo_po; apply mo_bin; exact rfl; exact rfl; apply bin_add; exact wrap_i64 (by omega) (by omega); (first | exact trivial | exact rfl))
        | (apply we_condF; exact rfl; (first | exact rfl | (simp <;> omega) | omega))
        | refine we_exit ?_)
      refine at_round (I := cntInv (.slice (some ⟨b, o, none⟩) l.length c) l L x) (R := fun j => l.length - j.1 < l.length - i) (i + 1, s3, a3) (by show l.length - (i + 1) < l.length - i; omega) ⟨by show i + 1 ≤ l.length; omega, by show (s3 : Int) + sumI (l.drop (i + 1)) ≤ 16384; omega, ha3, hcn⟩ ⟨rfl, rfl, rfl, rfl, rfl, trivial⟩ .refl rfl
  · obtain rfl : i = l.length := by omega
    rw [List.drop_length] at hcn
    simp only [List.map_nil, cntF] at hcn
    repeat (first
      | (apply wo_po; apply mo_bin; exact rfl; exact rfl; apply bin_lssF; omega; (first | exact trivial | exact rfl))
      | refine we_seq ?_
      | (refine we_region _ rfl rfl ?_; simp only [opsOf, List.map_cons, List.map_nil, Option.map_none, Option.map_some, List.getElem?_toArray, List.getElem?_cons_zero, List.getElem?_cons_succ, Option.bind_some, Option.getD_some])
      | refine wo_nil ?_
      | (apply wo_po; apply mo_move; exact rfl; (first | exact trivial | exact rfl))
      | (apply wo_po; apply mo_assign; exact rfl; (first | exact trivial | exact rfl))
      | (apply we_condF; exact rfl; (first | exact rfl | (simp <;> omega) | omega))
      | refine we_ret ?_
      | refine we_exit ?_)
    (first | refine at_ret2 (ex := .ret) Try.func26 Try.results26 hQ (.inl rfl) rfl rfl ?_ | refine at_ret2 (ex := .normal) Try.func26 Try.results26 hQ (.inr rfl) rfl rfl ?_)
    rw [← hcn]
    exact ⟨rfl, rfl, rfl⟩
end
end Go.Proofs.Ytabbkjciifnehaa
