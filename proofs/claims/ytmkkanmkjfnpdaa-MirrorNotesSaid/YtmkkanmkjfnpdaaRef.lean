/-
  SMALL FUNCTIONS OF THE DOCUMENT's ANSWER (package patchbayref00): Within.
-/
import Derived.Test.YtmkkanmkjfnpdaaTy
import Derived.Test.YtmkkanmkjfnpdaaFo
set_option linter.unusedVariables false
set_option linter.unusedSimpArgs false
namespace Go.Proofs.Ytmkkanmkjfnpdaa
open Go Go.PB
attribute [local irreducible] Mo Bin Eql Tr Wo

variable {B : Hand} [Lets B] {L : List HProp} {x : B.X}
theorem tmod_emod {n k : Int} (hk : 0 < k) : (n.tmod k < 0 → n.tmod k + k = n % k) ∧ (¬ n.tmod k < 0 → n.tmod k = n % k) := by
  have h1 := Int.emod_nonneg n (by omega : k ≠ 0)
  have h2 := Int.emod_lt_of_pos n hk
  have h3 : n.tmod k = n % k - ((if 0 ≤ n ∨ k ∣ n then 0 else k.natAbs : Nat) : Int) := Int.tmod_eq_emod
  have h4 := Int.tmod_lt_of_pos n hk
  split at h3
  · constructor <;> intro h5 <;> omega
  · rename_i hn
    have h6 : n % k ≠ 0 := fun h => hn (.inr (Int.dvd_of_emod_eq_zero h))
    constructor <;> intro h5 <;> omega

theorem within_tr {n k : Int} (hn : -9223372036854775808 ≤ n ∧ n ≤ 9223372036854775807) (hk : 0 < k ∧ k ≤ 1000000) :
    Tr Try.prog B 37 [.int .i64 n, .int .i64 k] L x fun v L' x' => v = .int .i64 (n % k) ∧ L' = L ∧ x' = x := by
  have ht := tmod_emod (n := n) hk.1
  have h1 := Int.emod_nonneg n (by omega : k ≠ 0)
  have h2 := Int.emod_lt_of_pos n hk.1
  have hlt := Int.tmod_lt_of_pos n hk.1
  obtain ⟨m, hm⟩ : ∃ m, n % k = m := ⟨_, rfl⟩
  obtain ⟨t, hte⟩ : ∃ t, n.tmod k = t := ⟨_, rfl⟩
  rw [hm] at ht h1 h2
  rw [hte] at ht hlt
  rw [hm]
  by_cases hneg : t < 0
  · have e := ht.1 hneg
    refine tr_of_body Try.func37 rfl Try.ntmps37 (by simp) fun um Q hQ => ?_
    simp only [argE, Nat.zero_add, Nat.reduceAdd]
    repeat (first
      | (apply wo_po; apply mo_bin; exact rfl; exact rfl; apply bin_rem; omega; exact hte; exact trivial)
      | (apply wo_po; apply mo_bin; exact rfl; exact rfl; apply bin_lssT; omega; (first | exact trivial | exact rfl))
      | refine we_seq ?_
      | (refine we_region _ rfl rfl ?_; simp only [opsOf, List.map_cons, List.map_nil, Option.map_none, Option.map_some, List.getElem?_toArray, List.getElem?_cons_zero, List.getElem?_cons_succ, Option.bind_some, Option.getD_some])
      | refine wo_nil ?_
      | (apply wo_po; apply mo_move; exact rfl; (first | exact trivial | exact rfl))
      | (apply wo_po; apply mo_assign; exact rfl; (first | exact trivial | exact rfl))
      | (apply wo_po; apply mo_bin; exact rfl; exact rfl; apply bin_add; exact wrap_i64 (by omega) (by omega); (first | exact trivial | exact rfl))
      | (apply we_condT; exact rfl; (first | exact rfl | (simp <;> omega) | omega))
      | refine we_ret ?_)
    (first | refine at_ret1 (ex := .ret) Try.func37 Try.results37 hQ (.inl rfl) rfl ?_ | refine at_ret1 (ex := .normal) Try.func37 Try.results37 hQ (.inr rfl) rfl ?_)
    exact ⟨by rw [e], rfl, rfl⟩
  · have e := ht.2 hneg
    refine tr_of_body Try.func37 rfl Try.ntmps37 (by simp) fun um Q hQ => ?_
    simp only [argE, Nat.zero_add, Nat.reduceAdd]
    repeat (first
      | (apply wo_po; apply mo_bin; exact rfl; exact rfl; apply bin_rem; omega; exact hte; exact trivial)
      | (apply wo_po; apply mo_bin; exact rfl; exact rfl; apply bin_lssF; omega; (first | exact trivial | exact rfl))
      | refine we_seq ?_
      | (refine we_region _ rfl rfl ?_; simp only [opsOf, List.map_cons, List.map_nil, Option.map_none, Option.map_some, List.getElem?_toArray, List.getElem?_cons_zero, List.getElem?_cons_succ, Option.bind_some, Option.getD_some])
      | refine wo_nil ?_
      | (apply wo_po; apply mo_move; exact rfl; (first | exact trivial | exact rfl))
      | (apply wo_po; apply mo_assign; exact rfl; (first | exact trivial | exact rfl))
      | (apply we_condF; exact rfl; (first | exact rfl | (simp <;> omega) | omega))
      | refine we_ret ?_
      | refine we_skip ?_)
    (first | refine at_ret1 (ex := .ret) Try.func37 Try.results37 hQ (.inl rfl) rfl ?_ | refine at_ret1 (ex := .normal) Try.func37 Try.results37 hQ (.inr rfl) rfl ?_)
    exact ⟨by rw [e], rfl, rfl⟩

/-- ahead of a round of SameWords -/
def sameInv (x : B.X) (L : List HProp) (a a' : Option Addr) (n c c' : Nat) (l l' : List Nat) : Inv Nat B.X where
  e := fun i => [(0, .slice a n c), (1, .slice a' n c'), (5, .int .i64 i)]
  L := fun _ => L
  x := fun _ => x
  ok := fun i => i ≤ n ∧ l.take i = l'.take i

theorem same_words_tr {a a' : Option Addr} {n n' c c' : Nat} {l l' : List Nat} (hn : n = l.length) (hn' : n' = l'.length) (hl : n < 1000000000) (h1 : RdV L a l) (h2 : RdV L a' l') :
    Tr Try.prog B 16 [.slice a n c, .slice a' n' c'] L x fun v L' x' => v = .bool (decide (l = l')) ∧ L' = L ∧ x' = x := by
  by_cases hlen : n = n'
  · subst hlen
    refine tr_of_body Try.func16 rfl Try.ntmps16 (by simp) fun um Q hQ => ?_
    simp only [argE, Nat.zero_add, Nat.reduceAdd]
    repeat (first
      | (apply wo_po; apply mo_bin; exact rfl; exact rfl; apply bin_neqF; omega; (first | exact trivial | exact rfl))
      | refine we_seq ?_
      | (refine we_region _ rfl rfl ?_; simp only [opsOf, List.map_cons, List.map_nil, Option.map_none, Option.map_some, List.getElem?_toArray, List.getElem?_cons_zero, List.getElem?_cons_succ, Option.bind_some, Option.getD_some])
      | refine wo_nil ?_
      | (apply wo_po; apply mo_move; exact rfl; (first | exact trivial | exact rfl))
      | (apply wo_po; apply mo_assign; exact rfl; (first | exact trivial | exact rfl))
      | (apply wo_po; apply mo_len; exact rfl; (first | exact trivial | exact rfl))
      | (apply we_condF; exact rfl; (first | exact rfl | (simp <;> omega) | omega))
      | refine we_skip ?_
      | refine we_block ?_)
    refine we_loopN (sameInv x L a a' n c c' l l') (fun i => n - i) 0 ⟨by omega, by simp⟩ ⟨rfl, rfl, rfl, trivial⟩ .refl rfl ?_
    rintro i ⟨hi, ht⟩
    dsimp only [sameInv] at hi ht ⊢
    by_cases hc : i < n
    · obtain ⟨v, hv⟩ : ∃ v, l[i]? = some v := ⟨l[i]'(by omega), by simp⟩
      obtain ⟨v', hv'⟩ : ∃ v, l'[i]? = some v := ⟨l'[i]'(by omega), by simp⟩
      obtain ⟨b1, o1, rfl, r1⟩ := h1 i v hv
      obtain ⟨b2, o2, rfl, r2⟩ := h2 i v' hv'
      by_cases he : v = v'
      · have he' : (v : Int) = v' := by omega
        repeat (first
          | (apply wo_po; apply mo_bin; exact rfl; exact rfl; apply bin_lssT; omega; (first | exact trivial | exact rfl))
          | refine we_seq ?_
          | (refine we_region _ rfl rfl ?_; simp only [opsOf, List.map_cons, List.map_nil, Option.map_none, Option.map_some, List.getElem?_toArray, List.getElem?_cons_zero, List.getElem?_cons_succ, Option.bind_some, Option.getD_some])
          | refine wo_nil ?_
          | (apply wo_po; apply mo_move; exact rfl; (first | exact trivial | exact rfl))
          | (apply wo_po; apply mo_len; exact rfl; (first | exact trivial | exact rfl))
          | (apply we_condT; exact rfl; (first | exact rfl | (simp <;> omega) | omega))
          | refine we_skip ?_
          | refine we_block ?_)
        refine we_draw [0, 1, 2, 3, 4, 5, 6, 7, 8] (by kernel_rfl) ?_
        repeat (first
          | (apply ap_pure; exact rfl; exact rfl; exact trivial; intro L; apply mo_indexAddr (r := o1 + i); exact rfl; exact rfl; omega; omega; omega)
          | (apply ap_pure; exact rfl; exact rfl; exact trivial; intro L; apply mo_indexAddr (r := o2 + i); exact rfl; exact rfl; omega; omega; omega)
          | (apply ap_read; exact rfl; exact rfl; exact trivial; apply mo_load; exact rfl; exact r1)
          | (apply ap_read; exact rfl; exact rfl; exact trivial; apply mo_load; exact rfl; exact r2)
          | (apply ap_pure; exact rfl; exact rfl; exact trivial; intro L; apply mo_bin; exact rfl; exact rfl; apply bin_neqF; omega)
          | (apply ap_pure; exact rfl; exact rfl; (first | exact trivial | exact rfl); intro L; apply mo_move; exact rfl)
          | refine ap_end ?_)
        repeat (first
          | (refine we_region _ rfl rfl ?_; simp only [opsOf, List.map_cons, List.map_nil, Option.map_none, Option.map_some, List.getElem?_toArray, List.getElem?_cons_zero, List.getElem?_cons_succ, Option.bind_some, Option.getD_some])
          | refine wo_nil ?_
          | (apply wo_po; apply mo_move; exact rfl; (first | exact trivial | exact rfl))
          | (apply wo_po; apply mo_assign; exact rfl; (first | exact trivial | exact rfl))
          | (apply wo_po; apply mo_bin; exact rfl; exact rfl; apply bin_add; exact wrap_i64 (by omega) (by omega); (first | exact trivial | exact rfl))
          | (apply we_condF; exact rfl; (first | exact rfl | (simp <;> omega) | omega))
          | refine we_skip ?_)
        refine at_round (I := sameInv x L _ _ n c c' l l') (R := fun i' => n - i' < n - i) (i + 1) (by omega) ⟨by omega, ?_⟩ ⟨rfl, rfl, rfl, trivial⟩ .refl rfl
        rw [List.take_add_one, List.take_add_one, ht, hv, hv', he]
      · have he' : ¬ (v : Int) = v' := by omega
        repeat (first
          | (apply wo_po; apply mo_bin; exact rfl; exact rfl; apply bin_lssT; omega; (first | exact trivial | exact rfl))
          | refine we_seq ?_
          | (refine we_region _ rfl rfl ?_; simp only [opsOf, List.map_cons, List.map_nil, Option.map_none, Option.map_some, List.getElem?_toArray, List.getElem?_cons_zero, List.getElem?_cons_succ, Option.bind_some, Option.getD_some])
          | refine wo_nil ?_
          | (apply wo_po; apply mo_move; exact rfl; (first | exact trivial | exact rfl))
          | (apply wo_po; apply mo_len; exact rfl; (first | exact trivial | exact rfl))
          | (apply we_condT; exact rfl; (first | exact rfl | (simp <;> omega) | omega))
          | refine we_skip ?_
          | refine we_block ?_)
        refine we_draw [0, 1, 2, 3, 4, 5, 6, 7, 8] (by kernel_rfl) ?_
        repeat (first
          | (apply ap_pure; exact rfl; exact rfl; exact trivial; intro L; apply mo_indexAddr (r := o1 + i); exact rfl; exact rfl; omega; omega; omega)
          | (apply ap_pure; exact rfl; exact rfl; exact trivial; intro L; apply mo_indexAddr (r := o2 + i); exact rfl; exact rfl; omega; omega; omega)
          | (apply ap_read; exact rfl; exact rfl; exact trivial; apply mo_load; exact rfl; exact r1)
          | (apply ap_read; exact rfl; exact rfl; exact trivial; apply mo_load; exact rfl; exact r2)
          | (apply ap_pure; exact rfl; exact rfl; exact trivial; intro L; apply mo_bin; exact rfl; exact rfl; apply bin_neqT; omega)
          | (apply ap_pure; exact rfl; exact rfl; (first | exact trivial | exact rfl); intro L; apply mo_move; exact rfl)
          | refine ap_end ?_)
        repeat (first
          | refine we_seq ?_
          | (refine we_region _ rfl rfl ?_; simp only [opsOf, List.map_cons, List.map_nil, Option.map_none, Option.map_some, List.getElem?_toArray, List.getElem?_cons_zero, List.getElem?_cons_succ, Option.bind_some, Option.getD_some])
          | refine wo_nil ?_
          | (apply wo_po; apply mo_assign; exact rfl; (first | exact trivial | exact rfl))
          | (apply we_condT; exact rfl; (first | exact rfl | (simp <;> omega) | omega))
          | refine we_ret ?_)
        (first | refine at_ret1 (ex := .ret) Try.func16 Try.results16 hQ (.inl rfl) rfl ?_ | refine at_ret1 (ex := .normal) Try.func16 Try.results16 hQ (.inr rfl) rfl ?_)
        have : l ≠ l' := fun h => he (by rw [h, hv'] at hv; cases hv; rfl)
        exact ⟨by rw [decide_eq_false this], rfl, rfl⟩
    · repeat (first
        | (apply wo_po; apply mo_bin; exact rfl; exact rfl; apply bin_lssF; omega; (first | exact trivial | exact rfl))
        | refine we_seq ?_
        | (refine we_region _ rfl rfl ?_; simp only [opsOf, List.map_cons, List.map_nil, Option.map_none, Option.map_some, List.getElem?_toArray, List.getElem?_cons_zero, List.getElem?_cons_succ, Option.bind_some, Option.getD_some])
        | refine wo_nil ?_
        | (apply wo_po; apply mo_move; exact rfl; (first | exact trivial | exact rfl))
        | (apply wo_po; apply mo_assign; exact rfl; (first | exact trivial | exact rfl))
        | (apply wo_po; apply mo_len; exact rfl; (first | exact trivial | exact rfl))
        | (apply we_condF; exact rfl; (first | exact rfl | (simp <;> omega) | omega))
        | refine we_ret ?_
        | refine we_exit ?_)
      (first | refine at_ret1 (ex := .ret) Try.func16 Try.results16 hQ (.inl rfl) rfl ?_ | refine at_ret1 (ex := .normal) Try.func16 Try.results16 hQ (.inr rfl) rfl ?_)
      have : l = l' := by
        rw [List.take_of_length_le (by omega), List.take_of_length_le (by omega)] at ht
        exact ht
      exact ⟨by rw [decide_eq_true this], rfl, rfl⟩
  · have hne : ¬ (n : Int) = n' := by omega
    refine tr_of_body Try.func16 rfl Try.ntmps16 (by simp) fun um Q hQ => ?_
    simp only [argE, Nat.zero_add, Nat.reduceAdd]
    repeat (first
      | (apply wo_po; apply mo_bin; exact rfl; exact rfl; apply bin_neqT; omega; (first | exact trivial | exact rfl))
      | refine we_seq ?_
      | (refine we_region _ rfl rfl ?_; simp only [opsOf, List.map_cons, List.map_nil, Option.map_none, Option.map_some, List.getElem?_toArray, List.getElem?_cons_zero, List.getElem?_cons_succ, Option.bind_some, Option.getD_some])
      | refine wo_nil ?_
      | (apply wo_po; apply mo_move; exact rfl; (first | exact trivial | exact rfl))
      | (apply wo_po; apply mo_assign; exact rfl; (first | exact trivial | exact rfl))
      | (apply wo_po; apply mo_len; exact rfl; (first | exact trivial | exact rfl))
      | (apply we_condT; exact rfl; (first | exact rfl | (simp <;> omega) | omega))
      | refine we_ret ?_)
    (first | refine at_ret1 (ex := .ret) Try.func16 Try.results16 hQ (.inl rfl) rfl ?_ | refine at_ret1 (ex := .normal) Try.func16 Try.results16 hQ (.inr rfl) rfl ?_)
    have : l ≠ l' := fun h => hlen (by rw [hn, hn', h])
    exact ⟨by rw [decide_eq_false this], rfl, rfl⟩

end Go.Proofs.Ytmkkanmkjfnpdaa
