/-
  patchbayref06: May.
-/
import Derived.Test.YtdcbnbmahndecaaRef
set_option linter.unusedVariables false
set_option linter.unusedSimpArgs false
namespace Go.Proofs.Ytdcbnbmahndecaa
open Go Go.PB
attribute [local irreducible] Mo Bin Eql Tr Wo Ap

variable {B : Hand} [Lets B] {L F : List HProp} {x : B.X}

/-- ahead of a round of May -/
def mayInv (x : B.X) (L : List HProp) (n : Int) : Inv Nat B.X where
  e := fun k => [(0, .int .i64 n), (3, .int .i64 ((2 ^ k : Nat) : Int))]
  L := fun _ => L
  x := fun _ => x
  ok := fun k => k ≤ 11 ∧ ∀ j, j < k → n ≠ ((2 ^ j : Nat) : Int)

theorem may_tr {n : Int} {q : Bool} (hq : q = true ↔ ∃ k, k ≤ 10 ∧ n = ((2 ^ k : Nat) : Int)) :
    Tr Try.prog B 15 [.int .i64 n] L x fun v L' x' => v = .bool q ∧ L' = L ∧ x' = x := by
  refine tr_of_body Try.func15 rfl Try.ntmps15 (by simp) fun um Q hQ => ?_
  simp only [argE, Nat.zero_add, Nat.reduceAdd]
  repeat (first
    | refine we_seq ?_
    | (refine we_region _ rfl rfl ?_; simp only [opsOf, List.map_cons, List.map_nil, Option.map_none, Option.map_some, List.getElem?_toArray, List.getElem?_cons_zero, List.getElem?_cons_succ, Option.bind_some, Option.getD_some])
    | refine wo_nil ?_
    | (apply wo_po; apply mo_assign; exact rfl; (first | exact trivial | exact rfl))
    | refine we_block ?_)
  refine we_loopN (mayInv x L n) (fun k => 11 - k) 0 ⟨by omega, fun j hj => by omega⟩ ⟨rfl, rfl, trivial⟩ .refl rfl ?_
  rintro k ⟨hk, hno⟩
  dsimp only [mayInv] at hk hno ⊢
  obtain ⟨m, hm⟩ : ∃ m, 2 ^ k = m := ⟨_, rfl⟩
  have h2 : 2 ^ (k + 1) = 2 * m := by rw [← hm]; omega
  rw [hm]
  by_cases hc : k ≤ 10
  · have hle : m ≤ 1024 := by rw [← hm]; exact pow_le hc
    have hpos : 0 < m := by rw [← hm]; exact Nat.two_pow_pos k
    by_cases he : (m : Int) = n
    · repeat (first
        | (apply wo_po; apply mo_bin; exact rfl; exact rfl; apply bin_leqT; omega; (first | exact trivial | exact rfl))
        | (apply wo_po; apply mo_bin; exact rfl; exact rfl; apply bin_eqlT; omega; (first | exact trivial | exact rfl))
        | refine we_seq ?_
        | (refine we_region _ rfl rfl ?_; simp only [opsOf, List.map_cons, List.map_nil, Option.map_none, Option.map_some, List.getElem?_toArray, List.getElem?_cons_zero, List.getElem?_cons_succ, Option.bind_some, Option.getD_some])
        | refine wo_nil ?_
        | (apply wo_po; apply mo_move; exact rfl; (first | exact trivial | exact rfl))
        | (apply wo_po; apply mo_assign; exact rfl; (first | exact trivial | exact rfl))
        | (apply we_condT; exact rfl; (first | exact rfl | (simp <;> omega) | omega))
        | refine we_ret ?_
        | refine we_skip ?_
        | refine we_block ?_)
      (first | refine at_ret1 (ex := .ret) Try.func15 Try.results15 hQ (.inl rfl) rfl ?_ | refine at_ret1 (ex := .normal) Try.func15 Try.results15 hQ (.inr rfl) rfl ?_)
      have : q = true := hq.2 ⟨k, hc, by rw [hm, he]⟩
      exact ⟨by rw [this], rfl, rfl⟩
    · repeat (first
        | (apply wo_po; apply mo_bin; exact rfl; exact rfl; apply bin_mul; exact wrap_i64 (by omega) (by omega); exact trivial)
        | (apply wo_po; apply mo_bin; exact rfl; exact rfl; apply bin_leqT; omega; (first | exact trivial | exact rfl))
        | (apply wo_po; apply mo_bin; exact rfl; exact rfl; apply bin_eqlF; omega; (first | exact trivial | exact rfl))
        | refine we_seq ?_
        | (refine we_region _ rfl rfl ?_; simp only [opsOf, List.map_cons, List.map_nil, Option.map_none, Option.map_some, List.getElem?_toArray, List.getElem?_cons_zero, List.getElem?_cons_succ, Option.bind_some, Option.getD_some])
        | refine wo_nil ?_
        | (apply wo_po; apply mo_move; exact rfl; (first | exact trivial | exact rfl))
        | (apply wo_po; apply mo_assign; exact rfl; (first | exact trivial | exact rfl))
        | (apply we_condT; exact rfl; (first | exact rfl | (simp <;> omega) | omega))
        | (apply we_condF; exact rfl; (first | exact rfl | (simp <;> omega) | omega))
        | refine we_skip ?_
        | refine we_block ?_)
      refine at_round (I := mayInv x L n) (R := fun i' => 11 - i' < 11 - k) (k + 1) (by omega) ⟨by omega, fun j hj => ?_⟩ ⟨rfl, ?_, trivial⟩ .refl rfl
      · by_cases e : j = k
        · subst e; rw [hm]; exact fun h => he h.symm
        · exact hno j (by omega)
      · show some (Value.int .i64 (2 * (m : Int))) = some (Value.int .i64 ((2 ^ (k + 1) : Nat) : Int))
        rw [h2, Int.natCast_mul]
        rfl
  · have : k = 11 := by omega
    subst this
    have hm' : m = 2048 := hm.symm
    subst hm'
    repeat (first
      | (apply wo_po; apply mo_bin; exact rfl; exact rfl; apply bin_leqF; omega; (first | exact trivial | exact rfl))
      | refine we_seq ?_
      | (refine we_region _ rfl rfl ?_; simp only [opsOf, List.map_cons, List.map_nil, Option.map_none, Option.map_some, List.getElem?_toArray, List.getElem?_cons_zero, List.getElem?_cons_succ, Option.bind_some, Option.getD_some])
      | refine wo_nil ?_
      | (apply wo_po; apply mo_move; exact rfl; (first | exact trivial | exact rfl))
      | (apply wo_po; apply mo_assign; exact rfl; (first | exact trivial | exact rfl))
      | (apply we_condF; exact rfl; (first | exact rfl | (simp <;> omega) | omega))
      | refine we_ret ?_
      | refine we_exit ?_)
    (first | refine at_ret1 (ex := .ret) Try.func15 Try.results15 hQ (.inl rfl) rfl ?_ | refine at_ret1 (ex := .normal) Try.func15 Try.results15 hQ (.inr rfl) rfl ?_)
    have : q = false := by
      cases q with
      | false => rfl
      | true =>
        obtain ⟨j, hj, e⟩ := hq.1 rfl
        exact absurd e (hno j (by omega))
    exact ⟨by rw [this], rfl, rfl⟩

end Go.Proofs.Ytdcbnbmahndecaa
