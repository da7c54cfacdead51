/-
  FOUNDATION, PART 15. '==' of structs of two integers. No program in sight.
-/
import Derived.Test.YtdcbnbmahndecaaFo
set_option linter.unusedVariables false
set_option linter.unusedSimpArgs false
namespace Go.PB

theorem wpS_partI {P : Program} {M : Mark → Prop} {α : Type} {t : TypeId} {k : IntKind} {cs : Array Value} {off : Nat} {v : Value} {kk : Value → Sem α} (ht : P.underlying t = some (.int k)) (hc : cs[off]? = some v) {h : Hp} {Q : α → Hp → Prop} {X : Value → Hp → Prop} (q : wpS P M (kk v) h Q X) :
    wpS P M (Sem.bind (part t cs off) kk) h Q X := by
  refine wpS_bind _ _ ?_
  unfold part
  refine wpS_isAgg (q := false) (by unfold aggOf; rw [ht]; rfl) ?_
  simp only [Bool.false_eq_true, if_false, hc]
  exact q

theorem wpS_equalI {P : Program} {M : Mark → Prop} {α : Type} {d : Nat} {t : TypeId} {k : IntKind} {a b : Int} {kk : Bool → Sem α} (ht : P.underlying t = some (.int k)) {h : Hp} {Q : α → Hp → Prop} {X : Value → Hp → Prop} (q : wpS P M (kk (a == b)) h Q X) :
    wpS P M (Sem.bind (Op.equalIn (d + 1) t (.int k a) (.int k b)) kk) h Q X := by
  refine wpS_bind _ _ ?_
  unfold Op.equalIn
  refine wpS_underlying ht ?_
  simp only [if_true]
  exact q

theorem equalIn_two {P : Program} {M : Mark → Prop} {d : Nat} {t : TypeId} {f0 f1 : Field} {k0 k1 : IntKind} {a0 b0 a1 b1 : Int} (ht : P.underlying t = some (.struct #[f0, f1])) (hs : P.stoodInHeld t = false)
    (n0 : f0.name ≠ "_") (n1 : f1.name ≠ "_") (o0 : f0.offset = 0) (o1 : f1.offset = 1) (t0 : P.underlying f0.type = some (.int k0)) (t1 : P.underlying f1.type = some (.int k1))
    {h : Hp} {Q : Bool → Hp → Prop} {X : Value → Hp → Prop} (q : Q (decide (a0 = b0 ∧ a1 = b1)) h) :
    wpS P M (Op.equalIn (d + 2) t (.agg #[.int k0 a0, .int k1 a1]) (.agg #[.int k0 b0, .int k1 b1])) h Q X := by
  unfold Op.equalIn
  refine wpS_underlying ht ?_
  dsimp only
  refine wpS_program (β := Unit) ?_
  simp only [hs, Bool.false_eq_true, if_false, ← Array.forIn_toList, List.forIn_cons, List.forIn_nil, n0, n1, ne_eq, not_false_eq_true, if_true, bind_assoc, pure_bind, o0, o1]
  refine wpS_partI t0 rfl (wpS_partI t0 rfl (wpS_equalI t0 ?_))
  by_cases e0 : a0 = b0
  · subst e0
    simp only [beq_self_eq_true, Bool.not_true, Bool.false_eq_true, if_false, pure_bind, bind_assoc]
    refine wpS_partI t1 rfl (wpS_partI t1 rfl (wpS_equalI t1 ?_))
    by_cases e1 : a1 = b1
    · subst e1
      simp only [beq_self_eq_true, Bool.not_true, Bool.false_eq_true, if_false, pure_bind, bind_assoc]
      have q' : Q true h := by simpa using q
      exact q'
    · have : (a1 == b1) = false := by simp [e1]
      simp only [this, Bool.not_false, if_true, pure_bind, bind_assoc]
      have q' : Q false h := by simpa [e1] using q
      exact q'
  · have : (a0 == b0) = false := by simp [e0]
    simp only [this, Bool.not_false, if_true, pure_bind, bind_assoc]
    have q' : Q false h := by simpa [e0] using q
    exact q'

/-- '==' of two structs of two integers -/
theorem eql_two {P : Program} {t : TypeId} {f0 f1 : Field} {k0 k1 : IntKind} {a0 b0 a1 b1 : Int} {x y : Operand} [p : Und P t (.struct #[f0, f1])] (hs : P.stoodInHeld t = false) (hg : P.eqGuardType P.depth t = false)
    (n0 : f0.name ≠ "_") (n1 : f1.name ≠ "_") (o0 : f0.offset = 0) (o1 : f1.offset = 1) (t0 : P.underlying f0.type = some (.int k0)) (t1 : P.underlying f1.type = some (.int k1)) :
    Eql P t x y (.agg #[.int k0 a0, .int k1 a1]) (.agg #[.int k0 b0, .int k1 b1]) (decide (a0 = b0 ∧ a1 = b1)) := by
  have hgd : ∀ op M (h : Hp) (Q : Unit → Hp → Prop) X, op = .eql ∨ op = .neq → Q () h → wpS P M (eqGuard op t x y (.agg #[.int k0 a0, .int k1 a1]) (.agg #[.int k0 b0, .int k1 b1])) h Q X := by
    intro op M h Q X hop q
    unfold eqGuard
    rcases hop with rfl | rfl
    · simp only [Bool.not_true, Bool.false_eq_true, if_false]
      refine wpS_program (β := Unit) (wpS_program (β := Unit) ?_)
      simp only [hg, Bool.not_false, if_true]
      exact q
    · simp only [Bool.not_true, Bool.false_eq_true, if_false]
      refine wpS_program (β := Unit) (wpS_program (β := Unit) ?_)
      simp only [hg, Bool.not_false, if_true]
      exact q
  intro op hop M h Q X q
  show wpS P M (Sem.bind (Sem.bind (eqGuard op t x y _ _) fun _ => binOp op t _ _) fun v => pure (.value v)) h Q X
  refine wpS_bind _ _ (wpS_bind _ _ (hgd op M h _ _ hop ?_))
  rcases hop with rfl | rfl
  · have h1 : binOp .eql t (.agg #[.int k0 a0, .int k1 a1]) (.agg #[.int k0 b0, .int k1 b1]) = (do pure (.bool (← Op.equal t (.agg #[.int k0 a0, .int k1 a1]) (.agg #[.int k0 b0, .int k1 b1]))) : Sem Value) := rfl
    rw [h1]
    show wpS P M (Sem.bind (Op.equal t (.agg #[.int k0 a0, .int k1 a1]) (.agg #[.int k0 b0, .int k1 b1])) fun r => pure (Value.bool r)) h _ X
    refine wpS_bind _ _ ?_
    rw [equal_def]
    refine equalIn_two p.ok hs n0 n1 o0 o1 t0 t1 ?_
    have q' : Q (.value (.bool (decide (a0 = b0 ∧ a1 = b1)))) h := by simpa using q
    exact q'
  · have h1 : binOp .neq t (.agg #[.int k0 a0, .int k1 a1]) (.agg #[.int k0 b0, .int k1 b1]) = (do pure (.bool (!(← Op.equal t (.agg #[.int k0 a0, .int k1 a1]) (.agg #[.int k0 b0, .int k1 b1])))) : Sem Value) := rfl
    rw [h1]
    show wpS P M (Sem.bind (Op.equal t (.agg #[.int k0 a0, .int k1 a1]) (.agg #[.int k0 b0, .int k1 b1])) fun r => pure (Value.bool (!r))) h _ X
    refine wpS_bind _ _ ?_
    rw [equal_def]
    refine equalIn_two p.ok hs n0 n1 o0 o1 t0 t1 ?_
    have q' : Q (.value (.bool (!decide (a0 = b0 ∧ a1 = b1)))) h := by simpa using q
    exact q'
end Go.PB
