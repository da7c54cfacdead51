/-
  FOUNDATION: strings put together and compared; '==' of a number beside a pair of numbers (a turn). No program is in sight.
-/
import Derived.Test.YtabbkjciifnehaaFt
import Derived.Test.YtabbkjciifnehaaFp
set_option linter.unusedVariables false
set_option linter.unusedSimpArgs false
namespace Go.PB

section
variable {P : Program} {xt : TypeId} {x y : Operand} {a b : ByteArray}

theorem bin_cat (h : a.size + b.size ≤ 9223372036854775807) : Bin P .add xt x y (.string a) (.string b) (.string (a ++ b)) := by
  intro M hh Q X q
  have : binOp .add xt (.string a) (.string b) = (pure (.string (a ++ b)) : Sem Value) := by
    show Op.stringOp .add a b = _
    unfold Op.stringOp
    have hm : IntKind.i64.max = 9223372036854775807 := rfl
    simp only
    rw [if_neg (by rw [hm]; omega)]
  rw [this]; exact q
theorem bin_streq {r : Bool} (h : (a.toList == b.toList) = r) : Bin P .eql xt x y (.string a) (.string b) (.bool r) := by
  subst h
  intro M hh Q X q
  exact q

theorem wpS_partA {M : Mark → Prop} {α : Type} {t : TypeId} {n : Nat} {cs : Array Value} {off : Nat} {kk : Value → Sem α} (ha : aggOf P t = some true) (hz : szOf P t = some n) {h : Hp} {Q : α → Hp → Prop} {X : Value → Hp → Prop} (q : wpS P M (kk (.agg (cs.extract off (off + n)))) h Q X) :
    wpS P M (Sem.bind (part t cs off) kk) h Q X := by
  refine wpS_bind _ _ ?_
  unfold part
  refine wpS_isAgg (q := true) ha ?_
  simp only [if_true]
  refine wpS_sizeOf hz ?_
  exact q

/-- '==' of a number beside a pair of numbers -/
theorem eql_turned {t t1 : TypeId} {f0 f1 g0 g1 : Field} {k0 k1 k2 : IntKind} {a0 b0 a1 b1 a2 b2 : Int} [p : Und P t (.struct #[f0, f1])] [p1 : Und P t1 (.struct #[g0, g1])] [sz : Siz P t1 2] (hs : P.stoodInHeld t = false) (hs1 : P.stoodInHeld t1 = false) (hg : P.eqGuardType P.depth t = false)
    (n0 : f0.name ≠ "_") (n1 : f1.name ≠ "_") (m0 : g0.name ≠ "_") (m1 : g1.name ≠ "_") (o0 : f0.offset = 0) (o1 : f1.offset = 1) (q0 : g0.offset = 0) (q1 : g1.offset = 1) (ft1 : f1.type = t1) (t0 : P.underlying f0.type = some (.int k0)) (u0 : P.underlying g0.type = some (.int k1)) (u1 : P.underlying g1.type = some (.int k2)) :
    Eql P t x y (.agg #[.int k0 a0, .int k1 a1, .int k2 a2]) (.agg #[.int k0 b0, .int k1 b1, .int k2 b2]) (decide (a0 = b0 ∧ a1 = b1 ∧ a2 = b2)) :=
  eql_agg hg fun {M h Q X} q => by
    rw [equal_def]
    unfold Op.equalIn
    refine wpS_underlying p.ok ?_
    dsimp only
    refine wpS_program (β := Unit) ?_
    simp only [hs, Bool.false_eq_true, if_false, ← Array.forIn_toList, List.forIn_cons, List.forIn_nil, n0, n1, ne_eq, not_false_eq_true, if_true, bind_assoc, pure_bind, o0, o1, ft1]
    have ha : aggOf P t1 = some true := by unfold aggOf; rw [p1.ok]; rfl
    refine wpS_partI t0 rfl (wpS_partI t0 rfl (wpS_equalI (d := 9998) t0 ?_))
    by_cases e0 : a0 = b0
    · subst e0
      simp only [beq_self_eq_true, Bool.not_true, Bool.false_eq_true, if_false, pure_bind, bind_assoc]
      refine wpS_partA ha sz.ok (wpS_partA ha sz.ok (wpS_bind _ _ ?_))
      refine equalIn_two (d := 9997) p1.ok hs1 m0 m1 q0 q1 u0 u1 ?_
      by_cases e1 : a1 = b1 ∧ a2 = b2
      · obtain ⟨rfl, rfl⟩ := e1
        simp only [decide_true, and_self, Bool.not_true, Bool.false_eq_true, if_false, pure_bind]
        have q' : Q true h := by simpa using q
        exact q'
      · simp only [e1, decide_false, Bool.not_false, if_true, pure_bind]
        have q' : Q false h := by simpa [e1] using q
        exact q'
    · have : (a0 == b0) = false := by simp [e0]
      simp only [this, Bool.not_false, if_true, pure_bind, bind_assoc]
      have q' : Q false h := by simpa [e0] using q
      exact q'
end

/-- where ways meet behind operations -/
theorem wo_join {P : Program} {B : Hand} {kd : CallKind} {n : Nat} {K : Post B} {e : Env} {z : Z} {L : List HProp} {x : B.X} {l : List OpG} {c : Code} {ι : Type} (I : Inv ι B.X) (w : Wo P B kd n l (midK I n z K) e z L x) (k : ∀ i, I.ok i → We P B kd n c K (I.e i) z (I.L i) (I.x i)) : Wo P B kd n l (thn P B kd c K) e z L x :=
  fun ops idx h1 h2 t h a1 a2 a3 => fun main S C b kk cs hb ha => w ops idx h1 h2 t h a1 a2 a3 main S C b kk cs hb fun ex t z' h x q => ha ex t z' h x (mid_out I k ex t z' h x q)

theorem over_app {cs sp ws : List Value} {k : Nat} (h : k + ws.length ≤ cs.length) : over (cs ++ sp) k ws = over cs k ws ++ sp := by
  unfold over
  rw [List.take_append_of_le_length (by omega), List.drop_append_of_le_length (by omega)]
  simp

/-- an element of a slice of one's own is turned -/
theorem mo_storeV {P : Program} {e : Env} {ty : TypeId} {L F : List HProp} {t n sz b c len cap i r : Nat} {o x : Operand} {v : Value} {cs : List Value} [s : Siz P t n] (ha : ev e o = some (.pointer (some ⟨b, r, none⟩))) (hr : r = c + i) (hx : ev e x = some v) (hv : v.cells.size = n) (h1 : ∀ w ∈ v.cells.toList, one w = true)
    (hh : Has L (vec sz (.slice (some ⟨b, c, none⟩) len cap) cs) F) (hi : i + n ≤ cs.length) : Mo P e (.store t o x) ty L fun v' L' => v' = undef ∧ L' = vec sz (.slice (some ⟨b, c, none⟩) len cap) (over cs i v.cells.toList) :: F := by
  subst hr
  intro M h2 h3 tt h Q X ag st q
  rcases vec_out (hh.star st) with ⟨h4, _⟩ | ⟨b', o', n', c', sp, h4, h5, h6, h7, h8⟩
  · cases h4
  · cases h4
    refine mo_storeA (L := arr b c (cs ++ sp) :: F) (vs := cs ++ sp) (k := i) ha hx hv h1 rfl (by simp; omega) .here M h2 h3 tt h Q X ag h8 fun v' L' h' nx hnx hq hs => ?_
    obtain ⟨rfl, rfl⟩ := hq
    refine q _ _ h' nx hnx ⟨rfl, rfl⟩ ?_
    have hcl : v.cells.toList.length = n := by simpa using hv
    rw [over_app (by omega)] at hs
    exact vec_in (by rw [over_length (by omega)]; exact h5) h6 h7 hs

/-- the first elements of a slice -/
theorem mo_sliceTo {P : Program} {e : Env} {ty : TypeId} {L : List HProp} {t el sz b off n c u : Nat} {k : IntKind} {j : Int} {o hi : Operand} [p : SlT P t el] [s : Siz P el sz] (hx : ev e o = some (.slice (some ⟨b, off, none⟩) n c)) (hh : ev e hi = some (.int k j)) (hj : j = (u : Nat)) (hu : u ≤ c) (hc : 0 < c) :
    Mo P e (.slice t o none (some hi) none) ty L fun v' L' => v' = .slice (some ⟨b, off, none⟩) u c ∧ L' = L := by
  have h := mo_slice (P := P) (e := e) (ty := ty) (L := L) (t := t) (l := 0) (u := u) hx .no (.yes hh hj) (Nat.zero_le _) hu
  rw [if_neg (by omega)] at h
  simpa [add_none] using h
end Go.PB
