/-
  FOUNDATION, PART 15. '==' of structs of two integers. No program in sight.
  FOUNDATION, PART 16. The end of a function whose results lie in slots or in memory. No program in sight.
  FOUNDATION, PART 17. Stores into a slice of one's own; one of many chunks, taken out and put back; numbers of 64 bits; places in rows of cells. No program in sight.
  FOUNDATION, PART 18. A drawn region in which one operation that acts hangs on none of the others ('ap_fork'): it may come first, or not. No program is in sight.
-/
import Derived.Test.YtabbkjciifnehaaFo
set_option linter.unusedVariables false
set_option linter.unusedSimpArgs false
namespace Go.PB

theorem wpS_partI {P : Program} {M : Mark → Prop} {α : Type} {t : TypeId} {k : IntKind} {cs : Array Value} {off : Nat} {v : Value} {kk : Value → Sem α} (ht : P.underlying t = some (.int k)) (hc : cs[off]? = some v) {h : Hp} {Q : α → Hp → Prop} {X : Value → Hp → Prop} (q : wpS P M (kk v) h Q X) :
    wpS P M (Sem.bind (part t cs off) kk) h Q X := by
  refine wpS_bind _ _ ?_
  unfold part
  refine wpS_isAgg (q := false) (by unfold aggOf; rw [ht]; rfl) ?_
  simp only [Bool.false_eq_true, if_false, hc]
  exact q

theorem wpS_equalI {P : Program} {M : Mark → Prop} {α : Type} {d : Nat} {t : TypeId} {k : IntKind} {a b : Int} {kk : Bool → Sem α} (ht : P.underlying t = some (.int k)) {h : Hp} {Q : α → Hp → Prop} {X : Value → Hp → Prop} (q : wpS P M (kk (a == b)) h Q X) :
    wpS P M (Sem.bind (Op.equalIn (d + 1) t (.int k a) (.int k b)) kk) h Q X := by
  refine wpS_bind _ _ ?_
  unfold Op.equalIn
  refine wpS_underlying ht ?_
  simp only [if_true]
  exact q

theorem equalIn_two {P : Program} {M : Mark → Prop} {d : Nat} {t : TypeId} {f0 f1 : Field} {k0 k1 : IntKind} {a0 b0 a1 b1 : Int} (ht : P.underlying t = some (.struct #[f0, f1])) (hs : P.stoodInHeld t = false)
    (n0 : f0.name ≠ "_") (n1 : f1.name ≠ "_") (o0 : f0.offset = 0) (o1 : f1.offset = 1) (t0 : P.underlying f0.type = some (.int k0)) (t1 : P.underlying f1.type = some (.int k1))
    {h : Hp} {Q : Bool → Hp → Prop} {X : Value → Hp → Prop} (q : Q (decide (a0 = b0 ∧ a1 = b1)) h) :
    wpS P M (Op.equalIn (d + 2) t (.agg #[.int k0 a0, .int k1 a1]) (.agg #[.int k0 b0, .int k1 b1])) h Q X := by
  unfold Op.equalIn
  refine wpS_underlying ht ?_
  dsimp only
  refine wpS_program (β := Unit) ?_
  simp only [hs, Bool.false_eq_true, if_false, ← Array.forIn_toList, List.forIn_cons, List.forIn_nil, n0, n1, ne_eq, not_false_eq_true, if_true, bind_assoc, pure_bind, o0, o1]
  refine wpS_partI t0 rfl (wpS_partI t0 rfl (wpS_equalI t0 ?_))
  by_cases e0 : a0 = b0
  · subst e0
    simp only [beq_self_eq_true, Bool.not_true, Bool.false_eq_true, if_false, pure_bind, bind_assoc]
    refine wpS_partI t1 rfl (wpS_partI t1 rfl (wpS_equalI t1 ?_))
    by_cases e1 : a1 = b1
    · subst e1
      simp only [beq_self_eq_true, Bool.not_true, Bool.false_eq_true, if_false, pure_bind, bind_assoc]
      have q' : Q true h := by simpa using q
      exact q'
    · have : (a1 == b1) = false := by simp [e1]
      simp only [this, Bool.not_false, if_true, pure_bind, bind_assoc]
      have q' : Q false h := by simpa [e1] using q
      exact q'
  · have : (a0 == b0) = false := by simp [e0]
    simp only [this, Bool.not_false, if_true, pure_bind, bind_assoc]
    have q' : Q false h := by simpa [e0] using q
    exact q'

/-- '==' of two structs of two integers -/
theorem eql_two {P : Program} {t : TypeId} {f0 f1 : Field} {k0 k1 : IntKind} {a0 b0 a1 b1 : Int} {x y : Operand} [p : Und P t (.struct #[f0, f1])] (hs : P.stoodInHeld t = false) (hg : P.eqGuardType P.depth t = false)
    (n0 : f0.name ≠ "_") (n1 : f1.name ≠ "_") (o0 : f0.offset = 0) (o1 : f1.offset = 1) (t0 : P.underlying f0.type = some (.int k0)) (t1 : P.underlying f1.type = some (.int k1)) :
    Eql P t x y (.agg #[.int k0 a0, .int k1 a1]) (.agg #[.int k0 b0, .int k1 b1]) (decide (a0 = b0 ∧ a1 = b1)) := by
  have hgd : ∀ op M (h : Hp) (Q : Unit → Hp → Prop) X, op = .eql ∨ op = .neq → Q () h → wpS P M (eqGuard op t x y (.agg #[.int k0 a0, .int k1 a1]) (.agg #[.int k0 b0, .int k1 b1])) h Q X := by
    intro op M h Q X hop q
    unfold eqGuard
    rcases hop with rfl | rfl
    · simp only [Bool.not_true, Bool.false_eq_true, if_false]
      refine wpS_program (β := Unit) (wpS_program (β := Unit) ?_)
      simp only [hg, Bool.not_false, if_true]
      exact q
    · simp only [Bool.not_true, Bool.false_eq_true, if_false]
      refine wpS_program (β := Unit) (wpS_program (β := Unit) ?_)
      simp only [hg, Bool.not_false, if_true]
      exact q
  intro op hop M h Q X q
  show wpS P M (Sem.bind (Sem.bind (eqGuard op t x y _ _) fun _ => binOp op t _ _) fun v => pure (.value v)) h Q X
  refine wpS_bind _ _ (wpS_bind _ _ (hgd op M h _ _ hop ?_))
  rcases hop with rfl | rfl
  · have h1 : binOp .eql t (.agg #[.int k0 a0, .int k1 a1]) (.agg #[.int k0 b0, .int k1 b1]) = (do pure (.bool (← Op.equal t (.agg #[.int k0 a0, .int k1 a1]) (.agg #[.int k0 b0, .int k1 b1]))) : Sem Value) := rfl
    rw [h1]
    show wpS P M (Sem.bind (Op.equal t (.agg #[.int k0 a0, .int k1 a1]) (.agg #[.int k0 b0, .int k1 b1])) fun r => pure (Value.bool r)) h _ X
    refine wpS_bind _ _ ?_
    rw [equal_def]
    refine equalIn_two p.ok hs n0 n1 o0 o1 t0 t1 ?_
    have q' : Q (.value (.bool (decide (a0 = b0 ∧ a1 = b1)))) h := by simpa using q
    exact q'
  · have h1 : binOp .neq t (.agg #[.int k0 a0, .int k1 a1]) (.agg #[.int k0 b0, .int k1 b1]) = (do pure (.bool (!(← Op.equal t (.agg #[.int k0 a0, .int k1 a1]) (.agg #[.int k0 b0, .int k1 b1])))) : Sem Value) := rfl
    rw [h1]
    show wpS P M (Sem.bind (Op.equal t (.agg #[.int k0 a0, .int k1 a1]) (.agg #[.int k0 b0, .int k1 b1])) fun r => pure (Value.bool (!r))) h _ X
    refine wpS_bind _ _ ?_
    rw [equal_def]
    refine equalIn_two p.ok hs n0 n1 o0 o1 t0 t1 ?_
    have q' : Q (.value (.bool (!decide (a0 = b0 ∧ a1 = b1)))) h := by simpa using q
    exact q'
end Go.PB

set_option linter.unusedVariables false
set_option linter.unusedSimpArgs false
namespace Go.PB

/-- a result: in a slot; a struct in memory -/
inductive ResV (P : Program) (e : Env) (L : List HProp) : ResultVar → Value → Prop
  | tmp {i : Nat} {v : Value} : lk e i = some v → ResV P e L (.tmp i) v
  | cell {a ty n b o : Nat} {vs : List Value} [p : AggT P ty] [sz : Siz P ty n] : lk e a = some (.pointer (some ⟨b, o, none⟩)) → n = vs.length → Rds L b o vs → ResV P e L (.cell a ty) (.agg vs.toArray)

inductive ResL (P : Program) (e : Env) (L : List HProp) : List ResultVar → List Value → Prop
  | nil : ResL P e L [] []
  | cons {r : ResultVar} {v : Value} {rs : List ResultVar} {vs : List Value} : ResV P e L r v → ResL P e L rs vs → ResL P e L (r :: rs) (v :: vs)

/-- results together -/
def packR : List Value → Value
  | [a] => a
  | vs => .tuple vs.toArray

/-- a result's value -/
def loadR (t : Array Value) : ResultVar → Sem Value
  | .tmp i => pure (t.getD i undef)
  | .cell a ty => do loadVar ty (← asAddr (t.getD a undef))

variable {P : Program} {B : Hand} {kd : CallKind} {n : Nat} {e : Env} {L : List HProp} {x : B.X}

theorem ResV.load {r : ResultVar} {v : Value} {t : Array Value} {M : Mark → Prop} {h : Hp} {Q : Value → Hp → Prop} {X : Value → Hp → Prop} (rv : ResV P e L r v) (ag : Agree e t) (s : Star L h) (q : Q v h) :
    wpS P M (loadR t r) h Q X := by
  cases rv with
  | @tmp i v hi =>
    have : t.getD i undef = v := ag.ev (o := .tmp i) hi
    show Q (t.getD i undef) h
    rw [this]; exact q
  | @cell a ty n b o vs p sz ha hn hr =>
    have : t.getD a undef = _ := ag.ev (o := .tmp a) ha
    show wpS P M (Sem.bind (asAddr (t.getD a undef)) fun y => loadVar ty y) h Q X
    rw [this]
    show wpS P M (loadVar ty ⟨b, o, none⟩) h Q X
    show wpS P M (Sem.bind (isAgg ty) _) h _ X
    refine wpS_isAgg p.ok ?_
    rw [if_pos rfl]
    show wpS P M (Sem.bind (sizeOf ty) fun n => Sem.bind (loadCells ⟨b, o, none⟩ n) fun x => pure (Value.agg x)) h _ X
    exact wpS_sizeOf sz.ok (wpS_bind _ _ (wpS_loadCells hn (fun j v hv => hr j v hv h s) q))

theorem at_leaveM {f : FuncId} {fn : Func} {rs : List ResultVar} {vs : List Value} {um : FrameMode} {Q : End → FrameMode → Hp → B.X → Prop} {R : Value → List HProp → B.X → Prop} {ex : Ex} (hf : P.funcs[f]? = some fn) (hr : fn.results = rs.toArray)
    (q : ∀ v L' x' h', R v L' x' → Star L' h' → Q (.ret v) um h' x') (hex : ex = .ret ∨ ex = .normal) (hv : ResL P e L rs vs) (hR : R (packR vs) L x) :
    At n e L fun t h => leave P B f kd Q ex t ⟨[], um⟩ h x := by
  intro t h a1 a2 a3
  have hw : Wd P B f kd .returning t ⟨[], um⟩ h x Q := by
    refine wd_ret (packR vs) hf rfl ?_ (q _ L x h hR a3)
    have key : ∀ {rs : List ResultVar} {vs : List Value}, ResL P e L rs vs → ∀ (acc : Array Value) (M : Mark → Prop) (Q : Array Value → Hp → Prop) (X : Value → Hp → Prop), Q (acc ++ vs.toArray) h →
        wpS P M (List.foldlM (fun (bs : Array Value) (r : ResultVar) => bs.push <$> loadR t r) acc rs) h Q X := by
      intro rs vs hv
      induction hv with
      | nil => intro acc M Q X hq; have : Q acc h := by simpa using hq
               exact this
      | @cons r v rs vs h1 _ ih =>
        intro acc M Q X hq
        rw [List.foldlM_cons, map_eq_pure_bind]
        refine wpS_bind _ _ (wpS_bind _ _ (h1.load a2 a3 ?_))
        show wpS P M (List.foldlM _ (acc.push v) rs) h Q X
        refine ih (acc.push v) M Q X ?_
        simpa using hq
    unfold results
    rw [hr, Array.mapM_eq_foldlM, ← Array.foldlM_toList]
    refine wpS_bind _ _ ?_
    have e1 : (fun (bs : Array Value) (r : ResultVar) => (bs.push <$> (match r with | .tmp i => pure (t.getD i undef) | .cell a ty => do loadVar ty (← asAddr (t.getD a undef)) : Sem Value) : Sem (Array Value))) = fun bs r => bs.push <$> loadR t r := by
      funext bs r; cases r <;> rfl
    show wpS P _ (List.foldlM (fun (bs : Array Value) (r : ResultVar) => (bs.push <$> (match r with | .tmp i => pure (t.getD i undef) | .cell a ty => do loadVar ty (← asAddr (t.getD a undef)) : Sem Value) : Sem (Array Value))) #[] rs) h _ _
    rw [e1]
    refine key hv #[] _ _ _ ?_
    rw [show (#[] ++ vs.toArray : Array Value) = vs.toArray by simp]
    refine ⟨?_, rfl⟩
    cases vs with
    | nil => rfl
    | cons a l => cases l <;> rfl
  rcases hex with rfl | rfl
  · exact hw
  · exact hw

end Go.PB

set_option linter.unusedVariables false
set_option linter.unusedSimpArgs false
namespace Go.PB

section
variable {L F : List HProp}

theorem ent_eq {L L' : List HProp} (h : L = L') : Ent L L' := h ▸ .refl

/-- a cell of a slice of one's own is turned -/
theorem wt_vec {sz b o n c i : Nat} {cs : List Value} {v : Value} (hh : Has L (vec sz (.slice (some ⟨b, o, none⟩) n c) cs) F) (hi : i < cs.length) : Wt L b (o + i) v (vec sz (.slice (some ⟨b, o, none⟩) n c) (cs.set i v) :: F) := by
  intro h s
  rcases vec_out (hh.star s) with ⟨h1, _, _⟩ | ⟨b', o', n', c', sp, h1, h2, h3, h4, h5⟩
  · cases h1
  · cases h1
    obtain ⟨a1, a2⟩ := star_store (k := i) (v := v) (by simp; omega) h5
    refine ⟨a1, vec_in (sp := sp) (by simpa using h2) h3 h4 ?_⟩
    rwa [List.set_append_left _ _ hi] at a2

theorem has_get {M : List HProp} {c : HProp} : ∀ {i : Nat}, M[i]? = some c → Has M c (M.eraseIdx i) := by
  induction M with
  | nil => intro i h; cases h
  | cons d M ih =>
    intro i h
    cases i with
    | zero => cases h; exact .here
    | succ i => exact .there (ih h)

theorem has_app {M : List HProp} {c : HProp} {R : List HProp} (h : Has M c R) : Has (M ++ L) c (R ++ L) := by
  induction h with
  | here => exact .here
  | there _ ih => exact .there ih

/-- one of many chunks is taken out -/
theorem star_pick {M : List HProp} {c : HProp} {i : Nat} (e : M[i]? = some c) {h : Hp} (s : Star (all M :: L) h) : Star (c :: all (M.eraseIdx i) :: L) h :=
  star_map ((has_app (has_get e)).star (star_open s)) (fun _ x => x) (fun _ x => star_shut x)

theorem ent_put {M : List HProp} {c : HProp} : ∀ {i : Nat}, i < M.length → Has (M.set i c) c (M.eraseIdx i) := by
  intro i hi
  have := has_get (M := M.set i c) (c := c) (i := i) (by simp [hi])
  rwa [List.eraseIdx_set_eq] at this

theorem has_back {M R : List HProp} {c : HProp} (hh : Has M c R) {h : Hp} (s : Star (c :: R) h) : Star M h := by
  induction hh generalizing h with
  | here => exact s
  | there _ ih => exact star_map (star_swap s) (fun _ x => x) (fun _ => ih)

/-- … and put back, turned -/
theorem star_put {M : List HProp} {c : HProp} {i : Nat} (hi : i < M.length) {h : Hp} (s : Star (c :: all (M.eraseIdx i) :: L) h) : Star (all (M.set i c) :: L) h :=
  star_shut (has_back (has_app (ent_put hi)) (star_map s (fun _ x => x) (fun _ x => star_open x)))

theorem star_push {M : List HProp} {c : HProp} {h : Hp} (s : Star (c :: all M :: L) h) : Star (all (M ++ [c]) :: L) h := by
  have s2 : Star (c :: (M ++ L)) h := star_map s (fun _ x => x) (fun _ x => star_open x)
  refine star_shut ?_
  have : Has (M ++ [c] ++ L) c (M ++ L) := by
    have h1 : Has (M ++ c :: L) c (M ++ L) := by
      clear s s2
      induction M with
      | nil => exact .here
      | cons d M ih => exact .there ih
    simpa using h1
  exact has_back this s2

/- ---- numbers of 64 bits ---- -/
theorem u64_add {a b : Nat} : IntKind.u64.wrap ((a : Int) + (b : Int)) = (((a + b) % 18446744073709551616 : Nat) : Int) := by rw [wrap_u64_mod]; omega
theorem u64_sub {a b : Nat} (hb : b < 18446744073709551616) : IntKind.u64.wrap ((a : Int) - (b : Int)) = (((a + 18446744073709551616 - b) % 18446744073709551616 : Nat) : Int) := by rw [wrap_u64_mod]; omega
theorem u64_mul {a b : Nat} : IntKind.u64.wrap ((a : Int) * (b : Int)) = (((a * b) % 18446744073709551616 : Nat) : Int) := by rw [wrap_u64_mod, ← Int.natCast_mul]; omega
theorem u64_quo {a b : Nat} : IntKind.u64.wrap ((a : Int).tdiv (b : Int)) = (((a / b) % 18446744073709551616 : Nat) : Int) := by rw [wrap_u64_mod, ← Int.ofNat_tdiv]; omega
theorem u64_shl {a n : Nat} (h : n < 64) : IntKind.u64.wrap ((a : Int) * 2 ^ (min (n : Int).toNat IntKind.u64.bits)) = (((a * 2 ^ n) % 18446744073709551616 : Nat) : Int) := by
  have : min (n : Int).toNat IntKind.u64.bits = n := by show min (n : Int).toNat 64 = n; omega
  rw [this, wrap_u64_mod, show (2 : Int) ^ n = ((2 ^ n : Nat) : Int) by simp, ← Int.natCast_mul]; omega
theorem u64_shr {a n : Nat} (h : n < 64) (ha : a < 18446744073709551616) : (a : Int).fdiv (2 ^ (min (n : Int).toNat IntKind.u64.bits)) = (((a / 2 ^ n) % 18446744073709551616 : Nat) : Int) := by
  have : min (n : Int).toNat IntKind.u64.bits = n := by show min (n : Int).toNat 64 = n; omega
  have h2 : a / 2 ^ n < 18446744073709551616 := Nat.lt_of_le_of_lt (Nat.div_le_self _ _) ha
  rw [this, show (2 : Int) ^ n = ((2 ^ n : Nat) : Int) by simp, Nat.mod_eq_of_lt h2, Int.fdiv_eq_ediv_of_nonneg _ (Int.natCast_nonneg _)]; rfl
theorem or_u64 {a b : Nat} (ha : a < 18446744073709551616) (hb : b < 18446744073709551616) : IntKind.u64.wrap (BitVec.ofInt IntKind.u64.bits (a : Int) ||| BitVec.ofInt IntKind.u64.bits (b : Int)).toNat = (((a ||| b) % 18446744073709551616 : Nat) : Int) := by
  have h1 : (BitVec.ofInt 64 (a : Int) ||| BitVec.ofInt 64 (b : Int)).toNat = a ||| b := by
    rw [BitVec.toNat_or, BitVec.ofInt_natCast, BitVec.ofInt_natCast, BitVec.toNat_ofNat, BitVec.toNat_ofNat, Nat.mod_eq_of_lt (by omega), Nat.mod_eq_of_lt (by omega)]
  show IntKind.u64.wrap ((BitVec.ofInt 64 (a : Int) ||| BitVec.ofInt 64 (b : Int)).toNat : Int) = _
  rw [h1, wrap_u64_mod]; omega
theorem and_u64' {a b : Nat} (ha : a < 18446744073709551616) (hb : b < 18446744073709551616) : IntKind.u64.wrap (BitVec.ofInt IntKind.u64.bits (a : Int) &&& BitVec.ofInt IntKind.u64.bits (b : Int)).toNat = (((a &&& b) % 18446744073709551616 : Nat) : Int) := by
  rw [and_u64 ha hb, Nat.mod_eq_of_lt (Nat.lt_of_le_of_lt Nat.and_le_left ha)]
end

section
variable {P : Program} {e : Env} {L : List HProp} {ty : TypeId}

theorem parts_pv {parts : Array (Nat × Operand)} {pv : List (Nat × Value)} {tt : Array Value} (hp : parts.toList.map (·.1) = pv.map (·.1)) (h2 : (parts.toList.map (·.2)).map (evT tt) = pv.map (·.2)) : (parts.map fun (i, x) => (i, evT tt x)) = pv.toArray := by
  apply Array.ext'
  simp only [Array.toList_map]
  have key : ∀ (l : List (Nat × Operand)) (r : List (Nat × Value)), l.map (·.1) = r.map (·.1) → (l.map (·.2)).map (evT tt) = r.map (·.2) → l.map (fun (q : Nat × Operand) => (q.1, evT tt q.2)) = r := by
    intro l
    induction l with
    | nil => intro r h1 _; cases r with | nil => rfl | cons _ _ => cases h1
    | cons a l ih =>
      intro r h1 h2
      cases r with
      | nil => cases h1
      | cons c r =>
        simp only [List.map_cons, List.cons.injEq] at h1 h2 ⊢
        exact ⟨by rw [h1.1, h2.1], ih r h1.2 h2.2⟩
  exact key _ _ hp h2

/-- an array's value, out of its parts -/
theorem mo_buildArr {t n el sz : Nat} {parts : Array (Nat × Operand)} {pv : List (Nat × Value)} {zv : Value} {cells : Array Value} [p : ArT P t n el] [s : Siz P el sz] [zr : Zer P t zv] (hp : parts.toList.map (·.1) = pv.map (·.1)) (hv : EvL e (parts.toList.map (·.2)) (pv.map (·.2))) (hf : Instr.fill (fun i => some (i * sz, sz)) zv.cells pv = some cells) : Mo P e (.build t parts) ty L fun v' L' => v' = .agg cells ∧ L' = L := by
  intro M _ _ tt h Q X ag st q
  show wpS P M (Sem.bind (Instr.build t (parts.map fun (i, x) => (i, evT tt x))) fun v => pure (.value v)) h Q X
  rw [parts_pv hp (hv.evT ag)]
  refine wpS_bind _ _ ?_
  show wpS P M (Sem.bind (zeroValue t) fun z0 => Sem.bind (underlying t) fun d => _) h _ X
  refine wpS_zeroValue zr.ok (wpS_underlying p.ok ?_)
  refine wpS_sizeOf s.ok ?_
  rw [hf]
  exact q (.agg cells) L h (.value (.agg cells)) (.inl rfl) ⟨rfl, rfl⟩ st

/-- &a[j] of an array of single cells -/
theorem mo_indexArr1 {t n el : Nat} {o i : Operand} {b c : Nat} {k : IntKind} {j : Nat} [p : ArT P t n el] [z : Siz P el 1] (hx : ev e o = some (.pointer (some ⟨b, c, none⟩))) (hi : ev e i = some (.int k (j : Nat))) (h1 : j < n) : Mo P e (.indexAddr t o i) ty L fun v' L' => v' = .pointer (some ⟨b, c + j, none⟩) ∧ L' = L :=
  mo_indexArr hx hi (by omega) (by omega) (by omega)

/-- &s[j] of a slice -/
theorem mo_index {t el sz : Nat} {o i : Operand} {b c n cp : Nat} {k : IntKind} {j : Nat} [p : SlT P t el] [z : Siz P el sz] (hx : ev e o = some (.slice (some ⟨b, c, none⟩) n cp)) (hi : ev e i = some (.int k (j : Nat))) (h1 : j < n) : Mo P e (.indexAddr t o i) ty L fun v' L' => v' = .pointer (some ⟨b, c + j * sz, none⟩) ∧ L' = L :=
  mo_indexAddr hx hi (by omega) (by omega) (by simp)
theorem mo_index1 {t el : Nat} {o i : Operand} {b c n cp : Nat} {k : IntKind} {j : Nat} [p : SlT P t el] [z : Siz P el 1] (hx : ev e o = some (.slice (some ⟨b, c, none⟩) n cp)) (hi : ev e i = some (.int k (j : Nat))) (h1 : j < n) : Mo P e (.indexAddr t o i) ty L fun v' L' => v' = .pointer (some ⟨b, c + j, none⟩) ∧ L' = L :=
  mo_indexAddr hx hi (by omega) (by omega) (by omega)
/-- … of two cells each -/
theorem mo_index2 {t el : Nat} {o i : Operand} {b c n cp : Nat} {k : IntKind} {j : Nat} [p : SlT P t el] [z : Siz P el 2] (hx : ev e o = some (.slice (some ⟨b, c, none⟩) n cp)) (hi : ev e i = some (.int k (j : Nat))) (h1 : j < n) : Mo P e (.indexAddr t o i) ty L fun v' L' => v' = .pointer (some ⟨b, c + 2 * j, none⟩) ∧ L' = L :=
  mo_indexAddr hx hi (by omega) (by omega) (by omega)

theorem mo_max {o o' : Operand} {tys : Array TypeId} {k : IntKind} {a b : Int} (hx : ev e o = some (.int k a)) (hy : ev e o' = some (.int k b)) : Mo P e (.call ⟨.builtin .max, #[o, o'], tys⟩) ty L fun v' L' => v' = .int k (max a b) ∧ L' = L := by
  intro M _ _ t h Q X ag s q
  show wpS P M (Sem.bind (Builtin.max_ tys ty (#[o, o'].map (evT t))) fun v => pure (.value v)) h Q X
  rw [show #[o, o'].map (evT t) = #[evT t o, evT t o'] by simp, ag.ev hx, ag.ev hy]
  refine q _ L h (.value (.int k (if b > a then b else a))) (.inl ?_) ⟨rfl, rfl⟩ s
  congr 2
  split <;> omega
end

theorem tr_and {P : Program} {B : Hand} {x : B.X} {L F : List HProp} {p : Prop} {c : HProp} {f : FuncId} {args : List Value} {R : Value → List HProp → B.X → Prop} (hh : Has L (fun h => p ∧ c h) F) (t : p → Tr P B f args (c :: F) x R) : Tr P B f args L x R :=
  fun h um Q hs q pn => by
    obtain ⟨hp, s⟩ := star_and (hh.star hs)
    exact t hp h um Q s q pn

/-- A CALL in a drawn region, while reads are still promised: they are promised anew. -/
theorem ap_callR {P : Program} {B : Hand} {kd : CallKind} {n : Nat} {ops : Array Oper} {ord R : List Nat} {Pd : List Pn} {K : Post B} {e : Env} {z : Z} {L : List HProp} {x : B.X} [Lets B] {i : Nat} {Pd' : List Pn} {d : Option Nat} {fo : Operand} {args : List Operand} {tys : Array TypeId} {ty : TypeId} {pos : String} {aft : Array Edge} {gd : Option (Nat × Bool)} {fv : Value} {f : FuncId} {first cap vs : List Value} {Q : Value → List HProp → B.X → Prop} (ho : nth ops.toList i = some ⟨d, .call ⟨.value fo, args.toArray, tys⟩, ty, pos, aft, gd⟩)
    (hdom : (R.all fun j => (anc ops ops.size j).contains i) = true) (hpd' : pdKeep ops i Pd = Pd') (hg : gYes (resE (readsOf n ops i) e) (guardOf n ops ⟨d, .call ⟨.value fo, args.toArray, tys⟩, ty, pos, aft, gd⟩))
    (hf : ev (resE (readsOf n ops i) e) fo = some fv) (hc : callee? fv = some (f, first, cap)) (hargs : EvL (resE (readsOf n ops i) e) args vs) [en : Ent' P f] [pk : Pass K z] (m : Tr P B f (first ++ vs ++ cap) L x Q)
    (hre : ∀ v L' x', Q v L' x' → ∀ p ∈ Pd', p.st = true ∨ ∃ o, nth ops.toList p.i = some o ∧ gYes p.e (guardOf n ops o) ∧ Mo P p.e o.op o.type L' (fun v' L1 => v' = p.v ∧ L1 = L'))
    (k : ∀ v L' x', Q v L' x' → Ap P B kd n ops ord R Pd' K (setE d v e) z L' x') : Ap P B kd n ops ord (i :: R) Pd K e z L x := by
  subst hpd'
  have ho := nth_at ho
  refine ap_loud_gen ho hdom hg fun idx t h ht ha s hw kk => ?_
  refine wr_op ho hw ?_
  have hfv : evT t fo = fv := ha.ev hf
  have hav := hargs.evT ha
  have hex : execOp (evT t) ⟨d, .call ⟨.value fo, args.toArray, tys⟩, ty, pos, aft, gd⟩ = callFunc f (first ++ vs ++ cap).toArray := by
    show (do let d ← resolve (evT t) ⟨.value fo, args.toArray, tys⟩ ty; invoke d.target d.args : Sem Next) = _
    cases fv with
    | func fn fi ca =>
      cases fn with
      | func g =>
        simp only [callee?, Option.some.injEq, Prod.mk.injEq] at hc
        obtain ⟨rfl, rfl, rfl⟩ := hc
        simp only [resolve, hfv, Deferred.ofValue, List.map_toArray, hav]
        show callFunc g ((fi ++ vs.toArray) ++ ca) = _
        congr 1
        apply Array.ext'
        simp
      | _ => cases hc
    | _ => cases hc
  rw [hex]
  refine wpS_callFunc en.ok ?_
  refine m h .run _ s (fun v L' x' h' r s' => ⟨rfl, ?_⟩) (fun ch h' x' hc => ⟨rfl, pk.ok ch t h' x' hc⟩)
  exact kk v L' x' h' s' (fun p hp hk => by
    by_cases hs : p.st = true
    · exact pd_still (Pd' := [p]) (by simp [hs]) p (by simp) hk
    · rcases hre v L' x' r p hp with h | ⟨o, h1, h2, h3⟩
      · exact absurd h hs
      · exact ⟨o, nth_at h1, .inl ⟨h2, by rw [if_neg hs]; exact h3⟩⟩) (k v L' x' r)

/-- what is left of a body behind its first n statements -/
def seqTail : Nat → Code → Code
  | 0, c => c
  | n + 1, .seq _ b => seqTail n b
  | _ + 1, c => c

/- ---- where ways come together ---- -/
section
variable {P : Program} {B : Hand} {kd : CallKind} {n : Nat} {K : Post B} {e : Env} {z : Z} {L F : List HProp} {x : B.X}

/-- what holds where ways come together; every other way out as before -/
def midK {ι : Type} (I : Inv ι B.X) (n : Nat) (z : Z) (K : Post B) : Post B
  | .normal, t, z', h, x => ∃ i, I.ok i ∧ z' = z ∧ t.size = n ∧ Agree (I.e i) t ∧ Star (I.L i) h ∧ I.x i = x
  | ex, t, z', h, x => K ex t z' h x

instance {ι : Type} {I : Inv ι B.X} {n : Nat} {z z' : Z} {K : Post B} [p : Pass K z'] : Pass (midK I n z K) z' := ⟨fun ch t h x q => p.ok ch t h x q⟩

theorem mid_out {ι : Type} (I : Inv ι B.X) {c : Code} (k : ∀ i, I.ok i → We P B kd n c K (I.e i) z (I.L i) (I.x i)) : ∀ ex t z' h x, midK I n z K ex t z' h x → thn P B kd c K ex t z' h x := by
  intro ex t z' h x hm
  cases ex with
  | normal => obtain ⟨i, h1, rfl, h3, h4, h5, rfl⟩ := hm; exact k i h1 t h h3 h4 h5
  | _ => exact hm

theorem we_join {ι : Type} (I : Inv ι B.X) {a c : Code} (w : We P B kd n a (midK I n z K) e z L x) (k : ∀ i, I.ok i → We P B kd n c K (I.e i) z (I.L i) (I.x i)) : We P B kd n a (thn P B kd c K) e z L x :=
  fun t h a1 a2 a3 => (w t h a1 a2 a3).mono (mid_out I k)

theorem we_join2 {ι : Type} (I : Inv ι B.X) {a b c : Code} (w : We P B kd n a (thn P B kd b (midK I n z K)) e z L x) (k : ∀ i, I.ok i → We P B kd n c K (I.e i) z (I.L i) (I.x i)) : We P B kd n a (thn P B kd b (thn P B kd c K)) e z L x :=
  fun t h a1 a2 a3 => (w t h a1 a2 a3).mono fun ex t z' h x hm => by
    cases ex with
    | normal => exact Wc.mono hm (mid_out I k)
    | _ => exact hm

theorem at_mid {ι : Type} {I : Inv ι B.X} (i : ι) (hok : I.ok i) (he : Sub (I.e i) e) (hL : Ent L (I.L i)) (hx : I.x i = x) : At n e L fun t h => ∃ i, I.ok i ∧ z = z ∧ t.size = n ∧ Agree (I.e i) t ∧ Star (I.L i) h ∧ I.x i = x :=
  fun t h a1 a2 a3 => ⟨i, hok, rfl, a1, fun j v hj => a2 j v (he.lk j v hj), hL.star a3, hx⟩
theorem at_midS {ι : Type} {I : Inv ι B.X} (i : ι) (hok : I.ok i) (he : Sub (I.e i) e) (hL : ∀ h, Star L h → Star (I.L i) h) (hx : I.x i = x) : At n e L fun t h => ∃ i, I.ok i ∧ z = z ∧ t.size = n ∧ Agree (I.e i) t ∧ Star (I.L i) h ∧ I.x i = x :=
  fun t h a1 a2 a3 => ⟨i, hok, rfl, a1, fun j v hj => a2 j v (he.lk j v hj), hL h a3, hx⟩
/-- the end of a round, the chunks turned -/
theorem at_roundS {ι : Type} {I : Inv ι B.X} {R : ι → Prop} (i' : ι) (hr : R i') (hok : I.ok i') (he : Sub (I.e i') e) (hL : ∀ h, Star L h → Star (I.L i') h) (hx : I.x i' = x) :
    At n e L fun t h => ∃ i', R i' ∧ I.ok i' ∧ z = z ∧ t.size = n ∧ Agree (I.e i') t ∧ Star (I.L i') h ∧ I.x i' = x :=
  fun t h a1 a2 a3 => ⟨i', hr, hok, rfl, a1, fun j v hj => a2 j v (he.lk j v hj), hL h a3, hx⟩

theorem we_ex {c : Code} {α : Type} {d : α → HProp} (hh : Has L (fun h => ∃ a, d a h) F) (a : ∀ y, We P B kd n c K e z (d y :: F) x) : We P B kd n c K e z L x := at_ex hh a
theorem we_and {c : Code} {p : Prop} {d : HProp} (hh : Has L (fun h => p ∧ d h) F) (a : p → We P B kd n c K e z (d :: F) x) : We P B kd n c K e z L x := at_and hh a
theorem we_open {c : Code} {M : List HProp} (hh : Has L (all M) F) (a : We P B kd n c K e z (M ++ F) x) : We P B kd n c K e z L x := at_open hh a
end

/- ---- rows of structs ---- -/
theorem flat_len {α : Type} {f : α → List Value} {k : Nat} (hf : ∀ a, (f a).length = k) : ∀ (l : List α), (l.map f).flatten.length = l.length * k := by
  intro l
  induction l with
  | nil => simp
  | cons a l ih => simp only [List.map_cons, List.flatten_cons, List.length_append, ih, hf, List.length_cons]; rw [Nat.add_mul]; omega

theorem flat_get {α : Type} {f : α → List Value} {k : Nat} (hf : ∀ a, (f a).length = k) : ∀ (l : List α) (i j : Nat) (a : α), l[i]? = some a → j < k → (l.map f).flatten[k * i + j]? = (f a)[j]? := by
  intro l
  induction l with
  | nil => intro i j a h; simp at h
  | cons b l ih =>
    intro i j a h hj
    simp only [List.map_cons, List.flatten_cons]
    cases i with
    | zero =>
      have e : b = a := by simpa using h
      subst e
      rw [Nat.mul_zero, Nat.zero_add, List.getElem?_append_left (by rw [hf]; exact hj)]
    | succ i =>
      rw [List.getElem?_append_right (by rw [hf, Nat.mul_add]; omega), hf, ← ih i j a (by simpa using h) hj]
      congr 1
      rw [Nat.mul_add]; omega

theorem flat_set {α : Type} {f : α → List Value} {k : Nat} (hf : ∀ a, (f a).length = k) {v : Value} : ∀ (l : List α) (i j : Nat) (a b : α), l[i]? = some a → j < k → f b = (f a).set j v → (l.map f).flatten.set (k * i + j) v = ((l.set i b).map f).flatten := by
  intro l
  induction l with
  | nil => intro i j a b h; simp at h
  | cons c l ih =>
    intro i j a b h hj hb
    cases i with
    | zero =>
      have e : c = a := by simpa using h
      subst e
      simp only [List.map_cons, List.flatten_cons, List.set_cons_zero, Nat.mul_zero, Nat.zero_add]
      rw [List.set_append_left _ _ (by rw [hf]; exact hj), hb]
    | succ i =>
      simp only [List.map_cons, List.flatten_cons, List.set_cons_succ]
      rw [List.set_append_right _ _ (by rw [hf, Nat.mul_add]; omega), hf, ← ih i j a b (by simpa using h) hj hb]
      congr 2
      rw [Nat.mul_add]; omega

end Go.PB

set_option linter.unusedVariables false
set_option linter.unusedSimpArgs false
namespace Go.PB

section
variable {P : Program} {B : Hand} {kd : CallKind} {n : Nat} {ops : Array Oper} {ord R : List Nat} {Pd : List Pn} {K : Post B} {e : Env} {z : Z} {L : List HProp} {x : B.X}

variable (P B kd n) in
/-- the same, where i comes first -/
def Ap1 (ops : Array Oper) (ord : List Nat) (i : Nat) (R : List Nat) (Pd : List Pn) (K : Post B) (e : Env) (z : Z) (L : List HProp) (x : B.X) : Prop :=
  (∃ pre, ord = pre ++ i :: R ∧ ∀ p ∈ Pd, p.i ∈ pre) → OkO n ops ord → (∀ p ∈ Pd, PdOk P n ops L p) → ∀ idx t h, InvA n ops (i :: R) Pd e (i :: idx) t → Star L h → Wr P B kd ops (i :: idx) K t z h x

/-- one of two comes first -/
theorem ap_fork [Lets B] {i f : Nat} {ord' : List Nat} (hdom : (R.all fun j => j == f || (anc ops ops.size j).contains i) = true) (hf : R.contains f = true) (hord : ord' = (ord.takeWhile fun q => !(q == i)) ++ f :: i :: R.erase f) (hok : okOrd n ops ord' = true)
    (a : Ap1 P B kd n ops ord i R Pd K e z L x) (b : Ap1 P B kd n ops ord' f (i :: R.erase f) Pd K e z L x) : Ap P B kd n ops ord (i :: R) Pd K e z L x := by
  rintro ⟨pre, hpre, hin⟩ ok hpd
  have hfR : f ∈ R := by simpa using hf
  refine ap_run ok hpd (fun t h I s => ?_) (fun j idx t h hj I s => ?_)
  · have := I.all i (by simp); simp at this
  · have hnd : (pre ++ i :: R).Nodup := hpre ▸ ok.nd
    have htw : ord.takeWhile (fun q => !(q == i)) = pre := by rw [hpre]; exact takeWhile_pre hnd
    have hnd2 := List.nodup_cons.1 (List.nodup_append.1 hnd).2.1
    by_cases hji : j = i
    · subst hji
      exact a ⟨pre, hpre, hin⟩ ok hpd idx t h I s
    · have hjf : j = f := by
        rcases List.mem_cons.1 hj with h1 | h1
        · exact absurd h1 hji
        · have := (List.all_eq_true.1 hdom) j h1
          simp only [Bool.or_eq_true, beq_iff_eq, List.contains_eq_mem, decide_eq_true_eq] at this
          rcases this with h2 | h2
          · exact h2
          · exact absurd (I.all i (by simp)) (I.first ok h2)
      subst hjf
      have hmem : ∀ y, (y ∈ j :: i :: R.erase j) ↔ y ∈ i :: R := by
        intro y
        simp only [List.mem_cons, hnd2.2.mem_erase_iff]
        constructor
        · rintro (rfl | rfl | ⟨_, h⟩)
          · exact .inr hfR
          · exact .inl rfl
          · exact .inr h
        · rintro (rfl | h)
          · exact .inr (.inl rfl)
          · by_cases e : y = j
            · exact .inl e
            · exact .inr (.inr ⟨e, h⟩)
      refine b ⟨pre, by rw [hord, htw], hin⟩ (okOrd_ok hok) hpd idx t h ⟨I.sz, I.nd, I.lt, fun q hq => ?_, fun q hq => I.all q ((hmem q).1 hq), fun p hp hh => I.dj p hp ((hmem _).1 hh), I.pu, I.resp, I.dn, I.envok, I.pok⟩ s
      rcases I.sub q hq with h1 | h1
      · exact .inl ((hmem q).2 h1)
      · exact .inr h1

theorem ap1_gen [Lets B] {i : Nat} {o : Oper} (ho : ops[i]? = some o) (hg : gYes (resE (readsOf n ops i) e) (guardOf n ops o))
    (w : ∀ idx t h, t.size = n → Agree (resE (readsOf n ops i) e) t → Star L h → Region.wanted o (yielded ops t) = true →
      (∀ v L' x' h', Star L' h' → (∀ p ∈ pdKeep ops i Pd, PdOk P n ops L p → PdOk P n ops L' p) → Ap P B kd n ops ord R (pdKeep ops i Pd) K (setE o.dst v e) z L' x' → Wr P B kd ops idx K (setDst o t v) z h' x') → Wr P B kd ops (i :: idx) K t z h x) : Ap1 P B kd n ops ord i R Pd K e z L x := by
  rintro ⟨pre, hpre, hin⟩ ok hpd idx t h I s
  obtain ⟨ha, _⟩ := I.loud ok hpre hin ho undef
  refine w idx t h I.sz ha s (wanted_yes' I.sz ha hg) fun v L' x' h' s' hst hap => ?_
  obtain ⟨_, I'⟩ := I.loud ok hpre hin ho v
  exact hap ⟨pre ++ [i], by rw [hpre]; simp, fun p hp => by simp [hin p (List.mem_filter.1 hp).1]⟩ ok (fun p hp => hst p hp (hpd p (List.mem_filter.1 hp).1)) idx _ h' I' s'

theorem ap1_mo [Lets B] {i : Nat} {o : Oper} {d : Option Nat} {Pd' : List Pn} {Q : Value → List HProp → Prop} (ho : nth ops.toList i = some o) (hd : o.dst = d) (hpd' : pdKeep ops i Pd = Pd') (hg : gYes (resE (readsOf n ops i) e) (guardOf n ops o))
    (m : Mo P (resE (readsOf n ops i) e) o.op o.type L Q) (hre : ∀ v L', Q v L' → ∀ p ∈ Pd', p.st = true ∨ ∃ o, nth ops.toList p.i = some o ∧ gYes p.e (guardOf n ops o) ∧ Mo P p.e o.op o.type L' (fun v' L1 => v' = p.v ∧ L1 = L'))
    (k : ∀ v L', Q v L' → Ap P B kd n ops ord R Pd' K (setE d v e) z L' x) : Ap1 P B kd n ops ord i R Pd K e z L x := by
  subst hd
  subst hpd'
  have ho := nth_at ho
  refine ap1_gen ho hg fun idx t h ht ha s hw kk => ?_
  refine wr_op ho hw ?_
  rw [execOp_of (op := o.op) (ty := o.type) _ rfl rfl]
  refine m _ Lets.noRoom Lets.ext t h _ _ ha s fun v' L' h' nx hnx hr hs => ?_
  have := kk v' L' x h' hs (fun p hp hk => by
    by_cases hs : p.st = true
    · exact pd_still (Pd' := [p]) (by simp [hs]) p (by simp) hk
    · rcases hre v' L' hr p hp with h | ⟨o, h1, h2, h3⟩
      · exact absurd h hs
      · exact ⟨o, nth_at h1, .inl ⟨h2, by rw [if_neg hs]; exact h3⟩⟩) (k v' L' hr)
  rcases hnx with rfl | ⟨rfl, rfl⟩
  · exact this
  · exact this

theorem ap1_call [Lets B] {i : Nat} {Pd' : List Pn} {d : Option Nat} {fo : Operand} {args : List Operand} {tys : Array TypeId} {ty : TypeId} {pos : String} {aft : Array Edge} {gd : Option (Nat × Bool)} {fv : Value} {f : FuncId} {first cap vs : List Value} {Q : Value → List HProp → B.X → Prop} (ho : nth ops.toList i = some ⟨d, .call ⟨.value fo, args.toArray, tys⟩, ty, pos, aft, gd⟩)
    (hpd' : pdKeep ops i Pd = Pd') (hg : gYes (resE (readsOf n ops i) e) (guardOf n ops ⟨d, .call ⟨.value fo, args.toArray, tys⟩, ty, pos, aft, gd⟩))
    (hf : ev (resE (readsOf n ops i) e) fo = some fv) (hc : callee? fv = some (f, first, cap)) (hargs : EvL (resE (readsOf n ops i) e) args vs) [en : Ent' P f] [pk : Pass K z] (m : Tr P B f (first ++ vs ++ cap) L x Q)
    (hre : ∀ v L' x', Q v L' x' → ∀ p ∈ Pd', p.st = true ∨ ∃ o, nth ops.toList p.i = some o ∧ gYes p.e (guardOf n ops o) ∧ Mo P p.e o.op o.type L' (fun v' L1 => v' = p.v ∧ L1 = L'))
    (k : ∀ v L' x', Q v L' x' → Ap P B kd n ops ord R Pd' K (setE d v e) z L' x') : Ap1 P B kd n ops ord i R Pd K e z L x := by
  subst hpd'
  have ho := nth_at ho
  refine ap1_gen ho hg fun idx t h ht ha s hw kk => ?_
  refine wr_op ho hw ?_
  have hfv : evT t fo = fv := ha.ev hf
  have hav := hargs.evT ha
  have hex : execOp (evT t) ⟨d, .call ⟨.value fo, args.toArray, tys⟩, ty, pos, aft, gd⟩ = callFunc f (first ++ vs ++ cap).toArray := by
    show (do let d ← resolve (evT t) ⟨.value fo, args.toArray, tys⟩ ty; invoke d.target d.args : Sem Next) = _
    cases fv with
    | func fn fi ca =>
      cases fn with
      | func g =>
        simp only [callee?, Option.some.injEq, Prod.mk.injEq] at hc
        obtain ⟨rfl, rfl, rfl⟩ := hc
        simp only [resolve, hfv, Deferred.ofValue, List.map_toArray, hav]
        show callFunc g ((fi ++ vs.toArray) ++ ca) = _
        congr 1
        apply Array.ext'
        simp
      | _ => cases hc
    | _ => cases hc
  rw [hex]
  refine wpS_callFunc en.ok ?_
  refine m h .run _ s (fun v L' x' h' r s' => ⟨rfl, ?_⟩) (fun ch h' x' hc => ⟨rfl, pk.ok ch t h' x' hc⟩)
  exact kk v L' x' h' s' (fun p hp hk => by
    by_cases hs : p.st = true
    · exact pd_still (Pd' := [p]) (by simp [hs]) p (by simp) hk
    · rcases hre v L' x' r p hp with h | ⟨o, h1, h2, h3⟩
      · exact absurd h hs
      · exact ⟨o, nth_at h1, .inl ⟨h2, by rw [if_neg hs]; exact h3⟩⟩) (k v L' x' r)

/-- the chunks in another order -/
theorem ap_star {L' : List HProp} (hs : ∀ h, Star L h → Star L' h) (hre : ∀ p ∈ Pd, p.st = true ∨ ∃ o, nth ops.toList p.i = some o ∧ gYes p.e (guardOf n ops o) ∧ Mo P p.e o.op o.type L' (fun v' L1 => v' = p.v ∧ L1 = L')) (k : Ap P B kd n ops ord R Pd K e z L' x) : Ap P B kd n ops ord R Pd K e z L x := by
  intro hpre ok hpd idx t h I s
  refine k hpre ok (fun p hp => ?_) idx t h I (hs h s)
  by_cases hst : p.st = true
  · exact pd_still (Pd' := [p]) (by simp [hst]) p (by simp) (hpd p hp)
  · rcases hre p hp with h | ⟨o, h1, h2, h3⟩
    · exact absurd h hst
    · exact ⟨o, nth_at h1, .inl ⟨h2, by rw [if_neg hst]; exact h3⟩⟩
end
end Go.PB

namespace Go.PB
variable {P : Program} {B : Hand} {kd : CallKind} {n : Nat} {K : Post B} {e : Env} {z : Z} {L : List HProp} {x : B.X}
/-- a loop, round by round, as long as the least thing asked for it lasts; the slots go with the state -/
theorem we_lfpE {c : Code} {S : Type} (T : (S → Prop) → S → Prop) (C : S → List HProp) (xs : S → B.X) (e0 : S → Env) (s : S) (h : ∀ X : S → Prop, (∀ s, T X s → X s) → X s)
    (he : Sub (e0 s) e) (hL : Ent L (C s)) (hx : xs s = x)
    (round : ∀ s, T (fun s => We P B kd n c (inLp (Wl P B kd c K) K) (e0 s) z (C s) (xs s)) s → We P B kd n c (inLp (Wl P B kd c K) K) (e0 s) z (C s) (xs s)) : We P B kd n (.loop c) K e z L x := by
  subst hx
  exact we_loop1 (we_sub (e0 s) he (we_ent _ hL (h _ round)))
end Go.PB
namespace Go.PB
/-- a struct, by what is named of it -/
theorem mo_buildV {P : Program} {e : Env} {ty : TypeId} {L : List HProp} {t : TypeId} {parts : Array (Nat × Operand)} {vs : List Value} {ps : Array (Nat × Nat)} {z cells : Array Value} [p : StT P t ps z] (hv : EvL e (parts.toList.map (·.2)) vs) (hf : Instr.fill (ps[·]?) z ((parts.toList.map (·.1)).zip vs) = some cells) : Mo P e (.build t parts) ty L fun v' L' => v' = .agg cells ∧ L' = L := by
  have hl : ∀ {os : List Operand} {vs : List Value}, EvL e os vs → os.length = vs.length := by
    intro os vs h
    induction h with
    | nil => rfl
    | cons _ _ ih => simp [ih]
  have hlen := hl hv
  rw [List.length_map] at hlen
  refine mo_build (pv := (parts.toList.map (·.1)).zip vs) ?_ ?_ hf
  · rw [List.map_fst_zip]; simp [hlen]
  · rw [List.map_snd_zip]
    · exact hv
    · simp [hlen]
/-- a guard that holds nothing is not met -/
theorem wanted_nu {n : Nat} {e : Env} {ops : Array Oper} {t : Array Value} {oo : Oper} (ht : t.size = n) (a : Agree e t) {g : Nat} {w : Bool} (hg : some (g, w) = oo.guard.map fun (j, w) => (((ops[j]?).bind (·.dst)).getD n, w)) (hy : lk e g = some undef) : Region.wanted oo (yielded ops t) = false := by
  unfold Region.wanted
  cases h : oo.guard with
  | none => rw [h] at hg; cases hg
  | some q =>
    obtain ⟨j, w'⟩ := q
    rw [h] at hg
    simp only [Option.map_some, Option.some.injEq, Prod.mk.injEq] at hg
    obtain ⟨rfl, rfl⟩ := hg
    have hv := a _ _ hy
    simp only [yielded]
    cases hj : (ops[j]?).bind (·.dst) with
    | none => rw [hj] at hv; simp [ht] at hv
    | some d => rw [hj] at hv; simp only [Option.getD_some] at hv; simp [hv, undef]

theorem wo_nu {P : Program} {B : Hand} {kd : CallKind} {n : Nat} {K : Post B} {e : Env} {z : Z} {L : List HProp} {x : B.X} {l : List OpG} {d : Option Nat} {op : Op} {ty : TypeId} {g : Nat} {w : Bool} (hg : lk e g = some undef) (k : Wo P B kd n l K (setE d undef e) z L x) : Wo P B kd n (⟨d, op, ty, some (g, w)⟩ :: l) K e z L x := by
  intro ops idx h1 h2 t h a1 a2 a3
  obtain ⟨i, idx', oo, rfl, h3, h4, h5, h6, h7, h8⟩ := map_head h1
  exact wr_skip h4 (wanted_nu a1 a2 h8 hg) (k ops idx' h3 (dOk_tail h2) _ h ((setDst_size ..).trans a1) (a2.setE h5 (by rw [a1]; exact dOk_head h2) _) a3)

/-- … of three integers -/
theorem equalIn_three {P : Program} {M : Mark → Prop} {d : Nat} {t : TypeId} {f0 f1 f2 : Field} {k0 k1 k2 : IntKind} {a0 b0 a1 b1 a2 b2 : Int} (ht : P.underlying t = some (.struct #[f0, f1, f2])) (hs : P.stoodInHeld t = false)
    (n0 : f0.name ≠ "_") (n1 : f1.name ≠ "_") (n2 : f2.name ≠ "_") (o0 : f0.offset = 0) (o1 : f1.offset = 1) (o2 : f2.offset = 2) (t0 : P.underlying f0.type = some (.int k0)) (t1 : P.underlying f1.type = some (.int k1)) (t2 : P.underlying f2.type = some (.int k2))
    {h : Hp} {Q : Bool → Hp → Prop} {X : Value → Hp → Prop} (q : Q (decide (a0 = b0 ∧ a1 = b1 ∧ a2 = b2)) h) :
    wpS P M (Op.equalIn (d + 2) t (.agg #[.int k0 a0, .int k1 a1, .int k2 a2]) (.agg #[.int k0 b0, .int k1 b1, .int k2 b2])) h Q X := by
  unfold Op.equalIn
  refine wpS_underlying ht ?_
  dsimp only
  refine wpS_program (β := Unit) ?_
  simp only [hs, Bool.false_eq_true, if_false, ← Array.forIn_toList, List.forIn_cons, List.forIn_nil, n0, n1, n2, ne_eq, not_false_eq_true, if_true, bind_assoc, pure_bind, o0, o1, o2]
  refine wpS_partI t0 rfl (wpS_partI t0 rfl (wpS_equalI t0 ?_))
  by_cases e0 : a0 = b0
  · subst e0
    simp only [beq_self_eq_true, Bool.not_true, Bool.false_eq_true, if_false, pure_bind, bind_assoc]
    refine wpS_partI t1 rfl (wpS_partI t1 rfl (wpS_equalI t1 ?_))
    by_cases e1 : a1 = b1
    · subst e1
      simp only [beq_self_eq_true, Bool.not_true, Bool.false_eq_true, if_false, pure_bind, bind_assoc]
      refine wpS_partI t2 rfl (wpS_partI t2 rfl (wpS_equalI t2 ?_))
      by_cases e2 : a2 = b2
      · subst e2
        simp only [beq_self_eq_true, Bool.not_true, Bool.false_eq_true, if_false, pure_bind, bind_assoc]
        have q' : Q true h := by simpa using q
        exact q'
      · have : (a2 == b2) = false := by simp [e2]
        simp only [this, Bool.not_false, if_true, pure_bind, bind_assoc]
        have q' : Q false h := by simpa [e2] using q
        exact q'
    · have : (a1 == b1) = false := by simp [e1]
      simp only [this, Bool.not_false, if_true, pure_bind, bind_assoc]
      have q' : Q false h := by simpa [e1] using q
      exact q'
  · have : (a0 == b0) = false := by simp [e0]
    simp only [this, Bool.not_false, if_true, pure_bind, bind_assoc]
    have q' : Q false h := by simpa [e0] using q
    exact q'

/-- '==' of structs, out of the comparison's own run -/
theorem eql_agg {P : Program} {t : TypeId} {a b : Array Value} {r : Bool} {x y : Operand} (hg : P.eqGuardType P.depth t = false)
    (he : ∀ {M : Mark → Prop} {h : Hp} {Q : Bool → Hp → Prop} {X : Value → Hp → Prop}, Q r h → wpS P M (Op.equal t (.agg a) (.agg b)) h Q X) :
    Eql P t x y (.agg a) (.agg b) r := by
  have hgd : ∀ op M (h : Hp) (Q : Unit → Hp → Prop) X, op = .eql ∨ op = .neq → Q () h → wpS P M (eqGuard op t x y (.agg a) (.agg b)) h Q X := by
    intro op M h Q X hop q
    unfold eqGuard
    rcases hop with rfl | rfl
    · simp only [Bool.not_true, Bool.false_eq_true, if_false]
      refine wpS_program (β := Unit) (wpS_program (β := Unit) ?_)
      simp only [hg, Bool.not_false, if_true]
      exact q
    · simp only [Bool.not_true, Bool.false_eq_true, if_false]
      refine wpS_program (β := Unit) (wpS_program (β := Unit) ?_)
      simp only [hg, Bool.not_false, if_true]
      exact q
  intro op hop M h Q X q
  show wpS P M (Sem.bind (Sem.bind (eqGuard op t x y _ _) fun _ => binOp op t _ _) fun v => pure (.value v)) h Q X
  refine wpS_bind _ _ (wpS_bind _ _ (hgd op M h _ _ hop ?_))
  rcases hop with rfl | rfl
  · have h1 : binOp .eql t (.agg a) (.agg b) = (do pure (.bool (← Op.equal t (.agg a) (.agg b))) : Sem Value) := rfl
    rw [h1]
    show wpS P M (Sem.bind (Op.equal t (.agg a) (.agg b)) fun r => pure (Value.bool r)) h _ X
    refine wpS_bind _ _ (he ?_)
    have q' : Q (.value (.bool r)) h := by simpa using q
    exact q'
  · have h1 : binOp .neq t (.agg a) (.agg b) = (do pure (.bool (!(← Op.equal t (.agg a) (.agg b)))) : Sem Value) := rfl
    rw [h1]
    show wpS P M (Sem.bind (Op.equal t (.agg a) (.agg b)) fun r => pure (Value.bool (!r))) h _ X
    refine wpS_bind _ _ (he ?_)
    have q' : Q (.value (.bool (!r))) h := by simpa using q
    exact q'

theorem eql_three {P : Program} {t : TypeId} {f0 f1 f2 : Field} {k0 k1 k2 : IntKind} {a0 b0 a1 b1 a2 b2 : Int} {x y : Operand} [p : Und P t (.struct #[f0, f1, f2])] (hs : P.stoodInHeld t = false) (hg : P.eqGuardType P.depth t = false)
    (n0 : f0.name ≠ "_") (n1 : f1.name ≠ "_") (n2 : f2.name ≠ "_") (o0 : f0.offset = 0) (o1 : f1.offset = 1) (o2 : f2.offset = 2) (t0 : P.underlying f0.type = some (.int k0)) (t1 : P.underlying f1.type = some (.int k1)) (t2 : P.underlying f2.type = some (.int k2)) :
    Eql P t x y (.agg #[.int k0 a0, .int k1 a1, .int k2 a2]) (.agg #[.int k0 b0, .int k1 b1, .int k2 b2]) (decide (a0 = b0 ∧ a1 = b1 ∧ a2 = b2)) :=
  eql_agg hg fun {M h Q X} q => by
    rw [equal_def]
    exact equalIn_three p.ok hs n0 n1 n2 o0 o1 o2 t0 t1 t2 q

/- ---- sync/atomic on pointers ---- -/
section
variable {P : Program} {L : List HProp} {b o : Nat} {p q : Option Addr}
open Extern.Atomic

theorem wpS_readP {M : Mark → Prop} {h : Hp} {Q : Value → Hp → Prop} {X : Value → Hp → Prop} (hc : h.can ⟨b, o, none⟩ (.pointer p)) (k : Q (.pointer p) h) : wpS P M (read .ptr ⟨b, o, none⟩) h Q X := ⟨_, hc, k⟩

theorem at_loadP (hr : Rd L b o (.pointer p)) : ∀ (M : Mark → Prop) h (Q : Value → Hp → Prop) X, Star L h → (∀ v L' h', (v = .pointer p ∧ L' = L) → Star L' h' → Q v h') → wpS P M (loadT .ptr [Value.pointer (some ⟨b, o, none⟩)].toArray) h Q X := by
  intro M h Q X s k
  exact wpS_readP (hr h s) (k _ L h ⟨rfl, rfl⟩ s)

/-- a compare-and-swap that swaps -/
theorem at_casPT {a : Addr} {L1 : List HProp} (hr : Rd L b o (.pointer (some a))) (hw : Wt L b o (.pointer q) L1) : ∀ (M : Mark → Prop) h (Q : Value → Hp → Prop) X, Star L h → (∀ v L' h', (v = .bool true ∧ L' = L1) → Star L' h' → Q v h') → wpS P M (casT .ptr [Value.pointer (some ⟨b, o, none⟩), Value.pointer (some a), .pointer q].toArray) h Q X := by
  intro M h Q X s k
  obtain ⟨h1, h2⟩ := hw h s
  show wpS P M (Sem.bind (touchesFrozen ⟨b, o, none⟩) fun fz => if fz then _ else _) h Q X
  refine wpS_bind _ _ (wpS_touches h1 ?_)
  rw [if_neg (by simp)]
  refine wpS_bind _ _ (wpS_readP (hr h s) ?_)
  show wpS P M (Sem.bind (samePointer (some a) (some a)) fun eq => if eq = true then Sem.bind (store ⟨b, o, none⟩ (.pointer q) .atomic) fun _ => pure (Value.bool eq) else pure (Value.bool eq)) h Q X
  refine wpS_bind _ _ ?_
  have e : samePointer (some a) (some a) = pure true := by
    unfold samePointer sameAddr
    simp
  rw [e]
  exact ⟨rfl, h1, k _ L1 _ ⟨rfl, rfl⟩ h2⟩
end

/- ---- what is known of a block's shape; pointers through unsafe.Pointer ---- -/
/-- the block holds n cells, of variables of type t -/
def shpC (b : Nat) (t : TypeId) (n : Nat) : HProp := fun h => h.shp b = some (t, n)

theorem star_newS {b : Nat} {c : Array Value} {L : List HProp} {h : Hp} {t : TypeId} (f : h.fresh b) (s : Star L h) : Star (arr b 0 c.toList :: shpC b t c.size :: L) (h.newCells b c t) := by
  refine ⟨⟨fun b' o' => if b' = b then c[o']? else none, fun _ _ => none, fun _ => none, fun _ => none⟩, { h with shp := fun b' => if b' = b then some (t, c.size) else h.shp b' },
    ⟨fun _ _ _ e => by simp at e, fun _ _ _ e => e, ?_, ?_, ?_, fun _ _ e => by simp at e, fun _ _ e => e, fun _ => .inl rfl, fun _ _ e => by simp at e, fun _ _ e => e⟩, ?_,
    ⟨fun _ _ => none, fun _ _ => none, fun _ => none, fun b' => if b' = b then some (t, c.size) else none⟩, h, ⟨fun _ _ _ e => by simp at e, fun _ _ _ e => e, fun _ _ _ e => by simp at e, fun _ _ _ e => e, fun _ _ => .inl rfl, fun _ _ e => by simp at e, fun _ _ e => e, fun _ => .inl rfl, ?_, ?_⟩, by simp [shpC], s⟩
  · intro b' o' v e
    simp only [Hp.newCells] at e ⊢
    split at e
    · rename_i hh; simp [hh, e]
    · cases e
  · intro b' o' v e
    simp only [Hp.newCells]
    rw [if_neg (by rintro rfl; simp only at e; rw [f.1] at e; cases e)]
    exact e
  · intro b' o'
    by_cases hb : b' = b
    · subst hb; exact .inr (f.1 o')
    · left; simp [hb]
  · intro i v e
    simp only [Nat.zero_add, if_true]
    simpa using e
  · intro b' y e
    simp only at e ⊢
    split at e
    · rename_i hh; simp [hh, e]
    · cases e
  · intro b' y e
    simp only
    rw [if_neg (by rintro rfl; rw [f.2.2.2] at e; cases e)]
    exact e

theorem shp_of {b : Nat} {t : TypeId} {n : Nat} {L F : List HProp} (hh : Has L (shpC b t n) F) {h : Hp} (s : Star L h) : h.shp b = some (t, n) := by
  obtain ⟨h1, h2, s1, hc, _⟩ := hh.star s
  exact s1.s1 _ _ hc

section
variable {P : Program} {e : Env} {L : List HProp} {ty : TypeId}

theorem mo_boxS {t : TypeId} {o : Operand} {v : Value} (hx : ev e o = some v) : Mo P e (.box t o) ty L fun v' L' => ∃ b, v' = .pointer (some ⟨b, 0, none⟩) ∧ L' = arr b 0 v.cells.toList :: shpC b t v.cells.size :: L := by
  intro M _ _ tt h Q X ag s q
  show wpS P M (Sem.bind (Sem.bind (newVar t (evT tt o)) fun a => pure (.pointer (some a))) fun v => pure (.value v)) h Q X
  rw [ag.ev hx]
  refine wpS_bind _ _ (wpS_bind _ _ fun b hf => ?_)
  exact q _ _ _ _ (.inl rfl) ⟨b, rfl, rfl⟩ (star_newS hf s)

theorem wpS_shapeK {M : Mark → Prop} {α : Type} {b n : Nat} {t : TypeId} {h : Hp} {k : Option (TypeId × Nat) → Sem α} {Q : α → Hp → Prop} {X : Value → Hp → Prop} (hs : h.shp b = some (t, n)) (q : wpS P M (k (some (t, n))) h Q X) : wpS P M (Sem.bind (shape b) k) h Q X := by
  show wpS P M (.shape b fun s => k s) h Q X
  refine ⟨.inr (by rw [hs]; rfl), fun t' n' _ hy => ?_⟩
  have := hy _ hs
  cases this
  exact q

theorem wpS_seen {M : Mark → Prop} {α : Type} {b o n : Nat} {t : TypeId} {h : Hp} {k : Addr → Sem α} {Q : α → Hp → Prop} {X : Value → Hp → Prop} (hs : h.shp b = some (t, n)) (q : wpS P M (k ⟨b, o, none⟩) h Q X) : wpS P M (Sem.bind (Conv.seenAt ⟨b, o, none⟩) k) h Q X := by
  refine wpS_bind _ _ ?_
  unfold Conv.seenAt
  refine wpS_bind _ _ ?_
  unfold viewAt
  exact wpS_shapeK hs q

theorem mo_convPU {src dst u : TypeId} {sz : Nat} {o : Operand} {b n : Nat} {t : TypeId} [ps : Und P src (.pointer u)] [pd : Und P dst .unsafePointer] [z : Siz P u sz] (hz : sz ≠ 0) (hx : ev e o = some (.pointer (some ⟨b, 0, none⟩))) (hs : ∀ h, Star L h → h.shp b = some (t, n)) (hn : n ≠ 0) :
    Mo P e (.convert src dst o) ty L fun v' L' => v' = .pointer (some ⟨b, 0, none⟩) ∧ L' = L := by
  intro M _ _ tt h Q X ag s q
  show wpS P M (Sem.bind (convert src dst (evT tt o)) fun v => pure (.value v)) h Q X
  rw [ag.ev hx]
  have hh := hs h s
  refine wpS_bind _ _ (wpS_underlying ps.ok (wpS_underlying pd.ok ?_))
  refine wpS_underlying ps.ok (wpS_underlying pd.ok (wpS_seen hh ?_))
  refine wpS_bind _ _ ?_
  unfold cellsIn
  refine wpS_shapeK hh ?_
  refine wpS_sizeOf z.ok ?_
  have e1 : (decide (sz = 0) || (decide (0 ≥ n) && true)) = false := by simp [hz]; omega
  show wpS P M (if (decide (sz = 0) || (decide (0 ≥ n) && true)) = true then _ else _) h _ X
  rw [if_neg (by rw [e1]; decide)]
  exact q _ L h _ (.inl rfl) ⟨rfl, rfl⟩ s

theorem mo_convUP {src dst u : TypeId} {sz : Nat} {o : Operand} {b n : Nat} {t : TypeId} [ps : Und P src .unsafePointer] [pd : Und P dst (.pointer u)] [z : Siz P u sz] (hz : sz ≠ 0) (hx : ev e o = some (.pointer (some ⟨b, 0, none⟩))) (hs : ∀ h, Star L h → h.shp b = some (t, n)) (hl : liesAt P P.depth t (n / P.cellsOf t) 0 u 1 = true) :
    Mo P e (.convert src dst o) ty L fun v' L' => v' = .pointer (some ⟨b, 0, none⟩) ∧ L' = L := by
  intro M _ _ tt h Q X ag s q
  show wpS P M (Sem.bind (convert src dst (evT tt o)) fun v => pure (.value v)) h Q X
  rw [ag.ev hx]
  have hh := hs h s
  refine wpS_bind _ _ (wpS_underlying ps.ok (wpS_underlying pd.ok ?_))
  refine wpS_underlying ps.ok (wpS_underlying pd.ok (wpS_seen hh ?_))
  refine wpS_sizeOf z.ok ?_
  refine wpS_bind _ _ ?_
  unfold variablesAt
  refine wpS_program (β := Unit) ?_
  refine wpS_shapeK hh ?_
  show wpS P M (if (decide (sz = 0) || liesAt P P.depth t (n / P.cellsOf t) 0 u 1) = true then _ else _) h _ X
  rw [if_pos (by rw [hl]; simp)]
  exact q _ L h _ (.inl rfl) ⟨rfl, rfl⟩ s
end

end Go.PB
