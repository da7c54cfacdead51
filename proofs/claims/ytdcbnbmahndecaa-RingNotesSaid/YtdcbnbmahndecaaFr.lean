/-
  FOUNDATION, PART 16. The end of a function whose results lie in slots or in memory. No program in sight.
-/
import Derived.Test.YtdcbnbmahndecaaFo
set_option linter.unusedVariables false
set_option linter.unusedSimpArgs false
namespace Go.PB

/-- a result: in a slot; a struct in memory -/
inductive ResV (P : Program) (e : Env) (L : List HProp) : ResultVar → Value → Prop
  | tmp {i : Nat} {v : Value} : lk e i = some v → ResV P e L (.tmp i) v
  | cell {a ty n b o : Nat} {vs : List Value} [p : AggT P ty] [sz : Siz P ty n] : lk e a = some (.pointer (some ⟨b, o, none⟩)) → n = vs.length → Rds L b o vs → ResV P e L (.cell a ty) (.agg vs.toArray)

inductive ResL (P : Program) (e : Env) (L : List HProp) : List ResultVar → List Value → Prop
  | nil : ResL P e L [] []
  | cons {r : ResultVar} {v : Value} {rs : List ResultVar} {vs : List Value} : ResV P e L r v → ResL P e L rs vs → ResL P e L (r :: rs) (v :: vs)

/-- results together -/
def packR : List Value → Value
  | [a] => a
  | vs => .tuple vs.toArray

/-- a result's value -/
def loadR (t : Array Value) : ResultVar → Sem Value
  | .tmp i => pure (t.getD i undef)
  | .cell a ty => do loadVar ty (← asAddr (t.getD a undef))

variable {P : Program} {B : Hand} {kd : CallKind} {n : Nat} {e : Env} {L : List HProp} {x : B.X}

theorem ResV.load {r : ResultVar} {v : Value} {t : Array Value} {M : Mark → Prop} {h : Hp} {Q : Value → Hp → Prop} {X : Value → Hp → Prop} (rv : ResV P e L r v) (ag : Agree e t) (s : Star L h) (q : Q v h) :
    wpS P M (loadR t r) h Q X := by
  cases rv with
  | @tmp i v hi =>
    have : t.getD i undef = v := ag.ev (o := .tmp i) hi
    show Q (t.getD i undef) h
    rw [this]; exact q
  | @cell a ty n b o vs p sz ha hn hr =>
    have : t.getD a undef = _ := ag.ev (o := .tmp a) ha
    show wpS P M (Sem.bind (asAddr (t.getD a undef)) fun y => loadVar ty y) h Q X
    rw [this]
    show wpS P M (loadVar ty ⟨b, o, none⟩) h Q X
    show wpS P M (Sem.bind (isAgg ty) _) h _ X
    refine wpS_isAgg p.ok ?_
    rw [if_pos rfl]
    show wpS P M (Sem.bind (sizeOf ty) fun n => Sem.bind (loadCells ⟨b, o, none⟩ n) fun x => pure (Value.agg x)) h _ X
    exact wpS_sizeOf sz.ok (wpS_bind _ _ (wpS_loadCells hn (fun j v hv => hr j v hv h s) q))

theorem at_leaveM {f : FuncId} {fn : Func} {rs : List ResultVar} {vs : List Value} {um : FrameMode} {Q : End → FrameMode → Hp → B.X → Prop} {R : Value → List HProp → B.X → Prop} {ex : Ex} (hf : P.funcs[f]? = some fn) (hr : fn.results = rs.toArray)
    (q : ∀ v L' x' h', R v L' x' → Star L' h' → Q (.ret v) um h' x') (hex : ex = .ret ∨ ex = .normal) (hv : ResL P e L rs vs) (hR : R (packR vs) L x) :
    At n e L fun t h => leave P B f kd Q ex t ⟨[], um⟩ h x := by
  intro t h a1 a2 a3
  have hw : Wd P B f kd .returning t ⟨[], um⟩ h x Q := by
    refine wd_ret (packR vs) hf rfl ?_ (q _ L x h hR a3)
    have key : ∀ {rs : List ResultVar} {vs : List Value}, ResL P e L rs vs → ∀ (acc : Array Value) (M : Mark → Prop) (Q : Array Value → Hp → Prop) (X : Value → Hp → Prop), Q (acc ++ vs.toArray) h →
        wpS P M (List.foldlM (fun (bs : Array Value) (r : ResultVar) => bs.push <$> loadR t r) acc rs) h Q X := by
      intro rs vs hv
      induction hv with
      | nil => intro acc M Q X hq; have : Q acc h := by simpa using hq
               exact this
      | @cons r v rs vs h1 _ ih =>
        intro acc M Q X hq
        rw [List.foldlM_cons, map_eq_pure_bind]
        refine wpS_bind _ _ (wpS_bind _ _ (h1.load a2 a3 ?_))
        show wpS P M (List.foldlM _ (acc.push v) rs) h Q X
        refine ih (acc.push v) M Q X ?_
        simpa using hq
    unfold results
    rw [hr, Array.mapM_eq_foldlM, ← Array.foldlM_toList]
    refine wpS_bind _ _ ?_
    have e1 : (fun (bs : Array Value) (r : ResultVar) => (bs.push <$> (match r with | .tmp i => pure (t.getD i undef) | .cell a ty => do loadVar ty (← asAddr (t.getD a undef)) : Sem Value) : Sem (Array Value))) = fun bs r => bs.push <$> loadR t r := by
      funext bs r; cases r <;> rfl
    show wpS P _ (List.foldlM (fun (bs : Array Value) (r : ResultVar) => (bs.push <$> (match r with | .tmp i => pure (t.getD i undef) | .cell a ty => do loadVar ty (← asAddr (t.getD a undef)) : Sem Value) : Sem (Array Value))) #[] rs) h _ _
    rw [e1]
    refine key hv #[] _ _ _ ?_
    rw [show (#[] ++ vs.toArray : Array Value) = vs.toArray by simp]
    refine ⟨?_, rfl⟩
    cases vs with
    | nil => rfl
    | cons a l => cases l <;> rfl
  rcases hex with rfl | rfl
  · exact hw
  · exact hw

end Go.PB
