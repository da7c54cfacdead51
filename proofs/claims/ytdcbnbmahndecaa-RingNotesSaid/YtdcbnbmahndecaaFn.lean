/-
  FOUNDATION: ALONE. A function's contract, at a handler that lets nothing by but private steps, as a run of the machine with one goroutine, from the call to its return. No program in sight.
-/
import Derived.Test.YtdcbnbmahndecaaFm
import Derived.Eval
import Derived.Leaving
import Derived.Handed
import Derived.RowKit3
import Derived.Below
import Derived.Carry
import Derived.Conc.LeavingOf
set_option linter.unusedVariables false
set_option linter.unusedSimpArgs false
namespace Go.PB
open Go.Conc

/-- alone: nothing but private steps -/
def solo0 : Hand := ⟨Unit, fun _ => True, fun _ _ _ _ => False, fun _ _ _ _ _ _ => False, fun _ _ _ _ => False⟩

instance : Lets solo0 := ⟨trivial, fun _ => trivial⟩

/-- at the call: nothing is one's own, all that stands may be read -/
def start (W : World) : Hp := ⟨fun _ _ => none, fun b o => W.cell? ⟨b, o, none⟩, fun _ => none⟩

theorem fits_start (W : World) : Fits (start W) W where
  own := fun _ _ _ h => by cases h
  thaw := fun _ _ _ h => by cases h
  ro := fun _ _ _ h => h
  disj := fun _ _ _ h => by cases h
  obj := fun _ _ h => by cases h
  objn := fun _ _ h => by cases h

/-- behind the call: what stood, stands -/
def After (W W' : World) : Prop := RowKit.Below W.heap.size W W' ∧ ∀ a, W'.frozen? a = W.frozen? a

theorem after_of {W W' : World} {h' : Hp} (g : Guar (start W) W W' h') : After W W' :=
  ⟨⟨g.os, g.tape, g.output, g.size, fun i hi => g.block i hi (fun _ => rfl) rfl⟩, g.frz⟩

/-- It comes to its end. -/
def Ends (P : Program) (f : FuncId) (W : World) (R : Value → Hp → Prop) (fr : Frame) (cs : List Frame) (h : Hp) (w : World) : Prop :=
  Fits h w → Guar (start W) W w h → ∃ n fr' v w' w'' h' h'', runN P n (lone fr cs w) = .next (lone fr' [] w') ∧ step P (lone fr' [] w') = .ended (.done v) w'' ∧ Guar (start W) W w' h' ∧ Guar (start W) W w'' h'' ∧ R v h''

theorem stepG_bare_go {P : Program} {fr fr' : Frame} {cs cs' : List Frame} {w w' : World} {es : Array Event} (h : stepG P true (G fr cs) w = .go (G fr' cs') w' es) :
    step P (lone fr cs w) = .next (lone fr' cs' w') := by
  refine step_lone_go ?_
  unfold G at h
  rw [h]; rfl

theorem ends_closed {P : Program} {f : FuncId} {W : World} {R : Value → Hp → Prop} : Closed P solo0 true (fun fr cs h _ => ∀ w, Ends P f W R fr cs h w) where
  priv := by
    intro fr cs h x hs w fw gw
    obtain ⟨fr', cs', w', es, h', hstep, g, _, hk⟩ := hs w fw
    obtain ⟨n, fr2, v, w2, w3, h2, h3, e1, e2, e3, e4, e5⟩ := hk w' g.fits (gw.trans g)
    refine ⟨n + 1, fr2, v, w2, w3, h2, h3, ?_, e2, e3, e4, e5⟩
    have := stepG_bare_go hstep
    simp only [runN, this]
    exact e1
  act := fun _ _ _ _ _ _ h => h.elim
  comm := fun _ _ _ _ _ _ _ _ _ _ h => h.elim
  spawn := fun _ _ _ _ _ _ _ _ h => h.elim

theorem end_alone {P : Program} {fr : Frame} {f : FuncId} {v : Value} {h : Hp} {w : World} (hi : P.inits.idxOf? f = none) (a : AtEnd P fr f .normal h (.ret v)) (fw : Fits h w) :
    ∃ w', step P (lone fr [] w) = .ended (.done v) w' ∧ Guar h w w' h := by
  obtain ⟨h1, h2, h3, h4, h5, fn, hf, hr⟩ := a
  rcases wpS_sound _ hr w #[] fw with ⟨v', w', es', h', e1, g, e2, rfl, rfl⟩ | ⟨_, _, _, _, _, _, _, hx⟩
  · refine ⟨w', step_lone_ended ?_, g⟩
    simp only [Array.empty_append] at e1
    obtain ⟨f1, tmps, f3, f4, f5, f6, f7⟩ := fr
    simp only at h1 h2 h3 h4 h5
    subst h1; subst h2; subst h3; subst h4; subst h5
    have er : (results fn tmps).run P w = .ok v' w' := by rw [← Sem.runT_fst P _ w #[], e1]
    simp [stepG, unwind, hf, er, GStep.after, doReturn, hi, GStep.bare]
  · exact hx.elim

/-- FROM A CONTRACT TO THE RUN. -/
theorem run_of_tr {P : Program} {f : FuncId} {args : List Value} {W : World} {R : Value → List HProp → Unit → Prop} (hi : P.inits.idxOf? f = none)
    (t : Tr P solo0 f args [base W] () R) :
    ∃ n fr v w' w'' h'', runN P n (lone (Frame.enter P f args.toArray .normal) [] W) = .next (lone fr [] w') ∧ step P (lone fr [] w') = .ended (.done v) w'' ∧ Guar (start W) W w'' h'' ∧ ∃ L', R v L' () ∧ Star L' h'' := by
  have hst : Star [base W] (start W) := ⟨start W, ⟨fun _ _ => none, fun _ _ => none, fun _ => none⟩,
    ⟨fun _ _ _ e => e, fun _ _ _ e => (by cases e), fun _ _ _ e => e, fun _ _ _ e => (by cases e), fun _ _ => .inl rfl, fun _ _ e => e, fun _ _ e => (by cases e), fun _ => .inl rfl⟩, fun _ _ _ e => e, trivial⟩
  have key := t (start W) .run (fun e _ h' _ => ∃ v, e = .ret v ∧ ∃ L', R v L' () ∧ Star L' h') hst (fun v L' x' h' r s => ⟨v, rfl, L', r, s⟩)
    true _ (ends_closed (f := f) (W := W) (R := fun v h => ∃ L', R v L' () ∧ Star L' h)) [] (fun h => by cases h) (by
      rintro fr e um' h' x' ha ⟨v, rfl, L', r, s⟩ w fw gw
      obtain ⟨w', e1, g⟩ := end_alone hi ha fw
      exact ⟨0, fr, v, w, w', h', h', rfl, e1, gw, gw.trans g, L', r, s⟩)
    W (fits_start W) (.refl (fits_start W))
  obtain ⟨n, fr, v, w', w'', h', h'', e1, e2, e3, e4, e5⟩ := key
  exact ⟨n, fr, v, w', w'', h'', e1, e2, e4, e5⟩

/-- … AND TO ONE GOOD RUN. -/
theorem good_of_tr {P : Program} {f : FuncId} {args : Array Value} {W : World} {Post : Value → World → Prop} {R : Value → List HProp → Unit → Prop} (hi : P.inits.idxOf? f = none)
    (t : Tr P solo0 f args.toList [base W] () R) (hR : ∀ v L' w', R v L' () → After W w' → Post v w') :
    ∃ M last o w' t', runNT P (M + 1) (solo (G (Frame.enter P f args .normal) []) W) #[] = (.ended o w', t') ∧ runN P M (solo (G (Frame.enter P f args .normal) []) W) = .next last ∧
        step P last = .ended o w' ∧ Conc.Good P Post last o w' t' := by
  obtain ⟨n, fr, v, w', w'', h'', e1, e2, e3, L', r, s⟩ := run_of_tr hi t
  have hend : runN P (n + 1) (lone (Frame.enter P f args .normal) [] W) = .ended (.done v) w'' := by
    rw [runN_add, e1]; simp only [runN, e2]
  have ht : (runNT P (n + 1) (lone (Frame.enter P f args .normal) [] W) #[]).1 = .ended (.done v) w'' := by rw [runNT_fst]; exact hend
  have ha := alone_of_lone (w' := w'') e1
  have hc := (clean_of_lone e1).2
  obtain ⟨a1, a2, a3⟩ := ha
  refine ⟨n, lone fr [] w', .done v, w'', (runNT P (n + 1) (lone (Frame.enter P f args .normal) [] W) #[]).2, Prod.ext ht rfl, e1, e2, v, rfl, hR v L' w'' r (after_of e3), ?_, ?_, onlyLeaving_of_quiet a1, ?_⟩
  · exact fun said => (no_race_of_lone (said := said) P n _ _ e1 (by simp [lone]) rfl).2
  · exact a2
  · exact a3

end Go.PB
