/-
  A THREAD's WHOLE RUN AS A TREE ('Run'): what a contract promises, laid out step by step, over a handler's moves; a tree below another one ('Below') is well founded. No program is in sight.
-/
import Derived.Test.YtabbkjciifnehaaFm
import Derived.Conc.CrowdTrace
import Derived.Conc.Deaf
import Derived.Conc.CrowdSel
import Derived.Conc.QuitsD
set_option linter.unusedVariables false
set_option linter.unusedSimpArgs false
namespace Go.PB
open Go.Conc

/-- what a handler allows, it allows where more is wanted of it than is needed -/
class MonoH (B : Hand) : Prop where
  act : ∀ wk s h x (O O' : Next → Hp → B.X → Prop), (∀ a b c, O a b c → O' a b c) → B.act wk s h x O → B.act wk s h x O'
  comm : ∀ cs bl sh h x (O O' : Value → Hp → B.X → Prop), (∀ a b c, O a b c → O' a b c) → B.comm cs bl sh h x O → B.comm cs bl sh h x O'
  spawn : ∀ d h x (O O' : Hp → B.X → Prop), (∀ b c, O b c → O' b c) → B.spawn d h x O → B.spawn d h x O'
  ghost : ∀ h x (O O' : Hp → B.X → Prop), (∀ b c, O b c → O' b c) → B.ghost h x O → B.ghost h x O'
  late : ∀ s h x (O O' : Hp → B.X → Prop), (∀ b c, O b c → O' b c) → B.late s h x O → B.late s h x O'

/-- what a private step comes to, in a world -/
structure Nx (P : Program) (M : Mark → Prop) (main : Bool) (fr : Frame) (cs : List Frame) (h : Hp) (w : World) where
  fr' : Frame
  cs' : List Frame
  w' : World
  es : Array Event
  h' : Hp
  step : stepG P main (G fr cs) w = .go (G fr' cs') w' es
  guar : Guar h w w' h'
  evs : ∀ e ∈ es, EvOk M h w w'.heap.size e

/-- A RUN: E: where it may end. -/
inductive Run.{u} (P : Program) (B : Hand.{u}) (main : Bool) (E : Frame → List Frame → Hp → B.X → Prop) : Frame → List Frame → Hp → B.X → Type u
  | fin {fr cs h x} (e : E fr cs h x) : Run P B main E fr cs h x
  | priv {fr cs h x} (nx : ∀ w, Fits h w → Nx P B.mark main fr cs h w) (k : ∀ w f, Run P B main E (nx w f).fr' (nx w f).cs' (nx w f).h' x) : Run P B main E fr cs h x
  | act {fr cs h x} (o : Oper) (O : Value → Hp → B.X → Prop) (at_ : AtOp fr o) (ne : fr.kind ≠ .early) (a : B.act (wakes o) (execOp fr.eval o) h x fun nx h' x' => ∃ v, nx = .value v ∧ O v h' x')
      (k : ∀ v h' x', O v h' x' → Run P B main E (fr.finish v) cs h' x') : Run P B main E fr cs h x
  | comm {fr cs h x} (o : Oper) (cases : Array CommCase) (bl : Bool) (sh : CommShape) (O : Value → Hp → B.X → Prop) (at_ : AtOp fr o)
      (runs : ∀ w, Fits h w → (execOp fr.eval o).runT P w #[] = (.ok (.comm cases bl sh) w, #[])) (a : B.comm cases bl sh h x O)
      (k : ∀ v h' x', O v h' x' → Run P B main E (fr.finish v) cs h' x') : Run P B main E fr cs h x
  | spawn {fr cs h x} (o : Oper) (d : Deferred) (O : Hp → B.X → Prop) (at_ : AtOp fr o)
      (runs : ∀ w, Fits h w → (execOp fr.eval o).runT P w #[] = (.ok (.spawn d) w, #[])) (a : B.spawn d h x O)
      (k : ∀ h' x', O h' x' → Run P B main E (fr.finish undef) cs h' x') : Run P B main E fr cs h x
  | late {fr cs h x} (b : Base) (tt : Array Value) (ds : List Deferred) (todo : List Item) (f : Fn) (cap args : Array Value) (O : Hp → B.X → Prop) (e : fr = endFr b tt ({ target := .fn f cap, args } :: ds) todo .returning) (a : B.late (invoke (.fn f cap) args) h x O)
      (k : ∀ h' x', O h' x' → Run P B main E (endFr b tt ds todo .returning) cs h' x') : Run P B main E fr cs h x
  | ghost {fr cs h x} (O : Hp → B.X → Prop) (a : B.ghost h x O) (k : ∀ h' x', O h' x' → Run P B main E fr cs h' x') : Run P B main E fr cs h x

section
variable {P : Program} {B : Hand} {main : Bool} {E : Frame → List Frame → Hp → B.X → Prop}

theorem run_closed [MonoH B] : Closed P B main fun fr cs h x => Nonempty (Run P B main E fr cs h x) where
  priv := by
    intro fr cs h x hs
    have hn : ∀ w (f : Fits h w), ∃ n : Nx P B.mark main fr cs h w, Nonempty (Run P B main E n.fr' n.cs' n.h' x) := fun w f => by
      obtain ⟨fr', cs', w', es, h', h1, h2, h3, h4⟩ := hs w f
      exact ⟨⟨fr', cs', w', es, h', h1, h2, h3⟩, h4⟩
    exact ⟨.priv (fun w f => (hn w f).choose) (fun w f => Classical.choice (hn w f).choose_spec)⟩
  act := by
    intro fr cs h x o ha ne hb
    exact ⟨.act o (fun v h' x' => Nonempty (Run P B main E (fr.finish v) cs h' x')) ha ne hb fun v h' x' q => Classical.choice q⟩
  comm := by
    intro fr cs h x o cases bl sh ha hr hb
    exact ⟨.comm o cases bl sh (fun v h' x' => Nonempty (Run P B main E (fr.finish v) cs h' x')) ha hr hb fun v h' x' q => Classical.choice q⟩
  spawn := by
    intro fr cs h x o d ha hr hb
    exact ⟨.spawn o d (fun h' x' => Nonempty (Run P B main E (fr.finish undef) cs h' x')) ha hr hb fun h' x' q => Classical.choice q⟩
  ghost := by
    intro fr cs h x hb
    exact ⟨.ghost (fun h' x' => Nonempty (Run P B main E fr cs h' x')) hb fun h' x' q => Classical.choice q⟩
  late := by
    intro b t ds todo cs h x f cap args hb
    exact ⟨.late b t ds todo f cap args (fun h' x' => Nonempty (Run P B main E (endFr b t ds todo .returning) cs h' x')) rfl hb fun h' x' q => Classical.choice q⟩

variable (P B main E) in
/-- a run with where it begins -/
structure Node where
  fr : Frame
  cs : List Frame
  h : Hp
  x : B.X
  r : Run P B main E fr cs h x

/-- one is just behind the other -/
inductive Below : Node P B main E → Node P B main E → Prop
  | priv {fr cs h x} {nx : ∀ w, Fits h w → Nx P B.mark main fr cs h w} {k} (w : World) (f : Fits h w) : Below ⟨_, _, _, _, k w f⟩ ⟨fr, cs, h, x, .priv nx k⟩
  | act {fr cs h x o O at_ ne a k} (v : Value) (h' : Hp) (x' : B.X) (q : O v h' x') : Below ⟨_, _, _, _, k v h' x' q⟩ ⟨fr, cs, h, x, .act o O at_ ne a k⟩
  | comm {fr cs h x o cases bl sh O at_ rr a k} (v : Value) (h' : Hp) (x' : B.X) (q : O v h' x') : Below ⟨_, _, _, _, k v h' x' q⟩ ⟨fr, cs, h, x, .comm o cases bl sh O at_ rr a k⟩
  | spawn {fr cs h x o d O at_ rr a k} (h' : Hp) (x' : B.X) (q : O h' x') : Below ⟨_, _, _, _, k h' x' q⟩ ⟨fr, cs, h, x, .spawn o d O at_ rr a k⟩
  | late {fr cs h x b tt ds todo f cap args O e a k} (h' : Hp) (x' : B.X) (q : O h' x') : Below ⟨_, _, _, _, k h' x' q⟩ ⟨fr, cs, h, x, .late b tt ds todo f cap args O e a k⟩
  | ghost {fr cs h x O a k} (h' : Hp) (x' : B.X) (q : O h' x') : Below ⟨_, _, _, _, k h' x' q⟩ ⟨fr, cs, h, x, .ghost O a k⟩

theorem below_wf : WellFounded (Below (P := P) (B := B) (main := main) (E := E)) := by
  refine ⟨fun n => ?_⟩
  obtain ⟨fr, cs, h, x, r⟩ := n
  induction r with
  | fin e => exact ⟨_, fun m hm => by cases hm⟩
  | priv nx k ih => exact ⟨_, fun m hm => by cases hm with | priv w f => exact ih w f⟩
  | act o O at_ ne a k ih => exact ⟨_, fun m hm => by cases hm with | act v h' x' q => exact ih v h' x' q⟩
  | comm o cases bl sh O at_ rr a k ih => exact ⟨_, fun m hm => by cases hm with | comm v h' x' q => exact ih v h' x' q⟩
  | spawn o d O at_ rr a k ih => exact ⟨_, fun m hm => by cases hm with | spawn h' x' q => exact ih h' x' q⟩
  | late b tt ds todo f cap args O e a k ih => exact ⟨_, fun m hm => by cases hm with | late h' x' q => exact ih h' x' q⟩
  | ghost O a k ih => exact ⟨_, fun m hm => by cases hm with | ghost h' x' q => exact ih h' x' q⟩

/-- A run that stands at nothing but a step (ghost moves are made). -/
def Node.plain (n : Node P B main E) : Prop := match n.r with
  | .ghost .. => False
  | _ => True
end

/- ---- lists whose members fall, one by one ---- -/
/-- one member falls; the others stand -/
inductive Falls.{u} {α : Type u} (r : α → α → Prop) : List α → List α → Prop
  | head {a b : α} {l : List α} : r a b → Falls r (a :: l) (b :: l)
  | tail {a : α} {l m : List α} : Falls r l m → Falls r (a :: l) (a :: m)

theorem Falls.wf.{u} {α : Type u} {r : α → α → Prop} (wf : WellFounded r) : WellFounded (Falls r) := by
  refine ⟨fun l => ?_⟩
  induction l with
  | nil => exact ⟨_, fun m hm => by cases hm⟩
  | cons a l ih =>
    have key : ∀ a, Acc r a → ∀ l, Acc (Falls r) l → Acc (Falls r) (a :: l) := by
      intro a ha
      induction ha with
      | intro a _ iha =>
        intro l hl
        induction hl with
        | intro l hl' ihl =>
          refine ⟨_, fun m hm => ?_⟩
          cases hm with
          | head h => exact iha _ h l ⟨l, hl'⟩
          | tail h => exact ihl _ h
    exact key a (wf.apply a) l ih

theorem Falls.set.{u} {α : Type u} {r : α → α → Prop} : ∀ {l : List α} {i : Nat} {a b : α}, l[i]? = some b → r a b → Falls r (l.set i a) l
  | x :: l, 0, a, b, h, hr => by simp at h; subst h; exact .head hr
  | x :: l, i + 1, a, b, h, hr => .tail (Falls.set (by simpa using h) hr)
end Go.PB
/-
  WHAT IS KNOWN OF A PART OF MEMORY ('Kn': all that touched it, in the trace), and how a private step keeps it: for the thread that steps ('kn_step') and for the others ('kn_other'); what a step leaves of other threads' parts ('Sep', 'fits_other'). No program is in sight.
-/
set_option linter.unusedVariables false
set_option linter.unusedSimpArgs false
namespace Go.PB
open Go.Conc

/-- two parts lie apart: neither writes what the other one has -/
structure Sep (h k : Hp) : Prop where
  oo : ∀ b o v, h.own b o = some v → k.own b o = none
  wr : ∀ b o v, h.own b o = some v → k.ro b o = none
  rw : ∀ b o v, h.ro b o = some v → k.own b o = none
  bb : ∀ b v, h.obj b = some v → k.obj b = none

theorem none_of {α : Type} {o : Option α} (h : ∀ v, o = some v → False) : o = none := by
  cases o with
  | none => rfl
  | some v => exact (h v rfl).elim

theorem Sep.symm {h k : Hp} (s : Sep h k) : Sep k h where
  oo := fun b o v e => none_of fun v' e' => by rw [s.oo _ _ _ e'] at e; cases e
  wr := fun b o v e => none_of fun v' e' => by rw [s.rw _ _ _ e'] at e; cases e
  rw := fun b o v e => none_of fun v' e' => by rw [s.wr _ _ _ e'] at e; cases e
  bb := fun b v e => none_of fun v' e' => by rw [s.bb _ _ e'] at e; cases e

/-- what another thread's private step leaves of a part -/
theorem fits_other {h h' k : Hp} {w w' : World} (g : Guar h w w' h') (s : Sep h k) (f : Fits h w) (fk : Fits k w) : Fits k w' where
  own := fun b o v e => by
    have hc := fk.own _ _ _ e
    rw [g.cell _ _ (cell_lt hc) (none_of fun v' e' => by rw [s.oo _ _ _ e'] at e; cases e)]; exact hc
  thaw := fun b o v e => by rw [g.frz]; exact fk.thaw _ _ _ e
  ro := fun b o v e => by
    have hc := fk.ro _ _ _ e
    rw [g.cell _ _ (cell_lt hc) (none_of fun v' e' => by rw [s.wr _ _ _ e'] at e; cases e)]; exact hc
  disj := fk.disj
  obj := fun b ob e => by
    have hb := fk.obj _ _ e
    have hn := fk.objn _ _ e
    rw [g.block b (Array.getElem?_eq_some_iff.1 hb).1 (fun o => none_of fun v e' => ?_) (none_of fun v e' => by rw [s.bb _ _ e'] at e; cases e)]
    · exact hb
    · have hc := f.own _ _ _ e'
      unfold World.cell? at hc
      simp only [hb] at hc
      cases ob <;> simp [isCells] at hc hn
  objn := fk.objn
  shp := fun b y e => by
    have hs := fk.shp _ _ e
    rw [g.shape b (shape_lt hs)]; exact hs

theorem sep_other {h h' k : Hp} {w w' : World} (g : Guar h w w' h') (s : Sep h k) (fk : Fits k w) : Sep h' k where
  oo := fun b o v e => none_of fun v' e' => by
    have hlt := cell_lt (fk.own _ _ _ e')
    cases eh : h.own b o with
    | none => rw [g.newo _ _ hlt eh] at e; cases e
    | some u => rw [s.oo _ _ _ eh] at e'; cases e'
  wr := fun b o v e => none_of fun v' e' => by
    have hlt := cell_lt (fk.ro _ _ _ e')
    cases eh : h.own b o with
    | none => rw [g.newo _ _ hlt eh] at e; cases e
    | some u => rw [s.wr _ _ _ eh] at e'; cases e'
  rw := fun b o v e => none_of fun v' e' => by
    have hlt := cell_lt (fk.own _ _ _ e')
    cases eh : h.own b o with
    | none =>
      cases er : h.ro b o with
      | none => rw [g.newr _ _ hlt eh er] at e; cases e
      | some u => rw [s.rw _ _ _ er] at e'; cases e'
    | some u => rw [s.oo _ _ _ eh] at e'; cases e'
  bb := fun b v e => none_of fun v' e' => by
    have hlt := (Array.getElem?_eq_some_iff.1 (fk.obj _ _ e')).1
    cases eh : h.obj b with
    | none => rw [g.newb _ hlt eh] at e; cases e
    | some u => rw [s.bb _ _ eh] at e'; cases e'

/-- all that touched h's places is in K -/
structure Kn (t : Trace) (K : Nat → Prop) (h : Hp) : Prop where
  own : ∀ b o v, h.own b o = some v → ∀ i a, touchAt t i = some a → a.loc = .cell ⟨b, o, none⟩ → K i
  ro : ∀ b o v, h.ro b o = some v → ∀ i a, touchAt t i = some a → a.loc = .cell ⟨b, o, none⟩ → a.write = true → K i
  obj : ∀ b v, h.obj b = some v → ∀ i a, touchAt t i = some a → a.loc = .obj b → K i

theorem Kn.mono {t : Trace} {K K' : Nat → Prop} {h : Hp} (k : Kn t K h) (hk : ∀ i, K i → K' i) : Kn t K' h :=
  ⟨fun b o v e i a h1 h2 => hk _ (k.own b o v e i a h1 h2), fun b o v e i a h1 h2 h3 => hk _ (k.ro b o v e i a h1 h2 h3), fun b v e i a h1 h2 => hk _ (k.obj b v e i a h1 h2)⟩

/-- a trace names blocks below n alone -/
def Low (t : Trace) (n : Nat) : Prop := ∀ i a, touchAt t i = some a → (∀ d, a.loc = .cell d → d.block < n) ∧ (∀ r, a.loc = .obj r → r < n)

theorem Low.mono {t : Trace} {n n' : Nat} (l : Low t n) (h : n ≤ n') : Low t n' := fun i a e => ⟨fun d hd => Nat.lt_of_lt_of_le ((l i a e).1 d hd) h, fun r hr => Nat.lt_of_lt_of_le ((l i a e).2 r hr) h⟩

/-- what a private step of a thread that has h may touch -/
def Mine (h : Hp) (w : World) (n : Nat) (b : Touch) : Prop :=
  (∃ bl o, b.loc = .cell ⟨bl, o, none⟩ ∧ bl < n ∧ (w.heap.size ≤ bl ∨ (h.own bl o).isSome = true ∨ (b.write = false ∧ (h.ro bl o).isSome = true))) ∨
  (∃ r, b.loc = .obj r ∧ r < n ∧ (w.heap.size ≤ r ∨ (h.obj r).isSome = true))

/-- marks that say nothing -/
def Still (m : Mark) : Prop := m = .noRoom ∨ ∃ f, m = .extern f

/-- operations that say nothing but touches -/
def Plain (op : MemOp) : Prop := ∀ m, op.act = .mark m → Still m

theorem ofEvents_mem {g : Nat} {fn : FuncId} {pos : String} {es : Array Event} {op : MemOp} (h : op ∈ MemOp.ofEvents g fn pos es) : ∃ e ∈ es, op = { g, fn, pos, act := .ofEvent e } := by
  unfold MemOp.ofEvents at h
  split at h
  · simp at h
  · obtain ⟨e, he, rfl⟩ := Array.mem_map.1 h
    exact ⟨e, he, rfl⟩

theorem mine_of_event {M : Mark → Prop} (hM : ∀ m, M m → Still m) {h : Hp} {w : World} {n : Nat} {e : Event} (x : EvOk M h w n e) : (∀ m, MemAct.ofEvent e = .mark m → Still m) ∧ ∀ b, (MemAct.ofEvent e).touch? = some b → Mine h w n b := by
  obtain ⟨loc, wr, sy⟩ := e
  unfold EvOk at x
  cases loc with
  | cell a =>
    refine ⟨fun m hm => by simp [MemAct.ofEvent] at hm, fun b hb => ?_⟩
    simp only [MemAct.ofEvent, MemAct.touch?, Option.some.injEq] at hb
    subst hb
    obtain ⟨bl, o, sp⟩ := a
    obtain ⟨h1, h2, h3⟩ := x
    simp only at h1; subst h1
    exact .inl ⟨bl, o, rfl, h2, h3⟩
  | obj r =>
    have key : ∀ wr sy, (MemAct.access ⟨.obj r, wr, sy⟩).touch? = some ⟨.obj r, wr, if sy then .atomic else .plain⟩ := fun _ _ => rfl
    cases wr <;> cases sy
    · exact ⟨fun m hm => by simp [MemAct.ofEvent] at hm, fun b hb => by simp only [MemAct.ofEvent, key, Option.some.injEq] at hb; subst hb; exact .inr ⟨r, rfl, x.1, x.2⟩⟩
    · exact ⟨fun m hm => by simp [MemAct.ofEvent] at hm, fun b hb => by simp only [MemAct.ofEvent, key, Option.some.injEq] at hb; subst hb; exact .inr ⟨r, rfl, x.1, x.2⟩⟩
    · exact ⟨fun m hm => by simp [MemAct.ofEvent] at hm, fun b hb => by simp only [MemAct.ofEvent, key, Option.some.injEq] at hb; subst hb; exact .inr ⟨r, rfl, x.1, x.2⟩⟩
    · exact ⟨fun m hm => by simp [MemAct.ofEvent] at hm, fun b hb => by simp [MemAct.ofEvent, MemAct.touch?] at hb⟩
  | mark m =>
    have hm := hM m x
    refine ⟨fun m' hm' => ?_, fun b hb => ?_⟩
    · have : m = m' := by cases wr <;> cases sy <;> simpa [MemAct.ofEvent] using hm'
      subst this; exact hm
    · rcases hm with rfl | ⟨f, rfl⟩ <;> cases wr <;> cases sy <;> simp [MemAct.ofEvent, MemAct.touch?] at hb
  | _ => exact x.elim

section
variable {t u : Trace} {g : Nat} {h h' : Hp} {w w' : World}

theorem touch_split {i : Nat} {a : Touch} (e : touchAt (t ++ u) i = some a) : touchAt t i = some a ∨ ∃ op ∈ u, (t ++ u)[i]? = some op ∧ op.act.touch? = some a := by
  obtain ⟨op, h1, h2⟩ := touch_of e
  rcases getElem?_append_cases h1 with ⟨_, h3⟩ | ⟨_, h3⟩
  · exact .inl (by rw [touchAt_of h3]; exact h2)
  · exact .inr ⟨op, h3, h1, h2⟩

/-- A PRIVATE STEP: no race; its thread knows what it has; names stay low. -/
theorem kn_step {said : Bool} (nr : ¬ Race said t) (k : Kn t (Knows t g) h) (lo : Low t w.heap.size) (G : Guar h w w' h') (hu : ∀ op ∈ u, op.g = g) (hm : ∀ op ∈ u, ∀ b, op.act.touch? = some b → Mine h w w'.heap.size b) :
    ¬ Race said (t ++ u) ∧ Kn (t ++ u) (Knows (t ++ u) g) h' ∧ Low (t ++ u) w'.heap.size := by
  refine ⟨noRace_append nr hu fun i a ha op ho b hb hc => ?_, ⟨fun b o v e i a ha hl => ?_, fun b o v e i a ha hl hw => ?_, fun b v e i a ha hl => ?_⟩, fun i a ha => ?_⟩
  · obtain ⟨hloc, _, hwr, _⟩ := hc
    rcases hm op ho b hb with ⟨bl, o, h1, _, h3⟩ | ⟨r, h1, _, h3⟩
    · rw [h1] at hloc
      rcases h3 with h3 | h3 | ⟨h3, h4⟩
      · have := (lo i a ha).1 _ hloc; simp only at this; omega
      · obtain ⟨v, hv⟩ := Option.isSome_iff_exists.1 h3; exact k.own _ _ _ hv _ _ ha hloc
      · obtain ⟨v, hv⟩ := Option.isSome_iff_exists.1 h4; exact k.ro _ _ _ hv _ _ ha hloc (hwr.resolve_right (by simp [h3]))
    · rw [h1] at hloc
      rcases h3 with h3 | h3
      · have := (lo i a ha).2 _ hloc; omega
      · obtain ⟨v, hv⟩ := Option.isSome_iff_exists.1 h3; exact k.obj _ _ hv _ _ ha hloc
  · rcases touch_split ha with ha | ⟨op, ho, hi, _⟩
    · have hlt := (lo i a ha).1 _ hl
      cases eh : h.own b o with
      | none => rw [G.newo _ _ hlt eh] at e; cases e
      | some u => exact (k.own _ _ _ eh _ _ ha hl).app _
    · have := knows_own hi; rwa [hu op ho] at this
  · rcases touch_split ha with ha | ⟨op, ho, hi, _⟩
    · have hlt := (lo i a ha).1 _ hl
      cases eh : h.own b o with
      | none =>
        cases er : h.ro b o with
        | none => rw [G.newr _ _ hlt eh er] at e; cases e
        | some u => exact (k.ro _ _ _ er _ _ ha hl hw).app _
      | some u => exact (k.own _ _ _ eh _ _ ha hl).app _
    · have := knows_own hi; rwa [hu op ho] at this
  · rcases touch_split ha with ha | ⟨op, ho, hi, _⟩
    · have hlt := (lo i a ha).2 _ hl
      cases eh : h.obj b with
      | none => rw [G.newb _ hlt eh] at e; cases e
      | some u => exact (k.obj _ _ eh _ _ ha hl).app _
    · have := knows_own hi; rwa [hu op ho] at this
  · rcases touch_split ha with ha | ⟨op, ho, hi, hb⟩
    · exact (lo.mono G.size) i a ha
    · rcases hm op ho a hb with ⟨bl, o, h1, h2, _⟩ | ⟨r, h1, h2, _⟩
      · exact ⟨fun d hd => (by rw [h1] at hd; cases hd; exact h2), fun r hr => by rw [h1] at hr; cases hr⟩
      · exact ⟨fun d hd => (by rw [h1] at hd; cases hd), fun r' hr => by rw [h1] at hr; cases hr; exact h2⟩

/-- … and the others know what they have. -/
theorem kn_other {K K' : Nat → Prop} {k : Hp} (kk : Kn t K k) (hK : ∀ i, K i → K' i) (s : Sep h k) (fk : Fits k w) {n : Nat} (hm : ∀ op ∈ u, ∀ b, op.act.touch? = some b → Mine h w n b) : Kn (t ++ u) K' k := by
  refine ⟨fun b o v e i a ha hl => ?_, fun b o v e i a ha hl hw => ?_, fun b v e i a ha hl => ?_⟩
  · rcases touch_split ha with ha | ⟨op, ho, hi, hb⟩
    · exact hK _ (kk.own _ _ _ e _ _ ha hl)
    · exfalso
      rcases hm op ho a hb with ⟨bl, o', h1, _, h3⟩ | ⟨r, h1, _, _⟩
      · rw [h1] at hl; cases hl
        rcases h3 with h3 | h3 | ⟨_, h3⟩
        · have := cell_lt (fk.own _ _ _ e); omega
        · obtain ⟨x, hx⟩ := Option.isSome_iff_exists.1 h3; rw [s.oo _ _ _ hx] at e; cases e
        · obtain ⟨x, hx⟩ := Option.isSome_iff_exists.1 h3; rw [s.rw _ _ _ hx] at e; cases e
      · rw [h1] at hl; cases hl
  · rcases touch_split ha with ha | ⟨op, ho, hi, hb⟩
    · exact hK _ (kk.ro _ _ _ e _ _ ha hl hw)
    · exfalso
      rcases hm op ho a hb with ⟨bl, o', h1, _, h3⟩ | ⟨r, h1, _, _⟩
      · rw [h1] at hl; cases hl
        rcases h3 with h3 | h3 | ⟨h3, _⟩
        · have := cell_lt (fk.ro _ _ _ e); omega
        · obtain ⟨x, hx⟩ := Option.isSome_iff_exists.1 h3; rw [s.wr _ _ _ hx] at e; cases e
        · rw [h3] at hw; cases hw
      · rw [h1] at hl; cases hl
  · rcases touch_split ha with ha | ⟨op, ho, hi, hb⟩
    · exact hK _ (kk.obj _ _ e _ _ ha hl)
    · exfalso
      rcases hm op ho a hb with ⟨bl, o', h1, _, _⟩ | ⟨r, h1, _, h3⟩
      · rw [h1] at hl; cases hl
      · rw [h1] at hl; cases hl
        rcases h3 with h3 | h3
        · have := (Array.getElem?_eq_some_iff.1 (fk.obj _ _ e)).1; omega
        · obtain ⟨x, hx⟩ := Option.isSome_iff_exists.1 h3; rw [s.bb _ _ hx] at e; cases e

/-- operations that touch nothing -/
theorem kn_mute {K K' : Nat → Prop} {k : Hp} (kk : Kn t K k) (hK : ∀ i, K i → K' i) (hm : ∀ op ∈ u, op.act.touch? = none) : Kn (t ++ u) K' k := by
  have key : ∀ i a, touchAt (t ++ u) i = some a → touchAt t i = some a := fun i a ha => by
    rcases touch_split ha with ha | ⟨op, ho, hi, hb⟩
    · exact ha
    · rw [hm op ho] at hb; cases hb
  exact ⟨fun b o v e i a ha hl => hK _ (kk.own _ _ _ e _ _ (key _ _ ha) hl), fun b o v e i a ha hl hw => hK _ (kk.ro _ _ _ e _ _ (key _ _ ha) hl hw), fun b v e i a ha hl => hK _ (kk.obj _ _ e _ _ (key _ _ ha) hl)⟩
theorem low_mute {n : Nat} (lo : Low t n) (hm : ∀ op ∈ u, op.act.touch? = none) : Low (t ++ u) n := fun i a ha => by
  rcases touch_split ha with ha | ⟨op, ho, hi, hb⟩
  · exact lo i a ha
  · rw [hm op ho] at hb; cases hb
theorem race_mute {said : Bool} (nr : ¬ Race said t) (hm : ∀ op ∈ u, op.act.touch? = none) : ¬ Race said (t ++ u) := by
  rintro ⟨i, j, hij, ⟨a, b, ha, hb, hc⟩, n1, n2⟩
  have key : ∀ i a, touchAt (t ++ u) i = some a → touchAt t i = some a := fun i a ha => by
    rcases touch_split ha with ha | ⟨op, ho, hi, hb⟩
    · exact ha
    · rw [hm op ho] at hb; cases hb
  exact nr ⟨i, j, hij, ⟨a, b, key _ _ ha, key _ _ hb, hc⟩, fun e => n1 (hb_app u e), fun e => n2 (hb_app u e)⟩
end

/- ---- hearing ---- -/
theorem deafStep_plain {g : Nat} {d : Nat} {y : MemOp} (h : Plain y) : deafStep g d y = d := by
  unfold deafStep
  split
  · rename_i e
    have := h _ e
    rcases this with h | ⟨f, h⟩ <;> cases h
  · rename_i e
    have := h _ e
    rcases this with h | ⟨f, h⟩ <;> cases h
  · rfl
theorem Deaf_plain {t u : Trace} {g : Nat} (hu : ∀ op ∈ u, Plain op) : Deaf (t ++ u) g = Deaf t g := by
  have e : u = u.toList.toArray := by simp
  rw [e, Deaf_append]
  have key : ∀ (l : List MemOp) d, (∀ op ∈ l, Plain op) → l.foldl (deafStep g) d = d := by
    intro l
    induction l with
    | nil => intro d _; rfl
    | cons y l ih =>
      intro d h
      simp only [List.foldl_cons]
      rw [deafStep_plain (h y (by simp))]
      exact ih _ fun op ho => h op (by simp [ho])
  exact key _ _ fun op ho => hu op (by simpa using ho)
theorem Deaf_others {t u : Trace} {g : Nat} (hu : ∀ op ∈ u, op.g ≠ g) : Deaf (t ++ u) g = Deaf t g := by
  have e : u = u.toList.toArray := by simp
  rw [e, Deaf_append]
  have key : ∀ (l : List MemOp) d, (∀ op ∈ l, op.g ≠ g) → l.foldl (deafStep g) d = d := by
    intro l
    induction l with
    | nil => intro d _; rfl
    | cons y l ih =>
      intro d h
      simp only [List.foldl_cons]
      have hy : deafStep g d y = d := by
        have := h y (by simp)
        unfold deafStep
        split <;> simp [this]
      rw [hy]
      exact ih _ fun op ho => h op (by simp [ho])
  exact key _ _ fun op ho => hu op (by simpa using ho)
end Go.PB
/-
  THREADS THAT TAKE TURNS: the game ('Game': what is shared, what each thread plans), what a thread may do beside private steps ('tHand'), what their starter may do ('mHand'); parts of memory that are parted, joined, given up to be read alone ('Frz'). No program is in sight.
-/
set_option linter.unusedVariables false
set_option linter.unusedSimpArgs false
namespace Go.PB
open Go.Conc

/- ---- parts of memory ---- -/
/-- less of it; or the same to be read alone -/
structure Frz (h h1 : Hp) : Prop where
  own : ∀ b o v, h1.own b o = some v → h.own b o = some v
  ro : ∀ b o v, h1.ro b o = some v → h.ro b o = some v ∨ (h.own b o = some v ∧ h1.own b o = none)
  obj : ∀ b v, h1.obj b = some v → h.obj b = some v
  shp : ∀ b y, h1.shp b = some y → h.shp b = some y

theorem Frz.refl {h : Hp} : Frz h h := ⟨fun _ _ _ e => e, fun _ _ _ e => .inl e, fun _ _ e => e, fun _ _ e => e⟩
theorem Split.frz1 {h h1 h2 : Hp} (s : Split h h1 h2) : Frz h h1 := ⟨s.o1, fun _ _ _ e => .inl (s.r1 _ _ _ e), s.b1, s.s1⟩
theorem Split.frz2 {h h1 h2 : Hp} (s : Split h h1 h2) : Frz h h2 := s.swap.frz1

section
variable {h h1 h2 k : Hp} {w : World} {t : Trace} {K : Nat → Prop}

theorem Frz.fits (z : Frz h h1) (f : Fits h w) : Fits h1 w where
  own := fun b o v e => f.own _ _ _ (z.own _ _ _ e)
  thaw := fun b o v e => f.thaw _ _ _ (z.own _ _ _ e)
  ro := fun b o v e => (z.ro _ _ _ e).elim (fun e => f.ro _ _ _ e) (fun e => f.own _ _ _ e.1)
  disj := fun b o v e => none_of fun v' e' => (z.ro _ _ _ e').elim (fun e2 => by rw [f.disj _ _ _ (z.own _ _ _ e)] at e2; cases e2) (fun e2 => by rw [e2.2] at e; cases e)
  obj := fun b ob e => f.obj _ _ (z.obj _ _ e)
  objn := fun b ob e => f.objn _ _ (z.obj _ _ e)
  shp := fun b y e => f.shp _ _ (z.shp _ _ e)

theorem Frz.sep (z : Frz h h1) (s : Sep h k) : Sep h1 k where
  oo := fun b o v e => s.oo _ _ _ (z.own _ _ _ e)
  wr := fun b o v e => s.wr _ _ _ (z.own _ _ _ e)
  rw := fun b o v e => (z.ro _ _ _ e).elim (fun e => s.rw _ _ _ e) (fun e => s.oo _ _ _ e.1)
  bb := fun b v e => s.bb _ _ (z.obj _ _ e)

theorem Frz.kn (z : Frz h h1) (kn : Kn t K h) : Kn t K h1 where
  own := fun b o v e => kn.own _ _ _ (z.own _ _ _ e)
  ro := fun b o v e i a h1 h2 h3 => (z.ro _ _ _ e).elim (fun e => kn.ro _ _ _ e _ _ h1 h2 h3) (fun e => kn.own _ _ _ e.1 _ _ h1 h2)
  obj := fun b v e => kn.obj _ _ (z.obj _ _ e)

theorem Split.sep (s : Split h h1 h2) (f : Fits h w) : Sep h1 h2 where
  oo := fun b o v e => (s.od b o).resolve_left (by rw [e]; simp)
  wr := fun b o v e => none_of fun v' e' => by
    have := f.disj _ _ _ (s.o1 _ _ _ e)
    rw [s.r2 _ _ _ e'] at this; cases this
  rw := fun b o v e => none_of fun v' e' => by
    have := f.disj _ _ _ (s.o2 _ _ _ e')
    rw [s.r1 _ _ _ e] at this; cases this
  bb := fun b v e => (s.bd b).resolve_left (by rw [e]; simp)

theorem fits_join (f1 : Fits h1 w) (f2 : Fits h2 w) (s : Sep h1 h2) : Fits (h1.join h2) w where
  own := fun b o v e => (or_some e).elim (fun e => f1.own _ _ _ e) (fun e => f2.own _ _ _ e.2)
  thaw := fun b o v e => (or_some e).elim (fun e => f1.thaw _ _ _ e) (fun e => f2.thaw _ _ _ e.2)
  ro := fun b o v e => (or_some e).elim (fun e => f1.ro _ _ _ e) (fun e => f2.ro _ _ _ e.2)
  disj := fun b o v e => by
    show (h1.ro b o).or (h2.ro b o) = none
    rcases or_some e with e | ⟨_, e⟩
    · simp [f1.disj _ _ _ e, s.wr _ _ _ e]
    · simp [f2.disj _ _ _ e, s.symm.wr _ _ _ e]
  obj := fun b ob e => (or_some e).elim (fun e => f1.obj _ _ e) (fun e => f2.obj _ _ e.2)
  objn := fun b ob e => (or_some e).elim (fun e => f1.objn _ _ e) (fun e => f2.objn _ _ e.2)
  shp := fun b y e => (or_some e).elim (fun e => f1.shp _ _ e) (fun e => f2.shp _ _ e.2)

theorem split_join (f1 : Fits h1 w) (f2 : Fits h2 w) (s : Sep h1 h2) : Split (h1.join h2) h1 h2 where
  r1 := fun b o v e => by simp [Hp.join, e]
  r2 := fun b o v e => by
    show (h1.ro b o).or (h2.ro b o) = some v
    cases e1 : h1.ro b o with
    | none => simp [e]
    | some u => have a := f1.ro _ _ _ e1; rw [f2.ro _ _ _ e] at a; cases a; rfl
  o1 := fun b o v e => by simp [Hp.join, e]
  o2 := fun b o v e => by simp [Hp.join, e, s.symm.oo _ _ _ e]
  od := fun b o => by
    cases e : h1.own b o with
    | none => exact .inl rfl
    | some v => exact .inr (s.oo _ _ _ e)
  b1 := fun b v e => by simp [Hp.join, e]
  b2 := fun b v e => by simp [Hp.join, e, s.symm.bb _ _ e]
  bd := fun b => by
    cases e : h1.obj b with
    | none => exact .inl rfl
    | some v => exact .inr (s.bb _ _ e)
  s1 := fun b y e => by simp [Hp.join, e]
  s2 := fun b y e => by
    show (h1.shp b).or (h2.shp b) = some y
    cases e1 : h1.shp b with
    | none => simp [e]
    | some u => have a := f1.shp _ _ e1; rw [f2.shp _ _ e] at a; cases a; rfl

theorem sep_join (s1 : Sep h1 k) (s2 : Sep h2 k) : Sep (h1.join h2) k where
  oo := fun b o v e => (or_some e).elim (fun e => s1.oo _ _ _ e) (fun e => s2.oo _ _ _ e.2)
  wr := fun b o v e => (or_some e).elim (fun e => s1.wr _ _ _ e) (fun e => s2.wr _ _ _ e.2)
  rw := fun b o v e => (or_some e).elim (fun e => s1.rw _ _ _ e) (fun e => s2.rw _ _ _ e.2)
  bb := fun b v e => (or_some e).elim (fun e => s1.bb _ _ e) (fun e => s2.bb _ _ e.2)

theorem kn_join (k1 : Kn t K h1) (k2 : Kn t K h2) : Kn t K (h1.join h2) where
  own := fun b o v e => (or_some e).elim (fun e => k1.own _ _ _ e) (fun e => k2.own _ _ _ e.2)
  ro := fun b o v e => (or_some e).elim (fun e => k1.ro _ _ _ e) (fun e => k2.ro _ _ _ e.2)
  obj := fun b v e => (or_some e).elim (fun e => k1.obj _ _ e) (fun e => k2.obj _ _ e.2)
end

def Hp.empty : Hp := ⟨fun _ _ => none, fun _ _ => none, fun _ => none, fun _ => none⟩
theorem fits_empty {w : World} : Fits Hp.empty w := ⟨fun _ _ _ e => (by cases e), fun _ _ _ e => (by cases e), fun _ _ _ e => (by cases e), fun _ _ _ e => (by cases e), fun _ _ e => (by cases e), fun _ _ e => (by cases e), fun _ _ e => (by cases e)⟩
theorem sep_empty {k : Hp} : Sep Hp.empty k := ⟨fun _ _ _ e => (by cases e), fun _ _ _ e => (by cases e), fun _ _ _ e => (by cases e), fun _ _ e => (by cases e)⟩
theorem kn_empty {t : Trace} {K : Nat → Prop} : Kn t K Hp.empty := ⟨fun _ _ _ e => (by cases e), fun _ _ _ e => (by cases e), fun _ _ e => (by cases e)⟩

/- ---- the game ---- -/
/-- What is shared (a state of σ, U: the memory that bears it), and what a thread plans (a state of θ): the mark of its next step, and what it does to what is shared from there on to the step behind it. Pv: what a thread has of its own at the step at which it may be cut off; Fin: what it hands over in the end; ok: what the starter knows of what is shared whenever it gives a turn. -/
structure Game where
  σ : Type
  θ : Type
  U : σ → HProp
  plan : θ → Option ((Int × Int) × (σ → σ × θ))
  ok : σ → Prop
  Pv : θ → HProp
  Fin : θ → HProp

/-- what is given with a turn -/
def Game.W (g : Game) (s : g.σ) : HProp := fun r => g.ok s ∧ g.U s r

/-- where a thread stands: it runs, and will have made s, and plan q; it has said so; it has said that it is over; it is cut off -/
inductive Ph (σ θ : Type) where
  | busy (s : σ) (q : θ) (n : Nat)
  | said (q : θ) (n : Nat)
  | over (q : θ)
  | cut (q : θ)

structure TX : Type 1 where
  g : Game
  says : Nat
  turn : Nat
  fin : Nat
  wg : Nat
  ph : Ph g.σ g.θ

def saidV : Option (Int × Int) → Value
  | some m => .agg #[.int .u8 m.1, .int .i64 m.2, .bool false]
  | none => .agg #[.int .u8 0, .int .i64 0, .bool true]
def Game.says (g : Game) (q : g.θ) : Value := saidV ((g.plan q).map (·.1))

/-- behind what it says -/
def Game.next (g : Game) (q : g.θ) (n : Nat) : Ph g.σ g.θ := match g.plan q with
  | some _ => .said q n
  | none => .over q

/-- WHAT A THREAD MAY DO. cv: what it panics with when it's cut off. -/
def tHand (cv : Value) : Hand.{1} where
  X := TX
  mark := Still
  act := fun _ _ _ _ _ => False
  comm := fun cases bl sh h x k => bl = true ∧ sh = .select ∧
    ((∃ s q n z1 z2 h' r, x.ph = .busy s q n ∧ cases = #[scase x.says (x.g.says q) z1, rcase x.fin z2] ∧ Split h h' r ∧ x.g.U s r ∧
        k (.tuple #[goInt 0, .bool false, z2]) h' { x with ph := x.g.next q n }) ∨
     (∃ q n m f z1 z2, x.ph = .said q n ∧ x.g.plan q = some (m, f) ∧ cases = #[rcase x.turn z1, rcase x.fin z2] ∧
        (∀ n' s r h', n = n' + 1 → x.g.W s r → Split h' h r → k (.tuple #[goInt 0, .bool true, .agg #[], z2]) h' { x with ph := .busy (f s).1 (f s).2 n' }) ∧
        k (.tuple #[goInt 1, .bool false, z1, z2]) h { x with ph := .cut q }))
  spawn := fun _ _ _ _ => False
  ghost := fun h x k => (∃ w, Fits h w) → ∃ h1, Frz h h1 ∧ k h1 x
  late := fun _ _ _ _ => False
  cut := fun ch h x => ∃ q, x.ph = .cut q ∧ ch = [{ v := cv, recovered := false }] ∧ Star [x.g.Pv q] h

instance {cv : Value} : MonoH (tHand cv) where
  act := fun _ _ _ _ _ _ _ h => h
  comm := by
    rintro cs bl sh h x O O' ho ⟨h1, h2, h3⟩
    refine ⟨h1, h2, ?_⟩
    rcases h3 with ⟨s, q, n, z1, z2, h', r, a, b, c, d, e⟩ | ⟨q, n, m, f, z1, z2, a, b, c, d, e⟩
    · exact .inl ⟨s, q, n, z1, z2, h', r, a, b, c, d, ho _ _ _ e⟩
    · exact .inr ⟨q, n, m, f, z1, z2, a, b, c, fun n' s r h' u v w => ho _ _ _ (d n' s r h' u v w), ho _ _ _ e⟩
  spawn := fun _ _ _ _ _ _ h => h
  ghost := fun h x O O' ho a hw => let ⟨h1, z, q⟩ := a hw; ⟨h1, z, ho _ _ q⟩
  late := fun _ _ _ _ _ _ h => h
instance {cv : Value} : Lets (tHand cv) := ⟨.inl rfl, fun f => .inr ⟨f, rfl⟩⟩

/-- where a thread's run ends: its deferred Done is called; what is behind that only leaves -/
def tEnd (P : Program) (done : FuncId) (fr : Frame) (cs : List Frame) (h : Hp) (x : TX) : Prop :=
  fr = Frame.enter P done #[.pointer (some ⟨x.wg, 0, none⟩)] .deferred ∧ (∃ c cs' qt, cs = c :: cs' ∧ c.mode = .returning ∧ QuitsD P qt 0 (G c cs')) ∧
  (∃ q, (x.ph = .over q ∨ x.ph = .cut q) ∧ Star [x.g.Fin q] h)

/- ---- their starter ---- -/
/-- of a thread: it runs, and will have made s, and plan q; it has said so; it's shut -/
inductive SeatSt (σ θ : Type) where
  | run (s : σ) (q : θ)
  | said (q : θ)
  | shut (q : θ)

structure Seat (σ θ : Type) where
  says : Nat
  turn : Nat
  fin : Nat
  st : SeatSt σ θ

/-- how far the waiting has come -/
inductive Wst where
  | play
  | wait (b : Nat)
  | seen (v : Nat)
  | parked
  | woken
  | zero

structure GX : Type 1 where
  g : Game
  wg : Nat
  seats : List (Seat g.σ g.θ)
  tok : Option g.σ
  left : Nat
  ad : Nat
  deaf : Bool
  wt : Wst

inductive MX : Type 1 where
  | idle
  | game (x : GX)

def unit : Value := .tuple #[]
def kk : Int := 4294967296

/-- it says a mark -/
def Says (P : Program) (s : Sem Next) (m : Mark) : Prop := ∃ f, ∀ w, s.runT P w #[] = (.ok (.value unit) w, #[⟨.mark (.extern f), false, true⟩, ⟨.mark m, false, true⟩])
/-- it adds to a word -/
def Adds (P : Program) (s : Sem Next) (a : Addr) (d : Int) : Prop := ∃ f, ∀ w n, w.cell? a = some (.int .u64 n) → w.frozen? a = false →
  s.runT P w #[] = (.ok (.value (.int .u64 (IntKind.u64.wrap (n + d)))) (w.setCell a (.int .u64 (IntKind.u64.wrap (n + d)))), #[⟨.mark (.extern f), false, true⟩, ⟨.cell a, false, true⟩, ⟨.cell a, true, true⟩])
/-- it looks at a word -/
def Looks (P : Program) (s : Sem Next) (a : Addr) : Prop := ∃ f, ∀ w n, w.cell? a = some (.int .u64 n) →
  s.runT P w #[] = (.ok (.value (.int .u64 n)) w, #[⟨.mark (.extern f), false, true⟩, ⟨.cell a, false, true⟩])
/-- it swaps a word, if it's what it was -/
def Swaps (P : Program) (s : Sem Next) (a : Addr) (old new : Int) : Prop := ∃ f, ∀ w n, w.cell? a = some (.int .u64 n) → w.frozen? a = false →
  (n = old → s.runT P w #[] = (.ok (.value (.bool true)) (w.setCell a (.int .u64 new)), #[⟨.mark (.extern f), false, true⟩, ⟨.cell a, false, true⟩, ⟨.cell a, true, true⟩])) ∧
  (n ≠ old → s.runT P w #[] = (.ok (.value (.bool false)) w, #[⟨.mark (.extern f), false, true⟩, ⟨.cell a, false, true⟩]))
/-- it waits at a semaphore -/
def Sems (P : Program) (s : Sem Next) (a : Addr) : Prop := ∃ f, ∀ w n, w.cell? a = some (.int .u32 n) → w.frozen? a = false →
  (n = 0 → ∃ es, s.runT P w #[] = (.halt .blocked w, es)) ∧
  (n = 1 → s.runT P w #[] = (.ok (.value unit) (w.setCell a (.int .u32 0)), #[⟨.mark (.extern f), false, true⟩, ⟨.mark .disable, false, true⟩, ⟨.cell a, false, true⟩, ⟨.cell a, true, true⟩, ⟨.mark .enable, false, true⟩]))
/-- it closes a channel -/
def Shuts (P : Program) (s : Sem Next) (b : Nat) : Prop := ∀ w n m tm, w.heap[b]? = some (.chan 0 #[] false n m tm) →
  s.runT P w #[] = (.ok (.value unit) { w with heap := w.heap.setIfInBounds b (.chan 0 #[] true n m tm) }, #[⟨.obj b, false, true⟩, ⟨.obj b, true, true⟩])

def newChan : Obj := .chan 0 #[] false 0 0 false

/-- the frame from which a go statement's call is made -/
def goFr (P : Program) (d : Deferred) : Frame := { (default : Frame) with fn := P.funcs.size, defers := [d], mode := .panicking [goexitEntry] }

def Seat.open {σ θ : Type} (s : Seat σ θ) : Prop := match s.st with
  | .said _ => True
  | _ => False
def Seat.closed {σ θ : Type} (s : Seat σ θ) : Prop := match s.st with
  | .shut _ => True
  | _ => False
def Seat.fins {g : Game} (s : Seat g.σ g.θ) : HProp := match s.st with
  | .shut q => g.Fin q
  | _ => fun _ => True

/-- what the starter may do at an operation of its own -/
inductive MAct (P : Program) (wk : Bool) (s : Sem Next) (h : Hp) (X : GX) (k : Next → Hp → MX → Prop) : Prop
  | disable (d : X.deaf = false) (a : Says P s .disable) (q : k (.value unit) h (.game { X with deaf := true }))
  | enable (d : X.deaf = true) (a : Says P s .enable) (q : k (.value unit) h (.game { X with deaf := false }))
  | read (m : Mark) (hm : m = .read ⟨X.wg, 1, none⟩ ∨ m = .write ⟨X.wg, 1, none⟩) (a : Says P s m) (q : k (.value unit) h (.game X))
  | add (p : X.wt = .play) (hd : X.ad < 1000) (ha : X.ad = X.seats.length) (tk : X.tok.isSome = true) (d : X.deaf = true) (a : Adds P s ⟨X.wg, 0, none⟩ kk) (q : ∀ v : Nat, v ≤ X.ad → k (.value (.int .u64 ((v + 1 : Nat) * kk))) h (.game { X with ad := X.ad + 1 }))
  | look (b : Nat) (p : X.wt = .wait b ∨ (X.wt = .play ∧ b = X.ad ∧ X.ad = X.seats.length ∧ ∀ s ∈ X.seats, s.closed)) (d : X.deaf = true) (a : Looks P s ⟨X.wg, 0, none⟩)
      (q : ∀ v : Nat, 0 < v → v ≤ b → k (.value (.int .u64 (v * kk))) h (.game { X with wt := .seen v })) (q0 : k (.value (.int .u64 0)) h (.game { X with wt := .zero }))
  | swap (v : Nat) (hv : 0 < v) (p : X.wt = .seen v) (d : X.deaf = true) (a : Swaps P s ⟨X.wg, 0, none⟩ (v * kk) (v * kk + 1)) (q : k (.value (.bool true)) h (.game { X with wt := .parked }))
      (q0 : ∀ b, b < v → k (.value (.bool false)) h (.game { X with wt := .wait b }))
  | sem (p : X.wt = .parked) (d : X.deaf = true) (a : Sems P s ⟨X.wg, 1, none⟩) (q : k (.value unit) h (.game { X with wt := .woken }))
  | last (p : X.wt = .woken) (d : X.deaf = true) (a : Looks P s ⟨X.wg, 0, none⟩) (q : k (.value (.int .u64 0)) h (.game { X with wt := .zero }))
  | acquire (p : X.wt = .zero) (d : X.deaf = false) (a : Says P s (.acquire ⟨X.wg, 0, none⟩)) (q : ∀ r h', Star (X.seats.map Seat.fins) r → Split h' h r → k (.value unit) h' .idle)
  | shut (j : Nat) (c : Seat X.g.σ X.g.θ) (q0 : X.g.θ) (p : X.wt = .play) (d : X.deaf = false) (ad : X.ad = X.seats.length) (tk : X.tok.isSome = true) (hj : X.seats[j]? = some c) (st : c.st = .said q0) (hw : wk = true) (a : Shuts P s c.fin)
      (q : k (.value unit) h (.game { X with seats := X.seats.set j { c with st := .shut q0 } }))

/-- WHAT THE STARTER MAY DO. -/
def mHand (P : Program) (cv : Value) (done : FuncId) (wgT : TypeId) : Hand.{1} where
  X := MX
  mark := Still
  act := fun wk s h x k => ∃ X, x = .game X ∧ MAct P wk s h X k
  comm := fun cases bl sh h x k => bl = true ∧ ∃ X j c, x = .game X ∧ X.wt = .play ∧ X.deaf = false ∧ X.seats[j]? = some c ∧
    ((∃ z s q, cases = #[rcase c.says z] ∧ sh = .recv false ∧ c.st = .run s q ∧ X.tok = none ∧ ∀ r h', X.g.U s r → Split h' h r →
        k (X.g.says q) h' (.game { X with tok := some s, seats := X.seats.set j { c with st := .said q } })) ∨
     (∃ z q m f s l h' r, cases = #[scase c.turn (.agg #[]) z] ∧ sh = .send ∧ c.st = .said q ∧ X.g.plan q = some (m, f) ∧ X.tok = some s ∧ X.left = l + 1 ∧ X.ad = X.seats.length ∧ Split h h' r ∧ X.g.W s r ∧
        k undef h' (.game { X with tok := none, left := l, seats := X.seats.set j { c with st := .run (f s).1 (f s).2 } })))
  spawn := fun d h x k => ∃ X s says turn fin hc h' s' q', x = .game X ∧ X.wt = .play ∧ X.deaf = false ∧ X.tok = some s ∧ X.ad = X.seats.length + 1 ∧
    says ≠ turn ∧ says ≠ fin ∧ turn ≠ fin ∧ h.obj says = some newChan ∧ h.obj turn = some newChan ∧ h.obj fin = some newChan ∧
    Split h hc h' ∧ (∀ b, b = says ∨ b = turn ∨ b = fin → hc.obj b = none ∧ h'.obj b = none) ∧
    (∃ f cap, d.target = .fn f cap) ∧
    Nonempty (Run P (tHand cv) false (tEnd P done) (goFr P d) [] hc ⟨X.g, says, turn, fin, X.wg, .busy s' q' X.left⟩) ∧
    k h' (.game { X with tok := none, seats := X.seats ++ [⟨says, turn, fin, .run s' q'⟩] })
  ghost := fun h x k => (∃ w, Fits h w) → (∃ h1, Frz h h1 ∧ k h1 x) ∨
    (x = .idle ∧ ∃ g wg s h1, h.own wg 0 = some (.int .u64 0) ∧ h.own wg 1 = some (.int .u32 0) ∧ h.shp wg = some (wgT, 2) ∧ Frz h h1 ∧
      (∀ o, h1.own wg o = none ∧ h1.ro wg o = none) ∧ k h1 (.game ⟨g, wg, [], some s, 16384, 0, false, .play⟩))
  late := fun s h x k => ∃ X, x = .game X ∧ X.deaf = true ∧ Says P s .enable ∧ k h (.game { X with deaf := false })
  cut := fun _ _ _ => False

instance {P : Program} {cv : Value} {done : FuncId} {wgT : TypeId} : MonoH (mHand P cv done wgT) where
  act := by
    rintro wk s h x O O' ho ⟨X, rfl, a⟩
    refine ⟨X, rfl, ?_⟩
    cases a with
    | disable d a q => exact .disable d a (ho _ _ _ q)
    | enable d a q => exact .enable d a (ho _ _ _ q)
    | read m hm a q => exact .read m hm a (ho _ _ _ q)
    | add p hd ha tk d a q => exact .add p hd ha tk d a fun v hv => ho _ _ _ (q v hv)
    | look b p d a q q0 => exact .look b p d a (fun v h1 h2 => ho _ _ _ (q v h1 h2)) (ho _ _ _ q0)
    | swap v hv p d a q q0 => exact .swap v hv p d a (ho _ _ _ q) fun b hb => ho _ _ _ (q0 b hb)
    | sem p d a q => exact .sem p d a (ho _ _ _ q)
    | last p d a q => exact .last p d a (ho _ _ _ q)
    | acquire p d a q => exact .acquire p d a fun r h' h1 h2 => ho _ _ _ (q r h' h1 h2)
    | shut j c q0 p d ad tk hj st hw a q => exact .shut j c q0 p d ad tk hj st hw a (ho _ _ _ q)
  comm := by
    rintro cs bl sh h x O O' ho ⟨h0, X, j, c, a1, a2, a3, a4, a5⟩
    refine ⟨h0, X, j, c, a1, a2, a3, a4, ?_⟩
    rcases a5 with ⟨z, s, q, b1, b2, b3, b4, b5⟩ | ⟨z, q, m, f, s, l, h', r, b1, b2, b3, b4, b5, b6, b6', b7, b8, b9⟩
    · exact .inl ⟨z, s, q, b1, b2, b3, b4, fun r h' u v => ho _ _ _ (b5 r h' u v)⟩
    · exact .inr ⟨z, q, m, f, s, l, h', r, b1, b2, b3, b4, b5, b6, b6', b7, b8, ho _ _ _ b9⟩
  spawn := by
    rintro d h x O O' ho ⟨X, s, says, turn, fin, hc, h', s', q', a1, a2, a3, a4, a5, a6, a7, a8, a9, b1, b2, b3, b4, b5, b6, b7⟩
    exact ⟨X, s, says, turn, fin, hc, h', s', q', a1, a2, a3, a4, a5, a6, a7, a8, a9, b1, b2, b3, b4, b5, b6, ho _ _ b7⟩
  ghost := by
    intro h x O O' ho a hw
    rcases a hw with ⟨h1, z, q⟩ | ⟨hx, g, wg, s, h1, a1, a2, a3, a4, a5, a6⟩
    · exact .inl ⟨h1, z, ho _ _ q⟩
    · exact .inr ⟨hx, g, wg, s, h1, a1, a2, a3, a4, a5, ho _ _ a6⟩
  late := fun s h x O O' ho ⟨X, a1, a2, a3, a4⟩ => ⟨X, a1, a2, a3, ho _ _ a4⟩
instance {P : Program} {cv : Value} {done : FuncId} {wgT : TypeId} : Lets (mHand P cv done wgT) := ⟨.inl rfl, fun f => .inr ⟨f, rfl⟩⟩
instance {P : Program} {cv : Value} {done : FuncId} {wgT : TypeId} : NoCut (mHand P cv done wgT) := ⟨fun _ _ _ h => h⟩
end Go.PB
