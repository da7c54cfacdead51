/-
  FOUNDATION: ALONE. A function's contract, at a handler that lets nothing by but private steps, as a run of the machine with one goroutine, from the call to its return. No program in sight.
  FOUNDATION: ARGUMENTS. What an argument that can be read as data holds, told as plain data over the world's cells, by its type ('Sh', 'Opens'); that it reads behind the call as before; the law's row from its contract ('post_true'). No program in sight.
-/
import Derived.Test.YtabbkjciifnehaaFm
import Derived.Eval
import Derived.Leaving
import Derived.Handed
import Derived.RowKit3
import Derived.Below
import Derived.Carry
import Derived.Conc.LeavingOf
import Derived.Conc.LoneSelect
import Derived.Test.YtabbkjciifnehaaFo
import Derived.Deep.Slices
import Derived.ProofKit
import Derived.OpenShut
set_option linter.unusedVariables false
set_option linter.unusedSimpArgs false
namespace Go.PB
open Go.Conc

/-- alone: private steps, and a send that is tried on a channel of one's own -/
def tries (cases : Array CommCase) (bl : Bool) (sh : CommShape) (h : Hp) (k : Value → Hp → Prop) : Prop :=
  ∃ (c : Nat) (v z : Value) (cap : Nat) (buf : Array Value) (s r : Nat) (tm : Bool), cases = #[scase c v z] ∧ bl = false ∧ sh = .select ∧ h.obj c = some (.chan cap buf false s r tm) ∧
    (buf.size < cap → k (.tuple #[goInt 0, .bool false]) (h.setObj c (.chan cap (buf.push v) false (s + 1) r tm))) ∧ (cap ≤ buf.size → k (.tuple #[goInt (-1), .bool false]) h)

def solo0 : Hand := ⟨Unit, fun _ => True, fun _ _ _ _ _ => False, fun cases bl sh h x k => tries cases bl sh h fun v h' => k v h' x, fun _ _ _ _ => False, fun _ _ _ => False, fun _ _ _ _ => False, fun _ _ _ => False⟩

instance : NoCut solo0 := ⟨fun _ _ _ h => h⟩
instance : Lets solo0 := ⟨trivial, fun _ => trivial⟩

/-- at the call: nothing is one's own, all that stands may be read -/
def start (W : World) : Hp := ⟨fun _ _ => none, fun b o => W.cell? ⟨b, o, none⟩, fun _ => none, fun b => W.shape? b⟩

theorem fits_start (W : World) : Fits (start W) W where
  own := fun _ _ _ h => by cases h
  thaw := fun _ _ _ h => by cases h
  ro := fun _ _ _ h => h
  disj := fun _ _ _ h => by cases h
  obj := fun _ _ h => by cases h
  objn := fun _ _ h => by cases h
  shp := fun _ _ h => h

/-- behind the call: what stood, stands -/
def After (W W' : World) : Prop := RowKit.Below W.heap.size W W' ∧ ∀ a, W'.frozen? a = W.frozen? a

theorem after_of {W W' : World} {h' : Hp} (g : Guar (start W) W W' h') : After W W' :=
  ⟨⟨g.os, g.tape, g.output, g.size, fun i hi => g.block i hi (fun _ => rfl) rfl⟩, g.frz⟩

/-- It comes to its end. -/
def Ends (P : Program) (f : FuncId) (W : World) (R : Value → Hp → Prop) (fr : Frame) (cs : List Frame) (h : Hp) (w : World) : Prop :=
  Fits h w → Guar (start W) W w h → ∃ n fr' v w' w'' h' h'', runN P n (lone fr cs w) = .next (lone fr' [] w') ∧ step P (lone fr' [] w') = .ended (.done v) w'' ∧ Guar (start W) W w' h' ∧ Guar (start W) W w'' h'' ∧ R v h''

theorem stepG_bare_go {P : Program} {fr fr' : Frame} {cs cs' : List Frame} {w w' : World} {es : Array Event} (h : stepG P true (G fr cs) w = .go (G fr' cs') w' es) :
    step P (lone fr cs w) = .next (lone fr' cs' w') := by
  refine step_lone_go ?_
  unfold G at h
  rw [h]; rfl

theorem ends_closed {P : Program} {f : FuncId} {W : World} {R : Value → Hp → Prop} : Closed P solo0 true (fun fr cs h _ => ∀ w, Ends P f W R fr cs h w) where
  priv := by
    intro fr cs h x hs w fw gw
    obtain ⟨fr', cs', w', es, h', hstep, g, _, hk⟩ := hs w fw
    obtain ⟨n, fr2, v, w2, w3, h2, h3, e1, e2, e3, e4, e5⟩ := hk w' g.fits (gw.trans g)
    refine ⟨n + 1, fr2, v, w2, w3, h2, h3, ?_, e2, e3, e4, e5⟩
    have := stepG_bare_go hstep
    simp only [runN, this]
    exact e1
  act := fun _ _ _ _ _ _ _ h => h.elim
  comm := by
    rintro ⟨fn, tmps, todo, defers, mode, kind, roundOf⟩ cs h x o cases bl sh ⟨hm, hr, ops, i, r, k, htd, ho, hw⟩ hx ⟨c, v, z, cap, buf, s, rc, tm, rfl, rfl, rfl, hob, h1, h2⟩ w fw gw
    simp only at hm hr htd hw
    subst hm; subst hr; subst htd
    have hc := fw.obj c _ hob
    have hs := stepG_op (P := P) (main := true) (b := ⟨fn, kind⟩) (t := tmps) (d := defers) (l := r) (k := k) (cs := cs) (w := w) ho hw
    have he := eval_mkFr (b := ⟨fn, kind⟩) (t := tmps) (d := defers) (todo := .inRegion ops (i :: r) :: k)
    have hx' : (execOp (evT tmps) o).runT P w #[] = (.ok (.comm #[scase c v z] false .select) w, #[]) := by
      rw [← he]; exact hx w fw
    have hs2 : ∃ es, stepG P true (G (mkFr ⟨fn, kind⟩ tmps defers (.inRegion ops (i :: r) :: k)) cs) w = .comm (G (mkFr ⟨fn, kind⟩ tmps defers (.inRegion ops (i :: r) :: k)) cs) #[scase c v z] false .select w es :=
      ⟨_, by rw [hs]; simp only [stepG.apply, if_true, hx', GStep.after, mkFr]; rfl⟩
    obtain ⟨es, hs2⟩ := hs2
    by_cases hlt : buf.size < cap
    · have g := Guar.setObj fw (by rw [hob]; rfl) (.chan cap (buf.push v) false (s + 1) rc tm) rfl
      obtain ⟨n, fr2, v2, w2, w3, h2', h3, e1, e2, e3, e4, e5⟩ := h1 hlt _ g.fits (gw.trans g)
      refine ⟨n + 1, fr2, v2, w2, w3, h2', h3, ?_, e2, e3, e4, e5⟩
      have hst : step P (lone { fn := fn, tmps := tmps, todo := .inRegion ops (i :: r) :: k, defers := defers, mode := .run, kind := kind, roundOf := none } cs w) = _ := step_lone_select_send_room hs2 hc hlt
      simp only [runN]
      rw [hst]
      exact e1
    · obtain ⟨n, fr2, v2, w2, w3, h2', h3, e1, e2, e3, e4, e5⟩ := h2 (by omega) _ fw gw
      refine ⟨n + 1, fr2, v2, w2, w3, h2', h3, ?_, e2, e3, e4, e5⟩
      have hst : step P (lone { fn := fn, tmps := tmps, todo := .inRegion ops (i :: r) :: k, defers := defers, mode := .run, kind := kind, roundOf := none } cs w) = _ := step_lone_select_send_full hs2 hc (by omega)
      simp only [runN]
      rw [hst]
      exact e1
  spawn := fun _ _ _ _ _ _ _ _ h => h.elim
  ghost := fun _ _ _ _ h => h.elim
  late := fun _ _ _ _ _ _ _ _ _ _ h => h.elim

theorem end_alone {P : Program} {fr : Frame} {f : FuncId} {v : Value} {h : Hp} {w : World} (hi : P.inits.idxOf? f = none) (a : AtEnd P fr f .normal h (.ret v)) (fw : Fits h w) :
    ∃ w', step P (lone fr [] w) = .ended (.done v) w' ∧ Guar h w w' h := by
  obtain ⟨h1, h2, h3, h4, h5, fn, hf, hr⟩ := a
  rcases wpS_sound _ hr w #[] fw with ⟨v', w', es', h', e1, g, e2, rfl, rfl⟩ | ⟨_, _, _, _, _, _, _, hx⟩
  · refine ⟨w', step_lone_ended ?_, g⟩
    simp only [Array.empty_append] at e1
    obtain ⟨f1, tmps, f3, f4, f5, f6, f7⟩ := fr
    simp only at h1 h2 h3 h4 h5
    subst h1; subst h2; subst h3; subst h4; subst h5
    have er : (results fn tmps).run P w = .ok v' w' := by rw [← Sem.runT_fst P _ w #[], e1]
    simp [stepG, unwind, hf, er, GStep.after, doReturn, hi, GStep.bare]
  · exact hx.elim

/-- FROM A CONTRACT TO THE RUN. -/
theorem run_of_tr {P : Program} {f : FuncId} {args : List Value} {W : World} {R : Value → List HProp → Unit → Prop} (hi : P.inits.idxOf? f = none)
    (t : Tr P solo0 f args [base W] () R) :
    ∃ n fr v w' w'' h'', runN P n (lone (Frame.enter P f args.toArray .normal) [] W) = .next (lone fr [] w') ∧ step P (lone fr [] w') = .ended (.done v) w'' ∧ Guar (start W) W w'' h'' ∧ ∃ L', R v L' () ∧ Star L' h'' := by
  have hst : Star [base W] (start W) := ⟨start W, ⟨fun _ _ => none, fun _ _ => none, fun _ => none, fun _ => none⟩,
    ⟨fun _ _ _ e => e, fun _ _ _ e => (by cases e), fun _ _ _ e => e, fun _ _ _ e => (by cases e), fun _ _ => .inl rfl, fun _ _ e => e, fun _ _ e => (by cases e), fun _ => .inl rfl, fun _ _ e => e, fun _ _ e => (by cases e)⟩, fun _ _ _ e => e, trivial⟩
  have key := t (start W) .run (fun e _ h' _ => ∃ v, e = .ret v ∧ ∃ L', R v L' () ∧ Star L' h') hst (fun v L' x' h' r s => ⟨v, rfl, L', r, s⟩) (fun _ _ _ h => h.elim)
    true _ (ends_closed (f := f) (W := W) (R := fun v h => ∃ L', R v L' () ∧ Star L' h)) [] (fun h => by cases h) (by
      rintro fr e um' h' x' ha ⟨v, rfl, L', r, s⟩ w fw gw
      obtain ⟨w', e1, g⟩ := end_alone hi ha fw
      exact ⟨0, fr, v, w, w', h', h', rfl, e1, gw, gw.trans g, L', r, s⟩)
    W (fits_start W) (.refl (fits_start W))
  obtain ⟨n, fr, v, w', w'', h', h'', e1, e2, e3, e4, e5⟩ := key
  exact ⟨n, fr, v, w', w'', h'', e1, e2, e4, e5⟩

/-- … AND TO ONE GOOD RUN. -/
theorem good_of_tr {P : Program} {f : FuncId} {args : Array Value} {W : World} {Post : Value → World → Prop} {R : Value → List HProp → Unit → Prop} (hi : P.inits.idxOf? f = none)
    (t : Tr P solo0 f args.toList [base W] () R) (hR : ∀ v L' w', R v L' () → After W w' → Post v w') :
    ∃ M last o w' t', runNT P (M + 1) (solo (G (Frame.enter P f args .normal) []) W) #[] = (.ended o w', t') ∧ runN P M (solo (G (Frame.enter P f args .normal) []) W) = .next last ∧
        step P last = .ended o w' ∧ Conc.Good P Post last o w' t' := by
  obtain ⟨n, fr, v, w', w'', h'', e1, e2, e3, L', r, s⟩ := run_of_tr hi t
  have hend : runN P (n + 1) (lone (Frame.enter P f args .normal) [] W) = .ended (.done v) w'' := by
    rw [runN_add, e1]; simp only [runN, e2]
  have ht : (runNT P (n + 1) (lone (Frame.enter P f args .normal) [] W) #[]).1 = .ended (.done v) w'' := by rw [runNT_fst]; exact hend
  have ha := alone_of_lone (w' := w'') e1
  have hc := (clean_of_lone e1).2
  obtain ⟨a1, a2, a3⟩ := ha
  refine ⟨n, lone fr [] w', .done v, w'', (runNT P (n + 1) (lone (Frame.enter P f args .normal) [] W) #[]).2, Prod.ext ht rfl, e1, e2, v, rfl, hR v L' w'' r (after_of e3), ?_, ?_, onlyLeaving_of_quiet a1, ?_⟩
  · exact fun said => (no_race_of_lone (said := said) P n _ _ e1 (by simp [lone]) rfl).2
  · exact a2
  · exact a3

end Go.PB

set_option linter.unusedVariables false
set_option linter.unusedSimpArgs false
namespace Go.PB
open Go.ChangeShapes Go.WideShapes Go.ChangeAt Go.RowKit

/-- A shape: so many cells; what they are as data. -/
structure Sh (α : Type) where
  n : Nat
  rel : World → List Value → α → Prop

def Opens {α : Type} (P : Program) (t : TypeId) (s : Sh α) : Prop :=
  P.cellsOf t = s.n ∧ ∀ (H : Type) (enc : TypeId × Value → H) (w : World) (fuel : Nat) (cs : List Value) (x : DataW H × List MemPlace), DataW.trod enc P w 0 (fun _ => true) true fuel t cs = some x → ∃ a, s.rel w cs a

def shI64 : Sh Int := ⟨1, fun _ cs a => cs = [.int .i64 a] ∧ -9223372036854775808 ≤ a ∧ a ≤ 9223372036854775807⟩
def shU64 : Sh Nat := ⟨1, fun _ cs a => cs = [.int .u64 (a : Nat)] ∧ a < 18446744073709551616⟩
def shU8 : Sh Nat := ⟨1, fun _ cs a => cs = [.int .u8 (a : Nat)] ∧ a < 256⟩
def shBool : Sh Bool := ⟨1, fun _ cs a => cs = [.bool a]⟩
/-- a slice of what s says -/
def shSlice {α : Type} (s : Sh α) : Sh (List α) := ⟨1, fun w cs l => ∃ p cap, cs = [.slice p l.length cap] ∧ l.length ≤ cap ∧ cap ≤ maxLen ∧
  ∀ i a, l[i]? = some a → ∃ b o vs, p = some ⟨b, o, none⟩ ∧ vs.length = s.n ∧ (∀ j v, vs[j]? = some v → w.cell? ⟨b, o + i * s.n + j, none⟩ = some v) ∧ s.rel w vs a⟩
def shPair {α β : Type} (s : Sh α) (t : Sh β) : Sh (α × β) := ⟨s.n + t.n, fun w cs x => s.rel w (cs.take s.n) x.1 ∧ t.rel w (cs.drop s.n) x.2⟩
def shUnit : Sh Unit := ⟨0, fun _ cs _ => cs = []⟩
def shArr {α : Type} (k : Nat) (s : Sh α) : Sh (List α) := ⟨k * s.n, fun w cs l => l.length = k ∧ ∀ i a, l[i]? = some a → s.rel w ((cs.drop (i * s.n)).take s.n) a⟩

section
variable {P : Program} {t e : TypeId} {α β : Type}

theorem opens_i64 (ht : P.underlying t = some (.int .i64)) (hc : P.cellsOf t = 1) : Opens P t shI64 := ⟨hc, fun _ enc w fuel cs x h => by
  cases fuel with
  | zero => simp [DataW.trod] at h
  | succ n =>
    unfold DataW.trod at h
    rw [ht] at h
    simp only at h
    split at h <;> try contradiction
    all_goals (rename_i k n he; cases he)
    split at h
    · rename_i hw
      obtain ⟨rfl, hw⟩ := hw
      exact ⟨_, rfl, by simpa [Lit.wf, IntKind.min, IntKind.max, IntKind.signed, IntKind.bits] using hw⟩
    · cases h⟩

theorem opens_u64 (ht : P.underlying t = some (.int .u64)) (hc : P.cellsOf t = 1) : Opens P t shU64 := ⟨hc, fun _ enc w fuel cs x h => by
  cases fuel with
  | zero => simp [DataW.trod] at h
  | succ n =>
    unfold DataW.trod at h
    rw [ht] at h
    simp only at h
    split at h <;> try contradiction
    all_goals (rename_i k n he; cases he)
    split at h
    · rename_i hw
      obtain ⟨rfl, hw⟩ := hw
      have hw' : 0 ≤ n ∧ n ≤ 18446744073709551615 := by simpa [Lit.wf, IntKind.min, IntKind.max, IntKind.signed, IntKind.bits] using hw
      exact ⟨n.toNat, by rw [Int.toNat_of_nonneg hw'.1], by omega⟩
    · cases h⟩

theorem opens_u8 (ht : P.underlying t = some (.int .u8)) (hc : P.cellsOf t = 1) : Opens P t shU8 := ⟨hc, fun _ enc w fuel cs x h => by
  cases fuel with
  | zero => simp [DataW.trod] at h
  | succ n =>
    unfold DataW.trod at h
    rw [ht] at h
    simp only at h
    split at h <;> try contradiction
    all_goals (rename_i k n he; cases he)
    split at h
    · rename_i hw
      obtain ⟨rfl, hw⟩ := hw
      have hw' : 0 ≤ n ∧ n ≤ 255 := by simpa [Lit.wf, IntKind.min, IntKind.max, IntKind.signed, IntKind.bits] using hw
      exact ⟨n.toNat, by rw [Int.toNat_of_nonneg hw'.1], by omega⟩
    · cases h⟩

theorem opens_bool (ht : P.underlying t = some .bool) (hc : P.cellsOf t = 1) : Opens P t shBool := ⟨hc, fun _ enc w fuel cs x h => by
  cases fuel with
  | zero => simp [DataW.trod] at h
  | succ n =>
    unfold DataW.trod at h
    rw [ht] at h
    simp only at h
    split at h <;> try contradiction
    all_goals first | exact ⟨_, rfl⟩ | (rename_i he; cases he)⟩

theorem list_of {p : Nat → α → Prop} : ∀ {n : Nat}, (∀ i, i < n → ∃ a, p i a) → ∃ l : List α, l.length = n ∧ ∀ i a, l[i]? = some a → p i a := by
  intro n
  induction n with
  | zero => exact fun _ => ⟨[], rfl, fun i a h => by simp at h⟩
  | succ n ih =>
    intro h
    obtain ⟨l, h1, h2⟩ := ih fun i hi => h i (by omega)
    obtain ⟨a, ha⟩ := h n (by omega)
    refine ⟨l ++ [a], by simp [h1], fun i b hb => ?_⟩
    by_cases hi : i < n
    · rw [List.getElem?_append_left (by omega)] at hb
      exact h2 i b hb
    · rw [List.getElem?_append_right (by omega)] at hb
      have : i = n := by
        have := (List.getElem?_eq_some_iff.1 hb).1
        simp at this; omega
      subst this
      have : some a = some b := by simpa [h1] using hb
      cases this
      exact ha

theorem opens_slice {s : Sh α} (ht : P.underlying t = some (.slice e)) (hc : P.cellsOf t = 1) (hs : Opens P e s) (hpos : 0 < s.n) : Opens P t (shSlice s) := ⟨hc, fun _ enc w fuel cs x h => by
  rcases Deep.open_slice ht h with ⟨rfl, rfl⟩ | ⟨a, len, cap, m, n, D, Pl, rfl, hb, hl, hm, hmm, rfl, hx⟩
  · exact ⟨[], none, 0, rfl, by simp, by simp, fun i a h => by simp at h⟩
  · simp only [if_true] at hmm
    obtain ⟨l, h1, h2⟩ := list_of (n := len) (p := fun i y => ∃ b o vs, a = ⟨b, o, none⟩ ∧ vs.length = s.n ∧ (∀ j v, vs[j]? = some v → w.cell? ⟨b, o + i * s.n + j, none⟩ = some v) ∧ s.rel w vs y) (fun i hi => by
      obtain ⟨cs', h3, h4⟩ := hx i (by omega)
      obtain ⟨h5, h6, h7⟩ := World.cells?_some h3
      obtain ⟨y, hy⟩ := hs.2 _ enc w n cs' _ h4
      rw [hs.1] at h6 h7
      obtain ⟨b, o, sp⟩ := a
      have hsp : sp = none := by
        obtain ⟨cs2, g1, g2⟩ := hx 0 (by omega)
        obtain ⟨g3, g4, g5⟩ := World.cells?_some g1
        rw [hs.1] at g4 g5
        have g6 := g5 0 hpos
        rw [List.getElem?_eq_getElem (by omega)] at g6
        have := World.cell?_spot g6
        simpa [Addr.add] using this
      subst hsp
      refine ⟨y, b, o, cs', rfl, h6, fun j v hj => ?_, hy⟩
      have hj' := (List.getElem?_eq_some_iff.1 hj).1
      have := h7 j (by omega)
      rw [hj] at this
      simpa [add_none, Nat.add_assoc] using this)
    refine ⟨l, some a, cap, by rw [h1], by omega, hm, fun i y hy => ?_⟩
    obtain ⟨b, o, vs, rfl, h3⟩ := h2 i y hy
    exact ⟨b, o, vs, rfl, h3⟩⟩

/-- fields that follow each other from cell o on -/
def OpensF {α : Type} (P : Program) : List Field → Nat → Sh α → Prop := fun fs o s =>
  ∀ (H : Type) (enc : TypeId × Value → H) (w : World) (n : Nat) (cs : List Value), cs.length = o + s.n → (∀ (i : Nat) (f : Field), fs[i]? = some f → ∃ x, DataW.trod enc P w 0 (fun _ => true) true n f.type ((cs.drop f.offset).take (P.cellsOf f.type)) = some x) → ∃ a, s.rel w (cs.drop o) a

theorem opensF_nil {o : Nat} : OpensF P [] o shUnit := fun _ enc w n cs hl _ => ⟨(), by simp [shUnit] at hl ⊢; omega⟩
theorem opensF_cons {f : Field} {fs : List Field} {o o' : Nat} {s : Sh α} {s' : Sh β} (ho : f.offset = o) (ht : Opens P f.type s) (he : o' = o + s.n) (hf : OpensF P fs o' s') : OpensF P (f :: fs) o (shPair s s') := fun _ enc w n cs hl hx => by
  subst he
  obtain ⟨x, h1⟩ := hx 0 f rfl
  obtain ⟨a, ha⟩ := ht.2 _ enc w n _ _ h1
  rw [ho, ht.1] at ha
  obtain ⟨b, hb⟩ := hf _ enc w n cs (by simp only [shPair] at hl; omega) (fun i g hg => hx (i + 1) g hg)
  exact ⟨(a, b), ha, by simpa [List.drop_drop] using hb⟩

theorem opens_struct {fs : Array Field} {s : Sh α} (ht : P.underlying t = some (.struct fs)) (hc : P.cellsOf t = s.n) (hf : OpensF P fs.toList 0 s) : Opens P t s := ⟨hc, fun _ enc w fuel cs x h => by
  obtain ⟨xs, n, rfl, rfl, h1, h2, h3⟩ := DataW.trod_struct ht h
  obtain ⟨a, ha⟩ := hf _ enc w n cs (by omega) (fun i f hi => by
    have hi' : fs[i]? = some f := by simpa using hi
    have hlt := (Array.getElem?_eq_some_iff.1 hi').1
    exact ⟨xs[i]'(by omega), by rw [h3 i f hi']; simp⟩)
  exact ⟨a, by simpa using ha⟩⟩

theorem opens_array {k : Nat} {s : Sh α} (ht : P.underlying t = some (.array k e)) (hc : P.cellsOf t = k * s.n) (hs : Opens P e s) : Opens P t (shArr k s) := ⟨hc, fun _ enc w fuel cs x h => by
  obtain ⟨xs, m, rfl, rfl, h1, h2, h3⟩ := DataW.trod_array ht h
  obtain ⟨l, h4, h5⟩ := list_of (n := k) (p := fun i a => s.rel w ((cs.drop (i * s.n)).take s.n) a) (fun i hi => by
    have := h3 i hi
    rw [hs.1, List.getElem?_eq_getElem (by omega)] at this
    exact hs.2 _ enc w m _ _ this)
  exact ⟨l, h4, h5⟩⟩

/-- an argument as data -/
theorem arg_one {H : Type} {enc : TypeId × Value → H} {w : World} {v : Value} {d : DataW H} {ps : List MemPlace} {s : Sh α} (hs : Opens P t s) (h : DataW.Trod enc P w 0 (fun _ => true) true t v d ps) : ∃ a, s.rel w v.cells.toList a := by
  obtain ⟨fuel, hf⟩ := h
  exact hs.2 _ enc w fuel _ _ hf

/-- arguments read on as they did, where what stood below stands -/
theorem all_stays (hl : laidOutB P = true) {H : Type} {enc : TypeId × Value → H} {W W' : World} {sp' : Nat → Bool} : ∀ {ts : List TypeId} {vs : List Value} {ds : List (DataW H)} {ps : List MemPlace}, (∀ t ∈ ts, P.readableRec t = true ∧ t < P.types.size) →
    DataW.TrodAll enc P W 0 (fun _ => true) true ts vs ds ps → (∀ p ∈ ps, W.sameAt W' p) → (∀ p ∈ ps, sp' p.block = true) → DataW.TrodAll enc P W' 0 sp' true ts vs ds ps := by
  intro ts
  induction ts with
  | nil => intro vs ds ps _ h _ _; cases vs <;> cases ds <;> simp_all [DataW.TrodAll]
  | cons t ts ih =>
    intro vs ds ps ht h h1 h2
    obtain ⟨v, vs', d, ds', p, q, rfl, rfl, rfl, h3, h4⟩ := trodAll_cons h
    exact ⟨p, q, WideElems.Trod_stays hl (ht t (by simp)).1 (ht t (by simp)).2 h3 (fun x hx => h1 x (by simp [hx])) (fun x hx => h2 x (by simp [hx])),
      ih (fun t' h' => ht t' (by simp [h'])) h4 (fun x hx => h1 x (by simp [hx])) (fun x hx => h2 x (by simp [hx])), rfl⟩

theorem all_length {H : Type} {enc : TypeId × Value → H} {W : World} {sp' : Nat → Bool} {hd : Bool} : ∀ {ts : List TypeId} {vs : List Value} {ds : List (DataW H)} {ps : List MemPlace}, DataW.TrodAll enc P W 0 sp' hd ts vs ds ps → ds.length = ts.length := by
  intro ts
  induction ts with
  | nil => intro vs ds ps h; cases vs <;> cases ds <;> simp_all [DataW.TrodAll]
  | cons t ts ih =>
    intro vs ds ps h
    obtain ⟨v, vs', d, ds', p, q, rfl, rfl, rfl, h3, h4⟩ := trodAll_cons h
    simp [ih h4]

/-- THE ROW of a law that is true and leaves its arguments as they are. -/
theorem post_true {H : Type} {enc : TypeId × Value → H} {f : Func} {s : ChangeSpec} {bt : TypeId} (hl : laidOutB P = true) (hp : ∀ t ∈ f.params.toList, P.readableRec t = true ∧ t < P.types.size) (hr : f.resultTypes = #[bt]) (hb : P.underlying bt = some .bool)
    (hv : s.vars = []) (hs : ∀ ds : List (DataW H), ds.length = f.params.size → s.fn H ds = { results := [.lit (.bool true)], args := ds })
    {W W' : World} {args : Array Value} {ds gs : List (DataW H)} {before : List MemPlace} (hW : DataW.Whole enc P f.params.toList s.vars false W args.toList ds gs before) (ha : After W W') :
    s.post enc P f false true false false W args (.bool true) W' := by
  have hW' := hW
  obtain ⟨p, q, hA, hV, rfl, hfz, hnd⟩ := hW
  rw [hv] at hV
  obtain ⟨rfl, rfl⟩ := trodVars_none hV
  have hlen := all_length hA
  simp only [Array.length_toList] at hlen
  have hfn := hs (ds ++ []) (by simpa using hlen)
  have hlt : ∀ x ∈ p, x.block < W.heap.size := fun x hx => hW'.lt x (by simpa using hx)
  refine post_of_same (pa := p) (pv := []) hW' ?_ ?_ ?_ (by simp) (ha.1.frame _) ha.2 (ok_one hr rfl (okWide_bool_mk hb _))
  · intro b sp hd
    rw [hfn, hr]
    exact trodAll_cons_mk (shut_bool hb _) trodAll_mk0
  · intro sp hsp
    rw [hfn, List.append_nil]
    exact all_stays hl hp hA (fun x hx => ha.1.same (hlt x hx)) (fun x hx => hsp x (by simpa using hx))
  · intro sp _
    rw [hfn, hv]
    exact rfl
end

end Go.PB
