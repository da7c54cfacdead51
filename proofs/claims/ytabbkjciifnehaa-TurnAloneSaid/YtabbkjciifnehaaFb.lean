/-
  FOUNDATION, PART 2. Threads over partial heaps: a handler ('Hand') says what a thread may do beside private steps; 'Closed' families of thread states; the transformers of code ('Wc'), of a region's operations ('Wr'), of a call ('Wf'), of the deferred calls ('Wd'); their rules. No program is in sight.
-/
import Derived.Test.YtabbkjciifnehaaFa
import Derived.Conc.Own
set_option linter.unusedVariables false
set_option linter.unusedSimpArgs false
namespace Go.PB
open Go.Conc

/-- is it a built-in function's call? (behind such a step the waiting try again) -/
def wakes (o : Oper) : Bool := match o.op with
  | .call { callee := .builtin _, .. } => true
  | _ => false

/-- What a thread may do beside its private steps. X: the handler's own state. ghost: what may be turned of a thread's part and of the state by no step; late: what may be done by a deferred call of a function without a body; cut: the states in which it may be left by a panic. -/
structure Hand.{u} where
  X : Type u
  mark : Mark → Prop
  act : Bool → Sem Next → Hp → X → (Next → Hp → X → Prop) → Prop
  comm : Array CommCase → Bool → CommShape → Hp → X → (Value → Hp → X → Prop) → Prop
  spawn : Deferred → Hp → X → (Hp → X → Prop) → Prop
  ghost : Hp → X → (Hp → X → Prop) → Prop
  late : Sem Next → Hp → X → (Hp → X → Prop) → Prop
  cut : List PanicEntry → Hp → X → Prop

/-- The parts of a frame that its code never turns. -/
structure Base where
  fn : FuncId
  kind : CallKind

/-- What is carried beside slots and memory: the deferred calls; the mode of the frame below. -/
structure Z where
  d : List Deferred
  um : FrameMode

/-- The base's kind; whoever is deferred has a frame below. -/
def OkB (b : Base) (kd : CallKind) (cs : List Frame) : Prop := b.kind = kd ∧ (kd = .deferred → cs ≠ [])
def mkFr (b : Base) (t : Array Value) (d : List Deferred) (todo : List Item) : Frame :=
  { fn := b.fn, tmps := t, todo, defers := d, mode := .run, kind := b.kind, roundOf := none }
def endFr (b : Base) (t : Array Value) (d : List Deferred) (todo : List Item) (m : FrameMode) : Frame :=
  { fn := b.fn, tmps := t, todo, defers := d, mode := m, kind := b.kind, roundOf := none }
def setUm (um : FrameMode) : List Frame → List Frame
  | [] => []
  | c :: r => { c with mode := um } :: r
def evT (t : Array Value) : Operand → Value
  | .tmp i => t.getD i undef
  | .const v => v
  | .global g => .pointer (some ⟨g, 0, none⟩)
  | .func f => .func (.func f) #[] #[]
def setDst (o : Oper) (t : Array Value) (v : Value) : Array Value :=
  match o.dst with
  | some d => t.setIfInBounds d v
  | none => t
/-- It stands at operation o. -/
def AtOp (fr : Frame) (o : Oper) : Prop :=
  fr.mode = .run ∧ fr.roundOf = none ∧ ∃ ops i r k, fr.todo = .inRegion ops (i :: r) :: k ∧ ops[i]? = some o ∧ Region.wanted o (yielded ops fr.tmps) = true

structure Closed (P : Program) (B : Hand) (main : Bool) (S : Frame → List Frame → Hp → B.X → Prop) : Prop where
  priv : ∀ fr cs h x, (∀ w, Fits h w → ∃ fr' cs' w' es h', stepG P main (G fr cs) w = .go (G fr' cs') w' es ∧ Guar h w w' h' ∧ (∀ e ∈ es, EvOk B.mark h w w'.heap.size e) ∧ S fr' cs' h' x) → S fr cs h x
  act : ∀ fr cs h x o, AtOp fr o → fr.kind ≠ .early → B.act (wakes o) (execOp fr.eval o) h x (fun nx h' x' => ∃ v, nx = .value v ∧ S (fr.finish v) cs h' x') → S fr cs h x
  comm : ∀ fr cs h x o cases bl sh, AtOp fr o → (∀ w, Fits h w → (execOp fr.eval o).runT P w #[] = (.ok (.comm cases bl sh) w, #[])) → B.comm cases bl sh h x (fun v h' x' => S (fr.finish v) cs h' x') → S fr cs h x
  spawn : ∀ fr cs h x o d, AtOp fr o → (∀ w, Fits h w → (execOp fr.eval o).runT P w #[] = (.ok (.spawn d) w, #[])) → B.spawn d h x (fun h' x' => S (fr.finish undef) cs h' x') → S fr cs h x
  ghost : ∀ fr cs h x, B.ghost h x (fun h' x' => S fr cs h' x') → S fr cs h x
  late : ∀ b t ds todo cs h x f cap args, B.late (invoke (.fn f cap) args) h x (fun h' x' => S (endFr b t ds todo .returning) cs h' x') → S (endFr b t ({ target := .fn f cap, args } :: ds) todo .returning) cs h x

inductive Ex where
  | normal
  | exit (id : Nat)
  | goto (l : Nat)
  | ret
  | panic (chain : List PanicEntry)

section
variable {P : Program} {B : Hand} {kd : CallKind}

/-- Where a piece of code is left to. -/
def Arr (S : Frame → List Frame → Hp → B.X → Prop) (b : Base) (k : List Item) (cs : List Frame) : Ex → Array Value → Z → Hp → B.X → Prop
  | .normal, t, z, h, x => S (mkFr b t z.d k) (setUm z.um cs) h x
  | .exit id, t, z, h, x => ∃ k', exitTo id k = some k' ∧ S (mkFr b t z.d k') (setUm z.um cs) h x
  | .goto l, t, z, h, x => ∃ k', gotoIn l k = some k' ∧ S (mkFr b t z.d k') (setUm z.um cs) h x
  | .ret, t, z, h, x => ∀ todo, S (endFr b t z.d todo .returning) (setUm z.um cs) h x
  | .panic chain, t, z, h, x => ∀ todo, S (endFr b t z.d todo (.panicking chain)) (setUm z.um cs) h x

abbrev Post (B : Hand) := Ex → Array Value → Z → Hp → B.X → Prop

variable (P B) in
/-- THE TRANSFORMER OF CODE. -/
def Wc (kd : CallKind) (c : Code) (K : Post B) (t : Array Value) (z : Z) (h : Hp) (x : B.X) : Prop :=
  ∀ main S, Closed P B main S → ∀ b k cs, OkB b kd cs → (∀ e t z h x, K e t z h x → Arr S b k cs e t z h x) → S (mkFr b t z.d (.code c :: k)) (setUm z.um cs) h x

variable (P B) in
/-- THE TRANSFORMER OF A REGION'S OPERATIONS, those that are left in this order. -/
def Wr (kd : CallKind) (ops : Array Oper) (l : List Nat) (K : Post B) (t : Array Value) (z : Z) (h : Hp) (x : B.X) : Prop :=
  ∀ main S, Closed P B main S → ∀ b k cs, OkB b kd cs → (∀ e t z h x, K e t z h x → Arr S b k cs e t z h x) → S (mkFr b t z.d (.inRegion ops l :: k)) (setUm z.um cs) h x

inductive End where
  | ret (v : Value)
  | pan (chain : List PanicEntry)

variable (P) in
/-- It stands where function f is left. -/
def AtEnd (fr : Frame) (f : FuncId) (kind : CallKind) (h : Hp) : End → Prop
  | .ret v => fr.fn = f ∧ fr.kind = kind ∧ fr.mode = .returning ∧ fr.defers = [] ∧ fr.roundOf = none ∧ ∃ fn, P.funcs[f]? = some fn ∧ wpS P (fun _ => False) (results fn fr.tmps) h (fun v' h' => v' = v ∧ h' = h) (fun _ _ => False)
  | .pan chain => fr.fn = f ∧ fr.kind = kind ∧ fr.mode = .panicking chain ∧ fr.defers = [] ∧ fr.roundOf = none ∧ ∃ fn, P.funcs[f]? = some fn

variable (P B) in
/-- THE TRANSFORMER OF A CALL: a function entered; um: the mode of the frame below. -/
def Wf (f : FuncId) (kind : CallKind) (args : Array Value) (um : FrameMode) (h : Hp) (x : B.X) (Q : End → FrameMode → Hp → B.X → Prop) : Prop :=
  ∀ main S, Closed P B main S → ∀ cs, (kind = .deferred → cs ≠ []) → (∀ fr e um' h' x', AtEnd P fr f kind h' e → Q e um' h' x' → S fr (setUm um' cs) h' x') → S (Frame.enter P f args kind) (setUm um cs) h x

theorem eval_mkFr {b : Base} {t : Array Value} {d : List Deferred} {todo : List Item} : (mkFr b t d todo).eval = evT t := by
  funext o; cases o <;> rfl

/- ---- moves of control ---- -/
theorem go_of {main : Bool} {S : Frame → List Frame → Hp → B.X → Prop} (C : Closed P B main S) {fr fr' : Frame} {cs cs' : List Frame} {h : Hp} {x : B.X}
    (hs : ∀ w, stepG P main (G fr cs) w = .go (G fr' cs') w #[]) (h' : S fr' cs' h x) : S fr cs h x :=
  C.priv _ _ _ _ fun w f => ⟨fr', cs', w, #[], h, hs w, .refl f, fun e he => by simp at he, h'⟩

theorem Wc.mono {c : Code} {K K' : Post B} {t : Array Value} {z : Z} {h : Hp} {x : B.X} (w : Wc P B kd c K t z h x) (hk : ∀ e t z h x, K e t z h x → K' e t z h x) : Wc P B kd c K' t z h x :=
  fun main S C b k cs hb ha => w main S C b k cs hb fun e t z h x q => ha e t z h x (hk e t z h x q)

theorem wc_skip {K : Post B} {t : Array Value} {z : Z} {h : Hp} {x : B.X} (w : K .normal t z h x) : Wc P B kd .skip K t z h x :=
  fun _ _ C b k cs _ ha => go_of C (fr' := mkFr b t z.d k) (cs' := setUm z.um cs) (fun _ => by simp [stepG, stepG.exec, G, mkFr]) (ha _ _ _ _ _ w)

theorem wc_label {l : Nat} {K : Post B} {t : Array Value} {z : Z} {h : Hp} {x : B.X} (w : K .normal t z h x) : Wc P B kd (.label l) K t z h x :=
  fun _ _ C b k cs _ ha => go_of C (fr' := mkFr b t z.d k) (cs' := setUm z.um cs) (fun _ => by simp [stepG, stepG.exec, G, mkFr]) (ha _ _ _ _ _ w)

theorem wc_exit {id : Nat} {K : Post B} {t : Array Value} {z : Z} {h : Hp} {x : B.X} (w : K (.exit id) t z h x) : Wc P B kd (.exit id) K t z h x :=
  fun _ _ C b k cs _ ha => by
    obtain ⟨k', hk, hs⟩ := ha _ _ _ _ _ w
    exact go_of C (fr' := mkFr b t z.d k') (cs' := setUm z.um cs) (fun _ => by simp [stepG, stepG.exec, G, mkFr, hk]) hs

theorem wc_goto {l : Nat} {K : Post B} {t : Array Value} {z : Z} {h : Hp} {x : B.X} (w : K (.goto l) t z h x) : Wc P B kd (.goto l) K t z h x :=
  fun _ _ C b k cs _ ha => by
    obtain ⟨k', hk, hs⟩ := ha _ _ _ _ _ w
    exact go_of C (fr' := mkFr b t z.d k') (cs' := setUm z.um cs) (fun _ => by simp [stepG, stepG.exec, G, mkFr, hk]) hs

theorem wc_ret {K : Post B} {t : Array Value} {z : Z} {h : Hp} {x : B.X} (w : K .ret t z h x) : Wc P B kd .ret K t z h x :=
  fun _ _ C b k cs _ ha => go_of C (fr' := endFr b t z.d (.code .ret :: k) .returning) (cs' := setUm z.um cs) (fun _ => by simp [stepG, stepG.exec, G, mkFr, endFr]) (ha _ _ _ _ _ w _)

def thn (P : Program) (B : Hand) (kd : CallKind) (c : Code) (K : Post B) : Post B
  | .normal, t, z, h, x => Wc P B kd c K t z h x
  | e, t, z, h, x => K e t z h x

/-- items that no way out stops at -/
def plainI : Item → Bool
  | .inBlock _ | .inScope _ => false
  | _ => true

theorem Arr.pass {S : Frame → List Frame → Hp → B.X → Prop} {b : Base} {it : Item} {k : List Item} {cs : List Frame} {e : Ex} {t : Array Value} {z : Z} {h : Hp} {x : B.X}
    (hi : plainI it = true) (he : e ≠ .normal) (a : Arr S b k cs e t z h x) : Arr S b (it :: k) cs e t z h x := by
  cases e with
  | normal => exact absurd rfl he
  | exit id => obtain ⟨k', hk, hs⟩ := a; exact ⟨k', by cases it <;> simp_all [exitTo, plainI], hs⟩
  | goto l => obtain ⟨k', hk, hs⟩ := a; exact ⟨k', by cases it <;> simp_all [gotoIn, plainI], hs⟩
  | ret => exact a
  | panic ch => exact a

theorem wc_seq {a c : Code} {K : Post B} {t : Array Value} {z : Z} {h : Hp} {x : B.X} (w : Wc P B kd a (thn P B kd c K) t z h x) : Wc P B kd (.seq a c) K t z h x :=
  fun main S C b k cs hb ha => by
    refine go_of C (fr' := mkFr b t z.d (.code a :: .code c :: k)) (cs' := setUm z.um cs) (fun _ => by simp [stepG, stepG.exec, G, mkFr]) (w main S C b _ cs hb fun e t z h x q => ?_)
    cases e with
    | normal => exact q main S C b k cs hb ha
    | exit id => exact .pass rfl (by simp) (ha _ _ _ _ _ q)
    | goto l => exact .pass rfl (by simp) (ha _ _ _ _ _ q)
    | ret => exact .pass rfl (by simp) (ha _ _ _ _ _ q)
    | panic ch => exact .pass rfl (by simp) (ha _ _ _ _ _ q)

theorem wc_cond {c : Operand} {a a' : Code} {q : Bool} {K : Post B} {t : Array Value} {z : Z} {h : Hp} {x : B.X} (hc : evT t c = .bool q) (w : Wc P B kd (if q then a else a') K t z h x) : Wc P B kd (.cond c a a') K t z h x :=
  fun main S C b k cs hb ha => by
    refine go_of C (fr' := mkFr b t z.d (.code (if q then a else a') :: k)) (cs' := setUm z.um cs) (fun _ => ?_) (w main S C b _ cs hb ha)
    have he : (mkFr b t z.d (.code (.cond c a a') :: k)).eval c = .bool q := by rw [eval_mkFr]; exact hc
    simp only [stepG, stepG.exec, G, mkFr] at he ⊢
    rw [he]

def inBlk (id : Nat) (K : Post B) : Post B
  | .exit id', t, z, h, x => if id' = id then K .normal t z h x else K (.exit id') t z h x
  | e, t, z, h, x => K e t z h x

theorem wc_block {id : Nat} {c : Code} {K : Post B} {t : Array Value} {z : Z} {h : Hp} {x : B.X} (w : Wc P B kd c (inBlk id K) t z h x) : Wc P B kd (.block id c) K t z h x :=
  fun main S C b k cs hb ha => by
    refine go_of C (fr' := mkFr b t z.d (.code c :: .inBlock id :: k)) (cs' := setUm z.um cs) (fun _ => by simp [stepG, stepG.exec, G, mkFr]) (w main S C b _ cs hb fun e t z h x q => ?_)
    cases e with
    | normal => exact go_of C (fr' := mkFr b t z.d k) (cs' := setUm z.um cs) (fun _ => by simp [stepG, stepG.exec, G, mkFr]) (ha _ _ _ _ _ q)
    | exit id' =>
      by_cases hid : id' = id
      · simp only [inBlk, hid, if_true] at q
        exact ⟨k, by simp [exitTo, hid], ha _ _ _ _ _ q⟩
      · simp only [inBlk, hid, if_false] at q
        obtain ⟨k', hk, hs⟩ := ha _ _ _ _ _ q
        have hb : (id == id') = false := by simp; exact fun e => hid e.symm
        exact ⟨k', by simp [exitTo, hb, hk], hs⟩
    | goto l => obtain ⟨k', hk, hs⟩ := ha _ _ _ _ _ q; exact ⟨k', by simp [gotoIn, hk], hs⟩
    | ret => exact ha _ _ _ _ _ q
    | panic ch => exact ha _ _ _ _ _ q

def inScp (R : Nat → Array Value → Z → Hp → B.X → Prop) (K : Post B) : Post B
  | .goto l, t, z, h, x => R l t z h x
  | e, t, z, h, x => K e t z h x

/-- A scope whose labels are not gone back to. -/
theorem wc_scope {c : Code} {K : Post B} {t : Array Value} {z : Z} {h : Hp} {x : B.X} (w : Wc P B kd c (inScp (fun _ _ _ _ _ => False) K) t z h x) : Wc P B kd (.scope c) K t z h x :=
  fun main S C b k cs hb ha => by
    refine go_of C (fr' := mkFr b t z.d (.code c :: .inScope c :: k)) (cs' := setUm z.um cs) (fun _ => by simp [stepG, stepG.exec, G, mkFr]) (w main S C b _ cs hb fun e t z h x q => ?_)
    cases e with
    | normal => exact go_of C (fr' := mkFr b t z.d k) (cs' := setUm z.um cs) (fun _ => by simp [stepG, stepG.exec, G, mkFr]) (ha _ _ _ _ _ q)
    | exit id' => obtain ⟨k', hk, hs⟩ := ha _ _ _ _ _ q; exact ⟨k', by simp [exitTo, hk], hs⟩
    | goto l => exact q.elim
    | ret => exact ha _ _ _ _ _ q
    | panic ch => exact ha _ _ _ _ _ q

def inLp (I : Array Value → Z → Hp → B.X → Prop) (K : Post B) : Post B
  | .normal, t, z, h, x => I t z h x
  | e, t, z, h, x => K e t z h x

theorem wc_loop {c : Code} {K : Post B} {t : Array Value} {z : Z} {h : Hp} {x : B.X} {ι : Type} (I : ι → Array Value → Z → Hp → B.X → Prop) (r : ι → ι → Prop) (wf : WellFounded r) (i : ι) (h0 : I i t z h x)
    (round : ∀ i t z h x, I i t z h x → Wc P B kd c (inLp (fun t z h x => ∃ i', r i' i ∧ I i' t z h x) K) t z h x) : Wc P B kd (.loop c) K t z h x :=
  fun main S C b k cs hb ha => by
    have key : ∀ i t z h x, I i t z h x → S (mkFr b t z.d (.code c :: .inLoop c :: k)) (setUm z.um cs) h x := by
      intro i
      induction i using wf.induction with
      | _ i ih =>
        intro t z h x hI
        refine round i t z h x hI main S C b _ cs hb fun e t z h x q => ?_
        cases e with
        | normal =>
          obtain ⟨i', hr, hI'⟩ := q
          exact go_of C (fr' := mkFr b t z.d (.code c :: .inLoop c :: k)) (cs' := setUm z.um cs) (fun _ => by simp [stepG, stepG.exec, G, mkFr]) (ih i' hr t z h x hI')
        | exit id => exact .pass rfl (by simp) (ha _ _ _ _ _ q)
        | goto l => exact .pass rfl (by simp) (ha _ _ _ _ _ q)
        | ret => exact .pass rfl (by simp) (ha _ _ _ _ _ q)
        | panic ch => exact .pass rfl (by simp) (ha _ _ _ _ _ q)
    exact go_of C (fr' := mkFr b t z.d (.code c :: .inLoop c :: k)) (cs' := setUm z.um cs) (fun _ => by simp [stepG, stepG.exec, G, mkFr]) (key i t z h x h0)

variable (P B) in
/-- It stands ahead of a round. -/
def Wl (kd : CallKind) (c : Code) (K : Post B) (t : Array Value) (z : Z) (h : Hp) (x : B.X) : Prop :=
  ∀ main S, Closed P B main S → ∀ b k cs, OkB b kd cs → (∀ e t z h x, K e t z h x → Arr S b k cs e t z h x) → S (mkFr b t z.d (.inLoop c :: k)) (setUm z.um cs) h x

theorem loop_body {c : Code} {K : Post B} {t : Array Value} {z : Z} {h : Hp} {x : B.X} (w : Wc P B kd c (inLp (Wl P B kd c K) K) t z h x) {main : Bool} {S : Frame → List Frame → Hp → B.X → Prop} (C : Closed P B main S) {b : Base} {k : List Item} {cs : List Frame} (hb : OkB b kd cs)
    (ha : ∀ e t z h x, K e t z h x → Arr S b k cs e t z h x) : S (mkFr b t z.d (.code c :: .inLoop c :: k)) (setUm z.um cs) h x := by
  refine w main S C b _ cs hb fun e t z h x q => ?_
  cases e with
  | normal => exact q main S C b k cs hb ha
  | exit id => exact .pass rfl (by simp) (ha _ _ _ _ _ q)
  | goto l => exact .pass rfl (by simp) (ha _ _ _ _ _ q)
  | ret => exact .pass rfl (by simp) (ha _ _ _ _ _ q)
  | panic ch => exact .pass rfl (by simp) (ha _ _ _ _ _ q)

/-- a round, and again -/
theorem wl_step {c : Code} {K : Post B} {t : Array Value} {z : Z} {h : Hp} {x : B.X} (w : Wc P B kd c (inLp (Wl P B kd c K) K) t z h x) : Wl P B kd c K t z h x :=
  fun main S C b k cs hb ha => go_of C (fr' := mkFr b t z.d (.code c :: .inLoop c :: k)) (cs' := setUm z.um cs) (fun _ => by simp [stepG, stepG.exec, G, mkFr]) (loop_body w C hb ha)

theorem wc_loop1 {c : Code} {K : Post B} {t : Array Value} {z : Z} {h : Hp} {x : B.X} (w : Wc P B kd c (inLp (Wl P B kd c K) K) t z h x) : Wc P B kd (.loop c) K t z h x :=
  fun main S C b k cs hb ha => go_of C (fr' := mkFr b t z.d (.code c :: .inLoop c :: k)) (cs' := setUm z.um cs) (fun _ => by simp [stepG, stepG.exec, G, mkFr]) (loop_body w C hb ha)

/- ---- regions ---- -/
theorem wc_region {id : Nat} {ops : Array Oper} {K : Post B} {t : Array Value} {z : Z} {h : Hp} {x : B.X} (w : Wr P B kd ops (List.range ops.size) K t z h x) : Wc P B kd (.region id ops false) K t z h x :=
  fun main S C b k cs hb ha => go_of C (fr' := mkFr b t z.d (.inRegion ops (List.range ops.size) :: k)) (cs' := setUm z.um cs) (fun _ => by simp [stepG, stepG.exec, G, mkFr]) (w main S C b k cs hb ha)

theorem wc_region_draw {id : Nat} {ops : Array Oper} {K : Post B} {t : Array Value} {z : Z} {h : Hp} {x : B.X} (w : ∀ q, Wr P B kd ops (Region.schedule (P.follows .mixedOrders) ops q) K t z h x) : Wc P B kd (.region id ops true) K t z h x :=
  fun main S C b k cs hb ha => by
    refine C.priv _ _ _ _ fun wd f => ?_
    have hst : ∃ q wd', (choose (.order b.fn id)).run P wd = .ok q wd' ∧ Guar h wd wd' h := by
      simp only [choose, Sem.run]
      by_cases hq : (Question.order b.fn id).forced = true
      · exact ⟨_, _, by rw [if_pos hq], .refl f⟩
      · exact ⟨_, _, by rw [if_neg hq], .draw f⟩
    obtain ⟨q, wd', hq, g⟩ := hst
    refine ⟨mkFr b t z.d (.inRegion ops (Region.schedule (P.follows .mixedOrders) ops q) :: k), setUm z.um cs, wd', #[], h, ?_, g, fun e he => by simp at he, w q main S C b k cs hb ha⟩
    simp [stepG, stepG.exec, G, mkFr, hq]

theorem wr_nil {ops : Array Oper} {K : Post B} {t : Array Value} {z : Z} {h : Hp} {x : B.X} (w : K .normal t z h x) : Wr P B kd ops [] K t z h x :=
  fun _ _ C b k cs _ ha => go_of C (fr' := mkFr b t z.d k) (cs' := setUm z.um cs) (fun _ => by simp [stepG, stepG.exec, G, mkFr]) (ha _ _ _ _ _ w)

theorem finish_mkFr {b : Base} {t : Array Value} {d : List Deferred} {ops : Array Oper} {i : Nat} {l : List Nat} {k : List Item} {o : Oper} (ho : ops[i]? = some o) (v : Value) :
    (mkFr b t d (.inRegion ops (i :: l) :: k)).finish v = mkFr b (setDst o t v) d (.inRegion ops l :: k) := by
  simp only [Frame.finish, mkFr, ho, Option.bind_some, setDst]
  cases o.dst <;> rfl

/-- AN OPERATION WHOSE GUARD IS NOT MET: its slot holds nothing. -/
theorem wr_skip {ops : Array Oper} {i : Nat} {l : List Nat} {K : Post B} {t : Array Value} {z : Z} {h : Hp} {x : B.X} {o : Oper} (ho : ops[i]? = some o) (hw : Region.wanted o (yielded ops t) = false)
    (w : Wr P B kd ops l K (setDst o t undef) z h x) : Wr P B kd ops (i :: l) K t z h x :=
  fun main S C b k cs hb ha => by
    refine go_of C (fr' := mkFr b (setDst o t undef) z.d (.inRegion ops l :: k)) (cs' := setUm z.um cs) (fun _ => ?_) (w main S C b k cs hb ha)
    have hf := finish_mkFr (b := b) (t := t) (d := z.d) (l := l) (k := k) ho undef
    simp only [mkFr] at hf
    simp [stepG, stepG.exec, G, mkFr, ho, hw, hf]

/-- what an operation hands on -/
def NextOk (P : Program) (B : Hand) (kd : CallKind) (ops : Array Oper) (l : List Nat) (o : Oper) (K : Post B) (t : Array Value) (z : Z) (x : B.X) : Next → Hp → Prop
  | .value v, h => Wr P B kd ops l K (setDst o t v) z h x
  | .skip, h => Wr P B kd ops l K (setDst o t undef) z h x
  | .enter f args, h => Wf P B f .normal args .run h x fun e um h' x' => um = .run ∧ match e with
    | .ret v => Wr P B kd ops l K (setDst o t v) z h' x'
    | .pan chain => K (.panic chain) t z h' x'
  | .defer d, h => Wr P B kd ops l K (setDst o t undef) { z with d := d :: z.d } h x
  | .recover, h => kd = .deferred ∧ match z.um with
    | .panicking ({ v, recovered := false, goexit := false } :: older) => Wr P B kd ops l K (setDst o t v) { z with um := .panicking ({ v, recovered := true } :: older) } h x
    | .returning => Wr P B kd ops l K (setDst o t .nilIface) z h x
    | _ => False
  | _, _ => False

theorem seen_mem (P : Program) (fn : FuncId) (es : Array Event) (e : Event) (he : e ∈ seen P fn es) : e ∈ es := by
  have key : ∀ (l : List Event) (q : Bool) (kept : Array Event), e ∈ (l.foldl (fun (qk : Bool × Array Event) (e : Event) =>
      match e.loc with
      | .mark (.extern f) => ((P.funcs[f]?).any (·.norace), qk.2)
      | _ => (qk.1, if qk.1 && !e.sync then qk.2 else qk.2.push e)) (q, kept)).2 → e ∈ kept ∨ e ∈ l := by
    intro l
    induction l with
    | nil => intro q kept h; exact .inl h
    | cons a l ih =>
      intro q kept h
      simp only [List.foldl_cons] at h
      have hpush : e ∈ (if q && !a.sync then kept else kept.push a) → e ∈ kept ∨ e ∈ a :: l := by
        intro h'
        split at h'
        · exact .inl h'
        · rcases Array.mem_push.1 h' with h'' | h''
          · exact .inl h''
          · exact .inr (by simp [h''])
      rcases ih _ _ h with h1 | h1
      · revert h1
        split
        · intro h1; exact .inl h1
        · intro h1; exact hpush h1
      · exact .inr (by simp [h1])
  unfold seen at he
  simp only [← Array.foldl_toList] at he
  rcases key es.toList _ _ he with h | h
  · simp at h
  · simpa using h

theorem evok_seen {M : Mark → Prop} {h : Hp} {w : World} {n : Nat} {es : Array Event} (fn : FuncId) (he : ∀ e ∈ es, EvOk M h w n e) : ∀ e ∈ seen P fn es, EvOk M h w n e :=
  fun e hm => he e (seen_mem P fn es e hm)

theorem evok_early {M : Mark → Prop} {h : Hp} {w : World} {n : Nat} {es : Array Event} {q : Bool} (he : ∀ e ∈ es, EvOk M h w n e) : ∀ e ∈ (if q then #[] else es), EvOk M h w n e := by
  cases q
  · simpa using he
  · simp

theorem stepG_op {main : Bool} {b : Base} {t : Array Value} {d : List Deferred} {ops : Array Oper} {i : Nat} {l : List Nat} {k : List Item} {o : Oper} {cs : List Frame} {w : World}
    (ho : ops[i]? = some o) (hw : Region.wanted o (yielded ops t) = true) :
    stepG P main (G (mkFr b t d (.inRegion ops (i :: l) :: k)) cs) w = stepG.apply P true (mkFr b t d (.inRegion ops (i :: l) :: k)) cs none (execOp (evT t) o) w := by
  have he := eval_mkFr (b := b) (t := t) (d := d) (todo := .inRegion ops (i :: l) :: k)
  have hop : (mkFr b t d (.inRegion ops (i :: l) :: k)).oper? = some o := by simp [Frame.oper?, mkFr, ho]
  simp only [mkFr] at he hop ⊢
  simp only [stepG, G, stepG.exec, ho, Option.map_some, hw, Option.getD_some, if_true, stepG.oper, hop, he]

theorem setUm_run (fr : Frame) (h : fr.mode = .run) (cs : List Frame) : setUm .run (fr :: cs) = fr :: cs := by
  cases fr; simp only at h; subst h; rfl

/-- where a normal call is left by a value: one step, and the caller goes on -/
theorem end_ret {main : Bool} {S : Frame → List Frame → Hp → B.X → Prop} (C : Closed P B main S) {fr c : Frame} {cs : List Frame} {f : FuncId} {v : Value} {h : Hp} {x : B.X}
    (a : AtEnd P fr f .normal h (.ret v)) (s : S (c.finish v) cs h x) : S fr (c :: cs) h x := by
  obtain ⟨h1, h2, h3, h4, h5, fn, hf, hr⟩ := a
  refine C.priv _ _ _ _ fun w fw => ?_
  rcases wpS_sound _ hr w #[] fw with ⟨v', w', es', h', e1, g, e2, rfl, rfl⟩ | ⟨_, _, _, _, _, _, _, hx⟩
  · refine ⟨c.finish v', cs, w', seen P fr.fn es' ++ #[], h', ?_, g, ?_, s⟩
    · simp only [Array.empty_append] at e1
      cases fr
      simp only at h1 h2 h3 h4 h5
      subst h1; subst h2; subst h3; subst h4; subst h5
      simp only [stepG, G, unwind, hf, e1, GStep.after, doReturn]
    · intro e he
      simp only [Array.append_empty] at he
      have := e2 e (seen_mem P fr.fn es' e he)
      unfold EvOk at this ⊢
      revert this
      split <;> simp_all
  · exact hx.elim

theorem catches_no {fr : Frame} {fn : Func} (hf : P.funcs[fr.fn]? = some fn) : fr.catches P = false := by
  simp [Frame.catches, hf]

/-- where a normal call is left by a panic -/
theorem end_pan {main : Bool} {S : Frame → List Frame → Hp → B.X → Prop} (C : Closed P B main S) {fr c : Frame} {cs : List Frame} {f : FuncId} {kind : CallKind} {chain : List PanicEntry} {h : Hp} {x : B.X}
    (a : AtEnd P fr f kind h (.pan chain)) (s : S (c.raise chain) cs h x) : S fr (c :: cs) h x := by
  obtain ⟨h1, h2, h3, h4, h5, fn, hf⟩ := a
  refine go_of C (fun w => ?_) s
  have hc : fr.catches P = false := catches_no (by rw [h1]; exact hf)
  cases fr
  simp only at h1 h2 h3 h4 h5
  subst h1; subst h2; subst h3; subst h4; subst h5
  simp [stepG, G, unwind, hc]

/-- AN OPERATION, PRIVATE. -/
theorem wr_op {ops : Array Oper} {i : Nat} {l : List Nat} {K : Post B} {t : Array Value} {z : Z} {h : Hp} {x : B.X} {o : Oper} (ho : ops[i]? = some o) (hw : Region.wanted o (yielded ops t) = true)
    (w : wpS P B.mark (execOp (evT t) o) h (NextOk P B kd ops l o K t z x) (fun v h' => K (.panic [{ v, recovered := false }]) t z h' x)) : Wr P B kd ops (i :: l) K t z h x :=
  fun main S C b k cs hb ha => by
    refine C.priv _ _ _ _ fun wd fw => ?_
    rw [stepG_op ho hw]
    have hfin := fun v => finish_mkFr (b := b) (t := t) (d := z.d) (l := l) (k := k) ho v
    rcases wpS_sound _ w wd #[] fw with ⟨nx, w', es', h', e1, g, e2, q⟩ | ⟨v, w', es', h', e1, g, e2, q⟩
    · simp only [Array.empty_append] at e1
      cases nx with
      | value v =>
        refine ⟨_, _, w', _, h', by simp only [stepG.apply, if_true, e1, GStep.after, hfin]; rfl, g, ?_, q main S C b k cs hb ha⟩
        intro e he; simp only [Array.append_empty] at he; exact evok_seen _ (evok_early e2) e he
      | skip =>
        refine ⟨_, _, w', _, h', by simp only [stepG.apply, if_true, e1, GStep.after, hfin]; rfl, g, ?_, q main S C b k cs hb ha⟩
        intro e he; simp only [Array.append_empty] at he; exact evok_seen _ (evok_early e2) e he
      | enter f args =>
        refine ⟨Frame.enter P f args .normal, mkFr b t z.d (.inRegion ops (i :: l) :: k) :: setUm z.um cs, w', _, h', by simp only [stepG.apply, if_true, e1, GStep.after, mkFr]; rfl, g, ?_, ?_⟩
        · intro e he; simp only [Array.append_empty] at he; exact evok_seen _ (evok_early e2) e he
        · have := q main S C (mkFr b t z.d (.inRegion ops (i :: l) :: k) :: setUm z.um cs) (by simp) ?_
          · rwa [setUm_run _ rfl] at this
          · intro fr e um' h2 x2 hend hq
            obtain ⟨hum, hq⟩ := hq
            subst hum
            rw [setUm_run _ rfl]
            cases e with
            | ret v => refine end_ret C hend ?_; rw [hfin]; exact hq main S C b k cs hb ha
            | pan chain => refine end_pan C hend ?_; exact ha _ _ _ _ _ hq _
      | defer dd =>
        refine ⟨mkFr b (setDst o t undef) (dd :: z.d) (.inRegion ops l :: k), _, w', seen P b.fn (if b.kind == .early then #[] else es') ++ #[], h', ?_, g, ?_, q main S C b k cs hb ha⟩
        · have hf2 := finish_mkFr (b := b) (t := t) (d := dd :: z.d) (l := l) (k := k) ho undef
          simp only [mkFr] at hf2
          simp only [stepG.apply, if_true, e1, GStep.after, mkFr, hf2]; rfl
        · intro e he; simp only [Array.append_empty] at he; exact evok_seen _ (evok_early e2) e he
      | recover =>
        obtain ⟨hkd, q⟩ := q
        have he : ∀ e ∈ seen P b.fn (if b.kind == .early then #[] else es') ++ #[], EvOk B.mark h wd w'.heap.size e := by
          intro e he; simp only [Array.append_empty] at he; exact evok_seen _ (evok_early e2) e he
        have hk : b.kind = .deferred := hb.1.trans hkd
        obtain ⟨bfn, bk⟩ := b
        simp only at hk
        subst hk
        cases cs with
        | nil => exact absurd rfl (hb.2 hkd)
        | cons c cs =>
          revert q
          cases hum : z.um with
          | run => intro q; exact q.elim
          | returning =>
            intro q
            have q := q main S C ⟨bfn, .deferred⟩ k _ hb ha
            rw [hum] at q
            refine ⟨mkFr ⟨bfn, .deferred⟩ (setDst o t .nilIface) z.d (.inRegion ops l :: k), setUm .returning (c :: cs), w', _, h', ?_, g, he, q⟩
            have hf2 := hfin .nilIface
            simp only [mkFr] at hf2
            simp only [stepG.apply, if_true, e1, GStep.after, mkFr, tryRecover, setUm, hf2]; rfl
          | panicking ch =>
            cases ch with
            | nil => intro q; exact q.elim
            | cons en older =>
              obtain ⟨v, rec, gx⟩ := en
              cases rec <;> cases gx <;> intro q <;> first | exact q.elim | skip
              have hf2 := hfin v
              simp only [mkFr] at hf2
              refine ⟨mkFr ⟨bfn, .deferred⟩ (setDst o t v) z.d (.inRegion ops l :: k), setUm (.panicking ({ v, recovered := true } :: older)) (c :: cs), w', _, h', ?_, g, he, q main S C ⟨bfn, .deferred⟩ k _ hb ha⟩
              simp only [stepG.apply, if_true, e1, GStep.after, mkFr, tryRecover, setUm, hf2]; rfl
      | _ => exact q.elim
    · simp only [Array.empty_append] at e1
      refine ⟨_, _, w', _, h', by simp only [stepG.apply, if_true, e1, GStep.after, Frame.raise, mkFr]; rfl, g, ?_, ?_⟩
      · intro e he; simp only [Array.append_empty] at he; exact evok_seen _ (evok_early e2) e he
      · exact ha _ _ _ _ _ q _

/- ---- the way out of a function: deferred calls, results ---- -/
/-- the mode behind a deferred call that has come back -/
def settled : FrameMode → FrameMode
  | .panicking ({ recovered := true, .. } :: older) =>
    match older.dropWhile (!·.goexit) with
    | [] => .returning
    | rest => .panicking rest
  | m => m
def raised (chain : List PanicEntry) : FrameMode → FrameMode
  | .panicking old => .panicking (chain ++ old)
  | _ => .panicking chain

variable (P B) in
/-- THE TRANSFORMER OF WHAT IS LEFT when a function's body has been left. -/
def Wd (f : FuncId) (kd : CallKind) (m : FrameMode) (t : Array Value) (z : Z) (h : Hp) (x : B.X) (Q : End → FrameMode → Hp → B.X → Prop) : Prop :=
  ∀ main S, Closed P B main S → ∀ b k cs, OkB b kd cs → b.fn = f → (∀ fr e um h x, AtEnd P fr f kd h e → Q e um h x → S fr (setUm um cs) h x) → S (endFr b t z.d k m) (setUm z.um cs) h x

theorem wd_ret {f : FuncId} {fn : Func} {t : Array Value} {z : Z} {h : Hp} {x : B.X} {Q : End → FrameMode → Hp → B.X → Prop} (v : Value) (hf : P.funcs[f]? = some fn) (hz : z.d = [])
    (hr : wpS P (fun _ => False) (results fn t) h (fun v' h' => v' = v ∧ h' = h) (fun _ _ => False)) (q : Q (.ret v) z.um h x) : Wd P B f kd .returning t z h x Q :=
  fun _ _ _ _ _ _ hb hfn ha => ha _ (.ret v) _ _ _ ⟨hfn, hb.1, rfl, hz, rfl, fn, hf, hr⟩ q

theorem wd_pan {f : FuncId} {fn : Func} {t : Array Value} {z : Z} {h : Hp} {x : B.X} {Q : End → FrameMode → Hp → B.X → Prop} {chain : List PanicEntry} (hf : P.funcs[f]? = some fn) (hz : z.d = [])
    (q : Q (.pan chain) z.um h x) : Wd P B f kd (.panicking chain) t z h x Q :=
  fun _ _ _ _ _ _ hb hfn ha => ha _ (.pan chain) _ _ _ ⟨hfn, hb.1, rfl, hz, rfl, fn, hf⟩ q

variable (P) in
/-- Function g can be entered. -/
def Enterable (g : FuncId) : Prop := ∃ gn, P.funcs[g]? = some gn ∧ gn.body.isSome = true ∧ (gn.name == "runtime.NumGoroutine") = false

theorem runT_callFunc {g : FuncId} (e : Enterable P g) (args : Array Value) (w : World) (es : Array Event) : (callFunc g args).runT P w es = (.ok (.enter g args) w, es) := by
  obtain ⟨gn, hg, hb, hn⟩ := e
  have hb' : gn.body.isNone = false := by cases h : gn.body <;> simp_all
  have h1 : (callFunc g args).runT P w es = ((match P.funcs[g]? with
    | none => stuck "call: no such function"
    | some fn =>
      if fn.name == "runtime.NumGoroutine" then pure .numGoroutine
      else if fn.body.isNone then (do
        mark (.extern g)
        if let some e := Extern.findNext fn then return ← e args
        match Extern.find fn with
        | some e => pure (.value (← e args))
        | none =>
          if fn.name.endsWith ".init" && !fn.name.startsWith "(" && !fn.name.startsWith "gosem." then pure (.value (.tuple #[]))
          else unsupported (.extern fn.name))
      else pure (.enter g args) : Sem Next)).runT P w es := rfl
  rw [h1, hg]
  simp only [hn, hb', if_neg Bool.false_ne_true]
  rfl

theorem wpS_callFunc {M : Mark → Prop} {g : FuncId} (e : Enterable P g) {args : Array Value} {h : Hp} {Q : Next → Hp → Prop} {X : Value → Hp → Prop} (q : Q (.enter g args) h) : wpS P M (callFunc g args) h Q X := by
  obtain ⟨gn, hg, hb, hn⟩ := e
  have hb' : gn.body.isNone = false := by cases h : gn.body <;> simp_all
  show wpS P M ((match P.funcs[g]? with
    | none => stuck "call: no such function"
    | some fn =>
      if fn.name == "runtime.NumGoroutine" then pure .numGoroutine
      else if fn.body.isNone then (do
        mark (.extern g)
        if let some e := Extern.findNext fn then return ← e args
        match Extern.find fn with
        | some e => pure (.value (← e args))
        | none =>
          if fn.name.endsWith ".init" && !fn.name.startsWith "(" && !fn.name.startsWith "gosem." then pure (.value (.tuple #[]))
          else unsupported (.extern fn.name))
      else pure (.enter g args) : Sem Next)) h Q X
  rw [hg]
  simp only [hn, hb', if_neg Bool.false_ne_true]
  exact q

theorem wd_cons {f g : FuncId} {m : FrameMode} {t : Array Value} {z : Z} {h : Hp} {x : B.X} {Q : End → FrameMode → Hp → B.X → Prop} {cap args : Array Value} {ds : List Deferred} (hm : m ≠ .run)
    (hz : z.d = { target := .fn (.func g) cap, args } :: ds) (hg : Enterable P g)
    (w : Wf P B g .deferred (args ++ cap) m h x (fun e um h x => match e with
      | .ret _ => Wd P B f kd (settled um) t { z with d := ds } h x Q
      | .pan chain => Wd P B f kd (raised chain um) t { z with d := ds } h x Q)) : Wd P B f kd m t z h x Q :=
  fun main S C b k cs hb hfn ha => by
    refine go_of C (fr' := Frame.enter P g (args ++ cap) .deferred) (cs' := endFr b t ds k m :: setUm z.um cs) (fun w => ?_) ?_
    · have hr := runT_callFunc hg (args ++ cap) w #[]
      have hr' : (invoke (.fn (.func g) cap) args).runT P w #[] = (.ok (.enter g (args ++ cap)) w, #[]) := hr
      have hs : seen P b.fn #[] = #[] := rfl
      cases m with
      | run => exact absurd rfl hm
      | returning => simp only [stepG, G, endFr, hz, unwind, callDeferred, Bool.false_and, hr', hs, GStep.after]; rfl
      | panicking ch => simp only [stepG, G, endFr, hz, unwind, callDeferred, Bool.false_and, hr', hs, GStep.after]; rfl
    · have := w main S C (endFr b t ds k m :: setUm z.um cs) (by simp) ?_
      · exact this
      · intro fr e um' h' x' hend hq
        cases e with
        | ret v =>
          have hnext := hq main S C b k cs hb hfn ha
          obtain ⟨h1, h2, h3, h4, h5, fn, hf, hr⟩ := hend
          refine C.priv _ _ _ _ fun w fw => ?_
          rcases wpS_sound _ hr w #[] fw with ⟨v', w', es', h'', e1, g, e2, rfl, rfl⟩ | ⟨_, _, _, _, _, _, _, hx⟩
          · refine ⟨endFr b t ds k (settled um'), setUm z.um cs, w', seen P fr.fn es' ++ #[], h'', ?_, g, ?_, hnext⟩
            · simp only [Array.empty_append] at e1
              cases fr
              simp only at h1 h2 h3 h4 h5
              subst h1; subst h2; subst h3; subst h4; subst h5
              simp only [stepG, G, unwind, hf, e1, GStep.after, doReturn, setUm, endFr, settled]
              cases um' with
              | run => rfl
              | returning => rfl
              | panicking ch =>
                cases ch with
                | nil => rfl
                | cons en older =>
                  obtain ⟨v0, rec, gx⟩ := en
                  cases rec
                  · rfl
                  · simp only
                    cases older.dropWhile (fun e => !e.goexit) <;> rfl
            · intro e he
              simp only [Array.append_empty] at he
              have := e2 e (seen_mem P fr.fn es' e he)
              unfold EvOk at this ⊢
              revert this
              split <;> simp_all
          · exact hx.elim
        | pan chain =>
          refine end_pan C hend ?_
          have hnext := hq main S C b k cs hb hfn ha
          have : (endFr b t ds k um').raise chain = endFr b t ds k (raised chain um') := by cases um' <;> rfl
          show S ((endFr b t ds k um').raise chain) (setUm z.um cs) h' x'
          rw [this]
          exact hnext

/-- a deferred call of a function without a body -/
theorem wd_late {f : FuncId} {g : Fn} {t : Array Value} {z : Z} {h : Hp} {x : B.X} {Q : End → FrameMode → Hp → B.X → Prop} {cap args : Array Value} {ds : List Deferred} (hz : z.d = { target := .fn g cap, args } :: ds)
    (w : ∀ O : Hp → B.X → Prop, (∀ h' x', Wd P B f kd .returning t { z with d := ds } h' x' Q → O h' x') → B.late (invoke (.fn g cap) args) h x O) : Wd P B f kd .returning t z h x Q :=
  fun main S C b k cs hb hfn ha => by
    rw [hz]
    exact C.late _ _ _ _ _ _ _ _ _ _ (w _ fun h' x' q => q main S C b k cs hb hfn ha)

/-- what is left to do when a function's body has been left -/
def leave (P : Program) (B : Hand) (f : FuncId) (kd : CallKind) (Q : End → FrameMode → Hp → B.X → Prop) : Post B
  | .normal, t, z, h, x => Wd P B f kd .returning t z h x Q
  | .ret, t, z, h, x => Wd P B f kd .returning t z h x Q
  | .panic chain, t, z, h, x => Wd P B f kd (.panicking chain) t z h x Q
  | _, _, _, _, _ => False

/-- A FUNCTION's CONTRACT out of its body. -/
theorem wf_of_body {f : FuncId} {fn : Func} {c : Code} {args : Array Value} {um : FrameMode} {h : Hp} {x : B.X} {Q : End → FrameMode → Hp → B.X → Prop} (hf : P.funcs[f]? = some fn) (hb : fn.body = some c)
    (w : Wc P B kd c (leave P B f kd Q) (args ++ Array.replicate (fn.ntmps - args.size) undef) ⟨[], um⟩ h x) : Wf P B f kd args um h x Q :=
  fun main S C cs hcs ha => by
    have he : Frame.enter P f args kd = mkFr ⟨f, kd⟩ (args ++ Array.replicate (fn.ntmps - args.size) undef) [] [.code c] := by
      simp [Frame.enter, hf, hb, mkFr]
    rw [he]
    refine w main S C ⟨f, kd⟩ [] cs ⟨rfl, hcs⟩ fun e t z h x q => ?_
    cases e with
    | normal =>
      refine go_of C (fr' := endFr ⟨f, kd⟩ t z.d [] .returning) (cs' := setUm z.um cs) (fun _ => by simp [stepG, stepG.exec, G, mkFr, endFr]) ?_
      exact q main S C ⟨f, kd⟩ [] cs ⟨rfl, hcs⟩ rfl fun fr e um h x a q => ha fr e um h x a q
    | ret => exact fun todo => q main S C ⟨f, kd⟩ todo cs ⟨rfl, hcs⟩ rfl fun fr e um h x a q => ha fr e um h x a q
    | panic ch => exact fun todo => q main S C ⟨f, kd⟩ todo cs ⟨rfl, hcs⟩ rfl fun fr e um h x a q => ha fr e um h x a q
    | exit id => exact q.elim
    | goto l => exact q.elim

theorem Wf.mono {f : FuncId} {args : Array Value} {um : FrameMode} {h : Hp} {x : B.X} {Q Q' : End → FrameMode → Hp → B.X → Prop} (w : Wf P B f kd args um h x Q) (hq : ∀ e um h x, Q e um h x → Q' e um h x) : Wf P B f kd args um h x Q' :=
  fun main S C cs hcs ha => w main S C cs hcs fun fr e um h x a q => ha fr e um h x a (hq _ _ _ _ q)

end
end Go.PB
