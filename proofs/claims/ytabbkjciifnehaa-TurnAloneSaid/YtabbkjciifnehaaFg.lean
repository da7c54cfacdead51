/-
  FOUNDATION, PART 5. One law for each kind of operation that touches no memory. Facts on types are classes, met by their numbers. No program is in sight.
  FOUNDATION, PART 6. One law for each kind of operation that reads, writes or makes memory; owned slices ('vec'). No program is in sight.
  FOUNDATION, PART 7. Slices that the thread owns ('vec'): make, append, slicing, slice literals. No program is in sight.
-/
import Derived.Test.YtabbkjciifnehaaFd
set_option linter.unusedVariables false
set_option linter.unusedSimpArgs false
namespace Go.PB

/- ---- facts on types ---- -/
def szOf (P : Program) (t : TypeId) : Option Nat := (P.info? t).map (·.size)
def bytesOf (P : Program) (t : TypeId) : Option Nat := (P.info? t).map (·.bytes)
def zeroOf (P : Program) (t : TypeId) : Option Value := (P.info? t).bind (·.zero)
def aggOf (P : Program) (t : TypeId) : Option Bool := (P.underlying t).map fun | .struct _ | .array _ _ => true | _ => false

class Siz (P : Program) (t : Nat) (s : outParam Nat) : Prop where ok : szOf P t = some s
class Byt (P : Program) (t : Nat) (s : outParam Nat) : Prop where ok : bytesOf P t = some s
class Zer (P : Program) (t : Nat) (v : outParam Value) : Prop where ok : zeroOf P t = some v
class Und (P : Program) (t : Nat) (d : outParam TypeDesc) : Prop where ok : P.underlying t = some d
class Scal (P : Program) (t : Nat) : Prop where ok : aggOf P t = some false
class AggT (P : Program) (t : Nat) : Prop where ok : aggOf P t = some true
/-- field f of struct s: its offset, its type, that type's size -/
def fOf (P : Program) (s f : Nat) : Option (Nat × Nat × Nat) := match P.underlying s with | some (.struct fs) => (fs[f]?).bind fun x => (szOf P x.type).map fun z => (x.offset, x.type, z) | _ => none
class Fld (P : Program) (s f : Nat) (off ft fz : outParam Nat) : Prop where ok : fOf P s f = some (off, ft, fz)
class SlT (P : Program) (t : Nat) (e : outParam Nat) : Prop where ok : P.underlying t = some (.slice e)
class ArT (P : Program) (t : Nat) (n e : outParam Nat) : Prop where ok : P.underlying t = some (.array n e)
class PtT (P : Program) (t : Nat) (e : outParam Nat) : Prop where ok : P.underlying t = some (.pointer e)
class InT (P : Program) (t : Nat) (k : outParam IntKind) : Prop where ok : P.underlying t = some (.int k)
class StT (P : Program) (t : Nat) (ps : outParam (Array (Nat × Nat))) (z : outParam (Array Value)) : Prop where
  ok : (match P.underlying t with | some (.struct fs) => fs.mapM fun x => (szOf P x.type).map fun z => (x.offset, z) | _ => none) = some ps
  zero : (zeroOf P t).map (·.cells) = some z
class Ifc (P : Program) (t : Nat) : Prop where ok : (match P.underlying t with | some (.interface _) => true | _ => false) = true
class NoIfc (P : Program) (t : Nat) : Prop where ok : (match P.underlying t with | some (.interface _) => false | some _ => true | none => false) = true

section
variable {P : Program} {M : Mark → Prop} {e : Env} {L : List HProp} {ty : TypeId}

theorem wpS_program {α β : Type} {k : Program → Sem α} {h : Hp} {Q : α → Hp → Prop} {X : Value → Hp → Prop} (w : wpS P M (k P) h Q X) : wpS P M (Sem.bind program k) h Q X := w

theorem wpS_underlying {α : Type} {t : TypeId} {d : TypeDesc} {k : TypeDesc → Sem α} {h : Hp} {Q : α → Hp → Prop} {X : Value → Hp → Prop} (hd : P.underlying t = some d) (w : wpS P M (k d) h Q X) : wpS P M (Sem.bind (underlying t) k) h Q X := by
  show wpS P M (Sem.bind (match P.underlying t with | some d => pure d | none => stuck "no such type") k) h Q X
  rw [hd]; exact w

theorem wpS_typeInfo {α : Type} {t : TypeId} {d : TypeInfo} {k : TypeInfo → Sem α} {h : Hp} {Q : α → Hp → Prop} {X : Value → Hp → Prop} (hd : P.info? t = some d) (w : wpS P M (k d) h Q X) : wpS P M (Sem.bind (typeInfo t) k) h Q X := by
  show wpS P M (Sem.bind (match P.info? t with | some d => pure d | none => stuck "no such type") k) h Q X
  rw [hd]; exact w

theorem wpS_sizeOf {α : Type} {t : TypeId} {s : Nat} {k : Nat → Sem α} {h : Hp} {Q : α → Hp → Prop} {X : Value → Hp → Prop} (hd : szOf P t = some s) (w : wpS P M (k s) h Q X) : wpS P M (Sem.bind (sizeOf t) k) h Q X := by
  unfold szOf at hd
  cases hi : P.info? t with
  | none => rw [hi] at hd; cases hd
  | some i =>
    rw [hi] at hd
    simp only [Option.map_some, Option.some.injEq] at hd
    subst hd
    show wpS P M (Sem.bind (Sem.bind (typeInfo t) fun i => pure i.size) k) h Q X
    show wpS P M (Sem.bind (Sem.bind (match P.info? t with | some d => pure d | none => stuck "no such type") fun i => pure i.size) k) h Q X
    rw [hi]; exact w

theorem wpS_zeroValue {α : Type} {t : TypeId} {s : Value} {k : Value → Sem α} {h : Hp} {Q : α → Hp → Prop} {X : Value → Hp → Prop} (hd : zeroOf P t = some s) (w : wpS P M (k s) h Q X) : wpS P M (Sem.bind (zeroValue t) k) h Q X := by
  unfold zeroOf at hd
  cases hi : P.info? t with
  | none => rw [hi] at hd; cases hd
  | some i =>
    rw [hi] at hd
    simp only [Option.bind_some] at hd
    show wpS P M (Sem.bind (Sem.bind (match P.info? t with | some d => pure d | none => stuck "no such type") fun i => match i.zero with | some v => pure v | none => unsupported (.resourceLimit "a value of more than 2^22 cells")) k) h Q X
    rw [hi]
    show wpS P M (Sem.bind (match i.zero with | some v => pure v | none => unsupported (.resourceLimit "a value of more than 2^22 cells")) k) h Q X
    rw [hd]; exact w

theorem wpS_isAgg {α : Type} {t : TypeId} {q : Bool} {k : Bool → Sem α} {h : Hp} {Q : α → Hp → Prop} {X : Value → Hp → Prop} (hd : aggOf P t = some q) (w : wpS P M (k q) h Q X) : wpS P M (Sem.bind (isAgg t) k) h Q X := by
  unfold aggOf at hd
  cases hi : P.underlying t with
  | none => rw [hi] at hd; cases hd
  | some d =>
    rw [hi] at hd
    simp only [Option.map_some, Option.some.injEq] at hd
    show wpS P M (Sem.bind (Sem.bind (match P.underlying t with | some d => pure d | none => stuck "no such type") fun d => match d with | .struct _ | .array _ _ => pure true | _ => pure false) k) h Q X
    rw [hi]
    subst hd
    cases d <;> exact w

/- ---- moves ---- -/
theorem mo_move {o : Operand} {v : Value} (hx : ev e o = some v) : Mo P e (.move o) ty L fun v' L' => v' = v ∧ L' = L :=
  fun M _ _ t h Q X a s q => q v L h (.value (evT t o)) (.inl (congrArg _ (a.ev hx))) ⟨rfl, rfl⟩ s
theorem mo_assign {o : Operand} {v : Value} (hx : ev e o = some v) : Mo P e (.assign o) ty L fun v' L' => v' = v ∧ L' = L :=
  fun M _ _ t h Q X a s q => q v L h (.value (evT t o)) (.inl (congrArg _ (a.ev hx))) ⟨rfl, rfl⟩ s
theorem mo_pickT {c o o' : Operand} {v : Value} {q : Bool} (hc : ev e c = some (.bool q)) (hq : q = true) (hx : ev e o = some v) : Mo P e (.pick c o o') ty L fun v' L' => v' = v ∧ L' = L := by
  intro M _ _ t h Q X a s qq
  show wpS P M (do pure (.value (if ← asBool (evT t c) then evT t o else evT t o')) : Sem Next) h Q X
  rw [a.ev hc, hq]
  exact qq v L h (.value (evT t o)) (.inl (congrArg _ (a.ev hx))) ⟨rfl, rfl⟩ s
theorem mo_pickF {c o o' : Operand} {v : Value} {q : Bool} (hc : ev e c = some (.bool q)) (hq : q = false) (hx : ev e o' = some v) : Mo P e (.pick c o o') ty L fun v' L' => v' = v ∧ L' = L := by
  intro M _ _ t h Q X a s qq
  show wpS P M (do pure (.value (if ← asBool (evT t c) then evT t o else evT t o')) : Sem Next) h Q X
  rw [a.ev hc, hq]
  exact qq v L h (.value (evT t o')) (.inl (congrArg _ (a.ev hx))) ⟨rfl, rfl⟩ s

/- ---- operators ---- -/
/-- what a binary operator gives on two values -/
def Bin (P : Program) (op : BinOp) (xt : TypeId) (x y : Operand) (a b v : Value) : Prop :=
  ∀ M (h : Hp) (Q : Next → Hp → Prop) X, Q (.value v) h → wpS P M (do pure (.value (← (do eqGuard op xt x y a b; binOp op xt a b : Sem Value))) : Sem Next) h Q X

theorem mo_bin {op : BinOp} {xt yt : TypeId} {x y : Operand} {a b v : Value} (hx : ev e x = some a) (hy : ev e y = some b) (hb : Bin P op xt x y a b v) : Mo P e (.binOp op xt x y yt) ty L fun v' L' => v' = v ∧ L' = L := by
  intro M _ _ t h Q X ag s q
  show wpS P M (do pure (.value (← (do eqGuard op xt x y (evT t x) (evT t y); binOp op xt (evT t x) (evT t y) : Sem Value))) : Sem Next) h Q X
  rw [ag.ev hx, ag.ev hy]
  exact hb M h Q X (q v L h _ (.inl rfl) ⟨rfl, rfl⟩ s)

section
variable {xt : TypeId} {x y : Operand} {k yk : IntKind} {a b r : Int}
theorem bin_add (hr : k.wrap (a + b) = r) : Bin P .add xt x y (.int k a) (.int k b) (.int k r) := by
  intro M h Q X q; subst hr
  have : binOp .add xt (.int k a) (.int k b) = (pure (.int k (k.wrap (a + b))) : Sem Value) := by simp [binOp, Op.intArith]
  rw [this]; exact q
theorem bin_sub (hr : k.wrap (a - b) = r) : Bin P .sub xt x y (.int k a) (.int k b) (.int k r) := by
  intro M h Q X q; subst hr
  have : binOp .sub xt (.int k a) (.int k b) = (pure (.int k (k.wrap (a - b))) : Sem Value) := by simp [binOp, Op.intArith]
  rw [this]; exact q
theorem bin_mul (hr : k.wrap (a * b) = r) : Bin P .mul xt x y (.int k a) (.int k b) (.int k r) := by
  intro M h Q X q; subst hr
  have : binOp .mul xt (.int k a) (.int k b) = (pure (.int k (k.wrap (a * b))) : Sem Value) := by simp [binOp, Op.intArith]
  rw [this]; exact q
theorem bin_rem (hb : b ≠ 0) (hr : a.tmod b = r) : Bin P .rem xt x y (.int k a) (.int k b) (.int k r) := by
  intro M h Q X q; subst hr
  have : binOp .rem xt (.int k a) (.int k b) = (pure (.int k (a.tmod b)) : Sem Value) := by simp [binOp, Op.intDiv, hb]
  rw [this]; exact q
theorem bin_quo (hb : b ≠ 0) (hr : k.wrap (a.tdiv b) = r) : Bin P .quo xt x y (.int k a) (.int k b) (.int k r) := by
  intro M h Q X q; subst hr
  have : binOp .quo xt (.int k a) (.int k b) = (pure (.int k (k.wrap (a.tdiv b))) : Sem Value) := by simp [binOp, Op.intDiv, hb]
  rw [this]; exact q
theorem bin_and (hr : k.wrap (BitVec.ofInt k.bits a &&& BitVec.ofInt k.bits b).toNat = r) : Bin P .and xt x y (.int k a) (.int k b) (.int k r) := by
  intro M h Q X q; subst hr
  have : binOp .and xt (.int k a) (.int k b) = (pure (.int k (k.wrap (BitVec.ofInt k.bits a &&& BitVec.ofInt k.bits b).toNat)) : Sem Value) := by simp [binOp, Op.intBits]
  rw [this]; exact q
theorem bin_or (hr : k.wrap (BitVec.ofInt k.bits a ||| BitVec.ofInt k.bits b).toNat = r) : Bin P .or xt x y (.int k a) (.int k b) (.int k r) := by
  intro M h Q X q; subst hr
  have : binOp .or xt (.int k a) (.int k b) = (pure (.int k (k.wrap (BitVec.ofInt k.bits a ||| BitVec.ofInt k.bits b).toNat)) : Sem Value) := by simp [binOp, Op.intBits]
  rw [this]; exact q
theorem bin_shl (hb : 0 ≤ b) (hr : k.wrap (a * 2 ^ (min b.toNat k.bits)) = r) : Bin P .shl xt x y (.int k a) (.int yk b) (.int k r) := by
  intro M h Q X q; subst hr
  have : binOp .shl xt (.int k a) (.int yk b) = (pure (.int k (k.wrap (a * 2 ^ (min b.toNat k.bits)))) : Sem Value) := by simp [binOp, Op.shift, show ¬ b < 0 by omega]
  rw [this]; exact q
theorem bin_shr (hb : 0 ≤ b) (hr : a.fdiv (2 ^ (min b.toNat k.bits)) = r) : Bin P .shr xt x y (.int k a) (.int yk b) (.int k r) := by
  intro M h Q X q; subst hr
  have : binOp .shr xt (.int k a) (.int yk b) = (pure (.int k (a.fdiv (2 ^ (min b.toNat k.bits)))) : Sem Value) := by simp [binOp, Op.shift, show ¬ b < 0 by omega]
  rw [this]; exact q
theorem bin_lss : Bin P .lss xt x y (.int k a) (.int k b) (.bool (decide (a < b))) := by
  intro M h Q X q
  have : binOp .lss xt (.int k a) (.int k b) = (pure (.bool (decide (a < b))) : Sem Value) := by simp [binOp, Op.intCmp]
  rw [this]; exact q
theorem bin_leq : Bin P .leq xt x y (.int k a) (.int k b) (.bool (decide (a ≤ b))) := by
  intro M h Q X q
  have : binOp .leq xt (.int k a) (.int k b) = (pure (.bool (decide (a ≤ b))) : Sem Value) := by simp [binOp, Op.intCmp]
  rw [this]; exact q
theorem bin_gtr : Bin P .gtr xt x y (.int k a) (.int k b) (.bool (decide (b < a))) := by
  intro M h Q X q
  have : binOp .gtr xt (.int k a) (.int k b) = (pure (.bool (decide (b < a))) : Sem Value) := by simp [binOp, Op.intCmp]
  rw [this]; exact q
theorem bin_geq : Bin P .geq xt x y (.int k a) (.int k b) (.bool (decide (b ≤ a))) := by
  intro M h Q X q
  have : binOp .geq xt (.int k a) (.int k b) = (pure (.bool (decide (b ≤ a))) : Sem Value) := by simp [binOp, Op.intCmp]
  rw [this]; exact q
theorem bin_eql : Bin P .eql xt x y (.int k a) (.int k b) (.bool (decide (a = b))) := by
  intro M h Q X q
  have : binOp .eql xt (.int k a) (.int k b) = (pure (.bool (decide (a = b))) : Sem Value) := by simp [binOp, Op.intCmp, BEq.beq]
  rw [this]; exact q
theorem bin_neq : Bin P .neq xt x y (.int k a) (.int k b) (.bool (!decide (a = b))) := by
  intro M h Q X q
  have : binOp .neq xt (.int k a) (.int k b) = (pure (.bool (!decide (a = b))) : Sem Value) := by simp [binOp, Op.intCmp, bne, BEq.beq]
  rw [this]; exact q
end

/-- '==' on values that are no integers: what the model's own comparison gives -/
def Eql (P : Program) (t : TypeId) (x y : Operand) (a b : Value) (r : Bool) : Prop :=
  ∀ op, op = .eql ∨ op = .neq → ∀ M (h : Hp) (Q : Next → Hp → Prop) X, Q (.value (.bool (if op = .eql then r else !r))) h → wpS P M (do pure (.value (← (do eqGuard op t x y a b; binOp op t a b : Sem Value))) : Sem Next) h Q X

theorem bin_eq {xt : TypeId} {x y : Operand} {a b : Value} {r : Bool} (h : Eql P xt x y a b r) : Bin P .eql xt x y a b (.bool r) := fun M hh Q X q => h .eql (.inl rfl) M hh Q X (by simpa using q)
theorem bin_ne {xt : TypeId} {x y : Operand} {a b : Value} {r : Bool} (h : Eql P xt x y a b r) : Bin P .neq xt x y a b (.bool (!r)) := fun M hh Q X q => h .neq (.inr rfl) M hh Q X (by simpa using q)

/-- '==' out of the comparison's own run -/
theorem Eql.of {t : TypeId} {x y : Operand} {a b : Value} {r : Bool}
    (hg : ∀ op, op = .eql ∨ op = .neq → eqGuard op t x y a b = pure ())
    (h1 : binOp .eql t a b = (do pure (.bool (← Op.equal t a b)) : Sem Value)) (h2 : binOp .neq t a b = (do pure (.bool (!(← Op.equal t a b))) : Sem Value))
    (he : ∀ M (h : Hp) (Q : Bool → Hp → Prop) X, Q r h → wpS P M (Op.equal t a b) h Q X) : Eql P t x y a b r := by
  intro op hop M h Q X q
  rw [hg op hop]
  rcases hop with rfl | rfl
  · show wpS P M (Sem.bind (binOp .eql t a b) fun v => pure (.value v)) h Q X
    rw [h1]
    show wpS P M (Sem.bind (Sem.bind (Op.equal t a b) fun r => pure (.bool r)) fun v => pure (.value v)) h Q X
    refine wpS_bind _ _ (wpS_bind _ _ (he _ _ _ _ ?_))
    have q' : Q (.value (.bool r)) h := by simpa using q
    exact q'
  · show wpS P M (Sem.bind (binOp .neq t a b) fun v => pure (.value v)) h Q X
    rw [h2]
    show wpS P M (Sem.bind (Sem.bind (Op.equal t a b) fun r => pure (.bool (!r))) fun v => pure (.value v)) h Q X
    refine wpS_bind _ _ (wpS_bind _ _ (he _ _ _ _ ?_))
    have q' : Q (.value (.bool (!r))) h := by simpa using q
    exact q'

theorem equal_def (t : TypeId) (a b : Value) : Op.equal t a b = Op.equalIn (9999 + 1) t a b := rfl

theorem eql_ptr_nil {t el : TypeId} [p : PtT P t el] {x y : Operand} {a : Option Addr} : Eql P t x y (.pointer a) (.pointer none) a.isNone :=
  .of (fun op h => by rcases h with rfl | rfl <;> rfl) (by cases a <;> rfl) (by cases a <;> rfl) fun M h Q X q => by
    rw [equal_def]
    refine wpS_underlying p.ok ?_
    cases a <;> exact q
theorem eql_nil_ptr {t el : TypeId} [p : PtT P t el] {x y : Operand} {a : Option Addr} : Eql P t x y (.pointer none) (.pointer a) a.isNone :=
  .of (fun op h => by rcases h with rfl | rfl <;> rfl) (by cases a <;> rfl) (by cases a <;> rfl) fun M h Q X q => by
    rw [equal_def]
    refine wpS_underlying p.ok ?_
    cases a <;> exact q
theorem eql_slice_nil {t el : TypeId} [p : SlT P t el] {x y : Operand} {a : Option Addr} {n c : Nat} : Eql P t x y (.slice a n c) (.slice none 0 0) a.isNone :=
  .of (fun op h => by rcases h with rfl | rfl <;> rfl) rfl rfl fun M h Q X q => by
    rw [equal_def]
    refine wpS_underlying p.ok ?_
    cases a <;> exact q
theorem eql_bool {t : TypeId} [p : Und P t .bool] {x y : Operand} {a b : Bool} : Eql P t x y (.bool a) (.bool b) (a == b) :=
  .of (fun op h => by rcases h with rfl | rfl <;> rfl) rfl rfl fun M h Q X q => by
    rw [equal_def]
    exact wpS_underlying p.ok q
theorem eql_iface_nil {t : TypeId} {ms : Array (String × TypeId)} [p : Und P t (.interface ms)] {x : Operand} {u : TypeId} {v : Value} {y : Operand} : Eql P t x y (.iface u v) .nilIface false :=
  .of (fun op h => by rcases h with rfl | rfl <;> rfl) rfl rfl fun M h Q X q => by
    rw [equal_def]
    exact wpS_underlying p.ok q
theorem eql_nil_nil {t : TypeId} {ms : Array (String × TypeId)} [p : Und P t (.interface ms)] {x : Operand} {c : Value} : Eql P t x (.const c) .nilIface .nilIface true :=
  .of (fun op h => by rcases h with rfl | rfl <;> (cases x <;> rfl)) rfl rfl fun M h Q X q => by
    rw [equal_def]
    exact wpS_underlying p.ok q
theorem eql_func_nil {t : TypeId} {a b : Array TypeId} {c : Bool} [p : Und P t (.func a b c)] {x y : Operand} {f : Fn} {u w : Array Value} : Eql P t x y (.func f u w) .nilFunc false :=
  .of (fun op h => by rcases h with rfl | rfl <;> rfl) rfl rfl fun M h Q X q => by
    rw [equal_def]
    exact wpS_underlying p.ok q
theorem eql_nilfunc_nil {t : TypeId} {a b : Array TypeId} {c : Bool} [p : Und P t (.func a b c)] {x y : Operand} : Eql P t x y .nilFunc .nilFunc true :=
  .of (fun op h => by rcases h with rfl | rfl <;> rfl) rfl rfl fun M h Q X q => by
    rw [equal_def]
    exact wpS_underlying p.ok q

/-- a law of a memory program that touches nothing: its value -/
def Pur {α : Type} (P : Program) (s : Sem α) (a : α) : Prop := ∀ M (h : Hp) (Q : α → Hp → Prop) X, Q a h → wpS P M s h Q X

theorem mo_pur {op : Op} {v : Value} (hp : ∀ t, Agree e t → ∃ s : Sem Value, execOp (evT t) (opOf op ty) = (do pure (.value (← s))) ∧ Pur P s v) : Mo P e op ty L fun v' L' => v' = v ∧ L' = L := by
  intro M _ _ t h Q X a s q
  obtain ⟨sv, h1, h2⟩ := hp t a
  rw [h1]
  exact wpS_bind _ _ (h2 M h _ X (q v L h _ (.inl rfl) ⟨rfl, rfl⟩ s))

theorem mo_not {o : Operand} {xt : TypeId} {b : Bool} (hx : ev e o = some (.bool b)) : Mo P e (.unOp .not xt o) ty L fun v' L' => v' = .bool (!b) ∧ L' = L :=
  mo_pur fun t a => ⟨_, rfl, by rw [a.ev hx]; exact fun M h Q X q => q⟩

theorem mo_nilCheck {o : Operand} {a : Addr} (hx : ev e o = some (.pointer (some a))) : Mo P e (.nilCheck o) ty L fun v' L' => v' = .pointer (some a) ∧ L' = L := by
  intro M _ _ t h Q X ag s q
  show wpS P M (match evT t o with
    | .pointer none | .nilIface | .nilFunc => runtimePanic .nilDeref
    | .func (.method name) first captured =>
      match (first[0]? : Option Value) with
      | some .nilIface => runtimePanic .nilDeref
      | some (.iface t w) => do
        if (← nilAhead ((← program).types.size + Made.depth) t w name) != some false then
          unsupported (.noEntry "op/nilCheck.the method's receiver behind this interface value is a nil pointer, or cannot be seen to be none, and the arguments act or may panic (ledger 612)")
        pure (.value (.func (.method name) first captured))
      | _ => pure (.value (.func (.method name) first captured))
    | x => pure (.value x) : Sem Next) h Q X
  rw [ag.ev hx]
  exact q _ L h _ (.inl rfl) ⟨rfl, rfl⟩ s

theorem mo_conv {src dst : TypeId} {sd : TypeDesc} {k k' : IntKind} {n r : Int} {o : Operand} [ps : Und P src sd] [pd : InT P dst k] (hx : ev e o = some (.int k' n)) (hr : k.wrap n = r) : Mo P e (.convert src dst o) ty L fun v' L' => v' = .int k r ∧ L' = L :=
  mo_pur fun t a => ⟨_, rfl, by
    rw [a.ev hx]; subst hr
    exact fun M h Q X q => wpS_underlying ps.ok (wpS_underlying pd.ok q)⟩

theorem mo_extract {o : Operand} {vs : Array Value} {i : Nat} {v : Value} (hx : ev e o = some (.tuple vs)) (hv : vs[i]? = some v) : Mo P e (.extract o i) ty L fun v' L' => v' = v ∧ L' = L :=
  mo_pur fun t a => ⟨_, rfl, by
    rw [a.ev hx]
    intro M h Q X q
    show wpS P M (match vs[i]? with | some v => pure v | none => stuck "Extract: no such component") h Q X
    rw [hv]; exact q⟩

theorem mo_makeFunc {fn : Fn} {first cap : List Operand} {vf vc : List Value} (hf : EvL e first vf) (hc : EvL e cap vc) : Mo P e (.makeFunc fn first.toArray cap.toArray) ty L fun v' L' => v' = .func fn vf.toArray vc.toArray ∧ L' = L :=
  mo_pur fun t a => ⟨_, rfl, by
    have h1 := hf.evT a
    have h2 := hc.evT a
    intro M h Q X q
    show Q (.func fn (first.toArray.map (evT t)) (cap.toArray.map (evT t))) h
    rw [List.map_toArray, List.map_toArray, h1, h2]; exact q⟩

theorem mo_makeInterface {xt : TypeId} {o : Operand} {v : Value} [p : NoIfc P xt] (hx : ev e o = some v) : Mo P e (.makeInterface xt o) ty L fun v' L' => v' = .iface xt v ∧ L' = L :=
  mo_pur fun t a => ⟨_, rfl, by
    rw [a.ev hx]
    intro M h Q X q
    have hp := p.ok
    cases hu : P.underlying xt with
    | none => rw [hu] at hp; cases hp
    | some d =>
      rw [hu] at hp
      refine wpS_underlying hu ?_
      cases d <;> first | exact q | cases hp⟩

theorem add_none (b o n : Nat) : Addr.add ⟨b, o, none⟩ n = ⟨b, o + n, none⟩ := by
  unfold Addr.add; split
  · rename_i h; subst h; rfl
  · rfl

theorem mo_fieldAddr {s f off ft fz : Nat} {o : Operand} {b c r : Nat} [p : Fld P s f off ft fz] (hz : (fz == 0) = false) (hx : ev e o = some (.pointer (some ⟨b, c, none⟩))) (hr : c + off = r) : Mo P e (.fieldAddr s o f) ty L fun v' L' => v' = .pointer (some ⟨b, r, none⟩) ∧ L' = L :=
  mo_pur fun t a => ⟨_, rfl, by
    rw [a.ev hx]; subst hr
    intro M h Q X q
    have hp := p.ok
    unfold fOf at hp
    cases hu : P.underlying s with
    | none => rw [hu] at hp; cases hp
    | some d =>
      rw [hu] at hp
      cases d with
      | struct fs =>
        simp only at hp
        cases hf : fs[f]? with
        | none => rw [hf] at hp; cases hp
        | some fd =>
          rw [hf] at hp
          simp only [Option.bind_some] at hp
          cases hs : szOf P fd.type with
          | none => rw [hs] at hp; cases hp
          | some z =>
            rw [hs] at hp
            simp only [Option.map_some, Option.some.injEq, Prod.mk.injEq] at hp
            obtain ⟨rfl, rfl, rfl⟩ := hp
            refine wpS_underlying hu ?_
            simp only [hf]
            show wpS P M (Sem.bind (fieldPlace ⟨b, c, none⟩ fd) fun a => pure (.pointer (some a))) h Q X
            refine wpS_bind _ _ (wpS_sizeOf hs ?_)
            rw [if_neg (by simpa using hz), add_none]
            exact q
      | _ => cases hp⟩

/-- an index into a slice -/
theorem mo_indexAddr {t el sz : Nat} {o i : Operand} {b c n cp : Nat} {k : IntKind} {j : Int} {r : Nat} [p : SlT P t el] [z : Siz P el sz] (hx : ev e o = some (.slice (some ⟨b, c, none⟩) n cp)) (hi : ev e i = some (.int k j)) (h0 : 0 ≤ j) (h1 : j < n) (hr : c + j.toNat * sz = r) : Mo P e (.indexAddr t o i) ty L fun v' L' => v' = .pointer (some ⟨b, r, none⟩) ∧ L' = L :=
  mo_pur fun t' a => ⟨_, rfl, by
    rw [a.ev hx, a.ev hi]; subst hr
    intro M h Q X q
    simp only [Instr.indexAt, asIntOf, pure_bind, bind_assoc]
    refine wpS_underlying p.ok ?_
    simp only [Instr.sureAddr, pure_bind]
    refine wpS_underlying p.ok ?_
    show wpS P M (if 0 ≤ j ∧ j < n then Sem.bind (sizeOf el) fun z => pure (.pointer (some (Addr.add ⟨b, c, none⟩ (j.toNat * z)))) else _) h Q X
    rw [if_pos ⟨h0, h1⟩]
    refine wpS_sizeOf z.ok ?_
    rw [add_none]; exact q⟩

/-- an index into an array behind a pointer -/
theorem mo_indexArr {t n el sz : Nat} {o i : Operand} {b c : Nat} {k : IntKind} {j : Int} {r : Nat} [p : ArT P t n el] [z : Siz P el sz] (hx : ev e o = some (.pointer (some ⟨b, c, none⟩))) (hi : ev e i = some (.int k j)) (h0 : 0 ≤ j) (h1 : j < n) (hr : c + j.toNat * sz = r) : Mo P e (.indexAddr t o i) ty L fun v' L' => v' = .pointer (some ⟨b, r, none⟩) ∧ L' = L :=
  mo_pur fun t' a => ⟨_, rfl, by
    rw [a.ev hx, a.ev hi]; subst hr
    intro M h Q X q
    simp only [Instr.indexAt, asIntOf, pure_bind, bind_assoc]
    refine wpS_underlying p.ok ?_
    simp only [Instr.sureAddr, pure_bind]
    refine wpS_underlying p.ok ?_
    show wpS P M (if 0 ≤ j ∧ j < n then Sem.bind (sizeOf el) fun z => pure (.pointer (some (Addr.add ⟨b, c, none⟩ (j.toNat * z)))) else _) h Q X
    rw [if_pos ⟨h0, h1⟩]
    refine wpS_sizeOf z.ok ?_
    rw [add_none]; exact q⟩

/-- a field of a struct value -/
theorem mo_field {s f off ft fz : Nat} {o : Operand} {cs : Array Value} {v : Value} [p : Fld P s f off ft fz] [sc : Scal P ft] (hx : ev e o = some (.agg cs)) (hv : cs[off]? = some v) : Mo P e (.field s o f) ty L fun v' L' => v' = v ∧ L' = L :=
  mo_pur fun t a => ⟨_, rfl, by
    rw [a.ev hx]
    intro M h Q X q
    have hp := p.ok
    unfold fOf at hp
    cases hu : P.underlying s with
    | none => rw [hu] at hp; cases hp
    | some d =>
      rw [hu] at hp
      cases d with
      | struct fs =>
        simp only at hp
        cases hf : fs[f]? with
        | none => rw [hf] at hp; cases hp
        | some fd =>
          rw [hf] at hp
          simp only [Option.bind_some] at hp
          cases hs : szOf P fd.type with
          | none => rw [hs] at hp; cases hp
          | some z =>
            rw [hs] at hp
            simp only [Option.map_some, Option.some.injEq, Prod.mk.injEq] at hp
            obtain ⟨rfl, rfl, rfl⟩ := hp
            refine wpS_underlying hu ?_
            simp only [hf]
            show wpS P M (Sem.bind (isAgg fd.type) _) h Q X
            refine wpS_isAgg sc.ok ?_
            show wpS P M (match cs[fd.offset]? with | some v => pure v | none => stuck "part: no such cell") h Q X
            rw [hv]; exact q
      | _ => cases hp⟩

theorem mo_fieldA {s f off ft fz : Nat} {o : Operand} {cs : Array Value} [p : Fld P s f off ft fz] [sc : AggT P ft] (hx : ev e o = some (.agg cs)) : Mo P e (.field s o f) ty L fun v' L' => v' = .agg (cs.extract off (off + fz)) ∧ L' = L :=
  mo_pur fun t a => ⟨_, rfl, by
    rw [a.ev hx]
    intro M h Q X q
    have hp := p.ok
    unfold fOf at hp
    cases hu : P.underlying s with
    | none => rw [hu] at hp; cases hp
    | some d =>
      rw [hu] at hp
      cases d with
      | struct fs =>
        simp only at hp
        cases hf : fs[f]? with
        | none => rw [hf] at hp; cases hp
        | some fd =>
          rw [hf] at hp
          simp only [Option.bind_some] at hp
          cases hs : szOf P fd.type with
          | none => rw [hs] at hp; cases hp
          | some z =>
            rw [hs] at hp
            simp only [Option.map_some, Option.some.injEq, Prod.mk.injEq] at hp
            obtain ⟨rfl, rfl, rfl⟩ := hp
            refine wpS_underlying hu ?_
            simp only [hf]
            show wpS P M (Sem.bind (isAgg fd.type) _) h Q X
            refine wpS_isAgg sc.ok ?_
            show wpS P M (Sem.bind (sizeOf fd.type) fun z => pure (.agg (cs.extract fd.offset (fd.offset + z)))) h Q X
            exact wpS_sizeOf hs q
      | _ => cases hp⟩

/- ---- builtins ---- -/
theorem mo_len {o : Operand} {st : Nat} {el : Nat} {a : Option Addr} {n c : Nat} [p : SlT P st el] (hx : ev e o = some (.slice a n c)) : Mo P e (.call ⟨.builtin .len, #[o], #[st]⟩) ty L fun v' L' => v' = .int .i64 n ∧ L' = L := by
  intro M _ _ t h Q X ag s q
  show wpS P M (Sem.bind (Builtin.len_ #[st] ty (#[o].map (evT t))) fun v => pure (.value v)) h Q X
  rw [show #[o].map (evT t) = #[evT t o] by simp, ag.ev hx]
  refine wpS_bind _ _ ?_
  exact wpS_underlying p.ok (q _ L h _ (.inl rfl) ⟨rfl, rfl⟩ s)

theorem mo_min {o o' : Operand} {tys : Array TypeId} {k : IntKind} {a b : Int} (hx : ev e o = some (.int k a)) (hy : ev e o' = some (.int k b)) : Mo P e (.call ⟨.builtin .min, #[o, o'], tys⟩) ty L fun v' L' => v' = .int k (min a b) ∧ L' = L := by
  intro M _ _ t h Q X ag s q
  show wpS P M (Sem.bind (Builtin.min_ tys ty (#[o, o'].map (evT t))) fun v => pure (.value v)) h Q X
  rw [show #[o, o'].map (evT t) = #[evT t o, evT t o'] by simp, ag.ev hx, ag.ev hy]
  refine q _ L h (.value (.int k (if b < a then b else a))) (.inl ?_) ⟨rfl, rfl⟩ s
  congr 2
  split <;> omega

end
end Go.PB

set_option linter.unusedVariables false
set_option linter.unusedSimpArgs false
namespace Go.PB

section
variable {P : Program} {e : Env} {L : List HProp} {ty : TypeId}

/-- what may be written: with v at (b, o) L is L' -/
def Wt (L : List HProp) (b o : Nat) (v : Value) (L' : List HProp) : Prop := ∀ h, Star L h → (h.own b o).isSome = true ∧ Star L' (h.set b o v)

theorem Wt.row {b o k n : Nat} {vs : List Value} {v : Value} {L L' : List HProp} (hk : k < vs.length) (hn : n = o + k) (f : Foc L (arr b o vs) (arr b o (vs.set k v)) L') : Wt L b n v L' := by
  intro h s
  obtain ⟨R, h1, h2⟩ := f.out
  subst hn
  obtain ⟨a, b⟩ := star_store (v := v) hk (h1.star s)
  exact ⟨a, h2 b⟩

theorem Wt.row0 {b k : Nat} {vs : List Value} {v : Value} {L L' : List HProp} (f : Foc L (arr b 0 vs) (arr b 0 (vs.set k v)) L') (hk : k < vs.length) : Wt L b k v L' := Wt.row hk (Nat.zero_add k).symm f

/-- several cells in one row -/
def Rds (L : List HProp) (b o : Nat) (vs : List Value) : Prop := ∀ (i : Nat) v, vs[i]? = some v → Rd L b (o + i) v

theorem Rds.row {b o k : Nat} {vs ws : List Value} {L R : List HProp} (f : Has L (arr b o vs) R) (hw : ∀ (i : Nat) v, ws[i]? = some v → vs[k + i]? = some v) : Rds L b (o + k) ws :=
  fun i v hi => Rd.of f (Rd.row (hw i v hi) (by omega))

theorem Rds.all {b o : Nat} {vs : List Value} {L R : List HProp} (f : Has L (arr b o vs) R) : Rds L b o vs := by
  have := Rds.row (k := 0) (ws := vs) f (fun i v h => by simpa using h)
  simpa using this

section
variable {M : Mark → Prop}

theorem wpS_load {h : Hp} {b o : Nat} {v : Value} {Q : Value → Hp → Prop} {X : Value → Hp → Prop} (hc : h.can ⟨b, o, none⟩ v) (q : Q v h) : wpS P M (load ⟨b, o, none⟩) h Q X := ⟨v, hc, q⟩

theorem wpS_loadCellsFrom {h : Hp} {b o : Nat} {Q : Array Value → Hp → Prop} {X : Value → Hp → Prop} : ∀ (vs : List Value) (i : Nat) (acc : Array Value), (∀ (j : Nat) v, vs[j]? = some v → h.can ⟨b, o + (i + j), none⟩ v) → Q (acc ++ vs.toArray) h →
    wpS P M (loadCellsFrom ⟨b, o, none⟩ i vs.length acc) h Q X := by
  intro vs
  induction vs with
  | nil =>
    intro i acc _ q
    have q' : Q acc h := by simpa using q
    exact q'
  | cons v vs ih =>
    intro i acc hc q
    show wpS P M (Sem.bind (load (Addr.add ⟨b, o, none⟩ i)) fun v => loadCellsFrom ⟨b, o, none⟩ (i + 1) vs.length (acc.push v)) h Q X
    rw [add_none]
    refine wpS_bind _ _ (wpS_load (hc 0 v rfl) ?_)
    refine ih (i + 1) (acc.push v) (fun j w hw => ?_) (by simpa using q)
    have := hc (j + 1) w (by simpa using hw)
    rwa [show i + 1 + j = i + (j + 1) by omega]

theorem wpS_loadCells {h : Hp} {b o n : Nat} {vs : List Value} {Q : Array Value → Hp → Prop} {X : Value → Hp → Prop} (hn : n = vs.length) (hc : ∀ (j : Nat) v, vs[j]? = some v → h.can ⟨b, o + j, none⟩ v) (q : Q vs.toArray h) : wpS P M (loadCells ⟨b, o, none⟩ n) h Q X := by
  subst hn
  exact wpS_loadCellsFrom vs 0 #[] (fun j v hv => by simpa using hc j v hv) (by simpa using q)

/-- the cells of a value that lies in one cell -/
def one : Value → Bool
  | .agg _ | .tuple _ => false
  | _ => true

theorem wpS_store1 {h : Hp} {b o : Nat} {v : Value} {Q : Unit → Hp → Prop} {X : Value → Hp → Prop} (hv : one v = true) (ho : (h.own b o).isSome = true) (q : Q () (h.set b o v)) : wpS P M (store ⟨b, o, none⟩ v) h Q X := by
  cases v <;> first | exact ⟨rfl, ho, q⟩ | cases hv

theorem one_cells {v : Value} (hv : one v = true) : v.cells = #[v] := by cases v <;> first | rfl | cases hv
end

/- ---- loads ---- -/
theorem mo_load {t : TypeId} {o : Operand} {b c : Nat} {v : Value} [p : Scal P t] (ha : ev e o = some (.pointer (some ⟨b, c, none⟩))) (hr : Rd L b c v) : Mo P e (.load t o) ty L fun v' L' => v' = v ∧ L' = L := by
  intro M _ _ tt h Q X ag s q
  show wpS P M (Sem.bind (Instr.loadAt t (evT tt o)) fun v => pure (.value v)) h Q X
  rw [ag.ev ha]
  show wpS P M (Sem.bind (loadVar t ⟨b, c, none⟩) fun v => pure (.value v)) h Q X
  refine wpS_bind _ _ ?_
  show wpS P M (Sem.bind (isAgg t) _) h _ X
  refine wpS_isAgg p.ok ?_
  exact wpS_load (hr h s) (q v L h _ (.inl rfl) ⟨rfl, rfl⟩ s)

theorem mo_loadA {t : TypeId} {o : Operand} {b c n : Nat} {vs : List Value} [p : AggT P t] [sz : Siz P t n] (ha : ev e o = some (.pointer (some ⟨b, c, none⟩))) (hn : n = vs.length) (hr : Rds L b c vs) : Mo P e (.load t o) ty L fun v' L' => v' = .agg vs.toArray ∧ L' = L := by
  intro M _ _ tt h Q X ag s q
  show wpS P M (Sem.bind (Instr.loadAt t (evT tt o)) fun v => pure (.value v)) h Q X
  rw [ag.ev ha]
  show wpS P M (Sem.bind (loadVar t ⟨b, c, none⟩) fun v => pure (.value v)) h Q X
  refine wpS_bind _ _ ?_
  show wpS P M (Sem.bind (isAgg t) _) h _ X
  refine wpS_isAgg p.ok ?_
  rw [if_pos rfl]
  show wpS P M (Sem.bind (sizeOf t) fun n => Sem.bind (loadCells ⟨b, c, none⟩ n) fun x => pure (Value.agg x)) h _ X
  refine wpS_sizeOf sz.ok (wpS_bind _ _ (wpS_loadCells hn (fun j v hv => hr j v hv h s) ?_))
  exact q _ L h _ (.inl rfl) ⟨rfl, rfl⟩ s

/- ---- stores ---- -/
theorem wpS_storeVar1 {M : Mark → Prop} {t : TypeId} {b c : Nat} {v : Value} {h : Hp} {Q : Unit → Hp → Prop} {X : Value → Hp → Prop} (sz : szOf P t = some 1) (hv : one v = true) (ho : (h.own b c).isSome = true) (q : Q () (h.set b c v)) : wpS P M (storeVar t ⟨b, c, none⟩ v) h Q X := by
  have hc := one_cells hv
  show wpS P M (Sem.bind (sizeOf t) fun n => if v.cells.size ≠ n then (do stuck "storeVar: the value has not the size of the variable"; storeCells ⟨b, c, none⟩ v.cells.toList) else storeCells ⟨b, c, none⟩ v.cells.toList) h Q X
  refine wpS_sizeOf sz ?_
  rw [hc]
  show wpS P M (Sem.bind (store (Addr.add ⟨b, c, none⟩ 0) v) fun _ => pure ()) h Q X
  rw [add_none]
  exact wpS_bind _ _ (wpS_store1 hv ho q)

theorem mo_store {t : TypeId} {o x : Operand} {b c : Nat} {v : Value} {L' : List HProp} [sz : Siz P t 1] (ha : ev e o = some (.pointer (some ⟨b, c, none⟩))) (hx : ev e x = some v) (hv : one v = true) (hw : Wt L b c v L') : Mo P e (.store t o x) ty L fun v' L1 => v' = undef ∧ L1 = L' := by
  intro M _ _ tt h Q X ag s q
  show wpS P M (Sem.bind (Instr.storeAt t (evT tt o) (evT tt x)) fun _ => pure .skip) h Q X
  rw [ag.ev ha, ag.ev hx]
  show wpS P M (Sem.bind (storeVar t ⟨b, c, none⟩ v) fun _ => pure .skip) h Q X
  obtain ⟨h1, h2⟩ := hw h s
  exact wpS_bind _ _ (wpS_storeVar1 sz.ok hv h1 (q undef L' _ _ (.inr ⟨rfl, rfl⟩) ⟨rfl, rfl⟩ h2))

/- ---- new memory ---- -/
theorem wpS_newRow {M : Mark → Prop} {t : TypeId} {c : Array Value} {h : Hp} {Q : Addr → Hp → Prop} {X : Value → Hp → Prop} (s : Star L h) (q : ∀ b h', Star (arr b 0 c.toList :: L) h' → Q ⟨b, 0, none⟩ h') : wpS P M (newRow t c) h Q X :=
  fun b hf => q b _ (star_new hf s)

theorem mo_box {t : TypeId} {o : Operand} {v : Value} (hx : ev e o = some v) : Mo P e (.box t o) ty L fun v' L' => ∃ b, v' = .pointer (some ⟨b, 0, none⟩) ∧ L' = arr b 0 v.cells.toList :: L := by
  intro M _ _ tt h Q X ag s q
  show wpS P M (Sem.bind (Sem.bind (newVar t (evT tt o)) fun a => pure (.pointer (some a))) fun v => pure (.value v)) h Q X
  rw [ag.ev hx]
  refine wpS_bind _ _ (wpS_bind _ _ (wpS_newRow s fun b h' s' => ?_))
  exact q _ _ h' _ (.inl rfl) ⟨b, rfl, rfl⟩ s'

theorem mo_alloc {t : TypeId} {zv : Value} [zr : Zer P t zv] : Mo P e (.alloc t) ty L fun v' L' => ∃ b, v' = .pointer (some ⟨b, 0, none⟩) ∧ L' = arr b 0 zv.cells.toList :: L := by
  intro M _ _ tt h Q X ag s q
  show wpS P M (Sem.bind (Instr.alloc t true (.tuple #[])) fun v => pure (.value v)) h Q X
  refine wpS_bind _ _ ?_
  show wpS P M (Sem.bind (zeroValue t) fun zero => Sem.bind (newVar t zero) fun a => pure (Value.pointer (some a))) h _ X
  refine wpS_zeroValue zr.ok (wpS_bind _ _ (wpS_newRow s fun b h' s' => ?_))
  exact q _ _ h' _ (.inl rfl) ⟨b, rfl, rfl⟩ s'

theorem mo_build {t : TypeId} {parts : Array (Nat × Operand)} {pv : List (Nat × Value)} {ps : Array (Nat × Nat)} {z cells : Array Value} [p : StT P t ps z] (hp : parts.toList.map (·.1) = pv.map (·.1)) (hv : EvL e (parts.toList.map (·.2)) (pv.map (·.2))) (hf : Instr.fill (ps[·]?) z pv = some cells) : Mo P e (.build t parts) ty L fun v' L' => v' = .agg cells ∧ L' = L := by
  intro M _ _ tt h Q X ag s q
  have hparts : (parts.map fun (i, x) => (i, evT tt x)) = pv.toArray := by
    apply Array.ext'
    simp only [Array.toList_map]
    have h2 := hv.evT ag
    have key : ∀ (l : List (Nat × Operand)) (r : List (Nat × Value)), l.map (·.1) = r.map (·.1) → (l.map (·.2)).map (evT tt) = r.map (·.2) → l.map (fun (q : Nat × Operand) => (q.1, evT tt q.2)) = r := by
      intro l
      induction l with
      | nil => intro r h1 _; cases r with | nil => rfl | cons _ _ => cases h1
      | cons a l ih =>
        intro r h1 h2
        cases r with
        | nil => cases h1
        | cons c r =>
          simp only [List.map_cons, List.cons.injEq] at h1 h2 ⊢
          exact ⟨by rw [h1.1, h2.1], ih r h1.2 h2.2⟩
    exact key _ _ hp h2
  have hz := p.zero
  have ho := p.ok
  show wpS P M (Sem.bind (Instr.build t (parts.map fun (i, x) => (i, evT tt x))) fun v => pure (.value v)) h Q X
  rw [hparts]
  refine wpS_bind _ _ ?_
  cases hz0 : zeroOf P t with
  | none => rw [hz0] at hz; cases hz
  | some zv =>
    rw [hz0] at hz
    simp only [Option.map_some, Option.some.injEq] at hz
    cases hu : P.underlying t with
    | none => rw [hu] at ho; cases ho
    | some d =>
      rw [hu] at ho
      cases d with
      | struct fs =>
        simp only at ho
        show wpS P M (Sem.bind (zeroValue t) fun z0 => Sem.bind (underlying t) fun d => _) h _ X
        refine wpS_zeroValue hz0 (wpS_underlying hu ?_)
        have key : ∀ (M : Mark → Prop) (Q : Array (Nat × Nat) → Hp → Prop) X, Q ps h → wpS P M (fs.mapM fun f => do pure (f.offset, ← sizeOf f.type) : Sem (Array (Nat × Nat))) h Q X := by
          intro M Q X hq
          rw [Array.mapM_eq_foldlM, ← Array.foldlM_toList]
          rw [Array.mapM_eq_foldlM, ← Array.foldlM_toList] at ho
          have gen : ∀ (l : List Field) (acc ps : Array (Nat × Nat)), List.foldlM (fun (bs : Array (Nat × Nat)) (x : Field) => bs.push <$> ((szOf P x.type).map fun z => (x.offset, z))) acc l = some ps → Q ps h →
              wpS P M (List.foldlM (fun (bs : Array (Nat × Nat)) (f : Field) => bs.push <$> (do pure (f.offset, ← sizeOf f.type) : Sem (Nat × Nat))) acc l) h Q X := by
            intro l
            induction l with
            | nil => intro acc ps h1 hq; simp only [List.foldlM_nil, Option.pure_def, Option.some.injEq] at h1; subst h1; exact hq
            | cons f l ih =>
              intro acc ps h1 hq
              simp only [List.foldlM_cons] at h1
              cases hs : szOf P f.type with
              | none => rw [hs] at h1; simp at h1
              | some z =>
                rw [hs] at h1
                simp only [Option.map_some, Option.map_eq_map, Option.bind_eq_bind, Option.bind_some] at h1
                simp only [List.foldlM_cons]
                refine wpS_bind (Sem.bind (Sem.bind (sizeOf f.type) fun z => pure (f.offset, z)) (Sem.pure ∘ acc.push)) _ ?_
                refine wpS_bind _ _ (wpS_bind _ _ ?_)
                have := wpS_sizeOf (P := P) (M := M) (k := Sem.pure) (h := h) (X := X) (Q := fun z h => wpS P M (List.foldlM (fun (bs : Array (Nat × Nat)) (f : Field) => bs.push <$> (do pure (f.offset, ← sizeOf f.type) : Sem (Nat × Nat))) (acc.push (f.offset, z)) l) h Q X) hs (ih _ _ h1 hq)
                rw [sem_bind_pure] at this
                exact this
          exact gen _ _ _ ho hq
        show wpS P M (Sem.bind (fs.mapM fun f => do pure (f.offset, ← sizeOf f.type) : Sem (Array (Nat × Nat))) fun places => _) h _ X
        refine wpS_bind _ _ (key _ _ _ ?_)
        subst hz
        simp only [hf]
        exact q _ L h _ (.inl rfl) ⟨rfl, rfl⟩ s
      | _ => cases ho

end
end Go.PB

set_option linter.unusedVariables false
set_option linter.unusedSimpArgs false
namespace Go.PB

/-- n copies of a row of cells -/
def zeros (n : Nat) (c : List Value) : List Value := (List.replicate n c).flatten

theorem zeros_length (n : Nat) (c : List Value) : (zeros n c).length = n * c.length := by simp [zeros]

theorem range_zeros (n : Nat) (z : Array Value) : ((Array.range (n * z.size)).map (z[· % z.size]!)).toList = zeros n z.toList := by
  rw [Array.toList_map, Array.toList_range]
  induction n with
  | zero => simp [zeros]
  | succ n ih =>
    rw [show (n + 1) * z.size = n * z.size + z.size by rw [Nat.add_mul]; simp, List.range_add, List.map_append, ih]
    simp only [zeros, List.replicate_succ', List.flatten_append, List.flatten_cons, List.flatten_nil, List.append_nil]
    congr 1
    rw [List.map_map]
    apply List.ext_getElem
    · simp
    · intro i h1 h2
      simp only [List.getElem_map, List.getElem_range, Function.comp]
      have hi : i < z.size := by simpa using h2
      rw [Nat.mul_add_mod_self_right, Nat.mod_eq_of_lt hi]
      simp [hi]

section
variable {P : Program} {e : Env} {L : List HProp} {ty : TypeId} {M : Mark → Prop}

theorem wpS_askRoom {n : Nat} {h : Hp} {Q : Unit → Hp → Prop} {X : Value → Hp → Prop} (m : M .noRoom) (q : Q () h) : wpS P M (askRoom n) h Q X := by
  unfold askRoom
  split
  · exact ⟨m, q⟩
  · exact q

theorem wpS_bytes {t : TypeId} {b : Nat} {α : Type} {k : TypeInfo → Sem α} {h : Hp} {Q : α → Hp → Prop} {X : Value → Hp → Prop} (hb : bytesOf P t = some b) (w : ∀ i : TypeInfo, i.bytes = b → wpS P M (k i) h Q X) : wpS P M (Sem.bind (typeInfo t) k) h Q X := by
  unfold bytesOf at hb
  cases hi : P.info? t with
  | none => rw [hi] at hb; cases hb
  | some i =>
    rw [hi] at hb
    simp only [Option.map_some, Option.some.injEq] at hb
    exact wpS_typeInfo hi (w i hb)

theorem wrap_i64 {n : Int} (h1 : -9223372036854775808 ≤ n) (h2 : n ≤ 9223372036854775807) : IntKind.i64.wrap n = n := by
  unfold IntKind.wrap IntKind.signed IntKind.bits
  simp only [Bool.true_and, decide_eq_true_eq]
  split <;> omega

/-- make([]T, n) -/
theorem mo_make {t el by_ sz : Nat} {o o' : Operand} {k k' : IntKind} {n : Nat} {zv : Value} [p : SlT P t el] [b : Byt P el by_] [s : Siz P el sz] [z : Zer P el zv] (hx : ev e o = some (.int k n)) (hy : ev e o' = some (.int k' n)) (hsz : zv.cells.size = sz) (hn : n ≤ 9223372036854775807) (hb : by_ * n ≤ 281474976710656) : Mo P e (.makeSlice t o o') ty L fun v' L' => ∃ b, v' = .slice (some ⟨b, 0, none⟩) n n ∧ L' = arr b 0 (zeros n zv.cells.toList) :: L := by
  intro M hM _ tt h Q X ag st q
  show wpS P M (Sem.bind (Instr.makeSlice t (evT tt o) (evT tt o')) fun v => pure (.value v)) h Q X
  rw [ag.ev hx, ag.ev hy]
  refine wpS_bind _ _ ?_
  have hw : IntKind.i64.wrap (n : Int) = n := wrap_i64 (by omega) (by omega)
  unfold Instr.makeSlice
  refine wpS_underlying p.ok ?_
  simp only [asInt, asIntOf, pure_bind, bind_assoc]
  refine wpS_bytes b.ok fun i hi => ?_
  simp only [hw, hi]
  have hc : (decide ((n : Int) < 0) || decide ((by_ : Int) * (n : Int) > 2 ^ 48) || decide ((n : Int) < 0) || decide ((n : Int) > (n : Int))) = false := by
    have h1 : ¬ ((by_ : Int) * (n : Int) > 2 ^ 48) := by
      obtain ⟨m, hm⟩ : ∃ m, by_ * n = m := ⟨_, rfl⟩
      rw [← Int.natCast_mul, hm]
      rw [hm] at hb
      omega
    simp [h1]
    omega
  rw [if_neg (by rw [hc]; simp)]
  simp only [Int.toNat_natCast, pure_bind]
  refine wpS_bind _ _ (wpS_askRoom hM ?_)
  refine wpS_sizeOf s.ok ?_
  have fin : ∀ zc : Array Value, (n * sz ≠ 0 → zc = zv.cells) → wpS P M (Sem.bind (newRow el ((Array.range (n * sz)).map (zc[· % zc.size]!))) fun a => pure (Value.slice (some a) n n)) h (fun a h => wpS P M (pure (Next.value a)) h Q X) X := by
    intro zc hzc
    refine wpS_bind _ _ (wpS_newRow st fun bb h' s' => ?_)
    refine q _ _ h' _ (.inl rfl) ⟨bb, rfl, rfl⟩ ?_
    by_cases h0 : n * sz = 0
    · have e1 : (zeros n zv.cells.toList) = [] := List.length_eq_zero_iff.1 (by rw [zeros_length, Array.length_toList, hsz, h0])
      have e2 : ((Array.range (n * sz)).map (zc[· % zc.size]!)).toList = [] := by rw [h0]; simp
      rw [e1]; rw [e2] at s'; exact s'
    · rw [hzc h0, ← hsz, range_zeros] at s'; exact s'
  by_cases h0 : n * sz = 0
  · rw [if_pos h0]; exact fin #[] (fun h => absurd h0 h)
  · rw [if_neg h0]
    refine wpS_zeroValue z.ok ?_
    exact fin _ (fun _ => rfl)

/- ---- slice literals ---- -/
theorem fold_set (cs : List Value) : ∀ (j0 off : Nat) (A : Array Value), off + j0 + cs.length ≤ A.size →
    ((cs.zipIdx j0).foldl (fun (a : Array Value) (p : Value × Nat) => a.setIfInBounds (off + p.2) p.1) A).toList = A.toList.take (off + j0) ++ cs ++ A.toList.drop (off + j0 + cs.length) := by
  induction cs with
  | nil => intro j0 off A _; simp
  | cons c cs ih =>
    intro j0 off A h
    simp only [List.length_cons] at h
    simp only [List.zipIdx_cons, List.foldl_cons]
    rw [ih (j0 + 1) off _ (by simp; omega)]
    simp only [Array.toList_setIfInBounds, List.length_cons]
    have hlt : off + j0 < A.toList.length := by simp; omega
    apply List.ext_getElem?
    intro i
    simp only [List.getElem?_append, List.length_append, List.length_take, List.getElem?_take, List.getElem?_drop, List.getElem?_set, List.length_set, List.getElem?_cons, List.length_cons]
    have e1 : min (off + (j0 + 1)) A.toList.length = off + j0 + 1 := by omega
    have e2 : min (off + j0) A.toList.length = off + j0 := by omega
    rw [e1, e2]
    by_cases h1 : i < off + j0
    · simp [h1, show i < off + j0 + 1 + cs.length by omega, show i < off + j0 + 1 by omega, show i < off + (j0 + 1) by omega, show i < off + j0 + (cs.length + 1) by omega, show off + j0 ≠ i by omega]
    · by_cases h2 : i = off + j0
      · subst h2
        have hlt' : off + j0 < A.size := by simpa using hlt
        simp [hlt', show off + j0 < off + j0 + 1 + cs.length by omega]
      · by_cases h3 : i < off + j0 + 1 + cs.length
        · simp [h1, h3, show ¬ i < off + j0 + 1 by omega, show i < off + j0 + (cs.length + 1) by omega, show ¬ i - (off + j0) = 0 by omega, show i - (off + j0) - 1 = i - (off + j0 + 1) by omega]
        · simp [h1, h3, show ¬ i < off + j0 + (cs.length + 1) by omega, show off + (j0 + 1) + cs.length + (i - (off + j0 + 1 + cs.length)) = off + j0 + (cs.length + 1) + (i - (off + j0 + (cs.length + 1))) by omega, show off + j0 ≠ off + j0 + (cs.length + 1) + (i - (off + j0 + (cs.length + 1))) by omega]

theorem fill_all (sz : Nat) : ∀ (vs : List Value) (k : Nat) (A : Array Value), (∀ v ∈ vs, v.cells.size = sz) → k * sz + vs.length * sz ≤ A.size →
    ∃ C, Instr.fill (fun i => some (i * sz, sz)) A ((vs.zipIdx k).map fun p => (p.2, p.1)) = some C ∧ C.toList = A.toList.take (k * sz) ++ (vs.map (·.cells.toList)).flatten ++ A.toList.drop (k * sz + vs.length * sz) := by
  intro vs
  induction vs with
  | nil => intro k A _ _; exact ⟨A, rfl, by simp⟩
  | cons v vs ih =>
    intro k A hv hA
    have hs : v.cells.size = sz := hv v (by simp)
    have e1 : (vs.length + 1) * sz = vs.length * sz + sz := by rw [Nat.add_mul]; simp
    have e2 : (k + 1) * sz = k * sz + sz := by rw [Nat.add_mul]; simp
    simp only [List.length_cons] at hA
    have hf := fold_set v.cells.toList 0 (k * sz) A (by simp [hs]; omega)
    simp only [Nat.add_zero, Array.length_toList, hs] at hf
    have hsize : (v.cells.zipIdx.foldl (fun cs (c, j) => cs.setIfInBounds (k * sz + j) c) A) = (v.cells.toList.zipIdx.foldl (fun (a : Array Value) (p : Value × Nat) => a.setIfInBounds (k * sz + p.2) p.1) A) := by
      rw [← Array.foldl_toList]; simp
    have hlen : (v.cells.toList.zipIdx.foldl (fun (a : Array Value) (p : Value × Nat) => a.setIfInBounds (k * sz + p.2) p.1) A).size = A.size := by
      rw [← Array.length_toList, hf]; simp; omega
    obtain ⟨C, hC, hCl⟩ := ih (k + 1) (v.cells.toList.zipIdx.foldl (fun (a : Array Value) (p : Value × Nat) => a.setIfInBounds (k * sz + p.2) p.1) A) (fun u hu => hv u (by simp [hu])) (by rw [hlen]; omega)
    refine ⟨C, ?_, ?_⟩
    · simp only [List.zipIdx_cons, List.map_cons, Instr.fill]
      rw [if_neg (by simp [hs]; omega), hsize]
      exact hC
    · rw [hCl, hf, e2]
      simp only [List.map_cons, List.flatten_cons, List.length_cons]
      have l1 : (A.toList.take (k * sz) ++ v.cells.toList).length = k * sz + sz := by simp [hs]; omega
      rw [List.take_append_of_le_length (by omega), List.take_of_length_le (by omega), List.drop_append, l1]
      rw [List.drop_of_length_le (l := A.toList.take (k * sz) ++ v.cells.toList) (by omega), List.drop_drop]
      simp only [List.nil_append, List.append_assoc]
      congr 4
      omega

theorem parts_eq {parts : Array (Nat × Operand)} {vs : List Value} {n : Nat} {tt : Array Value} (hp : parts.toList.map (·.1) = List.range n) (hev : (parts.toList.map (·.2)).map (evT tt) = vs) :
    vs.length = n ∧ (parts.map fun (p : Nat × Operand) => (p.1, evT tt p.2)) = ((vs.zipIdx 0).map fun p => (p.2, p.1)).toArray := by
  have hlen : vs.length = n := by
    have h1 : (parts.toList.map (·.1)).length = n := by rw [hp]; simp
    have h2 : ((parts.toList.map (·.2)).map (evT tt)).length = vs.length := by rw [hev]
    simp at h1 h2; omega
  refine ⟨hlen, ?_⟩
  apply Array.ext'
  simp only [Array.toList_map]
  apply List.ext_getElem?
  intro i
  have h1 : (parts.toList.map (·.1))[i]? = (List.range n)[i]? := by rw [hp]
  have h2 : ((parts.toList.map (·.2)).map (evT tt))[i]? = vs[i]? := by rw [hev]
  simp only [List.getElem?_map, List.getElem?_zipIdx, Nat.zero_add] at h1 h2 ⊢
  cases hpi : parts.toList[i]? with
  | none => rw [hpi] at h2; simp only [Option.map_none] at h2; rw [← h2]; rfl
  | some q =>
    rw [hpi] at h1 h2
    simp only [Option.map_some] at h1 h2 ⊢
    rw [← h2]
    have hi : i < n := by
      have := (List.getElem?_eq_some_iff.1 h1.symm).1; simpa using this
    simp only [List.getElem?_range hi, Option.some.injEq] at h1
    simp [h1]

theorem mo_buildSlice {t el sz n : Nat} {parts : Array (Nat × Operand)} {vs : List Value} {zv : Value} [p : SlT P t el] [s : Siz P el sz] [z : Zer P el zv] (hp : parts.toList.map (·.1) = List.range n) (hv : EvL e (parts.toList.map (·.2)) vs) (hz : zv.cells.size = sz) (hs : ∀ v ∈ vs, v.cells.size = sz) (hn : n * sz ≤ 16777216) : Mo P e (.buildSlice t n parts) ty L fun v' L' => ∃ b, v' = .slice (some ⟨b, 0, none⟩) n n ∧ L' = arr b 0 (vs.map (·.cells.toList)).flatten :: L := by
  intro M _ _ tt h Q X ag st q
  obtain ⟨hlen, hparts⟩ := parts_eq hp (hv.evT ag)
  show wpS P M (Sem.bind (Instr.buildSlice t n (parts.map fun (p : Nat × Operand) => (p.1, evT tt p.2))) fun v => pure (.value v)) h Q X
  rw [hparts]
  refine wpS_bind _ _ ?_
  unfold Instr.buildSlice
  refine wpS_underlying p.ok ?_
  refine wpS_sizeOf s.ok ?_
  rw [if_neg (by omega)]
  simp only [pure_bind]
  have fin : ∀ A : Array Value, A.size = n * sz → ∃ C, Instr.fill (fun i => some (i * sz, sz)) A ((vs.zipIdx 0).map fun p => (p.2, p.1)) = some C ∧ wpS P M (Sem.bind (newRow el C) fun a => pure (Value.slice (some a) n n)) h (fun a h => wpS P M (pure (Next.value a)) h Q X) X := by
    intro A hA
    obtain ⟨C, hC, hCl⟩ := fill_all sz vs 0 A hs (by rw [hA, hlen]; simp)
    refine ⟨C, hC, ?_⟩
    refine wpS_bind _ _ (wpS_newRow st fun bb h' s' => ?_)
    refine q _ _ h' _ (.inl rfl) ⟨bb, rfl, rfl⟩ ?_
    rw [hCl] at s'
    simp only [Nat.zero_mul, List.take_zero, List.nil_append, Nat.zero_add] at s'
    rw [List.drop_of_length_le (by simp [hA, hlen])] at s'
    simpa using s'
  by_cases h0 : n * sz = 0
  · rw [if_pos h0]
    obtain ⟨C, hC, w⟩ := fin ((Array.range (n * sz)).map (fun x => (#[] : Array Value)[x % (#[] : Array Value).size]!)) (by simp only [Array.size_map, Array.size_range])
    simp only [hC]
    exact w
  · rw [if_neg h0]
    refine wpS_zeroValue z.ok ?_
    obtain ⟨C, hC, w⟩ := fin ((Array.range (n * sz)).map (fun x => zv.cells[x % zv.cells.size]!)) (by simp only [Array.size_map, Array.size_range])
    simp only [hC]
    exact w

end
end Go.PB
