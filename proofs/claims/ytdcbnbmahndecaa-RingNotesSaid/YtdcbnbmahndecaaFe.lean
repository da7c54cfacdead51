/-
  FOUNDATION, PART 5. One law for each kind of operation that touches no memory. Facts on types are classes, met by their numbers. No program is in sight.
-/
import Derived.Test.YtdcbnbmahndecaaFd
set_option linter.unusedVariables false
set_option linter.unusedSimpArgs false
namespace Go.PB

/- ---- facts on types ---- -/
def szOf (P : Program) (t : TypeId) : Option Nat := (P.info? t).map (·.size)
def bytesOf (P : Program) (t : TypeId) : Option Nat := (P.info? t).map (·.bytes)
def zeroOf (P : Program) (t : TypeId) : Option Value := (P.info? t).bind (·.zero)
def aggOf (P : Program) (t : TypeId) : Option Bool := (P.underlying t).map fun | .struct _ | .array _ _ => true | _ => false

class Siz (P : Program) (t : Nat) (s : outParam Nat) : Prop where ok : szOf P t = some s
class Byt (P : Program) (t : Nat) (s : outParam Nat) : Prop where ok : bytesOf P t = some s
class Zer (P : Program) (t : Nat) (v : outParam Value) : Prop where ok : zeroOf P t = some v
class Und (P : Program) (t : Nat) (d : outParam TypeDesc) : Prop where ok : P.underlying t = some d
class Scal (P : Program) (t : Nat) : Prop where ok : aggOf P t = some false
class AggT (P : Program) (t : Nat) : Prop where ok : aggOf P t = some true
/-- field f of struct s: its offset, its type, that type's size -/
def fOf (P : Program) (s f : Nat) : Option (Nat × Nat × Nat) := match P.underlying s with | some (.struct fs) => (fs[f]?).bind fun x => (szOf P x.type).map fun z => (x.offset, x.type, z) | _ => none
class Fld (P : Program) (s f : Nat) (off ft fz : outParam Nat) : Prop where ok : fOf P s f = some (off, ft, fz)
class SlT (P : Program) (t : Nat) (e : outParam Nat) : Prop where ok : P.underlying t = some (.slice e)
class ArT (P : Program) (t : Nat) (n e : outParam Nat) : Prop where ok : P.underlying t = some (.array n e)
class PtT (P : Program) (t : Nat) (e : outParam Nat) : Prop where ok : P.underlying t = some (.pointer e)
class InT (P : Program) (t : Nat) (k : outParam IntKind) : Prop where ok : P.underlying t = some (.int k)
class StT (P : Program) (t : Nat) (ps : outParam (Array (Nat × Nat))) (z : outParam (Array Value)) : Prop where
  ok : (match P.underlying t with | some (.struct fs) => fs.mapM fun x => (szOf P x.type).map fun z => (x.offset, z) | _ => none) = some ps
  zero : (zeroOf P t).map (·.cells) = some z
class Ifc (P : Program) (t : Nat) : Prop where ok : (match P.underlying t with | some (.interface _) => true | _ => false) = true
class NoIfc (P : Program) (t : Nat) : Prop where ok : (match P.underlying t with | some (.interface _) => false | some _ => true | none => false) = true

section
variable {P : Program} {M : Mark → Prop} {e : Env} {L : List HProp} {ty : TypeId}

theorem wpS_program {α β : Type} {k : Program → Sem α} {h : Hp} {Q : α → Hp → Prop} {X : Value → Hp → Prop} (w : wpS P M (k P) h Q X) : wpS P M (Sem.bind program k) h Q X := w

theorem wpS_underlying {α : Type} {t : TypeId} {d : TypeDesc} {k : TypeDesc → Sem α} {h : Hp} {Q : α → Hp → Prop} {X : Value → Hp → Prop} (hd : P.underlying t = some d) (w : wpS P M (k d) h Q X) : wpS P M (Sem.bind (underlying t) k) h Q X := by
  show wpS P M (Sem.bind (match P.underlying t with | some d => pure d | none => stuck "no such type") k) h Q X
  rw [hd]; exact w

theorem wpS_typeInfo {α : Type} {t : TypeId} {d : TypeInfo} {k : TypeInfo → Sem α} {h : Hp} {Q : α → Hp → Prop} {X : Value → Hp → Prop} (hd : P.info? t = some d) (w : wpS P M (k d) h Q X) : wpS P M (Sem.bind (typeInfo t) k) h Q X := by
  show wpS P M (Sem.bind (match P.info? t with | some d => pure d | none => stuck "no such type") k) h Q X
  rw [hd]; exact w

theorem wpS_sizeOf {α : Type} {t : TypeId} {s : Nat} {k : Nat → Sem α} {h : Hp} {Q : α → Hp → Prop} {X : Value → Hp → Prop} (hd : szOf P t = some s) (w : wpS P M (k s) h Q X) : wpS P M (Sem.bind (sizeOf t) k) h Q X := by
  unfold szOf at hd
  cases hi : P.info? t with
  | none => rw [hi] at hd; cases hd
  | some i =>
    rw [hi] at hd
    simp only [Option.map_some, Option.some.injEq] at hd
    subst hd
    show wpS P M (Sem.bind (Sem.bind (typeInfo t) fun i => pure i.size) k) h Q X
    show wpS P M (Sem.bind (Sem.bind (match P.info? t with | some d => pure d | none => stuck "no such type") fun i => pure i.size) k) h Q X
    rw [hi]; exact w

theorem wpS_zeroValue {α : Type} {t : TypeId} {s : Value} {k : Value → Sem α} {h : Hp} {Q : α → Hp → Prop} {X : Value → Hp → Prop} (hd : zeroOf P t = some s) (w : wpS P M (k s) h Q X) : wpS P M (Sem.bind (zeroValue t) k) h Q X := by
  unfold zeroOf at hd
  cases hi : P.info? t with
  | none => rw [hi] at hd; cases hd
  | some i =>
    rw [hi] at hd
    simp only [Option.bind_some] at hd
    show wpS P M (Sem.bind (Sem.bind (match P.info? t with | some d => pure d | none => stuck "no such type") fun i => match i.zero with | some v => pure v | none => unsupported (.resourceLimit "a value of more than 2^22 cells")) k) h Q X
    rw [hi]
    show wpS P M (Sem.bind (match i.zero with | some v => pure v | none => unsupported (.resourceLimit "a value of more than 2^22 cells")) k) h Q X
    rw [hd]; exact w

theorem wpS_isAgg {α : Type} {t : TypeId} {q : Bool} {k : Bool → Sem α} {h : Hp} {Q : α → Hp → Prop} {X : Value → Hp → Prop} (hd : aggOf P t = some q) (w : wpS P M (k q) h Q X) : wpS P M (Sem.bind (isAgg t) k) h Q X := by
  unfold aggOf at hd
  cases hi : P.underlying t with
  | none => rw [hi] at hd; cases hd
  | some d =>
    rw [hi] at hd
    simp only [Option.map_some, Option.some.injEq] at hd
    show wpS P M (Sem.bind (Sem.bind (match P.underlying t with | some d => pure d | none => stuck "no such type") fun d => match d with | .struct _ | .array _ _ => pure true | _ => pure false) k) h Q X
    rw [hi]
    subst hd
    cases d <;> exact w

/- ---- moves ---- -/
theorem mo_move {o : Operand} {v : Value} (hx : ev e o = some v) : Mo P e (.move o) ty L fun v' L' => v' = v ∧ L' = L :=
  fun M _ _ t h Q X a s q => q v L h (.value (evT t o)) (.inl (congrArg _ (a.ev hx))) ⟨rfl, rfl⟩ s
theorem mo_assign {o : Operand} {v : Value} (hx : ev e o = some v) : Mo P e (.assign o) ty L fun v' L' => v' = v ∧ L' = L :=
  fun M _ _ t h Q X a s q => q v L h (.value (evT t o)) (.inl (congrArg _ (a.ev hx))) ⟨rfl, rfl⟩ s
theorem mo_pickT {c o o' : Operand} {v : Value} {q : Bool} (hc : ev e c = some (.bool q)) (hq : q = true) (hx : ev e o = some v) : Mo P e (.pick c o o') ty L fun v' L' => v' = v ∧ L' = L := by
  intro M _ _ t h Q X a s qq
  show wpS P M (do pure (.value (if ← asBool (evT t c) then evT t o else evT t o')) : Sem Next) h Q X
  rw [a.ev hc, hq]
  exact qq v L h (.value (evT t o)) (.inl (congrArg _ (a.ev hx))) ⟨rfl, rfl⟩ s
theorem mo_pickF {c o o' : Operand} {v : Value} {q : Bool} (hc : ev e c = some (.bool q)) (hq : q = false) (hx : ev e o' = some v) : Mo P e (.pick c o o') ty L fun v' L' => v' = v ∧ L' = L := by
  intro M _ _ t h Q X a s qq
  show wpS P M (do pure (.value (if ← asBool (evT t c) then evT t o else evT t o')) : Sem Next) h Q X
  rw [a.ev hc, hq]
  exact qq v L h (.value (evT t o')) (.inl (congrArg _ (a.ev hx))) ⟨rfl, rfl⟩ s

/- ---- operators ---- -/
/-- what a binary operator gives on two values -/
def Bin (P : Program) (op : BinOp) (xt : TypeId) (x y : Operand) (a b v : Value) : Prop :=
  ∀ M (h : Hp) (Q : Next → Hp → Prop) X, Q (.value v) h → wpS P M (do pure (.value (← (do eqGuard op xt x y a b; binOp op xt a b : Sem Value))) : Sem Next) h Q X

theorem mo_bin {op : BinOp} {xt yt : TypeId} {x y : Operand} {a b v : Value} (hx : ev e x = some a) (hy : ev e y = some b) (hb : Bin P op xt x y a b v) : Mo P e (.binOp op xt x y yt) ty L fun v' L' => v' = v ∧ L' = L := by
  intro M _ _ t h Q X ag s q
  show wpS P M (do pure (.value (← (do eqGuard op xt x y (evT t x) (evT t y); binOp op xt (evT t x) (evT t y) : Sem Value))) : Sem Next) h Q X
  rw [ag.ev hx, ag.ev hy]
  exact hb M h Q X (q v L h _ (.inl rfl) ⟨rfl, rfl⟩ s)

section
variable {xt : TypeId} {x y : Operand} {k yk : IntKind} {a b r : Int}
theorem bin_add (hr : k.wrap (a + b) = r) : Bin P .add xt x y (.int k a) (.int k b) (.int k r) := by
  intro M h Q X q; subst hr
  have : binOp .add xt (.int k a) (.int k b) = (pure (.int k (k.wrap (a + b))) : Sem Value) := by simp [binOp, Op.intArith]
  rw [this]; exact q
theorem bin_sub (hr : k.wrap (a - b) = r) : Bin P .sub xt x y (.int k a) (.int k b) (.int k r) := by
  intro M h Q X q; subst hr
  have : binOp .sub xt (.int k a) (.int k b) = (pure (.int k (k.wrap (a - b))) : Sem Value) := by simp [binOp, Op.intArith]
  rw [this]; exact q
theorem bin_mul (hr : k.wrap (a * b) = r) : Bin P .mul xt x y (.int k a) (.int k b) (.int k r) := by
  intro M h Q X q; subst hr
  have : binOp .mul xt (.int k a) (.int k b) = (pure (.int k (k.wrap (a * b))) : Sem Value) := by simp [binOp, Op.intArith]
  rw [this]; exact q
theorem bin_rem (hb : b ≠ 0) (hr : a.tmod b = r) : Bin P .rem xt x y (.int k a) (.int k b) (.int k r) := by
  intro M h Q X q; subst hr
  have : binOp .rem xt (.int k a) (.int k b) = (pure (.int k (a.tmod b)) : Sem Value) := by simp [binOp, Op.intDiv, hb]
  rw [this]; exact q
theorem bin_quo (hb : b ≠ 0) (hr : k.wrap (a.tdiv b) = r) : Bin P .quo xt x y (.int k a) (.int k b) (.int k r) := by
  intro M h Q X q; subst hr
  have : binOp .quo xt (.int k a) (.int k b) = (pure (.int k (k.wrap (a.tdiv b))) : Sem Value) := by simp [binOp, Op.intDiv, hb]
  rw [this]; exact q
theorem bin_and (hr : k.wrap (BitVec.ofInt k.bits a &&& BitVec.ofInt k.bits b).toNat = r) : Bin P .and xt x y (.int k a) (.int k b) (.int k r) := by
  intro M h Q X q; subst hr
  have : binOp .and xt (.int k a) (.int k b) = (pure (.int k (k.wrap (BitVec.ofInt k.bits a &&& BitVec.ofInt k.bits b).toNat)) : Sem Value) := by simp [binOp, Op.intBits]
  rw [this]; exact q
theorem bin_or (hr : k.wrap (BitVec.ofInt k.bits a ||| BitVec.ofInt k.bits b).toNat = r) : Bin P .or xt x y (.int k a) (.int k b) (.int k r) := by
  intro M h Q X q; subst hr
  have : binOp .or xt (.int k a) (.int k b) = (pure (.int k (k.wrap (BitVec.ofInt k.bits a ||| BitVec.ofInt k.bits b).toNat)) : Sem Value) := by simp [binOp, Op.intBits]
  rw [this]; exact q
theorem bin_shl (hb : 0 ≤ b) (hr : k.wrap (a * 2 ^ (min b.toNat k.bits)) = r) : Bin P .shl xt x y (.int k a) (.int yk b) (.int k r) := by
  intro M h Q X q; subst hr
  have : binOp .shl xt (.int k a) (.int yk b) = (pure (.int k (k.wrap (a * 2 ^ (min b.toNat k.bits)))) : Sem Value) := by simp [binOp, Op.shift, show ¬ b < 0 by omega]
  rw [this]; exact q
theorem bin_shr (hb : 0 ≤ b) (hr : a.fdiv (2 ^ (min b.toNat k.bits)) = r) : Bin P .shr xt x y (.int k a) (.int yk b) (.int k r) := by
  intro M h Q X q; subst hr
  have : binOp .shr xt (.int k a) (.int yk b) = (pure (.int k (a.fdiv (2 ^ (min b.toNat k.bits)))) : Sem Value) := by simp [binOp, Op.shift, show ¬ b < 0 by omega]
  rw [this]; exact q
theorem bin_lss : Bin P .lss xt x y (.int k a) (.int k b) (.bool (decide (a < b))) := by
  intro M h Q X q
  have : binOp .lss xt (.int k a) (.int k b) = (pure (.bool (decide (a < b))) : Sem Value) := by simp [binOp, Op.intCmp]
  rw [this]; exact q
theorem bin_leq : Bin P .leq xt x y (.int k a) (.int k b) (.bool (decide (a ≤ b))) := by
  intro M h Q X q
  have : binOp .leq xt (.int k a) (.int k b) = (pure (.bool (decide (a ≤ b))) : Sem Value) := by simp [binOp, Op.intCmp]
  rw [this]; exact q
theorem bin_gtr : Bin P .gtr xt x y (.int k a) (.int k b) (.bool (decide (b < a))) := by
  intro M h Q X q
  have : binOp .gtr xt (.int k a) (.int k b) = (pure (.bool (decide (b < a))) : Sem Value) := by simp [binOp, Op.intCmp]
  rw [this]; exact q
theorem bin_geq : Bin P .geq xt x y (.int k a) (.int k b) (.bool (decide (b ≤ a))) := by
  intro M h Q X q
  have : binOp .geq xt (.int k a) (.int k b) = (pure (.bool (decide (b ≤ a))) : Sem Value) := by simp [binOp, Op.intCmp]
  rw [this]; exact q
theorem bin_eql : Bin P .eql xt x y (.int k a) (.int k b) (.bool (decide (a = b))) := by
  intro M h Q X q
  have : binOp .eql xt (.int k a) (.int k b) = (pure (.bool (decide (a = b))) : Sem Value) := by simp [binOp, Op.intCmp, BEq.beq]
  rw [this]; exact q
theorem bin_neq : Bin P .neq xt x y (.int k a) (.int k b) (.bool (!decide (a = b))) := by
  intro M h Q X q
  have : binOp .neq xt (.int k a) (.int k b) = (pure (.bool (!decide (a = b))) : Sem Value) := by simp [binOp, Op.intCmp, bne, BEq.beq]
  rw [this]; exact q
end

/-- '==' on values that are no integers: what the model's own comparison gives -/
def Eql (P : Program) (t : TypeId) (x y : Operand) (a b : Value) (r : Bool) : Prop :=
  ∀ op, op = .eql ∨ op = .neq → ∀ M (h : Hp) (Q : Next → Hp → Prop) X, Q (.value (.bool (if op = .eql then r else !r))) h → wpS P M (do pure (.value (← (do eqGuard op t x y a b; binOp op t a b : Sem Value))) : Sem Next) h Q X

theorem bin_eq {xt : TypeId} {x y : Operand} {a b : Value} {r : Bool} (h : Eql P xt x y a b r) : Bin P .eql xt x y a b (.bool r) := fun M hh Q X q => h .eql (.inl rfl) M hh Q X (by simpa using q)
theorem bin_ne {xt : TypeId} {x y : Operand} {a b : Value} {r : Bool} (h : Eql P xt x y a b r) : Bin P .neq xt x y a b (.bool (!r)) := fun M hh Q X q => h .neq (.inr rfl) M hh Q X (by simpa using q)

/-- '==' out of the comparison's own run -/
theorem Eql.of {t : TypeId} {x y : Operand} {a b : Value} {r : Bool}
    (hg : ∀ op, op = .eql ∨ op = .neq → eqGuard op t x y a b = pure ())
    (h1 : binOp .eql t a b = (do pure (.bool (← Op.equal t a b)) : Sem Value)) (h2 : binOp .neq t a b = (do pure (.bool (!(← Op.equal t a b))) : Sem Value))
    (he : ∀ M (h : Hp) (Q : Bool → Hp → Prop) X, Q r h → wpS P M (Op.equal t a b) h Q X) : Eql P t x y a b r := by
  intro op hop M h Q X q
  rw [hg op hop]
  rcases hop with rfl | rfl
  · show wpS P M (Sem.bind (binOp .eql t a b) fun v => pure (.value v)) h Q X
    rw [h1]
    show wpS P M (Sem.bind (Sem.bind (Op.equal t a b) fun r => pure (.bool r)) fun v => pure (.value v)) h Q X
    refine wpS_bind _ _ (wpS_bind _ _ (he _ _ _ _ ?_))
    have q' : Q (.value (.bool r)) h := by simpa using q
    exact q'
  · show wpS P M (Sem.bind (binOp .neq t a b) fun v => pure (.value v)) h Q X
    rw [h2]
    show wpS P M (Sem.bind (Sem.bind (Op.equal t a b) fun r => pure (.bool (!r))) fun v => pure (.value v)) h Q X
    refine wpS_bind _ _ (wpS_bind _ _ (he _ _ _ _ ?_))
    have q' : Q (.value (.bool (!r))) h := by simpa using q
    exact q'

theorem equal_def (t : TypeId) (a b : Value) : Op.equal t a b = Op.equalIn (9999 + 1) t a b := rfl

theorem eql_ptr_nil {t el : TypeId} [p : PtT P t el] {x y : Operand} {a : Option Addr} : Eql P t x y (.pointer a) (.pointer none) a.isNone :=
  .of (fun op h => by rcases h with rfl | rfl <;> rfl) (by cases a <;> rfl) (by cases a <;> rfl) fun M h Q X q => by
    rw [equal_def]
    refine wpS_underlying p.ok ?_
    cases a <;> exact q
theorem eql_nil_ptr {t el : TypeId} [p : PtT P t el] {x y : Operand} {a : Option Addr} : Eql P t x y (.pointer none) (.pointer a) a.isNone :=
  .of (fun op h => by rcases h with rfl | rfl <;> rfl) (by cases a <;> rfl) (by cases a <;> rfl) fun M h Q X q => by
    rw [equal_def]
    refine wpS_underlying p.ok ?_
    cases a <;> exact q
theorem eql_slice_nil {t el : TypeId} [p : SlT P t el] {x y : Operand} {a : Option Addr} {n c : Nat} : Eql P t x y (.slice a n c) (.slice none 0 0) a.isNone :=
  .of (fun op h => by rcases h with rfl | rfl <;> rfl) rfl rfl fun M h Q X q => by
    rw [equal_def]
    refine wpS_underlying p.ok ?_
    cases a <;> exact q
theorem eql_bool {t : TypeId} [p : Und P t .bool] {x y : Operand} {a b : Bool} : Eql P t x y (.bool a) (.bool b) (a == b) :=
  .of (fun op h => by rcases h with rfl | rfl <;> rfl) rfl rfl fun M h Q X q => by
    rw [equal_def]
    exact wpS_underlying p.ok q
theorem eql_iface_nil {t : TypeId} {ms : Array (String × TypeId)} [p : Und P t (.interface ms)] {x : Operand} {u : TypeId} {v : Value} {y : Operand} : Eql P t x y (.iface u v) .nilIface false :=
  .of (fun op h => by rcases h with rfl | rfl <;> rfl) rfl rfl fun M h Q X q => by
    rw [equal_def]
    exact wpS_underlying p.ok q
theorem eql_nil_nil {t : TypeId} {ms : Array (String × TypeId)} [p : Und P t (.interface ms)] {x : Operand} {c : Value} : Eql P t x (.const c) .nilIface .nilIface true :=
  .of (fun op h => by rcases h with rfl | rfl <;> (cases x <;> rfl)) rfl rfl fun M h Q X q => by
    rw [equal_def]
    exact wpS_underlying p.ok q
theorem eql_func_nil {t : TypeId} {a b : Array TypeId} {c : Bool} [p : Und P t (.func a b c)] {x y : Operand} {f : Fn} {u w : Array Value} : Eql P t x y (.func f u w) .nilFunc false :=
  .of (fun op h => by rcases h with rfl | rfl <;> rfl) rfl rfl fun M h Q X q => by
    rw [equal_def]
    exact wpS_underlying p.ok q
theorem eql_nilfunc_nil {t : TypeId} {a b : Array TypeId} {c : Bool} [p : Und P t (.func a b c)] {x y : Operand} : Eql P t x y .nilFunc .nilFunc true :=
  .of (fun op h => by rcases h with rfl | rfl <;> rfl) rfl rfl fun M h Q X q => by
    rw [equal_def]
    exact wpS_underlying p.ok q

/-- a law of a memory program that touches nothing: its value -/
def Pur {α : Type} (P : Program) (s : Sem α) (a : α) : Prop := ∀ M (h : Hp) (Q : α → Hp → Prop) X, Q a h → wpS P M s h Q X

theorem mo_pur {op : Op} {v : Value} (hp : ∀ t, Agree e t → ∃ s : Sem Value, execOp (evT t) (opOf op ty) = (do pure (.value (← s))) ∧ Pur P s v) : Mo P e op ty L fun v' L' => v' = v ∧ L' = L := by
  intro M _ _ t h Q X a s q
  obtain ⟨sv, h1, h2⟩ := hp t a
  rw [h1]
  exact wpS_bind _ _ (h2 M h _ X (q v L h _ (.inl rfl) ⟨rfl, rfl⟩ s))

theorem mo_not {o : Operand} {xt : TypeId} {b : Bool} (hx : ev e o = some (.bool b)) : Mo P e (.unOp .not xt o) ty L fun v' L' => v' = .bool (!b) ∧ L' = L :=
  mo_pur fun t a => ⟨_, rfl, by rw [a.ev hx]; exact fun M h Q X q => q⟩

theorem mo_nilCheck {o : Operand} {a : Addr} (hx : ev e o = some (.pointer (some a))) : Mo P e (.nilCheck o) ty L fun v' L' => v' = .pointer (some a) ∧ L' = L := by
  intro M _ _ t h Q X ag s q
  show wpS P M (match evT t o with
    | .pointer none | .nilIface | .nilFunc => runtimePanic .nilDeref
    | .func (.method name) first captured =>
      match (first[0]? : Option Value) with
      | some .nilIface => runtimePanic .nilDeref
      | some (.iface t w) => do
        if (← nilAhead ((← program).types.size + Made.depth) t w name) != some false then
          unsupported (.noEntry "op/nilCheck.the method's receiver behind this interface value is a nil pointer, or cannot be seen to be none, and the arguments act or may panic (ledger 612)")
        pure (.value (.func (.method name) first captured))
      | _ => pure (.value (.func (.method name) first captured))
    | x => pure (.value x) : Sem Next) h Q X
  rw [ag.ev hx]
  exact q _ L h _ (.inl rfl) ⟨rfl, rfl⟩ s

theorem mo_conv {src dst : TypeId} {sd : TypeDesc} {k k' : IntKind} {n r : Int} {o : Operand} [ps : Und P src sd] [pd : InT P dst k] (hx : ev e o = some (.int k' n)) (hr : k.wrap n = r) : Mo P e (.convert src dst o) ty L fun v' L' => v' = .int k r ∧ L' = L :=
  mo_pur fun t a => ⟨_, rfl, by
    rw [a.ev hx]; subst hr
    exact fun M h Q X q => wpS_underlying ps.ok (wpS_underlying pd.ok q)⟩

theorem mo_extract {o : Operand} {vs : Array Value} {i : Nat} {v : Value} (hx : ev e o = some (.tuple vs)) (hv : vs[i]? = some v) : Mo P e (.extract o i) ty L fun v' L' => v' = v ∧ L' = L :=
  mo_pur fun t a => ⟨_, rfl, by
    rw [a.ev hx]
    intro M h Q X q
    show wpS P M (match vs[i]? with | some v => pure v | none => stuck "Extract: no such component") h Q X
    rw [hv]; exact q⟩

theorem mo_makeFunc {fn : Fn} {first cap : List Operand} {vf vc : List Value} (hf : EvL e first vf) (hc : EvL e cap vc) : Mo P e (.makeFunc fn first.toArray cap.toArray) ty L fun v' L' => v' = .func fn vf.toArray vc.toArray ∧ L' = L :=
  mo_pur fun t a => ⟨_, rfl, by
    have h1 := hf.evT a
    have h2 := hc.evT a
    intro M h Q X q
    show Q (.func fn (first.toArray.map (evT t)) (cap.toArray.map (evT t))) h
    rw [List.map_toArray, List.map_toArray, h1, h2]; exact q⟩

theorem mo_makeInterface {xt : TypeId} {o : Operand} {v : Value} [p : NoIfc P xt] (hx : ev e o = some v) : Mo P e (.makeInterface xt o) ty L fun v' L' => v' = .iface xt v ∧ L' = L :=
  mo_pur fun t a => ⟨_, rfl, by
    rw [a.ev hx]
    intro M h Q X q
    have hp := p.ok
    cases hu : P.underlying xt with
    | none => rw [hu] at hp; cases hp
    | some d =>
      rw [hu] at hp
      refine wpS_underlying hu ?_
      cases d <;> first | exact q | cases hp⟩

theorem add_none (b o n : Nat) : Addr.add ⟨b, o, none⟩ n = ⟨b, o + n, none⟩ := by
  unfold Addr.add; split
  · rename_i h; subst h; rfl
  · rfl

theorem mo_fieldAddr {s f off ft fz : Nat} {o : Operand} {b c r : Nat} [p : Fld P s f off ft fz] (hz : (fz == 0) = false) (hx : ev e o = some (.pointer (some ⟨b, c, none⟩))) (hr : c + off = r) : Mo P e (.fieldAddr s o f) ty L fun v' L' => v' = .pointer (some ⟨b, r, none⟩) ∧ L' = L :=
  mo_pur fun t a => ⟨_, rfl, by
    rw [a.ev hx]; subst hr
    intro M h Q X q
    have hp := p.ok
    unfold fOf at hp
    cases hu : P.underlying s with
    | none => rw [hu] at hp; cases hp
    | some d =>
      rw [hu] at hp
      cases d with
      | struct fs =>
        simp only at hp
        cases hf : fs[f]? with
        | none => rw [hf] at hp; cases hp
        | some fd =>
          rw [hf] at hp
          simp only [Option.bind_some] at hp
          cases hs : szOf P fd.type with
          | none => rw [hs] at hp; cases hp
          | some z =>
            rw [hs] at hp
            simp only [Option.map_some, Option.some.injEq, Prod.mk.injEq] at hp
            obtain ⟨rfl, rfl, rfl⟩ := hp
            refine wpS_underlying hu ?_
            simp only [hf]
            show wpS P M (Sem.bind (fieldPlace ⟨b, c, none⟩ fd) fun a => pure (.pointer (some a))) h Q X
            refine wpS_bind _ _ (wpS_sizeOf hs ?_)
            rw [if_neg (by simpa using hz), add_none]
            exact q
      | _ => cases hp⟩

/-- an index into a slice -/
theorem mo_indexAddr {t el sz : Nat} {o i : Operand} {b c n cp : Nat} {k : IntKind} {j : Int} {r : Nat} [p : SlT P t el] [z : Siz P el sz] (hx : ev e o = some (.slice (some ⟨b, c, none⟩) n cp)) (hi : ev e i = some (.int k j)) (h0 : 0 ≤ j) (h1 : j < n) (hr : c + j.toNat * sz = r) : Mo P e (.indexAddr t o i) ty L fun v' L' => v' = .pointer (some ⟨b, r, none⟩) ∧ L' = L :=
  mo_pur fun t' a => ⟨_, rfl, by
    rw [a.ev hx, a.ev hi]; subst hr
    intro M h Q X q
    simp only [Instr.indexAt, asIntOf, pure_bind, bind_assoc]
    refine wpS_underlying p.ok ?_
    simp only [Instr.sureAddr, pure_bind]
    refine wpS_underlying p.ok ?_
    show wpS P M (if 0 ≤ j ∧ j < n then Sem.bind (sizeOf el) fun z => pure (.pointer (some (Addr.add ⟨b, c, none⟩ (j.toNat * z)))) else _) h Q X
    rw [if_pos ⟨h0, h1⟩]
    refine wpS_sizeOf z.ok ?_
    rw [add_none]; exact q⟩

/-- an index into an array behind a pointer -/
theorem mo_indexArr {t n el sz : Nat} {o i : Operand} {b c : Nat} {k : IntKind} {j : Int} {r : Nat} [p : ArT P t n el] [z : Siz P el sz] (hx : ev e o = some (.pointer (some ⟨b, c, none⟩))) (hi : ev e i = some (.int k j)) (h0 : 0 ≤ j) (h1 : j < n) (hr : c + j.toNat * sz = r) : Mo P e (.indexAddr t o i) ty L fun v' L' => v' = .pointer (some ⟨b, r, none⟩) ∧ L' = L :=
  mo_pur fun t' a => ⟨_, rfl, by
    rw [a.ev hx, a.ev hi]; subst hr
    intro M h Q X q
    simp only [Instr.indexAt, asIntOf, pure_bind, bind_assoc]
    refine wpS_underlying p.ok ?_
    simp only [Instr.sureAddr, pure_bind]
    refine wpS_underlying p.ok ?_
    show wpS P M (if 0 ≤ j ∧ j < n then Sem.bind (sizeOf el) fun z => pure (.pointer (some (Addr.add ⟨b, c, none⟩ (j.toNat * z)))) else _) h Q X
    rw [if_pos ⟨h0, h1⟩]
    refine wpS_sizeOf z.ok ?_
    rw [add_none]; exact q⟩

/-- a field of a struct value -/
theorem mo_field {s f off ft fz : Nat} {o : Operand} {cs : Array Value} {v : Value} [p : Fld P s f off ft fz] [sc : Scal P ft] (hx : ev e o = some (.agg cs)) (hv : cs[off]? = some v) : Mo P e (.field s o f) ty L fun v' L' => v' = v ∧ L' = L :=
  mo_pur fun t a => ⟨_, rfl, by
    rw [a.ev hx]
    intro M h Q X q
    have hp := p.ok
    unfold fOf at hp
    cases hu : P.underlying s with
    | none => rw [hu] at hp; cases hp
    | some d =>
      rw [hu] at hp
      cases d with
      | struct fs =>
        simp only at hp
        cases hf : fs[f]? with
        | none => rw [hf] at hp; cases hp
        | some fd =>
          rw [hf] at hp
          simp only [Option.bind_some] at hp
          cases hs : szOf P fd.type with
          | none => rw [hs] at hp; cases hp
          | some z =>
            rw [hs] at hp
            simp only [Option.map_some, Option.some.injEq, Prod.mk.injEq] at hp
            obtain ⟨rfl, rfl, rfl⟩ := hp
            refine wpS_underlying hu ?_
            simp only [hf]
            show wpS P M (Sem.bind (isAgg fd.type) _) h Q X
            refine wpS_isAgg sc.ok ?_
            show wpS P M (match cs[fd.offset]? with | some v => pure v | none => stuck "part: no such cell") h Q X
            rw [hv]; exact q
      | _ => cases hp⟩

theorem mo_fieldA {s f off ft fz : Nat} {o : Operand} {cs : Array Value} [p : Fld P s f off ft fz] [sc : AggT P ft] (hx : ev e o = some (.agg cs)) : Mo P e (.field s o f) ty L fun v' L' => v' = .agg (cs.extract off (off + fz)) ∧ L' = L :=
  mo_pur fun t a => ⟨_, rfl, by
    rw [a.ev hx]
    intro M h Q X q
    have hp := p.ok
    unfold fOf at hp
    cases hu : P.underlying s with
    | none => rw [hu] at hp; cases hp
    | some d =>
      rw [hu] at hp
      cases d with
      | struct fs =>
        simp only at hp
        cases hf : fs[f]? with
        | none => rw [hf] at hp; cases hp
        | some fd =>
          rw [hf] at hp
          simp only [Option.bind_some] at hp
          cases hs : szOf P fd.type with
          | none => rw [hs] at hp; cases hp
          | some z =>
            rw [hs] at hp
            simp only [Option.map_some, Option.some.injEq, Prod.mk.injEq] at hp
            obtain ⟨rfl, rfl, rfl⟩ := hp
            refine wpS_underlying hu ?_
            simp only [hf]
            show wpS P M (Sem.bind (isAgg fd.type) _) h Q X
            refine wpS_isAgg sc.ok ?_
            show wpS P M (Sem.bind (sizeOf fd.type) fun z => pure (.agg (cs.extract fd.offset (fd.offset + z)))) h Q X
            exact wpS_sizeOf hs q
      | _ => cases hp⟩

/- ---- builtins ---- -/
theorem mo_len {o : Operand} {st : Nat} {el : Nat} {a : Option Addr} {n c : Nat} [p : SlT P st el] (hx : ev e o = some (.slice a n c)) : Mo P e (.call ⟨.builtin .len, #[o], #[st]⟩) ty L fun v' L' => v' = .int .i64 n ∧ L' = L := by
  intro M _ _ t h Q X ag s q
  show wpS P M (Sem.bind (Builtin.len_ #[st] ty (#[o].map (evT t))) fun v => pure (.value v)) h Q X
  rw [show #[o].map (evT t) = #[evT t o] by simp, ag.ev hx]
  refine wpS_bind _ _ ?_
  exact wpS_underlying p.ok (q _ L h _ (.inl rfl) ⟨rfl, rfl⟩ s)

theorem mo_min {o o' : Operand} {tys : Array TypeId} {k : IntKind} {a b : Int} (hx : ev e o = some (.int k a)) (hy : ev e o' = some (.int k b)) : Mo P e (.call ⟨.builtin .min, #[o, o'], tys⟩) ty L fun v' L' => v' = .int k (min a b) ∧ L' = L := by
  intro M _ _ t h Q X ag s q
  show wpS P M (Sem.bind (Builtin.min_ tys ty (#[o, o'].map (evT t))) fun v => pure (.value v)) h Q X
  rw [show #[o, o'].map (evT t) = #[evT t o, evT t o'] by simp, ag.ev hx, ag.ev hy]
  refine q _ L h (.value (.int k (if b < a then b else a))) (.inl ?_) ⟨rfl, rfl⟩ s
  congr 2
  split <;> omega

end
end Go.PB
