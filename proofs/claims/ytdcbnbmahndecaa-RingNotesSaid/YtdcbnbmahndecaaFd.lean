/-
  FOUNDATION, PART 4. The walk: slots as short lists ('Env'), pieces of code over slots and chunks ('We', 'Wo'), one rule for each kind of operation; facts on types as classes. No program is in sight.
-/
import Derived.Test.YtdcbnbmahndecaaFc
import Derived.KernelRfl
set_option linter.unusedVariables false
set_option linter.unusedSimpArgs false
namespace Go.PB

/- ---- slots ---- -/
abbrev Env := List (Nat × Value)
def lk : Env → Nat → Option Value
  | [], _ => none
  | (i, v) :: r, t => if i = t then some v else lk r t
def ev (e : Env) : Operand → Option Value
  | .tmp i => lk e i
  | .const v => some v
  | .global g => some (.pointer (some ⟨g, 0, none⟩))
  | .func f => some (.func (.func f) #[] #[])
def Agree (e : Env) (t : Array Value) : Prop := ∀ i v, lk e i = some v → t[i]? = some v
def setE (d : Option Nat) (v : Value) (e : Env) : Env := match d with | some d => (d, v) :: e | none => e

theorem Agree.ev {e : Env} {t : Array Value} (a : Agree e t) {o : Operand} {v : Value} (h : ev e o = some v) : evT t o = v := by
  cases o with
  | tmp i => simp [evT, a i v h]
  | const c => simpa [PB.ev, PB.evT] using h
  | global g => simpa [PB.ev, PB.evT] using h
  | func f => simpa [PB.ev, PB.evT] using h

theorem Agree.setE {e : Env} {t : Array Value} (a : Agree e t) {o : Oper} {d : Option Nat} (ho : o.dst = d) (hd : ∀ i, d = some i → i < t.size) (v : Value) : Agree (PB.setE d v e) (setDst o t v) := by
  cases d with
  | none => simp only [setDst, ho]; exact a
  | some d =>
    simp only [setDst, ho, PB.setE]
    intro i u h
    have hs := hd d rfl
    unfold lk at h
    split at h
    · rename_i e1; subst e1; injection h with h; subst h; simp [hs]
    · rename_i e1; rw [Array.getElem?_setIfInBounds_ne e1]; exact a i u h

/-- all that the one list says the other says, too -/
def Sub : Env → Env → Prop
  | [], _ => True
  | (i, v) :: r, e => lk e i = some v ∧ Sub r e

theorem Sub.lk {e' e : Env} (s : Sub e' e) : ∀ i v, lk e' i = some v → lk e i = some v := by
  induction e' with
  | nil => intro i v h; cases h
  | cons p r ih =>
    obtain ⟨j, u⟩ := p
    intro i v h
    unfold PB.lk at h
    split at h
    · rename_i e1; subst e1; injection h with h; subst h; exact s.1
    · exact ih s.2 i v h

/- ---- pieces of code over slots and chunks ---- -/
section
variable {P : Program} {B : Hand} {kd : CallKind} {n : Nat}

def At (n : Nat) (e : Env) (L : List HProp) (φ : Array Value → Hp → Prop) : Prop := ∀ t h, t.size = n → Agree e t → Star L h → φ t h

variable (P B kd n) in
/-- THE TRANSFORMER OF CODE over slots and chunks. -/
def We (c : Code) (K : Post B) (e : Env) (z : Z) (L : List HProp) (x : B.X) : Prop := At n e L fun t h => Wc P B kd c K t z h x

/-- An operation of a region, its guard told by a slot. -/
structure OpG where
  dst : Option Nat
  op : Op
  ty : TypeId
  g : Option (Nat × Bool)

def gOp (n : Nat) (ops : Array Oper) (i : Nat) : Option OpG :=
  (ops[i]?).map fun o => ⟨o.dst, o.op, o.type, o.guard.map fun (j, w) => (((ops[j]?).bind (·.dst)).getD n, w)⟩

def dOk (n : Nat) : List OpG → Bool
  | [] => true
  | o :: l => (match o.dst with | some d => decide (d < n) | none => true) && dOk n l

variable (P B kd n) in
/-- THE TRANSFORMER OF OPERATIONS over slots and chunks. -/
def Wo (l : List OpG) (K : Post B) (e : Env) (z : Z) (L : List HProp) (x : B.X) : Prop :=
  ∀ ops idx, idx.map (gOp n ops) = l.map some → dOk n l = true → At n e L fun t h => Wr P B kd ops idx K t z h x

theorem At.mono {e : Env} {L : List HProp} {φ ψ : Array Value → Hp → Prop} (a : At n e L φ) (h : ∀ t h, φ t h → ψ t h) : At n e L ψ := fun t hh a1 a2 a3 => h _ _ (a t hh a1 a2 a3)

theorem at_sub {e : Env} {L : List HProp} {φ : Array Value → Hp → Prop} (e' : Env) (s : Sub e' e) (a : At n e' L φ) : At n e L φ := fun t h a1 a2 a3 => a t h a1 (fun i v hi => a2 i v (s.lk i v hi)) a3
theorem at_ent {e : Env} {L : List HProp} {φ : Array Value → Hp → Prop} (L' : List HProp) (s : Ent L L') (a : At n e L' φ) : At n e L φ := fun t h a1 a2 a3 => a t h a1 a2 (s.star a3)
theorem at_star {e : Env} {L : List HProp} {φ : Array Value → Hp → Prop} (L' : List HProp) (s : ∀ h, Star L h → Star L' h) (a : At n e L' φ) : At n e L φ := fun t h a1 a2 a3 => a t h a1 a2 (s h a3)
/-- open a chunk that says there is one; take a fact out -/
theorem at_ex {α : Type} {c : α → HProp} {L R : List HProp} {e : Env} {φ : Array Value → Hp → Prop} (hh : Has L (fun h => ∃ a, c a h) R) (a : ∀ y, At n e (c y :: R) φ) : At n e L φ :=
  fun t h a1 a2 a3 => by obtain ⟨y, hy⟩ := star_ex (hh.star a3); exact a y t h a1 a2 hy
theorem at_and {p : Prop} {c : HProp} {L R : List HProp} {e : Env} {φ : Array Value → Hp → Prop} (hh : Has L (fun h => p ∧ c h) R) (a : p → At n e (c :: R) φ) : At n e L φ :=
  fun t h a1 a2 a3 => by obtain ⟨hp, hy⟩ := star_and (hh.star a3); exact a hp t h a1 a2 hy
theorem at_open {M L R : List HProp} {e : Env} {φ : Array Value → Hp → Prop} (hh : Has L (all M) R) (a : At n e (M ++ R) φ) : At n e L φ :=
  fun t h a1 a2 a3 => a t h a1 a2 (star_open (hh.star a3))
theorem at_pure {p : Prop} {L : List HProp} {e : Env} {φ : Array Value → Hp → Prop} (hp : ∀ h, Star L h → p) (a : p → At n e L φ) : At n e L φ := fun t h a1 a2 a3 => a (hp h a3) t h a1 a2 a3

variable {K : Post B} {e : Env} {z : Z} {L : List HProp} {x : B.X}

theorem we_sub {c : Code} (e' : Env) (s : Sub e' e) (a : We P B kd n c K e' z L x) : We P B kd n c K e z L x := at_sub e' s a
theorem we_ent {c : Code} (L' : List HProp) (s : Ent L L') (a : We P B kd n c K e z L' x) : We P B kd n c K e z L x := at_ent L' s a
theorem wo_sub {l : List OpG} (e' : Env) (s : Sub e' e) (a : Wo P B kd n l K e' z L x) : Wo P B kd n l K e z L x := fun ops idx h1 h2 => at_sub e' s (a ops idx h1 h2)
theorem wo_ent {l : List OpG} (L' : List HProp) (s : Ent L L') (a : Wo P B kd n l K e z L' x) : Wo P B kd n l K e z L x := fun ops idx h1 h2 => at_ent L' s (a ops idx h1 h2)
theorem wo_star {l : List OpG} (L' : List HProp) (s : ∀ h, Star L h → Star L' h) (a : Wo P B kd n l K e z L' x) : Wo P B kd n l K e z L x := fun ops idx h1 h2 => at_star L' s (a ops idx h1 h2)
theorem wo_ex {α : Type} {c : α → HProp} {R : List HProp} {l : List OpG} (hh : Has L (fun h => ∃ a, c a h) R) (a : ∀ y, Wo P B kd n l K e z (c y :: R) x) : Wo P B kd n l K e z L x :=
  fun ops idx h1 h2 => at_ex hh fun y => a y ops idx h1 h2
theorem wo_and {p : Prop} {c : HProp} {R : List HProp} {l : List OpG} (hh : Has L (fun h => p ∧ c h) R) (a : p → Wo P B kd n l K e z (c :: R) x) : Wo P B kd n l K e z L x :=
  fun ops idx h1 h2 => at_and hh fun y => a y ops idx h1 h2

/- ---- control ---- -/
theorem we_skip (w : At n e L fun t h => K .normal t z h x) : We P B kd n .skip K e z L x := w.mono fun _ _ q => wc_skip q
theorem we_label {l : Nat} (w : At n e L fun t h => K .normal t z h x) : We P B kd n (.label l) K e z L x := w.mono fun _ _ q => wc_label q
theorem we_exit {id : Nat} (w : At n e L fun t h => K (.exit id) t z h x) : We P B kd n (.exit id) K e z L x := w.mono fun _ _ q => wc_exit q
theorem we_goto {l : Nat} (w : At n e L fun t h => K (.goto l) t z h x) : We P B kd n (.goto l) K e z L x := w.mono fun _ _ q => wc_goto q
theorem we_ret (w : At n e L fun t h => K .ret t z h x) : We P B kd n .ret K e z L x := w.mono fun _ _ q => wc_ret q
theorem we_seq {a c : Code} (w : We P B kd n a (thn P B kd c K) e z L x) : We P B kd n (.seq a c) K e z L x := At.mono w fun _ _ q => wc_seq q
theorem we_cond {c : Operand} {a a' : Code} {q : Bool} (hc : ev e c = some (.bool q)) (w1 : q = true → We P B kd n a K e z L x) (w2 : q = false → We P B kd n a' K e z L x) : We P B kd n (.cond c a a') K e z L x :=
  fun t h a1 a2 a3 => wc_cond (q := q) (a2.ev hc) (by cases q; exact w2 rfl t h a1 a2 a3; exact w1 rfl t h a1 a2 a3)
theorem we_condT {c : Operand} {a a' : Code} {q : Bool} (hc : ev e c = some (.bool q)) (hq : q = true) (w1 : We P B kd n a K e z L x) : We P B kd n (.cond c a a') K e z L x :=
  we_cond hc (fun _ => w1) (fun h => by rw [hq] at h; cases h)
theorem we_condF {c : Operand} {a a' : Code} {q : Bool} (hc : ev e c = some (.bool q)) (hq : q = false) (w1 : We P B kd n a' K e z L x) : We P B kd n (.cond c a a') K e z L x :=
  we_cond hc (fun h => by rw [hq] at h; cases h) (fun _ => w1)
theorem we_block {id : Nat} {c : Code} (w : We P B kd n c (inBlk id K) e z L x) : We P B kd n (.block id c) K e z L x := At.mono w fun _ _ q => wc_block q
theorem we_scope {c : Code} (w : We P B kd n c (inScp (fun _ _ _ _ _ => False) K) e z L x) : We P B kd n (.scope c) K e z L x := At.mono w fun _ _ q => wc_scope q

/-- what a loop's head says: slots, chunks, the handler's state, told by an index -/
structure Inv (ι : Type) (X : Type) where
  e : ι → Env
  L : ι → List HProp
  x : ι → X
  ok : ι → Prop

theorem we_loop {c : Code} {ι : Type} (I : Inv ι B.X) (r : ι → ι → Prop) (wf : WellFounded r) (i : ι) (hok : I.ok i) (he : Sub (I.e i) e) (hL : Ent L (I.L i)) (hx : I.x i = x)
    (round : ∀ i, I.ok i → We P B kd n c (inLp (fun t z' h x => ∃ i', r i' i ∧ I.ok i' ∧ z' = z ∧ t.size = n ∧ Agree (I.e i') t ∧ Star (I.L i') h ∧ I.x i' = x) K) (I.e i) z (I.L i) (I.x i)) : We P B kd n (.loop c) K e z L x := by
  intro t h a1 a2 a3
  refine wc_loop (fun i t z' h x => I.ok i ∧ z' = z ∧ t.size = n ∧ Agree (I.e i) t ∧ Star (I.L i) h ∧ I.x i = x) r wf i ⟨hok, rfl, a1, fun j v hj => a2 j v (he.lk j v hj), hL.star a3, hx⟩ ?_
  rintro i t z' h x ⟨h1, rfl, h3, h4, h5, rfl⟩
  exact (round i h1 t h h3 h4 h5).mono fun e' t' z' h' x' q => q

/-- the measure is a number -/
theorem we_loopN {c : Code} {ι : Type} (I : Inv ι B.X) (μ : ι → Nat) (i : ι) (hok : I.ok i) (he : Sub (I.e i) e) (hL : Ent L (I.L i)) (hx : I.x i = x)
    (round : ∀ i, I.ok i → We P B kd n c (inLp (fun t z' h x => ∃ i', μ i' < μ i ∧ I.ok i' ∧ z' = z ∧ t.size = n ∧ Agree (I.e i') t ∧ Star (I.L i') h ∧ I.x i' = x) K) (I.e i) z (I.L i) (I.x i)) : We P B kd n (.loop c) K e z L x :=
  we_loop I (fun a b => μ a < μ b) (measure μ).wf i hok he hL hx round

variable (P B kd n) in
/-- ahead of a round, over slots and chunks -/
def Wle (c : Code) (K : Post B) (e : Env) (z : Z) (L : List HProp) (x : B.X) : Prop := At n e L fun t h => Wl P B kd c K t z h x

/-- a loop, round by round: what is asked is the first round, with 'ahead of a round' at its end -/
theorem we_loop1 {c : Code} (w : We P B kd n c (inLp (Wl P B kd c K) K) e z L x) : We P B kd n (.loop c) K e z L x := At.mono w fun _ _ q => wc_loop1 q
theorem wle_step {c : Code} (w : We P B kd n c (inLp (Wl P B kd c K) K) e z L x) : Wle P B kd n c K e z L x := At.mono w fun _ _ q => wl_step q

/-- the end of a round -/
theorem at_round {ι : Type} {I : Inv ι B.X} {R : ι → Prop} (i' : ι) (hr : R i') (hok : I.ok i') (he : Sub (I.e i') e) (hL : Ent L (I.L i')) (hx : I.x i' = x) :
    At n e L fun t h => ∃ i', R i' ∧ I.ok i' ∧ z = z ∧ t.size = n ∧ Agree (I.e i') t ∧ Star (I.L i') h ∧ I.x i' = x :=
  fun t h a1 a2 a3 => ⟨i', hr, hok, rfl, a1, fun j v hj => a2 j v (he.lk j v hj), hL.star a3, hx⟩

theorem wo_nil (w : At n e L fun t h => K .normal t z h x) : Wo P B kd n [] K e z L x := by
  intro ops idx h1 _ t h a1 a2 a3
  have : idx = [] := by simpa using h1
  subst this
  exact wr_nil (w t h a1 a2 a3)

def opsOf (n : Nat) (ops : Array Oper) : List OpG := ops.toList.map fun o => ⟨o.dst, o.op, o.type, o.guard.map fun (j, w) => (((ops[j]?).bind (·.dst)).getD n, w)⟩

theorem range_gOp (n : Nat) (ops : Array Oper) : (List.range ops.size).map (gOp n ops) = (opsOf n ops).map some := by
  apply List.ext_getElem?
  intro i
  simp only [opsOf, List.getElem?_map, gOp, List.map_map]
  by_cases h : i < ops.size
  · simp [h, gOp]
  · have : ops.toList[i]? = none := by simp; omega
    simp [h, this]

/-- A REGION IN THE TEXT's ORDER. -/
theorem we_region {id : Nat} {ops : Array Oper} (l : List OpG) (hl : opsOf n ops = l) (hd : dOk n l = true) (w : Wo P B kd n l K e z L x) : We P B kd n (.region id ops false) K e z L x :=
  fun t h a1 a2 a3 => wc_region (w ops _ (by rw [range_gOp, hl]) hd t h a1 a2 a3)

theorem dOk_tail {o : OpG} {l : List OpG} (h : dOk n (o :: l) = true) : dOk n l = true := by simp [dOk] at h; exact h.2
theorem dOk_head {o : OpG} {l : List OpG} (h : dOk n (o :: l) = true) : ∀ i, o.dst = some i → i < n := by
  intro i hi; simp [dOk, hi] at h; exact h.1

theorem map_head {ops : Array Oper} {idx : List Nat} {o : OpG} {l : List OpG} (h : idx.map (gOp n ops) = (o :: l).map some) :
    ∃ i idx' oo, idx = i :: idx' ∧ idx'.map (gOp n ops) = l.map some ∧ ops[i]? = some oo ∧ oo.dst = o.dst ∧ oo.op = o.op ∧ oo.type = o.ty ∧ o.g = oo.guard.map fun (j, w) => (((ops[j]?).bind (·.dst)).getD n, w) := by
  cases idx with
  | nil => simp at h
  | cons i idx' =>
    simp only [List.map_cons, List.cons.injEq] at h
    obtain ⟨h1, h2⟩ := h
    unfold gOp at h1
    cases hi : ops[i]? with
    | none => rw [hi] at h1; simp at h1
    | some oo =>
      rw [hi] at h1
      simp only [Option.map_some, Option.some.injEq] at h1
      subst h1
      exact ⟨i, idx', oo, rfl, h2, hi, rfl, rfl, rfl, rfl⟩

/-- the guard is met -/
def gYes (e : Env) : Option (Nat × Bool) → Prop
  | none => True
  | some (g, w) => lk e g = some (.bool w)

theorem wanted_yes {ops : Array Oper} {t : Array Value} {oo : Oper} (ht : t.size = n) (a : Agree e t) {g : Option (Nat × Bool)} (hg : g = oo.guard.map fun (j, w) => (((ops[j]?).bind (·.dst)).getD n, w)) (hy : gYes e g) : Region.wanted oo (yielded ops t) = true := by
  unfold Region.wanted
  cases h : oo.guard with
  | none => rfl
  | some q =>
    obtain ⟨j, w⟩ := q
    rw [h] at hg
    subst hg
    have hv := a _ _ hy
    simp only [yielded]
    cases hj : (ops[j]?).bind (·.dst) with
    | none => rw [hj] at hv; simp [ht] at hv
    | some d => rw [hj] at hv; simp only [Option.getD_some] at hv; simp [hv]

theorem wanted_no {ops : Array Oper} {t : Array Value} {oo : Oper} (ht : t.size = n) (a : Agree e t) {g : Nat} {w : Bool} (hg : some (g, w) = oo.guard.map fun (j, w) => (((ops[j]?).bind (·.dst)).getD n, w)) (hy : lk e g = some (.bool (!w))) : Region.wanted oo (yielded ops t) = false := by
  unfold Region.wanted
  cases h : oo.guard with
  | none => rw [h] at hg; cases hg
  | some q =>
    obtain ⟨j, w'⟩ := q
    rw [h] at hg
    simp only [Option.map_some, Option.some.injEq, Prod.mk.injEq] at hg
    obtain ⟨rfl, rfl⟩ := hg
    have hv := a _ _ hy
    simp only [yielded]
    cases hj : (ops[j]?).bind (·.dst) with
    | none => rw [hj] at hv; simp [ht] at hv
    | some d => rw [hj] at hv; simp only [Option.getD_some] at hv; cases w <;> simp [hv]

theorem setDst_size (oo : Oper) (t : Array Value) (v : Value) : (setDst oo t v).size = t.size := by
  unfold setDst; split <;> simp

/-- AN OPERATION WHOSE GUARD IS NOT MET. -/
theorem wo_no {l : List OpG} {d : Option Nat} {op : Op} {ty : TypeId} {g : Nat} {w : Bool} (hg : lk e g = some (.bool (!w))) (k : Wo P B kd n l K (setE d undef e) z L x) : Wo P B kd n (⟨d, op, ty, some (g, w)⟩ :: l) K e z L x := by
  intro ops idx h1 h2 t h a1 a2 a3
  obtain ⟨i, idx', oo, rfl, h3, h4, h5, h6, h7, h8⟩ := map_head h1
  exact wr_skip h4 (wanted_no a1 a2 h8 hg) (k ops idx' h3 (dOk_tail h2) _ h ((setDst_size ..).trans a1) (a2.setE h5 (by rw [a1]; exact dOk_head h2) _) a3)

/-- the operation as the model's dispatcher reads it -/
def opOf (op : Op) (ty : TypeId) : Oper := ⟨none, op, ty, "", #[], none⟩
theorem execOp_of (ρ : Operand → Value) {oo : Oper} {op : Op} {ty : TypeId} (h1 : oo.op = op) (h2 : oo.type = ty) : execOp ρ oo = execOp ρ (opOf op ty) := by
  unfold execOp opOf; rw [h1, h2]

/-- WHAT AN OPERATION GIVES: a value and chunks. -/
def Mo (P : Program) (e : Env) (op : Op) (ty : TypeId) (L : List HProp) (R : Value → List HProp → Prop) : Prop :=
  ∀ (M : Mark → Prop), M .noRoom → (∀ f, M (.extern f)) → ∀ t h (Q : Next → Hp → Prop) X, Agree e t → Star L h → (∀ v L' h' nx, (nx = .value v ∨ (nx = .skip ∧ v = undef)) → R v L' → Star L' h' → Q nx h') → wpS P M (execOp (evT t) (opOf op ty)) h Q X

/-- marks that a handler lets by everywhere -/
class Lets (B : Hand) : Prop where
  noRoom : B.mark .noRoom
  ext : ∀ f, B.mark (.extern f)

theorem wo_mo [Lets B] {l : List OpG} {d : Option Nat} {op : Op} {ty : TypeId} {g : Option (Nat × Bool)} {R : Value → List HProp → Prop} (m : Mo P e op ty L R) (hg : gYes e g) (k : ∀ v L', R v L' → Wo P B kd n l K (setE d v e) z L' x) : Wo P B kd n (⟨d, op, ty, g⟩ :: l) K e z L x := by
  intro ops idx h1 h2 t h a1 a2 a3
  obtain ⟨i, idx', oo, rfl, h3, h4, h5, h6, h7, h8⟩ := map_head h1
  refine wr_op h4 (wanted_yes a1 a2 h8 hg) ?_
  rw [execOp_of _ h6 h7]
  refine m _ Lets.noRoom Lets.ext t h _ _ a2 a3 fun v L' h' nx hnx hr hs => ?_
  have hk := k v L' hr ops idx' h3 (dOk_tail h2) _ h' ((setDst_size oo t v).trans a1) (a2.setE h5 (by rw [a1]; exact dOk_head h2) v) hs
  rcases hnx with rfl | ⟨rfl, rfl⟩
  · exact hk
  · exact hk

/-- one value, the chunks as they are -/
theorem wo_po [Lets B] {l : List OpG} {d : Option Nat} {op : Op} {ty : TypeId} {g : Option (Nat × Bool)} {v : Value} (m : Mo P e op ty L fun v' L' => v' = v ∧ L' = L) (hg : gYes e g) (k : Wo P B kd n l K (setE d v e) z L x) : Wo P B kd n (⟨d, op, ty, g⟩ :: l) K e z L x :=
  wo_mo m hg (by rintro v' L' ⟨rfl, rfl⟩; exact k)

/-- one value, other chunks -/
theorem wo_pm [Lets B] {l : List OpG} {d : Option Nat} {op : Op} {ty : TypeId} {g : Option (Nat × Bool)} {v : Value} {L1 : List HProp} (m : Mo P e op ty L fun v' L' => v' = v ∧ L' = L1) (hg : gYes e g) (k : Wo P B kd n l K (setE d v e) z L1 x) : Wo P B kd n (⟨d, op, ty, g⟩ :: l) K e z L x :=
  wo_mo m hg (by rintro v' L' ⟨rfl, rfl⟩; exact k)

/- ---- calls ---- -/
variable (P B) in
/-- A FUNCTION's CONTRACT over chunks. -/
def Tr (f : FuncId) (args : List Value) (L : List HProp) (x : B.X) (R : Value → List HProp → B.X → Prop) : Prop :=
  ∀ h um (Q : End → FrameMode → Hp → B.X → Prop), Star L h → (∀ v L' x' h', R v L' x' → Star L' h' → Q (.ret v) um h' x') → Wf P B f .normal args.toArray um h x Q

inductive EvL (e : Env) : List Operand → List Value → Prop
  | nil : EvL e [] []
  | cons {o : Operand} {v : Value} {os : List Operand} {vs : List Value} : ev e o = some v → EvL e os vs → EvL e (o :: os) (v :: vs)

theorem EvL.evT {t : Array Value} (a : Agree e t) {os : List Operand} {vs : List Value} (h : EvL e os vs) : os.map (evT t) = vs := by
  induction h with
  | nil => rfl
  | cons h _ ih => simp [a.ev h, ih]

class Ent' (P : Program) (f : FuncId) : Prop where
  ok : Enterable P f

/-- a value that is called, with what it brings along -/
def callee? : Value → Option (FuncId × List Value × List Value)
  | .func (.func f) first cap => some (f, first.toList, cap.toList)
  | _ => none

theorem Tr.ent {f : FuncId} {args : List Value} {L L' : List HProp} {R : Value → List HProp → B.X → Prop} (s : Ent L L') (a : Tr P B f args L' x R) : Tr P B f args L x R := fun h um Q hs q => a h um Q (s.star hs) q
theorem Tr.mono {f : FuncId} {args : List Value} {L : List HProp} {R R' : Value → List HProp → B.X → Prop} (a : Tr P B f args L x R) (hr : ∀ v L' x', R v L' x' → R' v L' x') : Tr P B f args L x R' := fun h um Q hs q => a h um Q hs fun v L' x' h' r s => q v L' x' h' (hr _ _ _ r) s

theorem wo_callv {l : List OpG} {d : Option Nat} {fo : Operand} {fv : Value} {f : FuncId} {first cap : List Value} {args : List Operand} {vs : List Value} {tys : Array TypeId} {ty : TypeId} {g : Option (Nat × Bool)} {R : Value → List HProp → B.X → Prop}
    (hf : ev e fo = some fv) (hc : callee? fv = some (f, first, cap)) (ha : EvL e args vs) (hg : gYes e g) [en : Ent' P f] (m : Tr P B f (first ++ vs ++ cap) L x R) (k : ∀ v L' x', R v L' x' → Wo P B kd n l K (setE d v e) z L' x') :
    Wo P B kd n (⟨d, .call ⟨.value fo, args.toArray, tys⟩, ty, g⟩ :: l) K e z L x := by
  intro ops idx h1 h2 t h a1 a2 a3
  obtain ⟨i, idx', oo, rfl, h3, h4, h5, h6, h7, h8⟩ := map_head h1
  refine wr_op h4 (wanted_yes a1 a2 h8 hg) ?_
  rw [execOp_of _ h6 h7]
  have hfv : evT t fo = fv := a2.ev hf
  have hargs := ha.evT a2
  have hex : execOp (evT t) (opOf (.call ⟨.value fo, args.toArray, tys⟩) ty) = callFunc f (first ++ vs ++ cap).toArray := by
    show (do let d ← resolve (evT t) ⟨.value fo, args.toArray, tys⟩ ty; invoke d.target d.args : Sem Next) = _
    cases fv with
    | func fn fi ca =>
      cases fn with
      | func g =>
        simp only [callee?, Option.some.injEq, Prod.mk.injEq] at hc
        obtain ⟨rfl, rfl, rfl⟩ := hc
        simp only [resolve, hfv, Deferred.ofValue, List.map_toArray, hargs]
        show callFunc g ((fi ++ vs.toArray) ++ ca) = _
        congr 1
        apply Array.ext'
        simp
      | _ => cases hc
    | _ => cases hc
  rw [hex]
  refine wpS_callFunc en.ok ?_
  refine m h .run _ a3 fun v L' x' h' r s => ⟨rfl, ?_⟩
  exact k v L' x' r ops idx' h3 (dOk_tail h2) _ h' ((setDst_size oo t v).trans a1) (a2.setE h5 (by rw [a1]; exact dOk_head h2) v) s

/-- A CALL OF A FUNCTION OF THE PROGRAM. -/
theorem wo_call {l : List OpG} {d : Option Nat} {f : FuncId} {args : List Operand} {vs : List Value} {tys : Array TypeId} {ty : TypeId} {g : Option (Nat × Bool)} {R : Value → List HProp → B.X → Prop}
    (ha : EvL e args vs) (hg : gYes e g) [en : Ent' P f] (m : Tr P B f vs L x R) (k : ∀ v L' x', R v L' x' → Wo P B kd n l K (setE d v e) z L' x') :
    Wo P B kd n (⟨d, .call ⟨.value (.func f), args.toArray, tys⟩, ty, g⟩ :: l) K e z L x :=
  wo_callv (first := []) (cap := []) (R := R) rfl rfl ha hg (by simpa using m) k

/- ---- a function's contract out of its body ---- -/
def argE : Nat → List Value → Env
  | _, [] => []
  | k, v :: vs => (k, v) :: argE (k + 1) vs

theorem lk_argE {i : Nat} {v : Value} : ∀ (l : List Value) (k : Nat), lk (argE k l) i = some v → ∃ j, i = k + j ∧ l[j]? = some v := by
  intro l
  induction l with
  | nil => intro k h; simp [argE, lk] at h
  | cons a l ih =>
    intro k h
    simp only [argE, lk] at h
    split at h
    · rename_i e1; injection h with h; subst h; exact ⟨0, by omega, rfl⟩
    · obtain ⟨j, h1, h2⟩ := ih (k + 1) h; exact ⟨j + 1, by omega, by simpa using h2⟩

theorem wf_of_argE {f : FuncId} {fn : Func} {c : Code} {kd : CallKind} {args : List Value} {nt : Nat} {L : List HProp} {x : B.X} {h : Hp} {um : FrameMode} {Q : End → FrameMode → Hp → B.X → Prop} (hf : P.funcs[f]? = some fn) (hb : fn.body = some c) (hnt : fn.ntmps = nt) (hn : args.length ≤ nt)
    (hs : Star L h) (w : We P B kd nt c (leave P B f kd Q) (argE 0 args) ⟨[], um⟩ L x) : Wf P B f kd args.toArray um h x Q := by
  subst hnt
  refine wf_of_body hf hb (w _ h ?_ ?_ hs)
  · simp; omega
  · intro i v hi
    obtain ⟨j, h1, h2⟩ := lk_argE args 0 hi
    obtain rfl : i = j := by omega
    have hlt : i < args.length := (List.getElem?_eq_some_iff.1 h2).1
    rw [Array.getElem?_append_left (by simpa using hlt)]
    simpa using h2

theorem tr_of_body {f : FuncId} {fn : Func} {c : Code} {args : List Value} {nt : Nat} {L : List HProp} {x : B.X} {R : Value → List HProp → B.X → Prop} (hf : P.funcs[f]? = some fn) (hb : fn.body = some c) (hnt : fn.ntmps = nt) (hn : (args.length ≤ nt) = True)
    (w : ∀ um (Q : End → FrameMode → Hp → B.X → Prop), (∀ v L' x' h', R v L' x' → Star L' h' → Q (.ret v) um h' x') → We P B .normal nt c (leave P B f .normal Q) (argE 0 args) ⟨[], um⟩ L x) : Tr P B f args L x R :=
  fun _ um Q hs q => wf_of_argE hf hb hnt (by rw [hn]; trivial) hs (w um Q q)

/-- THE RESULTS, in slots. -/
theorem at_leave {f : FuncId} {fn : Func} {ts : List Nat} {vs : List Value} {um : FrameMode} {Q : End → FrameMode → Hp → B.X → Prop} {R : Value → List HProp → B.X → Prop} {ex : Ex} (hex : ex = .ret ∨ ex = .normal)
    (hf : P.funcs[f]? = some fn) (hr : fn.results = (ts.map ResultVar.tmp).toArray) (hv : EvL e (ts.map Operand.tmp) vs) (q : ∀ v L' x' h', R v L' x' → Star L' h' → Q (.ret v) um h' x') (v : Value) (hvs : v = match vs with | [a] => a | vs => .tuple vs.toArray) (hR : R v L x) :
    At n e L fun t h => leave P B f kd Q ex t ⟨[], um⟩ h x := by
  intro t h a1 a2 a3
  have hw : Wd P B f kd .returning t ⟨[], um⟩ h x Q := by
    refine wd_ret v hf rfl ?_ (q v L x h hR a3)
    have hts := hv.evT a2
    have key : ∀ (ts : List Nat) (vs : List Value), (ts.map Operand.tmp).map (evT t) = vs → ∀ (M : Mark → Prop) (Q : Array Value → Hp → Prop) (X : Value → Hp → Prop), Q vs.toArray h →
        wpS P M ((ts.map ResultVar.tmp).toArray.mapM fun r => match r with
          | .tmp i => pure (t.getD i undef)
          | .cell a ty => do loadVar ty (← asAddr (t.getD a undef)) : Sem (Array Value)) h Q X := by
      intro ts vs hts M Q X hq
      subst hts
      rw [Array.mapM_eq_foldlM]
      rw [← Array.foldlM_toList]
      have : ∀ (l : List Nat) (acc : Array Value), Q (acc ++ ((l.map Operand.tmp).map (evT t)).toArray) h →
          wpS P M (List.foldlM (fun (bs : Array Value) (r : ResultVar) => do
            let b ← (match r with
              | .tmp i => pure (t.getD i undef)
              | .cell a ty => do loadVar ty (← asAddr (t.getD a undef)) : Sem Value)
            pure (bs.push b)) acc (l.map ResultVar.tmp)) h Q X := by
        intro l
        induction l with
        | nil => intro acc hq; have : Q acc h := by simpa using hq
                 exact this
        | cons i l ih =>
          intro acc hq
          show wpS P M (List.foldlM _ (acc.push (t.getD i undef)) (l.map ResultVar.tmp)) h Q X
          apply ih
          simpa [evT] using hq
      exact this ts #[] (by simpa using hq)
    unfold results
    rw [hr]
    refine wpS_bind _ _ (key ts vs hts _ _ _ ?_)
    subst hvs
    refine ⟨?_, rfl⟩
    cases vs with
    | nil => rfl
    | cons a l => cases l <;> rfl
  rcases hex with rfl | rfl
  · exact hw
  · exact hw

theorem at_ret0 {f : FuncId} {fn : Func} {um : FrameMode} {Q : End → FrameMode → Hp → B.X → Prop} {R : Value → List HProp → B.X → Prop} {ex : Ex} (hf : P.funcs[f]? = some fn) (hr : fn.results = #[])
    (q : ∀ v L' x' h', R v L' x' → Star L' h' → Q (.ret v) um h' x') (hex : ex = .ret ∨ ex = .normal) (hR : R (.tuple #[]) L x) : At n e L fun t h => leave P B f kd Q ex t ⟨[], um⟩ h x :=
  at_leave (ts := []) (vs := []) hex hf hr .nil q _ rfl hR
theorem at_ret1 {f : FuncId} {fn : Func} {t1 : Nat} {v1 : Value} {um : FrameMode} {Q : End → FrameMode → Hp → B.X → Prop} {R : Value → List HProp → B.X → Prop} {ex : Ex} (hf : P.funcs[f]? = some fn) (hr : fn.results = #[.tmp t1])
    (q : ∀ v L' x' h', R v L' x' → Star L' h' → Q (.ret v) um h' x') (hex : ex = .ret ∨ ex = .normal) (h1 : lk e t1 = some v1) (hR : R v1 L x) : At n e L fun t h => leave P B f kd Q ex t ⟨[], um⟩ h x :=
  at_leave (ts := [t1]) (vs := [v1]) hex hf hr (.cons h1 .nil) q _ rfl hR
theorem at_ret2 {f : FuncId} {fn : Func} {t1 t2 : Nat} {v1 v2 : Value} {um : FrameMode} {Q : End → FrameMode → Hp → B.X → Prop} {R : Value → List HProp → B.X → Prop} {ex : Ex} (hf : P.funcs[f]? = some fn) (hr : fn.results = #[.tmp t1, .tmp t2])
    (q : ∀ v L' x' h', R v L' x' → Star L' h' → Q (.ret v) um h' x') (hex : ex = .ret ∨ ex = .normal) (h1 : lk e t1 = some v1) (h2 : lk e t2 = some v2) (hR : R (.tuple #[v1, v2]) L x) : At n e L fun t h => leave P B f kd Q ex t ⟨[], um⟩ h x :=
  at_leave (ts := [t1, t2]) (vs := [v1, v2]) hex hf hr (.cons h1 (.cons h2 .nil)) q _ rfl hR
theorem at_ret3 {f : FuncId} {fn : Func} {t1 t2 t3 : Nat} {v1 v2 v3 : Value} {um : FrameMode} {Q : End → FrameMode → Hp → B.X → Prop} {R : Value → List HProp → B.X → Prop} {ex : Ex} (hf : P.funcs[f]? = some fn) (hr : fn.results = #[.tmp t1, .tmp t2, .tmp t3])
    (q : ∀ v L' x' h', R v L' x' → Star L' h' → Q (.ret v) um h' x') (hex : ex = .ret ∨ ex = .normal) (h1 : lk e t1 = some v1) (h2 : lk e t2 = some v2) (h3 : lk e t3 = some v3) (hR : R (.tuple #[v1, v2, v3]) L x) : At n e L fun t h => leave P B f kd Q ex t ⟨[], um⟩ h x :=
  at_leave (ts := [t1, t2, t3]) (vs := [v1, v2, v3]) hex hf hr (.cons h1 (.cons h2 (.cons h3 .nil))) q _ rfl hR
theorem at_ret4 {f : FuncId} {fn : Func} {t1 t2 t3 t4 : Nat} {v1 v2 v3 v4 : Value} {um : FrameMode} {Q : End → FrameMode → Hp → B.X → Prop} {R : Value → List HProp → B.X → Prop} {ex : Ex} (hf : P.funcs[f]? = some fn) (hr : fn.results = #[.tmp t1, .tmp t2, .tmp t3, .tmp t4])
    (q : ∀ v L' x' h', R v L' x' → Star L' h' → Q (.ret v) um h' x') (hex : ex = .ret ∨ ex = .normal) (h1 : lk e t1 = some v1) (h2 : lk e t2 = some v2) (h3 : lk e t3 = some v3) (h4 : lk e t4 = some v4) (hR : R (.tuple #[v1, v2, v3, v4]) L x) : At n e L fun t h => leave P B f kd Q ex t ⟨[], um⟩ h x :=
  at_leave (ts := [t1, t2, t3, t4]) (vs := [v1, v2, v3, v4]) hex hf hr (.cons h1 (.cons h2 (.cons h3 (.cons h4 .nil)))) q _ rfl hR

end
end Go.PB
