/-
  FOUNDATION, PART 9. Slicing; functions without a body (sync/atomic); calls through an interface; deferred calls. No program is in sight.
-/
import Derived.Test.YtdcbnbmahndecaaFh
set_option linter.unusedVariables false
set_option linter.unusedSimpArgs false
namespace Go.PB

section
variable {P : Program} {e : Env} {L : List HProp} {ty : TypeId}

/-- a bound of a slice expression: left out, or a number -/
inductive Bd (e : Env) : Option Operand → Nat → Nat → Prop
  | no {n : Nat} : Bd e none n n
  | yes {o : Operand} {n m : Nat} {k : IntKind} {j : Int} : ev e o = some (.int k j) → j = m → Bd e (some o) n m

theorem wpS_sliceBound {M : Mark → Prop} {k : IntKind} {j : Int} {m y : Nat} {c : BoundsCode} {h : Hp} {Q : Nat → Hp → Prop} {X : Value → Hp → Prop} (hj : j = m) (hm : m ≤ y) (q : Q m h) : wpS P M (Instr.sliceBound (.int k j) y c) h Q X := by
  subst hj
  show wpS P M (if 0 ≤ (m : Int) ∧ (m : Int) ≤ (y : Int) then pure (m : Int).toNat else _) h Q X
  rw [if_pos ⟨by omega, by omega⟩]
  exact q

/-- x[lo:hi] of a slice -/
theorem mo_slice {t el sz : Nat} {o : Operand} {lo hi : Option Operand} {a : Option Addr} {n c l u : Nat} [p : SlT P t el] [s : Siz P el sz] (hx : ev e o = some (.slice a n c)) (hl : Bd e lo 0 l) (hu : Bd e hi n u) (h1 : l ≤ u) (h2 : u ≤ c) :
    Mo P e (.slice t o lo hi none) ty L fun v' L' => v' = .slice (if c = l then a else a.map (·.add (l * sz))) (u - l) (c - l) ∧ L' = L := by
  intro M _ _ tt h Q X ag st q
  show wpS P M (Sem.bind (Instr.sliceAt t (evT tt o) (lo.map (evT tt)) (hi.map (evT tt)) none) fun v => pure (.value v)) h Q X
  rw [ag.ev hx]
  refine wpS_bind _ _ ?_
  unfold Instr.sliceAt
  refine wpS_underlying p.ok ?_
  show wpS P M (Instr.slice t (.slice a n c) (lo.map (evT tt)) (hi.map (evT tt)) none) h _ X
  unfold Instr.slice
  refine wpS_underlying p.ok ?_
  show wpS P M (Sem.bind (Instr.sliceBounds true n c (lo.map (evT tt)) (hi.map (evT tt)) none) fun b => Sem.bind (sizeOf el) fun size => pure (Value.slice (if b.2.2 = b.1 then a else a.map (·.add (b.1 * size))) (b.2.1 - b.1) (b.2.2 - b.1))) h _ X
  refine wpS_bind _ _ ?_
  have fin : wpS P M (Sem.bind (sizeOf el) fun size => pure (Value.slice (if c = l then a else a.map (·.add (l * size))) (u - l) (c - l))) h (fun a h => wpS P M (pure (Next.value a)) h Q X) X :=
    wpS_sizeOf s.ok (q _ L h _ (.inl rfl) ⟨rfl, rfl⟩ st)
  have low : ∀ (R : Nat × Nat × Nat → Hp → Prop), R (l, u, c) h → wpS P M (match lo.map (evT tt) with | some v => Sem.bind (Instr.sliceBound v u .sliceB) fun l => pure (l, u, c) | none => pure (0, u, c)) h R X := by
    intro R hR
    cases hl with
    | no => exact hR
    | yes he hj => simp only [Option.map_some]; rw [ag.ev he]; exact wpS_bind _ _ (wpS_sliceBound hj h1 hR)
  unfold Instr.sliceBounds
  simp only [pure_bind]
  cases hu with
  | no =>
    cases hl with
    | no => exact fin
    | yes he hj => simp only [Option.map_some, Option.map_none, pure_bind]; rw [ag.ev he]; exact wpS_bind _ _ (wpS_sliceBound hj h1 fin)
  | yes he hj =>
    simp only [Option.map_some]; rw [ag.ev he]
    refine wpS_bind _ _ (wpS_sliceBound hj h2 ?_)
    cases hl with
    | no => exact fin
    | yes he hj => simp only [Option.map_some]; rw [ag.ev he]; exact wpS_bind _ _ (wpS_sliceBound hj h1 fin)

/-- an owned slice, cut ahead: x[l:] -/
theorem vec_cut {sz l n c : Nat} {a : Option Addr} {cs : List Value} {h : Hp} (s : Star (vec sz (.slice a n c) cs :: L) h) (hl : l ≤ n) : Star (vec sz (.slice (if c = l then a else a.map (·.add (l * sz))) (n - l) (c - l)) (cs.drop (l * sz)) :: L) h := by
  rcases vec_out s with ⟨h1, h2, h3⟩ | ⟨b, o, n', c', sp, h1, h2, h3, h4, h5⟩
  · injection h1 with e1 e2 e3; subst e1; subst e2; subst e3; subst h2
    have : l = 0 := by omega
    subst this
    simpa using vec_nil h3
  · injection h1 with e1 e2 e3; subst e1; subst e2; subst e3
    have hd : ∀ (k : Nat), k ≤ cs.length → Star (arr b (o + k) (cs.drop k ++ sp) :: L) h := by
      intro k hk
      refine star_map h5 (fun h' a i v hi => ?_) (fun _ x => x)
      have : (cs ++ sp)[k + i]? = some v := by
        rw [← hi]
        by_cases hlt : k + i < cs.length
        · rw [List.getElem?_append_left hlt, List.getElem?_append_left (by simp; omega)]; simp
        · rw [List.getElem?_append_right (by omega), List.getElem?_append_right (by simp; omega)]; congr 1; simp; omega
      have := a _ _ this
      rwa [← Nat.add_assoc] at this
    have hle : l * sz ≤ cs.length := by rw [h2]; exact Nat.mul_le_mul_right _ hl
    have e1 : (cs.drop (l * sz)).length = (n - l) * sz := by rw [List.length_drop, h2, Nat.sub_mul]
    have e2 : sp.length = (c - l - (n - l)) * sz := by rw [h4]; congr 1; omega
    by_cases hc : c = l
    · rw [if_pos hc]
      have hn : n = l := by omega
      have hnil : cs.drop (l * sz) = [] := List.length_eq_zero_iff.1 (by rw [e1, hn]; simp)
      have hspn : sp = [] := List.length_eq_zero_iff.1 (by rw [h4, hc, hn]; simp)
      rw [hnil]
      refine vec_in (sp := []) (by simp [show n - l = 0 by omega]) (by omega) (by simp [show c - l - (n - l) = 0 by omega]) ?_
      exact star_map h5 (fun _ _ i v hi => by simp at hi) (fun _ x => x)
    · rw [if_neg hc]
      simp only [Option.map_some, add_none]
      exact vec_in e1 (by omega) e2 (hd _ hle)

/- ---- functions without a body ---- -/
class Exn (P : Program) (f : Nat) (en : outParam (Array Value → Sem Value)) : Prop where
  ok : ∃ fn, P.funcs[f]? = some fn ∧ (fn.name == "runtime.NumGoroutine") = false ∧ fn.body.isNone = true ∧ Extern.findNext fn = none ∧ Extern.find fn = some en

theorem callFunc_ext {M : Mark → Prop} {f : Nat} {en : Array Value → Sem Value} [x : Exn P f en] {args : Array Value} {h : Hp} {Q : Next → Hp → Prop} {X : Value → Hp → Prop} (hM : M (.extern f)) (w : wpS P M (en args) h (fun v h => Q (.value v) h) X) : wpS P M (callFunc f args) h Q X := by
  obtain ⟨fn, hg, hn, hb, h1, h2⟩ := x.ok
  show wpS P M ((match P.funcs[f]? with
    | none => stuck "call: no such function"
    | some fn =>
      if fn.name == "runtime.NumGoroutine" then pure .numGoroutine
      else if fn.body.isNone then (do
        mark (.extern f)
        if let some e := Extern.findNext fn then return ← e args
        match Extern.find fn with
        | some e => pure (.value (← e args))
        | none =>
          if fn.name.endsWith ".init" && !fn.name.startsWith "(" && !fn.name.startsWith "gosem." then pure (.value (.tuple #[]))
          else unsupported (.extern fn.name))
      else pure (.enter f args) : Sem Next)) h Q X
  rw [hg]
  simp only [hn, hb, if_neg Bool.false_ne_true, if_true, h1, h2]
  refine ⟨hM, ?_⟩
  show wpS P M (Sem.bind (en args) fun v => pure (.value v)) h Q X
  exact wpS_bind _ _ w

theorem mo_ext {f : Nat} {en : Array Value → Sem Value} [x : Exn P f en] {args : List Operand} {vs : List Value} {tys : Array TypeId} {R : Value → List HProp → Prop} (ha : EvL e args vs)
    (hw : ∀ (M : Mark → Prop) h (Q : Value → Hp → Prop) X, Star L h → (∀ v L' h', R v L' → Star L' h' → Q v h') → wpS P M (en vs.toArray) h Q X) : Mo P e (.call ⟨.value (.func f), args.toArray, tys⟩) ty L R := by
  intro M _ hM t h Q X ag s q
  have hargs := ha.evT ag
  have hex : execOp (evT t) (opOf (.call ⟨.value (.func f), args.toArray, tys⟩) ty) = callFunc f vs.toArray := by
    show callFunc f ((#[] ++ args.toArray.map (evT t)) ++ #[]) = _
    rw [List.map_toArray, hargs]; simp
  rw [hex]
  exact callFunc_ext (hM f) (hw M h _ X s fun v L' h' r s' => q v L' h' _ (.inl rfl) r s')

open Extern.Atomic in
theorem wpS_read {M : Mark → Prop} {k : IntKind} {b o : Nat} {n : Int} {h : Hp} {Q : Value → Hp → Prop} {X : Value → Hp → Prop} (hc : h.can ⟨b, o, none⟩ (.int k n)) (q : Q (.int k n) h) : wpS P M (read (.int k) ⟨b, o, none⟩) h Q X := by
  refine ⟨_, hc, ?_⟩
  show wpS P M (if k = k then pure (Value.int k n) else _) h Q X
  rw [if_pos rfl]
  exact q

open Extern.Atomic in
theorem at_loadI {k : IntKind} {b o : Nat} {n : Int} (hr : Rd L b o (.int k n)) : ∀ (M : Mark → Prop) h (Q : Value → Hp → Prop) X, Star L h → (∀ v L' h', (v = .int k n ∧ L' = L) → Star L' h' → Q v h') → wpS P M (loadT (.int k) [Value.pointer (some ⟨b, o, none⟩)].toArray) h Q X := by
  intro M h Q X s q
  exact wpS_read (hr h s) (q _ L h ⟨rfl, rfl⟩ s)

open Extern.Atomic in
theorem at_storeI {b o : Nat} {v : Value} {L1 : List HProp} (hv : one v = true) (hw : Wt L b o v L1) : ∀ (M : Mark → Prop) h (Q : Value → Hp → Prop) X, Star L h → (∀ v L' h', (v = .tuple #[] ∧ L' = L1) → Star L' h' → Q v h') → wpS P M (storeT [Value.pointer (some ⟨b, o, none⟩), v].toArray) h Q X := by
  intro M h Q X s q
  obtain ⟨h1, h2⟩ := hw h s
  show wpS P M (Sem.bind (store ⟨b, o, none⟩ v .atomic) fun _ => pure none_) h Q X
  refine wpS_bind _ _ ?_
  cases v <;> first | exact ⟨rfl, h1, q _ L1 _ ⟨rfl, rfl⟩ h2⟩ | cases hv

open Extern.Atomic in
theorem wpS_touches {M : Mark → Prop} {b o : Nat} {h : Hp} {Q : Bool → Hp → Prop} {X : Value → Hp → Prop} (hb : (h.own b o).isSome = true) (q : Q false h) : wpS P M (touchesFrozen ⟨b, o, none⟩) h Q X := by
  refine ⟨⟨o, .inl hb⟩, fun t n _ => ?_⟩
  intro q' hq
  have : q' = false := hq hb
  subst this
  exact q

open Extern.Atomic in
/-- compare-and-swap on an integer -/
theorem at_casI {k : IntKind} {b o : Nat} {n x y : Int} {L1 : List HProp} (hr : Rd L b o (.int k n)) (hw : Wt L b o (.int k y) L1) : ∀ (M : Mark → Prop) h (Q : Value → Hp → Prop) X, Star L h → (∀ v L' h', (v = .bool (decide (n = x)) ∧ L' = if n = x then L1 else L) → Star L' h' → Q v h') → wpS P M (casT (.int k) [Value.pointer (some ⟨b, o, none⟩), .int k x, .int k y].toArray) h Q X := by
  intro M h Q X s q
  obtain ⟨h1, h2⟩ := hw h s
  show wpS P M (Sem.bind (touchesFrozen ⟨b, o, none⟩) fun fz => if fz then _ else _) h Q X
  refine wpS_bind _ _ (wpS_touches h1 ?_)
  rw [if_neg (by simp)]
  refine wpS_bind _ _ (wpS_read (hr h s) ?_)
  show wpS P M (if (n == x) = true then Sem.bind (store ⟨b, o, none⟩ (.int k y) .atomic) fun _ => pure (Value.bool (n == x)) else pure (Value.bool (n == x))) h Q X
  by_cases hx : n = x
  · rw [if_pos (by simpa using hx)]
    exact ⟨rfl, h1, q _ L1 _ ⟨by simp [hx], by rw [if_pos hx]⟩ h2⟩
  · rw [if_neg (by simpa using hx)]
    exact q _ L _ ⟨by simp [hx], by rw [if_neg hx]⟩ s

open Extern.Atomic in
/-- Add on an integer -/
theorem at_addI {k : IntKind} {b o : Nat} {n y r : Int} {L1 : List HProp} (hr : Rd L b o (.int k n)) (hn : k.wrap (n + y) = r) (hw : Wt L b o (.int k r) L1) : ∀ (M : Mark → Prop) h (Q : Value → Hp → Prop) X, Star L h → (∀ v L' h', (v = .int k r ∧ L' = L1) → Star L' h' → Q v h') → wpS P M (update (Op.intArith .add) k true [Value.pointer (some ⟨b, o, none⟩), .int k y].toArray) h Q X := by
  intro M h Q X s q
  obtain ⟨h1, h2⟩ := hw h s
  show wpS P M (Sem.bind (read (.int k) ⟨b, o, none⟩) fun old => Sem.bind (asInt old) fun a => Sem.bind (Op.intArith .add k a y) fun new => Sem.bind (store ⟨b, o, none⟩ new .atomic) fun _ => pure new) h Q X
  refine wpS_bind _ _ (wpS_read (hr h s) ?_)
  subst hn
  exact ⟨rfl, h1, q _ L1 _ ⟨rfl, rfl⟩ h2⟩

open Extern.Atomic in
/-- Swap on an integer -/
theorem at_swapI {k : IntKind} {b o : Nat} {n y : Int} {L1 : List HProp} (hr : Rd L b o (.int k n)) (hw : Wt L b o (.int k y) L1) : ∀ (M : Mark → Prop) h (Q : Value → Hp → Prop) X, Star L h → (∀ v L' h', (v = .int k n ∧ L' = L1) → Star L' h' → Q v h') → wpS P M (swapT (.int k) [Value.pointer (some ⟨b, o, none⟩), .int k y].toArray) h Q X := by
  intro M h Q X s q
  obtain ⟨h1, h2⟩ := hw h s
  show wpS P M (Sem.bind (read (.int k) ⟨b, o, none⟩) fun old => Sem.bind (store ⟨b, o, none⟩ (.int k y) .atomic) fun _ => pure old) h Q X
  refine wpS_bind _ _ (wpS_read (hr h s) ?_)
  exact ⟨rfl, h1, q _ L1 _ ⟨rfl, rfl⟩ h2⟩

/- ---- calls through an interface; deferred calls ---- -/
/-- type t, a pointer type, has the method, as function f, with a pointer receiver -/
class Met (P : Program) (t : Nat) (name : String) (f : outParam Nat) : Prop where
  ok : (P.info? t).bind (fun i => (i.methods.find? (·.name == name)).bind fun m => if m.path.isEmpty then m.func else none) = some (f, true)
  ptr : (match P.underlying t with | some (.pointer _) => true | _ => false) = true

end

section
variable {P : Program} {B : Hand} {kd : CallKind} {n : Nat} {K : Post B} {e : Env} {z : Z} {L : List HProp} {x : B.X}

theorem wpS_method {M : Mark → Prop} {fuel t f : Nat} {name : String} {v : Value} {h : Hp} {Q : FuncId × Value → Hp → Prop} {X : Value → Hp → Prop} [m : Met P t name f] (q : Q (f, v) h) : wpS P M (method (fuel + 1) t v name) h Q X := by
  have h1 := m.ok
  have h2 := m.ptr
  cases hi : P.info? t with
  | none => rw [hi] at h1; cases h1
  | some i =>
    rw [hi] at h1
    simp only [Option.bind_some] at h1
    cases hm : i.methods.find? (·.name == name) with
    | none => rw [hm] at h1; cases h1
    | some md =>
      rw [hm] at h1
      simp only [Option.bind_some] at h1
      split at h1
      · rename_i hp
        cases hu : P.underlying t with
        | none => rw [hu] at h2; cases h2
        | some d =>
          rw [hu] at h2
          cases d with
          | pointer el =>
            unfold method
            refine wpS_typeInfo hi ?_
            simp only [hm]
            have hpath : md.path.toList = [] := by have := Array.isEmpty_iff.1 hp; rw [this]
            rw [hpath]
            show wpS P M (match md.func with | none => _ | some (f, pr) => _) h Q X
            rw [h1]
            show wpS P M (Sem.bind (receiverAt t (.val v) true _) fun r => pure (f, r)) h Q X
            refine wpS_bind _ _ ?_
            unfold receiverAt
            exact wpS_underlying hu q
          | _ => cases h2
      · cases h1

/-- A CALL THROUGH AN INTERFACE. -/
theorem wo_invoke {l : List OpG} {d : Option Nat} {ro : Operand} {t : Nat} {rv : Value} {name : String} {f : Nat} {args : List Operand} {vs : List Value} {tys : Array TypeId} {ty : TypeId} {g : Option (Nat × Bool)} {R : Value → List HProp → B.X → Prop}
    (hr : ev e ro = some (.iface t rv)) [m : Met P t name f] (ha : EvL e args vs) (hg : gYes e g) [en : Ent' P f] (tr : Tr P B f (rv :: vs) L x R) (k : ∀ v L' x', R v L' x' → Wo P B kd n l K (setE d v e) z L' x') :
    Wo P B kd n (⟨d, .call ⟨.invoke ro name, args.toArray, tys⟩, ty, g⟩ :: l) K e z L x := by
  intro ops idx h1 h2 tt h a1 a2 a3
  obtain ⟨i, idx', oo, rfl, h3, h4, h5, h6, h7, h8⟩ := map_head h1
  refine wr_op h4 (wanted_yes a1 a2 h8 hg) ?_
  rw [execOp_of _ h6 h7]
  have hargs := ha.evT a2
  show wpS P B.mark (invoke (.fn (.method name) #[]) (#[evT tt ro] ++ args.toArray.map (evT tt))) h _ _
  have he : (#[evT tt ro] ++ args.toArray.map (evT tt)) = (.iface t rv :: vs).toArray := by
    rw [List.map_toArray, hargs, a2.ev hr]
    apply Array.ext'
    simp
  rw [he]
  have he2 : ((Value.iface t rv :: vs).toArray.extract 1 (Value.iface t rv :: vs).toArray.size) = vs.toArray := by
    apply Array.ext'
    simp
  show wpS P B.mark (callMethod (.iface t rv) name ((Value.iface t rv :: vs).toArray.extract 1 (Value.iface t rv :: vs).toArray.size)) h _ _
  rw [he2]
  show wpS P B.mark (Sem.bind (method (P.types.size + Made.depth) t rv name) fun fr => callFunc fr.1 (#[fr.2] ++ vs.toArray)) h _ _
  refine wpS_bind _ _ ?_
  have hd : 0 < Made.depth := by decide
  have hfuel : P.types.size + Made.depth = (P.types.size + (Made.depth - 1)) + 1 := by omega
  rw [hfuel]
  refine wpS_method (wpS_callFunc en.ok ?_)
  have hsame : #[rv] ++ vs.toArray = (rv :: vs).toArray := by simp
  rw [hsame]
  refine tr h .run _ a3 fun v L' x' h' r s => ⟨rfl, ?_⟩
  exact k v L' x' r ops idx' h3 (dOk_tail h2) _ h' ((setDst_size oo tt v).trans a1) (a2.setE h5 (by rw [a1]; exact dOk_head h2) v) s

end

end Go.PB
