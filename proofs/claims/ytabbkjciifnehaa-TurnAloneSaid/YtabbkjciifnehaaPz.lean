/-
  THREADS THAT TAKE TURNS, the walk of what they and their starter do beside private steps: acts, talk over channels, go statements, what is given up to be read alone, how a game begins. No program is in sight.
-/
import Derived.Test.YtabbkjciifnehaaFt
import Derived.Test.YtabbkjciifnehaaGame
import Derived.Test.YtabbkjciifnehaaCh
set_option linter.unusedVariables false
set_option linter.unusedSimpArgs false
namespace Go.PB
open Go.Conc

section
variable {P : Program} {B : Hand} {kd : CallKind}

theorem wr_act [MonoH B] {ops : Array Oper} {i : Nat} {l : List Nat} {K : Post B} {t : Array Value} {z : Z} {h : Hp} {x : B.X} {o : Oper} (ho : ops[i]? = some o) (hw : Region.wanted o (yielded ops t) = true) (hk : kd ≠ .early)
    (ha : B.act (wakes o) (execOp (evT t) o) h x fun nx h' x' => ∃ v, nx = .value v ∧ Wr P B kd ops l K (setDst o t v) z h' x') : Wr P B kd ops (i :: l) K t z h x :=
  fun main S C b k cs hb hK => by
    refine C.act _ _ _ _ o ⟨rfl, rfl, ops, i, l, k, rfl, ho, hw⟩ (by show b.kind ≠ .early; rw [hb.1]; exact hk) ?_
    rw [eval_mkFr]
    refine MonoH.act _ _ _ _ _ _ (fun nx h' x' q => ?_) ha
    obtain ⟨v, e, q⟩ := q
    exact ⟨v, e, by rw [finish_mkFr ho v]; exact q main S C b k cs hb hK⟩

theorem wr_talk [MonoH B] {ops : Array Oper} {i : Nat} {l : List Nat} {K : Post B} {t : Array Value} {z : Z} {h : Hp} {x : B.X} {o : Oper} {cases : Array CommCase} {bl : Bool} {sh : CommShape} (ho : ops[i]? = some o) (hw : Region.wanted o (yielded ops t) = true)
    (hx : ∀ w, (execOp (evT t) o).runT P w #[] = (.ok (.comm cases bl sh) w, #[])) (hc : B.comm cases bl sh h x fun v h' x' => Wr P B kd ops l K (setDst o t v) z h' x') : Wr P B kd ops (i :: l) K t z h x :=
  fun main S C b k cs hb ha => by
    refine C.comm _ _ _ _ o cases bl sh ⟨rfl, rfl, ops, i, l, k, rfl, ho, hw⟩ (fun w _ => by rw [eval_mkFr]; exact hx w) (MonoH.comm _ _ _ _ _ _ _ (fun v h' x' q => ?_) hc)
    rw [finish_mkFr ho v]
    exact q main S C b k cs hb ha

theorem wr_go [MonoH B] {ops : Array Oper} {i : Nat} {l : List Nat} {K : Post B} {t : Array Value} {z : Z} {h : Hp} {x : B.X} {o : Oper} {d : Deferred} (ho : ops[i]? = some o) (hw : Region.wanted o (yielded ops t) = true)
    (hx : ∀ w, (execOp (evT t) o).runT P w #[] = (.ok (.spawn d) w, #[])) (hc : B.spawn d h x fun h' x' => Wr P B kd ops l K (setDst o t undef) z h' x') : Wr P B kd ops (i :: l) K t z h x :=
  fun main S C b k cs hb ha => by
    refine C.spawn _ _ _ _ o d ⟨rfl, rfl, ops, i, l, k, rfl, ho, hw⟩ (fun w _ => by rw [eval_mkFr]; exact hx w) (MonoH.spawn _ _ _ _ _ (fun h' x' q => ?_) hc)
    rw [finish_mkFr ho undef]
    exact q main S C b k cs hb ha

theorem wr_ghost [MonoH B] {ops : Array Oper} {l : List Nat} {K : Post B} {t : Array Value} {z : Z} {h : Hp} {x : B.X} (hc : B.ghost h x fun h' x' => Wr P B kd ops l K t z h' x') : Wr P B kd ops l K t z h x :=
  fun main S C b k cs hb ha => C.ghost _ _ _ _ (MonoH.ghost _ _ _ _ (fun h' x' q => q main S C b k cs hb ha) hc)

variable {n : Nat} {K : Post B} {e : Env} {z : Z} {L : List HProp} {x : B.X}

/-- AN ACT, over slots and chunks. -/
theorem wo_act [MonoH B] {l : List OpG} {d : Option Nat} {op : Op} {ty : TypeId} {g : Option (Nat × Bool)} {R : Value → List HProp → B.X → Prop} (hg : gYes e g) (hk : kd ≠ .early)
    (ha : ∀ t h (O : Next → Hp → B.X → Prop), Agree e t → Star L h → (∀ v L' x' h', R v L' x' → Star L' h' → O (.value v) h' x') → B.act (wakes (opOf op ty)) (execOp (evT t) (opOf op ty)) h x O)
    (k : ∀ v L' x', R v L' x' → Wo P B kd n l K (setE d v e) z L' x') : Wo P B kd n (⟨d, op, ty, g⟩ :: l) K e z L x := by
  intro ops idx h1 h2 t h a1 a2 a3
  obtain ⟨i, idx', oo, rfl, h3, h4, h5, h6, h7, h8⟩ := map_head h1
  refine wr_act h4 (wanted_yes a1 a2 h8 hg) hk ?_
  have hwk : wakes oo = wakes (opOf op ty) := by unfold wakes opOf; rw [h6]
  rw [execOp_of _ h6 h7, hwk]
  exact ha t h _ a2 a3 fun v L' x' h' r s => ⟨v, rfl, k v L' x' r ops idx' h3 (dOk_tail h2) _ h' ((setDst_size oo t v).trans a1) (a2.setE h5 (by rw [a1]; exact dOk_head h2) v) s⟩

/-- TALK, over slots and chunks. -/
theorem wo_talk [MonoH B] {l : List OpG} {d : Option Nat} {op : Op} {ty : TypeId} {g : Option (Nat × Bool)} {cases : Array CommCase} {bl : Bool} {sh : CommShape} {R : Value → List HProp → B.X → Prop} (hg : gYes e g)
    (hx : ∀ t w, Agree e t → (execOp (evT t) (opOf op ty)).runT P w #[] = (.ok (.comm cases bl sh) w, #[]))
    (ha : ∀ h (O : Value → Hp → B.X → Prop), Star L h → (∀ v L' x' h', R v L' x' → Star L' h' → O v h' x') → B.comm cases bl sh h x O)
    (k : ∀ v L' x', R v L' x' → Wo P B kd n l K (setE d v e) z L' x') : Wo P B kd n (⟨d, op, ty, g⟩ :: l) K e z L x := by
  intro ops idx h1 h2 t h a1 a2 a3
  obtain ⟨i, idx', oo, rfl, h3, h4, h5, h6, h7, h8⟩ := map_head h1
  refine wr_talk h4 (wanted_yes a1 a2 h8 hg) (fun w => by rw [execOp_of _ h6 h7]; exact hx t w a2) ?_
  exact ha h _ a3 fun v L' x' h' r s => k v L' x' r ops idx' h3 (dOk_tail h2) _ h' ((setDst_size oo t v).trans a1) (a2.setE h5 (by rw [a1]; exact dOk_head h2) v) s

/-- A GO STATEMENT, over slots and chunks. -/
theorem wo_go [MonoH B] {l : List OpG} {d : Option Nat} {op : Op} {ty : TypeId} {g : Option (Nat × Bool)} {dd : Deferred} {R : List HProp → B.X → Prop} (hg : gYes e g)
    (hx : ∀ t w, Agree e t → (execOp (evT t) (opOf op ty)).runT P w #[] = (.ok (.spawn dd) w, #[]))
    (ha : ∀ h (O : Hp → B.X → Prop), Star L h → (∀ L' x' h', R L' x' → Star L' h' → O h' x') → B.spawn dd h x O)
    (k : ∀ L' x', R L' x' → Wo P B kd n l K (setE d undef e) z L' x') : Wo P B kd n (⟨d, op, ty, g⟩ :: l) K e z L x := by
  intro ops idx h1 h2 t h a1 a2 a3
  obtain ⟨i, idx', oo, rfl, h3, h4, h5, h6, h7, h8⟩ := map_head h1
  refine wr_go h4 (wanted_yes a1 a2 h8 hg) (fun w => by rw [execOp_of _ h6 h7]; exact hx t w a2) ?_
  exact ha h _ a3 fun L' x' h' r s => k L' x' r ops idx' h3 (dOk_tail h2) _ h' ((setDst_size oo t undef).trans a1) (a2.setE h5 (by rw [a1]; exact dOk_head h2) undef) s

/-- WHAT IS TURNED BY NO STEP -/
theorem wo_ghost [MonoH B] {l : List OpG} {L' : List HProp} {x' : B.X} (ha : ∀ h (O : Hp → B.X → Prop), Star L h → (∀ h', Star L' h' → O h' x') → B.ghost h x O) (k : Wo P B kd n l K e z L' x') : Wo P B kd n l K e z L x :=
  fun ops idx h1 h2 t h a1 a2 a3 => wr_ghost (ha h _ a3 fun h' s => k ops idx h1 h2 t h' a1 a2 s)
end

/- ---- what is given up to be read alone ---- -/
/-- a row of cells that nobody writes any more -/
def fro (b o : Nat) (vs : List Value) : HProp := fun h => ∀ (i : Nat) v, vs[i]? = some v → h.ro b (o + i) = some v

theorem fro_still {b o k r : Nat} {vs : List Value} {v : Value} {L : List HProp} {h : Hp} (hk : vs[k]? = some v) (hr : o + k = r) (s : Star (fro b o vs :: L) h) : Star (still b r v :: fro b o vs :: L) h := by
  subst hr
  obtain ⟨h1, h2, s1, ha, hL⟩ := s
  refine ⟨⟨fun _ _ => none, h1.ro, fun _ => none, fun _ => none⟩, h, ⟨fun _ _ _ e => s1.r1 _ _ _ e, fun _ _ _ e => e, fun _ _ _ e => by simp at e, fun _ _ _ e => e, fun _ _ => .inl rfl, fun _ _ e => by simp at e, fun _ _ e => e, fun _ => .inl rfl, fun _ _ e => by simp at e, fun _ _ e => e⟩, ha k v hk, h1, h2, s1, ha, hL⟩

theorem Rd.fro {b o k n : Nat} {vs : List Value} {L : List HProp} {v : Value} (hk : vs[k]? = some v) (hn : n = o + k) : Rd (fro b o vs :: L) b n v := by
  rintro h ⟨h1, h2, s, ha, _⟩
  subst hn
  exact ⟨rfl, .inr (s.r1 _ _ _ (ha k v hk))⟩

/-- what may be read alone may be had twice -/
theorem fro_two {b o : Nat} {vs : List Value} {L : List HProp} {h : Hp} (s : Star (fro b o vs :: L) h) : Star (fro b o vs :: fro b o vs :: L) h := by
  obtain ⟨h1, h2, s1, ha, hL⟩ := s
  exact ⟨⟨fun _ _ => none, h1.ro, fun _ => none, fun _ => none⟩, h, ⟨fun _ _ _ e => s1.r1 _ _ _ e, fun _ _ _ e => e, fun _ _ _ e => by simp at e, fun _ _ _ e => e, fun _ _ => .inl rfl, fun _ _ e => by simp at e, fun _ _ e => e, fun _ => .inl rfl, fun _ _ e => by simp at e, fun _ _ e => e⟩, ha, h1, h2, s1, ha, hL⟩

theorem star_frz {b o : Nat} {vs : List Value} {L : List HProp} {h : Hp} (hf : ∃ w, Fits h w) (s : Star (arr b o vs :: L) h) : ∃ h1, Frz h h1 ∧ Star (fro b o vs :: L) h1 := by
  obtain ⟨w, f⟩ := hf
  obtain ⟨h1, h2, s1, ha, hL⟩ := s
  -- of the row's cells: read alone
  let In : Nat → Nat → Prop := fun b' o' => b' = b ∧ o ≤ o' ∧ o' < o + vs.length
  have own_in : ∀ b' o', In b' o' → ∃ v, vs[o' - o]? = some v ∧ h.own b' o' = some v := by
    rintro b' o' ⟨rfl, a1, a2⟩
    have hlt : o' - o < vs.length := by omega
    refine ⟨vs[o' - o], List.getElem?_eq_getElem hlt, ?_⟩
    have := s1.o1 _ _ _ (ha (o' - o) _ (List.getElem?_eq_getElem hlt))
    rwa [show o + (o' - o) = o' by omega] at this
  have own2 : ∀ b' o', In b' o' → h2.own b' o' = none := by
    rintro b' o' ⟨rfl, a1, a2⟩
    have hlt : o' - o < vs.length := by omega
    have := ha (o' - o) _ (List.getElem?_eq_getElem hlt)
    rw [show o + (o' - o) = o' by omega] at this
    exact (s1.od _ _).resolve_left (by rw [this]; simp)
  have dec : ∀ b' o', Decidable (In b' o') := fun _ _ => Classical.propDecidable _
  refine ⟨⟨fun b' o' => if In b' o' then none else h.own b' o', fun b' o' => if In b' o' then vs[o' - o]? else h.ro b' o', h.obj, h.shp⟩, ⟨fun b' o' v e => ?_, fun b' o' v e => ?_, fun _ _ e => e, fun _ _ e => e⟩,
    ⟨fun _ _ => none, fun b' o' => if In b' o' then vs[o' - o]? else none, fun _ => none, fun _ => none⟩, h2, ⟨fun b' o' v e => ?_, fun b' o' v e => ?_, fun _ _ _ e => by simp at e, fun b' o' v e => ?_, fun _ _ => .inl rfl, fun _ _ e => by simp at e, s1.b2, fun _ => .inl rfl, fun _ _ e => by simp at e, s1.s2⟩, ?_, hL⟩
  · simp only at e; split at e
    · cases e
    · exact e
  · simp only at e ⊢
    split at e
    · rename_i hi
      obtain ⟨u, hu, ho⟩ := own_in _ _ hi
      rw [hu] at e; cases e
      exact .inr ⟨ho, by rw [if_pos hi]⟩
    · exact .inl e
  · simp only at e ⊢
    split at e
    · rename_i hi; rw [if_pos hi]; exact e
    · cases e
  · simp only
    split
    · rename_i hi
      obtain ⟨u, hu, ho⟩ := own_in _ _ hi
      have := f.disj _ _ _ ho
      rw [s1.r2 _ _ _ e] at this; cases this
    · exact s1.r2 _ _ _ e
  · simp only
    split
    · rename_i hi; rw [own2 _ _ hi] at e; cases e
    · exact s1.o2 _ _ _ e
  · intro i v e
    have hlt := (List.getElem?_eq_some_iff.1 e).1
    simp only
    rw [if_pos ⟨rfl, by omega, by omega⟩, show o + i - o = i by omega]
    exact e

/-- a handler that lets a part be turned to one that is read alone -/
class Frzs (B : Hand) : Prop where
  ok : ∀ h x (O : Hp → B.X → Prop), ((∃ w, Fits h w) → ∃ h1, Frz h h1 ∧ O h1 x) → B.ghost h x O
instance {cv : Value} : Frzs (tHand cv) := ⟨fun _ _ _ h => h⟩
instance {P : Program} {cv : Value} {done : FuncId} {wgT : TypeId} : Frzs (mHand P cv done wgT) := ⟨fun _ _ _ h hw => .inl (h hw)⟩

theorem wo_frz {P : Program} {B : Hand} {kd : CallKind} [MonoH B] [Frzs B] {n : Nat} {K : Post B} {e : Env} {z : Z} {L R : List HProp} {x : B.X} {l : List OpG} {b o : Nat} {vs : List Value} (hh : Has L (arr b o vs) R) (k : Wo P B kd n l K e z (fro b o vs :: R) x) : Wo P B kd n l K e z L x :=
  wo_ghost (fun h O s q => Frzs.ok _ _ _ fun hw => let ⟨h1, z, s1⟩ := star_frz hw (hh.star s); ⟨h1, z, q h1 s1⟩) k
end Go.PB
/-
  THREADS THAT TAKE TURNS, the walk: functions without a body as acts; what a thread says, hears; what their starter says, hears, starts, shuts. No program is in sight.
-/
set_option linter.unusedVariables false
set_option linter.unusedSimpArgs false
namespace Go.PB
open Go.Conc

section
variable {P : Program}

theorem exec_call {e : Env} {f : Nat} {args : List Operand} {vs : List Value} {tys : Array TypeId} {ty : TypeId} {t : Array Value} (ha : EvL e args vs) (ag : Agree e t) : execOp (evT t) (opOf (.call ⟨.value (.func f), args.toArray, tys⟩) ty) = callFunc f vs.toArray := by
  have hargs := ha.evT ag
  show callFunc f ((#[] ++ args.toArray.map (evT t)) ++ #[]) = _
  rw [List.map_toArray, hargs]; simp

theorem callFunc_def {f : Nat} {en : Array Value → Sem Value} [x : Exn P f en] {args : Array Value} {w : World} : (callFunc f args).runT P w #[] = (Sem.bind (en args) fun v => pure (.value v)).runT P w #[⟨.mark (.extern f), false, true⟩] := by
  obtain ⟨fn, hg, hn, hb, h1, h2⟩ := x.ok
  show ((match P.funcs[f]? with
    | none => stuck "call: no such function"
    | some fn =>
      if fn.name == "runtime.NumGoroutine" then pure .numGoroutine
      else if fn.body.isNone then (do
        mark (.extern f)
        if let some e := Extern.findNext fn then return ← e args
        match Extern.find fn with
        | some e => pure (.value (← e args))
        | none =>
          if fn.name.endsWith ".init" && !fn.name.startsWith "(" && !fn.name.startsWith "gosem." then pure (.value (.tuple #[]))
          else unsupported (.extern fn.name))
      else pure (.enter f args) : Sem Next)).runT P w #[] = _
  rw [hg]
  simp only [hn, hb, if_neg Bool.false_ne_true, if_true, h1, h2]
  rfl

theorem ext_runT {f : Nat} {en : Array Value → Sem Value} [x : Exn P f en] {args : Array Value} {w w' : World} {v : Value} {es : Array Event} (h : (en args).runT P w #[⟨.mark (.extern f), false, true⟩] = (.ok v w', es)) : (callFunc f args).runT P w #[] = (.ok (.value v) w', es) := by
  rw [callFunc_def, Sem.runT_bind', h]; rfl
theorem ext_halt {f : Nat} {en : Array Value → Sem Value} [x : Exn P f en] {args : Array Value} {w w' : World} {q : Halt} {es : Array Event} (h : (en args).runT P w #[⟨.mark (.extern f), false, true⟩] = (.halt q w', es)) : (callFunc f args).runT P w #[] = (.halt q w', es) := by
  rw [callFunc_def, Sem.runT_bind', h]

theorem says_disable {f : Nat} [x : Exn P f (fun _ => (do mark .disable; pure Extern.Race.none_ : Sem Value))] {args : Array Value} : Says P (callFunc f args) .disable := ⟨f, fun w => ext_runT (v := unit) rfl⟩
theorem says_enable {f : Nat} [x : Exn P f (fun _ => (do mark .enable; pure Extern.Race.none_ : Sem Value))] {args : Array Value} : Says P (callFunc f args) .enable := ⟨f, fun w => ext_runT (v := unit) rfl⟩
theorem says_marked {f : Nat} {m : Addr → Mark} [x : Exn P f (Extern.Race.marked m)] {a : Addr} : Says P (callFunc f [Value.pointer (some a)].toArray) (m a) := ⟨f, fun w => ext_runT (v := unit) rfl⟩

theorem und_runT {t : TypeId} {dd : TypeDesc} {α : Type} {k : TypeDesc → Sem α} {w : World} {es : Array Event} (h : P.underlying t = some dd) : (Sem.bind (underlying t) k).runT P w es = (k dd).runT P w es := by
  show (Sem.bind (match P.underlying t with | some d => pure d | none => stuck "no such type") k).runT P w es = _
  rw [h]; rfl

theorem load_runT {a : Addr} {v : Value} {w : World} {es : Array Event} {α : Type} {k : Value → Sem α} (h : w.cell? a = some v) : (Sem.bind (load a .atomic) k).runT P w es = (k v).runT P w (es.push ⟨.cell a, false, true⟩) := by
  show (Sem.load .atomic a fun v => k v).runT P w es = _
  simp only [Sem.runT, h]; rfl
theorem store_runT {a : Addr} {v0 v : Value} {w : World} {es : Array Event} {α : Type} {k : Unit → Sem α} (h : w.cell? a = some v0) (hf : w.frozen? a = false) (hv : one v = true) : (Sem.bind (store a v .atomic) k).runT P w es = (k ()).runT P (w.setCell a v) (es.push ⟨.cell a, true, true⟩) := by
  show (Sem.store .atomic a v (k ())).runT P w es = _
  cases v <;> first | (simp only [Sem.runT, h, hf]; rfl) | cases hv

theorem read_runT {k : IntKind} {a : Addr} {n : Int} {w : World} {es : Array Event} {α : Type} {kk : Value → Sem α} (h : w.cell? a = some (.int k n)) : (Sem.bind (Extern.Atomic.read (.int k) a) kk).runT P w es = (kk (.int k n)).runT P w (es.push ⟨.cell a, false, true⟩) := by
  show (Sem.bind (Sem.bind (load a .atomic) fun v => match Extern.Atomic.T.int k, v with
    | .int k, .int k' _ => if k = k' then pure v else unsupported (.unsafePointer "atomic: a cell of another type")
    | .int .u64, .pointer (some _) => pure v
    | .ptr, .pointer _ => pure v
    | _, _ => unsupported (.unsafePointer "atomic: a cell of another type")) kk).runT P w es = _
  rw [Sem.runT_bind', load_runT h]
  simp only [if_true]
  rfl

theorem looks_load {f : Nat} [x : Exn P f (Extern.Atomic.loadT (.int .u64))] {a : Addr} : Looks P (callFunc f [Value.pointer (some a)].toArray) a := ⟨f, fun w n h => ext_runT (by
  show (Extern.Atomic.read (.int .u64) a).runT P w _ = _
  have := read_runT (P := P) (α := Value) (kk := fun v => pure v) (es := #[⟨.mark (.extern f), false, true⟩]) h
  rw [Sem.runT_bind'] at this
  revert this
  cases (Extern.Atomic.read (.int .u64) a).runT P w #[⟨.mark (.extern f), false, true⟩] with
  | mk r es' => cases r <;> intro h <;> exact h)⟩

theorem adds_add {f : Nat} [x : Exn P f (Extern.Atomic.update (Op.intArith .add) .u64 true)] {a : Addr} {d : Int} : Adds P (callFunc f [Value.pointer (some a), .int .u64 d].toArray) a d := ⟨f, fun w n h hf => ext_runT (by
  show (Sem.bind (Extern.Atomic.read (.int .u64) a) fun old => Sem.bind (asInt old) fun x => Sem.bind (Op.intArith .add .u64 x d) fun new => Sem.bind (store a new .atomic) fun _ => pure new).runT P w _ = _
  rw [read_runT h]
  show (Sem.bind (store a (Value.int .u64 (IntKind.u64.wrap (n + d))) .atomic) fun _ => (pure (Value.int .u64 (IntKind.u64.wrap (n + d))) : Sem Value)).runT P w _ = _
  rw [store_runT h hf rfl]
  rfl)⟩

theorem touch_runT {a : Addr} {v : Value} {w : World} {es : Array Event} {α : Type} {k : Bool → Sem α} (h : w.cell? a = some v) (hf : w.frozen? a = false) : (Sem.bind (Extern.Atomic.touchesFrozen a) k).runT P w es = (k false).runT P w es := by
  have hs : ∃ y, w.shape? a.block = some y := by
    unfold World.cell? at h
    unfold World.shape?
    cases hb : w.heap[a.block]? with
    | none => rw [hb] at h; simp at h
    | some ob => cases ob <;> rw [hb] at h <;> first | exact ⟨_, rfl⟩ | simp at h
  obtain ⟨y, hs⟩ := hs
  show (Sem.shape a.block fun q => Sem.bind (Sem.bind (if q.isSome then pure none else Sem.bind (getObj a.block) fun o => match o with | .view a t => pure (some (a, t)) | _ => pure none) fun x => match x with
    | none => frozen a
    | some (at_, as) => Sem.bind (typeInfo as) fun i => if i.bytes > 4096 then Sem.bind (unsupported (.unsafePointer "memory seen as another type")) fun _ => (List.range i.bytes).anyM fun i => frozen { at_ with off := at_.off + i, spot := none } else (List.range i.bytes).anyM fun i => frozen { at_ with off := at_.off + i, spot := none }) k).runT P w es = _
  simp only [Sem.runT, hs, Option.isSome_some, if_true]
  show (Sem.frozen a fun q => k q).runT P w es = _
  simp only [Sem.runT, hf]

theorem swaps_cas {f : Nat} [x : Exn P f (Extern.Atomic.casT (.int .u64))] {a : Addr} {old new : Int} : Swaps P (callFunc f [Value.pointer (some a), .int .u64 old, .int .u64 new].toArray) a old new := ⟨f, fun w n h hf => by
  have key : ∀ es, (Extern.Atomic.casT (.int .u64) [Value.pointer (some a), .int .u64 old, .int .u64 new].toArray).runT P w es = (if (n == old) = true then Sem.bind (store a (Value.int .u64 new) .atomic) fun _ => (pure (Value.bool (n == old)) : Sem Value) else pure (Value.bool (n == old))).runT P w (es.push ⟨.cell a, false, true⟩) := by
    intro es
    show (Sem.bind (Extern.Atomic.touchesFrozen a) fun fz => if fz then _ else _).runT P w es = _
    rw [touch_runT h hf, if_neg (by simp)]
    show (Sem.bind (Extern.Atomic.read (.int .u64) a) _).runT P w es = _
    rw [read_runT h]
    rfl
  refine ⟨fun hn => ext_runT ?_, fun hn => ext_runT ?_⟩
  · rw [key, if_pos (by simpa using hn), store_runT h hf rfl]
    simp [hn, pure, Sem.runT]
  · rw [key, if_neg (by simpa using hn)]
    simp [hn, pure, Sem.runT]⟩

theorem sems_acq {f : Nat} [x : Exn P f Extern.Sync.semacquire] {a : Addr} {q : Value} : Sems P (callFunc f [Value.pointer (some a), q].toArray) a := ⟨f, fun w n h hf => by
  have key : ∀ es, (Extern.Sync.semacquire [Value.pointer (some a), q].toArray).runT P w es = (if n = 0 then Sem.bind (.halt .blocked) fun (_ : Unit) => Sem.bind (store a (Value.int .u32 (n - 1)) .atomic) fun _ => Sem.bind (mark .enable) fun _ => (pure unit : Sem Value) else Sem.bind (store a (Value.int .u32 (n - 1)) .atomic) fun _ => Sem.bind (mark .enable) fun _ => (pure unit : Sem Value)).runT P w ((es.push ⟨.mark .disable, false, true⟩).push ⟨.cell a, false, true⟩) := by
    intro es
    show (Sem.bind (load a .atomic) _).runT P w (es.push ⟨.mark .disable, false, true⟩) = _
    rw [load_runT h]
    rfl
  refine ⟨fun hn => ?_, fun hn => ext_runT ?_⟩
  · subst hn
    refine ⟨#[⟨.mark (.extern f), false, true⟩, ⟨.mark .disable, false, true⟩, ⟨.cell a, false, true⟩], ext_halt (w' := w) ?_⟩
    rw [key, if_pos rfl]
    rfl
  · subst hn
    rw [key, if_neg (by decide), store_runT h hf rfl]
    rfl⟩

theorem shuts_close {e : Env} {t : Array Value} {o : Operand} {tys : Array TypeId} {ty : TypeId} {b : Nat} (hx : ev e o = some (.chan (some b))) (ag : Agree e t) : Shuts P (execOp (evT t) (opOf (.call ⟨.builtin .close, #[o], tys⟩) ty)) b := fun w n m tm h => by
  show (Sem.bind (Builtin.close_ tys ty (#[o].map (evT t))) fun v => (pure (.value v) : Sem Next)).runT P w #[] = _
  rw [show #[o].map (evT t) = #[.chan (some b)] by simp [ag.ev hx]]
  show (Sem.bind (Sem.bind (getObj b) _) _).runT P w #[] = _
  show (Sem.getObj b _).runT P w #[] = _
  simp only [Sem.runT, h, Obj.isChan]
  show (Sem.setObj b _ _).runT P w _ = _
  simp only [Sem.runT, h, Obj.isChan]
  rfl
end

/- ---- what the starter does, over slots and chunks ---- -/
section
variable {P : Program} {cv : Value} {done : FuncId} {wgT : TypeId} {kd : CallKind} {n : Nat} {K : Post (mHand P cv done wgT)} {e : Env} {z : Z} {L R : List HProp} {X : GX} {l : List OpG} {d : Option Nat} {ty : TypeId} {g : Option (Nat × Bool)} {tys : Array TypeId}

theorem wo_mact {op : Op} {R : Value → List HProp → MX → Prop} (hg : gYes e g) (hk : kd ≠ .early)
    (ha : ∀ t h (O : Next → Hp → MX → Prop), Agree e t → Star L h → (∀ v L' x' h', R v L' x' → Star L' h' → O (.value v) h' x') → MAct P (wakes (opOf op ty)) (execOp (evT t) (opOf op ty)) h X O)
    (k : ∀ v L' x', R v L' x' → Wo P (mHand P cv done wgT) kd n l K (setE d v e) z L' x') : Wo P (mHand P cv done wgT) kd n (⟨d, op, ty, g⟩ :: l) K e z L (.game X) :=
  wo_act (R := R) hg hk (fun t h O a s q => ⟨X, rfl, ha t h O a s q⟩) k

theorem wo_disable {f : Nat} [x : Exn P f (fun _ => (do mark .disable; pure Extern.Race.none_ : Sem Value))] (hg : gYes e g) (hk : kd ≠ .early) (hd : X.deaf = false) (k : Wo P (mHand P cv done wgT) kd n l K (setE d unit e) z L (.game { X with deaf := true })) :
    Wo P (mHand P cv done wgT) kd n (⟨d, .call ⟨.value (.func f), #[], tys⟩, ty, g⟩ :: l) K e z L (.game X) :=
  wo_mact (R := fun v L' x' => v = unit ∧ L' = L ∧ x' = .game { X with deaf := true }) hg hk (fun t h O a s q => .disable hd (by rw [exec_call (args := []) .nil a]; exact says_disable) (q _ _ _ h ⟨rfl, rfl, rfl⟩ s)) (by rintro _ _ _ ⟨rfl, rfl, rfl⟩; exact k)

theorem wo_enable {f : Nat} [x : Exn P f (fun _ => (do mark .enable; pure Extern.Race.none_ : Sem Value))] (hg : gYes e g) (hk : kd ≠ .early) (hd : X.deaf = true) (k : Wo P (mHand P cv done wgT) kd n l K (setE d unit e) z L (.game { X with deaf := false })) :
    Wo P (mHand P cv done wgT) kd n (⟨d, .call ⟨.value (.func f), #[], tys⟩, ty, g⟩ :: l) K e z L (.game X) :=
  wo_mact (R := fun v L' x' => v = unit ∧ L' = L ∧ x' = .game { X with deaf := false }) hg hk (fun t h O a s q => .enable hd (by rw [exec_call (args := []) .nil a]; exact says_enable) (q _ _ _ h ⟨rfl, rfl, rfl⟩ s)) (by rintro _ _ _ ⟨rfl, rfl, rfl⟩; exact k)

theorem wo_mark {f : Nat} {m : Addr → Mark} [x : Exn P f (Extern.Race.marked m)] {o : Operand} (hx : ev e o = some (.pointer (some ⟨X.wg, 1, none⟩))) (hm : m ⟨X.wg, 1, none⟩ = .read ⟨X.wg, 1, none⟩ ∨ m ⟨X.wg, 1, none⟩ = .write ⟨X.wg, 1, none⟩) (hg : gYes e g) (hk : kd ≠ .early) (k : Wo P (mHand P cv done wgT) kd n l K (setE d unit e) z L (.game X)) :
    Wo P (mHand P cv done wgT) kd n (⟨d, .call ⟨.value (.func f), #[o], tys⟩, ty, g⟩ :: l) K e z L (.game X) :=
  wo_mact (R := fun v L' x' => v = unit ∧ L' = L ∧ x' = .game X) hg hk (fun t h O a s q => .read _ hm (by rw [exec_call (args := [o]) (.cons hx .nil) a]; exact says_marked) (q _ _ _ h ⟨rfl, rfl, rfl⟩ s)) (by rintro _ _ _ ⟨rfl, rfl, rfl⟩; exact k)

theorem wo_acquire {f : Nat} [x : Exn P f (Extern.Race.marked .acquire)] {o : Operand} (hx : ev e o = some (.pointer (some ⟨X.wg, 0, none⟩))) (p : X.wt = .zero) (hd : X.deaf = false) (hg : gYes e g) (hk : kd ≠ .early) (k : Wo P (mHand P cv done wgT) kd n l K (setE d unit e) z (all (X.seats.map Seat.fins) :: L) .idle) :
    Wo P (mHand P cv done wgT) kd n (⟨d, .call ⟨.value (.func f), #[o], tys⟩, ty, g⟩ :: l) K e z L (.game X) :=
  wo_mact (R := fun v L' x' => v = unit ∧ L' = all (X.seats.map Seat.fins) :: L ∧ x' = .idle) hg hk (fun t h O a s q => .acquire p hd (by rw [exec_call (args := [o]) (.cons hx .nil) a]; exact says_marked) (fun r h' h1 h2 => q _ _ _ h' ⟨rfl, rfl, rfl⟩ ⟨r, h, h2.swap, h1, s⟩)) (by rintro _ _ _ ⟨rfl, rfl, rfl⟩; exact k)

theorem wo_add {f : Nat} [x : Exn P f (Extern.Atomic.update (Op.intArith .add) .u64 true)] {o y : Operand} (hx : ev e o = some (.pointer (some ⟨X.wg, 0, none⟩))) (hy : ev e y = some (.int .u64 4294967296)) (p : X.wt = .play) (h1 : X.ad < 1000) (h2 : X.ad = X.seats.length) (tk : X.tok.isSome = true) (hd : X.deaf = true) (hg : gYes e g) (hk : kd ≠ .early)
    (k : ∀ v : Nat, v ≤ X.ad → Wo P (mHand P cv done wgT) kd n l K (setE d (.int .u64 ((v + 1 : Nat) * kk)) e) z L (.game { X with ad := X.ad + 1 })) :
    Wo P (mHand P cv done wgT) kd n (⟨d, .call ⟨.value (.func f), #[o, y], tys⟩, ty, g⟩ :: l) K e z L (.game X) :=
  wo_mact (R := fun v L' x' => ∃ m : Nat, m ≤ X.ad ∧ v = .int .u64 ((m + 1 : Nat) * kk) ∧ L' = L ∧ x' = .game { X with ad := X.ad + 1 }) hg hk (fun t h O a s q => .add p h1 h2 tk hd (by rw [exec_call (args := [o, y]) (.cons hx (.cons hy .nil)) a]; exact adds_add) (fun v hv => q _ _ _ h ⟨v, hv, rfl, rfl, rfl⟩ s)) (by rintro _ _ _ ⟨m, hm, rfl, rfl, rfl⟩; exact k m hm)

theorem wo_look {f : Nat} [x : Exn P f (Extern.Atomic.loadT (.int .u64))] {o : Operand} (b : Nat) (hx : ev e o = some (.pointer (some ⟨X.wg, 0, none⟩))) (p : X.wt = .wait b ∨ (X.wt = .play ∧ b = X.ad ∧ X.ad = X.seats.length ∧ ∀ s ∈ X.seats, s.closed)) (hd : X.deaf = true) (hg : gYes e g) (hk : kd ≠ .early)
    (k : ∀ v : Nat, 0 < v → v ≤ b → Wo P (mHand P cv done wgT) kd n l K (setE d (.int .u64 (v * kk)) e) z L (.game { X with wt := .seen v })) (k0 : Wo P (mHand P cv done wgT) kd n l K (setE d (.int .u64 0) e) z L (.game { X with wt := .zero })) :
    Wo P (mHand P cv done wgT) kd n (⟨d, .call ⟨.value (.func f), #[o], tys⟩, ty, g⟩ :: l) K e z L (.game X) :=
  wo_mact (R := fun v L' x' => (∃ m : Nat, 0 < m ∧ m ≤ b ∧ v = .int .u64 (m * kk) ∧ L' = L ∧ x' = .game { X with wt := .seen m }) ∨ (v = .int .u64 0 ∧ L' = L ∧ x' = .game { X with wt := .zero })) hg hk
    (fun t h O a s q => .look b p hd (by rw [exec_call (args := [o]) (.cons hx .nil) a]; exact looks_load) (fun v h1 h2 => q _ _ _ h (.inl ⟨v, h1, h2, rfl, rfl, rfl⟩) s) (q _ _ _ h (.inr ⟨rfl, rfl, rfl⟩) s))
    (by rintro _ _ _ (⟨m, h1, h2, rfl, rfl, rfl⟩ | ⟨rfl, rfl, rfl⟩); exact k m h1 h2; exact k0)

theorem wo_last {f : Nat} [x : Exn P f (Extern.Atomic.loadT (.int .u64))] {o : Operand} (hx : ev e o = some (.pointer (some ⟨X.wg, 0, none⟩))) (p : X.wt = .woken) (hd : X.deaf = true) (hg : gYes e g) (hk : kd ≠ .early)
    (k0 : Wo P (mHand P cv done wgT) kd n l K (setE d (.int .u64 0) e) z L (.game { X with wt := .zero })) :
    Wo P (mHand P cv done wgT) kd n (⟨d, .call ⟨.value (.func f), #[o], tys⟩, ty, g⟩ :: l) K e z L (.game X) :=
  wo_mact (R := fun v L' x' => v = .int .u64 0 ∧ L' = L ∧ x' = .game { X with wt := .zero }) hg hk
    (fun t h O a s q => .last p hd (by rw [exec_call (args := [o]) (.cons hx .nil) a]; exact looks_load) (q _ _ _ h ⟨rfl, rfl, rfl⟩ s)) (by rintro _ _ _ ⟨rfl, rfl, rfl⟩; exact k0)

theorem wo_swap {f : Nat} [x : Exn P f (Extern.Atomic.casT (.int .u64))] {o o1 o2 : Operand} {v : Nat} (hx : ev e o = some (.pointer (some ⟨X.wg, 0, none⟩))) (h1 : ev e o1 = some (.int .u64 (v * kk))) (h2 : ev e o2 = some (.int .u64 (v * kk + 1))) (hv : 0 < v) (p : X.wt = .seen v) (hd : X.deaf = true) (hg : gYes e g) (hk : kd ≠ .early)
    (k : Wo P (mHand P cv done wgT) kd n l K (setE d (.bool true) e) z L (.game { X with wt := .parked })) (k0 : ∀ b, b < v → Wo P (mHand P cv done wgT) kd n l K (setE d (.bool false) e) z L (.game { X with wt := .wait b })) :
    Wo P (mHand P cv done wgT) kd n (⟨d, .call ⟨.value (.func f), #[o, o1, o2], tys⟩, ty, g⟩ :: l) K e z L (.game X) :=
  wo_mact (R := fun w L' x' => (w = .bool true ∧ L' = L ∧ x' = .game { X with wt := .parked }) ∨ ∃ b, b < v ∧ w = .bool false ∧ L' = L ∧ x' = .game { X with wt := .wait b }) hg hk
    (fun t h O a s q => .swap v hv p hd (by rw [exec_call (args := [o, o1, o2]) (.cons hx (.cons h1 (.cons h2 .nil))) a]; exact swaps_cas) (q _ _ _ h (.inl ⟨rfl, rfl, rfl⟩) s) (fun b hb => q _ _ _ h (.inr ⟨b, hb, rfl, rfl, rfl⟩) s))
    (by rintro _ _ _ (⟨rfl, rfl, rfl⟩ | ⟨b, hb, rfl, rfl, rfl⟩); exact k; exact k0 b hb)

theorem wo_sem {f : Nat} [x : Exn P f Extern.Sync.semacquire] {o o1 : Operand} {v1 : Value} (hx : ev e o = some (.pointer (some ⟨X.wg, 1, none⟩))) (h1 : ev e o1 = some v1) (p : X.wt = .parked) (hd : X.deaf = true) (hg : gYes e g) (hk : kd ≠ .early)
    (k : Wo P (mHand P cv done wgT) kd n l K (setE d unit e) z L (.game { X with wt := .woken })) :
    Wo P (mHand P cv done wgT) kd n (⟨d, .call ⟨.value (.func f), #[o, o1], tys⟩, ty, g⟩ :: l) K e z L (.game X) :=
  wo_mact (R := fun w L' x' => w = unit ∧ L' = L ∧ x' = .game { X with wt := .woken }) hg hk
    (fun t h O a s q => .sem p hd (by rw [exec_call (args := [o, o1]) (.cons hx (.cons h1 .nil)) a]; exact sems_acq) (q _ _ _ h ⟨rfl, rfl, rfl⟩ s)) (by rintro _ _ _ ⟨rfl, rfl, rfl⟩; exact k)

theorem wo_shut {o : Operand} {j : Nat} {c : Seat X.g.σ X.g.θ} {q0 : X.g.θ} (hx : ev e o = some (.chan (some c.fin))) (p : X.wt = .play) (hd : X.deaf = false) (ad : X.ad = X.seats.length) (tk : X.tok.isSome = true) (hj : X.seats[j]? = some c) (st : c.st = .said q0) (hg : gYes e g) (hk : kd ≠ .early)
    (k : Wo P (mHand P cv done wgT) kd n l K (setE d unit e) z L (.game { X with seats := X.seats.set j { c with st := .shut q0 } })) :
    Wo P (mHand P cv done wgT) kd n (⟨d, .call ⟨.builtin .close, #[o], tys⟩, ty, g⟩ :: l) K e z L (.game X) :=
  wo_mact (R := fun w L' x' => w = unit ∧ L' = L ∧ x' = .game { X with seats := X.seats.set j { c with st := .shut q0 } }) hg hk
    (fun t h O a s q => .shut j c q0 p hd ad tk hj st rfl (shuts_close hx a) (q _ _ _ h ⟨rfl, rfl, rfl⟩ s)) (by rintro _ _ _ ⟨rfl, rfl, rfl⟩; exact k)

/-- it hears what a thread says -/
theorem wo_hear {ct el : TypeId} {dr : ChanDir} {zv : Value} {o : Operand} {j : Nat} {c : Seat X.g.σ X.g.θ} {s : X.g.σ} {q : X.g.θ} [pu : Und P ct (.chan dr el)] [zr : Zer P el zv] (hx : ev e o = some (.chan (some c.says))) (p : X.wt = .play) (hd : X.deaf = false) (hj : X.seats[j]? = some c) (st : c.st = .run s q) (tk : X.tok = none) (hg : gYes e g)
    (k : Wo P (mHand P cv done wgT) kd n l K (setE d (X.g.says q) e) z (X.g.U s :: L) (.game { X with tok := some s, seats := X.seats.set j { c with st := .said q } })) :
    Wo P (mHand P cv done wgT) kd n (⟨d, .recv ct o false, ty, g⟩ :: l) K e z L (.game X) :=
  wo_talk (cases := #[rcase c.says zv]) (bl := true) (sh := .recv false) (R := fun w L' x' => w = X.g.says q ∧ L' = X.g.U s :: L ∧ x' = .game { X with tok := some s, seats := X.seats.set j { c with st := .said q } }) hg
    (fun t w ag => by
      show (Sem.bind (underlying ct) fun dd => match dd with
        | .chan _ el => Sem.bind (zeroValue el) fun zv => (pure (.comm #[{ chan := evT t o, send := none, zero := zv }] true (.recv false)) : Sem Next)
        | _ => stuck "receive: channel type expected").runT P w #[] = _
      rw [und_runT pu.ok]
      show (Sem.bind (zeroValue el) _).runT P w #[] = _
      rw [runT_zero zr.ok, ag.ev hx]; rfl)
    (fun h O st' qq => ⟨rfl, X, j, c, rfl, p, hd, hj, .inl ⟨zv, s, q, rfl, rfl, st, tk, fun r h' hr hs => qq _ _ _ h' ⟨rfl, rfl, rfl⟩ ⟨r, h, hs.swap, hr, st'⟩⟩⟩)
    (by rintro _ _ _ ⟨rfl, rfl, rfl⟩; exact k)

/-- it gives a thread a turn -/
theorem wo_turn {o y : Operand} {j lf : Nat} {c : Seat X.g.σ X.g.θ} {s : X.g.σ} {q : X.g.θ} {m : Int × Int} {f : X.g.σ → X.g.σ × X.g.θ} (hx : ev e o = some (.chan (some c.turn))) (hy : ev e y = some (.agg #[])) (p : X.wt = .play) (hd : X.deaf = false) (hj : X.seats[j]? = some c) (st : c.st = .said q) (pl : X.g.plan q = some (m, f)) (tk : X.tok = some s) (lf_ : X.left = lf + 1) (ad : X.ad = X.seats.length) (ok : X.g.ok s) (hh : Has L (X.g.U s) R) (hg : gYes e g)
    (k : Wo P (mHand P cv done wgT) kd n l K (setE d undef e) z R (.game { X with tok := none, left := lf, seats := X.seats.set j { c with st := .run (f s).1 (f s).2 } })) :
    Wo P (mHand P cv done wgT) kd n (⟨d, .send o y, ty, g⟩ :: l) K e z L (.game X) :=
  wo_talk (cases := #[scase c.turn (.agg #[]) (.tuple #[])]) (bl := true) (sh := .send) (R := fun w L' x' => w = undef ∧ L' = R ∧ x' = .game { X with tok := none, left := lf, seats := X.seats.set j { c with st := .run (f s).1 (f s).2 } }) hg
    (fun t w ag => by
      show ((pure (.comm #[{ chan := evT t o, send := some (evT t y), zero := .tuple #[] }] true .send) : Sem Next)).runT P w #[] = _
      rw [ag.ev hx, ag.ev hy]; rfl)
    (fun h O st' qq => by
      obtain ⟨r, h', hs, hr, hL⟩ := hh.star st'
      exact ⟨rfl, X, j, c, rfl, p, hd, hj, .inr ⟨.tuple #[], q, m, f, s, lf, h', r, rfl, rfl, st, pl, tk, lf_, ad, hs.swap, ⟨ok, hr⟩, qq _ _ _ h' ⟨rfl, rfl, rfl⟩ hL⟩⟩)
    (by rintro _ _ _ ⟨rfl, rfl, rfl⟩; exact k)
end
end Go.PB
/-
  THREADS THAT TAKE TURNS, the walk: what a thread says and hears; deferred calls, panics, recover; a go statement; how a game begins; a goroutine's whole run ('go_run'). No program is in sight.
-/
set_option linter.unusedVariables false
set_option linter.unusedSimpArgs false
namespace Go.PB
open Go.Conc

/- ---- of any thread ---- -/
section
variable {P : Program} {B : Hand} {kd : CallKind} {n : Nat} {K : Post B} {e : Env} {z : Z} {L R : List HProp} {x : B.X} {l : List OpG} {d : Option Nat} {ty : TypeId} {g : Option (Nat × Bool)} {tys : Array TypeId}

theorem resolve_val {e : Env} {t : Array Value} {fo : Operand} {fn : Fn} {first cap : List Value} {args : List Operand} {vs : List Value} (ag : Agree e t) (hf : ev e fo = some (.func fn first.toArray cap.toArray)) (ha : EvL e args vs) :
    resolve (evT t) ⟨.value fo, args.toArray, tys⟩ ty = pure { target := .fn fn cap.toArray, args := (first ++ vs).toArray } := by
  show Deferred.ofValue (evT t fo) (args.toArray.map (evT t)) = _
  rw [ag.ev hf, List.map_toArray, ha.evT ag]
  show pure _ = _
  congr 2
  simp

/-- a defer statement -/
theorem wo_defer {fo : Operand} {fn : Fn} {first cap : List Value} {args : List Operand} {vs : List Value} (hf : ev e fo = some (.func fn first.toArray cap.toArray)) (ha : EvL e args vs) (hg : gYes e g)
    (k : Wo P B kd n l K (setE d undef e) { z with d := { target := .fn fn cap.toArray, args := (first ++ vs).toArray } :: z.d } L x) :
    Wo P B kd n (⟨d, .defer ⟨.value fo, args.toArray, tys⟩, ty, g⟩ :: l) K e z L x := by
  intro ops idx h1 h2 t h a1 a2 a3
  obtain ⟨i, idx', oo, rfl, h3, h4, h5, h6, h7, h8⟩ := map_head h1
  refine wr_op h4 (wanted_yes a1 a2 h8 hg) ?_
  rw [execOp_of _ h6 h7]
  show wpS P B.mark (Sem.bind (resolve (evT t) ⟨.value fo, args.toArray, tys⟩ ty) fun d => pure (Next.defer d)) h _ _
  rw [resolve_val a2 hf ha]
  exact k ops idx' h3 (dOk_tail h2) _ h ((setDst_size oo t undef).trans a1) (a2.setE h5 (by rw [a1]; exact dOk_head h2) undef) a3

/-- a panic with a value that is an interface's -/
theorem wo_panic {o : Operand} {u : TypeId} {v : Value} (hx : ev e o = some (.iface u v)) (hg : gYes e g) (k : At n e L fun t h => K (.panic [{ v := .iface u v, recovered := false }]) t z h x) :
    Wo P B kd n (⟨d, .panic o, ty, g⟩ :: l) K e z L x := by
  intro ops idx h1 h2 t h a1 a2 a3
  obtain ⟨i, idx', oo, rfl, h3, h4, h5, h6, h7, h8⟩ := map_head h1
  refine wr_op h4 (wanted_yes a1 a2 h8 hg) ?_
  rw [execOp_of _ h6 h7]
  show wpS P B.mark (Sem.bind (Instr.panic (evT t o)) fun v => pure (Next.value v)) h _ _
  rw [a2.ev hx]
  exact k t h a1 a2 a3

/-- recover, where nobody panics -/
theorem wo_recN (hg : gYes e g) (hk : kd = .deferred) (hu : z.um = .returning) (k : Wo P B kd n l K (setE d .nilIface e) z L x) : Wo P B kd n (⟨d, .call ⟨.builtin .recover, #[], tys⟩, ty, g⟩ :: l) K e z L x := by
  intro ops idx h1 h2 t h a1 a2 a3
  obtain ⟨i, idx', oo, rfl, h3, h4, h5, h6, h7, h8⟩ := map_head h1
  refine wr_op h4 (wanted_yes a1 a2 h8 hg) ?_
  rw [execOp_of _ h6 h7]
  refine ⟨hk, ?_⟩
  rw [hu]
  exact k ops idx' h3 (dOk_tail h2) _ h ((setDst_size oo t _).trans a1) (a2.setE h5 (by rw [a1]; exact dOk_head h2) _) a3

/-- recover, where somebody panics -/
theorem wo_recP {v : Value} {older : List PanicEntry} (hg : gYes e g) (hk : kd = .deferred) (hu : z.um = .panicking ({ v, recovered := false, goexit := false } :: older)) (k : Wo P B kd n l K (setE d v e) { z with um := .panicking ({ v, recovered := true } :: older) } L x) : Wo P B kd n (⟨d, .call ⟨.builtin .recover, #[], tys⟩, ty, g⟩ :: l) K e z L x := by
  intro ops idx h1 h2 t h a1 a2 a3
  obtain ⟨i, idx', oo, rfl, h3, h4, h5, h6, h7, h8⟩ := map_head h1
  refine wr_op h4 (wanted_yes a1 a2 h8 hg) ?_
  rw [execOp_of _ h6 h7]
  refine ⟨hk, ?_⟩
  rw [hu]
  exact k ops idx' h3 (dOk_tail h2) _ h ((setDst_size oo t _).trans a1) (a2.setE h5 (by rw [a1]; exact dOk_head h2) _) a3

/-- is it a cutOff? it is -/
theorem mo_assertT {xt at_ : TypeId} {o : Operand} {v : Value} [p : NoIfc P at_] (hx : ev e o = some (.iface at_ v)) : Mo P e (.typeAssert o xt at_ true) ty L fun v' L' => v' = .tuple #[v, .bool true] ∧ L' = L := by
  intro M _ _ tt h Q X ag s q
  show wpS P M (Sem.bind (Instr.typeAssert (evT tt o) xt at_ true) fun v => pure (.value v)) h Q X
  rw [ag.ev hx]
  refine wpS_bind _ _ ?_
  have hp := p.ok
  unfold Instr.typeAssert
  cases hu : P.underlying at_ with
  | none => rw [hu] at hp; cases hp
  | some dd =>
    refine wpS_underlying hu ?_
    rw [hu] at hp
    cases dd <;> first | (show wpS P M (if at_ = at_ then (pure (Value.tuple #[v, .bool true]) : Sem Value) else _) h _ X; rw [if_pos rfl]; exact q _ L h _ (.inl rfl) ⟨rfl, rfl⟩ s) | cases hp

/-- a pointer into a group's block as an unsafe.Pointer -/
theorem mo_convPUo {src dst u : TypeId} {sz : Nat} {o : Operand} {b c m : Nat} {t : TypeId} [ps : Und P src (.pointer u)] [pd : Und P dst .unsafePointer] [z : Siz P u sz] (hz : sz ≠ 0) (hx : ev e o = some (.pointer (some ⟨b, c, none⟩))) (hs : ∀ h, Star L h → h.shp b = some (t, m)) (hm : c < m) :
    Mo P e (.convert src dst o) ty L fun v' L' => v' = .pointer (some ⟨b, c, none⟩) ∧ L' = L := by
  intro M _ _ tt h Q X ag s q
  show wpS P M (Sem.bind (convert src dst (evT tt o)) fun v => pure (.value v)) h Q X
  rw [ag.ev hx]
  have hh := hs h s
  refine wpS_bind _ _ (wpS_underlying ps.ok (wpS_underlying pd.ok ?_))
  refine wpS_underlying ps.ok (wpS_underlying pd.ok (wpS_seen hh ?_))
  refine wpS_bind _ _ ?_
  unfold cellsIn
  refine wpS_shapeK hh ?_
  refine wpS_sizeOf z.ok ?_
  have e1 : (decide (sz = 0) || (decide (c ≥ m) && true)) = false := by simp [hz]; omega
  show wpS P M (if (decide (sz = 0) || (decide (c ≥ m) && true)) = true then _ else _) h _ X
  rw [if_neg (by rw [e1]; decide)]
  exact q _ L h _ (.inl rfl) ⟨rfl, rfl⟩ s

theorem mo_allocS {t : TypeId} {zv : Value} [zr : Zer P t zv] : Mo P e (.alloc t) ty L fun v' L' => ∃ b, v' = .pointer (some ⟨b, 0, none⟩) ∧ L' = arr b 0 zv.cells.toList :: shpC b t zv.cells.size :: L := by
  intro M _ _ tt h Q X ag s q
  show wpS P M (Sem.bind (Instr.alloc t true (.tuple #[])) fun v => pure (.value v)) h Q X
  refine wpS_bind _ _ ?_
  show wpS P M (Sem.bind (zeroValue t) fun zero => Sem.bind (newVar t zero) fun a => pure (Value.pointer (some a))) h _ X
  refine wpS_zeroValue zr.ok (wpS_bind _ _ fun b hf => ?_)
  exact q _ _ _ _ (.inl rfl) ⟨b, rfl, rfl⟩ (star_newS hf s)
end

/- ---- a thread ---- -/
section
variable {P : Program} {cv : Value} {kd : CallKind} {n : Nat} {K : Post (tHand cv)} {e : Env} {z : Z} {L R : List HProp} {l : List OpG} {d : Option Nat} {ty : TypeId} {gd : Option (Nat × Bool)}
  {g : Game} {says turn fin wg : Nat}

theorem sel_runT {e : Env} {t : Array Value} {c1 c2 : SelectCase} {v1 v2 : Value} {z1 z2 : Value} {s1 s2 : Option Value} [q1 : Zer P c1.elem z1] [q2 : Zer P c2.elem z2] (ag : Agree e t) (h1 : ev e c1.chan = some v1) (h2 : ev e c2.chan = some v2) (hs1 : c1.send.map (evT t) = s1) (hs2 : c2.send.map (evT t) = s2) {w : World} :
    (execOp (evT t) (opOf (.select #[c1, c2] true) ty)).runT P w #[] = (.ok (.comm #[{ chan := v1, send := s1, zero := z1 }, { chan := v2, send := s2, zero := z2 }] true .select) w, #[]) := by
  show ((#[c1, c2].mapM fun s => do pure { chan := evT t s.chan, send := s.send.map (evT t), zero := ← zeroValue s.elem : CommCase }) >>= fun cases => (pure (Next.comm cases true .select) : Sem Next)).runT P w #[] = _
  simp only [Array.mapM_eq_mapM_toList, List.mapM_cons, List.mapM_nil, pure_bind, bind_assoc, map_eq_pure_bind, hs1, hs2, ag.ev h1, ag.ev h2]
  show (Sem.bind (zeroValue c1.elem) _).runT P w #[] = _
  rw [runT_zero q1.ok]
  show (Sem.bind (zeroValue c2.elem) _).runT P w #[] = _
  rw [runT_zero q2.ok]
  rfl

/-- it says where it stands, or that it's over -/
theorem wo_say {co vo fo : Operand} {el1 el2 : TypeId} {z1 z2 : Value} {s : g.σ} {q : g.θ} {m : Nat} [q1 : Zer P el1 z1] [q2 : Zer P el2 z2] (hc : ev e co = some (.chan (some says))) (hv : ev e vo = some (g.says q)) (hf : ev e fo = some (.chan (some fin))) (hh : Has L (g.U s) R) (hg : gYes e gd)
    (k : Wo P (tHand cv) kd n l K (setE d (.tuple #[goInt 0, .bool false, z2]) e) z R ⟨g, says, turn, fin, wg, g.next q m⟩) :
    Wo P (tHand cv) kd n (⟨d, .select #[⟨co, some vo, el1⟩, ⟨fo, none, el2⟩] true, ty, gd⟩ :: l) K e z L ⟨g, says, turn, fin, wg, .busy s q m⟩ :=
  wo_talk (R := fun v L' x' => v = .tuple #[goInt 0, .bool false, z2] ∧ L' = R ∧ x' = ⟨g, says, turn, fin, wg, g.next q m⟩) hg
    (fun t w ag => sel_runT (c1 := ⟨co, some vo, el1⟩) (c2 := ⟨fo, none, el2⟩) ag hc hf (s1 := some (g.says q)) (by simp [ag.ev hv]) rfl)
    (fun h O st qq => by
      obtain ⟨r, h', hs, hr, hL⟩ := hh.star st
      exact ⟨rfl, rfl, .inl ⟨s, q, m, z1, z2, h', r, rfl, rfl, hs.swap, hr, qq _ _ _ h' ⟨rfl, rfl, rfl⟩ hL⟩⟩)
    (by rintro _ _ _ ⟨rfl, rfl, rfl⟩; exact k)

/-- it waits for its turn -/
theorem wo_wait {co fo : Operand} {el1 el2 : TypeId} {z1 z2 : Value} {q : g.θ} {m : Nat} {mk : Int × Int} {f : g.σ → g.σ × g.θ} [q1 : Zer P el1 z1] [q2 : Zer P el2 z2] (hc : ev e co = some (.chan (some turn))) (hf : ev e fo = some (.chan (some fin))) (hp : g.plan q = some (mk, f)) (hg : gYes e gd)
    (k : ∀ m' s, m = m' + 1 → g.ok s → Wo P (tHand cv) kd n l K (setE d (.tuple #[goInt 0, .bool true, .agg #[], z2]) e) z (g.U s :: L) ⟨g, says, turn, fin, wg, .busy (f s).1 (f s).2 m'⟩)
    (k1 : Wo P (tHand cv) kd n l K (setE d (.tuple #[goInt 1, .bool false, z1, z2]) e) z L ⟨g, says, turn, fin, wg, .cut q⟩) :
    Wo P (tHand cv) kd n (⟨d, .select #[⟨co, none, el1⟩, ⟨fo, none, el2⟩] true, ty, gd⟩ :: l) K e z L ⟨g, says, turn, fin, wg, .said q m⟩ :=
  wo_talk (R := fun v L' x' => (∃ m' s, m = m' + 1 ∧ g.ok s ∧ v = .tuple #[goInt 0, .bool true, .agg #[], z2] ∧ L' = g.U s :: L ∧ x' = ⟨g, says, turn, fin, wg, .busy (f s).1 (f s).2 m'⟩) ∨ (v = .tuple #[goInt 1, .bool false, z1, z2] ∧ L' = L ∧ x' = ⟨g, says, turn, fin, wg, .cut q⟩)) hg
    (fun t w ag => sel_runT (c1 := ⟨co, none, el1⟩) (c2 := ⟨fo, none, el2⟩) ag hc hf rfl rfl)
    (fun h O st qq => ⟨rfl, rfl, .inr ⟨q, m, mk, f, z1, z2, rfl, hp, rfl, fun m' s r h' hm hr hs => qq _ _ _ h' (.inl ⟨m', s, hm, hr.1, rfl, rfl, rfl⟩) ⟨r, h, hs.swap, hr.2, st⟩, qq _ _ _ h (.inr ⟨rfl, rfl, rfl⟩) st⟩⟩)
    (by rintro _ _ _ (⟨m', s, hm, ho, rfl, rfl, rfl⟩ | ⟨rfl, rfl, rfl⟩); exact k m' s hm ho; exact k1)
end

/- ---- a go statement; the game begins ---- -/
section
variable {P : Program} {cv : Value} {done : FuncId} {wgT : TypeId} {kd : CallKind} {n : Nat} {K : Post (mHand P cv done wgT)} {e : Env} {z : Z} {L R : List HProp} {l : List OpG} {d : Option Nat} {ty : TypeId} {gd : Option (Nat × Bool)} {tys : Array TypeId}

/-- three channels and two parts, apart -/
theorem chans_apart {h : Hp} {a b c : Nat} {o : Obj} {M L : List HProp} (s : Star (ob a o :: ob b o :: ob c o :: all M :: L) h) :
    a ≠ b ∧ a ≠ c ∧ b ≠ c ∧ h.obj a = some o ∧ h.obj b = some o ∧ h.obj c = some o ∧ ∃ hc h', Split h hc h' ∧ (∀ r, r = a ∨ r = b ∨ r = c → hc.obj r = none ∧ h'.obj r = none) ∧ Star M hc ∧ Star L h' := by
  obtain ⟨h1, k1, s1, a1, h2, k2, s2, a2, h3, k3, s3, a3, hc, h', s4, a4, a5⟩ := s
  replace a1 : h1.obj a = some o := a1
  replace a2 : h2.obj b = some o := a2
  replace a3 : h3.obj c = some o := a3
  have n1 : k1.obj a = none := (s1.bd a).resolve_left (by rw [a1]; simp)
  have n2 : k2.obj b = none := (s2.bd b).resolve_left (by rw [a2]; simp)
  have n3 : k3.obj c = none := (s3.bd c).resolve_left (by rw [a3]; simp)
  have up2 : ∀ r v, k2.obj r = some v → k1.obj r = some v := s2.b2
  have up3 : ∀ r v, k3.obj r = some v → k2.obj r = some v := s3.b2
  have no2 : ∀ r, k1.obj r = none → k2.obj r = none := fun r hn => none_of fun v hv => by rw [up2 _ _ hv] at hn; cases hn
  have no3 : ∀ r, k2.obj r = none → k3.obj r = none := fun r hn => none_of fun v hv => by rw [up3 _ _ hv] at hn; cases hn
  have b1 : k1.obj b = some o := s2.b1 _ _ a2
  have c2 : k2.obj c = some o := s3.b1 _ _ a3
  refine ⟨?_, ?_, ?_, s1.b1 _ _ a1, s1.b2 _ _ b1, s1.b2 _ _ (s2.b2 _ _ c2), hc, h', ?_, ?_, a4, a5⟩
  · rintro rfl; rw [b1] at n1; cases n1
  · rintro rfl; rw [s2.b2 _ _ c2] at n1; cases n1
  · rintro rfl; rw [c2] at n2; cases n2
  · exact ⟨fun _ _ _ e => s1.r2 _ _ _ (s2.r2 _ _ _ (s3.r2 _ _ _ (s4.r1 _ _ _ e))), fun _ _ _ e => s1.r2 _ _ _ (s2.r2 _ _ _ (s3.r2 _ _ _ (s4.r2 _ _ _ e))), fun _ _ _ e => s1.o2 _ _ _ (s2.o2 _ _ _ (s3.o2 _ _ _ (s4.o1 _ _ _ e))), fun _ _ _ e => s1.o2 _ _ _ (s2.o2 _ _ _ (s3.o2 _ _ _ (s4.o2 _ _ _ e))), s4.od,
      fun _ _ e => s1.b2 _ _ (s2.b2 _ _ (s3.b2 _ _ (s4.b1 _ _ e))), fun _ _ e => s1.b2 _ _ (s2.b2 _ _ (s3.b2 _ _ (s4.b2 _ _ e))), s4.bd, fun _ _ e => s1.s2 _ _ (s2.s2 _ _ (s3.s2 _ _ (s4.s1 _ _ e))), fun _ _ e => s1.s2 _ _ (s2.s2 _ _ (s3.s2 _ _ (s4.s2 _ _ e)))⟩
  · have key : ∀ r, k3.obj r = none → hc.obj r = none ∧ h'.obj r = none := fun r hn => ⟨none_of (fun v hv => by rw [s4.b1 _ _ hv] at hn; cases hn), none_of (fun v hv => by rw [s4.b2 _ _ hv] at hn; cases hn)⟩
    rintro r (rfl | rfl | rfl)
    · exact key _ (no3 _ (no2 _ n1))
    · exact key _ (no3 _ n2)
    · exact key _ n3

/-- A THREAD IS STARTED: M: what it takes along. -/
theorem wo_start {X : GX} {s s' : X.g.σ} {q' : X.g.θ} {says turn fin : Nat} {M : List HProp} {fo : Operand} {fC : Nat} {cap : List Value}
    (hf : ev e fo = some (.func (.func fC) #[] cap.toArray)) (hg : gYes e gd) (p : X.wt = .play) (hd : X.deaf = false) (tk : X.tok = some s) (ad : X.ad = X.seats.length + 1)
    (hL : ∀ h, Star L h → Star (ob says newChan :: ob turn newChan :: ob fin newChan :: all M :: R) h)
    (hr : ∀ hc, Star M hc → Nonempty (Run P (tHand cv) false (tEnd P done) (goFr P { target := .fn (.func fC) cap.toArray, args := #[] }) [] hc ⟨X.g, says, turn, fin, X.wg, .busy s' q' X.left⟩))
    (k : Wo P (mHand P cv done wgT) kd n l K (setE d undef e) z R (.game { X with tok := none, seats := X.seats ++ [⟨says, turn, fin, .run s' q'⟩] })) :
    Wo P (mHand P cv done wgT) kd n (⟨d, .go ⟨.value fo, #[], tys⟩, ty, gd⟩ :: l) K e z L (.game X) :=
  wo_go (dd := { target := .fn (.func fC) cap.toArray, args := #[] }) (R := fun L' x' => L' = R ∧ x' = .game { X with tok := none, seats := X.seats ++ [⟨says, turn, fin, .run s' q'⟩] }) hg
    (fun t w ag => by
      show (Sem.bind (resolve (evT t) ⟨.value fo, #[], tys⟩ ty) fun d => pure (Next.spawn d)).runT P w #[] = _
      have := resolve_val (tys := tys) (ty := ty) (fn := .func fC) (first := []) (cap := cap) (args := []) ag hf .nil
      rw [show (#[] : Array Operand) = [].toArray from rfl, this]; rfl)
    (fun h O st qq => by
      obtain ⟨n1, n2, n3, o1, o2, o3, hc, h', s1, s2, s3, s4⟩ := chans_apart (hL h st)
      exact ⟨X, s, says, turn, fin, hc, h', s', q', rfl, p, hd, tk, ad, n1, n2, n3, o1, o2, o3, s1, s2, ⟨_, _, rfl⟩, hr hc s3, qq _ _ _ ⟨rfl, rfl⟩ s4⟩)
    (by rintro _ _ ⟨rfl, rfl⟩; exact k)

/-- A GAME BEGINS: the group's words are given up. -/
theorem wo_begin (g : Game) (s : g.σ) {wg : Nat} (hh : ∀ h, Star L h → Star (arr wg 0 [.int .u64 0, .int .u32 0] :: shpC wg wgT 2 :: R) h)
    (k : Wo P (mHand P cv done wgT) kd n l K e z (shpC wg wgT 2 :: R) (.game ⟨g, wg, [], some s, 16384, 0, false, .play⟩)) : Wo P (mHand P cv done wgT) kd n l K e z L .idle :=
  wo_ghost (fun h O st q => by
    rintro ⟨w, f⟩
    refine .inr ⟨rfl, g, wg, s, ?_⟩
    obtain ⟨h1, h2, s1, ha, h3, h4, s2, hs, hL⟩ := hh h st
    have e0 : h.own wg 0 = some (.int .u64 0) := s1.o1 _ _ _ (ha 0 _ rfl)
    have e1 : h.own wg 1 = some (.int .u32 0) := s1.o1 _ _ _ (ha 1 _ rfl)
    have es : h.shp wg = some (wgT, 2) := s1.s2 _ _ (s2.s1 _ _ hs)
    have hw := f.shp _ _ es
    -- no cell of the block but the two
    have none2 : ∀ o v, w.cell? ⟨wg, o, none⟩ = some v → o = 0 ∨ o = 1 := by
      intro o v e
      unfold World.shape? at hw
      unfold World.cell? at e
      cases hb : w.heap[wg]? with
      | none => rw [hb] at hw; simp at hw
      | some obj =>
        rw [hb] at hw e
        cases obj with
        | cells cs t fz =>
          simp at hw e
          have := (Array.getElem?_eq_some_iff.1 e).1
          omega
        | _ => simp at hw
    have h2n : ∀ o, h2.own wg o = none := fun o => none_of fun v hv => by
      have hv' := s1.o2 _ _ _ hv
      rcases none2 o v (f.own _ _ _ hv') with rfl | rfl
      · have := (s1.od wg 0).resolve_left (by rw [ha 0 _ rfl]; simp); rw [this] at hv; cases hv
      · have := (s1.od wg 1).resolve_left (by rw [ha 1 _ rfl]; simp); rw [this] at hv; cases hv
    have hrn : ∀ o, h.ro wg o = none := fun o => none_of fun v hv => by
      rcases none2 o v (f.ro _ _ _ hv) with rfl | rfl
      · have := f.disj _ _ _ e0; rw [this] at hv; cases hv
      · have := f.disj _ _ _ e1; rw [this] at hv; cases hv
    refine ⟨h2, e0, e1, es, s1.frz2, fun o => ⟨h2n o, none_of fun v hv => ?_⟩, q h2 ⟨h3, h4, s2, hs, hL⟩⟩
    have := s1.r2 _ _ _ hv
    rw [hrn o] at this; cases this) k
end
end Go.PB
/-
  THREADS THAT TAKE TURNS: a goroutine's whole run ('go_run') out of its function's body: from the go statement's frame to where its deferred Done is entered; what is behind that only leaves. No program is in sight.
-/
set_option linter.unusedVariables false
set_option linter.unusedSimpArgs false
namespace Go.PB
open Go.Conc

section
variable {P : Program} {B : Hand}

/-- a deferred call, of one family of states -/
theorem cons_S {main : Bool} {S : Frame → List Frame → Hp → B.X → Prop} (C : Closed P B main S) {b : Base} {k : List Item} {cs : List Frame} {g : FuncId} {m um : FrameMode} {t : Array Value} {h : Hp} {x : B.X} {cap args : Array Value} {ds : List Deferred} (hm : m ≠ .run) (hg : Enterable P g)
    (w : Wf P B g .deferred (args ++ cap) m h x (fun e um' h x => match e with
      | .ret _ => S (endFr b t ds k (settled um')) (setUm um cs) h x
      | .pan chain => S (endFr b t ds k (raised chain um')) (setUm um cs) h x)) : S (endFr b t ({ target := .fn (.func g) cap, args } :: ds) k m) (setUm um cs) h x := by
  refine go_of C (fr' := Frame.enter P g (args ++ cap) .deferred) (cs' := endFr b t ds k m :: setUm um cs) (fun w => ?_) ?_
  · have hr := runT_callFunc hg (args ++ cap) w #[]
    have hr' : (invoke (.fn (.func g) cap) args).runT P w #[] = (.ok (.enter g (args ++ cap)) w, #[]) := hr
    have hs : seen P b.fn #[] = #[] := rfl
    cases m with
    | run => exact absurd rfl hm
    | returning => simp only [stepG, G, endFr, unwind, callDeferred, Bool.false_and, hr', hs, GStep.after]; rfl
    | panicking ch => simp only [stepG, G, endFr, unwind, callDeferred, Bool.false_and, hr', hs, GStep.after]; rfl
  · have := w main S C (endFr b t ds k m :: setUm um cs) (by simp) ?_
    · exact this
    · intro fr e um' h' x' hend hq
      cases e with
      | ret v =>
        obtain ⟨h1, h2, h3, h4, h5, fn, hf, hr⟩ := hend
        refine C.priv _ _ _ _ fun w fw => ?_
        rcases wpS_sound _ hr w #[] fw with ⟨v', w', es', h'', e1, g, e2, rfl, rfl⟩ | ⟨_, _, _, _, _, _, _, hx⟩
        · refine ⟨endFr b t ds k (settled um'), setUm um cs, w', seen P fr.fn es' ++ #[], h'', ?_, g, ?_, hq⟩
          · simp only [Array.empty_append] at e1
            cases fr
            simp only at h1 h2 h3 h4 h5
            subst h1; subst h2; subst h3; subst h4; subst h5
            simp only [stepG, G, unwind, hf, e1, GStep.after, doReturn, setUm, endFr, settled]
            cases um' with
            | run => rfl
            | returning => rfl
            | panicking ch =>
              cases ch with
              | nil => rfl
              | cons en older =>
                obtain ⟨v0, rec, gx⟩ := en
                cases rec
                · rfl
                · simp only
                  cases older.dropWhile (fun e => !e.goexit) <;> rfl
          · intro e he
            simp only [Array.append_empty] at he
            have := e2 e (seen_mem P fr.fn es' e he)
            unfold EvOk at this ⊢
            revert this
            split <;> simp_all
        · exact hx.elim
      | pan chain =>
        refine end_pan C hend ?_
        have : (endFr b t ds k um').raise chain = endFr b t ds k (raised chain um') := by cases um' <;> rfl
        show S ((endFr b t ds k um').raise chain) (setUm um cs) h' x'
        rw [this]
        exact hq
end

section
variable {P : Program} {cv : Value} {done : FuncId}

/-- where a go statement's frame stands when its call is made -/
def goFr0 (P : Program) : Frame := { (default : Frame) with fn := P.funcs.size, defers := [], mode := .panicking [goexitEntry] }

theorem quits_go {fC : FuncId} {fnC : Func} {t : Array Value} {todo : List Item} (hf : P.funcs[fC]? = some fnC) (hr : fnC.results = #[]) :
    QuitsD P 2 0 (G (endFr ⟨fC, .deferred⟩ t [] todo .returning) [goFr0 P]) := by
  refine QuitsD.ctl rfl (g' := G (goFr0 P) []) (fun w => ?_) ?_
  · have hres : (results fnC t).runT P w #[] = (.ok (.tuple #[]) w, #[]) := by unfold results; rw [hr]; simp [Array.mapM_eq_mapM_toList, pure, Sem.runT]
    simp only [stepG, G, endFr, unwind, hf, hres, GStep.after, doReturn, goFr0]
    rfl
  · refine QuitsD.ctl rfl (g' := { G (goFr0 P) [] with status := .finished }) (fun w => ?_) ⟨rfl, rfl⟩
    have hc : (goFr0 P).catches P = false := by
      unfold Frame.catches goFr0
      simp
      rfl
    simp only [stepG, G, goFr0, unwind] at hc ⊢
    simp only [hc]
    simp [goexitEntry]

/-- what a thread never turns: its group; where it may be cut off it has what it hands over -/
structure Keeps (wg : Nat) (x : TX) : Prop where
  wg : x.wg = wg
  fin : ∀ q h, x.g.Pv q h → x.g.Fin q h

theorem keep_closed {main : Bool} {wg : Nat} {S : Frame → List Frame → Hp → TX → Prop} (C : Closed P (tHand cv) main S) : Closed P (tHand cv) main fun fr cs h x => Keeps wg x → S fr cs h x where
  priv := fun fr cs h x hs hw => C.priv _ _ _ _ fun w f => by
    obtain ⟨fr', cs', w', es, h', a, b, c, d⟩ := hs w f
    exact ⟨fr', cs', w', es, h', a, b, c, d hw⟩
  act := fun _ _ _ _ _ _ _ a _ => a.elim
  comm := fun fr cs h x o cases bl sh at_ hr a hw => C.comm _ _ _ _ o cases bl sh at_ hr (by
    obtain ⟨h1, h2, h3⟩ := a
    refine ⟨h1, h2, ?_⟩
    rcases h3 with ⟨s, q, n, z1, z2, h', r, a, b, c, d, e⟩ | ⟨q, n, m, f, z1, z2, a, b, c, d, e⟩
    · exact .inl ⟨s, q, n, z1, z2, h', r, a, b, c, d, e ⟨hw.wg, hw.fin⟩⟩
    · exact .inr ⟨q, n, m, f, z1, z2, a, b, c, fun n' s r h' u v w => d n' s r h' u v w ⟨hw.wg, hw.fin⟩, e ⟨hw.wg, hw.fin⟩⟩)
  spawn := fun _ _ _ _ _ _ _ _ a _ => a.elim
  ghost := fun fr cs h x a hw => C.ghost _ _ _ _ fun hf => let ⟨h1, z, q⟩ := a hf; ⟨h1, z, q hw⟩
  late := fun _ _ _ _ _ _ _ _ _ _ a _ => a.elim

/-- how its body may be left: the two deferred calls stand; it has said that it's over, or it was cut off -/
def goPost (cv : Value) (fR done wg : Nat) : Post (tHand cv) := fun ex t z h x =>
  z = ⟨[{ target := .fn (.func fR) #[], args := #[] }, { target := .fn (.func done) #[], args := #[.pointer (some ⟨wg, 0, none⟩)] }], .panicking [goexitEntry]⟩ ∧
  match ex with
  | .normal => ∃ q, x.ph = .over q ∧ Star [x.g.Fin q] h
  | .ret => ∃ q, x.ph = .over q ∧ Star [x.g.Fin q] h
  | .panic ch => ch = [{ v := cv, recovered := false }] ∧ ∃ q, x.ph = .cut q ∧ Star [x.g.Pv q] h
  | _ => False

instance pass_go {fR done wg : Nat} : Pass (goPost cv fR done wg) ⟨[{ target := .fn (.func fR) #[], args := #[] }, { target := .fn (.func done) #[], args := #[.pointer (some ⟨wg, 0, none⟩)] }], .panicking [goexitEntry]⟩ :=
  ⟨fun ch t h x ⟨q, a, b, c⟩ => ⟨rfl, b, q, a, c⟩⟩

/-- A GOROUTINE's WHOLE RUN -/
theorem go_run {fC fR wg nt : Nat} {fnC : Func} {c : Code} {cap : List Value} {M : List HProp} {x : TX} {h : Hp} (hf : P.funcs[fC]? = some fnC) (hb : fnC.body = some c) (hnt : fnC.ntmps = nt) (hn : cap.length ≤ nt) (hres : fnC.results = #[]) (eC : Enterable P fC) (eR : Enterable P fR) (eD : Enterable P done)
    (hrec : ∀ um h (x : TX) (L : List HProp) (Q : End → FrameMode → Hp → TX → Prop), (um = .returning ∨ um = .panicking [{ v := cv, recovered := false }]) → Star L h → (∀ v um' h', settled um' = .returning → Star L h' → Q (.ret v) um' h' x) → Wf P (tHand cv) fR .deferred #[] um h x Q)
    (hkp : Keeps wg x) (hs : Star M h) (w : We P (tHand cv) .deferred nt c (goPost cv fR done wg) (argE 0 cap) ⟨[], .panicking [goexitEntry]⟩ M x) :
    Nonempty (Run P (tHand cv) false (tEnd P done) (goFr P { target := .fn (.func fC) cap.toArray, args := #[] }) [] h x) := by
  subst hnt
  let S : Frame → List Frame → Hp → TX → Prop := fun fr cs h x => Keeps wg x → Nonempty (Run P (tHand cv) false (tEnd P done) fr cs h x)
  have C : Closed P (tHand cv) false S := keep_closed run_closed
  have hcap : (#[] : Array Value) ++ cap.toArray = cap.toArray := by simp
  -- behind the body
  have last : ∀ (b : Base) t todo h (x : TX), b = ⟨fC, .deferred⟩ → (∃ q, (x.ph = .over q ∨ x.ph = .cut q) ∧ Star [x.g.Fin q] h) →
      S (endFr b t [{ target := .fn (.func done) #[], args := #[.pointer (some ⟨wg, 0, none⟩)] }] todo .returning) [goFr0 P] h x := by
    rintro _ t todo h x rfl hq
    refine go_of C (fr' := Frame.enter P done #[.pointer (some ⟨wg, 0, none⟩)] .deferred) (cs' := endFr ⟨fC, .deferred⟩ t [] todo .returning :: [goFr0 P]) (fun w => ?_) ?_
    · have hr' : (invoke (.fn (.func done) #[]) #[.pointer (some ⟨wg, 0, none⟩)]).runT P w #[] = (.ok (.enter done #[.pointer (some ⟨wg, 0, none⟩)]) w, #[]) := runT_callFunc eD _ w #[]
      have hs : seen P fC #[] = #[] := rfl
      simp only [stepG, G, endFr, unwind, callDeferred, Bool.false_and, hr', hs, GStep.after]; rfl
    · exact fun hwg => ⟨.fin ⟨by rw [hwg.wg], ⟨_, _, 2, rfl, rfl, quits_go hf hres⟩, hq⟩⟩
  have mid : ∀ (b : Base) t todo m h (x : TX), b = ⟨fC, .deferred⟩ → (m = .returning ∨ m = .panicking [{ v := cv, recovered := false }]) → (∃ q, (x.ph = .over q ∨ x.ph = .cut q) ∧ Star [x.g.Fin q] h) →
      S (endFr b t [{ target := .fn (.func fR) #[], args := #[] }, { target := .fn (.func done) #[], args := #[.pointer (some ⟨wg, 0, none⟩)] }] todo m) [goFr0 P] h x := by
    rintro b t todo m h x hb hm ⟨q, hq, hfin⟩
    have := cons_S C (b := b) (k := todo) (cs := [goFr0 P]) (g := fR) (m := m) (um := .panicking [goexitEntry]) (t := t) (h := h) (x := x) (cap := #[]) (args := #[]) (ds := [{ target := .fn (.func done) #[], args := #[.pointer (some ⟨wg, 0, none⟩)] }])
      (by rcases hm with rfl | rfl <;> simp) eR (hrec m h x [x.g.Fin q] _ hm hfin fun v um' h' hset hs' => by
        show S (endFr b t _ todo (settled um')) (setUm (.panicking [goexitEntry]) [goFr0 P]) h' x
        rw [hset]
        exact last b t todo h' x hb ⟨q, hq, hs'⟩)
    exact this
  refine go_of C (fr' := Frame.enter P fC cap.toArray .deferred) (cs' := [goFr0 P]) (fun w => ?_) ?_ hkp
  · have hr' : (invoke (.fn (.func fC) cap.toArray) #[]).runT P w #[] = (.ok (.enter fC cap.toArray) w, #[]) := by
      have := runT_callFunc eC ((#[] : Array Value) ++ cap.toArray) w #[]
      rw [hcap] at this
      show (callFunc fC (#[] ++ cap.toArray)).runT P w #[] = _
      rw [hcap]; exact this
    simp only [stepG, G, goFr, unwind, callDeferred, Bool.false_and, hr', GStep.after]
    rfl
  · have he : Frame.enter P fC cap.toArray .deferred = mkFr ⟨fC, .deferred⟩ (cap.toArray ++ Array.replicate (fnC.ntmps - cap.length) undef) [] [.code c] := by
      simp [Frame.enter, hf, hb, mkFr]
    rw [he]
    have hagr : Agree (argE 0 cap) (cap.toArray ++ Array.replicate (fnC.ntmps - cap.length) undef) := by
      intro i v hi
      obtain ⟨j, h1, h2⟩ := lk_argE cap 0 hi
      obtain rfl : i = j := by omega
      have hlt : i < cap.length := (List.getElem?_eq_some_iff.1 h2).1
      rw [Array.getElem?_append_left (by simpa using hlt)]
      simpa using h2
    have := w _ h (by simp; omega) hagr hs false S C ⟨fC, .deferred⟩ [] [goFr0 P] ⟨rfl, by simp⟩ (fun ex t z h x q => by
      obtain ⟨rfl, q⟩ := q
      cases ex with
      | normal =>
        obtain ⟨q, hq, hfin⟩ := q
        refine go_of C (fr' := endFr ⟨fC, .deferred⟩ t _ [] .returning) (cs' := [goFr0 P]) (fun _ => by simp [stepG, stepG.exec, G, mkFr, endFr, setUm, goFr0]; rfl) ?_
        exact mid ⟨fC, .deferred⟩ t [] .returning h x rfl (.inl rfl) ⟨q, .inl hq, hfin⟩
      | ret => obtain ⟨q, hq, hfin⟩ := q; exact fun todo => mid ⟨fC, .deferred⟩ t todo .returning h x rfl (.inl rfl) ⟨q, .inl hq, hfin⟩
      | panic ch => obtain ⟨rfl, q, hq, hfin⟩ := q; exact fun todo hk => mid ⟨fC, .deferred⟩ t todo _ h x rfl (.inr rfl) ⟨q, .inr hq, star_map hfin (fun h a => hk.fin q h a) (fun _ y => y)⟩ hk
      | exit _ => exact q.elim
      | goto _ => exact q.elim)
    exact this
end
end Go.PB
