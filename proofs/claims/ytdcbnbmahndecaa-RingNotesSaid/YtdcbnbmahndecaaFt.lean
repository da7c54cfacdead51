/-
  FOUNDATION, PART 18. A drawn region in which one operation that acts hangs on none of the others ('ap_fork'): it may come first, or not. No program is in sight.
-/
import Derived.Test.YtdcbnbmahndecaaFs
set_option linter.unusedVariables false
set_option linter.unusedSimpArgs false
namespace Go.PB

section
variable {P : Program} {B : Hand} {kd : CallKind} {n : Nat} {ops : Array Oper} {ord R : List Nat} {Pd : List Pn} {K : Post B} {e : Env} {z : Z} {L : List HProp} {x : B.X}

variable (P B kd n) in
/-- the same, where i comes first -/
def Ap1 (ops : Array Oper) (ord : List Nat) (i : Nat) (R : List Nat) (Pd : List Pn) (K : Post B) (e : Env) (z : Z) (L : List HProp) (x : B.X) : Prop :=
  (∃ pre, ord = pre ++ i :: R ∧ ∀ p ∈ Pd, p.i ∈ pre) → OkO n ops ord → (∀ p ∈ Pd, PdOk P n ops L p) → ∀ idx t h, InvA n ops (i :: R) Pd e (i :: idx) t → Star L h → Wr P B kd ops (i :: idx) K t z h x

/-- one of two comes first -/
theorem ap_fork [Lets B] {i f : Nat} {ord' : List Nat} (hdom : (R.all fun j => j == f || (anc ops ops.size j).contains i) = true) (hf : R.contains f = true) (hord : ord' = (ord.takeWhile fun q => !(q == i)) ++ f :: i :: R.erase f) (hok : okOrd n ops ord' = true)
    (a : Ap1 P B kd n ops ord i R Pd K e z L x) (b : Ap1 P B kd n ops ord' f (i :: R.erase f) Pd K e z L x) : Ap P B kd n ops ord (i :: R) Pd K e z L x := by
  rintro ⟨pre, hpre, hin⟩ ok hpd
  have hfR : f ∈ R := by simpa using hf
  refine ap_run ok hpd (fun t h I s => ?_) (fun j idx t h hj I s => ?_)
  · have := I.all i (by simp); simp at this
  · have hnd : (pre ++ i :: R).Nodup := hpre ▸ ok.nd
    have htw : ord.takeWhile (fun q => !(q == i)) = pre := by rw [hpre]; exact takeWhile_pre hnd
    have hnd2 := List.nodup_cons.1 (List.nodup_append.1 hnd).2.1
    by_cases hji : j = i
    · subst hji
      exact a ⟨pre, hpre, hin⟩ ok hpd idx t h I s
    · have hjf : j = f := by
        rcases List.mem_cons.1 hj with h1 | h1
        · exact absurd h1 hji
        · have := (List.all_eq_true.1 hdom) j h1
          simp only [Bool.or_eq_true, beq_iff_eq, List.contains_eq_mem, decide_eq_true_eq] at this
          rcases this with h2 | h2
          · exact h2
          · exact absurd (I.all i (by simp)) (I.first ok h2)
      subst hjf
      have hmem : ∀ y, (y ∈ j :: i :: R.erase j) ↔ y ∈ i :: R := by
        intro y
        simp only [List.mem_cons, hnd2.2.mem_erase_iff]
        constructor
        · rintro (rfl | rfl | ⟨_, h⟩)
          · exact .inr hfR
          · exact .inl rfl
          · exact .inr h
        · rintro (rfl | h)
          · exact .inr (.inl rfl)
          · by_cases e : y = j
            · exact .inl e
            · exact .inr (.inr ⟨e, h⟩)
      refine b ⟨pre, by rw [hord, htw], hin⟩ (okOrd_ok hok) hpd idx t h ⟨I.sz, I.nd, I.lt, fun q hq => ?_, fun q hq => I.all q ((hmem q).1 hq), fun p hp hh => I.dj p hp ((hmem _).1 hh), I.pu, I.resp, I.dn, I.envok, I.pok⟩ s
      rcases I.sub q hq with h1 | h1
      · exact .inl ((hmem q).2 h1)
      · exact .inr h1

theorem ap1_gen [Lets B] {i : Nat} {o : Oper} (ho : ops[i]? = some o) (hg : gYes (resE (readsOf n ops i) e) (guardOf n ops o))
    (w : ∀ idx t h, t.size = n → Agree (resE (readsOf n ops i) e) t → Star L h → Region.wanted o (yielded ops t) = true →
      (∀ v L' x' h', Star L' h' → (∀ p ∈ pdKeep ops i Pd, PdOk P n ops L p → PdOk P n ops L' p) → Ap P B kd n ops ord R (pdKeep ops i Pd) K (setE o.dst v e) z L' x' → Wr P B kd ops idx K (setDst o t v) z h' x') → Wr P B kd ops (i :: idx) K t z h x) : Ap1 P B kd n ops ord i R Pd K e z L x := by
  rintro ⟨pre, hpre, hin⟩ ok hpd idx t h I s
  obtain ⟨ha, _⟩ := I.loud ok hpre hin ho undef
  refine w idx t h I.sz ha s (wanted_yes' I.sz ha hg) fun v L' x' h' s' hst hap => ?_
  obtain ⟨_, I'⟩ := I.loud ok hpre hin ho v
  exact hap ⟨pre ++ [i], by rw [hpre]; simp, fun p hp => by simp [hin p (List.mem_filter.1 hp).1]⟩ ok (fun p hp => hst p hp (hpd p (List.mem_filter.1 hp).1)) idx _ h' I' s'

theorem ap1_mo [Lets B] {i : Nat} {o : Oper} {d : Option Nat} {Pd' : List Pn} {Q : Value → List HProp → Prop} (ho : nth ops.toList i = some o) (hd : o.dst = d) (hpd' : pdKeep ops i Pd = Pd') (hg : gYes (resE (readsOf n ops i) e) (guardOf n ops o))
    (m : Mo P (resE (readsOf n ops i) e) o.op o.type L Q) (hre : ∀ v L', Q v L' → ∀ p ∈ Pd', p.st = true ∨ ∃ o, nth ops.toList p.i = some o ∧ gYes p.e (guardOf n ops o) ∧ Mo P p.e o.op o.type L' (fun v' L1 => v' = p.v ∧ L1 = L'))
    (k : ∀ v L', Q v L' → Ap P B kd n ops ord R Pd' K (setE d v e) z L' x) : Ap1 P B kd n ops ord i R Pd K e z L x := by
  subst hd
  subst hpd'
  have ho := nth_at ho
  refine ap1_gen ho hg fun idx t h ht ha s hw kk => ?_
  refine wr_op ho hw ?_
  rw [execOp_of (op := o.op) (ty := o.type) _ rfl rfl]
  refine m _ Lets.noRoom Lets.ext t h _ _ ha s fun v' L' h' nx hnx hr hs => ?_
  have := kk v' L' x h' hs (fun p hp hk => by
    by_cases hs : p.st = true
    · exact pd_still (Pd' := [p]) (by simp [hs]) p (by simp) hk
    · rcases hre v' L' hr p hp with h | ⟨o, h1, h2, h3⟩
      · exact absurd h hs
      · exact ⟨o, nth_at h1, .inl ⟨h2, by rw [if_neg hs]; exact h3⟩⟩) (k v' L' hr)
  rcases hnx with rfl | ⟨rfl, rfl⟩
  · exact this
  · exact this

theorem ap1_call [Lets B] {i : Nat} {Pd' : List Pn} {d : Option Nat} {fo : Operand} {args : List Operand} {tys : Array TypeId} {ty : TypeId} {pos : String} {aft : Array Edge} {gd : Option (Nat × Bool)} {fv : Value} {f : FuncId} {first cap vs : List Value} {Q : Value → List HProp → B.X → Prop} (ho : nth ops.toList i = some ⟨d, .call ⟨.value fo, args.toArray, tys⟩, ty, pos, aft, gd⟩)
    (hpd' : pdKeep ops i Pd = Pd') (hg : gYes (resE (readsOf n ops i) e) (guardOf n ops ⟨d, .call ⟨.value fo, args.toArray, tys⟩, ty, pos, aft, gd⟩))
    (hf : ev (resE (readsOf n ops i) e) fo = some fv) (hc : callee? fv = some (f, first, cap)) (hargs : EvL (resE (readsOf n ops i) e) args vs) [en : Ent' P f] (m : Tr P B f (first ++ vs ++ cap) L x Q)
    (hre : ∀ v L' x', Q v L' x' → ∀ p ∈ Pd', p.st = true ∨ ∃ o, nth ops.toList p.i = some o ∧ gYes p.e (guardOf n ops o) ∧ Mo P p.e o.op o.type L' (fun v' L1 => v' = p.v ∧ L1 = L'))
    (k : ∀ v L' x', Q v L' x' → Ap P B kd n ops ord R Pd' K (setE d v e) z L' x') : Ap1 P B kd n ops ord i R Pd K e z L x := by
  subst hpd'
  have ho := nth_at ho
  refine ap1_gen ho hg fun idx t h ht ha s hw kk => ?_
  refine wr_op ho hw ?_
  have hfv : evT t fo = fv := ha.ev hf
  have hav := hargs.evT ha
  have hex : execOp (evT t) ⟨d, .call ⟨.value fo, args.toArray, tys⟩, ty, pos, aft, gd⟩ = callFunc f (first ++ vs ++ cap).toArray := by
    show (do let d ← resolve (evT t) ⟨.value fo, args.toArray, tys⟩ ty; invoke d.target d.args : Sem Next) = _
    cases fv with
    | func fn fi ca =>
      cases fn with
      | func g =>
        simp only [callee?, Option.some.injEq, Prod.mk.injEq] at hc
        obtain ⟨rfl, rfl, rfl⟩ := hc
        simp only [resolve, hfv, Deferred.ofValue, List.map_toArray, hav]
        show callFunc g ((fi ++ vs.toArray) ++ ca) = _
        congr 1
        apply Array.ext'
        simp
      | _ => cases hc
    | _ => cases hc
  rw [hex]
  refine wpS_callFunc en.ok ?_
  refine m h .run _ s fun v L' x' h' r s' => ⟨rfl, ?_⟩
  exact kk v L' x' h' s' (fun p hp hk => by
    by_cases hs : p.st = true
    · exact pd_still (Pd' := [p]) (by simp [hs]) p (by simp) hk
    · rcases hre v L' x' r p hp with h | ⟨o, h1, h2, h3⟩
      · exact absurd h hs
      · exact ⟨o, nth_at h1, .inl ⟨h2, by rw [if_neg hs]; exact h3⟩⟩) (k v L' x' r)

/-- the chunks in another order -/
theorem ap_star {L' : List HProp} (hs : ∀ h, Star L h → Star L' h) (hre : ∀ p ∈ Pd, p.st = true ∨ ∃ o, nth ops.toList p.i = some o ∧ gYes p.e (guardOf n ops o) ∧ Mo P p.e o.op o.type L' (fun v' L1 => v' = p.v ∧ L1 = L')) (k : Ap P B kd n ops ord R Pd K e z L' x) : Ap P B kd n ops ord R Pd K e z L x := by
  intro hpre ok hpd idx t h I s
  refine k hpre ok (fun p hp => ?_) idx t h I (hs h s)
  by_cases hst : p.st = true
  · exact pd_still (Pd' := [p]) (by simp [hst]) p (by simp) (hpd p hp)
  · rcases hre p hp with h | ⟨o, h1, h2, h3⟩
    · exact absurd h hst
    · exact ⟨o, nth_at h1, .inl ⟨h2, by rw [if_neg hst]; exact h3⟩⟩
end
end Go.PB
