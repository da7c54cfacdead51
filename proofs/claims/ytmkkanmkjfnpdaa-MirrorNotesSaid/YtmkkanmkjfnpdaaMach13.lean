/-
  patchbayref00's Play: turns.
-/
import Derived.Test.YtmkkanmkjfnpdaaMach12
set_option linter.unusedVariables false
set_option linter.unusedSimpArgs false
namespace Go.Proofs.Ytmkkanmkjfnpdaa
open Go Go.PB
attribute [local irreducible] Mo Bin Eql Tr Wo Ap

/-- where a thread stands that was brought on -/
def Stands (t : Mach.Th) : Prop := t.over = true ∨ Mach.told t.next.op = true ∧ t.call < t.calls.length

theorem onF_stands : ∀ {f : Nat} {t t' : Mach.Th}, Mach.onF f t = some t' → Stands t' := by
  intro f
  induction f with
  | zero => intro t t' h; cases h
  | succ f ih =>
    intro t t' h
    unfold Mach.onF at h
    split at h
    · cases h; exact .inl (by assumption)
    split at h
    · cases h; exact .inl rfl
    split at h
    · cases h
      rename_i h2 h3
      refine .inr ⟨h3, ?_⟩
      unfold Mach.Th.begun
      split <;> exact Nat.lt_of_not_le h2
    split at h
    · exact ih h
    · exact ih h

theorem Good.mono {cs : List Mach.Cl} {t : Mach.Th} {k k' : Nat} (g : Good cs t k) (h : k' ≤ k) : Good cs t k' :=
  ⟨g.calls, g.ok, g.len, g.pc, g.call, g.ans1, g.ans2, fun y hy => by have := g.room y hy; omega⟩

/-- threads in the middle of a play -/
structure PlayOk (f : Nat) (s : Mach.St) (q : List (PT × Mach.Th)) : Prop where
  l : q.map (·.2) = s.l
  tr : s.tr.length ≤ 16384
  good : ∀ y ∈ q, Good y.1.cs y.2 ((16384 - s.tr.length) * (f + 1))
  st : ∀ y ∈ q, Stands y.2

theorem opF_good {cs : List Mach.Cl} {f k : Nat} {w w' : Mach.Wd} {t t' : Mach.Th} (hlt : t.call < cs.length) (g : Good cs t (k + (f + 1))) (hk : k + (f + 1) < 1000000000) (h0 : Mach.told t.next.op = true) (h : Mach.opF f w t = some (w', t')) : Good cs t' k ∧ Stands t' := by
  unfold Mach.opF at h
  split at h
  · dsimp only at h
    cases h1 : Mach.onF f { t with pc := t.pc + 1, r := (Mach.op1 t.next (w.row t.next.on) t.place t.r).2 } with
    | none => rw [h1] at h; cases h
    | some t1 =>
      rw [h1] at h
      simp only [Option.map_some, Option.some.injEq, Prod.mk.injEq] at h
      obtain ⟨_, rfl⟩ := h
      have hpc : t.pc + 1 < 1000000 := by
        rcases g.next hlt with h | ⟨_, h⟩
        · rw [h] at h0; cases h0
        · exact h
      refine ⟨Good.onF (t := { t with pc := t.pc + 1, r := (Mach.op1 t.next (w.row t.next.on) t.place t.r).2 }) (k := k) (f := f) ⟨g.calls, g.ok, g.len, hpc, g.call, g.ans1, g.ans2, fun y hy => by have := g.room y hy; omega⟩ (by omega) h1, onF_stands h1⟩
  · cases h

theorem turn_ok {f k : Nat} {s s' : Mach.St} {q : List (PT × Mach.Th)} {pt : PT} {t : Mach.Th} (p : PlayOk f s q) (hf : 16384 * (f + 1) + f < 1000000000) (hq : q[k]? = some (pt, t)) (hlt : s.tr.length < 16384) (ho : t.over = false) (h : Mach.turn f s k = some s') :
    ∃ w' t', Mach.opF f s.w t = some (w', t') ∧ s' = ⟨w', s.l.set k t', s.tr ++ [(k, t.mark)]⟩ ∧ PlayOk f s' (q.set k (pt, t')) ∧ Good pt.cs t (f + 1) ∧ t.call < pt.cs.length ∧ Mach.told t.next.op = true := by
  have hm := List.mem_of_getElem? hq
  have g := p.good _ hm
  have hst : Mach.told t.next.op = true ∧ t.call < t.calls.length := by
    rcases p.st _ hm with h | h
    · rw [ho] at h; cases h
    · exact h
  have hcl : t.calls = pt.cs := g.calls
  rw [hcl] at hst
  have hl : s.l[k]? = some t := by rw [← p.l, List.getElem?_map, hq]; rfl
  have e1 : (16384 - s.tr.length) * (f + 1) = (16384 - (s.tr.length + 1)) * (f + 1) + (f + 1) := by
    rw [← Nat.succ_mul]; congr 1; omega
  have e2 : (16384 - s.tr.length) * (f + 1) ≤ 16384 * (f + 1) := Nat.mul_le_mul_right _ (by omega)
  unfold Mach.turn at h
  rw [hl] at h
  dsimp only at h
  cases ho1 : Mach.opF f s.w t with
  | none => rw [ho1] at h; cases h
  | some y =>
    obtain ⟨w', t'⟩ := y
    rw [ho1] at h
    cases h
    have g' : Good pt.cs t ((16384 - (s.tr.length + 1)) * (f + 1) + (f + 1)) := by rw [← e1]; exact g
    obtain ⟨g2, st2⟩ := opF_good hst.2 g' (by omega) hst.1 ho1
    refine ⟨w', t', rfl, rfl, ⟨?_, ?_, ?_, ?_⟩, g.mono (by omega), hst.2, hst.1⟩
    · show (q.set k (pt, t')).map (·.2) = s.l.set k t'
      rw [List.map_set, p.l]
    · show (s.tr ++ [(k, t.mark)]).length ≤ 16384
      simp; omega
    · intro y hy
      show Good y.1.cs y.2 ((16384 - (s.tr ++ [(k, t.mark)]).length) * (f + 1))
      rw [List.length_append, List.length_cons, List.length_nil]
      rcases List.mem_or_eq_of_mem_set hy with h | rfl
      · exact (p.good y h).mono (by show (16384 - (s.tr.length + 1)) * (f + 1) ≤ _; omega)
      · exact g2
    · intro y hy
      rcases List.mem_or_eq_of_mem_set hy with h | rfl
      · exact p.st y h
      · exact st2

theorem byOrder_full {f : Nat} {s : Mach.St} (h : 16384 ≤ s.tr.length) : ∀ o, Mach.byOrder f s o = some s := by
  intro o
  induction o with
  | nil => rfl
  | cons k o ih =>
    cases k with
    | none => exact ih
    | some k =>
      unfold Mach.byOrder
      rw [if_neg (by unfold Mach.may; simp; intro h1; omega)]
      exact ih

theorem may_true {s : Mach.St} {k : Nat} {t : Mach.Th} (h1 : s.tr.length < 16384) (h2 : s.l[k]? = some t) (h3 : t.over = false) : Mach.may s k = true := by
  unfold Mach.may; rw [h2]; simp [h1, h3]
theorem may_over {s : Mach.St} {k : Nat} {t : Mach.Th} (h2 : s.l[k]? = some t) (h3 : t.over = true) : Mach.may s k = false := by
  unfold Mach.may; rw [h2]; simp [h3]
theorem may_none {s : Mach.St} {k : Nat} (h2 : s.l[k]? = none) : Mach.may s k = false := by
  unfold Mach.may; rw [h2]; simp
theorem may_full {s : Mach.St} {k : Nat} (h : 16384 ≤ s.tr.length) : Mach.may s k = false := by
  unfold Mach.may; simp; intro h1; omega

/-- ahead of place i of the order -/
def playInv3 {B : Hand} (b6 b8 wb pb : Nat) (ov tv lv : Value) (pts : List PT) (f : Nat) (oN : List (Option Nat)) (s1 : Mach.St) (x : B.X) (F : List HProp) : Inv (Nat × Value × Mach.St × List (PT × Mach.Th)) B.X where
  e := fun i => [(1, ov), (2, tv), (6, .pointer (some ⟨b6, 0, none⟩)), (8, .pointer (some ⟨b8, 0, none⟩)), (9, .pointer (some ⟨wb, 0, none⟩)), (10, lv), (13, .pointer (some ⟨pb, 0, none⟩)), (14, .int .i64 (i.1 : Nat))]
  L := fun i => arr pb 0 [i.2.1, .slice none 0 0] :: vec 3 i.2.1 (i.2.2.1.tr.map trC).flatten :: vec 1 lv (i.2.2.2.map ptrK) :: all (i.2.2.2.map thK) :: wdC wb i.2.2.1.w :: F
  x := fun _ => x
  ok := fun i => i.1 ≤ oN.length ∧ Mach.byOrder f i.2.2.1 (oN.drop i.1) = some s1 ∧ i.2.2.2.map (·.1) = pts ∧ PlayOk f i.2.2.1 i.2.2.2

/-- between the order and the rounds, and behind them -/
def playMid {B : Hand} (b6 b8 wb pb : Nat) (ov tv lv : Value) (pts : List PT) (f : Nat) (s : Mach.St) (x : B.X) (F : List HProp) : Inv (Value × List (PT × Mach.Th)) B.X where
  e := fun _ => [(1, ov), (2, tv), (6, .pointer (some ⟨b6, 0, none⟩)), (8, .pointer (some ⟨b8, 0, none⟩)), (9, .pointer (some ⟨wb, 0, none⟩)), (10, lv), (13, .pointer (some ⟨pb, 0, none⟩))]
  L := fun i => arr pb 0 [i.1, .slice none 0 0] :: vec 3 i.1 (s.tr.map trC).flatten :: vec 1 lv (i.2.map ptrK) :: all (i.2.map thK) :: wdC wb s.w :: F
  x := fun _ => x
  ok := fun i => i.2.map (·.1) = pts ∧ PlayOk f s i.2

variable {B : Hand} [Lets B] {L F G : List HProp} {x : B.X}

theorem tr_len {l : List (Nat × Nat × Nat)} {n : Nat} (h : (l.map trC).flatten.length = n * 3) : n = l.length := by
  rw [flat_len (k := 3) (fun _ => rfl)] at h; omega

end Go.Proofs.Ytmkkanmkjfnpdaa
