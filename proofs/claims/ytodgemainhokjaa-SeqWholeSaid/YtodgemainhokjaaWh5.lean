/-
  Part 5 of 7.
-/
import Derived.Test.YtodgemainhokjaaWh4
import Derived.Test.YtodgemainhokjaaWh3
import Derived.Test.YtodgemainhokjaaWh2
import Derived.Conc.WgGenN2
set_option linter.unusedVariables false
set_option linter.unusedSimpArgs false
namespace Go.Proofs.Ytodgemainhokjaa
open Go Go.PB
section
def SlkQ.writes {π : Type} (q : SlkQ π) : Bool := match q.st with | .wr _ _ => true | _ => false
def slkLast (xs : List Nat) : Nat := xs.getLast?.getD 0
def SlkT (D : Slk) (X : Nat → Prop) (s : SlkS D.ζ) (q : SlkQ D.π) : Prop :=
 (∀ x, some x ∈ q.ops → X x) ∧ match q.st with
 | .idle => True
 | .cas v => v % 2 = 0
 | .wr v j => j ≤ D.n
 | .rd v j acc => j ≤ D.n ∧ v % 2 = 0 ∧ v ≤ 2 * (s.xs.length - 1) ∧ (s.ver = v → acc = (List.range j).map (D.W (slkLast s.xs)))
def SlkV (D : Slk) (s : SlkS D.ζ) (qs : List (SlkQ D.π)) : Prop :=
 (s.ver = 2 * (s.xs.length - 1) ∧ (∀ j, j < D.n → s.ws j = D.W (slkLast s.xs) j) ∧ ∀ (k : Nat) q, qs[k]? = some q → q.writes = false) ∨
 (s.ver = 2 * (s.xs.length - 1) + 1 ∧ ∃ (k : Nat) (x : Nat) (rest : List (Option Nat)) (j : Nat) (p : D.π), qs[k]? = some ⟨some x :: rest, .wr (2 * (s.xs.length - 1)) j, p⟩ ∧ (∀ i, i < j → s.ws i = D.W x i) ∧ ∀ (k' : Nat) q, qs[k']? = some q → k' ≠ k → q.writes = false)
structure SlkI (D : Slk) (X : Nat → Prop) (J : Nat → List Nat → D.ζ → List D.π → Prop) (m : Nat) (s : SlkS D.ζ) (qs : List (SlkQ D.π)) : Prop where
 lo : 1 ≤ s.xs.length
 hi : s.xs.length ≤ m + 1
 V : SlkV D s qs
 T : ∀ (k : Nat) q, qs[k]? = some q → SlkT D X s q
 J : J m s.xs s.z (qs.map (·.p))
def slkφ (n : Nat) {π : Type} (q : SlkQ π) : Nat := q.ops.length * (n + 4) - match q.st with | .idle => 0 | .cas _ => 1 | .wr _ j => 2 + j | .rd _ j _ => 1 + j
theorem set_get {α : Type} {l : List α} {k : Nat} {a b : α} (h : l[k]? = some a) : (l.set k b)[k]? = some b := by
 rw [List.getElem?_set_self (List.getElem?_eq_some_iff.1 h).1]
theorem set_cases {α : Type} {l : List α} {k j : Nat} {b c : α} (h : (l.set k b)[j]? = some c) : (j = k ∧ c = b) ∨ (j ≠ k ∧ l[j]? = some c) := by
 rw [List.getElem?_set] at h
 split at h
 ·split at h
  ·cases h; exact .inl ⟨by omega, rfl⟩
  ·cases h
 ·exact .inr ⟨by omega, h⟩
section
variable {D : Slk} {X : Nat → Prop} {s s' : SlkS D.ζ} {qs : List (SlkQ D.π)} {k : Nat} {q q' : SlkQ D.π}
theorem slkV_keep (h : SlkV D s qs) (hq : qs[k]? = some q) (h1 : q.writes = false) (h2 : q'.writes = false) (e1 : s'.ver = s.ver) (e2 : s'.ws = s.ws) (e3 : s'.xs = s.xs) : SlkV D s' (qs.set k q') := by
 rcases h with ⟨a, b, c⟩ | ⟨a, kw, x, rest, j, p, b, c, d⟩
 ·refine .inl ⟨by rw [e1, e3]; exact a, fun j hj => by rw [e2, e3]; exact b j hj, fun j q hj => ?_⟩
  rcases set_cases hj with ⟨_, rfl⟩ | ⟨_, h⟩
  ·exact h2
  ·exact c j q h
 ·have hne : kw ≠ k := fun e => by subst e; rw [hq] at b; cases b; cases h1
  refine .inr ⟨by rw [e1, e3]; exact a, kw, x, rest, j, p, ?_, fun i hi => by rw [e2]; exact c i hi, fun j q hj hj2 => ?_⟩
  ·rw [List.getElem?_set_ne hne.symm, e3]; exact b
  ·rcases set_cases hj with ⟨_, rfl⟩ | ⟨_, h⟩
   ·exact h2
   ·exact d j q h hj2
theorem slkT_set (h : ∀ (k : Nat) q, qs[k]? = some q → SlkT D X s q) (hs : ∀ q, SlkT D X s q → SlkT D X s' q) (h' : SlkT D X s' q') : ∀ (j : Nat) q, (qs.set k q')[j]? = some q → SlkT D X s' q := fun j q hj => by
 rcases set_cases hj with ⟨_, rfl⟩ | ⟨_, h2⟩
 ·exact h'
 ·exact hs q (h j q h2)
theorem slkT_of (hx : s'.xs.length ≥ s.xs.length) (hv : ∀ v, v % 2 = 0 → v ≤ 2 * (s.xs.length - 1) → s'.ver = v → s'.ver = s.ver ∧ s'.xs = s.xs) : SlkT D X s q → SlkT D X s' q := by
 rintro ⟨h0, h⟩
 refine ⟨h0, ?_⟩
 split
 ·trivial
 ·rename_i v e; rw [e] at h; exact h
 ·rename_i v j e; rw [e] at h; exact h
 ·rename_i v j acc e
  rw [e] at h
  obtain ⟨a, b, c, d⟩ := h
  refine ⟨a, b, by omega, fun hv' => ?_⟩
  obtain ⟨e1, e2⟩ := hv v b c hv'
  rw [e2]
  exact d (by rw [← e1]; exact hv')
end
set_option maxHeartbeats 1000000 in
theorem slk_step {D : Slk} {X : Nat → Prop} {J : Nat → List Nat → D.ζ → List D.π → Prop} {m : Nat} (hm : m < 1000000000)
  (hM : ∀ xs z πs, J m xs z πs → J (m + 1) xs z πs)
  (hW : ∀ (xs : List Nat) z πs (k : Nat) p x, J m xs z πs → πs[k]? = some p → 1 ≤ xs.length → xs.length ≤ m + 1 → X x → J (m + 1) (xs ++ [x]) (D.onW x (2 * xs.length) p z).1 (πs.set k (D.onW x (2 * xs.length) p z).2))
  (hR : ∀ (xs : List Nat) z πs (k : Nat) p x, J m xs z πs → πs[k]? = some p → 1 ≤ xs.length → xs.length ≤ m + 1 → xs.getLast? = some x → J (m + 1) xs (D.onR (D.words x) (2 * (xs.length - 1)) p z).1 (πs.set k (D.onR (D.words x) (2 * (xs.length - 1)) p z).2))
  {s : SlkS D.ζ} {qs : List (SlkQ D.π)} (I : SlkI D X J m s qs) {k : Nat} {q : SlkQ D.π} (hq : qs[k]? = some q) {mk : Int × Int} {f : SlkS D.ζ → SlkS D.ζ × SlkQ D.π} (hp : slkPlan D q = some (mk, f)) :
  SlkI D X J (m + 1) (f s).1 (qs.set k (f s).2) ∧ sumN ((qs.set k (f s).2).map (slkφ D.n)) + 1 ≤ sumN (qs.map (slkφ D.n)) := by
 obtain ⟨lo, hi, V, T, hJ⟩ := I
 have hT := T k q hq
 have hpk : (qs.map (·.p))[k]? = some q.p := by rw [List.getElem?_map, hq]; rfl
 have hJk : ∀ q' : SlkQ D.π, q'.p = q.p → J (m + 1) s.xs s.z ((qs.set k q').map (·.p)) := fun q' e => by
  have : (qs.set k q').map (·.p) = qs.map (·.p) := by
   rw [List.map_set, e]
   apply List.ext_getElem?
   intro i
   rw [List.getElem?_set]
   split
   ·rename_i h; subst h
    rw [hpk]
    have := (List.getElem?_eq_some_iff.1 hq).1
    simp [this]
   ·rfl
  rw [this]; exact hM _ _ _ hJ
 have same : ∀ q, SlkT D X s q → SlkT D X s q := fun q h => h
 obtain ⟨ops, st, p⟩ := q
 obtain ⟨hX, hst⟩ := hT
 unfold slkPlan at hp
 cases ops with
 | nil => cases hp
 | cons o rest =>
  have hXr : ∀ x, some x ∈ rest → X x := fun x hx => hX x (List.mem_cons_of_mem _ hx)
  have hlen : ((o :: rest : List (Option Nat)).length) * (D.n + 4) = rest.length * (D.n + 4) + (D.n + 4) := by rw [List.length_cons, Nat.add_mul]; omega
  cases o with
  | some x =>
   cases st with
   | idle =>
    simp only [Option.some.injEq, Prod.mk.injEq] at hp
    obtain ⟨_, rfl⟩ := hp
    by_cases c : s.ver % 2 = 0
    ·simp only [if_pos c]
     refine ⟨⟨lo, by omega, slkV_keep V hq rfl rfl rfl rfl rfl, slkT_set T same ⟨hX, c⟩, hJk _ rfl⟩, sum_step (fun _ => Nat.le_refl _) hq ?_⟩
     simp only [slkφ]; omega
    ·simp only [if_neg c]
     refine ⟨⟨lo, by omega, slkV_keep V hq rfl rfl rfl rfl rfl, slkT_set T same ⟨hXr, trivial⟩, hJk _ rfl⟩, sum_step (fun _ => Nat.le_refl _) hq ?_⟩
     simp only [slkφ]; omega
   | cas v =>
    simp only [Option.some.injEq, Prod.mk.injEq] at hp
    obtain ⟨_, rfl⟩ := hp
    replace hst : v % 2 = 0 := hst
    by_cases c : s.ver = v
    ·simp only [if_pos c]
     have hev : s.ver = 2 * (s.xs.length - 1) ∧ ∀ (k : Nat) q, qs[k]? = some q → q.writes = false := by
      rcases V with ⟨a, _, b⟩ | ⟨a, _⟩
      ·exact ⟨a, b⟩
      ·omega
     have hmod : (v + 1) % 18446744073709551616 = v + 1 := Nat.mod_eq_of_lt (by omega)
     rw [hmod]
     refine ⟨⟨lo, by show s.xs.length ≤ m + 1 + 1; omega, ?_, slkT_set T (fun q => slkT_of (Nat.le_refl _) fun u h1 h2 h3 => by simp only at h3; omega) ⟨hX, Nat.zero_le _⟩, hJk _ rfl⟩, sum_step (fun _ => Nat.le_refl _) hq ?_⟩
     ·refine .inr ⟨by show v + 1 = 2 * (s.xs.length - 1) + 1; omega, k, x, rest, 0, p, ?_, fun i hi => by omega, fun k' q' h1 h2 => ?_⟩
      ·rw [set_get hq]
       have : v = 2 * (s.xs.length - 1) := by omega
       rw [this]
      ·rcases set_cases h1 with ⟨e, _⟩ | ⟨_, h⟩
       ·exact absurd e h2
       ·exact hev.2 k' q' h
     ·simp only [slkφ]; omega
    ·simp only [if_neg c]
     refine ⟨⟨lo, by omega, slkV_keep V hq rfl rfl rfl rfl rfl, slkT_set T same ⟨hXr, trivial⟩, hJk _ rfl⟩, sum_step (fun _ => Nat.le_refl _) hq ?_⟩
     simp only [slkφ]; omega
   | wr v j =>
    replace hst : j ≤ D.n := hst
    have hodd : s.ver = 2 * (s.xs.length - 1) + 1 ∧ v = 2 * (s.xs.length - 1) ∧ (∀ i, i < j → s.ws i = D.W x i) ∧ ∀ (k' : Nat) q, qs[k']? = some q → k' ≠ k → q.writes = false := by
     rcases V with ⟨_, _, b⟩ | ⟨a, kw, x', rest', j', p', b, c, d⟩
     ·have := b k _ hq; cases this
     ·by_cases e : kw = k
      ·subst e
       rw [hq] at b
       cases b
       exact ⟨a, rfl, c, d⟩
      ·have := d k _ hq fun h => e h.symm
       cases this
    obtain ⟨h1, h2, h3, h4⟩ := hodd
    by_cases c : j < D.n
    ·simp only [if_pos c, Option.some.injEq, Prod.mk.injEq] at hp
     obtain ⟨_, rfl⟩ := hp
     refine ⟨⟨lo, by show s.xs.length ≤ m + 1 + 1; omega, .inr ⟨h1, k, x, rest, j + 1, p, ?_, fun i hi => ?_, fun k' q' h5 h6 => ?_⟩, slkT_set T (fun q => slkT_of (Nat.le_refl _) fun u h5 h6 h7 => by simp only at h7; omega) ⟨hX, by show j + 1 ≤ D.n; omega⟩, hJk _ rfl⟩, sum_step (fun _ => Nat.le_refl _) hq ?_⟩
     ·rw [set_get hq, h2]
     ·show upd s.ws j (D.W x j) i = _
      by_cases e : i = j
      ·subst e; exact upd_same
      ·rw [upd_other e]; exact h3 i (by omega)
     ·rcases set_cases h5 with ⟨e, _⟩ | ⟨_, h⟩
      ·exact absurd e h6
      ·exact h4 k' q' h h6
     ·simp only [slkφ]; omega
    ·obtain rfl : j = D.n := by omega
     simp only [if_neg c, Option.some.injEq, Prod.mk.injEq] at hp
     obtain ⟨_, rfl⟩ := hp
     have hmod : (v + 2) % 18446744073709551616 = 2 * s.xs.length := by rw [Nat.mod_eq_of_lt (by omega)]; omega
     have hlast : slkLast (s.xs ++ [x]) = x := by simp [slkLast]
     simp only [hmod]
     refine ⟨⟨by show 1 ≤ (s.xs ++ [x]).length; simp, by show (s.xs ++ [x]).length ≤ m + 1 + 1; simp; omega, .inl ⟨by show 2 * s.xs.length = 2 * ((s.xs ++ [x]).length - 1); simp, fun i hi => ?_, fun k' q' h5 => ?_⟩, slkT_set T (fun q => slkT_of (by show (s.xs ++ [x]).length ≥ _; simp) fun u h5 h6 h7 => by simp only at h7; omega) ⟨hXr, trivial⟩, ?_⟩, sum_step (fun _ => Nat.le_refl _) hq ?_⟩
     ·show s.ws i = D.W (slkLast (s.xs ++ [x])) i
      rw [hlast]; exact h3 i hi
     ·rcases set_cases h5 with ⟨_, rfl⟩ | ⟨h6, h⟩
      ·rfl
      ·exact h4 k' q' h h6
     ·show J (m + 1) (s.xs ++ [x]) _ _
      rw [List.map_set]
      exact hW s.xs s.z _ k p x hJ hpk lo hi (hX x (by simp))
     ·simp only [slkφ]; omega
   | rd v j acc => cases hp
  | none =>
   cases st with
   | idle =>
    simp only [Option.some.injEq, Prod.mk.injEq] at hp
    obtain ⟨_, rfl⟩ := hp
    by_cases c : s.ver % 2 = 0
    ·simp only [if_pos c]
     have hle : s.ver ≤ 2 * (s.xs.length - 1) := by
      rcases V with ⟨a, _⟩ | ⟨a, _⟩ <;> omega
     refine ⟨⟨lo, by omega, slkV_keep V hq rfl rfl rfl rfl rfl, slkT_set T same ⟨hX, Nat.zero_le _, c, hle, fun _ => rfl⟩, hJk _ rfl⟩, sum_step (fun _ => Nat.le_refl _) hq ?_⟩
     simp only [slkφ]; omega
    ·simp only [if_neg c]
     refine ⟨⟨lo, by omega, slkV_keep V hq rfl rfl rfl rfl rfl, slkT_set T same ⟨hXr, trivial⟩, hJk _ rfl⟩, sum_step (fun _ => Nat.le_refl _) hq ?_⟩
     simp only [slkφ]; omega
   | rd v j acc =>
    obtain ⟨t1, t2, t3, t4⟩ : j ≤ D.n ∧ v % 2 = 0 ∧ v ≤ 2 * (s.xs.length - 1) ∧ (s.ver = v → acc = (List.range j).map (D.W (slkLast s.xs))) := hst
    by_cases c : j < D.n
    ·simp only [if_pos c, Option.some.injEq, Prod.mk.injEq] at hp
     obtain ⟨_, rfl⟩ := hp
     refine ⟨⟨lo, by show s.xs.length ≤ m + 1 + 1; omega, slkV_keep V hq rfl rfl rfl rfl rfl, slkT_set T same ⟨hX, by show j + 1 ≤ D.n; omega, t2, t3, fun hv => ?_⟩, hJk _ rfl⟩, sum_step (fun _ => Nat.le_refl _) hq ?_⟩
     ·replace hv : s.ver = v := hv
      have hw : s.ws j = D.W (slkLast s.xs) j := by
       rcases V with ⟨_, a, _⟩ | ⟨a, _⟩
       ·exact a j c
       ·omega
      rw [t4 hv, hw, List.range_succ, List.map_append]; rfl
     ·simp only [slkφ]; omega
    ·obtain rfl : j = D.n := by omega
     simp only [if_neg c, Option.some.injEq, Prod.mk.injEq] at hp
     obtain ⟨_, rfl⟩ := hp
     by_cases e : s.ver = v
     ·simp only [if_pos e]
      have hev : s.ver = 2 * (s.xs.length - 1) := by
       rcases V with ⟨a, _⟩ | ⟨a, _⟩ <;> omega
      obtain ⟨x, hx⟩ : ∃ x, s.xs.getLast? = some x := by
       cases h : s.xs.getLast? with
       | none => rw [List.getLast?_eq_none_iff] at h; rw [h] at lo; simp at lo
       | some x => exact ⟨x, rfl⟩
      have hacc : acc = D.words x := by rw [t4 e]; unfold slkLast Slk.words; rw [hx]; rfl
      have hv2 : v = 2 * (s.xs.length - 1) := by omega
      refine ⟨⟨lo, by show s.xs.length ≤ m + 1 + 1; omega, slkV_keep V hq rfl rfl rfl rfl rfl, slkT_set T (fun q h => h) ⟨hXr, trivial⟩, ?_⟩, sum_step (fun _ => Nat.le_refl _) hq ?_⟩
      ·show J (m + 1) s.xs _ _
       rw [List.map_set, hacc, hv2]
       exact hR s.xs s.z _ k p x hJ hpk lo hi hx
      ·simp only [slkφ]; omega
     ·simp only [if_neg e]
      refine ⟨⟨lo, by omega, slkV_keep V hq rfl rfl rfl rfl rfl, slkT_set T same ⟨hXr, trivial⟩, hJk _ rfl⟩, sum_step (fun _ => Nat.le_refl _) hq ?_⟩
      simp only [slkφ]; omega
   | cas v => cases hp
   | wr v j => cases hp
end
end Go.Proofs.Ytodgemainhokjaa
namespace Go.PB
open Go.Conc
section
def mIdx : List (Int × Value) → Int → Nat → Option (Nat × Value)
 | [], _, _ => none
 | e :: l, k, i => if k = e.1 then some (i, e.2) else mIdx l k (i + 1)
def mGet : List (Int × Value) → Int → Option Value
 | [], _ => none
 | e :: l, k => if k = e.1 then some e.2 else mGet l k
def mPut : List (Int × Value) → Int → Value → List (Int × Value)
 | [], k, v => [(k, v)]
 | e :: l, k, v => if k = e.1 then (k, v) :: l else e :: mPut l k v
def mDel : List (Int × Value) → Int → List (Int × Value)
 | [], _ => []
 | e :: l, k => if k = e.1 then l else e :: mDel l k
theorem mIdx_get : ∀ (l : List (Int × Value)) (k : Int) (i : Nat), (mIdx l k i).map (·.2) = mGet l k
 | [], _, _ => rfl
 | e :: l, k, i => by
  unfold mIdx mGet
  split
  ·rfl
  ·exact mIdx_get l k (i + 1)
structure EsOk (ki : IntKind) (es : List MapEntry) (clock : Nat) (l : List (Int × Value)) : Prop where
 eq : es.map (fun e => (e.key, e.val)) = l.map fun y => (Value.int ki y.1, y.2)
 lt : ∀ e ∈ es, e.born < clock
 nd : (es.map (·.born)).Nodup
section
variable {ki : IntKind} {es : List MapEntry} {clock : Nat} {l : List (Int × Value)}
theorem EsOk.nil : EsOk ki [] clock [] := ⟨rfl, fun e h => by simp at h, by simp⟩
theorem EsOk.len (h : EsOk ki es clock l) : es.length = l.length := by have := congrArg List.length h.eq; simpa using this
theorem EsOk.get (h : EsOk ki es clock l) {i : Nat} {y : Int × Value} (hy : l[i]? = some y) : ∃ e, es[i]? = some e ∧ e.key = .int ki y.1 ∧ e.val = y.2 := by
 have := congrArg (fun x => x[i]?) h.eq
 simp only [List.getElem?_map, hy, Option.map_some] at this
 obtain ⟨e, h1, h2⟩ := Option.map_eq_some_iff.1 this
 simp only [Prod.mk.injEq] at h2
 exact ⟨e, h1, h2.1, h2.2⟩
theorem findNow_eq {kk : IntKind} {k : Int} : ∀ {es : List MapEntry} {l : List (Int × Value)} (i : Nat), es.map (fun e => (e.key, e.val)) = l.map (fun y => (Value.int ki y.1, y.2)) → Instr.findNow (.int kk) (.int ki k) es i = some (mIdx l k i)
 | [], [], _, _ => rfl
 | [], _ :: _, _, h => by simp at h
 | _ :: _, [], _, h => by simp at h
 | e :: es, y :: l, i, h => by
  simp only [List.map_cons, List.cons.injEq, Prod.mk.injEq] at h
  obtain ⟨⟨h1, h2⟩, h3⟩ := h
  unfold Instr.findNow mIdx
  rw [h1]
  by_cases hk : k = y.1
  ·rw [if_pos hk]
   have : Instr.sameNow (.int kk) (.int ki k) (.int ki y.1) = some true := by simp [Instr.sameNow, hk]
   rw [this, h2]
  ·rw [if_neg hk]
   have : Instr.sameNow (.int kk) (.int ki k) (.int ki y.1) = some false := by simp [Instr.sameNow, hk]
   rw [this]
   exact findNow_eq (i + 1) h3
theorem mIdx_none : ∀ {l : List (Int × Value)} {k : Int} {i : Nat}, mIdx l k i = none → ∀ v, mPut l k v = l ++ [(k, v)]
 | [], _, _, _, _ => rfl
 | e :: l, k, i, h, v => by
  unfold mIdx at h
  split at h
  ·cases h
  ·rename_i hk
   unfold mPut
   rw [if_neg hk, mIdx_none h v]; rfl
theorem mIdx_some : ∀ {l : List (Int × Value)} {k : Int} {i j : Nat} {u : Value}, mIdx l k i = some (j, u) → ∃ q, j = i + q ∧ q < l.length ∧ l[q]? = some (k, u) ∧ (∀ v, mPut l k v = l.set q (k, v)) ∧ mDel l k = l.eraseIdx q
 | [], _, _, _, _, h => by cases h
 | e :: l, k, i, j, u, h => by
  unfold mIdx at h
  split at h
  ·rename_i hk
   cases h
   exact ⟨0, rfl, Nat.succ_pos _, by rw [hk]; rfl, fun v => by unfold mPut; rw [if_pos hk]; rfl, by unfold mDel; rw [if_pos hk]; rfl⟩
  ·rename_i hk
   obtain ⟨q, h1, h2, h3, h4, h5⟩ := mIdx_some h
   exact ⟨q + 1, by omega, by simp; omega, by simpa using h3, fun v => by unfold mPut; rw [if_neg hk, h4]; rfl, by unfold mDel; rw [if_neg hk, h5]; rfl⟩
theorem EsOk.push {k : Int} {v : Value} (h : EsOk ki es clock l) : EsOk ki (es ++ [⟨.int ki k, v, clock⟩]) (clock + 1) (l ++ [(k, v)]) := ⟨by
  simp [h.eq], fun e he => by
  rcases List.mem_append.1 he with he | he
  ·exact Nat.lt_succ_of_lt (h.lt e he)
  ·cases List.mem_singleton.1 he; exact Nat.lt_succ_self _, by
  rw [List.map_append, List.nodup_append]
  refine ⟨h.nd, by simp, fun a ha b hb => ?_⟩
  obtain ⟨e, he, rfl⟩ := List.mem_map.1 ha
  simp only [List.map_cons, List.map_nil, List.mem_singleton] at hb
  have := h.lt e he
  omega⟩
theorem EsOk.set {k : Int} {v : Value} {q : Nat} {e : MapEntry} (h : EsOk ki es clock l) (he : es[q]? = some e) : EsOk ki (es.set q { e with key := .int ki k, val := v }) clock (l.set q (k, v)) where
 eq := by rw [List.map_set, List.map_set, h.eq]
 lt := fun e' he' => by
  rcases List.mem_or_eq_of_mem_set he' with h1 | rfl
  ·exact h.lt _ h1
  ·exact h.lt e (List.mem_of_getElem? he)
 nd := by
  rw [List.map_set]
  have : (es.map (·.born)).set q e.born = es.map (·.born) := by
   apply List.ext_getElem?
   intro i
   rw [List.getElem?_set]
   split
   ·rename_i hi; subst hi
    rw [List.getElem?_map, he]
    have := (List.getElem?_eq_some_iff.1 he).1
    simp [this]
   ·rfl
  rw [this]; exact h.nd
end
theorem modify_set {α : Type} (f : α → α) : ∀ {l : List α} {i : Nat} {a : α}, l[i]? = some a → l.modify i f = l.set i (f a)
 | [], _, _, h => by simp at h
 | b :: l, 0, a, h => by simp at h; subst h; rfl
 | b :: l, i + 1, a, h => by
  simp only [List.getElem?_cons_succ] at h
  simp [modify_set f h]
def mapC (ki : IntKind) (b : Nat) (l : List (Int × Value)) : HProp := fun h => ∃ es clock, EsOk ki es clock l ∧ h.obj b = some (.map es.toArray clock)
section
variable {P : Program} {e : Env} {ty : TypeId} {L F : List HProp} {ki : IntKind} {b : Nat} {l : List (Int × Value)}
theorem mapC_new {h : Hp} (f : h.fresh b) (s : Star L h) : Star (mapC ki b [] :: L) (h.setObj b (.map #[] 0)) :=
 star_map (star_newObj f s) (fun h ho => ⟨[], 0, .nil, ho⟩) fun _ z => z
theorem mapC_obj {h : Hp} (s : Star (mapC ki b l :: L) h) : ∃ es clock, EsOk ki es clock l ∧ Star (ob b (.map es.toArray clock) :: L) h := by
 obtain ⟨h1, h2, s1, ⟨es, clock, he, ho⟩, hL⟩ := s
 exact ⟨es, clock, he, h1, h2, s1, ho, hL⟩
theorem mapC_of {h : Hp} {es : List MapEntry} {clock : Nat} (he : EsOk ki es clock l) (s : Star (ob b (.map es.toArray clock) :: L) h) : Star (mapC ki b l :: L) h :=
 star_map s (fun h ho => ⟨es, clock, he, ho⟩) fun _ z => z
theorem wpS_checkKey {M : Mark → Prop} {empty : Bool} {n key : Nat} {kk : IntKind} {k : Int} {h : Hp} {Q : Unit → Hp → Prop} {X : Value → Hp → Prop} (hk : P.underlying key = some (.int kk)) (q : Q () h) : wpS P M (Instr.checkKey empty (n + 1) key (.int ki k)) h Q X := by
 unfold Instr.checkKey
 exact wpS_underlying hk q
theorem wpS_findKey {M : Mark → Prop} {key : Nat} {kk : IntKind} {k : Int} {es : List MapEntry} {clock : Nat} {h : Hp} {Q : Option (Nat × Value) → Hp → Prop} {X : Value → Hp → Prop} (hk : P.underlying key = some (.int kk)) (he : EsOk ki es clock l) (q : Q (mIdx l k 0) h) : wpS P M (Instr.findKey key (.int ki k) es) h Q X := by
 unfold Instr.findKey
 refine wpS_underlying hk ?_
 rw [findNow_eq 0 he.eq]
 exact q
theorem mo_makeMap {t : TypeId} (ki : IntKind) : Mo P e (.makeMap t none) ty L fun v' L' => ∃ b, v' = .map (some b) ∧ L' = mapC ki b [] :: L := by
 intro M _ _ tt h Q X ag s q
 show wpS P M (Sem.bind (Instr.makeMap t none) fun v => pure (.value v)) h Q X
 intro b hf
 exact q _ _ _ _ (.inl rfl) ⟨b, rfl, rfl⟩ (mapC_new hf s)
theorem wpS_mapUpdate {M : Mark → Prop} {t key el : Nat} {kk : IntKind} {k : Int} {v : Value} {h : Hp} {Q : Unit → Hp → Prop} {X : Value → Hp → Prop} (ht : P.underlying t = some (.map key el)) (hk : P.underlying key = some (.int kk)) (s : Star (mapC ki b l :: L) h)
  (q : ∀ h', Star (mapC ki b (mPut l k v) :: L) h' → Q () h') : wpS P M (Instr.mapUpdate t (.map (some b)) (.int ki k) v) h Q X := by
 obtain ⟨es, clock, he, s'⟩ := mapC_obj s
 unfold Instr.mapUpdate
 refine wpS_underlying ht ?_
 refine ⟨_, (star_setObj (o' := .map #[] 0) s').1, ?_⟩
 refine wpS_bind _ _ ?_
 change wpS P M (Sem.bind (Instr.checkKey _ 10000 _ _) _) _ _ _
 refine wpS_bind _ _ (wpS_checkKey (n := 9999) hk ?_)
 refine wpS_bind _ _ (wpS_findKey hk (l := l) (by simpa using he) ?_)
 cases hm : mIdx l k 0 with
 | none =>
  obtain ⟨h1, h2⟩ := star_setObj (o' := .map (es ++ [({ key := .int ki k, val := v, born := clock } : MapEntry)]).toArray (clock + 1)) s'
  refine ⟨by rw [h1]; rfl, rfl, ?_⟩
  rw [show es.toArray.push ({ key := .int ki k, val := v, born := clock } : MapEntry) = (es ++ [({ key := .int ki k, val := v, born := clock } : MapEntry)]).toArray by simp]
  refine q _ (mapC_of ?_ h2)
  rw [mIdx_none hm v]
  exact he.push
 | some y =>
  obtain ⟨j, u⟩ := y
  obtain ⟨i, h1, h2, h3, h4, _⟩ := mIdx_some hm
  obtain rfl : j = i := by omega
  obtain ⟨en, h5, h6, h7⟩ := he.get h3
  have hb : Instr.sameBits 10000 (((es.toArray[j]?).map (·.key)).getD (.int ki k)) (.int ki k) = true := by
   rw [List.getElem?_toArray, h5, Option.map_some, Option.getD_some, h6]
   show Instr.sameBits (9999 + 1) _ _ = true
   simp [Instr.sameBits]
  show wpS P M (Sem.bind (Instr.keyThatStays _ _) _) h Q X
  unfold Instr.keyThatStays
  rw [if_pos hb]
  obtain ⟨k1, k2⟩ := star_setObj (o' := .map (es.set j { en with key := .int ki k, val := v }).toArray clock) s'
  refine ⟨by rw [k1]; rfl, rfl, ?_⟩
  rw [show (es.toArray.modify j fun e => { e with key := .int ki k, val := v }) = (es.set j { en with key := .int ki k, val := v }).toArray by
   apply Array.ext'
   simp only [Array.toList_modify]
   exact modify_set _ h5]
  refine q _ (mapC_of ?_ k2)
  rw [h4]
  exact he.set h5
theorem mo_mapUpdate {t key el : Nat} {kk : IntKind} {m ko x : Operand} {k : Int} {v : Value} [p : Und P t (.map key el)] [pk : InT P key kk] (hm : ev e m = some (.map (some b))) (hk : ev e ko = some (.int ki k)) (hx : ev e x = some v) (hh : Has L (mapC ki b l) F) :
  Mo P e (.mapUpdate t m ko x) ty L fun v' L' => v' = undef ∧ L' = mapC ki b (mPut l k v) :: F := by
 intro M _ _ tt h Q X ag s q
 show wpS P M (Sem.bind (Instr.mapUpdate t (evT tt m) (evT tt ko) (evT tt x)) fun _ => pure .skip) h Q X
 rw [ag.ev hm, ag.ev hk, ag.ev hx]
 exact wpS_bind _ _ (wpS_mapUpdate p.ok pk.ok (hh.star s) fun h' s' => q undef _ _ _ (.inr ⟨rfl, rfl⟩) ⟨rfl, rfl⟩ s')
theorem wpS_lookup {M : Mark → Prop} {t key el : Nat} {kk : IntKind} {zv : Value} {k : Int} {ok : Bool} {h : Hp} {Q : Value → Hp → Prop} {X : Value → Hp → Prop} (ht : P.underlying t = some (.map key el)) (hk : P.underlying key = some (.int kk)) (hz : zeroOf P el = some zv) (s : Star (mapC ki b l :: L) h)
  (q : Q (if ok = true then .tuple #[(mGet l k).getD zv, .bool (mGet l k).isSome] else (mGet l k).getD zv) h) : wpS P M (Instr.lookup t (.map (some b)) (.int ki k) ok) h Q X := by
 obtain ⟨es, clock, he, s'⟩ := mapC_obj s
 unfold Instr.lookup
 refine wpS_underlying ht ?_
 refine ⟨_, (star_setObj (o' := .map #[] 0) s').1, ?_⟩
 refine wpS_bind _ _ ?_
 change wpS P M (Sem.bind (Instr.checkKey _ 10000 _ _) _) _ _ _
 refine wpS_bind _ _ (wpS_checkKey (n := 9999) hk ?_)
 refine wpS_bind _ _ (wpS_findKey hk (l := l) (by simpa using he) ?_)
 have hg := mIdx_get l k 0
 cases hm : mIdx l k 0 with
 | none =>
  rw [hm] at hg
  rw [← hg] at q
  refine wpS_zeroValue hz ?_
  cases ok <;> exact q
 | some y =>
  rw [hm] at hg
  rw [← hg] at q
  cases ok <;> exact q
theorem mo_lookup {t key el : Nat} {kk : IntKind} {zv : Value} {m ko : Operand} {k : Int} {ok : Bool} [p : Und P t (.map key el)] [pk : InT P key kk] [z : Zer P el zv] (hm : ev e m = some (.map (some b))) (hk : ev e ko = some (.int ki k)) (hh : Has L (mapC ki b l) F) :
  Mo P e (.lookup t m ko ok) ty L fun v' L' => v' = (if ok = true then .tuple #[(mGet l k).getD zv, .bool (mGet l k).isSome] else (mGet l k).getD zv) ∧ L' = L := by
 intro M _ _ tt h Q X ag s q
 show wpS P M (Sem.bind (Instr.lookup t (evT tt m) (evT tt ko) ok) fun v => pure (.value v)) h Q X
 rw [ag.ev hm, ag.ev hk]
 exact wpS_bind _ _ (wpS_lookup p.ok pk.ok z.ok (hh.star s) (q _ L _ _ (.inl rfl) ⟨rfl, rfl⟩ s))
theorem mo_lookup2 {t key el : Nat} {kk : IntKind} {zv : Value} {m ko : Operand} {k : Int} [p : Und P t (.map key el)] [pk : InT P key kk] [z : Zer P el zv] (hm : ev e m = some (.map (some b))) (hk : ev e ko = some (.int ki k)) (hh : Has L (mapC ki b l) F) :
  Mo P e (.lookup t m ko true) ty L fun v' L' => v' = .tuple #[(mGet l k).getD zv, .bool (mGet l k).isSome] ∧ L' = L := by
 have h := mo_lookup (P := P) (e := e) (ty := ty) (L := L) (F := F) (t := t) (ki := ki) (b := b) (l := l) (m := m) (ko := ko) (k := k) (ok := true) (el := el) (key := key) (kk := kk) (zv := zv) hm hk hh
 rw [if_pos rfl] at h
 exact h
end
end
section
def ranC (ki : IntKind) (b r : Nat) (l : List (Int × Value)) (n : Nat) (cur : Option (Int × Value)) : HProp := fun h =>
 ∃ es clock, ∃ seen : Array Nat, (EsOk ki es clock l ∧ (es.filter fun e => !seen.contains e.born).length = n ∧ ∀ y, cur = some y → ∃ e ∈ es, seen.back? = some e.born ∧ e.key = .int ki y.1 ∧ e.val = y.2) ∧
  all [ob b (.map es.toArray clock), ob r (.mapIter (some b) clock seen clock)] h
section
variable {P : Program} {e : Env} {ty : TypeId} {L F : List HProp} {ki : IntKind} {b r n : Nat} {l : List (Int × Value)} {cur : Option (Int × Value)}
theorem ranC_obj {h : Hp} (s : Star (ranC ki b r l n cur :: L) h) : ∃ es clock, ∃ seen : Array Nat, (EsOk ki es clock l ∧ (es.filter fun e => !seen.contains e.born).length = n ∧ ∀ y, cur = some y → ∃ e ∈ es, seen.back? = some e.born ∧ e.key = .int ki y.1 ∧ e.val = y.2) ∧
  Star (ob b (.map es.toArray clock) :: ob r (.mapIter (some b) clock seen clock) :: L) h := by
 obtain ⟨h1, h2, s1, ⟨es, clock, seen, hf, hz⟩, hL⟩ := s
 exact ⟨es, clock, seen, hf, star_open (M := [_, _]) ⟨h1, h2, s1, hz, hL⟩⟩
theorem ranC_of {h : Hp} {es : List MapEntry} {clock : Nat} {seen : Array Nat} (hf : EsOk ki es clock l ∧ (es.filter fun e => !seen.contains e.born).length = n ∧ ∀ y, cur = some y → ∃ e ∈ es, seen.back? = some e.born ∧ e.key = .int ki y.1 ∧ e.val = y.2)
  (s : Star (ob b (.map es.toArray clock) :: ob r (.mapIter (some b) clock seen clock) :: L) h) : Star (ranC ki b r l n cur :: L) h :=
 star_map (star_shut (M := [_, _]) s) (fun h z => ⟨es, clock, seen, hf, z⟩) fun _ z => z
theorem ranC_map {h : Hp} (s : Star (ranC ki b r l n cur :: L) h) : Star (mapC ki b l :: L) h := by
 obtain ⟨es, clock, seen, hf, s'⟩ := ranC_obj s
 exact mapC_of hf.1 (star_drop (star_swap s'))
theorem mo_range {t key el : Nat} {o : Operand} [p : Und P t (.map key el)] (hm : ev e o = some (.map (some b))) (hh : Has L (mapC ki b l) F) :
  Mo P e (.range t o) ty L fun v' L' => ∃ r, v' = .pointer (some ⟨r, 0, none⟩) ∧ L' = ranC ki b r l l.length none :: F := by
 intro M _ _ tt h Q X ag s q
 show wpS P M (Sem.bind (Instr.range t (evT tt o)) fun v => pure (.value v)) h Q X
 rw [ag.ev hm]
 obtain ⟨es, clock, he, s'⟩ := mapC_obj (hh.star s)
 refine wpS_bind _ _ ?_
 unfold Instr.range
 refine wpS_underlying p.ok ?_
 refine ⟨_, (star_setObj (o' := .map #[] 0) s').1, ?_⟩
 intro r hf
 have s2 := star_newObj (o := .mapIter (some b) clock #[] clock) hf s'
 refine q _ _ _ _ (.inl rfl) ⟨r, rfl, rfl⟩ (ranC_of (es := es) (clock := clock) (seen := #[]) ⟨he, ?_, fun y hy => by cases hy⟩ (star_swap s2))
 rw [← he.len, List.filter_eq_self.2 fun e _ => by simp]
theorem wpS_mapNext {M : Mark → Prop} {α : Type} {n : Nat} {k : Nat → Sem α} {h : Hp} {Q : α → Hp → Prop} {X : Value → Hp → Prop} (hn : 0 < n) (w : ∀ i, i < n → wpS P M (k i) h Q X) : wpS P M (Sem.bind (choose (.mapNext n)) k) h Q X := by
 show wpS P M (.choose (.mapNext n) fun i => k i) h Q X
 unfold wpS
 split
 ·exact w 0 hn
 ·exact fun t => w _ (Nat.mod_lt _ hn)
theorem filter_lt {α : Type} {p q : α → Bool} {l : List α} {a : α} (hpq : ∀ x, q x = true → p x = true) (ha : a ∈ l) (hp : p a = true) (hq : q a = false) : (l.filter q).length < (l.filter p).length := by
 have e : l.filter q = (l.filter p).filter q := by
  rw [List.filter_filter]
  congr 1
  funext x
  cases h : q x
  ·rfl
  ·rw [hpq x h]; rfl
 rw [e]
 refine List.length_filter_lt_length_iff_exists.2 ⟨a, List.mem_filter.2 ⟨ha, hp⟩, by rw [hq]; simp⟩
set_option maxHeartbeats 1000000 in
theorem mo_next {o : Operand} (hm : ev e o = some (.pointer (some ⟨r, 0, none⟩))) (hh : Has L (ranC ki b r l n cur) F) :
  Mo P e (.next o false) ty L fun v' L' => (v' = .tuple #[.bool false] ∧ L' = ranC ki b r l n cur :: F) ∨
   ∃ k v n', (k, v) ∈ l ∧ n' < n ∧ v' = .tuple #[.bool true, .int ki k, v] ∧ L' = ranC ki b r l n' (some (k, v)) :: F := by
 intro M _ _ tt h Q X ag s q
 show wpS P M (Sem.bind (Instr.next (evT tt o) false ty) fun v => pure (.value v)) h Q X
 rw [ag.ev hm]
 obtain ⟨es, clock, seen, ⟨he, hn, hc⟩, s'⟩ := ranC_obj (hh.star s)
 have sw := star_swap s'
 refine wpS_bind _ _ ?_
 unfold Instr.next
 refine ⟨_, (star_setObj (o' := .map #[] 0) sw).1, ?_⟩
 refine ⟨_, (star_setObj (o' := .map #[] 0) s').1, ?_⟩
 have hall : (!seen.isEmpty && !es.toArray.isEmpty && es.toArray.all fun x => decide (x.born ≥ clock)) = false := by
  cases es with
  | nil => simp
  | cons x es =>
   have := he.lt x (by simp)
   simp [show ¬ clock ≤ x.born by omega]
 have hsz : ∀ (old new : Array MapEntry), 0 < ((if old.isEmpty = true then #[none] else #[]) ++ (old ++ new).map some : Array (Option MapEntry)).size := fun old new => by
  by_cases ho : old.isEmpty = true
  ·rw [if_pos ho, Array.size_append]; show 0 < 1 + _; omega
  ·rw [if_neg ho]
   have : 0 < old.size := by
    rcases Nat.eq_zero_or_pos old.size with h0 | h0
    ·exact absurd (by simpa using h0) ho
    ·exact h0
   simp; omega
 show wpS P M (if (!seen.isEmpty && !es.toArray.isEmpty && es.toArray.all fun x => decide (x.born ≥ clock)) = true then _ else _) h _ X
 rw [if_neg (by rw [hall]; simp)]
 obtain ⟨lf, hlf⟩ : ∃ lf, (es.toArray.filter fun e => !seen.contains e.born) = lf := ⟨_, rfl⟩
 rw [hlf]
 refine wpS_mapNext (hsz _ _) fun i hi => ?_
 obtain ⟨cds, hcd⟩ : ∃ cds : Array (Option MapEntry), ((if (lf.filter fun x => decide (x.born < clock)).isEmpty = true then #[none] else #[]) ++ ((lf.filter fun x => decide (x.born < clock)) ++ lf.filter fun x => decide (x.born ≥ clock)).map some) = cds := ⟨_, rfl⟩
 rw [hcd] at hi ⊢
 obtain ⟨c, hci⟩ : ∃ c, cds[i]? = some c := ⟨cds[i], Array.getElem?_eq_getElem hi⟩
 rw [hci]
 cases c with
 | none => exact q _ _ _ _ (.inl rfl) (.inl ⟨rfl, rfl⟩) (ranC_of ⟨he, hn, hc⟩ s')
 | some y =>
  have hmem : y ∈ lf := by
   have h1 := Array.mem_of_getElem? hci
   rw [← hcd] at h1
   rcases Array.mem_append.1 h1 with h1 | h1
   ·split at h1 <;> simp at h1
   ·obtain ⟨z, hz, ez⟩ := Array.mem_map.1 h1
    cases ez
    rcases Array.mem_append.1 hz with h2 | h2 <;> exact (Array.mem_filter.1 h2).1
  rw [← hlf] at hmem
  obtain ⟨hy1, hy2⟩ := Array.mem_filter.1 hmem
  replace hy1 : y ∈ es := by simpa using hy1
  obtain ⟨j, hj⟩ := List.mem_iff_getElem?.1 hy1
  have hlt : j < l.length := by rw [← he.len]; exact (List.getElem?_eq_some_iff.1 hj).1
  obtain ⟨e', h5, h6, h7⟩ := he.get (List.getElem?_eq_getElem hlt)
  rw [hj] at h5; cases h5
  obtain ⟨k1, k2⟩ := star_setObj (o' := .mapIter (some b) clock (seen.push y.born) clock) sw
  refine ⟨by rw [k1]; rfl, rfl, ?_⟩
  refine q _ _ _ _ (.inl rfl) (.inr ⟨l[j].1, l[j].2, (es.filter fun e => !(seen.push y.born).contains e.born).length, List.getElem_mem hlt, ?_, ?_, rfl⟩) (ranC_of ⟨he, rfl, fun z hz => ?_⟩ (star_swap k2))
  ·rw [← hn]
   refine filter_lt (a := y) (fun x hx => ?_) hy1 hy2 (by simp)
   simp at hx ⊢
   exact hx.1
  ·rw [h6, h7]
  ·cases hz
   exact ⟨y, hy1, by simp, h6, h7⟩
theorem mo_entry {o : Operand} {y : Int × Value} (hm : ev e o = some (.pointer (some ⟨r, 0, none⟩))) (hh : Has L (ranC ki b r l n (some y)) F) :
  Mo P e (.entry o) ty L fun v' L' => v' = .tuple #[.int ki y.1, y.2] ∧ L' = L := by
 intro M _ _ tt h Q X ag s q
 show wpS P M (Sem.bind (Instr.entry (evT tt o)) fun v => pure (.value v)) h Q X
 rw [ag.ev hm]
 obtain ⟨es, clock, seen, ⟨he, hn, hc⟩, s'⟩ := ranC_obj (hh.star s)
 obtain ⟨e', h1, h2, h3, h4⟩ := hc y rfl
 have sw := star_swap s'
 refine wpS_bind _ _ ?_
 unfold Instr.entry
 refine ⟨_, (star_setObj (o' := .map #[] 0) sw).1, ?_⟩
 show wpS P M (match seen.back? with | some stamp => _ | _ => _) h _ X
 rw [h2]
 refine ⟨_, (star_setObj (o' := .map #[] 0) s').1, ?_⟩
 show wpS P M (if (clock != clock) = true then _ else _) h _ X
 rw [if_neg (by simp)]
 have hf : es.toArray.find? (fun x => x.born == e'.born) = some e' := by
  rw [List.find?_toArray]
  obtain ⟨z, hz⟩ : ∃ z, es.find? (fun x => x.born == e'.born) = some z := by
   cases hz : es.find? (fun x => x.born == e'.born) with
   | none => have := List.find?_eq_none.1 hz e' h1; simp at this
   | some z => exact ⟨z, rfl⟩
  have hz1 := List.mem_of_find?_eq_some hz
  have hz2 := List.find?_some hz
  simp only [beq_iff_eq] at hz2
  rw [hz]
  congr 1
  obtain ⟨i, hi⟩ := List.mem_iff_getElem?.1 hz1
  obtain ⟨j, hj⟩ := List.mem_iff_getElem?.1 h1
  have hnd := he.nd
  obtain ⟨hil, hie⟩ := List.getElem?_eq_some_iff.1 hi
  obtain ⟨hjl, hje⟩ := List.getElem?_eq_some_iff.1 hj
  have : i = j := by
   refine (List.getElem_inj (xs := es.map (·.born)) (h₀ := by simpa using hil) (h₁ := by simpa using hjl) hnd).1 ?_
   simp [hie, hje, hz2]
  subst this
  rw [← hie, ← hje]
 rw [hf]
 refine q _ L _ _ (.inl rfl) ⟨?_, rfl⟩ s
 rw [h3, h4]
end
end
end Go.PB
namespace Go.Proofs.Ytodgemainhokjaa
open Go Go.PB
attribute [local irreducible] Mo Bin Eql Tr Wo
section
variable {B : Hand} [Lets B]
def mark2 (m : Int × Nat) : List Value := [.int .u8 m.1, .int .i64 (m.2 : Nat)]
def notesC (nb : Nat) (marks : List (Int × Nat)) : HProp := fun h => ∃ mv, all [arr nb 0 [.bool true, mv], vec 2 mv (marks.map mark2).flatten] h
section
variable {L F : List HProp} {x : B.X} {nb : Nat} {marks : List (Int × Nat)}
theorem flat2 (marks : List (Int × Nat)) : (marks.map mark2).flatten.length = marks.length * 2 := by
 induction marks with
 | nil => rfl
 | cons m l ih => simp only [List.map_cons, List.flatten_cons, List.length_append, ih, mark2, List.length_cons, List.length_nil]; omega
theorem notes_step_tr {op : Int} {w : Nat} (hl : marks.length < 1000000) (hh : Has L (notesC nb marks) F) :
  Tr Try.prog B 110 [.pointer (some ⟨nb, 0, none⟩), .agg #[.int .u8 op, .int .i64 (w : Nat)]] L x fun v L' x' => v = .tuple #[] ∧ L' = notesC nb (marks ++ [(op, w)]) :: F ∧ x' = x := by
 refine tr_ex hh fun mv => tr_star _ (fun h st => star_open st) ?_
 refine Tr.post (R := fun v L' x' => v = .tuple #[] ∧ x' = x ∧ ∃ v', ∀ h, Star L' h → Star (arr nb 0 [.bool true, v'] :: vec 2 v' ((marks ++ [(op, w)]).map mark2).flatten :: F) h) ?_
  (by
   rintro v L' x' ⟨rfl, rfl, v', hs⟩
   refine ⟨_, ⟨rfl, rfl, rfl⟩, fun h st => ?_⟩
   exact star_map (star_shut (M := [_, _]) (hs h st)) (fun _ y => ⟨v', y⟩) (fun _ y => y))
 refine tr_pure (of_has (.there .here) (vec_shape (by omega))) ?_
 rintro ⟨ra, rl, rc, rfl, hlen, hrc, hra, hra2⟩
 rw [flat2] at hlen
 have hrl : rl = marks.length := by omega
 subst hrl
 simp only [List.cons_append, List.nil_append]
 refine tr_of_body Try.func110 rfl Try.ntmps110 (by simp) fun um Q _ hQ => ?_
 simp only [argE, Nat.zero_add, Nat.reduceAdd]
 have hr0 : ∀ {c : HProp}, Rd (c :: arr nb 0 [.bool true, .slice ra marks.length rc] :: vec 2 (.slice ra marks.length rc) (marks.map mark2).flatten :: F) nb 0 (.bool true) := fun {c} => Rd.there (Rd.row (k := 0) rfl rfl)
 have hr1 : ∀ {c : HProp}, Rd (c :: arr nb 0 [.bool true, .slice ra marks.length rc] :: vec 2 (.slice ra marks.length rc) (marks.map mark2).flatten :: F) nb 1 (.slice ra marks.length rc) := fun {c} => Rd.there (Rd.row (k := 1) rfl rfl)
 repeat (first | (apply wo_mo; apply mo_box; exact rfl; exact trivial) | refine we_seq ?_ | (refine wR ?_; try simp only [oS]))
 rintro v' L' ⟨pb, rfl, rfl⟩
 have hrds : Rds (arr pb 0 (mark2 (op, w)) :: arr nb 0 [.bool true, .slice ra marks.length rc] :: vec 2 (.slice ra marks.length rc) (marks.map mark2).flatten :: F) pb 0 [.int .u8 op, .int .i64 (w : Nat)] := Rds.all (vs := mark2 (op, w)) .here
 refine wo_ent (arr pb 0 (mark2 (op, w)) :: arr nb 0 [.bool true, .slice ra marks.length rc] :: vec 2 (.slice ra marks.length rc) (marks.map mark2).flatten :: F) .refl ?_
 repeat (first | (apply wo_po; apply mo_load; exact rfl; exact hr0; exact gY) | refine we_seq ?_ | (refine wR ?_; try simp only [oS]) | refine wo_nil ?_ | refine wM ?_ | refine wK ?_ | refine wN ?_ | refine wD ?_ | (apply wo_po; apply mo_bin; exact rfl; exact rfl; apply bin_ne; apply eql_ptr_nil; exact gY) | refine wT ?_)
 have hr2 : ∀ {c d : HProp}, Rd (c :: d :: arr nb 0 [.bool true, .slice ra marks.length rc] :: vec 2 (.slice ra marks.length rc) (marks.map mark2).flatten :: F) nb 1 (.slice ra marks.length rc) := fun {c d} => Rd.there hr1
 refine we_draw [0, 1, 2, 3, 4, 5, 6, 7, 8, 9, 10] (by kernel_rfl) ?_
 repeat (first | (apply ap_read; exact rfl; exact rfl; exact trivial; apply mo_load; exact rfl; exact hr1) | (apply ap_read; exact rfl; exact rfl; exact trivial; apply mo_loadA (vs := [.int .u8 op, .int .i64 (w : Nat)]); exact rfl; exact rfl; exact hrds) | refine aM ?_ | refine aN ?_ | refine aD ?_)
 refine ap_loudR rfl rfl rfl rfl trivial (mo_buildSlice (sz := 2) (vs := [.agg #[.int .u8 op, .int .i64 (w : Nat)]]) rfl (.cons rfl .nil) rfl (by intro v hv; cases (List.mem_singleton.1 hv); exact rfl) (by omega)) ?_ ?_
 ·rintro v L' ⟨sb, rfl, rfl⟩ p hp
  replace hp := (List.mem_filter.1 hp).1
  simp only [List.mem_cons, List.not_mem_nil, or_false] at hp
  rcases hp with rfl | rfl | rfl | rfl | rfl | rfl <;> first | exact .inl rfl | exact .inr ⟨_, rfl, trivial, mo_load rfl hr2⟩ | exact .inr ⟨_, rfl, trivial, mo_loadA (vs := [.int .u8 op, .int .i64 (w : Nat)]) rfl rfl (fun i v hi => Rd.there (hrds i v hi))⟩
 rintro v L' ⟨sb, rfl, rfl⟩
 refine ap_loud rfl rfl rfl rfl rfl trivial (mo_append (sz := 2) (new := mark2 (op, w)) rfl rfl rfl rfl (.there (.there (.there .here))) rfl (.inr ⟨_, _, rfl, Rds.all .here⟩) (by intro v hv; simp [mark2] at hv; rcases hv with rfl | rfl <;> rfl) (by simp only [sliceLen]; omega)) ?_
 rintro v' L' rfl
 refine ap_know (of_has .here (vec_shape (by omega))) ?_
 rintro ⟨qa, ql, qc, rfl, _⟩
 repeat (first | refine aN ?_ | refine aD ?_)
 refine ap_loud rfl rfl rfl rfl rfl trivial (mo_store rfl rfl rfl (Wt.row (k := 1) (vs := [.bool true, .slice ra marks.length rc]) (Nat.lt_succ_self 1) rfl (.there (.there (.there .here))))) ?_
 rintro v' L' ⟨rfl, rfl⟩
 refine ap_end ?_
 (first | refine or0 Try.func110 Try.results110 hQ ?_ | refine on0 Try.func110 Try.results110 hQ ?_)
 refine ⟨rfl, rfl, .slice qa ql qc, fun h st => ?_⟩
 rw [show ((marks ++ [(op, w)]).map mark2).flatten = (marks.map mark2).flatten ++ mark2 (op, w) by simp]
 exact (Ent.take (.there (.there (.there .here))) (.take .here (.drop (.drop .refl)))).star st
end
def notesAcc (x : B.X) (addr : Nat → Nat × Nat) (N : Nat) (K : List (Nat × Nat × Value)) (A : Apart addr N K) (nb : Nat) : Acc B (.iface 89 (.pointer (some ⟨nb, 0, none⟩))) where
 S := (Nat → Nat) × List (Int × Nat)
 C := fun s => all [wds addr N K s.1, notesC nb s.2]
 x := fun _ => x
 step := fun op w s R => s.2.length < 1000000 ∧ R (s.1, s.2 ++ [(op, w)])
 addr := addr
 load := fun w s R => w < N ∧ R (s.1 w) s
 store := fun w n s R => w < N ∧ R (upd s.1 w n, s.2)
 cas := fun w a n s R => w < N ∧ if s.1 w = a then R true (upd s.1 w n, s.2) else R false s
 add := fun w n s R => w < N ∧ R ((s.1 w + n) % 18446744073709551616) (upd s.1 w ((s.1 w + n) % 18446744073709551616), s.2)
 swap := fun w n s R => w < N ∧ R (s.1 w) (upd s.1 w n, s.2)
 gate := .inr ⟨_, _, 110, rfl, inferInstance, inferInstance, fun op w s R L F hs hh =>
  tr_star _ (fun h st => star_open (hh.star st)) ((notes_step_tr hs.1 (.there .here)).post fun v L' x' ⟨h1, h2, h3⟩ => ⟨_, ⟨_, hs.2, h1, rfl, h3⟩, fun h st => star_shut (M := [_, _]) (by
   rw [h2] at st
   exact star_swap st)⟩)⟩
 load_ok := fun w s R L F b o ha hl hh => tr_star _ (fun h st => star_open (hh.star st)) (tr_pure (of_has .here fun h hc => (hc.1 w hl.1).1) fun hs =>
  (load_lone (rd_wds .here hl.1 ha)).post fun v L' x' ⟨h1, h2, h3⟩ => ⟨_, ⟨s.1 w, s, hs, hl.2, h1, rfl, h3⟩, fun h st => star_shut (M := [_, _]) (by rw [h2] at st; exact st)⟩)
 store_ok := fun w n s R L F b o ha hn hl hh => tr_star _ (fun h st => star_open (hh.star st))
  ((store_lone (wt_wds A .here hl.1 ha hn)).post fun v L' x' ⟨h1, h2, h3⟩ => ⟨_, ⟨(upd s.1 w n, s.2), hl.2, h1, rfl, h3⟩, fun h st => star_shut (M := [_, _]) (by rw [h2] at st; exact st)⟩)
 cas_ok := fun w m n s R L F b o ha hn hl hh => tr_star _ (fun h st => star_open (hh.star st))
  ((cas_lone (rd_wds .here hl.1 ha) (wt_wds A .here hl.1 ha hn)).post fun v L' x' ⟨h1, h2, h3⟩ => by
   obtain ⟨h4, h5⟩ := hl
   by_cases e : s.1 w = m
   ·rw [if_pos e] at h5; rw [if_pos (by omega)] at h2; exact ⟨_, ⟨true, _, h5, by rw [h1]; simp [e], rfl, h3⟩, fun h st => star_shut (M := [_, _]) (by rw [h2] at st; exact st)⟩
   ·rw [if_neg e] at h5; rw [if_neg (by omega)] at h2; exact ⟨_, ⟨false, _, h5, by rw [h1]; simp; omega, rfl, h3⟩, fun h st => star_shut (M := [_, _]) (by rw [h2] at st; exact st)⟩)
 add_ok := fun w n s R L F b o ha hn hl hh => tr_star _ (fun h st => star_open (hh.star st))
  ((add_lone (r := ((s.1 w + n) % 18446744073709551616 : Nat)) (rd_wds .here hl.1 ha) (by rw [wrap_u64_mod]; omega) (wt_wds A .here hl.1 ha (Nat.mod_lt _ (by decide)))).post fun v L' x' ⟨h1, h2, h3⟩ => ⟨_, ⟨_, (_, s.2), Nat.mod_lt _ (by decide), hl.2, h1, rfl, h3⟩, fun h st => star_shut (M := [_, _]) (by rw [h2] at st; exact st)⟩)
end
end Go.Proofs.Ytodgemainhokjaa
namespace Go.Proofs.Ytodgemainhokjaa
open Go Go.PB
attribute [local irreducible] Mo Bin Eql Tr Wo Ap
section
variable {B : Hand} [Lets B] {L F : List HProp} {x : B.X} {nb : Nat} {marks : List (Int × Nat)}
theorem new_notes_tr : Tr Try.prog B 36 [] L x fun v L' x' => ∃ nb, v = .pointer (some ⟨nb, 0, none⟩) ∧ L' = notesC nb [] :: L ∧ x' = x := by
 refine Tr.post (R := fun v L' x' => ∃ nb, v = .pointer (some ⟨nb, 0, none⟩) ∧ L' = arr nb 0 [.bool true, .slice none 0 0] :: L ∧ x' = x) ?_
  (by
   rintro v L' x' ⟨nb, rfl, rfl, rfl⟩
   refine ⟨_, ⟨nb, rfl, rfl, rfl⟩, fun h st => ?_⟩
   have st2 : Star ([arr nb 0 [.bool true, .slice none 0 0], vec 2 (.slice none 0 0) []] ++ L) h := star_map st (fun _ y => y) (fun _ y => vec_nil y)
   exact star_map (star_shut st2) (fun _ y => ⟨_, y⟩) (fun _ y => y))
 refine tr_of_body Try.func36 rfl Try.ntmps36 (by simp) fun um Q _ hQ => ?_
 simp only [argE, Nat.zero_add, Nat.reduceAdd]
 repeat (first | (apply wo_po; apply mo_build (pv := [(0, _)]); exact rfl; exact .cons rfl .nil; exact rfl; exact trivial) | (apply wo_mo; apply mo_box; exact rfl; exact trivial) | refine we_seq ?_ | (refine wR ?_; try simp only [oS]) | refine wo_nil ?_ | refine wA ?_)
 rintro v' L' ⟨r, rfl, rfl⟩
 repeat (first | refine wo_nil ?_ | refine wA ?_ | refine we_ret ?_)
 (first | refine or1 Try.func36 Try.results36 hQ rfl ?_ | refine on1 Try.func36 Try.results36 hQ rfl ?_)
 exact ⟨r, rfl, rfl, rfl⟩
theorem clone_tr {a : Option Addr} {n c : Nat} (hl : marks.length < 1000000) (hn : n = marks.length) (ha : (a = none ∧ n = 0) ∨ ∃ b o, a = some ⟨b, o, none⟩ ∧ Rds L b o (marks.map mark2).flatten) :
  Tr Try.prog B 59 [.slice a n c] L x fun v L' x' => L' = vec 2 v (marks.map mark2).flatten :: L ∧ x' = x := by
 subst hn
 rcases ha with ⟨rfl, h0⟩ | ⟨b, o, rfl, hr⟩
 ·refine tr_of_body Try.func59 rfl Try.ntmps59 (by simp) fun um Q _ hQ => ?_
  simp only [argE, Nat.zero_add, Nat.reduceAdd]
  repeat (first | refine we_seq ?_ | (refine wR ?_; try simp only [oS]) | refine wo_nil ?_ | refine wM ?_ | refine wA ?_ | (apply wo_po; apply mo_bin; exact rfl; exact rfl; apply bin_eq; apply eql_slice_nil; exact gY) | refine wT ?_ | refine we_ret ?_)
  have hm : marks = [] := List.length_eq_zero_iff.1 h0
  refine at_star (vec 2 (.slice none 0 0) (marks.map mark2).flatten :: L) (fun h st => by rw [hm]; exact vec_nil st) ?_
  (first | refine or1 Try.func59 Try.results59 hQ rfl ?_ | refine on1 Try.func59 Try.results59 hQ rfl ?_)
  exact ⟨rfl, rfl⟩
 ·have h1 : ∀ w ∈ (marks.map mark2).flatten, one w = true := by
   intro w hw
   simp only [List.mem_flatten, List.mem_map] at hw
   obtain ⟨l, ⟨m, _, rfl⟩, hw⟩ := hw
   simp only [mark2, List.mem_cons, List.not_mem_nil, or_false] at hw
   rcases hw with rfl | rfl <;> rfl
  refine tr_of_body Try.func59 rfl Try.ntmps59 (by simp) fun um Q _ hQ => ?_
  simp only [argE, Nat.zero_add, Nat.reduceAdd]
  repeat (first | (apply wo_mo; apply mo_buildSlice (sz := 2) (vs := []); exact rfl; exact .nil; exact rfl; (intro v hv; cases hv); omega; exact trivial) | refine we_seq ?_ | (refine wR ?_; try simp only [oS]) | refine wo_nil ?_ | refine wM ?_ | refine wA ?_ | (apply wo_po; apply mo_bin; exact rfl; exact rfl; apply bin_eq; apply eql_slice_nil; exact gY) | refine wF ?_ | refine we_skip ?_)
  rintro v' L' ⟨nb, rfl, rfl⟩
  refine wo_star (vec 2 (.slice (some ⟨nb, 0, none⟩) 0 0) [] :: L) (fun h st => vec_new (cs := []) rfl st) ?_
  repeat (first | (apply wo_mo; apply mo_append (sz := 2) (new := (marks.map mark2).flatten); exact rfl; exact rfl; exact rfl; exact rfl; exact .here; exact flat2 _; exact .inr ⟨_, _, rfl, fun i v hi => Rd.there (hr i v hi)⟩; exact h1; (simp only [sliceLen]; omega); exact trivial) | refine wM ?_)
  rintro v' L' rfl
  repeat (first | refine wo_nil ?_ | refine wA ?_ | refine we_ret ?_)
  (first | refine or1 Try.func59 Try.results59 hQ rfl ?_ | refine on1 Try.func59 Try.results59 hQ rfl ?_)
  exact ⟨rfl, rfl⟩
theorem marks_tr (hl : marks.length < 1000000) (hh : Has L (notesC nb marks) F) :
  Tr Try.prog B 38 [.pointer (some ⟨nb, 0, none⟩)] L x fun v L' x' => L' = vec 2 v (marks.map mark2).flatten :: notesC nb marks :: F ∧ x' = x := by
 refine tr_ex hh fun mv => tr_star _ (fun h st => star_open st) ?_
 simp only [List.cons_append, List.nil_append]
 refine Tr.post (R := fun v L' x' => L' = vec 2 v (marks.map mark2).flatten :: arr nb 0 [.bool true, mv] :: vec 2 mv (marks.map mark2).flatten :: F ∧ x' = x) ?_
  (by
   rintro v L' x' ⟨rfl, rfl⟩
   exact ⟨_, ⟨rfl, rfl⟩, fun h st => star_map st (fun _ y => y) (fun _ y => star_map (star_shut (M := [_, _]) y) (fun _ z => ⟨mv, z⟩) (fun _ z => z))⟩)
 refine tr_pure (of_has (.there .here) (vec_shape (by omega))) ?_
 rintro ⟨ra, rl, rc, rfl, hlen, hrc, hra, hra2⟩
 rw [flat2] at hlen
 have hrl : rl = marks.length := by omega
 subst hrl
 have hr0 : Rd (arr nb 0 [.bool true, .slice ra marks.length rc] :: vec 2 (.slice ra marks.length rc) (marks.map mark2).flatten :: F) nb 0 (.bool true) := Rd.row (k := 0) rfl rfl
 have hr1 : Rd (arr nb 0 [.bool true, .slice ra marks.length rc] :: vec 2 (.slice ra marks.length rc) (marks.map mark2).flatten :: F) nb 1 (.slice ra marks.length rc) := Rd.row (k := 1) rfl rfl
 have ha : (ra = none ∧ marks.length = 0) ∨ ∃ b o, ra = some ⟨b, o, none⟩ ∧ Rds (arr nb 0 [.bool true, .slice ra marks.length rc] :: vec 2 (.slice ra marks.length rc) (marks.map mark2).flatten :: F) b o (marks.map mark2).flatten := by
  cases ra with
  | none => exact .inl ⟨rfl, hra rfl⟩
  | some y =>
   obtain ⟨b, o, sp⟩ := y
   cases hra2 _ rfl
   exact .inr ⟨b, o, rfl, fun i v hi => rd_vec (.there .here) hi⟩
 refine tr_of_body Try.func38 rfl Try.ntmps38 (by simp) fun um Q _ hQ => ?_
 simp only [argE, Nat.zero_add, Nat.reduceAdd]
 repeat (first | (apply wo_po; apply mo_load; exact rfl; exact hr0; exact gY) | (apply wo_po; apply mo_load; exact rfl; exact hr1; exact trivial) | refine we_seq ?_ | (refine wR ?_; try simp only [oS]) | refine wo_nil ?_ | refine wM ?_ | refine wA ?_ | refine wJ ?_ | refine wN ?_ | refine wD ?_ | (apply wo_po; apply mo_not; exact rfl; exact gY) | (apply wo_po; apply mo_bin; exact rfl; exact rfl; apply bin_eq; apply eql_ptr_nil; exact gY) | refine wF ?_ | refine we_skip ?_)
 refine wo_call (.cons rfl .nil) trivial (clone_tr hl rfl ha) ?_
 rintro v L' x' ⟨rfl, rfl⟩
 repeat (first | refine wo_nil ?_ | refine wA ?_ | refine we_ret ?_)
 (first | refine or1 Try.func38 Try.results38 hQ rfl ?_ | refine on1 Try.func38 Try.results38 hQ rfl ?_)
 exact ⟨rfl, rfl⟩
end
end Go.Proofs.Ytodgemainhokjaa
namespace Go.Proofs.Ytodgemainhokjaa
open Go Go.PB
attribute [local irreducible] Mo Bin Eql Tr Wo Ap Wle
section
section
variable {B : Hand} [Lets B] {x : B.X} {r n nb : Nat} {L F : List HProp} {h : Hp} {ws ws' : List Nat} {ms : List (Int × Nat)} {v : Nat} {f f' : Nat → Nat}
def sNotes (x : B.X) (r n nb : Nat) : Acc B (.iface 89 (.pointer (some ⟨nb, 0, none⟩))) := notesAcc x (sAddr r) (n + 1) (sK r n) (s_apart r n) nb
theorem sn_at (h1 : 1 ≤ n) (h2 : n ≤ 16) : SeqAt (sNotes x r n nb) r n := ⟨h1, h2, fun s => rd_in1 (Rd.of .here sC_rd), rfl, fun i _ => s_addr⟩
def wMarks : Nat → Nat → List (Int × Nat)
 | 0, _ => []
 | k + 1, i => (2, 1 + i) :: wMarks k (i + 1)
theorem wMarks_len : ∀ k i, (wMarks k i).length = k
 | 0, _ => rfl
 | k + 1, i => by simp [wMarks, wMarks_len k]
theorem wloop_notes {K : (Nat → Nat) × List (Int × Nat) → Prop} : ∀ (l : List Nat) (i : Nat) (s : Nat → Nat) (ms : List (Int × Nat)), i + l.length ≤ n → ms.length + l.length < 1000000 → K (updL s l i, ms ++ wMarks l.length i) → WLoop (sNotes x r n nb) K l i (s, ms)
 | [], i, s, ms, _, _, hk => by
  show K (s, ms)
  simpa [wMarks, updL] using hk
 | w :: l, i, s, ms, hl, hm, hk => ⟨by simp at hm; show ms.length < 1000000; omega, by simp at hl; show 1 + i < n + 1; omega, wloop_notes l (i + 1) _ _ (by simp at hl; omega) (by simp at hm ⊢; omega) (by
   simpa [wMarks, updL] using hk)⟩
def writeMs (n : Nat) : List (Int × Nat) := (1, 0) :: (5, 0) :: (wMarks n 0 ++ [(2, 0)])
theorem write_note (h1 : 1 ≤ n) (h2 : n ≤ 16) {wa : Option Addr} {wc : Nat} (hlen : ws'.length = n) (hb : ∀ w ∈ ws', w < 18446744073709551616) (hv : v % 2 = 0) (hv2 : v + 2 < 18446744073709551616) (hm : ms.length < 100000) (hh : Has L (all [sC r n (recF ws v), notesC nb ms]) F) (hw : RdsO F wa n (ws'.map num)) :
  Tr Try.prog B 14 [.pointer (some ⟨r, 0, none⟩), .iface 89 (.pointer (some ⟨nb, 0, none⟩)), .slice wa n wc] L x fun v' L' x' => v' = .tuple #[.int .u64 ((v + 2 : Nat) : Int), .int .i64 0] ∧ L' = sC r n (recF ws' (v + 2)) :: notesC nb (ms ++ writeMs n) :: F ∧ x' = x := by
 refine (write_tr (A := sNotes x r n nb) (sn_at h1 h2) (ws := ws') hlen hb (s := (recF ws v, ms)) (Q := fun o s => o = some (v + 2) ∧ (∀ i, i < n + 1 → s.1 i = recF ws' (v + 2) i) ∧ s.2 = ms ++ writeMs n) ?_ hh hw).post ?_
 ·refine ⟨by show ms.length < 1000000; omega, by show 0 < n + 1; omega, ?_⟩
  show if v % 2 = 0 then _ else _
  rw [if_pos hv]
  refine ⟨by show (ms ++ [_]).length < 1000000; simp; omega, by show 0 < n + 1; omega, ?_⟩
  show if v = v then _ else _
  rw [if_pos rfl]
  show if true = true then _ else _
  rw [if_pos rfl]
  dsimp only
  rw [show (recF ws v) 0 = v from rfl, Nat.mod_eq_of_lt (by omega), Nat.mod_eq_of_lt (by omega)]
  refine wloop_notes ws' 0 _ _ (by omega) (by simp; omega) ⟨by show List.length _ < 1000000; simp [wMarks_len]; omega, by show 0 < n + 1; omega, rfl, upd_rec hlen, ?_⟩
  simp [writeMs, hlen]
 ·rintro v' L' x' ⟨o, ⟨s1, s2⟩, ⟨rfl, he, rfl⟩, rfl, rfl, rfl⟩
  exact ⟨_, ⟨rfl, rfl, rfl⟩, fun h st => star_map (star_open (M := [_, _]) st) (sC_congr he) fun _ z => z⟩
end
end
end Go.Proofs.Ytodgemainhokjaa
namespace Go.Proofs.Ytodgemainhokjaa
open Go Go.PB
attribute [local irreducible] Mo Bin Eql Tr Wo
section
variable {B : Hand} [Lets B] {L : List HProp} {x : B.X}
theorem tmod_emod {n k : Int} (hk : 0 < k) : (n.tmod k < 0 → n.tmod k + k = n % k) ∧ (¬ n.tmod k < 0 → n.tmod k = n % k) := by
 have h1 := Int.emod_nonneg n (by omega : k ≠ 0)
 have h2 := Int.emod_lt_of_pos n hk
 have h3 : n.tmod k = n % k - ((if 0 ≤ n ∨ k ∣ n then 0 else k.natAbs : Nat) : Int) := Int.tmod_eq_emod
 have h4 := Int.tmod_lt_of_pos n hk
 split at h3
 ·constructor <;> intro h5 <;> omega
 ·rename_i hn
  have h6 : n % k ≠ 0 := fun h => hn (.inr (Int.dvd_of_emod_eq_zero h))
  constructor <;> intro h5 <;> omega
theorem within_tr {n k : Int} (hn : -9223372036854775808 ≤ n ∧ n ≤ 9223372036854775807) (hk : 0 < k ∧ k ≤ 1000000) :
  Tr Try.prog B 10 [.int .i64 n, .int .i64 k] L x fun v L' x' => v = .int .i64 (n % k) ∧ L' = L ∧ x' = x := by
 have ht := tmod_emod (n := n) hk.1
 have h1 := Int.emod_nonneg n (by omega : k ≠ 0)
 have h2 := Int.emod_lt_of_pos n hk.1
 have hlt := Int.tmod_lt_of_pos n hk.1
 obtain ⟨m, hm⟩ : ∃ m, n % k = m := ⟨_, rfl⟩
 obtain ⟨t, hte⟩ : ∃ t, n.tmod k = t := ⟨_, rfl⟩
 rw [hm] at ht h1 h2
 rw [hte] at ht hlt
 rw [hm]
 by_cases hneg : t < 0
 ·have e := ht.1 hneg
  refine tr_of_body Try.func10 rfl Try.ntmps10 (by simp) fun um Q _ hQ => ?_
  simp only [argE, Nat.zero_add, Nat.reduceAdd]
  repeat (first | (apply wo_po; apply mo_bin; exact rfl; exact rfl; apply bin_rem; omega; exact hte; exact trivial) | refine wlssT ?_ | refine we_seq ?_ | (refine wR ?_; try simp only [oS]) | refine wo_nil ?_ | refine wM ?_ | refine wA ?_ | refine wadd ?_ | refine wT ?_ | refine we_ret ?_)
  (first | refine or1 Try.func10 Try.results10 hQ rfl ?_ | refine on1 Try.func10 Try.results10 hQ rfl ?_)
  exact ⟨by rw [e], rfl, rfl⟩
 ·have e := ht.2 hneg
  refine tr_of_body Try.func10 rfl Try.ntmps10 (by simp) fun um Q _ hQ => ?_
  simp only [argE, Nat.zero_add, Nat.reduceAdd]
  repeat (first | (apply wo_po; apply mo_bin; exact rfl; exact rfl; apply bin_rem; omega; exact hte; exact trivial) | refine wlssF ?_ | refine we_seq ?_ | (refine wR ?_; try simp only [oS]) | refine wo_nil ?_ | refine wM ?_ | refine wA ?_ | refine wF ?_ | refine we_ret ?_ | refine we_skip ?_)
  (first | refine or1 Try.func10 Try.results10 hQ rfl ?_ | refine on1 Try.func10 Try.results10 hQ rfl ?_)
  exact ⟨by rw [e], rfl, rfl⟩
def sameInv (x : B.X) (L : List HProp) (a a' : Option Addr) (n c c' : Nat) (l l' : List Nat) : Inv Nat B.X where
 e := fun i => [(0, .slice a n c), (1, .slice a' n c'), (5, .int .i64 i)]
 L := fun _ => L
 x := fun _ => x
 ok := fun i => i ≤ n ∧ l.take i = l'.take i
theorem same_words_tr {a a' : Option Addr} {n n' c c' : Nat} {l l' : List Nat} (hn : n = l.length) (hn' : n' = l'.length) (hl : n < 1000000000000000) (h1 : RdV L a l) (h2 : RdV L a' l') :
  Tr Try.prog B 22 [.slice a n c, .slice a' n' c'] L x fun v L' x' => v = .bool (decide (l = l')) ∧ L' = L ∧ x' = x := by
 by_cases hlen : n = n'
 ·subst hlen
  refine tr_of_body Try.func22 rfl Try.ntmps22 (by simp) fun um Q _ hQ => ?_
  simp only [argE, Nat.zero_add, Nat.reduceAdd]
  repeat (first | refine wneqF ?_ | refine we_seq ?_ | (refine wR ?_; try simp only [oS]) | refine wo_nil ?_ | refine wM ?_ | refine wA ?_ | refine wE ?_ | refine wF ?_ | refine we_skip ?_ | refine we_block ?_)
  refine we_loopN (sameInv x L a a' n c c' l l') (fun i => n - i) 0 ⟨by omega, by simp⟩ ⟨rfl, rfl, rfl, trivial⟩ .refl rfl ?_
  rintro i ⟨hi, ht⟩
  dsimp only [sameInv] at hi ht ⊢
  by_cases hc : i < n
  ·obtain ⟨v, hv⟩ : ∃ v, l[i]? = some v := ⟨l[i]'(by omega), by simp⟩
   obtain ⟨v', hv'⟩ : ∃ v, l'[i]? = some v := ⟨l'[i]'(by omega), by simp⟩
   obtain ⟨b1, o1, rfl, r1⟩ := h1 i v hv
   obtain ⟨b2, o2, rfl, r2⟩ := h2 i v' hv'
   by_cases he : v = v'
   ·have he' : (v : Int) = v' := by omega
    repeat (first | refine wlssT ?_ | refine we_seq ?_ | (refine wR ?_; try simp only [oS]) | refine wo_nil ?_ | refine wM ?_ | refine wE ?_ | refine wT ?_ | refine we_skip ?_ | refine we_block ?_)
    refine we_draw [0, 1, 2, 3, 4, 5, 6, 7, 8] (by kernel_rfl) ?_
    repeat (first | (apply ap_pure; exact rfl; exact rfl; exact trivial; intro L; apply mo_indexAddr (r := o1 + i); exact rfl; exact rfl; omega; omega; omega) | (apply ap_pure; exact rfl; exact rfl; exact trivial; intro L; apply mo_indexAddr (r := o2 + i); exact rfl; exact rfl; omega; omega; omega) | (apply ap_read; exact rfl; exact rfl; exact trivial; apply mo_load; exact rfl; exact r1) | (apply ap_read; exact rfl; exact rfl; exact trivial; apply mo_load; exact rfl; exact r2) | (apply ap_pure; exact rfl; exact rfl; exact trivial; intro L; apply mo_bin; exact rfl; exact rfl; apply bin_neqF; omega) | refine aM ?_ | refine ap_end ?_)
    repeat (first | (refine wR ?_; try simp only [oS]) | refine wo_nil ?_ | refine wM ?_ | refine wA ?_ | refine wadd ?_ | refine wF ?_ | refine we_skip ?_)
    refine at_round (I := sameInv x L _ _ n c c' l l') (R := fun i' => n - i' < n - i) (i + 1) (by omega) ⟨by omega, ?_⟩ ⟨rfl, rfl, rfl, trivial⟩ .refl rfl
    rw [List.take_add_one, List.take_add_one, ht, hv, hv', he]
   ·have he' : ¬ (v : Int) = v' := by omega
    repeat (first | refine wlssT ?_ | refine we_seq ?_ | (refine wR ?_; try simp only [oS]) | refine wo_nil ?_ | refine wM ?_ | refine wE ?_ | refine wT ?_ | refine we_skip ?_ | refine we_block ?_)
    refine we_draw [0, 1, 2, 3, 4, 5, 6, 7, 8] (by kernel_rfl) ?_
    repeat (first | (apply ap_pure; exact rfl; exact rfl; exact trivial; intro L; apply mo_indexAddr (r := o1 + i); exact rfl; exact rfl; omega; omega; omega) | (apply ap_pure; exact rfl; exact rfl; exact trivial; intro L; apply mo_indexAddr (r := o2 + i); exact rfl; exact rfl; omega; omega; omega) | (apply ap_read; exact rfl; exact rfl; exact trivial; apply mo_load; exact rfl; exact r1) | (apply ap_read; exact rfl; exact rfl; exact trivial; apply mo_load; exact rfl; exact r2) | (apply ap_pure; exact rfl; exact rfl; exact trivial; intro L; apply mo_bin; exact rfl; exact rfl; apply bin_neqT; omega) | refine aM ?_ | refine ap_end ?_)
    repeat (first | refine we_seq ?_ | (refine wR ?_; try simp only [oS]) | refine wo_nil ?_ | refine wA ?_ | refine wT ?_ | refine we_ret ?_)
    (first | refine or1 Try.func22 Try.results22 hQ rfl ?_ | refine on1 Try.func22 Try.results22 hQ rfl ?_)
    have : l ≠ l' := fun h => he (by rw [h, hv'] at hv; cases hv; rfl)
    exact ⟨by rw [decide_eq_false this], rfl, rfl⟩
  ·repeat (first | refine wlssF ?_ | refine we_seq ?_ | (refine wR ?_; try simp only [oS]) | refine wo_nil ?_ | refine wM ?_ | refine wA ?_ | refine wE ?_ | refine wF ?_ | refine we_ret ?_ | refine we_exit ?_)
   (first | refine or1 Try.func22 Try.results22 hQ rfl ?_ | refine on1 Try.func22 Try.results22 hQ rfl ?_)
   have : l = l' := by
    rw [List.take_of_length_le (by omega), List.take_of_length_le (by omega)] at ht
    exact ht
   exact ⟨by rw [decide_eq_true this], rfl, rfl⟩
 ·have hne : ¬ (n : Int) = n' := by omega
  refine tr_of_body Try.func22 rfl Try.ntmps22 (by simp) fun um Q _ hQ => ?_
  simp only [argE, Nat.zero_add, Nat.reduceAdd]
  repeat (first | refine wneqT ?_ | refine we_seq ?_ | (refine wR ?_; try simp only [oS]) | refine wo_nil ?_ | refine wM ?_ | refine wA ?_ | refine wE ?_ | refine wT ?_ | refine we_ret ?_)
  (first | refine or1 Try.func22 Try.results22 hQ rfl ?_ | refine on1 Try.func22 Try.results22 hQ rfl ?_)
  have : l ≠ l' := fun h => hlen (by rw [hn, hn', h])
  exact ⟨by rw [decide_eq_false this], rfl, rfl⟩
end
end Go.Proofs.Ytodgemainhokjaa
namespace Go.Proofs.Ytodgemainhokjaa
open Go Go.PB
attribute [local irreducible] Mo Bin Eql Tr Wo Ap Wle
section
abbrev SwS := (Nat × Nat × Nat) × Nat
abbrev SwT := Nat × Nat × Nat
def swPlan (q : SwT) : Option ((Int × Int) × (SwS → SwS × SwT)) :=
 match q.1, q.2.1 with
 | 0, 0 => some ((((1 : Nat) : Int), ((0 : Nat) : Int)), fun s => if s.1.1 % 2 = 0 then (s, (0, 1, s.1.1)) else ((s.1, 51), (0, 9, 0)))
 | 0, 1 => some ((((1 : Nat) : Int), ((1 : Nat) : Int)), fun s => (s, (0, 2, q.2.2)))
 | 0, 2 => some ((((1 : Nat) : Int), ((2 : Nat) : Int)), fun s => (s, (0, 3, q.2.2)))
 | 0, 3 => some ((((1 : Nat) : Int), ((0 : Nat) : Int)), fun s => if s.1.1 = q.2.2 then ((s.1, 0), (0, 9, 0)) else ((s.1, 51), (0, 9, 0)))
 | 1, 0 => some ((((1 : Nat) : Int), ((0 : Nat) : Int)), fun s => if s.1.1 % 2 = 0 then (s, (1, 1, s.1.1)) else (s, (1, 9, 0)))
 | 1, 1 => some ((((5 : Nat) : Int), ((0 : Nat) : Int)), fun s => if s.1.1 = q.2.2 then ((((q.2.2 + 1) % 18446744073709551616, s.1.2), s.2), (1, 2, q.2.2)) else (s, (1, 9, 0)))
 | 1, 2 => some ((((2 : Nat) : Int), ((1 : Nat) : Int)), fun s => (((s.1.1, 1, s.1.2.2), s.2), (1, 3, q.2.2)))
 | 1, 3 => some ((((2 : Nat) : Int), ((2 : Nat) : Int)), fun s => (((s.1.1, s.1.2.1, 2), s.2), (1, 4, q.2.2)))
 | 1, 4 => some ((((2 : Nat) : Int), ((0 : Nat) : Int)), fun s => ((((q.2.2 + 2) % 18446744073709551616, s.1.2), s.2), (1, 9, 0)))
 | _, _ => none
def swW (s : SwS) (i : Nat) : Nat := match i with | 0 => s.1.1 | 1 => s.1.2.1 | _ => s.1.2.2
def swZ (tb t : Nat) : HProp := all [arr tb 0 [.int .i64 (t : Nat)]]
def swG (tb : Nat) : WGm where
 σ := SwS
 θ := SwT
 ζ := Nat
 wf := swW
 zf := fun s => s.2
 Z := swZ tb
 plan := swPlan
 ok := fun _ => True
 Pv := fun _ _ => True
 up := fun _ _ _ => trivial
section
variable {tb r sb says turn fin wg : Nat} {Pm : HProp}
abbrev swAcc (tb r sb says turn fin wg : Nat) (Pm : HProp) : Acc tH (gateV sb) := gamAcc (swG tb) (sAddr r) 3 (sK r 2) (s_apart r 2) sb says turn fin wg Pm
theorem sw_at : SeqAt (swAcc tb r sb says turn fin wg Pm) r 2 := ⟨by omega, by omega, fun s => rd_in1 (Rd.of .here sC_rd), rfl, fun i _ => s_addr⟩
theorem sw_read {s : GaS (swG tb)} (hq : s.q = ((0, 0, 0) : SwT)) (hf : ∀ j, j < 3 → s.f j = swW s.s j) (hc : s.c = (show SwS from s.s).2) :
  ReadT (swAcc tb r sb says turn fin wg Pm) 2 s fun o s' => s'.q = ((0, 9, 0) : SwT) ∧ (∀ j, j < 3 → s'.f j = swW s'.s j) ∧ (show SwS from s'.s).2 = if o.isSome = true then 0 else 51 := by
 refine ga_go (op := 1) (F := fun s : SwS => if s.1.1 % 2 = 0 then (s, ((0, 1, s.1.1) : SwT)) else ((s.1, 51), ((0, 9, 0) : SwT))) rfl (by rw [hq]; rfl) hf hc (fun _ _ => trivial) fun s1 n1 hn1 _ => ⟨by omega, ?_⟩
 obtain ⟨⟨a1, b1, c1⟩, t1⟩ := s1
 show if a1 % 2 = 0 then _ else _
 by_cases c : a1 % 2 = 0
 ·rw [if_pos c]
  simp only [if_pos c]
  refine ga_go (op := 1) (w := 1) (F := fun s : SwS => (s, ((0, 2, a1) : SwT))) rfl rfl (fun j hj => rfl) rfl (fun _ _ => trivial) fun s2 n2 hn2 _ => ⟨by show 1 < 3; omega, ?_⟩
  refine ga_go (op := 1) (w := 2) (F := fun s : SwS => (s, ((0, 3, a1) : SwT))) rfl rfl (fun j hj => rfl) rfl (fun _ _ => trivial) fun s3 n3 hn3 _ => ⟨by show 2 < 3; omega, ?_⟩
  refine ga_go (op := 1) (w := 0) (F := fun s : SwS => if s.1.1 = a1 then ((s.1, 0), ((0, 9, 0) : SwT)) else ((s.1, 51), ((0, 9, 0) : SwT))) rfl rfl (fun j hj => rfl) rfl (fun _ _ => trivial) fun s4 n4 hn4 _ => ⟨by omega, ?_⟩
  obtain ⟨⟨a4, b4, c4⟩, t4⟩ := s4
  show if a4 = a1 then _ else _
  by_cases e : a4 = a1
  ·rw [if_pos e]
   simp only [if_pos e]
   exact ⟨rfl, fun j hj => by unfold swG swW; rfl, rfl⟩
  ·rw [if_neg e]
   simp only [if_neg e]
   exact ⟨rfl, fun j hj => by unfold swG swW; rfl, rfl⟩
 ·rw [if_neg c]
  simp only [if_neg c]
  exact ⟨rfl, fun j hj => by unfold swG swW; rfl, rfl⟩
theorem sw_write {s : GaS (swG tb)} (hq : s.q = ((1, 0, 0) : SwT)) (hf : ∀ j, j < 3 → s.f j = swW s.s j) (hc : s.c = (show SwS from s.s).2) :
  WriteT (swAcc tb r sb says turn fin wg Pm) [1, 2] s fun o s' => s'.q = ((1, 9, 0) : SwT) ∧ (∀ j, j < 3 → s'.f j = swW s'.s j) ∧ s'.c = (show SwS from s'.s).2 := by
 refine ga_go (op := 1) (F := fun s : SwS => if s.1.1 % 2 = 0 then (s, ((1, 1, s.1.1) : SwT)) else (s, ((1, 9, 0) : SwT))) rfl (by rw [hq]; rfl) hf hc (fun _ _ => trivial) fun s1 n1 hn1 _ => ⟨by omega, ?_⟩
 obtain ⟨⟨a1, b1, c1⟩, t1⟩ := s1
 show if a1 % 2 = 0 then _ else _
 by_cases c : a1 % 2 = 0
 ·rw [if_pos c]
  simp only [if_pos c]
  refine ga_go (op := 5) (w := 0) (F := fun s : SwS => if s.1.1 = a1 then ((((a1 + 1) % 18446744073709551616, s.1.2), s.2), ((1, 2, a1) : SwT)) else (s, ((1, 9, 0) : SwT))) rfl rfl (fun j hj => rfl) rfl (fun _ _ => trivial) fun s2 n2 hn2 _ => ⟨by omega, ?_⟩
  obtain ⟨⟨a2, b2, c2⟩, t2⟩ := s2
  show if a2 = a1 then _ else _
  by_cases e : a2 = a1
  ·rw [if_pos e]
   simp only [if_pos e]
   refine ga_go (op := 2) (w := 1) (F := fun s : SwS => (((s.1.1, 1, s.1.2.2), s.2), ((1, 3, a1) : SwT))) rfl rfl (fun j hj => ?_) rfl (fun _ _ => trivial) fun s3 n3 hn3 _ => ⟨by omega, ?_⟩
   ·match j, hj with
    | 0, _ => rfl
    | 1, _ => rfl
    | 2, _ => rfl
   refine ga_go (op := 2) (w := 2) (F := fun s : SwS => (((s.1.1, s.1.2.1, 2), s.2), ((1, 4, a1) : SwT))) rfl rfl (fun j hj => ?_) rfl (fun _ _ => trivial) fun s4 n4 hn4 _ => ⟨by omega, ?_⟩
   ·match j, hj with
    | 0, _ => rfl
    | 1, _ => rfl
    | 2, _ => rfl
   refine ga_go (op := 2) (w := 0) (F := fun s : SwS => ((((a1 + 2) % 18446744073709551616, s.1.2), s.2), ((1, 9, 0) : SwT))) rfl rfl (fun j hj => ?_) rfl (fun _ _ => trivial) fun s5 n5 hn5 _ => ⟨by omega, ?_⟩
   ·match j, hj with
    | 0, _ => rfl
    | 1, _ => rfl
    | 2, _ => rfl
   refine ⟨rfl, fun j hj => ?_, rfl⟩
   match j, hj with
   | 0, _ => rfl
   | 1, _ => rfl
   | 2, _ => rfl
  ·rw [if_neg e]
   simp only [if_neg e]
   exact ⟨rfl, fun j hj => rfl, rfl⟩
 ·rw [if_neg c]
  simp only [if_neg c]
  exact ⟨rfl, fun j hj => rfl, rfl⟩
abbrev swRo (rb r : Nat) : HProp := fro rb 0 [.pointer (some ⟨r, 0, none⟩)]
abbrev swF1 (rb tb : Nat) : Value := .func (.func 42) #[] #[.pointer (some ⟨rb, 0, none⟩), .pointer (some ⟨tb, 0, none⟩)]
abbrev swF2 (rb : Nat) : Value := .func (.func 43) #[] #[.pointer (some ⟨rb, 0, none⟩)]
theorem sw1_ok {rb : Nat} : ThrOk ((swG tb).g (sAddr r) 3 (sK r 2)) (fun s => (s, ((0, 0, 0) : SwT))) (swF1 rb tb) (swRo rb r) where
 run := by
  refine ⟨_, _, _, rfl, inferInstance, fun sb says turn fin wg (s : SwS) m F hok => ?_⟩
  show Tr Try.prog tH _ [gateV sb, .pointer (some ⟨rb, 0, none⟩), .pointer (some ⟨tb, 0, none⟩)] _ (tx ((swG tb).g (sAddr r) 3 (sK r 2)) says turn fin wg (.busy s ((0, 0, 0) : SwT) m)) _
  refine tr_star (gaC (swG tb) (sAddr r) 3 (sK r 2) sb says turn fin (all []) (swW s) s.2 :: swRo rb r :: F) (fun hp st => ?_) ?_
  ·have s1 : Star (wds (sAddr r) 3 (sK r 2) (swW s) :: swZ tb s.2 :: seatR sb says turn fin :: swRo rb r :: F) hp := star_open (M := [_, _]) st
   have s2 : Star (all [] :: wds (sAddr r) 3 (sK r 2) (swW s) :: swZ tb s.2 :: seatR sb says turn fin :: swRo rb r :: F) hp := star_shut (M := []) s1
   exact star_shut (M := [_, _, _, _]) (Ent.star (.take (.there .here) (.take (.there .here) (.take (.there .here) (.take .here .refl)))) s2)
  have q1 : ∀ {c : HProp}, Rd (c :: swRo rb r :: F) rb 0 (.pointer (some ⟨r, 0, none⟩)) := fun {c} => .there (Rd.fro (k := 0) rfl rfl)
  refine tr_of_body Try.func42 rfl Try.ntmps42 (by simp) fun um Q _ hQ => ?_
  simp only [argE, Nat.zero_add, Nat.reduceAdd]
  repeat (first | (apply wo_po; apply mo_load; exact rfl; exact q1; exact trivial) | (refine wR ?_; try simp only [oS]) | refine wM ?_)
  refine wo_call (.cons rfl (.cons rfl .nil)) trivial (read_tr (A := swAcc tb r sb says turn fin wg (all [])) sw_at (s := ⟨swW s, s.2, s, ((0, 0, 0) : SwT), m⟩) (sw_read rfl (fun j hj => rfl) rfl) .here) ?_
  rintro v L' x' ⟨q, s', rv, ⟨hq, hf, hz⟩, _, rfl, rfl, rfl⟩
  refine wo_star (arr tb 0 [.int .i64 ((show Nat from s'.c) : Nat)] :: wds (sAddr r) 3 (sK r 2) s'.f :: seatR sb says turn fin :: F) (fun hp st => ?_) ?_
  ·have s1 : Star (wds (sAddr r) 3 (sK r 2) s'.f :: swZ tb s'.c :: seatR sb says turn fin :: all [] :: vec 1 rv ((rdW q).map num) :: swRo rb r :: F) hp := star_open (M := [_, _, _, _]) st
   have s2 : Star (arr tb 0 [.int .i64 ((show Nat from s'.c) : Nat)] :: wds (sAddr r) 3 (sK r 2) s'.f :: seatR sb says turn fin :: all [] :: vec 1 rv ((rdW q).map num) :: swRo rb r :: F) hp := star_open (M := [_]) (Ent.star (.take (.there .here) .refl) s1)
   exact Ent.star (.take .here (.take .here (.take .here (.drop (.drop (.drop .refl)))))) s2
  repeat (first | refine wS ?_ | refine wo_nil ?_ | refine wM ?_ | (apply wo_po; apply mo_extract; exact rfl; exact rfl; exact gY))
  (first | refine or0 Try.func42 Try.results42 hQ ?_ | refine on0 Try.func42 Try.results42 hQ ?_)
  refine ⟨s'.s, s'.q, s'.n, rfl, ?_, fun hp st => ?_⟩
  ·show swPlan s'.q = none
   rw [hq]; rfl
  ·have e : (.int .i64 (if q.isSome = true then 0 else 51) : Value) = .int .i64 (((show SwS from s'.s).2 : Nat) : Int) := by rw [hz]; split <;> rfl
   have s1 : Star (swZ tb (show SwS from s'.s).2 :: wds (sAddr r) 3 (sK r 2) s'.f :: seatR sb says turn fin :: F) hp := star_shut (M := [_]) (by rw [e] at st; exact st)
   have s2 : Star (wds (sAddr r) 3 (sK r 2) (swW s'.s) :: swZ tb (show SwS from s'.s).2 :: seatR sb says turn fin :: F) hp := star_map (star_swap s1) (wds_congr hf) fun _ z => z
   exact star_map (star_shut (M := [_, _]) s2) (fun _ z => z) fun _ z => star_map z (fun _ z => z) fun _ z => star_shut (M := []) z
theorem sw2_ok {rb : Nat} : ThrOk ((swG tb).g (sAddr r) 3 (sK r 2)) (fun s => (s, ((1, 0, 0) : SwT))) (swF2 rb) (swRo rb r) where
 run := by
  refine ⟨_, _, _, rfl, inferInstance, fun sb says turn fin wg (s : SwS) m F hok => ?_⟩
  show Tr Try.prog tH _ [gateV sb, .pointer (some ⟨rb, 0, none⟩)] _ (tx ((swG tb).g (sAddr r) 3 (sK r 2)) says turn fin wg (.busy s ((1, 0, 0) : SwT) m)) _
  refine tr_star (gaC (swG tb) (sAddr r) 3 (sK r 2) sb says turn fin (all []) (swW s) s.2 :: swRo rb r :: F) (fun hp st => ?_) ?_
  ·have s1 : Star (wds (sAddr r) 3 (sK r 2) (swW s) :: swZ tb s.2 :: seatR sb says turn fin :: swRo rb r :: F) hp := star_open (M := [_, _]) st
   have s2 : Star (all [] :: wds (sAddr r) 3 (sK r 2) (swW s) :: swZ tb s.2 :: seatR sb says turn fin :: swRo rb r :: F) hp := star_shut (M := []) s1
   exact star_shut (M := [_, _, _, _]) (Ent.star (.take (.there .here) (.take (.there .here) (.take (.there .here) (.take .here .refl)))) s2)
  have q1 : ∀ {c d : HProp}, Rd (c :: swRo rb r :: F) rb 0 (.pointer (some ⟨r, 0, none⟩)) := fun {c d} => .there (Rd.fro (k := 0) rfl rfl)
  refine tr_of_body Try.func43 rfl Try.ntmps43 (by simp) fun um Q _ hQ => ?_
  simp only [argE, Nat.zero_add, Nat.reduceAdd]
  repeat (first | (apply wo_po; apply mo_load; exact rfl; exact q1 (d := all []); exact trivial) | (apply wo_mo; apply mo_buildSlice (sz := 1) (vs := [num 1, num 2]); exact rfl; exact .cons rfl (.cons rfl .nil); exact rfl; (intro v hv; simp at hv; rcases hv with rfl | rfl <;> rfl); omega; exact trivial) | (refine wR ?_; try simp only [oS]) | refine wM ?_)
  rintro v' L' ⟨nb, rfl, rfl⟩
  skip
  refine wo_call (.cons rfl (.cons rfl (.cons rfl .nil))) trivial (write_tr (A := swAcc tb r sb says turn fin wg (all [])) sw_at (ws := [1, 2]) rfl (by decide) (s := ⟨swW s, s.2, s, ((1, 0, 0) : SwT), m⟩) (sw_write rfl (fun j hj => rfl) rfl) (.there .here) ⟨rfl, .inr ⟨_, _, rfl, Rds.all .here⟩⟩) ?_
  rintro v L' x' ⟨q, s', ⟨hq, hf, hz⟩, rfl, rfl, rfl⟩
  repeat (first | refine wo_nil ?_)
  (first | refine or0 Try.func43 Try.results43 hQ ?_ | refine on0 Try.func43 Try.results43 hQ ?_)
  refine ⟨s'.s, s'.q, s'.n, rfl, ?_, fun hp st => ?_⟩
  ·show swPlan s'.q = none
   rw [hq]; rfl
  ·have s1 : Star (wds (sAddr r) 3 (sK r 2) s'.f :: swZ tb s'.c :: seatR sb says turn fin :: all [] :: _) hp := star_open (M := [_, _, _, _]) st
   rw [hz] at s1
   have s2 : Star (wds (sAddr r) 3 (sK r 2) (swW s'.s) :: swZ tb (show SwS from s'.s).2 :: seatR sb says turn fin :: all [] :: _) hp := star_map s1 (wds_congr hf) fun _ z => z
   exact star_map (star_shut (M := [_, _]) s2) (fun _ z => z) fun _ z => star_map z (fun _ z => z) fun _ z => star_map z (fun _ _ => trivial) fun _ z => Ent.star (.drop (.drop .refl)) z
end
def swT (rb tb r : Nat) : List (Thr ((swG tb).g (sAddr r) 3 (sK r 2))) := [⟨swF1 rb tb, fun s => (s, ((0, 0, 0) : SwT)), swRo rb r⟩, ⟨swF2 rb, fun s => (s, ((1, 0, 0) : SwT)), swRo rb r⟩]
theorem sw_plays {rb tb r : Nat} : playF (swT rb tb r) (((2, 7, 8), 0) : SwS) [0, 1, 0] = (⟨((4, 1, 2), 51), [((0, 9, 0) : SwT), ((1, 9, 0) : SwT)], [(0, (1, 0)), (1, (1, 0)), (0, (1, 1)), (0, (1, 2)), (1, (5, 0)), (0, (1, 0)), (1, (2, 1)), (1, (2, 2)), (1, (2, 0))]⟩ : PS ((swG tb).g (sAddr r) 3 (sK r 2))) := by kernel_rfl
theorem rdV_two {L F : List HProp} {b : Nat} {l : List Nat} (hh : Has L (arr b 0 (l.map num)) F) : RdV L (some ⟨b, 0, none⟩) l := fun i v hi =>
 ⟨b, 0, rfl, Rds.all hh i _ (by rw [List.getElem?_map, hi]; rfl)⟩
theorem rdV_vec {L F : List HProp} {a : Option Addr} {n c : Nat} {l : List Nat} (hh : Has L (vec 1 (.slice a n c) (l.map num)) F) (hz : a = none → n = 0) (hn : n = l.length) (hy : ∀ y, a = some y → y = ⟨y.block, y.off, none⟩) : RdV L a l :=
 RdV.vec hh hy fun e => List.length_eq_zero_iff.1 (by rw [← hn]; exact hz e)
set_option maxHeartbeats 2000000 in
theorem awake_tr {L : List HProp} : Tr Try.prog mT 9 [] L .idle fun v L' x' => v = .bool true ∧ L' = L ∧ x' = .idle := by
 refine Tr.post (R := fun v L' x' => v = .bool true ∧ x' = MX.idle ∧ ∀ h, Star L' h → Star L h) ?_
  (by rintro v L' x' ⟨rfl, rfl, h2⟩; exact ⟨_, ⟨rfl, rfl, rfl⟩, h2⟩)
 refine tr_of_body Try.func9 rfl Try.ntmps9 (by simp) fun um Q _ hQ => ?_
 simp only [argE, Nat.zero_add, Nat.reduceAdd]
 repeat (first | (apply wo_mo; apply mo_buildSlice (sz := 1) (vs := [num 5, num 6]); exact rfl; exact .cons rfl (.cons rfl .nil); exact rfl; (intro v hv; simp at hv; rcases hv with rfl | rfl <;> rfl); omega; exact trivial) | refine we_seq ?_ | (refine wR ?_; try simp only [oS]) | refine wo_nil ?_ | refine wA ?_)
 rintro v' L' ⟨b1, rfl, rfl⟩
 refine wo_ent (arr b1 0 ([5, 6].map num) :: L) .refl ?_
 skip
 refine wo_call (.cons rfl .nil) trivial (snew_tr (n := 2) (ws := [5, 6]) (by omega) (by omega) rfl (by decide) ⟨rfl, .inr ⟨_, _, rfl, Rds.all .here⟩⟩) ?_
 rintro v' L' x' ⟨r, rfl, rfl, rfl⟩
 repeat (first | (apply wo_mo; apply mo_alloc; exact trivial) | refine wM ?_ | (apply wo_po; apply mo_extract; exact rfl; exact rfl; exact gY))
 rintro v' L' ⟨rb, rfl, rfl⟩
 repeat (first | refine wS ?_ | refine wneqF ?_ | refine we_seq ?_ | (refine wR ?_; try simp only [oS]) | refine wo_nil ?_ | refine wM ?_ | refine wA ?_ | refine wJ ?_ | refine wL ?_ | (apply wo_po; apply mo_bin; exact rfl; exact rfl; apply bin_eq; apply eql_ptr_nil; exact gY) | refine wF ?_ | refine we_skip ?_)
 refine wo_call .nil trivial new_notes_tr ?_
 rintro v' L' x' ⟨nb, rfl, rfl, rfl⟩
 refine wo_star (all [sC r 2 (recF [5, 6] 0), notesC nb []] :: arr rb 0 [.pointer (some ⟨r, 0, none⟩)] :: arr b1 0 ([5, 6].map num) :: L) (fun h st => star_shut (M := [_, _]) (Ent.star (.take (.there (.there .here)) (.take .here (.take .here .refl))) st)) ?_
 repeat (first | (apply wo_po; apply mo_makeInterface; exact rfl; exact trivial) | (apply wo_mo; apply mo_buildSlice (sz := 1) (vs := [num 7, num 8]); exact rfl; exact .cons rfl (.cons rfl .nil); exact rfl; (intro v hv; simp at hv; rcases hv with rfl | rfl <;> rfl); omega; exact trivial) | refine we_seq ?_ | (refine wR ?_; try simp only [oS]) | refine wo_nil ?_ | refine wM ?_ | refine wA ?_ | refine wL ?_)
 rintro v' L' ⟨b2, rfl, rfl⟩
 refine wo_ent (arr b2 0 ([7, 8].map num) :: all [sC r 2 (recF [5, 6] 0), notesC nb []] :: arr rb 0 [.pointer (some ⟨r, 0, none⟩)] :: arr b1 0 ([5, 6].map num) :: L) .refl ?_
 skip
 refine wo_call (.cons rfl (.cons rfl (.cons rfl .nil))) trivial (write_note (n := 2) (ws := [5, 6]) (ws' := [7, 8]) (v := 0) (by omega) (by omega) rfl (by decide) rfl (by omega) (by decide) (.there .here) ⟨rfl, .inr ⟨_, _, rfl, Rds.all .here⟩⟩) ?_
 rintro v' L' x' ⟨rfl, rfl, rfl⟩
 repeat (first | refine we_seq ?_ | (refine wR ?_; try simp only [oS]) | refine wo_nil ?_ | refine wM ?_ | refine wA ?_ | (apply wo_po; apply mo_extract; exact rfl; exact rfl; exact gY) | refine wL ?_)
 refine wo_call (.cons rfl (.cons rfl .nil)) trivial (read_lone (n := 2) (ws := [7, 8]) (v := 2) (by omega) (by omega) rfl rfl .here) ?_
 rintro v' L' x' ⟨rv, rfl, rfl, rfl⟩
 refine wo_pure (of_has (.there .here) (vec_shape (by omega))) ?_
 rintro ⟨ra, rl, rc, rfl, hlen, hrc, hra, hra2⟩
 obtain rfl : rl = 2 := by simp at hlen; omega
 repeat (first | (apply wo_mo; apply mo_buildSlice (sz := 1) (vs := [num 7, num 8]); exact rfl; exact .cons rfl (.cons rfl .nil); exact rfl; (intro v hv; simp at hv; rcases hv with rfl | rfl <;> rfl); omega; exact rfl) | refine wneqF ?_ | refine we_seq ?_ | (refine wR ?_; try simp only [oS]) | refine wo_nil ?_ | refine wM ?_ | refine wA ?_ | refine wJ ?_ | (apply wo_po; apply mo_extract; exact rfl; exact rfl; exact gY))
 rintro v' L' ⟨b3, rfl, rfl⟩
 refine wo_ent (arr b3 0 ([7, 8].map num) :: sC r 2 (recF [7, 8] 2) :: vec 1 (.slice ra 2 rc) ([7, 8].map num) :: notesC nb (writeMs 2) :: arr rb 0 [.pointer (some ⟨r, 0, none⟩)] :: L) (.take .here (.take .here (.take .here (.take .here (.take (.there .here) (.drop (.drop .refl))))))) ?_
 skip
 refine wo_call (.cons rfl (.cons rfl .nil)) rfl (same_words_tr (l := [7, 8]) (l' := [7, 8]) rfl rfl (by omega) (rdV_vec (.there (.there .here)) hra rfl hra2) (rdV_two .here)) ?_
 rintro v' L' x' ⟨rfl, rfl, rfl⟩
 repeat (first | refine wM ?_ | refine wJ ?_ | (apply wo_po; apply mo_not; exact rfl; exact gY))
 refine wo_call (.cons rfl .nil) rfl (marks_tr (marks := writeMs 2) (by decide) (.there (.there (.there .here)))) ?_
 rintro mv L' x' ⟨rfl, rfl⟩
 refine wo_pure (of_has .here (vec_shape (by omega))) ?_
 rintro ⟨ma, ml, mc, rfl, hml, _⟩
 obtain rfl : ml = 5 := by simp [writeMs, wMarks, mark2] at hml; omega
 repeat (first | (apply wo_mo; apply mo_alloc; exact trivial) | refine wneqF ?_ | refine we_seq ?_ | (refine wR ?_; try simp only [oS]) | refine wo_nil ?_ | refine wJ ?_ | refine wE ?_ | refine wF ?_ | refine we_skip ?_)
 rintro v' L' ⟨tb, rfl, rfl⟩
 repeat (first | refine wS ?_ | refine we_seq ?_ | (refine wR ?_; try simp only [oS]) | refine wo_nil ?_)
 refine wo_ent (arr tb 0 [.int .i64 0] :: sC r 2 (recF [7, 8] 2) :: arr rb 0 [.pointer (some ⟨r, 0, none⟩)] :: L) (.take .here (.take (.there (.there (.there .here))) (.take (.there (.there (.there (.there .here)))) (.drop (.drop (.drop (.drop .refl))))))) ?_
 repeat (first | (apply wo_mo; apply mo_buildSlice (sz := 1) (vs := [.int .i64 0, .int .i64 1, .int .i64 0]); exact rfl; exact .cons rfl (.cons rfl (.cons rfl .nil)); exact rfl; (intro v hv; simp at hv; rcases hv with rfl | rfl | rfl <;> rfl); omega; exact trivial))
 rintro v' L' ⟨ob, rfl, rfl⟩
 repeat (first | (apply wo_po; apply mo_makeFunc (first := []) (cap := [_, _]) (vf := []); exact .nil; exact .cons rfl (.cons rfl .nil); exact trivial) | (apply wo_po; apply mo_makeFunc (first := []) (cap := [_]) (vf := []); exact .nil; exact .cons rfl .nil; exact trivial) | (apply wo_mo; apply mo_buildSlice (sz := 1) (vs := [swF1 rb tb, swF2 rb]); exact rfl; exact .cons rfl (.cons rfl .nil); exact rfl; (intro v hv; simp at hv; rcases hv with rfl | rfl <;> rfl); omega; exact trivial))
 rintro v' L' ⟨fb, rfl, rfl⟩
 refine wo_ent (arr fb 0 [swF1 rb tb, swF2 rb] :: arr ob 0 [.int .i64 0, .int .i64 1, .int .i64 0] :: arr tb 0 [.int .i64 0] :: sC r 2 (recF [7, 8] 2) :: arr rb 0 [.pointer (some ⟨r, 0, none⟩)] :: L) .refl ?_
 refine wo_frz (b := rb) (o := 0) (.there (.there (.there (.there .here)))) ?_
 refine wo_star (((swG tb).g (sAddr r) 3 (sK r 2)).U (((2, 7, 8), 0) : SwS) :: all ((swT rb tb r).map Thr.M) :: arr fb 0 [swF1 rb tb, swF2 rb] :: arr ob 0 [.int .i64 0, .int .i64 1, .int .i64 0] :: L) (fun h st => ?_) ?_
 ·have s1 : Star (swRo rb r :: swRo rb r :: _) h := fro_two st
  have s2 : Star (all ((swT rb tb r).map Thr.M) :: _) h := star_shut (M := [_, _]) s1
  have s3 : Star (swZ tb 0 :: _) h := star_shut (M := [_]) (Ent.star (.take (.there (.there (.there .here))) .refl) s2)
  have s4 : Star (wds (sAddr r) 3 (sK r 2) (swW ((2, 7, 8), 0)) :: swZ tb 0 :: _) h := star_map (Ent.star (.take (.there (.there (.there (.there .here)))) .refl) s3) (wds_congr fun j hj => by
   match j, hj with
   | 0, _ => rfl
   | 1, _ => rfl
   | 2, _ => rfl) fun _ z => z
  have s5 : Star (((swG tb).g (sAddr r) 3 (sK r 2)).U (((2, 7, 8), 0) : SwS) :: _) h := star_shut (M := [_, _]) s4
  exact Ent.star (.take .here (.take .here (.take .here (.take .here .refl)))) s5
 refine wo_call (.cons rfl (.cons rfl .nil)) trivial (plays_tr (order := [0, 1, 0]) (ts := swT rb tb r) (s0 := (((2, 7, 8), 0) : SwS)) (fun _ => True) (fun _ _ => trivial) trivial (fun _ _ _ => trivial) (fun _ _ _ => trivial) (fun _ _ _ => trivial)
   (by intro t ht; simp [swT] at ht; rcases ht with rfl | rfl; exact sw1_ok; exact sw2_ok) (Nat.zero_lt_succ _) (by show 2 ≤ 16; omega) (by show 3 ≤ 16384; omega)
   ⟨rfl, .inr ⟨_, _, rfl, Rds.all .here⟩⟩ ⟨rfl, .inr ⟨_, _, rfl, Rds.all (.there .here)⟩⟩) ?_
 rw [sw_plays]
 rintro v' L' x' ⟨tv, cv, rfl, rfl, rfl⟩
 refine wo_pure (of_has .here (vec_shape (by omega))) ?_
 rintro ⟨a1, n1, c1, rfl, hn1, _, hz1, hy1⟩
 refine wo_pure (of_has (.there .here) (vec_shape (by omega))) ?_
 rintro ⟨a2, n2, c2, rfl, hn2, _⟩
 refine wo_star (arr tb 0 [.int .i64 51] :: L) (fun h st => ?_) ?_
 ·have s1 : Star (wds (sAddr r) 3 (sK r 2) (swW ((4, 1, 2), 51)) :: swZ tb 51 :: _) h := star_open (M := [_, _]) (Ent.star (.take (.there (.there .here)) .refl) st)
  have s2 : Star (arr tb 0 [.int .i64 51] :: _) h := star_open (M := [_]) (Ent.star (.take (.there .here) .refl) s1)
  exact Ent.star (.take .here (.drop (.drop (.drop (.drop (.drop (.drop .refl))))))) s2
 repeat (first | (apply wo_mo; apply mo_alloc; exact trivial) | refine wM ?_ | (apply wo_po; apply mo_extract; exact rfl; exact rfl; exact gY))
 rintro v' L' ⟨pb, rfl, rfl⟩
 repeat (first | (apply wo_pm; apply mo_storeA (c := 0) (k := 0) (a := 0) (vs := [.slice none 0 0, .slice none 0 0]); exact rfl; exact rfl; exact rfl; (intro w hw; simp [Value.cells] at hw; rcases hw with rfl | rfl <;> rfl); exact rfl; exact Nat.le_refl 2; exact .here; exact trivial) | refine weqlT ?_ | refine we_seq ?_ | (refine wR ?_; try simp only [oS]) | refine wo_nil ?_ | refine wM ?_ | refine wA ?_ | refine wK ?_ | refine wL ?_ | refine we_ret ?_)
 (first | refine or1 Try.func9 Try.results9 hQ rfl ?_ | refine on1 Try.func9 Try.results9 hQ rfl ?_)
 exact ⟨rfl, rfl, fun h st => Ent.star (.drop (.drop .refl)) st⟩
end
section
section
variable {B : Hand} [Lets B] {x : B.X} {L F : List HProp}
end
theorem rdsoV {L F : List HProp} {a : Option Addr} {n c : Nat} {cs : List Value} (hh : Has L (vec 1 (.slice a n c) cs) F) (hn : cs.length = n) (hz : a = none → n = 0) (hy : ∀ y, a = some y → y = ⟨y.block, y.off, none⟩) : RdsO L a n cs := by
 refine ⟨hn.symm, ?_⟩
 cases a with
 | none => exact .inl (hz rfl)
 | some y =>
  refine .inr ⟨y.block, y.off, by rw [hy y rfl], ?_⟩
  have e := hy y rfl
  rw [e] at hh
  exact fun i v hi => rd_vec hh hi
end
section
def filledN (n v : Nat) : List Nat := (List.range n).map fun i => v * 100 + i
theorem range_snoc {α : Type} {f : Nat → α} {i : Nat} : (List.range (i + 1)).map f = (List.range i).map f ++ [f i] := by simp [List.range_succ]
section
variable {B : Hand} [Lets B] {x : B.X} {L F : List HProp}
def filInv (n v : Nat) (x : B.X) (L : List HProp) : PB.Inv (Nat × Value) B.X where
 e := fun i => [(0, .int .i64 (n : Nat)), (1, .int .u64 (v : Nat)), (5, i.2), (6, .int .i64 (i.1 : Nat))]
 L := fun i => vec 1 i.2 ((filledN i.1 v).map num) :: L
 x := fun _ => x
 ok := fun i => i.1 ≤ n
theorem filled_tr {n v : Nat} (hn : n ≤ 16) (hv : v ≤ 1000000) :
  Tr Try.prog B 12 [.int .i64 (n : Nat), .int .u64 (v : Nat)] L x fun rv L' x' => L' = vec 1 rv ((filledN n v).map num) :: L ∧ x' = x := by
 refine Tr.post (R := fun rv L' x' => x' = x ∧ ∀ h, Star L' h → Star (vec 1 rv ((filledN n v).map num) :: L) h) ?_ (by rintro v L' x' ⟨rfl, h2⟩; exact ⟨_, ⟨rfl, rfl⟩, h2⟩)
 refine tr_star (vec 1 (.slice none 0 0) [] :: L) (fun h st => vec_nil st) ?_
 refine tr_of_body Try.func12 rfl Try.ntmps12 (by simp) fun um Q _ hQ => ?_
 simp only [argE, Nat.zero_add, Nat.reduceAdd]
 repeat (first | refine we_seq ?_ | (refine wR ?_; try simp only [oS]) | refine wo_nil ?_ | refine wA ?_ | refine we_block ?_)
 refine we_loopN (filInv n v x L) (fun i => n - i.1) (0, .slice none 0 0) (Nat.zero_le _) ⟨rfl, rfl, rfl, rfl, trivial⟩ .refl rfl ?_
 rintro ⟨i, sv⟩ hi
 replace hi : i ≤ n := hi
 simp only [filInv]
 refine we_pure (of_has .here (vec_shape (by omega))) ?_
 rintro ⟨a, m, c, rfl, hm, _⟩
 obtain rfl : m = i := by simp [filledN] at hm; omega
 by_cases hlt : m < n
 ·have h1 : IntKind.u64.wrap ((v : Int) * 100) = ((v * 100 : Nat) : Int) := (wrap_u64 (by omega) (by omega)).trans (by omega)
  have h2 : IntKind.u64.wrap (((v * 100 : Nat) : Int) + (m : Int)) = ((v * 100 + m : Nat) : Int) := (wrap_u64 (by omega) (by omega)).trans (by omega)
  repeat (first | (apply wo_po; apply mo_bin; exact rfl; exact rfl; apply bin_mul; exact h1; exact trivial) | (apply wo_po; apply mo_bin; exact rfl; exact rfl; apply bin_add; exact h2; exact trivial) | (apply wo_mo; apply mo_buildSlice (sz := 1) (vs := [num (v * 100 + m)]); exact rfl; exact .cons rfl .nil; exact rfl; (intro v hv; cases (List.mem_singleton.1 hv); exact rfl); omega; exact trivial) | refine wlssT ?_ | refine we_seq ?_ | (refine wR ?_; try simp only [oS]) | refine wo_nil ?_ | refine wM ?_ | (apply wo_po; apply mo_conv; exact rfl; (first | exact wrap_i64 (by omega) (by omega) | exact wrap_u64 (by omega) (by omega)); exact gY) | refine wT ?_ | refine we_skip ?_ | refine we_block ?_)
  rintro v' L' ⟨nb, rfl, rfl⟩
  repeat (first | (apply wo_mo; apply mo_append (sz := 1) (new := [num (v * 100 + m)]); exact rfl; exact rfl; exact rfl; exact rfl; exact (.there .here); exact rfl; exact .inr ⟨_, _, rfl, Rds.all .here⟩; (intro v hv; cases (List.mem_singleton.1 hv); exact rfl); (simp only [sliceLen]; omega); exact trivial))
  rintro v' L' rfl
  repeat (first | (refine wR ?_; try simp only [oS]) | refine wo_nil ?_ | refine wM ?_ | refine wA ?_ | refine wadd ?_)
  refine at_round (I := filInv n v x L) (R := fun j => n - j.1 < n - m) (m + 1, v') (by show n - (m + 1) < n - m; omega) (show m + 1 ≤ n by omega) ⟨rfl, rfl, rfl, rfl, trivial⟩ ?_ rfl
  show Ent _ (vec 1 v' ((filledN (m + 1) v).map num) :: L)
  unfold filledN
  rw [range_snoc, List.map_append]
  exact (.take .here (.drop .refl))
 ·obtain rfl : m = n := by omega
  repeat (first | refine wlssF ?_ | refine we_seq ?_ | (refine wR ?_; try simp only [oS]) | refine wo_nil ?_ | refine wM ?_ | refine wA ?_ | refine wF ?_ | refine we_ret ?_ | refine we_exit ?_)
  (first | refine or1 Try.func12 Try.results12 hQ rfl ?_ | refine on1 Try.func12 Try.results12 hQ rfl ?_)
  exact ⟨rfl, fun h st => st⟩
end
theorem filledN_len {n v : Nat} : (filledN n v).length = n := by simp [filledN]
theorem filledN_lt {n v : Nat} (hn : n ≤ 16) (hv : v ≤ 1000000) : ∀ w ∈ filledN n v, w < 18446744073709551616 := by
 intro w hw
 simp only [filledN, List.mem_map, List.mem_range] at hw
 obtain ⟨i, hi, rfl⟩ := hw
 omega
end
end Go.Proofs.Ytodgemainhokjaa
namespace Go.PB
open Go
section
def Dup (c : HProp) : Prop := ∀ (L : List HProp) (h : Hp), Star (c :: L) h → Star (c :: c :: L) h
theorem dup_fro {b o : Nat} {vs : List Value} : Dup (fro b o vs) := fun L h s => fro_two s
theorem all_cons {c : HProp} {M L : List HProp} {h : Hp} (s : Star (all (c :: M) :: L) h) : Star (c :: all M :: L) h :=
 star_map (star_open (M := c :: M) s) (fun _ z => z) fun _ z => star_shut z
theorem cons_all {c : HProp} {M L : List HProp} {h : Hp} (s : Star (c :: all M :: L) h) : Star (all (c :: M) :: L) h :=
 star_shut (M := c :: M) (star_map s (fun _ z => z) fun _ z => star_open z)
theorem dup_all : ∀ {M : List HProp}, (∀ c ∈ M, Dup c) → Dup (all M)
 | [], _ => fun L h s => star_shut (M := []) s
 | c :: M, hM => fun L h s => by
  have s1 := hM c (by simp) _ _ (all_cons s)
  have s2 : Star (all M :: c :: c :: L) h := Ent.star (.take (.there (.there .here)) (.take .here (.take .here .refl))) s1
  have s3 := dup_all (fun d hd => hM d (by simp [hd])) _ _ s2
  have s4 : Star (c :: all M :: c :: all M :: L) h := Ent.star (.take (.there (.there .here)) (.take .here (.take (.there .here) (.take .here .refl)))) s3
  exact cons_all (star_map s4 (fun _ z => z) fun _ z => star_map z (fun _ z => z) fun _ z => cons_all z)
theorem dup_many {c : HProp} (hc : Dup c) {L : List HProp} {h : Hp} (s : Star (c :: L) h) : ∀ n, Star (all (List.replicate n c) :: c :: L) h
 | 0 => star_shut (M := []) s
 | n + 1 => by
  have s1 := dup_many hc s n
  have s2 := hc _ _ (star_swap s1)
  have s3 : Star (c :: all (List.replicate n c) :: c :: L) h := Ent.star (.take .here (.take (.there .here) (.take .here .refl))) s2
  rw [List.replicate_succ]
  exact cons_all s3
theorem star_zip : ∀ {As Bs L : List HProp} {h : Hp}, As.length = Bs.length → Star (all As :: all Bs :: L) h → Star (all (List.zipWith (fun a b => all [a, b]) As Bs) :: L) h
 | [], [], L, h, _, s => star_shut (M := []) (star_drop (star_drop s))
 | [], b :: Bs, L, h, e, s => by simp at e
 | a :: As, [], L, h, e, s => by simp at e
 | a :: As, b :: Bs, L, h, e, s => by
  have s1 := all_cons s
  have s2 : Star (all (b :: Bs) :: a :: all As :: L) h := Ent.star (.take (.there (.there .here)) (.take .here (.take .here .refl))) s1
  have s3 := all_cons s2
  have s4 : Star (all As :: all Bs :: a :: b :: L) h := Ent.star (.take (.there (.there (.there .here))) (.take (.there .here) (.take (.there .here) (.take .here .refl)))) s3
  have s5 := star_zip (by simpa using e) s4
  have s6 : Star (a :: b :: all (List.zipWith (fun a b => all [a, b]) As Bs) :: L) h := Ent.star (.take (.there .here) (.take (.there .here) (.take .here .refl))) s5
  exact cons_all (star_shut (M := [_, _]) s6)
theorem star_tail : ∀ {M L : List HProp} {h : Hp}, Star (M ++ L) h → Star (all L :: M) h
 | [], L, h, s => star_shut (L := []) (by rw [List.append_nil]; exact s)
 | c :: M, L, h, s => star_swap (star_map (L := M ++ L) s (fun _ z => z) fun _ z => star_tail z)
end
end Go.PB
namespace Go.Proofs.Ytodgemainhokjaa
open Go Go.PB
attribute [local irreducible] Mo Bin Eql Tr Wo Ap Wle
section
theorem rd_all {M L : List HProp} {b o : Nat} {v : Value} (r : Rd M b o v) : Rd (all M :: L) b o v := fun h s =>
 r h (star_drop (star_tail (star_open s)))
def wholeB (l : List Nat) : Bool := (List.range l.length).all fun i => l.getD i 0 == (l.headD 0 / 100 * 100 + i) % 18446744073709551616
def wholeF (l : List Nat) : Nat × Bool := if wholeB l = true then (l.headD 0 / 100, true) else (0, false)
section
variable {B : Hand} [Lets B] {x : B.X} {L F : List HProp}
def whInv (lv : Value) (l : List Nat) (d : Nat) (x : B.X) (L : List HProp) : PB.Inv Nat B.X where
 e := fun i => [(0, lv), (2, .int .u64 0), (3, .bool false), (4, .int .u64 (d : Nat)), (5, .int .i64 (i : Nat))]
 L := fun i => L
 x := fun _ => x
 ok := fun i => i ≤ l.length ∧ ∀ j w, j < i → l[j]? = some w → w = (d * 100 + j) % 18446744073709551616
theorem whole_tr {a : Option Addr} {n c : Nat} {l : List Nat} (hr : RdsO L a n (l.map num)) (hn : n ≤ 16) (h1 : 1 ≤ n) (hb : ∀ w ∈ l, w < 18446744073709551616) :
  Tr Try.prog B 49 [.slice a n c] L x fun rv L' x' => rv = .tuple #[.int .u64 ((wholeF l).1 : Nat), .bool (wholeF l).2] ∧ L' = L ∧ x' = x := by
 obtain rfl : n = l.length := by have := hr.1; simpa using this
 obtain ⟨b, o, rfl, hrd⟩ := hr.rds (by omega)
 obtain ⟨w0, hw0⟩ : ∃ w, l[0]? = some w := ⟨l[0]'(by omega), List.getElem?_eq_getElem _⟩
 have hd : l.headD 0 = w0 := by
  cases l with
  | nil => simp at hw0
  | cons y l => simp at hw0; exact hw0
 have hw0b := hb w0 (List.mem_of_getElem? hw0)
 have r0 := hrd 0 (.int .u64 (w0 : Nat)) (by rw [List.getElem?_map, hw0]; rfl)
 have hq : IntKind.u64.wrap ((w0 : Int).tdiv 100) = ((w0 / 100 : Nat) : Int) := by
  rw [show (w0 : Int).tdiv 100 = ((w0 / 100 : Nat) : Int) from rfl]
  exact wrap_u64 (by omega) (by omega)
 refine tr_of_body Try.func49 rfl Try.ntmps49 (by simp) fun um Q _ hQ => ?_
 simp only [argE, Nat.zero_add, Nat.reduceAdd]
 repeat (first | (apply wo_po; apply mo_indexAddr (r := o + 0); exact rfl; exact rfl; omega; omega; omega; exact trivial) | (apply wo_po; apply mo_load; exact rfl; exact r0; exact trivial) | (apply wo_po; apply mo_bin; exact rfl; exact rfl; exact bin_quo (by decide) hq; exact trivial) | refine weqlF ?_ | refine we_seq ?_ | (refine wR ?_; try simp only [oS]) | refine wo_nil ?_ | refine wM ?_ | refine wA ?_ | refine wE ?_ | refine wF ?_ | refine we_skip ?_ | refine we_block ?_)
 refine we_loopN (whInv (.slice (some ⟨b, o, none⟩) l.length c) l (w0 / 100) x L) (fun i => l.length - i) 0 ⟨Nat.zero_le _, fun j w hj => by omega⟩ ⟨rfl, rfl, rfl, rfl, rfl, trivial⟩ .refl rfl ?_
 rintro i ⟨hi, hall⟩
 simp only [whInv]
 by_cases hlt : i < l.length
 ·obtain ⟨w, hw⟩ : ∃ w, l[i]? = some w := ⟨l[i], List.getElem?_eq_getElem hlt⟩
  have r1 := hrd i (.int .u64 (w : Nat)) (by rw [List.getElem?_map, hw]; rfl)
  have m1 : IntKind.u64.wrap (((w0 / 100 : Nat) : Int) * 100) = ((w0 / 100 * 100 : Nat) : Int) := (wrap_u64 (by omega) (by omega)).trans (by omega)
  have m2 : IntKind.u64.wrap (((w0 / 100 * 100 : Nat) : Int) + (i : Int)) = (((w0 / 100 * 100 + i) % 18446744073709551616 : Nat) : Int) := by
   show ((((w0 / 100 * 100 : Nat) : Int) + (i : Int)) % _ : Int) = _
   norm_cast
  obtain ⟨u, hu⟩ : ∃ u, (w0 / 100 * 100 + i) % 18446744073709551616 = u := ⟨_, rfl⟩
  rw [hu] at m2
  by_cases he : w = u
  ·repeat (first | (apply wo_po; apply mo_indexAddr (r := o + i); exact rfl; exact rfl; omega; omega; omega; exact trivial) | (apply wo_po; apply mo_load; exact rfl; exact r1; exact trivial) | (apply wo_po; apply mo_bin; exact rfl; exact rfl; apply bin_mul; exact m1; exact trivial) | (apply wo_po; apply mo_bin; exact rfl; exact rfl; apply bin_add; exact m2; exact trivial) | refine wlssT ?_ | refine wneqF ?_ | refine we_seq ?_ | (refine wR ?_; try simp only [oS]) | refine wo_nil ?_ | refine wM ?_ | refine wA ?_ | refine wadd ?_ | refine wE ?_ | (apply wo_po; apply mo_conv; exact rfl; (first | exact wrap_i64 (by omega) (by omega) | exact wrap_u64 (by omega) (by omega)); exact gY) | refine wT ?_ | refine wF ?_ | refine we_skip ?_ | refine we_block ?_)
   refine at_round (I := whInv (.slice (some ⟨b, o, none⟩) l.length c) l (w0 / 100) x L) (R := fun j => l.length - j < l.length - i) (i + 1) (by omega) ⟨by omega, fun j v hj hv => ?_⟩ ⟨rfl, rfl, rfl, rfl, rfl, trivial⟩ .refl rfl
   by_cases e : j = i
   ·subst e; rw [hw] at hv; cases hv; rw [hu]; exact he
   ·exact hall j v (by omega) hv
  ·repeat (first | (apply wo_po; apply mo_indexAddr (r := o + i); exact rfl; exact rfl; omega; omega; omega; exact trivial) | (apply wo_po; apply mo_load; exact rfl; exact r1; exact trivial) | (apply wo_po; apply mo_bin; exact rfl; exact rfl; apply bin_mul; exact m1; exact trivial) | (apply wo_po; apply mo_bin; exact rfl; exact rfl; apply bin_add; exact m2; exact trivial) | refine wlssT ?_ | refine wneqT ?_ | refine we_seq ?_ | (refine wR ?_; try simp only [oS]) | refine wo_nil ?_ | refine wM ?_ | refine wA ?_ | refine wE ?_ | (apply wo_po; apply mo_conv; exact rfl; (first | exact wrap_i64 (by omega) (by omega) | exact wrap_u64 (by omega) (by omega)); exact gY) | refine wT ?_ | refine we_ret ?_ | refine we_skip ?_ | refine we_block ?_)
   (first | refine or2 Try.func49 Try.results49 hQ rfl rfl ?_ | refine on2 Try.func49 Try.results49 hQ rfl rfl ?_)
   have hf : wholeB l = false := by
    unfold wholeB
    rw [Bool.eq_false_iff]
    intro h
    have := List.all_eq_true.1 h i (List.mem_range.2 hlt)
    rw [hd, hu, List.getD_eq_getElem?_getD, hw] at this
    simp only [Option.getD_some, beq_iff_eq] at this
    exact he this
   unfold wholeF
   rw [hf]
   exact ⟨rfl, rfl, rfl⟩
 ·obtain rfl : i = l.length := by omega
  repeat (first | refine wlssF ?_ | refine we_seq ?_ | (refine wR ?_; try simp only [oS]) | refine wo_nil ?_ | refine wM ?_ | refine wA ?_ | refine wE ?_ | refine wF ?_ | refine we_ret ?_ | refine we_exit ?_)
  (first | refine or2 Try.func49 Try.results49 hQ rfl rfl ?_ | refine on2 Try.func49 Try.results49 hQ rfl rfl ?_)
  have hf : wholeB l = true := by
   unfold wholeB
   refine List.all_eq_true.2 fun j hj => ?_
   have hj := List.mem_range.1 hj
   have := hall j l[j] hj (List.getElem?_eq_getElem hj)
   rw [hd, List.getD_eq_getElem?_getD, List.getElem?_eq_getElem hj]
   simp only [Option.getD_some, beq_iff_eq]
   exact this
  unfold wholeF
  rw [hf, hd]
  exact ⟨rfl, rfl, rfl⟩
theorem writes_tr {mb bk v y : Nat} {zm : List (Int × Value)} {rv : Value} {bd : Bool} :
  Tr Try.prog B 15 [.pointer (some ⟨bk, 0, none⟩), .int .u64 (v : Nat), .int .u64 (y : Nat)] (mapC .u64 mb zm :: arr bk 0 [.map (some mb), .bool false, rv, .bool bd] :: L) x
   fun w L' x' => L' = mapC .u64 mb (mPut zm (v : Nat) (num y)) :: arr bk 0 [.map (some mb), .bool (mGet zm (v : Nat)).isSome, rv, .bool bd] :: L ∧ x' = x := by
 refine tr_of_body Try.func15 rfl Try.ntmps15 (by simp) fun um Q _ hQ => ?_
 simp only [argE, Nat.zero_add, Nat.reduceAdd]
 obtain ⟨g, hg⟩ : ∃ g, (mGet zm (v : Nat)).isSome = g := ⟨_, rfl⟩
 repeat (first | (apply wo_po; apply mo_lookup2 (ki := .u64) (k := ((v : Nat) : Int)) (l := zm); exact rfl; exact rfl; exact .here; exact trivial) | refine we_seq ?_ | (refine wR ?_; try simp only [oS]) | refine wo_nil ?_ | refine wM ?_ | refine wA ?_ | refine wJ ?_ | refine wN ?_ | refine wD ?_ | (apply wo_po; apply mo_extract; exact rfl; exact rfl; exact gY) | refine wL ?_)
 rw [hg]
 repeat (first | refine wS ?_ | (apply wo_pm; apply mo_mapUpdate (ki := .u64) (k := ((v : Nat) : Int)) (l := zm); exact rfl; exact rfl; exact rfl; exact .here; exact trivial) | (refine wR ?_; try simp only [oS]) | refine wo_nil ?_ | refine wM ?_ | refine wN ?_ | refine wD ?_ | refine wL ?_)
 (first | refine or0 Try.func15 Try.results15 hQ ?_ | refine on0 Try.func15 Try.results15 hQ ?_)
 rw [hg]
 exact ⟨rfl, rfl⟩
def bkE (y : Nat × Nat) : List Value := [.int .u64 (y.1 : Nat), .int .u64 (y.2 : Nat)]
theorem reads_tr {mb bk v n c : Nat} {a : Option Addr} {l : List Nat} {zr : List (Nat × Nat)} {rv : Value} {tw : Bool} (hr : ∀ {d1 d2 : HProp}, RdsO (d1 :: d2 :: L) a n (l.map num)) (hn : n ≤ 16) (h1 : 1 ≤ n) (hb : ∀ w ∈ l, w < 18446744073709551616) (hz : zr.length ≤ 100000) :
  Tr Try.prog B 17 [.pointer (some ⟨bk, 0, none⟩), .slice a n c, .int .u64 (v : Nat)] (arr bk 0 [.map (some mb), .bool tw, rv, .bool false] :: vec 2 rv (zr.map bkE).flatten :: L) x
   fun w L' x' => ∃ rv', L' = vec 2 rv' ((zr ++ [(v, (wholeF l).1)]).map bkE).flatten :: arr bk 0 [.map (some mb), .bool tw, rv', .bool (!(wholeF l).2)] :: L ∧ x' = x := by
 refine Tr.post (R := fun w L' x' => x' = x ∧ ∃ rv', ∀ h, Star L' h → Star (vec 2 rv' ((zr ++ [(v, (wholeF l).1)]).map bkE).flatten :: arr bk 0 [.map (some mb), .bool tw, rv', .bool (!(wholeF l).2)] :: L) h) ?_ (by rintro v L' x' ⟨rfl, rv', h2⟩; exact ⟨_, ⟨rv', rfl, rfl⟩, h2⟩)
 refine tr_of_body Try.func17 rfl Try.ntmps17 (by simp) fun um Q _ hQ => ?_
 simp only [argE, Nat.zero_add, Nat.reduceAdd]
 repeat (first | refine we_seq ?_ | (refine wR ?_; try simp only [oS]) | refine wM ?_)
 refine wo_call (.cons rfl .nil) trivial (whole_tr hr hn h1 hb) ?_
 rintro v1 L1 x1 ⟨rfl, rfl, rfl⟩
 obtain ⟨y1, hy1⟩ : ∃ y, (wholeF l).1 = y := ⟨_, rfl⟩
 obtain ⟨y2, hy2⟩ : ∃ y, (wholeF l).2 = y := ⟨_, rfl⟩
 rw [hy1, hy2]
 refine wo_pure (of_has (.there .here) (vec_shape (by omega))) ?_
 rintro ⟨va, vn, vc, rfl, hvn, _⟩
 have hvn' : vn = zr.length := by rw [flat_len (k := 2) (fun _ => rfl)] at hvn; omega
 repeat (first | refine wS ?_ | (apply wo_po; apply mo_buildArr (pv := [(0, _), (1, _)]); exact rfl; exact .cons rfl (.cons rfl .nil); exact rfl; exact trivial) | refine we_seq ?_ | (refine wR ?_; try simp only [oS]) | refine wo_nil ?_ | refine wM ?_ | refine wA ?_ | refine wJ ?_ | refine wN ?_ | refine wD ?_ | (apply wo_po; apply mo_extract; exact rfl; exact rfl; exact gY) | (apply wo_po; apply mo_not; exact rfl; exact gY) | refine wL ?_)
 repeat (first | (apply wo_mo; apply mo_buildSlice (sz := 2) (vs := [.agg #[.int .u64 (v : Nat), .int .u64 (y1 : Nat)]]); exact rfl; exact .cons rfl .nil; exact rfl; (intro v hv; cases (List.mem_singleton.1 hv); exact rfl); omega; exact trivial))
 rintro v' L' ⟨nb, rfl, rfl⟩
 repeat (first | (apply wo_mo; apply mo_append (sz := 2) (new := [.int .u64 (v : Nat), .int .u64 (y1 : Nat)]); exact rfl; exact rfl; exact rfl; exact rfl; exact (.there (.there .here)); exact rfl; exact .inr ⟨_, _, rfl, Rds.all .here⟩; (intro v hv; simp at hv; rcases hv with rfl | rfl <;> rfl); (simp only [sliceLen]; omega); exact trivial))
 rintro v' L' rfl
 refine wo_pure (of_has .here (vec_shape (by omega))) ?_
 rintro ⟨ua, un, uc, rfl, _⟩
 repeat (first | refine wS ?_ | refine wo_nil ?_ | refine wN ?_ | refine wD ?_)
 (first | refine or0 Try.func17 Try.results17 hQ ?_ | refine on0 Try.func17 Try.results17 hQ ?_)
 rw [hy1, hy2]
 refine ⟨rfl, .slice ua un uc, fun h st => ?_⟩
 have e : ((zr ++ [(v, y1)]).map bkE).flatten = (zr.map bkE).flatten ++ [.int .u64 (v : Nat), .int .u64 (y1 : Nat)] := by simp [bkE]
 rw [e]
 exact Ent.star (.take .here (.take (.there .here) (.drop .refl))) st
structure BkOk (zm : List (Int × Value)) (zr : List (Nat × Nat)) : Prop where
 m : ∀ y ∈ zm, ∃ q : Nat, y.1 = ((2 * (q + 1) : Nat) : Int) ∧ 2 * (q + 1) < 18446744073709551616
 r : ∀ y ∈ zr, (y.1 = 0 ∧ y.2 = 0) ∨ (y.1 ≠ 0 ∧ mGet zm ((y.1 : Nat) : Int) = some (num y.2))
def gdmInv (bk mb r : Nat) (zm : List (Int × Value)) (x : B.X) (L : List HProp) : PB.Inv (Nat × Option (Int × Value)) B.X where
 e := fun _ => [(0, .pointer (some ⟨bk, 0, none⟩)), (2, .bool false), (23, .pointer (some ⟨r, 0, none⟩))]
 L := fun i => ranC .u64 mb r zm i.1 i.2 :: L
 x := fun _ => x
 ok := fun _ => True
def gdrInv (bk n : Nat) (x : B.X) (L : List HProp) : PB.Inv Nat B.X where
 e := fun i => [(0, .pointer (some ⟨bk, 0, none⟩)), (2, .bool false), (4, .int .i64 (i : Nat))]
 L := fun _ => L
 x := fun _ => x
 ok := fun i => i ≤ n
theorem good_tr {mb bk : Nat} {zm : List (Int × Value)} {zr : List (Nat × Nat)} {rv : Value} (h : BkOk zm zr) (hz : zr.length ≤ 100000) :
  Tr Try.prog B 20 [.pointer (some ⟨bk, 0, none⟩)] (mapC .u64 mb zm :: arr bk 0 [.map (some mb), .bool false, rv, .bool false] :: vec 2 rv (zr.map bkE).flatten :: L) x
   fun v L' x' => v = .bool true ∧ L' = mapC .u64 mb zm :: arr bk 0 [.map (some mb), .bool false, rv, .bool false] :: vec 2 rv (zr.map bkE).flatten :: L ∧ x' = x := by
 refine tr_of_body Try.func20 rfl Try.ntmps20 (by simp) fun um Q _ hQ => ?_
 simp only [argE, Nat.zero_add, Nat.reduceAdd]
 repeat (first | (apply wo_mo; apply mo_range; exact rfl; exact .here; exact trivial) | refine we_seq ?_ | (refine wR ?_; try simp only [oS]) | refine wo_nil ?_ | refine wM ?_ | refine wA ?_ | refine wJ ?_ | refine wN ?_ | refine wD ?_ | refine wL ?_ | refine wF ?_ | refine we_skip ?_)
 rintro v' L' ⟨r, rfl, rfl⟩
 repeat (first | refine wo_nil ?_ | refine we_block ?_)
 refine we_loopN (gdmInv bk mb r zm x (arr bk 0 [.map (some mb), .bool false, rv, .bool false] :: vec 2 rv (zr.map bkE).flatten :: L)) (fun i => i.1) (zm.length, none) trivial ⟨rfl, rfl, rfl, trivial⟩ .refl rfl ?_
 rintro ⟨n, cur⟩ -
 simp only [gdmInv]
 repeat (first | (apply wo_mo; apply mo_next (ki := .u64); exact rfl; exact .here; exact trivial) | refine we_seq ?_ | (refine wR ?_; try simp only [oS]))
 rintro v' L' (⟨rfl, rfl⟩ | ⟨k, v, n', hmem, hlt, rfl, rfl⟩)
 ·repeat (first | refine we_seq ?_ | (refine wR ?_; try simp only [oS]) | refine wo_nil ?_ | refine wA ?_ | (apply wo_po; apply mo_extract; exact rfl; exact rfl; exact gY) | refine wF ?_ | refine we_block ?_ | refine we_exit ?_)
  refine we_star (mapC .u64 mb zm :: arr bk 0 [.map (some mb), .bool false, rv, .bool false] :: vec 2 rv (zr.map bkE).flatten :: L) (fun hp st => ranC_map st) ?_
  refine we_pure (of_has (.there (.there .here)) (vec_shape (by omega))) ?_
  rintro ⟨va, vn, vc, rfl, hvn, _, hvz, hvy⟩
  have hvn' : vn = zr.length := by rw [flat_len (k := 2) (fun _ => rfl)] at hvn; omega
  subst hvn'
  refine we_loopN (gdrInv bk zr.length x (mapC .u64 mb zm :: arr bk 0 [.map (some mb), .bool false, .slice va zr.length vc, .bool false] :: vec 2 (.slice va zr.length vc) (zr.map bkE).flatten :: L)) (fun i => zr.length - i) 0 (Nat.zero_le _) ⟨rfl, rfl, rfl, trivial⟩ .refl rfl ?_
  intro i hi
  replace hi : i ≤ zr.length := hi
  simp only [gdrInv]
  by_cases hlt : i < zr.length
  ·obtain ⟨y, hy⟩ : ∃ y, zr[i]? = some y := ⟨zr[i], List.getElem?_eq_getElem hlt⟩
   have hyr := h.r y (List.mem_of_getElem? hy)
   obtain ⟨y1, y2⟩ := y
   simp only at hyr
   obtain ⟨lb, lo, rfl⟩ : ∃ b o, va = some ⟨b, o, none⟩ := by
    cases va with
    | none => have := hvz rfl; omega
    | some y => exact ⟨y.block, y.off, by rw [hvy y rfl]⟩
   obtain ⟨LL, hLL⟩ : ∃ LL, LL = mapC .u64 mb zm :: arr bk 0 [.map (some mb), .bool false, .slice (some ⟨lb, lo, none⟩) zr.length vc, .bool false] :: vec 2 (.slice (some ⟨lb, lo, none⟩) zr.length vc) (zr.map bkE).flatten :: L := ⟨_, rfl⟩
   have ky : ∀ q v, [.int .u64 (y1 : Nat), .int .u64 (y2 : Nat)][q]? = some v → Rd LL lb (lo + 2 * i + q) v := fun q v hq => by
    have h2 : q < 2 := (List.getElem?_eq_some_iff.1 hq).1
    rw [hLL]
    have := rd_vec (i := 2 * i + q) (v := v) (L := mapC .u64 mb zm :: arr bk 0 [.map (some mb), .bool false, .slice (some ⟨lb, lo, none⟩) zr.length vc, .bool false] :: vec 2 (.slice (some ⟨lb, lo, none⟩) zr.length vc) (zr.map bkE).flatten :: L) (.there (.there .here)) (by rw [flat_get (k := 2) (fun _ => rfl) zr i q _ hy h2]; exact hq)
    rwa [← Nat.add_assoc] at this
   have kb : Rd LL bk 2 (.slice (some ⟨lb, lo, none⟩) zr.length vc) := by rw [hLL]; exact .there (.row0 rfl)
   have km : Rd LL bk 0 (.map (some mb)) := by rw [hLL]; exact .there (.row0 rfl)
   have k1 := ky 0 _ rfl
   have k2 := ky 1 _ rfl
   obtain ⟨LR, hmap⟩ : ∃ LR, Has LL (mapC .u64 mb zm) LR := ⟨_, by rw [hLL]; exact .here⟩
   rw [← hLL]
   repeat (first | (apply wo_po; apply mo_load; exact rfl; exact kb; exact trivial) | refine wlssT ?_ | refine we_seq ?_ | (refine wR ?_; try simp only [oS]) | refine wo_nil ?_ | refine wM ?_ | refine wN ?_ | refine wD ?_ | refine wE ?_ | refine wT ?_ | refine we_skip ?_ | refine we_block ?_)
   refine we_draw (List.range' 0 18) (by kernel_rfl) ?_
   repeat (first | (apply ap_read; exact rfl; exact rfl; exact trivial; apply mo_load; exact rfl; (first | exact kb | exact k1 | exact k2)) | (apply ap_pure; exact rfl; exact rfl; exact trivial; intro L; apply mo_indexAddr (r := lo + 2 * i); exact rfl; exact rfl; omega; omega; omega) | (apply ap_pure; exact rfl; exact rfl; exact trivial; intro L; apply mo_indexArr (r := lo + 2 * i + 0); exact rfl; exact rfl; decide; decide; exact rfl) | (apply ap_pure; exact rfl; exact rfl; exact trivial; intro L; apply mo_indexArr (r := lo + 2 * i + 1); exact rfl; exact rfl; decide; decide; exact rfl) | refine aM ?_ | refine aA ?_ | refine aN ?_ | refine aD ?_ | refine ap_end ?_)
   rcases hyr with ⟨hy1, hy2⟩ | ⟨hne, hg⟩
   ·repeat (first | (apply wo_po; apply mo_load; exact rfl; exact km; exact trivial) | (apply wo_po; apply mo_lookup2 (ki := .u64) (k := ((y1 : Nat) : Int)) (l := zm); exact rfl; exact rfl; exact hmap; exact trivial) | refine weqlT ?_ | refine wneqF ?_ | refine we_seq ?_ | (refine wR ?_; try simp only [oS]) | refine wo_nil ?_ | refine wM ?_ | refine wA ?_ | (apply wo_no; exact rfl) | (apply wo_nu; exact rfl) | refine wK ?_ | refine wJ ?_ | refine wN ?_ | refine wD ?_ | (apply wo_po; apply mo_extract; exact rfl; exact rfl; exact gY) | refine wadd ?_ | refine wF ?_ | refine we_skip ?_)
    rw [hLL]
    refine at_round (I := gdrInv bk zr.length x (mapC .u64 mb zm :: arr bk 0 [.map (some mb), .bool false, .slice (some ⟨lb, lo, none⟩) zr.length vc, .bool false] :: vec 2 (.slice (some ⟨lb, lo, none⟩) zr.length vc) (zr.map bkE).flatten :: L)) (R := fun j => zr.length - j < zr.length - i) (i + 1) (by show zr.length - (i + 1) < zr.length - i; omega) (by show i + 1 ≤ zr.length; omega) ⟨rfl, rfl, rfl, trivial⟩ .refl rfl
   ·repeat (first | (apply wo_po; apply mo_load; exact rfl; exact km; exact trivial) | (apply wo_po; apply mo_lookup2 (ki := .u64) (k := ((y1 : Nat) : Int)) (l := zm); exact rfl; exact rfl; exact hmap; exact trivial) | refine weqlF ?_ | refine wneqT ?_ | refine we_seq ?_ | (refine wR ?_; try simp only [oS]) | refine wo_nil ?_ | refine wM ?_ | refine wA ?_ | (apply wo_no; exact rfl) | refine wJ ?_ | refine wN ?_ | refine wD ?_ | (apply wo_po; apply mo_extract; exact rfl; exact rfl; exact gY) | (apply wo_po; apply mo_not; exact rfl; exact gY))
    rw [hg]
    repeat (first | refine wneqF ?_ | (refine wR ?_; try simp only [oS]) | refine wo_nil ?_ | refine wM ?_ | refine wA ?_ | refine wK ?_ | refine wJ ?_ | refine wadd ?_ | refine wF ?_ | refine we_skip ?_)
    rw [hLL]
    refine at_round (I := gdrInv bk zr.length x (mapC .u64 mb zm :: arr bk 0 [.map (some mb), .bool false, .slice (some ⟨lb, lo, none⟩) zr.length vc, .bool false] :: vec 2 (.slice (some ⟨lb, lo, none⟩) zr.length vc) (zr.map bkE).flatten :: L)) (R := fun j => zr.length - j < zr.length - i) (i + 1) (by show zr.length - (i + 1) < zr.length - i; omega) (by show i + 1 ≤ zr.length; omega) ⟨rfl, rfl, rfl, trivial⟩ .refl rfl
  ·obtain rfl : i = zr.length := by omega
   repeat (first | refine wlssF ?_ | refine we_seq ?_ | (refine wR ?_; try simp only [oS]) | refine wo_nil ?_ | refine wM ?_ | refine wA ?_ | refine wN ?_ | refine wD ?_ | refine wL ?_ | refine wE ?_ | refine wF ?_ | refine we_ret ?_ | refine we_exit ?_)
   (first | refine or1 Try.func20 Try.results20 hQ rfl ?_ | refine on1 Try.func20 Try.results20 hQ rfl ?_)
   exact ⟨rfl, rfl, rfl⟩
 ·obtain ⟨q, hq, hq2⟩ := h.m _ hmem
  simp only at hq
  subst hq
  have hrem : (((2 * (q + 1) : Nat) : Int)).tmod 2 = 0 := by
   rw [show (((2 * (q + 1) : Nat) : Int)).tmod 2 = ((2 * (q + 1) % 2 : Nat) : Int) from rfl, show 2 * (q + 1) % 2 = 0 by omega]; rfl
  repeat (first | (apply wo_po; apply mo_bin; exact rfl; exact rfl; exact bin_rem (by decide) hrem; exact rfl) | (apply wo_po; apply mo_entry (ki := .u64) (y := (((2 * (q + 1) : Nat) : Int), v)); exact rfl; exact .here; exact trivial) | refine weqlF ?_ | refine wneqF ?_ | refine we_seq ?_ | (refine wR ?_; try simp only [oS]) | refine wo_nil ?_ | refine wM ?_ | refine wA ?_ | refine wJ ?_ | (apply wo_po; apply mo_extract; exact rfl; exact rfl; exact gY) | refine wT ?_ | refine wF ?_ | refine we_skip ?_ | refine we_block ?_)
  refine at_round (I := gdmInv bk mb r zm x (arr bk 0 [.map (some mb), .bool false, rv, .bool false] :: vec 2 rv (zr.map bkE).flatten :: L)) (R := fun j => j.1 < n) (n', some (((2 * (q + 1) : Nat) : Int), v)) hlt trivial ⟨rfl, rfl, rfl, trivial⟩ .refl rfl
end
end
section
abbrev SwZ := List (Int × Value) × Bool × List (Nat × Nat) × Bool × Bool
def sqD (n : Nat) : Slk where
 n := n
 W := fun x j => x * 100 + j
 ζ := SwZ
 π := Nat
 onW := fun x v p z => ((mPut z.1 (v : Nat) (num x), z.2.1 || (mGet z.1 (v : Nat)).isSome, z.2.2.1, z.2.2.2.1, z.2.2.2.2 && decide (v > p)), v)
 onR := fun acc v p z => ((z.1, z.2.1, z.2.2.1 ++ [(v, (wholeF acc).1)], z.2.2.2.1 || !(wholeF acc).2, z.2.2.2.2 && decide (v ≥ p)), p)
def sqZ (mb bk qb : Nat) (z : SwZ) : HProp := fun h => ∃ rv : Value, all [mapC .u64 mb z.1, arr bk 0 [.map (some mb), .bool z.2.1, rv, .bool z.2.2.2.1], vec 2 rv (z.2.2.1.map bkE).flatten, arr qb 0 [.bool z.2.2.2.2]] h
abbrev sqOk (s : SlkS SwZ) : Prop := s.z.2.1 = false ∧ s.z.2.2.2.1 = false ∧ s.z.2.2.2.2 = true ∧ s.z.2.2.1.length ≤ 90000
def sqOps (k : Nat) : List (Option Nat) := [some (1 + 10 * k + 0), none, some (1 + 10 * k + 1), none, some (1 + 10 * k + 2), none, some (1 + 10 * k + 3), none]
theorem sqOps_at {k i : Nat} (h : i < 4) : (sqOps k).drop (2 * i) = some (1 + 10 * k + i) :: none :: (sqOps k).drop (2 * (i + 1)) := by
 match i, h with
 | 0, _ => rfl
 | 1, _ => rfl
 | 2, _ => rfl
 | 3, _ => rfl
structure SqRo (Ro : HProp) (t1 t2 t3 t4 r n k bk : Nat) : Prop where
 h1 : Rd [Ro] t1 0 (.int .i64 (k : Nat))
 h2 : Rd [Ro] t2 0 (.pointer (some ⟨r, 0, none⟩))
 h3 : Rd [Ro] t3 0 (.int .i64 (n : Nat))
 h4 : Rd [Ro] t4 0 (.pointer (some ⟨bk, 0, none⟩))
 hk : k ≤ 6
abbrev sqF (t1 t2 t3 t4 qb : Nat) : Value := .func (.func 13) #[] #[.pointer (some ⟨t1, 0, none⟩), .pointer (some ⟨t2, 0, none⟩), .pointer (some ⟨t3, 0, none⟩), .pointer (some ⟨t4, 0, none⟩), .pointer (some ⟨qb, 0, none⟩)]
section
variable {mb bk qb r n : Nat}
abbrev sqG (mb bk qb n : Nat) : WGm := slkG (sqD n) (sqZ mb bk qb) sqOk
def sqInv (mb bk qb r n k sb says turn fin wg t1 t2 t3 t4 : Nat) (Ro : HProp) (F : List HProp) : PB.Inv (Nat × Nat × GaS (sqG mb bk qb n)) TX where
 e := fun i => [(0, gateV sb), (1, .pointer (some ⟨t1, 0, none⟩)), (2, .pointer (some ⟨t2, 0, none⟩)), (3, .pointer (some ⟨t3, 0, none⟩)), (4, .pointer (some ⟨t4, 0, none⟩)), (5, .pointer (some ⟨qb, 0, none⟩)), (7, .int .u64 (i.2.1 : Nat)), (8, .int .i64 (i.1 : Nat))]
 L := fun i => gaC (sqG mb bk qb n) (sAddr r) (n + 1) (sK r n) sb says turn fin (all []) i.2.2.f i.2.2.c :: Ro :: F
 x := fun i => tx ((sqG mb bk qb n).g (sAddr r) (n + 1) (sK r n)) says turn fin wg (.busy i.2.2.s i.2.2.q i.2.2.n)
 ok := fun i => i.1 ≤ 4 ∧ SlkAt (sqD n) (sqZ mb bk qb) sqOk ⟨(sqOps k).drop (2 * i.1), .idle, i.2.1⟩ i.2.2
def sqMid (mb bk qb r n k sb says turn fin wg t1 t2 t3 t4 i : Nat) (Ro : HProp) (F : List HProp) : PB.Inv (Nat × GaS (sqG mb bk qb n)) TX where
 e := fun j => [(0, gateV sb), (1, .pointer (some ⟨t1, 0, none⟩)), (2, .pointer (some ⟨t2, 0, none⟩)), (3, .pointer (some ⟨t3, 0, none⟩)), (4, .pointer (some ⟨t4, 0, none⟩)), (5, .pointer (some ⟨qb, 0, none⟩)), (7, .int .u64 (j.1 : Nat)), (8, .int .i64 (i : Nat))]
 L := fun j => gaC (sqG mb bk qb n) (sAddr r) (n + 1) (sK r n) sb says turn fin (all []) j.2.f j.2.c :: Ro :: F
 x := fun j => tx ((sqG mb bk qb n).g (sAddr r) (n + 1) (sK r n)) says turn fin wg (.busy j.2.s j.2.q j.2.n)
 ok := fun j => SlkAt (sqD n) (sqZ mb bk qb) sqOk ⟨none :: (sqOps k).drop (2 * (i + 1)), .idle, j.1⟩ j.2
instance {ι : Type} {I : PB.Inv ι TX} {n : Nat} {z z' : Z} {K : Post tH} [p : Pass K z'] : Pass (B := tH) (midK (B := tH) I n z K) z' := ⟨fun ch t h x q => p.ok ch t h x q⟩
theorem star_qs {L : List HProp} {h : Hp} {z : SwZ} {rv : Value} (st : Star (mapC .u64 mb z.1 :: arr bk 0 [.map (some mb), .bool z.2.1, rv, .bool z.2.2.2.1] :: vec 2 rv (z.2.2.1.map bkE).flatten :: arr qb 0 [.bool z.2.2.2.2] :: L) h) : Star (sqZ mb bk qb z :: L) h :=
 star_map (star_shut (M := [_, _, _, _]) st) (fun h z => ⟨rv, z⟩) fun _ z => z
theorem sq_close {F : List HProp} {h : Hp} {f : Nat → Nat} {z : SwZ} {rv : Value} {sb says turn fin : Nat} {Ro : HProp} (st : Star (mapC .u64 mb z.1 :: arr bk 0 [.map (some mb), .bool z.2.1, rv, .bool z.2.2.2.1] :: vec 2 rv (z.2.2.1.map bkE).flatten :: arr qb 0 [.bool z.2.2.2.2] :: wds (sAddr r) (n + 1) (sK r n) f :: seatR sb says turn fin :: Ro :: F) h) :
  Star (gaC (sqG mb bk qb n) (sAddr r) (n + 1) (sK r n) sb says turn fin (all []) f z :: Ro :: F) h := by
 have s1 := star_qs st
 have s2 : Star (all [] :: sqZ mb bk qb z :: wds (sAddr r) (n + 1) (sK r n) f :: seatR sb says turn fin :: Ro :: F) h := star_shut (M := []) s1
 exact star_shut (M := [_, _, _, _]) (Ent.star (.take (.there (.there .here)) (.take (.there .here) (.take (.there .here) (.take .here .refl)))) s2)
set_option maxHeartbeats 4000000 in
theorem sq_ok {t1 t2 t3 t4 k : Nat} {Ro : HProp} (h1 : 1 ≤ n) (h2 : n ≤ 16) (O : SqRo Ro t1 t2 t3 t4 r n k bk) :
  ThrOk ((sqG mb bk qb n).g (sAddr r) (n + 1) (sK r n)) (fun s => (s, (⟨sqOps k, .idle, 0⟩ : SlkQ Nat))) (sqF t1 t2 t3 t4 qb) Ro where
 run := by
  refine ⟨_, _, _, rfl, inferInstance, fun sb says turn fin wg (s : SlkS SwZ) m F hok => ?_⟩
  show Tr Try.prog tH _ [gateV sb, .pointer (some ⟨t1, 0, none⟩), .pointer (some ⟨t2, 0, none⟩), .pointer (some ⟨t3, 0, none⟩), .pointer (some ⟨t4, 0, none⟩), .pointer (some ⟨qb, 0, none⟩)] _ (tx ((sqG mb bk qb n).g (sAddr r) (n + 1) (sK r n)) says turn fin wg (.busy s (⟨sqOps k, .idle, 0⟩ : SlkQ Nat) m)) _
  refine tr_star (gaC (sqG mb bk qb n) (sAddr r) (n + 1) (sK r n) sb says turn fin (all []) (slkW (sqD n) s) s.z :: Ro :: F) (fun hp st => ?_) ?_
  ·have s1 : Star (wds (sAddr r) (n + 1) (sK r n) (slkW (sqD n) s) :: sqZ mb bk qb s.z :: seatR sb says turn fin :: Ro :: F) hp := star_open (M := [_, _]) st
   have s2 : Star (all [] :: wds (sAddr r) (n + 1) (sK r n) (slkW (sqD n) s) :: sqZ mb bk qb s.z :: seatR sb says turn fin :: Ro :: F) hp := star_shut (M := []) s1
   exact star_shut (M := [_, _, _, _]) (Ent.star (.take (.there .here) (.take (.there .here) (.take (.there .here) (.take .here .refl)))) s2)
  have hk6 := O.hk
  refine tr_of_body Try.func13 rfl Try.ntmps13 (by simp) fun um Q _ hQ => ?_
  simp only [argE, Nat.zero_add, Nat.reduceAdd]
  repeat (first | refine we_seq ?_ | (refine wR ?_; try simp only [oS]) | refine wo_nil ?_ | refine wA ?_ | refine we_block ?_)
  refine we_loopN (sqInv mb bk qb r n k sb says turn fin wg t1 t2 t3 t4 Ro F) (fun i => 4 - i.1) (0, 0, ⟨slkW (sqD n) s, s.z, s, (⟨sqOps k, .idle, 0⟩ : SlkQ Nat), m⟩) ⟨Nat.zero_le _, rfl, fun j hj => rfl, rfl⟩ ⟨rfl, rfl, rfl, rfl, rfl, rfl, rfl, rfl, trivial⟩ .refl rfl ?_
  rintro ⟨i, last, s⟩ ⟨hi, hs⟩
  dsimp only at hi hs
  simp only [sqInv]
  by_cases hlt : i < 4
  ·rw [sqOps_at hlt] at hs
   have p1 : ∀ {c : HProp}, Rd (c :: Ro :: F) t1 0 (.int .i64 (k : Nat)) := fun {c} => .there (Rd.of .here O.h1)
   have p2 : ∀ {c : HProp}, Rd (c :: Ro :: F) t2 0 (.pointer (some ⟨r, 0, none⟩)) := fun {c} => .there (Rd.of .here O.h2)
   have p3 : ∀ {c : HProp}, Rd (c :: Ro :: F) t3 0 (.int .i64 (n : Nat)) := fun {c} => .there (Rd.of .here O.h3)
   have p4 : ∀ {c : HProp}, Rd (c :: Ro :: F) t4 0 (.pointer (some ⟨bk, 0, none⟩)) := fun {c} => .there (Rd.of .here O.h4)
   have p4' : ∀ {c1 c2 c3 c4 c5 c6 : HProp}, Rd (c1 :: c2 :: c3 :: c4 :: c5 :: c6 :: Ro :: F) t4 0 (.pointer (some ⟨bk, 0, none⟩)) := .there (.there (.there (.there (.there p4))))
   have p47 : ∀ {c0 c1 c2 c3 c4 c5 c6 : HProp}, Rd (c0 :: c1 :: c2 :: c3 :: c4 :: c5 :: c6 :: Ro :: F) t4 0 (.pointer (some ⟨bk, 0, none⟩)) := .there (.there (.there (.there (.there (.there p4)))))
   have m1 : IntKind.i64.wrap (10 * (k : Int)) = ((10 * k : Nat) : Int) := (wrap_i64 (by omega) (by omega)).trans (by omega)
   have m2 : IntKind.i64.wrap (1 + ((10 * k : Nat) : Int)) = ((1 + 10 * k : Nat) : Int) := (wrap_i64 (by omega) (by omega)).trans (by omega)
   have m3 : IntKind.i64.wrap (((1 + 10 * k : Nat) : Int) + (i : Int)) = ((1 + 10 * k + i : Nat) : Int) := (wrap_i64 (by omega) (by omega)).trans (by omega)
   have m4 : IntKind.u64.wrap ((1 + 10 * k + i : Nat) : Int) = ((1 + 10 * k + i : Nat) : Int) := wrap_u64 (by omega) (by omega)
   obtain ⟨x, hx⟩ : ∃ x, 1 + 10 * k + i = x := ⟨_, rfl⟩
   rw [hx] at m3 m4 hs
   repeat (first | (apply wo_po; apply mo_load; exact rfl; exact p1; exact trivial) | (apply wo_po; apply mo_bin; exact rfl; exact rfl; apply bin_mul; exact m1; exact trivial) | (apply wo_po; apply mo_bin; exact rfl; exact rfl; apply bin_add; (first | exact m2 | exact m3); exact trivial) | (apply wo_po; apply mo_conv; exact rfl; exact m4; exact trivial) | refine wlssT ?_ | refine we_seq ?_ | (refine wR ?_; try simp only [oS]) | refine wo_nil ?_ | refine wM ?_ | refine wA ?_ | refine wT ?_ | refine we_skip ?_ | refine we_block ?_)
   refine we_draw (List.range' 0 11) (by kernel_rfl) ?_
   repeat (first | (apply ap_read; exact rfl; exact rfl; exact trivial; apply mo_load; exact rfl; (first | exact p2 | exact p3)) | refine aM ?_)
   refine ap_callR rfl rfl rfl trivial rfl rfl (.cons rfl (.cons rfl .nil)) (filled_tr (v := x) h2 (by omega)) ?_ ?_
   ·rintro v L' x' ⟨rfl, rfl⟩ p hp
    replace hp := (List.mem_filter.1 hp).1
    simp only [List.mem_cons, List.not_mem_nil, or_false] at hp
    rcases hp with rfl | rfl | rfl | rfl <;> first | exact .inl rfl | exact .inr ⟨_, rfl, trivial, mo_load rfl (.there p2)⟩ | exact .inr ⟨_, rfl, trivial, mo_load rfl (.there p3)⟩
   rintro fv L1 x1 ⟨rfl, rfl⟩
   refine ap_know (of_has .here (vec_shape (by omega))) ?_
   rintro ⟨fa, fn, fc, rfl, hfn, _, hfz, hfy⟩
   obtain rfl : n = fn := by rw [List.length_map, filledN_len] at hfn; omega
   skip
   refine ap_callv rfl rfl rfl rfl trivial rfl rfl (.cons rfl (.cons rfl (.cons rfl .nil))) (write_tr (A := slkAcc (sqD n) (sqZ mb bk qb) sqOk r sb says turn fin wg (all [])) (slk_at h1 h2) (ws := (sqD n).words x) (show (filledN n x).length = n from filledN_len) (filledN_lt h2 (show x ≤ 1000000 by omega)) (slk_write hs) (.there .here) (rdsoV .here (show ((filledN n x).map num).length = n by rw [List.length_map, filledN_len]) hfz hfy)) ?_
   rintro v L' x' ⟨q, s', ⟨p', s0, hq', hf', hok0, hz0, hm⟩, rfl, rfl, rfl⟩
   repeat (first | refine aM ?_ | refine aA ?_ | (apply ap_pure; exact rfl; exact rfl; exact gY; intro L; apply mo_extract; exact rfl; exact rfl) | refine ap_end ?_)
   obtain ⟨z, hz⟩ : ∃ z : SwZ, z = s'.c := ⟨_, rfl⟩
   have hokz : z.2.1 = false ∧ z.2.2.2.1 = false ∧ z.2.2.2.2 = true ∧ z.2.2.1.length ≤ 90000 := by rw [hz, ← hz0]; exact hok0
   obtain ⟨zm, zt, zr, zb, zq⟩ := z
   simp only at hokz
   obtain ⟨rfl, rfl, rfl, hzl⟩ := hokz
   refine we_star ((fun h => ∃ rv : Value, all [mapC .u64 mb zm, arr bk 0 [.map (some mb), .bool false, rv, .bool false], vec 2 rv (zr.map bkE).flatten, arr qb 0 [.bool true]] h) :: wds (sAddr r) (n + 1) (sK r n) s'.f :: seatR sb says turn fin :: Ro :: F) (fun hp st => ?_) ?_
   ·have s1 : Star (wds (sAddr r) (n + 1) (sK r n) s'.f :: sqZ mb bk qb s'.c :: seatR sb says turn fin :: all [] :: vec 1 (.slice fa n fc) _ :: Ro :: F) hp := star_open (M := [_, _, _, _]) st
    rw [← hz] at s1
    exact Ent.star (.take (.there .here) (.take .here (.take .here (.drop (.drop .refl))))) s1
   refine we_ex .here fun rv => ?_
   refine we_star (mapC .u64 mb zm :: arr bk 0 [.map (some mb), .bool false, rv, .bool false] :: vec 2 rv (zr.map bkE).flatten :: arr qb 0 [.bool true] :: wds (sAddr r) (n + 1) (sK r n) s'.f :: seatR sb says turn fin :: Ro :: F) (fun hp st => star_open (M := [_, _, _, _]) st) ?_
   repeat (first | refine we_seq ?_ | (refine wR ?_; try simp only [oS]) | refine wo_nil ?_ | refine wM ?_ | (apply wo_po; apply mo_bin; exact rfl; exact rfl; exact bin_eql; exact gY))
   refine we_join (B := tH) (I := sqMid mb bk qb r n k sb says turn fin wg t1 t2 t3 t4 i Ro F) ?_ ?_
   ·cases q with
    | none =>
     obtain ⟨hp', hm⟩ := hm
     repeat (first | refine wF ?_ | refine we_skip ?_)
     refine at_midS (B := tH) (I := sqMid mb bk qb r n k sb says turn fin wg t1 t2 t3 t4 i Ro F) (last, s') ⟨by rw [hq', hp'], hf', hm⟩ ⟨rfl, rfl, rfl, rfl, rfl, rfl, rfl, rfl, trivial⟩ (fun hp st => ?_) rfl
     have := sq_close (z := (zm, false, zr, false, true)) st
     rw [hz] at this
     exact this
    | some v =>
     replace hm : ((show SlkS SwZ from s'.s).z, p') = ((mPut zm (v : Nat) (num x), (mGet zm (v : Nat)).isSome, zr, false, decide (v > last)), v) := by rw [hz.symm] at hm; exact hm
     obtain ⟨hm1, hm2⟩ := Prod.mk.inj hm
     repeat (first | (apply wo_po; apply mo_load; exact rfl; exact p4'; exact trivial) | refine we_seq ?_ | (refine wR ?_; try simp only [oS]) | refine wM ?_ | refine wT ?_)
     refine wo_call (.cons rfl (.cons rfl (.cons rfl .nil))) trivial writes_tr ?_
     rintro w1 L1 x1 ⟨rfl, rfl⟩
     obtain ⟨g1, hg1⟩ : ∃ g1, (mGet zm (v : Nat)).isSome = g1 := ⟨_, rfl⟩
     have hcmp : decide (v > last) = decide (((v : Nat) : Int) > ((last : Nat) : Int)) := decide_eq_decide.2 (by omega)
     rw [hg1] at hm1 ⊢
     rw [hcmp] at hm1
     repeat (first | refine wS ?_ | (apply wo_po; apply mo_bin; exact rfl; exact rfl; exact bin_gtr; exact gY) | refine we_seq ?_ | (refine wR ?_; try simp only [oS]) | refine wo_nil ?_ | refine wM ?_ | refine wA ?_ | refine wK ?_ | refine wL ?_)
     refine at_midS (B := tH) (I := sqMid mb bk qb r n k sb says turn fin wg t1 t2 t3 t4 i Ro F) (v, { s' with c := (mPut zm (v : Nat) (num x), g1, zr, false, decide (((v : Nat) : Int) > ((last : Nat) : Int))) }) ⟨by rw [hq', hm2], hf', hm1.symm⟩ ⟨rfl, rfl, rfl, rfl, rfl, rfl, rfl, rfl, trivial⟩ (fun hp st => ?_) rfl
     exact sq_close (z := (mPut zm (v : Nat) (num x), g1, zr, false, decide (((v : Nat) : Int) > ((last : Nat) : Int)))) st
   ·rintro ⟨last2, s2⟩ hs2
    replace hs2 : SlkAt (sqD n) (sqZ mb bk qb) sqOk ⟨none :: (sqOps k).drop (2 * (i + 1)), .idle, last2⟩ s2 := hs2
    simp only [sqMid]
    repeat (first | (apply wo_po; apply mo_load; exact rfl; exact p2; exact trivial) | refine we_seq ?_ | (refine wR ?_; try simp only [oS]) | refine wM ?_)
    refine wo_call (.cons rfl (.cons rfl .nil)) trivial (read_tr (A := slkAcc (sqD n) (sqZ mb bk qb) sqOk r sb says turn fin wg (all [])) (slk_at h1 h2) (slk_read hs2) .here) ?_
    rintro v L' x' ⟨q, s', gv, ⟨p', s0, hq', hf', hok0, hz0, hm⟩, hgood, rfl, rfl, rfl⟩
    obtain ⟨z, hz⟩ : ∃ z : SwZ, z = s'.c := ⟨_, rfl⟩
    have hokz : z.2.1 = false ∧ z.2.2.2.1 = false ∧ z.2.2.2.2 = true ∧ z.2.2.1.length ≤ 90000 := by rw [hz, ← hz0]; exact hok0
    obtain ⟨zm, zt, zr, zb, zq⟩ := z
    simp only at hokz
    obtain ⟨rfl, rfl, rfl, hzl⟩ := hokz
    refine wo_star ((fun h => ∃ rv : Value, all [mapC .u64 mb zm, arr bk 0 [.map (some mb), .bool false, rv, .bool false], vec 2 rv (zr.map bkE).flatten, arr qb 0 [.bool true]] h) :: vec 1 gv ((rdW q).map num) :: wds (sAddr r) (n + 1) (sK r n) s'.f :: seatR sb says turn fin :: Ro :: F) (fun hp st => ?_) ?_
    ·have s1 : Star (wds (sAddr r) (n + 1) (sK r n) s'.f :: sqZ mb bk qb s'.c :: seatR sb says turn fin :: all [] :: vec 1 gv _ :: Ro :: F) hp := star_open (M := [_, _, _, _]) st
     rw [← hz] at s1
     exact Ent.star (.take (.there .here) (.take (.there (.there (.there .here))) (.take .here (.take .here (.drop .refl))))) s1
    refine wo_ex .here fun rv => ?_
    refine wo_star (mapC .u64 mb zm :: arr bk 0 [.map (some mb), .bool false, rv, .bool false] :: vec 2 rv (zr.map bkE).flatten :: arr qb 0 [.bool true] :: vec 1 gv ((rdW q).map num) :: wds (sAddr r) (n + 1) (sK r n) s'.f :: seatR sb says turn fin :: Ro :: F) (fun hp st => star_open (M := [_, _, _, _]) st) ?_
    cases q with
    | none =>
     obtain ⟨hp', hm⟩ := hm
     repeat (first | refine we_seq ?_ | (refine wR ?_; try simp only [oS]) | refine wo_nil ?_ | refine wM ?_ | refine wA ?_ | (apply wo_po; apply mo_extract; exact rfl; exact rfl; exact gY) | (apply wo_po; apply mo_bin; exact rfl; exact rfl; exact bin_eql; exact gY) | refine wadd ?_ | refine wF ?_ | refine we_skip ?_)
     refine at_roundS (B := tH) (I := sqInv mb bk qb r n k sb says turn fin wg t1 t2 t3 t4 Ro F) (R := fun j => 4 - j.1 < 4 - i) (i + 1, last2, s') (by show 4 - (i + 1) < 4 - i; omega) ⟨by show i + 1 ≤ 4; omega, by rw [hq', hp'], hf', hm⟩ ⟨rfl, rfl, rfl, rfl, rfl, rfl, rfl, rfl, trivial⟩ (fun hp st => ?_) rfl
     have := sq_close (z := (zm, false, zr, false, true)) (Ent.star (.take .here (.take .here (.take .here (.take .here (.drop .refl))))) st)
     rw [hz] at this
     exact this
    | some y =>
     obtain ⟨acc, v⟩ := y
     obtain ⟨hal, hab, hvb⟩ := hgood _ rfl
     replace hal : acc.length = n := hal
     replace hm : ((show SlkS SwZ from s'.s).z, p') = ((zm, false, zr ++ [(v, (wholeF acc).1)], !(wholeF acc).2, decide (v ≥ last2)), last2) := by rw [hz.symm] at hm; exact hm
     obtain ⟨hm1, hm2⟩ := Prod.mk.inj hm
     have hcmp : decide (v ≥ last2) = decide (((v : Nat) : Int) ≥ ((last2 : Nat) : Int)) := decide_eq_decide.2 (by omega)
     rw [hcmp] at hm1
     simp only [rdW, rdV, Option.map_some, Option.getD_some]
     refine wo_pure (of_has (.there (.there (.there (.there .here)))) (vec_shape (by omega))) ?_
     rintro ⟨ga, gn, gc, rfl, hgn, _, hgz, hgy⟩
     obtain rfl : n = gn := by simp at hgn; omega
     refine wo_star (arr bk 0 [.map (some mb), .bool false, rv, .bool false] :: vec 2 rv (zr.map bkE).flatten :: mapC .u64 mb zm :: arr qb 0 [.bool true] :: vec 1 (.slice ga n gc) (acc.map num) :: wds (sAddr r) (n + 1) (sK r n) s'.f :: seatR sb says turn fin :: Ro :: F) (fun hp st => Ent.star (.take (.there .here) (.take (.there .here) .refl)) st) ?_
     repeat (first | (apply wo_po; apply mo_load; exact rfl; exact p47; exact trivial) | refine we_seq ?_ | (refine wR ?_; try simp only [oS]) | refine wo_nil ?_ | refine wM ?_ | refine wA ?_ | (apply wo_po; apply mo_extract; exact rfl; exact rfl; exact gY) | (apply wo_po; apply mo_bin; exact rfl; exact rfl; exact bin_eql; exact gY) | refine wT ?_)
     refine wo_call (.cons rfl (.cons rfl (.cons rfl .nil))) trivial (reads_tr (rdsoV (.there (.there (.there (.there .here)))) (by simp; omega) hgz hgy) h2 h1 hab (by omega)) ?_
     rintro w1 L1 x1 ⟨rv2, rfl, rfl⟩
     repeat (first | refine wS ?_ | (refine wR ?_; try simp only [oS]) | refine wo_nil ?_ | refine wM ?_ | refine wA ?_ | refine wK ?_ | refine wL ?_ | (apply wo_po; apply mo_bin; exact rfl; exact rfl; exact bin_geq; exact gY) | refine wadd ?_)
     refine at_roundS (B := tH) (I := sqInv mb bk qb r n k sb says turn fin wg t1 t2 t3 t4 Ro F) (R := fun j => 4 - j.1 < 4 - i) (i + 1, last2, { s' with c := (zm, false, zr ++ [(v, (wholeF acc).1)], !(wholeF acc).2, decide (((v : Nat) : Int) ≥ ((last2 : Nat) : Int))) }) (by show 4 - (i + 1) < 4 - i; omega) ⟨by show i + 1 ≤ 4; omega, by rw [hq', hm2], hf', hm1.symm⟩ ⟨rfl, rfl, rfl, rfl, rfl, rfl, rfl, rfl, trivial⟩ (fun hp st => ?_) rfl
     exact sq_close (z := (zm, false, zr ++ [(v, (wholeF acc).1)], !(wholeF acc).2, decide (((v : Nat) : Int) ≥ ((last2 : Nat) : Int)))) (Ent.star (.take (.there (.there .here)) (.take (.there .here) (.take .here (.take .here (.drop .refl))))) st)
  ·obtain rfl : i = 4 := by omega
   repeat (first | refine wlssF ?_ | refine we_seq ?_ | (refine wR ?_; try simp only [oS]) | refine wo_nil ?_ | refine wM ?_ | refine wF ?_ | refine we_exit ?_)
   (first | refine or0 Try.func13 Try.results13 hQ ?_ | refine on0 Try.func13 Try.results13 hQ ?_)
   refine ⟨s.s, s.q, s.n, rfl, ?_, fun hp st => ?_⟩
   ·show slkPlan (sqD n) s.q = none
    rw [hs.q]; rfl
   ·have s1 : Star (wds (sAddr r) (n + 1) (sK r n) s.f :: sqZ mb bk qb s.c :: seatR sb says turn fin :: all [] :: Ro :: F) hp := star_open (M := [_, _, _, _]) st
    have s2 : Star (wds (sAddr r) (n + 1) (sK r n) (slkW (sqD n) s.s) :: sqZ mb bk qb s.c :: seatR sb says turn fin :: all [] :: Ro :: F) hp := star_map s1 (wds_congr hs.f) fun _ z => z
    rw [hs.c] at s2
    have s3 := star_shut (M := [_, _]) s2
    exact star_map s3 (fun _ z => z) fun hq z => star_map z (fun _ z => z) fun hq z => star_shut (M := []) (Ent.star (.drop (.drop .refl)) z)
end
end
section
def bxS (ts : List Nat) : List HProp := ts.mapIdx fun i b => arr b 0 [.int .i64 (i : Nat)]
theorem bxS_snoc {ts : List Nat} {t : Nat} : bxS (ts ++ [t]) = bxS ts ++ [arr t 0 [.int .i64 (ts.length : Nat)]] := by
 unfold bxS
 rw [List.mapIdx_append]
 simp
def mthS (RoS : HProp) (i : Nat) (b : Nat) : HProp := all [RoS, arr b 0 [.int .i64 (i : Nat)]]
theorem dealS {RoS : HProp} (hd : Dup RoS) {ts : List Nat} {L : List HProp} {h : Hp} (s : Star (RoS :: all (bxS ts) :: L) h) : Star (all (ts.mapIdx (mthS RoS)) :: RoS :: L) h := by
 have s1 := dup_many hd s ts.length
 have s2 : Star (all (List.replicate ts.length RoS) :: all (bxS ts) :: RoS :: L) h := Ent.star (.take .here (.take (.there .here) (.take .here .refl))) s1
 have s3 := star_zip (by simp [bxS]) s2
 have e : List.zipWith (fun a b => all [a, b]) (List.replicate ts.length RoS) (bxS ts) = ts.mapIdx (mthS RoS) := by
  apply List.ext_getElem?
  intro i
  by_cases hi : i < ts.length
  ·simp [bxS, mthS, hi, List.getElem?_zipWith]
  ·have h1 : (ts.mapIdx (mthS RoS))[i]? = none := List.getElem?_eq_none_iff.2 (by simp; omega)
   rw [h1]
   apply List.getElem?_eq_none_iff.2
   simp [bxS]; omega
 rw [e] at s3
 exact s3
abbrev sqRoS (t8 t5 t10 r n bk : Nat) : HProp := all [fro t8 0 [.pointer (some ⟨r, 0, none⟩)], fro t5 0 [.int .i64 (n : Nat)], fro t10 0 [.pointer (some ⟨bk, 0, none⟩)]]
def sqthrs (t8 t5 t10 mb bk qb r n : Nat) (ts : List Nat) : List (Thr ((sqG mb bk qb n).g (sAddr r) (n + 1) (sK r n))) := ts.mapIdx fun i b => { fv := sqF b t8 t5 t10 qb, ini := fun s => (s, (show ((sqG mb bk qb n).g (sAddr r) (n + 1) (sK r n)).θ from (⟨sqOps i, .idle, 0⟩ : SlkQ Nat))), M := mthS (sqRoS t8 t5 t10 r n bk) i b }
theorem startF_qsW {g : Game} : ∀ {ts : List (Thr g)} {s : g.σ}, (∀ t ∈ ts, ∀ s, (t.ini s).1 = s) → startF ts s = (s, ts.map fun t => (t.ini s).2)
 | [], s, _ => rfl
 | t :: ts, s, h => by
  have h1 := h t (by simp) s
  have h2 := startF_qsW (ts := ts) (s := s) fun u hu => h u (by simp [hu])
  show ((startF ts (t.ini s).1).1, (t.ini s).2 :: (startF ts (t.ini s).1).2) = _
  rw [h1, h2]; rfl
theorem sumN_leW {l : List Nat} {c : Nat} (h : ∀ a ∈ l, a ≤ c) : sumN l ≤ c * l.length := by
 induction l with
 | nil => simp [sumN]
 | cons a l ih =>
  have h1 := ih fun b hb => h b (by simp [hb])
  have h2 := h a (by simp)
  simp only [sumN, List.foldr_cons, List.length_cons, Nat.mul_add] at h1 ⊢; omega
def wl : Nat → List Nat → List (Int × Value)
 | _, [] => []
 | o, x :: xs => (((2 * o : Nat) : Int), num x) :: wl (o + 1) xs
theorem wl_get : ∀ (xs : List Nat) (o j : Nat), mGet (wl o xs) ((2 * (o + j) : Nat) : Int) = (xs[j]?).map num
 | [], o, j => by simp [wl, mGet]
 | x :: xs, o, 0 => by unfold wl mGet; rw [if_pos (by omega)]; rfl
 | x :: xs, o, j + 1 => by
  unfold wl mGet
  rw [if_neg (by omega), show o + (j + 1) = (o + 1) + j by omega, wl_get xs (o + 1) j]; rfl
theorem wl_put : ∀ (xs : List Nat) (o x : Nat), mPut (wl o xs) ((2 * (o + xs.length) : Nat) : Int) (num x) = wl o (xs ++ [x])
 | [], o, x => rfl
 | y :: xs, o, x => by
  unfold wl mPut
  rw [if_neg (by simp only [List.length_cons]; omega), List.length_cons, show o + (xs.length + 1) = (o + 1) + xs.length by omega, wl_put xs (o + 1) x]; rfl
theorem wl_mem : ∀ (xs : List Nat) (o : Nat) (y : Int × Value), y ∈ wl o xs → ∃ q, q < xs.length ∧ y.1 = ((2 * (o + q) : Nat) : Int)
 | [], o, y, h => by cases h
 | x :: xs, o, y, h => by
  unfold wl at h
  rcases List.mem_cons.1 h with rfl | h
  ·exact ⟨0, by simp, rfl⟩
  ·obtain ⟨q, h1, h2⟩ := wl_mem xs (o + 1) y h
   exact ⟨q + 1, by simp; omega, by rw [h2, show o + 1 + q = o + (q + 1) by omega]⟩
theorem wholeF_filled {n x : Nat} (h1 : 1 ≤ n) (h2 : n ≤ 16) (hx : x ≤ 1000) : wholeF (filledN n x) = (x, true) := by
 have hd : (filledN n x).headD 0 = x * 100 := by
  obtain ⟨m, rfl⟩ : ∃ m, n = m + 1 := ⟨n - 1, by omega⟩
  unfold filledN
  rw [List.range_succ_eq_map]; rfl
 have hq : x * 100 / 100 = x := by omega
 have hb : wholeB (filledN n x) = true := by
  unfold wholeB
  rw [hd, hq]
  refine List.all_eq_true.2 fun i hi => ?_
  have hi : i < n := by have := List.mem_range.1 hi; rwa [filledN_len] at this
  have : (filledN n x)[i]? = some (x * 100 + i) := by simp [filledN, hi]
  rw [List.getD_eq_getElem?_getD, this]
  simp only [Option.getD_some, beq_iff_eq]
  omega
 unfold wholeF
 rw [if_pos hb, hd, hq]
structure sqJ (m : Nat) (xs : List Nat) (z : SwZ) (πs : List Nat) : Prop where
 w : z.1 = wl 1 xs.tail
 t : z.2.1 = false
 b : z.2.2.2.1 = false
 q : z.2.2.2.2 = true
 len : z.2.2.1.length ≤ m
 x0 : xs[0]? = some 0
 xb : ∀ x ∈ xs, x ≤ 1000
 r : ∀ y ∈ z.2.2.1, ∃ j, xs[j]? = some y.2 ∧ y.1 = 2 * j
 p : ∀ p ∈ πs, p ≤ 2 * (xs.length - 1)
section
variable {t8 t5 t10 mb bk qb r n : Nat} {ts : List Nat}
theorem sq_step (h1 : 1 ≤ n) (h2 : n ≤ 16) {m : Nat} (hm : m < 1000000000) {s : SlkS SwZ} {qs : List (SlkQ Nat)} (I : SlkI (sqD n) (fun x => x ≤ 1000) sqJ m s qs) {k : Nat} {q : SlkQ Nat} (hq : qs[k]? = some q) {mk : Int × Int} {f : SlkS SwZ → SlkS SwZ × SlkQ Nat} (hp : slkPlan (sqD n) q = some (mk, f)) :
  SlkI (sqD n) (fun x => x ≤ 1000) sqJ (m + 1) (f s).1 (qs.set k (f s).2) ∧ sumN ((qs.set k (f s).2).map (slkφ n)) + 1 ≤ sumN (qs.map (slkφ n)) := by
 refine slk_step (D := sqD n) hm (fun xs z πs h => { h with len := Nat.le_succ_of_le h.len }) ?_ ?_ I hq hp
 ·rintro xs ⟨zm, zt, zr, zb, zq⟩ (πs : List Nat) k (p : Nat) x h hk lo hi hx
  obtain ⟨e1, e2, e3, e4, e5, e6, e7, e8, e9⟩ := h
  simp only at e1 e2 e3 e4 e5 e8
  subst e1; subst e2; subst e3; subst e4
  obtain ⟨y, ys, rfl⟩ : ∃ y ys, xs = y :: ys := by
   cases xs with
   | nil => simp at lo
   | cons y ys => exact ⟨y, ys, rfl⟩
  have hl : (y :: ys).length = 1 + ys.length := by rw [List.length_cons]; omega
  have hg : mGet (wl 1 ys) ((2 * (y :: ys).length : Nat) : Int) = none := by
   rw [hl, wl_get ys 1 ys.length, List.getElem?_eq_none (Nat.le_refl _)]; rfl
  have hpq : mPut (wl 1 ys) ((2 * (y :: ys).length : Nat) : Int) (num x) = wl 1 (ys ++ [x]) := by
   rw [hl]; exact wl_put ys 1 x
  have hpp : p ≤ 2 * ((y :: ys).length - 1) := e9 p (List.mem_of_getElem? hk)
  refine ⟨hpq, ?_, rfl, ?_, by show zr.length ≤ m + 1; omega, e6, fun w hw => ?_, fun w hw => ?_, fun w hw => ?_⟩
  ·show (false || (mGet (wl 1 ys) ((2 * (y :: ys).length : Nat) : Int)).isSome) = false
   rw [hg]; rfl
  ·show (true && decide (2 * (y :: ys).length > p)) = true
   simp; simp at hpp; omega
  ·rcases List.mem_append.1 hw with hw | hw
   ·exact e7 w hw
   ·cases List.mem_singleton.1 hw; exact hx
  ·obtain ⟨j, h5, h6⟩ := e8 w hw
   exact ⟨j, by rw [List.getElem?_append_left (List.getElem?_eq_some_iff.1 h5).1]; exact h5, h6⟩
  ·have hl2 : (y :: ys ++ [x]).length = (y :: ys).length + 1 := by simp
   rw [hl2]
   rcases List.mem_or_eq_of_mem_set hw with hw | rfl
   ·have := e9 w hw; omega
   ·show 2 * (y :: ys).length ≤ _; omega
 ·rintro xs ⟨zm, zt, zr, zb, zq⟩ (πs : List Nat) k (p : Nat) x h hk lo hi hx
  obtain ⟨e1, e2, e3, e4, e5, e6, e7, e8, e9⟩ := h
  simp only at e1 e2 e3 e4 e5 e8
  subst e1; subst e2; subst e3; subst e4
  have hxm := List.mem_of_getLast? hx
  have hwf : wholeF ((sqD n).words x) = (x, true) := wholeF_filled h1 h2 (e7 x hxm)
  have hpp : p ≤ 2 * (xs.length - 1) := e9 p (List.mem_of_getElem? hk)
  refine ⟨rfl, rfl, ?_, ?_, ?_, e6, e7, fun w hw => ?_, fun w hw => ?_⟩
  ·show (false || !(wholeF ((sqD n).words x)).2) = false
   rw [hwf]; rfl
  ·show (true && decide (2 * (xs.length - 1) ≥ p)) = true
   simp; omega
  ·show (zr ++ [_]).length ≤ m + 1
   simp; omega
  ·replace hw' : w ∈ zr ++ [(2 * (xs.length - 1), (wholeF ((sqD n).words x)).1)] := hw
   rcases List.mem_append.1 hw' with h3 | h3
   ·exact e8 w h3
   ·cases List.mem_singleton.1 h3
    refine ⟨xs.length - 1, ?_, rfl⟩
    rw [List.getLast?_eq_getElem?] at hx
    rw [hx, hwf]
  ·rcases List.mem_or_eq_of_mem_set hw with hw | rfl
   ·exact e9 w hw
   ·exact hpp
theorem sqthrs_ok (h1 : 1 ≤ n) (h2 : n ≤ 16) (h6 : ts.length ≤ 4) : ∀ t ∈ sqthrs t8 t5 t10 mb bk qb r n ts, ThrOk ((sqG mb bk qb n).g (sAddr r) (n + 1) (sK r n)) t.ini t.fv t.M := by
 intro t ht
 obtain ⟨i, hi⟩ := List.mem_iff_getElem?.1 ht
 simp only [sqthrs, List.getElem?_mapIdx, Option.map_eq_some_iff] at hi
 obtain ⟨y, hy, rfl⟩ := hi
 have hi6 : i < ts.length := (List.getElem?_eq_some_iff.1 hy).1
 have O : SqRo (mthS (sqRoS t8 t5 t10 r n bk) i y) y t8 t5 t10 r n i bk :=
  {
   h1 := rd_all (.there (.row0 rfl))
   h2 := rd_all (rd_all (Rd.fro (k := 0) rfl rfl))
   h3 := rd_all (rd_all (.there (Rd.fro (k := 0) rfl rfl)))
   h4 := rd_all (rd_all (.there (.there (Rd.fro (k := 0) rfl rfl))))
   hk := by omega }
 exact sq_ok h1 h2 O
theorem sqthrs_M : (sqthrs t8 t5 t10 mb bk qb r n ts).map Thr.M = ts.mapIdx (mthS (sqRoS t8 t5 t10 r n bk)) := by
 apply List.ext_getElem?
 intro k
 simp only [sqthrs, List.getElem?_map, List.getElem?_mapIdx]
 cases ts[k]? <;> rfl
theorem sqthrs_fv : (sqthrs t8 t5 t10 mb bk qb r n ts).map Thr.fv = ts.map fun b => sqF b t8 t5 t10 qb := by
 apply List.ext_getElem?
 intro k
 simp only [sqthrs, List.getElem?_map, List.getElem?_mapIdx]
 cases ts[k]? <;> rfl
theorem sqthrs_ini : ∀ t ∈ sqthrs t8 t5 t10 mb bk qb r n ts, ∀ s, (t.ini s).1 = s := fun t ht s => by
 obtain ⟨i, hi⟩ := List.mem_iff_getElem?.1 ht
 simp only [sqthrs, List.getElem?_mapIdx, Option.map_eq_some_iff] at hi
 obtain ⟨y, hy, rfl⟩ := hi
 rfl
def sqQs (ts : List Nat) : List (SlkQ Nat) := ts.mapIdx fun i _ => (⟨sqOps i, .idle, 0⟩ : SlkQ Nat)
theorem sqthrs_start {s : SlkS SwZ} : startF (sqthrs t8 t5 t10 mb bk qb r n ts) (show ((sqG mb bk qb n).g (sAddr r) (n + 1) (sK r n)).σ from s) = (s, sqQs ts) := by
 rw [startF_qsW sqthrs_ini]
 congr 1
 apply List.ext_getElem?
 intro k
 show ((sqthrs t8 t5 t10 mb bk qb r n ts).map fun t => (t.ini s).2)[k]? = (sqQs ts)[k]?
 rw [List.getElem?_map]
 unfold sqthrs sqQs
 rw [List.getElem?_mapIdx, List.getElem?_mapIdx]
 cases ts[k]? <;> rfl
def sqS0 : SlkS SwZ := ⟨0, fun j => 0 * 100 + j, [0], ([], false, [], false, true)⟩
theorem sq_I0 (h2 : n ≤ 16) (h6 : ts.length ≤ 4) : SlkI (sqD n) (fun x => x ≤ 1000) sqJ 0 sqS0 (sqQs ts) ∧ sumN ((sqQs ts).map (slkφ n)) ≤ 640 := by
 have hlen : (sqQs ts).length = ts.length := by simp [sqQs]
 have hmem : ∀ (k : Nat) q, (sqQs ts)[k]? = some q → ∃ i, i < 4 ∧ q = (⟨sqOps i, .idle, 0⟩ : SlkQ Nat) := fun k q hq => by
  have hk := (List.getElem?_eq_some_iff.1 hq).1
  simp only [sqQs, List.getElem?_mapIdx, Option.map_eq_some_iff] at hq
  obtain ⟨y, _, rfl⟩ := hq
  exact ⟨k, by omega, rfl⟩
 refine ⟨⟨Nat.le_refl 1, Nat.le_refl 1, .inl ⟨rfl, fun j hj => rfl, fun k q hq => ?_⟩, fun k q hq => ?_, ⟨rfl, rfl, rfl, rfl, Nat.le_refl _, rfl, fun x hx => ?_, (fun y hy => by cases hy), fun p hp => ?_⟩⟩, ?_⟩
 ·obtain ⟨i, _, rfl⟩ := hmem k q hq; rfl
 ·obtain ⟨i, hi, rfl⟩ := hmem k q hq
  refine ⟨fun x hx => ?_, trivial⟩
  simp only [sqOps, List.mem_cons, Option.some.injEq, List.not_mem_nil, or_false, reduceCtorEq, false_or] at hx
  show x ≤ 1000
  omega
 ·cases List.mem_singleton.1 hx; exact Nat.zero_le _
 ·obtain ⟨q, hq, rfl⟩ := List.mem_map.1 hp
  obtain ⟨k, hk⟩ := List.mem_iff_getElem?.1 hq
  obtain ⟨i, _, rfl⟩ := hmem k q hk
  exact Nat.zero_le _
 ·have := sumN_leW (c := 160) (l := (sqQs ts).map (slkφ n)) (fun a ha => by
   obtain ⟨q, hq, rfl⟩ := List.mem_map.1 ha
   obtain ⟨k, hk⟩ := List.mem_iff_getElem?.1 hq
   obtain ⟨i, _, rfl⟩ := hmem k q hk
   show 8 * (n + 4) - 0 ≤ 160
   omega)
  rw [List.length_map, hlen] at this
  have h3 := Nat.mul_le_mul_left 160 h6
  omega
def sqPI (p : PS ((sqG mb bk qb n).g (sAddr r) (n + 1) (sK r n))) : Prop := SlkI (sqD n) (fun x => x ≤ 1000) sqJ p.tr.length p.s p.qs ∧ p.tr.length ≤ 16384
theorem sq_plays (h1 : 1 ≤ n) (h2 : n ≤ 16) (h6 : ts.length ≤ 4) (o : List Int) :
  (∀ (p : PS ((sqG mb bk qb n).g (sAddr r) (n + 1) (sK r n))) k, sqPI p → sqPI (takeF p k).1) ∧ sqPI (mb := mb) (bk := bk) (qb := qb) (r := r) (n := n) ⟨(startF (sqthrs t8 t5 t10 mb bk qb r n ts) (show ((sqG mb bk qb n).g (sAddr r) (n + 1) (sK r n)).σ from sqS0)).1, (startF (sqthrs t8 t5 t10 mb bk qb r n ts) (show ((sqG mb bk qb n).g (sAddr r) (n + 1) (sK r n)).σ from sqS0)).2, []⟩ ∧
  sqPI (playF (sqthrs t8 t5 t10 mb bk qb r n ts) (show ((sqG mb bk qb n).g (sAddr r) (n + 1) (sK r n)).σ from sqS0) o) ∧ cutN ((sqG mb bk qb n).g (sAddr r) (n + 1) (sK r n)) (playF (sqthrs t8 t5 t10 mb bk qb r n ts) (show ((sqG mb bk qb n).g (sAddr r) (n + 1) (sK r n)).σ from sqS0) o).qs (sqthrs t8 t5 t10 mb bk qb r n ts).length = [] := by
 have hs : ∀ (p : PS ((sqG mb bk qb n).g (sAddr r) (n + 1) (sK r n))) k, sqPI p → sqPI (takeF p k).1 ∧ ((takeF p k).2 = true → sumN ((show List (SlkQ Nat) from (takeF p k).1.qs).map (slkφ n)) + 1 ≤ sumN ((show List (SlkQ Nat) from p.qs).map (slkφ n))) := fun p k h => by
  rcases takeF_cases p k with e | ⟨m, q, mk, f, _, hq, hp, h16, e⟩
  ·rw [e]; exact ⟨h, fun h => by cases h⟩
  ·rw [e]
   obtain ⟨h, hle⟩ := h
   obtain ⟨a, b⟩ := sq_step h1 h2 (by omega) h hq hp
   refine ⟨⟨?_, ?_⟩, fun _ => b⟩
   ·show SlkI (sqD n) (fun x => x ≤ 1000) sqJ (p.tr ++ [(m, mk)]).length _ _
    rw [List.length_append]; exact a
   ·show (p.tr ++ [(m, mk)]).length ≤ 16384
    simp; omega
 obtain ⟨i0, f0⟩ := sq_I0 (n := n) h2 h6
 have hI0 : sqPI (mb := mb) (bk := bk) (qb := qb) (r := r) (n := n) ⟨(startF (sqthrs t8 t5 t10 mb bk qb r n ts) (show ((sqG mb bk qb n).g (sAddr r) (n + 1) (sK r n)).σ from sqS0)).1, (startF (sqthrs t8 t5 t10 mb bk qb r n ts) (show ((sqG mb bk qb n).g (sAddr r) (n + 1) (sK r n)).σ from sqS0)).2, []⟩ := by
  rw [sqthrs_start]; exact ⟨i0, Nat.zero_le _⟩
 obtain ⟨hI, htr, hdone⟩ := play_ends (I := sqPI) (Φ := fun p => sumN ((show List (SlkQ Nat) from p.qs).map (slkφ n))) (ts := sqthrs t8 t5 t10 mb bk qb r n ts) (s := (show ((sqG mb bk qb n).g (sAddr r) (n + 1) (sK r n)).σ from sqS0)) (o := o) (n := 640) (fun p k h => (hs p k h).1) (fun p k h => (hs p k h).2) hI0 (by rw [sqthrs_start]; exact f0) (by omega)
 exact ⟨fun p k h => (hs p k h).1, hI0, hI, cutN_nil hdone⟩
end
theorem sq_book {m : Nat} {xs : List Nat} {z : SwZ} {πs : List Nat} (h : sqJ m xs z πs) (hl : xs.length ≤ 100000) : BkOk z.1 z.2.2.1 where
 m := fun y hy => by
  rw [h.w] at hy
  obtain ⟨q, h1, h2⟩ := wl_mem _ _ _ hy
  rw [List.length_tail] at h1
  exact ⟨q, by rw [h2, Nat.add_comm], by omega⟩
 r := fun y hy => by
  obtain ⟨j, h1, h2⟩ := h.r y hy
  cases j with
  | zero =>
   rw [h.x0] at h1
   exact .inl ⟨h2, (Option.some.inj h1).symm⟩
  | succ j =>
   refine .inr ⟨by omega, ?_⟩
   rw [h.w, h2, show 2 * (j + 1) = 2 * (1 + j) by omega, wl_get, List.getElem?_tail, h1]; rfl
end
end Go.Proofs.Ytodgemainhokjaa
namespace Go.Proofs.Ytodgemainhokjaa
open Go Go.PB
attribute [local irreducible] Mo Bin Eql Tr Wo Ap
section
def intC (l : List Int) : List Value := l.map fun k => .int .i64 k
def orderF (m : Nat) (l : List Int) : List Int := (l.take 2000).map fun k => k % ((m : Int) + 1)
section
variable {B : Hand} [Lets B] {L F : List HProp} {x : B.X}
def orderInv (x : B.X) (u : Value) (m : Nat) (l : List Int) (L : List HProp) : Inv (Nat × Value) B.X where
 e := fun i => [(0, u), (1, .int .i64 (m : Nat)), (5, i.2), (6, .int .i64 (i.1 : Nat))]
 L := fun i => vec 1 i.2 (intC ((l.take i.1).map fun k => k % ((m : Int) + 1))) :: L
 x := fun _ => x
 ok := fun i => i.1 ≤ l.length ∧ i.1 ≤ 2000
theorem order_tr {a : Option Addr} {c m : Nat} {l : List Int} (hr : RdsO L a l.length (intC l)) (hm : m < 1000000) (hi : ∀ k ∈ l, -9223372036854775808 ≤ k ∧ k ≤ 9223372036854775807) :
  Tr Try.prog B 19 [.slice a l.length c, .int .i64 (m : Nat)] L x fun v L' x' => L' = vec 1 v (intC (orderF m l)) :: L ∧ x' = x := by
 refine tr_of_body Try.func19 rfl Try.ntmps19 (by simp) fun um Q _ hQ => ?_
 simp only [argE, Nat.zero_add, Nat.reduceAdd]
 repeat (first | refine we_seq ?_ | (refine wR ?_; try simp only [oS]) | refine wo_nil ?_ | refine wA ?_ | refine we_block ?_)
 refine we_star (vec 1 (.slice none 0 0) (intC ((l.take 0).map fun k => k % ((m : Int) + 1))) :: L) (fun h st => vec_nil st) ?_
 refine we_loopN (orderInv x (.slice a l.length c) m l L) (fun i => l.length - i.1) (0, .slice none 0 0) ⟨Nat.zero_le _, Nat.zero_le _⟩ ⟨rfl, rfl, rfl, rfl, trivial⟩ .refl rfl ?_
 rintro ⟨i, v⟩ ⟨hil, hi2⟩
 simp only at hil hi2
 simp only [orderInv]
 refine we_pure (of_has .here (vec_shape (by omega))) ?_
 rintro ⟨va, vn, vc, rfl, hvn, _⟩
 have hvn : vn = i := by simp [intC] at hvn; omega
 subst hvn
 by_cases hlt : vn < l.length
 ·by_cases h2 : vn < 2000
  ·obtain ⟨b, o, rfl, hrd⟩ := hr.rds (by omega)
   obtain ⟨k, hk⟩ : ∃ k, l[vn]? = some k := ⟨l[vn], List.getElem?_eq_getElem hlt⟩
   have hrk : ∀ {d : HProp}, Rd (d :: L) b (o + vn) (.int .i64 k) := fun {d} => .there (hrd vn _ (by simp [intC, hk]))
   repeat (first | (apply wo_po; apply mo_index1; exact rfl; exact rfl; omega; exact trivial) | (apply wo_po; apply mo_load; exact rfl; exact hrk; exact trivial) | refine wlssT ?_ | refine we_seq ?_ | (refine wR ?_; try simp only [oS]) | refine wo_nil ?_ | refine wM ?_ | refine wK ?_ | refine wadd ?_ | refine wE ?_ | refine wT ?_ | refine we_skip ?_ | refine we_block ?_)
   refine wo_call (.cons rfl (.cons rfl .nil)) trivial (within_tr (hi k (List.mem_of_getElem? hk)) (by omega)) ?_
   rintro v1 L1 x1 ⟨rfl, rfl, rfl⟩
   repeat (first | (apply wo_mo; apply mo_buildSlice (sz := 1) (vs := [.int .i64 (k % ((m : Int) + 1))]); exact rfl; exact .cons rfl .nil; exact rfl; (intro v hv; cases (List.mem_singleton.1 hv); exact rfl); omega; exact trivial))
   rintro v' L' ⟨nb, rfl, rfl⟩
   repeat (first | (apply wo_mo; apply mo_append (sz := 1) (new := [.int .i64 (k % ((m : Int) + 1))]); exact rfl; exact rfl; exact rfl; exact rfl; exact (.there .here); exact rfl; exact .inr ⟨_, _, rfl, Rds.all .here⟩; (intro v hv; cases (List.mem_singleton.1 hv); exact rfl); (simp only [sliceLen]; omega); exact trivial))
   rintro v' L' rfl
   repeat (first | (refine wR ?_; try simp only [oS]) | refine wo_nil ?_ | refine wM ?_ | refine wA ?_ | refine wadd ?_)
   refine at_round (I := orderInv x1 (.slice (some ⟨b, o, none⟩) l.length c) m l L) (R := fun j => l.length - j.1 < l.length - vn) (vn + 1, v') (by show l.length - (vn + 1) < l.length - vn; omega) ⟨by omega, by omega⟩ ?_ ?_ rfl
   exact ⟨rfl, rfl, rfl, rfl, trivial⟩
   show Ent _ (vec 1 v' (intC ((l.take (vn + 1)).map fun k => k % ((m : Int) + 1))) :: _)
   rw [show intC ((l.take (vn + 1)).map fun k => k % ((m : Int) + 1)) = intC ((l.take vn).map fun k => k % ((m : Int) + 1)) ++ [.int .i64 (k % ((m : Int) + 1))] by rw [List.take_add_one, hk]; simp [intC]]
   exact (.take .here (.drop .refl))
  ·obtain rfl : vn = 2000 := by omega
   repeat (first | refine wlssT ?_ | refine wlssF ?_ | refine we_seq ?_ | (refine wR ?_; try simp only [oS]) | refine wo_nil ?_ | refine wM ?_ | refine wA ?_ | refine wK ?_ | refine wE ?_ | refine wF ?_ | refine we_ret ?_ | refine we_exit ?_)
   (first | refine or1 Try.func19 Try.results19 hQ rfl ?_ | refine on1 Try.func19 Try.results19 hQ rfl ?_)
   exact ⟨rfl, rfl⟩
 ·obtain rfl : vn = l.length := by omega
  repeat (first | refine wlssF ?_ | refine we_seq ?_ | (refine wR ?_; try simp only [oS]) | refine wo_nil ?_ | refine wM ?_ | refine wA ?_ | (apply wo_no; exact rfl) | refine wJ ?_ | refine wE ?_ | refine wF ?_ | refine we_ret ?_ | refine we_exit ?_)
  (first | refine or1 Try.func19 Try.results19 hQ rfl ?_ | refine on1 Try.func19 Try.results19 hQ rfl ?_)
  refine ⟨?_, rfl⟩
  unfold orderF
  rw [List.take_of_length_le (by omega), List.take_of_length_le (by omega)]
end
end
end Go.Proofs.Ytodgemainhokjaa
namespace Go.Proofs.Ytodgemainhokjaa
open Go Go.PB
attribute [local irreducible] Mo Bin Eql Tr Wo Ap Wle
attribute [local instance] Pass.of_no
section
theorem rd_liftB {L : List HProp} : ∀ (M : List HProp) {b o : Nat} {v : Value}, Rd L b o v → Rd (M ++ L) b o v
 | [], b, o, v, h => h
 | c :: M, b, o, v, h => .there (rd_liftB M h)
theorem rdso_liftB {L : List HProp} (M : List HProp) {a : Option Addr} {n : Nat} {vs : List Value} (h : RdsO L a n vs) : RdsO (M ++ L) a n vs :=
 ⟨h.1, h.2.imp id fun ⟨b, o, e, r⟩ => ⟨b, o, e, fun i v hi => rd_liftB M (r i v hi)⟩⟩
def sqOut (t5 t8 t10 qb m : Nat) (ov : Value) (R : List HProp) : PB.Inv (Nat × Value × List Nat × Nat) MX where
 e := fun i => [(0, ov), (5, .pointer (some ⟨t5, 0, none⟩)), (7, .int .i64 (m : Nat)), (8, .pointer (some ⟨t8, 0, none⟩)), (10, .pointer (some ⟨t10, 0, none⟩)), (11, .pointer (some ⟨qb, 0, none⟩)), (12, i.2.1), (13, .pointer (some ⟨i.2.2.2, 0, none⟩))]
 L := fun i => vec 1 i.2.1 (i.2.2.1.map fun b => sqF b t8 t5 t10 qb) :: all (bxS i.2.2.1) :: arr i.2.2.2 0 [.int .i64 (i.1 : Nat)] :: R
 x := fun _ => .idle
 ok := fun i => i.1 ≤ m ∧ i.2.2.1.length = i.1
set_option maxHeartbeats 4000000 in
theorem sqwhole_tr {L : List HProp} {threads size : Int} {oa : Option Addr} {oc : Nat} {order : List Int} (ht : -9223372036854775808 ≤ threads ∧ threads ≤ 9223372036854775807) (hsz : -9223372036854775808 ≤ size ∧ size ≤ 9223372036854775807) (hro : RdsO L oa order.length (intC order)) (hoi : ∀ k ∈ order, -9223372036854775808 ≤ k ∧ k ≤ 9223372036854775807) :
  Tr Try.prog mT 3 [.slice oa order.length oc, .int .i64 threads, .int .i64 size] L .idle fun v L' x' => v = .bool true ∧ x' = .idle := by
 have e4 := Int.emod_nonneg threads (by decide : (4 : Int) ≠ 0)
 have e4' := Int.emod_lt_of_pos threads (by decide : (0 : Int) < 4)
 obtain ⟨m, hm⟩ : ∃ m : Nat, 1 + threads % 4 = m := ⟨(1 + threads % 4).toNat, by omega⟩
 have hm0 : IntKind.i64.wrap (1 + threads % 4) = m := by rw [hm]; exact wrap_i64 (by omega) (by omega)
 have hm1 : 1 ≤ m := by omega
 have hm4 : m ≤ 4 := by omega
 have e16 := Int.emod_nonneg size (by decide : (16 : Int) ≠ 0)
 have e16' := Int.emod_lt_of_pos size (by decide : (0 : Int) < 16)
 obtain ⟨n, hn⟩ : ∃ n : Nat, 1 + size % 16 = n := ⟨(1 + size % 16).toNat, by omega⟩
 have hw0 : IntKind.i64.wrap (1 + size % 16) = n := by rw [hn]; exact wrap_i64 (by omega) (by omega)
 have h1 : 1 ≤ n := by omega
 have h2 : n ≤ 16 := by omega
 refine tr_of_body Try.func3 rfl Try.ntmps3 (by simp) fun um Q _ hQ => ?_
 simp only [argE, Nat.zero_add, Nat.reduceAdd]
 repeat (first | (apply wo_mo; apply mo_box; exact rfl; exact trivial) | refine we_seq ?_ | (refine wR ?_; try simp only [oS]))
 rintro v' L' ⟨t5, rfl, rfl⟩
 refine wo_ent (arr t5 0 [.int .i64 size] :: L) (ent_eq rfl) ?_
 repeat (first | refine we_seq ?_ | (refine wR ?_; try simp only [oS]) | refine wo_nil ?_ | refine wA ?_)
 refine wo_call .nil trivial awake_tr ?_
 rintro v1 L1 x1 ⟨rfl, rfl, rfl⟩
 repeat (first | refine we_seq ?_ | (refine wR ?_; try simp only [oS]) | refine wo_nil ?_ | refine wM ?_ | (apply wo_po; apply mo_not; exact rfl; exact gY) | refine wF ?_ | refine we_skip ?_)
 refine wo_call (.cons rfl (.cons rfl .nil)) trivial (within_tr ht (by omega)) ?_
 rintro v1 L1 x1 ⟨rfl, rfl, rfl⟩
 repeat (first | (apply wo_po; apply mo_bin; exact rfl; exact rfl; apply bin_add; exact hm0; exact trivial) | refine we_seq ?_ | (refine wR ?_; try simp only [oS]) | refine wo_nil ?_ | refine wA ?_ | refine wL ?_)
 refine wo_call (.cons rfl (.cons rfl .nil)) trivial (within_tr hsz (by omega)) ?_
 rintro v1 L1 x1 ⟨rfl, rfl, rfl⟩
 repeat (first | (apply wo_po; apply mo_bin; exact rfl; exact rfl; apply bin_add; exact hw0; exact trivial) | refine wS ?_ | refine we_seq ?_ | (refine wR ?_; try simp only [oS]) | refine wo_nil ?_ | refine wL ?_)
 refine wo_call (.cons rfl (.cons rfl .nil)) trivial (filled_tr (n := n) (v := 0) h2 (by omega)) ?_
 rintro fv L1 x1 ⟨rfl, rfl⟩
 refine wo_pure (of_has .here (vec_shape (by omega))) ?_
 rintro ⟨fa, fn, fc, rfl, hfn, _, hfz, hfy⟩
 obtain rfl : n = fn := by simp [filledN] at hfn; omega
 skip
 refine wo_call (.cons rfl .nil) trivial (snew_tr h1 h2 filledN_len (filledN_lt h2 (by omega)) (rdsoV .here (by simp [filledN]) hfz hfy)) ?_
 rintro v1 L1 x1 ⟨r, rfl, rfl, rfl⟩
 repeat (first | (apply wo_mo; apply mo_alloc; exact trivial) | refine wM ?_ | (apply wo_po; apply mo_extract; exact rfl; exact rfl; exact gY))
 rintro v' L' ⟨t8, rfl, rfl⟩
 repeat (first | refine wS ?_ | (apply wo_mo; apply (mo_makeMap .u64); exact trivial) | refine wneqF ?_ | refine we_seq ?_ | (refine wR ?_; try simp only [oS]) | refine wo_nil ?_ | refine wM ?_ | refine wA ?_ | refine wJ ?_ | refine wL ?_ | (apply wo_po; apply mo_bin; exact rfl; exact rfl; apply bin_eq; apply eql_ptr_nil; exact gY) | refine wF ?_ | refine we_skip ?_)
 rintro v' L' ⟨mb, rfl, rfl⟩
 repeat (first | (apply wo_po; apply mo_build (pv := [(0, _)]); exact rfl; exact .cons rfl .nil; exact rfl; exact trivial) | (apply wo_mo; apply mo_box; exact rfl; exact trivial))
 rintro v' L' ⟨bk, rfl, rfl⟩
 repeat (first | (apply wo_mo; apply mo_alloc; exact trivial))
 rintro v' L' ⟨t10, rfl, rfl⟩
 repeat (first | refine wS ?_ | (apply wo_mo; apply mo_alloc; exact trivial) | refine we_seq ?_ | (refine wR ?_; try simp only [oS]) | refine wo_nil ?_)
 rintro v' L' ⟨qb, rfl, rfl⟩
 repeat (first | refine wS ?_ | (apply wo_mo; apply mo_alloc; exact trivial) | refine we_seq ?_ | (refine wR ?_; try simp only [oS]) | refine wo_nil ?_ | refine wA ?_)
 rintro v' L' ⟨kb, rfl, rfl⟩
 repeat (first | refine wS ?_ | refine wo_nil ?_ | refine we_block ?_)
 obtain ⟨R, hR⟩ : ∃ R, R = arr qb 0 [.bool true] :: arr t10 0 [.pointer (some ⟨bk, 0, none⟩)] :: arr bk 0 [.map (some mb), .bool false, .slice none 0 0, .bool false] :: mapC .u64 mb [] :: arr t8 0 [.pointer (some ⟨r, 0, none⟩)] :: sC r n (recF (filledN n 0) 0) :: vec 1 (.slice fa n fc) ((filledN n 0).map num) :: arr t5 0 [.int .i64 (n : Nat)] :: L := ⟨_, rfl⟩
 refine we_star ((sqOut t5 t8 t10 qb m (.slice oa order.length oc) R).L (0, .slice none 0 0, [], kb)) (fun h st => ?_) ?_
 ·have s1 : Star (all [] :: arr kb 0 [.int .i64 0] :: R) h := star_shut (M := []) (by rw [hR]; exact st)
  exact vec_nil s1
 refine we_loopN (sqOut t5 t8 t10 qb m (.slice oa order.length oc) R) (fun i => m - i.1) (0, .slice none 0 0, [], kb) ⟨Nat.zero_le _, rfl⟩ ⟨rfl, rfl, rfl, rfl, rfl, rfl, rfl, rfl, trivial⟩ .refl rfl ?_
 clear kb
 rintro ⟨i, tv, ts, kb⟩ ⟨hi, hts⟩
 dsimp only at hi hts
 simp only [sqOut]
 refine we_pure (of_has .here (vec_shape (by omega))) ?_
 rintro ⟨tva, tvn, tvc, rfl, htvn, _, htz, hty⟩
 have htvn : tvn = i := by simp at htvn; omega
 subst htvn
 by_cases hlt : tvn < m
 ·repeat (first | (apply wo_po; apply mo_makeFunc (first := []) (cap := [_, _, _, _, _]) (vf := []); exact .nil; exact .cons rfl (.cons rfl (.cons rfl (.cons rfl (.cons rfl .nil)))); exact trivial) | (apply wo_mo; apply mo_buildSlice (sz := 1) (vs := [sqF kb t8 t5 t10 qb]); exact rfl; exact .cons rfl .nil; exact rfl; (intro v hv; cases (List.mem_singleton.1 hv); exact rfl); omega; exact trivial) | refine wlssT ?_ | refine we_seq ?_ | (refine wR ?_; try simp only [oS]) | refine wo_nil ?_ | refine wM ?_ | refine wL ?_ | refine wT ?_ | refine we_skip ?_ | refine we_block ?_)
  rintro v' L' ⟨nb2, rfl, rfl⟩
  repeat (first | (apply wo_mo; apply mo_append (sz := 1) (new := [sqF kb t8 t5 t10 qb]); exact rfl; exact rfl; exact rfl; exact rfl; exact (.there .here); exact rfl; exact .inr ⟨_, _, rfl, Rds.all .here⟩; (intro v hv; cases (List.mem_singleton.1 hv); exact rfl); (simp only [sliceLen]; omega); exact trivial))
  rintro v2 L' rfl
  repeat (first | (apply wo_mo; apply mo_alloc; exact trivial) | refine we_seq ?_ | (refine wR ?_; try simp only [oS]) | refine wo_nil ?_ | refine wA ?_ | refine wL ?_)
  rintro v' L' ⟨kb2, rfl, rfl⟩
  repeat (first | refine wS ?_ | (refine wR ?_; try simp only [oS]) | refine wo_nil ?_ | refine wL ?_ | refine wadd ?_)
  refine at_roundS (B := mT) (I := (sqOut t5 t8 t10 qb m (.slice oa order.length oc) R)) (R := fun q => m - q.1 < m - tvn) (tvn + 1, v2, ts ++ [kb], kb2) (by show m - (tvn + 1) < m - tvn; omega) ⟨by show tvn + 1 ≤ m; omega, by simp [hts]⟩ ⟨rfl, rfl, rfl, rfl, rfl, rfl, rfl, rfl, trivial⟩ (fun hp st => ?_) rfl
  have s1 := star_open (Ent.star (.take (.there (.there (.there .here))) (.take (.there (.there (.there .here))) .refl)) st)
  have s2 : Star (all (bxS (ts ++ [kb])) :: _) hp := star_shut (by
   rw [bxS_snoc, List.append_assoc, hts]
   exact s1)
  have e1 : (ts ++ [kb]).map (fun b => sqF b t8 t5 t10 qb) = ts.map (fun b => sqF b t8 t5 t10 qb) ++ [sqF kb t8 t5 t10 qb] := by rw [List.map_append]; rfl
  show Star (vec 1 v2 ((ts ++ [kb]).map fun b => sqF b t8 t5 t10 qb) :: _) hp
  rw [e1]
  exact Ent.star (.take (.there (.there .here)) (.take .here (.take .here (.drop .refl)))) s2
 obtain rfl : tvn = m := by omega
 rw [hR]
 repeat (first | refine wlssF ?_ | refine we_seq ?_ | (refine wR ?_; try simp only [oS]) | refine wo_nil ?_ | refine wM ?_ | refine wL ?_ | refine wF ?_ | refine we_exit ?_)
 refine wo_call (.cons rfl (.cons rfl .nil)) trivial (order_tr (rdso_liftB [_, _, _, _, _, _, _, _, _, _, _] hro) (by omega) hoi) ?_
 rintro odv L1 x1 ⟨rfl, rfl⟩
 have hol : (orderF tvn order).length ≤ 2000 := by simp only [orderF, List.length_map, List.length_take]; omega
 refine wo_pure (of_has .here (vec_shape (by omega))) ?_
 rintro ⟨oda, odn, odc, rfl, hodn, _, hodz, hody⟩
 obtain rfl : odn = (orderF tvn order).length := by simp only [intC, List.length_map] at hodn; omega
 repeat (first | refine wM ?_)
 refine wo_frz (b := t5) (o := 0) (.there (.there (.there (.there (.there (.there (.there (.there (.there (.there (.there .here))))))))))) ?_
 refine wo_frz (b := t8) (o := 0) (.there (.there (.there (.there (.there (.there (.there (.there (.there .here))))))))) ?_
 refine wo_frz (b := t10) (o := 0) (.there (.there (.there (.there (.there (.there (.there .here))))))) ?_
 have hRoS : Dup (sqRoS t8 t5 t10 r n bk) := dup_all (by
  intro c hc
  simp only [List.mem_cons, List.not_mem_nil, or_false] at hc
  rcases hc with rfl | rfl | rfl
  ·exact dup_fro
  ·exact dup_fro
  ·exact dup_fro)
 obtain ⟨hIs, hI0, hI, hcut⟩ := sq_plays (t8 := t8) (t5 := t5) (t10 := t10) (mb := mb) (bk := bk) (qb := qb) (r := r) (n := n) (ts := ts) h1 h2 (by omega) (orderF tvn order)
 have hlen : (sqthrs t8 t5 t10 mb bk qb r n ts).length = tvn := by rw [← hts]; simp [sqthrs]
 refine wo_star (all [wds (sAddr r) (n + 1) (sK r n) (slkW (sqD n) sqS0), sqZ mb bk qb sqS0.z] :: all ((sqthrs t8 t5 t10 mb bk qb r n ts).map Thr.M) :: sqRoS t8 t5 t10 r n bk :: vec 1 (.slice oda (orderF tvn order).length odc) (intC (orderF tvn order)) :: vec 1 (.slice tva tvn tvc) (ts.map fun b => sqF b t8 t5 t10 qb) :: L) (fun h st => ?_) ?_
 ·have s2 : Star (sqRoS t8 t5 t10 r n bk :: _) h := star_shut (M := [_, _, _]) (Ent.star (.take (.there .here) (.take (.there .here) (.take .here .refl))) st)
  have s4 := dealS hRoS (Ent.star (.take .here (.take (.there (.there .here)) .refl)) s2)
  rw [sqthrs_M]
  have s5 : Star (vec 2 (.slice none 0 0) [] :: _) h := vec_nil (Ent.star (.take .here .refl) s4)
  have s6 : Star (sqZ mb bk qb sqS0.z :: _) h := star_qs (z := sqS0.z) (rv := .slice none 0 0) (Ent.star (.take (.there (.there (.there (.there (.there (.there (.there (.there .here)))))))) (.take (.there (.there (.there (.there (.there (.there (.there .here))))))) (.take .here (.take (.there (.there (.there (.there (.there .here))))) .refl)))) s5)
  have s7 : Star (wds (sAddr r) (n + 1) (sK r n) (slkW (sqD n) sqS0) :: _) h := star_map (Ent.star (.take (.there (.there (.there (.there (.there (.there .here)))))) (.take .here .refl)) s6) (sC_congr fun j hj => by
   unfold recF slkW
   by_cases h0 : j = 0
   ·rw [if_pos h0, if_pos h0]; rfl
   ·rw [if_neg h0, if_neg h0, List.getD_eq_getElem?_getD]
    have : (filledN n 0)[j - 1]? = some (0 * 100 + (j - 1)) := by
     have hj' : j < n + 1 := hj
     unfold filledN
     rw [List.getElem?_map, List.getElem?_range (by omega)]; rfl
    rw [this]; rfl) fun _ z => z
  have s8 := star_shut (M := [_, _]) s7
  exact Ent.star (.take .here (.take .here (.take .here (.take .here (.take .here (.drop (.drop .refl))))))) s8
 skip
 refine wo_call (.cons rfl (.cons rfl .nil)) trivial (plays_tr (g := (sqG mb bk qb n).g (sAddr r) (n + 1) (sK r n)) (ts := (sqthrs t8 t5 t10 mb bk qb r n ts)) (s0 := sqS0) (order := orderF tvn order) sqPI (fun j hj => by
   have e : (startF ((sqthrs t8 t5 t10 mb bk qb r n ts).take j) (show ((sqG mb bk qb n).g (sAddr r) (n + 1) (sK r n)).σ from sqS0)).1 = sqS0 := by rw [startF_qsW fun t ht => sqthrs_ini t (List.mem_of_mem_take ht)]
   rw [e]; exact ⟨rfl, rfl, rfl, Nat.zero_le _⟩) hI0 hIs (fun p h h16 => ⟨h.1.J.t, h.1.J.b, h.1.J.q, Nat.le_trans h.1.J.len (by omega)⟩) (fun _ _ z => z) (sqthrs_ok h1 h2 (by omega)) (by omega) (by omega) (by omega)
   (by rw [sqthrs_fv]; exact rdsoV (.there (.there .here)) (by simp [hts]) htz hty) (rdsoV (.there .here) (by simp [intC]) hodz hody)) ?_
 rintro v1 L1 x1 ⟨tv2, cv2, rfl, rfl, rfl⟩
 rw [hcut]
 generalize playF (sqthrs t8 t5 t10 mb bk qb r n ts) (show ((sqG mb bk qb n).g (sAddr r) (n + 1) (sK r n)).σ from sqS0) (orderF tvn order) = p at hI hcut ⊢
 obtain ⟨xs, hxs⟩ : ∃ xs, (show SlkS SwZ from p.s).xs = xs := ⟨_, rfl⟩
 obtain ⟨z, hz⟩ : ∃ z, (show SlkS SwZ from p.s).z = z := ⟨_, rfl⟩
 have hJ : sqJ p.tr.length xs z ((show List (SlkQ Nat) from p.qs).map (·.p)) := by
  have := hI.1.J
  rw [← hxs, ← hz]; exact this
 have htrl : p.tr.length ≤ 16384 := hI.2
 have hxl : xs.length ≤ 16385 := by
  have := hI.1.hi
  rw [← hxs]
  exact Nat.le_trans this (by omega)
 have hbk := sq_book hJ (by omega)
 obtain ⟨j1, j2, j3, j4, j5, _, _, _, _⟩ := hJ
 obtain ⟨zm, zt, zr, zb, zq⟩ := z
 simp only at j2 j3 j4 j5 hbk
 subst j2; subst j3; subst j4
 refine wo_pure (of_has (.there .here) (vec_shape (by omega))) ?_
 rintro ⟨a2, n2, c2, rfl, hn2, _, _⟩
 obtain rfl : n2 = 0 := by simp [cutC] at hn2; omega
 refine wo_pure (of_has .here (vec_shape (by omega))) ?_
 rintro ⟨a1, n1, c1, rfl, _⟩
 refine wo_star ((fun h => ∃ rv : Value, all [mapC .u64 mb zm, arr bk 0 [.map (some mb), .bool false, rv, .bool false], vec 2 rv (zr.map bkE).flatten, arr qb 0 [.bool true]] h) :: sqRoS t8 t5 t10 r n bk :: L) (fun h st => ?_) ?_
 ·have s4 : Star (wds (sAddr r) (n + 1) (sK r n) (slkW (sqD n) p.s) :: sqZ mb bk qb (show SlkS SwZ from p.s).z :: _) h := star_open (M := [_, _]) (Ent.star (.take (.there (.there .here)) .refl) st)
  rw [hz] at s4
  exact Ent.star (.take (.there .here) (.take (.there (.there (.there (.there .here)))) (.drop (.drop (.drop (.drop (.drop (.drop .refl)))))))) s4
 refine wo_ex (c := fun (rv : Value) h => all [mapC .u64 mb zm, arr bk 0 [.map (some mb), .bool false, rv, .bool false], vec 2 rv (zr.map bkE).flatten, arr qb 0 [.bool true]] h) .here fun rv => ?_
 refine wo_star (mapC .u64 mb zm :: arr bk 0 [.map (some mb), .bool false, rv, .bool false] :: vec 2 rv (zr.map bkE).flatten :: arr qb 0 [.bool true] :: sqRoS t8 t5 t10 r n bk :: L) (fun h st => star_open (M := [_, _, _, _]) st) ?_
 repeat (first | (apply wo_mo; apply mo_alloc; exact trivial) | refine wM ?_ | (apply wo_po; apply mo_extract; exact rfl; exact rfl; exact gY))
 rintro v' L' ⟨pb3, rfl, rfl⟩
 repeat (first | (apply wo_pm; apply mo_storeA (c := 0) (k := 0) (a := 0) (vs := [.slice none 0 0, .slice none 0 0]); exact rfl; exact rfl; exact rfl; (intro w hw; simp [Value.cells] at hw; rcases hw with rfl | rfl <;> rfl); exact rfl; exact Nat.le_refl 2; exact .here; exact trivial) | refine weqlT ?_ | refine we_seq ?_ | (refine wR ?_; try simp only [oS]) | refine wo_nil ?_ | refine wM ?_ | refine wA ?_ | refine wK ?_ | refine wD ?_ | refine wL ?_ | refine wE ?_)
 refine wo_star (mapC .u64 mb zm :: arr bk 0 [.map (some mb), .bool false, rv, .bool false] :: vec 2 rv (zr.map bkE).flatten :: arr qb 0 [.bool true] :: sqRoS t8 t5 t10 r n bk :: L) (fun h st => Ent.star (.drop .refl) st) ?_
 have k10 : Rd (mapC .u64 mb zm :: arr bk 0 [.map (some mb), .bool false, rv, .bool false] :: vec 2 rv (zr.map bkE).flatten :: arr qb 0 [.bool true] :: sqRoS t8 t5 t10 r n bk :: L) t10 0 (.pointer (some ⟨bk, 0, none⟩)) := .there (.there (.there (.there (rd_all (.there (.there (Rd.fro (k := 0) rfl rfl)))))))
 repeat (first | (apply wo_po; apply mo_load; exact rfl; exact k10; exact rfl))
 refine wo_call (.cons rfl .nil) rfl (good_tr hbk (by omega)) ?_
 rintro v1 L1 x1 ⟨rfl, rfl, rfl⟩
 repeat (first | refine wo_nil ?_ | refine wM ?_ | refine wA ?_ | refine wK ?_ | refine wL ?_ | refine we_ret ?_)
 (first | refine or1 Try.func3 Try.results3 hQ rfl ?_ | refine on1 Try.func3 Try.results3 hQ rfl ?_)
 exact ⟨rfl, rfl⟩
end
end Go.Proofs.Ytodgemainhokjaa
namespace Go.PB
open Go.Conc Go.Conc.Lib Go.ConcR.Gen
open Go.ConcR (KK stA smA rd wr mk DC0)
def WgAt (ty : TypeId) (wg : Nat) (w : World) (st sm : Int) : Prop := ∃ f : Nat × Nat, w.heap[wg]? = some (.cells #[.int .u64 st, .int .u32 sm] ty f) ∧ w.frozen? ⟨wg, 0, none⟩ = false ∧ w.frozen? ⟨wg, 1, none⟩ = false
section
variable {ty : TypeId} {wg : Nat} {w w' : World} {st sm : Int}
theorem WgAt.cellSt (h : WgAt ty wg w st sm) : w.cell? (stA wg) = some (.int .u64 st) := by obtain ⟨f, h, _⟩ := h; simp [World.cell?, stA, h]
theorem WgAt.cellSm (h : WgAt ty wg w st sm) : w.cell? (smA wg) = some (.int .u32 sm) := by obtain ⟨f, h, _⟩ := h; simp [World.cell?, smA, h]
theorem WgAt.thaw (h : WgAt ty wg w st sm) (n : Nat) (hn : n < 2 := by decide) : w.frozen? ⟨wg, n, none⟩ = false := by
 obtain ⟨f, _, h0, h1⟩ := h
 rcases n with _ | _ | n
 ·exact h0
 ·exact h1
 ·omega
theorem WgAt.unique {st' sm' : Int} (h : WgAt ty wg w st sm) (h' : WgAt ty wg w st' sm') : st = st' ∧ sm = sm' := by
 obtain ⟨f, h, _⟩ := h
 obtain ⟨f', h', _⟩ := h'
 rw [h] at h'
 simp at h'
 exact ⟨h'.1.1, h'.1.2⟩
theorem WgAt.setSt (h : WgAt ty wg w st sm) (v : Int) : WgAt ty wg (w.setCell (stA wg) (.int .u64 v)) v sm := by
 obtain ⟨f, h, h0, h1⟩ := h
 refine ⟨f, ?_, by rw [frozen_setCell]; exact h0, by rw [frozen_setCell]; exact h1⟩
 simp [World.setCell, stA, Array.getElem?_modify, h]
theorem WgAt.setSm (h : WgAt ty wg w st sm) (v : Int) : WgAt ty wg (w.setCell (smA wg) (.int .u32 v)) st v := by
 obtain ⟨f, h, h0, h1⟩ := h
 refine ⟨f, ?_, by rw [frozen_setCell]; exact h0, by rw [frozen_setCell]; exact h1⟩
 simp [World.setCell, smA, Array.getElem?_modify, h]
theorem WgAt.of_heap (h : WgAt ty wg w st sm) (e : w'.heap[wg]? = w.heap[wg]?) : WgAt ty wg w' st sm := by
 obtain ⟨f, h, h0, h1⟩ := h
 have hf : ∀ o, w'.frozen? ⟨wg, o, none⟩ = w.frozen? ⟨wg, o, none⟩ := fun o => by unfold World.frozen?; rw [e]
 exact ⟨f, e.trans h, (hf 0).trans h0, (hf 1).trans h1⟩
def WgLive (ty : TypeId) (Wg : Nat) (w : World) : Prop := ∃ st sm, WgAt ty Wg w st sm
end
def RL (ty : TypeId) (Wg : Nat) (w w₁ : World) : Prop := WgLive ty Wg w → WgLive ty Wg w₁
theorem live_cell {ty : TypeId} {Wg : Nat} {w : World} (h : WgLive ty Wg w) : ∃ v, w.cell? ⟨Wg, 0, none⟩ = some v := let ⟨_, _, x⟩ := h; ⟨_, WgAt.cellSt x⟩
section
variable (P : Program) (ty : TypeId) (Wg : Nat)
def Zg (Stop : Goroutine → World → Prop) (m : Nat) (g : Goroutine) (w : World) : Prop := Goes P false (RL ty Wg) DC0 Stop m g w
def Z4 (g : Goroutine) (w : World) : Prop :=
 g.status = .running ∧ mayWake P g = true ∧ (WgAt ty Wg w 0 0 → ∃ g' q, stepG P false g w = .go g' (w.setCell (smA Wg) (.int .u32 1)) (semEvents (smA Wg)) ∧ QuitsD P q 1 g')
def Z3 (g : Goroutine) (w : World) : Prop :=
 g.status = .running ∧ (WgAt ty Wg w 1 0 → ∃ g' m, stepG P false g w = .go g' (w.setCell (stA Wg) (.int .u64 0)) #[wr (stA Wg)] ∧ Zg P ty Wg (Z4 P ty Wg) m g' (w.setCell (stA Wg) (.int .u64 0)))
def Z2 (g : Goroutine) (w : World) : Prop :=
 g.status = .running ∧ (WgAt ty Wg w 1 0 → ∃ g' m, stepG P false g w = .go g' w #[rd (stA Wg)] ∧ Zg P ty Wg (Z3 P ty Wg) m g' w)
def Z1 (g : Goroutine) (w : World) : Prop :=
 g.status = .running ∧ ∀ v wt : Nat, wt ≤ 1 → v < 2147483647 → WgAt ty Wg w ((v + 1) * KK + wt) 0 →
  ∃ g', stepG P false g w = .go g' (w.setCell (stA Wg) (.int .u64 (v * KK + wt))) #[rd (stA Wg), wr (stA Wg)] ∧
   ((v = 0 ∧ wt = 1) → ∃ m, Zg P ty Wg (Z2 P ty Wg) m g' (w.setCell (stA Wg) (.int .u64 (v * KK + wt)))) ∧ (¬ (v = 0 ∧ wt = 1) → ∃ q, QuitsD P q 1 g')
def ZK (g : Goroutine) (w : World) : Prop :=
 g.status = .running ∧ ∃ g' m, stepG P false g w = .go g' w #[mk .disable] ∧ Zg P ty Wg (Z1 P ty Wg) m g' w
def ZR (g : Goroutine) (w : World) : Prop :=
 g.status = .running ∧ ∃ g' m, stepG P false g w = .go g' w #[mk (.releaseMerge (stA Wg))] ∧ Zg P ty Wg (ZK P ty Wg) m g' w
end
end Go.PB
namespace Go.PB
open Go.Conc Go.Conc.Lib Go.ConcR.Gen
open Go.ConcR (KK stA smA rd wr mk DC0)
theorem quits_more {P : Program} : ∀ {n d : Nat} {g : Goroutine}, QuitsD P n d g → QuitsD P (n + 1) d g
 | 0, _, _, h => .inl h
 | _ + 1, _, _, h => h.imp id fun ⟨hs, g', es, hm, hst, hq⟩ => ⟨hs, g', es, hm, hst, quits_more hq⟩
theorem quits_mono {P : Program} {n n' d : Nat} {g : Goroutine} (h : QuitsD P n d g) (hn : n ≤ n') : QuitsD P n' d g := by
 induction hn with
 | refl => exact h
 | step _ ih => exact quits_more ih
set_option maxRecDepth 100000 in
set_option maxHeartbeats 8000000 in
theorem add_goes [Go.ConcR.Payload] {P : Program} {L : WgLink} (H : WgLib P L) {Wg : Nat} {b₀ : Frame} {a₀ : Act} {ops₀ : Array Oper} {i₀ : Nat} {rest₀ : List Nat} {k₀ : List Item} {cs : List Frame} {qt : Nat}
  (hT : QuitsD P qt 0 (G (b₀.at (a₀.put ((ops₀[i₀]?).bind (·.dst)) (.tuple #[])) (.inRegion ops₀ rest₀ :: k₀)) cs)) (w : World) (hK : WgLive L.tWg Wg w) :
  Zg P L.tWg Wg (ZR P L.tWg Wg) 20 (G ((Go.Conc.base L.add).at ⟨#[.pointer (some ⟨Wg, 0, none⟩), .int .i64 (-1)] ++ Array.replicate 115 undef, []⟩ [.code (body_add L)]) (b₀.at a₀ (.inRegion ops₀ (i₀ :: rest₀) :: k₀) :: cs)) w := by
 lib_facts
 simp only [body_add, addFn, Option.getD_some, Array.replicate_succ, Array.replicate_zero]
 unfold Zg
 have key : ∀ {w w₁ : World}, WgLive L.tWg Wg w → RL L.tWg Wg w w₁ → WgLive L.tWg Wg w₁ := fun h r => r h
 walk_nrm
 repeat (first | u_c stepG_seq key hK | u_c stepG_region_end key hK | u_c stepG_skip key hK | u_reg key hK | u_skip key hK | u_op key hK | u_cond true key hK | u_cond false key hK | u_c stepG_ret' key hK | u_c stepG_block key hK | u_c stepG_loop key hK | u_c stepG_end key hK | u_defer key hK | u_leave1 H.f_uAdd key hK | u_leave1 H.f_uLoad key hK | u_leave0 H.f_uStore key hK | u_call H.f_uAdd (nm_uAdd L) uAddFn key hK | u_call H.f_uLoad (nm_uLoad L) uLoadFn key hK | u_call H.f_uStore (nm_uStore L) uStoreFn key hK | u_bub key hK)
 u_conv H.underlying_tWgP H.room_tWg (live_cell hK).choose_spec key hK
 refine Goes.stop (fun w₁ h₁ => ?_)
 replace hK := key hK h₁
 clear h₁
 refine ⟨rfl, _, 30, stepG_markAt .releaseMerge (by simp) rfl rfl (by k_ne) rfl H.f_relMerge (x_relMerge_n L) (x_relMerge_b L) (x_relMerge_x L) (x_relMerge_f L) (by simp [Act.eval, stA]), ?_⟩
 unfold Zg
 walk_nrm
 repeat (first | u_c stepG_seq key hK | u_c stepG_region_end key hK | u_c stepG_skip key hK | u_reg key hK | u_skip key hK | u_op key hK | u_cond true key hK | u_cond false key hK | u_c stepG_ret' key hK | u_c stepG_block key hK | u_c stepG_loop key hK | u_c stepG_end key hK | u_defer key hK | u_leave1 H.f_uAdd key hK | u_leave1 H.f_uLoad key hK | u_leave0 H.f_uStore key hK | u_call H.f_uAdd (nm_uAdd L) uAddFn key hK | u_call H.f_uLoad (nm_uLoad L) uLoadFn key hK | u_call H.f_uStore (nm_uStore L) uStoreFn key hK | u_bub key hK)
 refine Goes.stop (fun w₁ h₁ => ?_)
 replace hK := key hK h₁
 clear h₁
 refine ⟨rfl, _, 80, stepG_mark0 .disable (by simp) rfl rfl (by k_ne) rfl H.f_disable (x_disable_n L) (x_disable_b L) (x_disable_x L) (x_disable_f L), ?_⟩
 unfold Zg
 walk_nrm
 repeat (first | u_c stepG_seq key hK | u_c stepG_region_end key hK | u_c stepG_skip key hK | u_reg key hK | u_skip key hK | u_op key hK | u_cond true key hK | u_cond false key hK | u_c stepG_ret' key hK | u_c stepG_block key hK | u_c stepG_loop key hK | u_c stepG_end key hK | u_defer key hK | u_leave1 H.f_uAdd key hK | u_leave1 H.f_uLoad key hK | u_leave0 H.f_uStore key hK | u_call H.f_uAdd (nm_uAdd L) uAddFn key hK | u_call H.f_uLoad (nm_uLoad L) uLoadFn key hK | u_call H.f_uStore (nm_uStore L) uStoreFn key hK | u_bub key hK)
 refine Goes.stop (fun w₁ h₁ => ?_)
 clear h₁ hK
 refine ⟨rfl, fun v wt hwt hv hw => ?_⟩
 have e0 : IntKind.u64.wrap (KK + 18446744069414584320) = 0 := by decide
 have e1 : IntKind.u64.wrap (KK + 1 + 18446744069414584320) = 1 := by decide
 rcases Nat.eq_zero_or_pos v with rfl | hvp <;> (obtain rfl | rfl : wt = 0 ∨ wt = 1 := by omega)
 ·-- nobody is left, nobody waits
  replace hw : WgAt L.tWg Wg w₁ KK 0 := by simpa using hw
  have z : ((0 : Nat) : Int) * KK + ((0 : Nat) : Int) = 0 := by simp
  rw [z]
  refine ⟨_, (stepG_add_atomic rfl rfl (by k_ne) rfl H.f_addU64 (x_addU64_n L) (x_addU64_b L) (x_addU64_x L) .u64 (x_addU64_f L) rfl rfl (WgAt.cellSt hw) (WgAt.thaw hw 0)).trans (by rw [e0]; rfl), fun hl => absurd hl.2 (by decide), fun _ => ⟨qt + 200, ?_⟩⟩
  clear hw
  walk_nrm
  q_val (.int .u64 0)
  q_c stepG_region_end
  q_c stepG_ret'
  q_leave1 H.f_uAdd
  q_val (.int .u64 0)
  q_c stepG_region_end
  q_c stepG_seq
  q_c stepG_seq
  q_reg
  q_val (.int .u64 0)
  q_val (.int .u64 0)
  q_val (.bool false)
  q_val (.bool false)
  q_skip
  q_skip
  q_val (.bool false)
  q_c stepG_region_end
  q_cond false
  q_c stepG_skip
  q_c stepG_seq
  q_reg
  q_val (.int .u64 0)
  q_val (.int .u64 0)
  q_val (.int .i32 0)
  q_val (.int .i32 0)
  q_c stepG_region_end
  q_c stepG_seq
  q_reg
  q_val (.int .u64 0)
  q_val (.int .u64 0)
  q_val (.int .u32 0)
  q_val (.int .u32 0)
  q_c stepG_region_end
  q_c stepG_seq
  q_c stepG_seq
  q_reg
  q_val (.bool true)
  q_val (.int .i64 (-1))
  q_val (.bool false)
  q_val (.bool false)
  q_val (.bool false)
  q_skip
  q_skip
  q_skip
  q_skip
  q_val (.bool false)
  q_c stepG_region_end
  q_cond false
  q_c stepG_skip
  q_c stepG_seq
  q_c stepG_seq
  q_reg
  q_val (.int .i32 0)
  q_val (.bool false)
  q_c stepG_region_end
  q_cond false
  q_c stepG_skip
  q_c stepG_seq
  q_c stepG_seq
  q_reg
  q_val (.int .u32 0)
  q_val (.bool false)
  q_val (.bool false)
  q_skip
  q_skip
  q_val (.bool false)
  q_val (.bool false)
  q_skip
  q_skip
  q_skip
  q_skip
  q_val (.bool false)
  q_c stepG_region_end
  q_cond false
  q_c stepG_skip
  q_c stepG_seq
  q_c stepG_seq
  q_reg
  q_val (.int .i32 0)
  q_val (.bool false)
  q_val (.bool false)
  q_val (.int .u32 0)
  q_val (.bool true)
  q_val (.bool true)
  q_c stepG_region_end
  q_cond true
  q_c stepG_ret'
  q_enable
  q_leave0 H.f_add
  exact quits_mono hT (by omega)
 ·-- nobody is left, the starter waits: the last one
  replace hw : WgAt L.tWg Wg w₁ (KK + 1) 0 := by simpa using hw
  have z : ((0 : Nat) : Int) * KK + ((1 : Nat) : Int) = 1 := by simp
  rw [z]
  refine ⟨_, (stepG_add_atomic rfl rfl (by k_ne) rfl H.f_addU64 (x_addU64_n L) (x_addU64_b L) (x_addU64_x L) .u64 (x_addU64_f L) rfl rfl (WgAt.cellSt hw) (WgAt.thaw hw 0)).trans (by rw [e1]; rfl), fun _ => ⟨150, ?_⟩, fun hl => absurd ⟨rfl, rfl⟩ hl⟩
  have hK : WgLive L.tWg Wg (w₁.setCell (stA Wg) (.int .u64 1)) := ⟨_, _, WgAt.setSt hw 1⟩
  clear hw
  unfold Zg
  walk_nrm
  u_op key hK
  u_c stepG_region_end key hK
  u_c stepG_ret' key hK
  u_leave1 H.f_uAdd key hK
  u_op key hK
  u_c stepG_region_end key hK
  u_c stepG_seq key hK
  u_c stepG_seq key hK
  u_reg key hK
  u_op key hK
  u_op key hK
  u_op key hK
  u_op key hK
  u_skip key hK
  u_skip key hK
  u_op key hK
  u_c stepG_region_end key hK
  u_cond false key hK
  u_c stepG_skip key hK
  u_c stepG_seq key hK
  u_reg key hK
  u_op key hK
  u_op key hK
  u_op key hK
  u_op key hK
  u_c stepG_region_end key hK
  u_c stepG_seq key hK
  u_reg key hK
  u_op key hK
  u_op key hK
  u_op key hK
  u_op key hK
  u_c stepG_region_end key hK
  u_c stepG_seq key hK
  u_c stepG_seq key hK
  u_reg key hK
  u_op key hK
  u_op key hK
  u_op key hK
  u_op key hK
  u_op key hK
  u_skip key hK
  u_skip key hK
  u_skip key hK
  u_skip key hK
  u_op key hK
  u_c stepG_region_end key hK
  u_cond false key hK
  u_c stepG_skip key hK
  u_c stepG_seq key hK
  u_c stepG_seq key hK
  u_reg key hK
  u_op key hK
  u_op key hK
  u_c stepG_region_end key hK
  u_cond false key hK
  u_c stepG_skip key hK
  u_c stepG_seq key hK
  u_c stepG_seq key hK
  u_reg key hK
  u_op key hK
  u_op key hK
  u_op key hK
  u_op key hK
  u_op key hK
  u_op key hK
  u_op key hK
  u_skip key hK
  u_skip key hK
  u_skip key hK
  u_skip key hK
  u_op key hK
  u_c stepG_region_end key hK
  u_cond false key hK
  u_c stepG_skip key hK
  u_c stepG_seq key hK
  u_c stepG_seq key hK
  u_reg key hK
  u_op key hK
  u_op key hK
  u_op key hK
  u_op key hK
  u_op key hK
  u_op key hK
  u_c stepG_region_end key hK
  u_cond false key hK
  u_c stepG_skip key hK
  u_c stepG_seq key hK
  u_c stepG_seq key hK
  u_reg key hK
  u_op key hK
  u_op key hK
  u_op key hK
  u_call H.f_uLoad (nm_uLoad L) uLoadFn key hK
  u_c stepG_seq key hK
  u_reg key hK
  u_op key hK
  u_c stepG_region_end key hK
  u_c stepG_seq key hK
  u_reg key hK
  u_op key hK
  u_op key hK
  u_op key hK
  refine Goes.stop (fun w₂ h₂ => ?_)
  clear h₂ hK
  refine ⟨rfl, fun hw => ⟨_, 60, stepG_load_atomic rfl rfl (by k_ne) rfl H.f_loadU64 (x_loadU64_n L) (x_loadU64_b L) (x_loadU64_x L) .u64 (x_loadU64_f L) rfl (WgAt.cellSt hw), ?_⟩⟩
  have hK : WgLive L.tWg Wg w₂ := ⟨_, _, hw⟩
  clear hw
  unfold Zg
  walk_nrm
  u_op key hK
  u_c stepG_region_end key hK
  u_c stepG_ret' key hK
  u_leave1 H.f_uLoad key hK
  u_op key hK
  u_op key hK
  u_c stepG_region_end key hK
  u_cond false key hK
  u_c stepG_skip key hK
  u_c stepG_seq key hK
  u_reg key hK
  u_op key hK
  u_op key hK
  u_op key hK
  u_call H.f_uStore (nm_uStore L) uStoreFn key hK
  u_reg key hK
  u_op key hK
  u_op key hK
  u_op key hK
  u_op key hK
  refine Goes.stop (fun w₃ h₃ => ?_)
  clear h₃ hK
  refine ⟨rfl, fun hw => ⟨_, 60, stepG_store_atomic rfl rfl (by k_ne) rfl H.f_storeU64 (x_storeU64_n L) (x_storeU64_b L) (x_storeU64_x L) (x_storeU64_f L) rfl rfl (WgAt.cellSt hw) (WgAt.thaw hw 0), ?_⟩⟩
  have hK : WgLive L.tWg Wg (w₃.setCell (stA Wg) (.int .u64 0)) := ⟨_, _, WgAt.setSt hw 0⟩
  clear hw
  unfold Zg
  walk_nrm
  u_c stepG_region_end key hK
  u_c stepG_end key hK
  u_leave0 H.f_uStore key hK
  u_c stepG_region_end key hK
  u_c stepG_seq key hK
  u_c stepG_seq key hK
  u_reg key hK
  u_op key hK
  u_c stepG_region_end key hK
  u_cond false key hK
  u_c stepG_skip key hK
  u_c stepG_block key hK
  u_c stepG_loop key hK
  u_c stepG_seq key hK
  u_c stepG_seq key hK
  u_reg key hK
  u_op key hK
  u_op key hK
  u_c stepG_region_end key hK
  u_cond true key hK
  u_c stepG_skip key hK
  u_c stepG_seq key hK
  u_c stepG_block key hK
  u_reg key hK
  u_op key hK
  u_op key hK
  u_op key hK
  refine Goes.stop (fun w₄ h₄ => ?_)
  clear h₄ hK
  refine ⟨rfl, mayWake_entry rfl rfl H.f_semrelease (x_semrelease_b L), fun hw => ⟨_, qt + 40, (stepG_semrelease rfl rfl (by k_ne) rfl H.f_semrelease (x_semrelease_n L) (x_semrelease_b L) (x_semrelease_x L) (x_semrelease_f L) (by simp [Act.eval, smA]) (WgAt.cellSm hw) (WgAt.thaw hw 1)).trans (by rfl), ?_⟩⟩
  clear hw
  walk_nrm
  q_c stepG_region_end
  q_c stepG_inBlock
  q_reg
  q_val (.int .u32 1)
  q_val (.int .u32 0)
  q_val (.int .u32 0)
  q_c stepG_region_end
  q_c stepG_inLoop
  q_c stepG_seq
  q_c stepG_seq
  q_reg
  q_val (.int .u32 0)
  q_val (.bool false)
  q_c stepG_region_end
  q_cond false
  q_exit
  q_c stepG_end
  q_enable
  q_leave0 H.f_add
  exact quits_mono hT (by omega)
 ·-- some are left, nobody waits
  replace hw : WgAt L.tWg Wg w₁ (((v : Nat) + 1) * KK + 0) 0 := by simpa using hw
  have z : ((v : Nat) : Int) * KK + ((0 : Nat) : Int) = (v : Int) * KK + 0 := by simp
  rw [z]
  have eS : IntKind.u64.wrap (((v : Nat) + 1) * KK + 0 + 18446744069414584320) = (v : Int) * KK + 0 := by rw [IntKind.wrap_u64]; simp only [KK]; omega
  obtain ⟨S, hS⟩ : ∃ S : Int, S = (v : Int) * KK + 0 := ⟨_, rfl⟩
  rw [← hS] at eS ⊢
  have a1 : S / 4294967296 = (v : Int) := by rw [hS]; simp only [KK]; omega
  have a2 : 0 ≤ S ∧ S < 9223372036854775808 := by rw [hS]; simp only [KK]; omega
  have b1 : bits .and .u64 S 2147483648 = 0 := by rw [hS]; have := Go.ConcN.st_flag v 0 (by omega) (by omega); simpa [KK] using this
  have b2 : bits .and .u64 S 2147483647 = 0 := by rw [hS]; have := Go.ConcN.st_waiters v 0 (by omega) (by omega); simpa [KK] using this
  clear hS z
  refine ⟨_, (stepG_add_atomic rfl rfl (by k_ne) rfl H.f_addU64 (x_addU64_n L) (x_addU64_b L) (x_addU64_x L) .u64 (x_addU64_f L) rfl rfl (WgAt.cellSt hw) (WgAt.thaw hw 0)).trans (by rw [eS]; rfl), fun hl => absurd hl.1 (by omega), fun _ => ⟨qt + 150, ?_⟩⟩
  clear hw
  walk_nrm
  q_vn (.int .u64 S)
  q_c stepG_region_end
  q_c stepG_ret'
  q_leave1 H.f_uAdd
  q_vn (.int .u64 S)
  q_c stepG_region_end
  q_c stepG_seq
  q_c stepG_seq
  q_reg
  q_vn (.int .u64 S)
  q_vn (.int .u64 0)
  q_vn (.bool false)
  q_vn (.bool false)
  q_skip
  q_skip
  q_vn (.bool false)
  q_c stepG_region_end
  q_cond false
  q_c stepG_skip
  q_c stepG_seq
  q_reg
  q_vn (.int .u64 S)
  q_vn (.int .u64 (v:Int))
  q_vn (.int .i32 (v:Int))
  q_vn (.int .i32 (v:Int))
  q_c stepG_region_end
  q_c stepG_seq
  q_reg
  q_vn (.int .u64 S)
  q_vn (.int .u64 0)
  q_vn (.int .u32 0)
  q_vn (.int .u32 0)
  q_c stepG_region_end
  q_c stepG_seq
  q_c stepG_seq
  q_reg
  q_vn (.bool true)
  q_vn (.int .i64 (-1))
  q_vn (.bool false)
  q_vn (.bool false)
  q_vn (.bool false)
  q_skip
  q_skip
  q_skip
  q_skip
  q_vn (.bool false)
  q_c stepG_region_end
  q_cond false
  q_c stepG_skip
  q_c stepG_seq
  q_c stepG_seq
  q_reg
  q_vn (.int .i32 (v:Int))
  q_vn (.bool false)
  q_c stepG_region_end
  q_cond false
  q_c stepG_skip
  q_c stepG_seq
  q_c stepG_seq
  q_reg
  q_vn (.int .u32 0)
  q_vn (.bool false)
  q_vn (.bool false)
  q_skip
  q_skip
  q_vn (.bool false)
  q_vn (.bool false)
  q_skip
  q_skip
  q_skip
  q_skip
  q_vn (.bool false)
  q_c stepG_region_end
  q_cond false
  q_c stepG_skip
  q_c stepG_seq
  q_c stepG_seq
  q_reg
  q_vn (.int .i32 (v:Int))
  q_vn (.bool true)
  q_vn (.bool true)
  q_skip
  q_skip
  q_vn (.bool true)
  q_c stepG_region_end
  q_cond true
  q_c stepG_ret'
  q_enable
  q_leave0 H.f_add
  exact quits_mono hT (by omega)
 ·-- some are left, the starter waits
  replace hw : WgAt L.tWg Wg w₁ (((v : Nat) + 1) * KK + 1) 0 := by simpa using hw
  have z : ((v : Nat) : Int) * KK + ((1 : Nat) : Int) = (v : Int) * KK + 1 := by simp
  rw [z]
  have eS : IntKind.u64.wrap (((v : Nat) + 1) * KK + 1 + 18446744069414584320) = (v : Int) * KK + 1 := by rw [IntKind.wrap_u64]; simp only [KK]; omega
  obtain ⟨S, hS⟩ : ∃ S : Int, S = (v : Int) * KK + 1 := ⟨_, rfl⟩
  rw [← hS] at eS ⊢
  have a1 : S / 4294967296 = (v : Int) := by rw [hS]; simp only [KK]; omega
  have a2 : 0 ≤ S ∧ S < 9223372036854775808 := by rw [hS]; simp only [KK]; omega
  have b1 : bits .and .u64 S 2147483648 = 0 := by rw [hS]; have := Go.ConcN.st_flag v 1 (by omega) (by omega); simpa [KK] using this
  have b2 : bits .and .u64 S 2147483647 = 1 := by rw [hS]; have := Go.ConcN.st_waiters v 1 (by omega) (by omega); simpa [KK] using this
  clear hS z
  refine ⟨_, (stepG_add_atomic rfl rfl (by k_ne) rfl H.f_addU64 (x_addU64_n L) (x_addU64_b L) (x_addU64_x L) .u64 (x_addU64_f L) rfl rfl (WgAt.cellSt hw) (WgAt.thaw hw 0)).trans (by rw [eS]; rfl), fun hl => absurd hl.1 (by omega), fun _ => ⟨qt + 150, ?_⟩⟩
  clear hw
  walk_nrm
  q_vn (.int .u64 S)
  q_c stepG_region_end
  q_c stepG_ret'
  q_leave1 H.f_uAdd
  q_vn (.int .u64 S)
  q_c stepG_region_end
  q_c stepG_seq
  q_c stepG_seq
  q_reg
  q_vn (.int .u64 S)
  q_vn (.int .u64 0)
  q_vn (.bool false)
  q_vn (.bool false)
  q_skip
  q_skip
  q_vn (.bool false)
  q_c stepG_region_end
  q_cond false
  q_c stepG_skip
  q_c stepG_seq
  q_reg
  q_vn (.int .u64 S)
  q_vn (.int .u64 (v:Int))
  q_vn (.int .i32 (v:Int))
  q_vn (.int .i32 (v:Int))
  q_c stepG_region_end
  q_c stepG_seq
  q_reg
  q_vn (.int .u64 S)
  q_vn (.int .u64 1)
  q_vn (.int .u32 1)
  q_vn (.int .u32 1)
  q_c stepG_region_end
  q_c stepG_seq
  q_c stepG_seq
  q_reg
  q_vn (.bool true)
  q_vn (.int .i64 (-1))
  q_vn (.bool false)
  q_vn (.bool false)
  q_vn (.bool false)
  q_skip
  q_skip
  q_skip
  q_skip
  q_vn (.bool false)
  q_c stepG_region_end
  q_cond false
  q_c stepG_skip
  q_c stepG_seq
  q_c stepG_seq
  q_reg
  q_vn (.int .i32 (v:Int))
  q_vn (.bool false)
  q_c stepG_region_end
  q_cond false
  q_c stepG_skip
  q_c stepG_seq
  q_c stepG_seq
  q_reg
  q_vn (.int .u32 1)
  q_vn (.bool true)
  q_vn (.bool true)
  q_vn (.int .i64 (-1))
  q_vn (.bool false)
  q_vn (.bool false)
  q_vn (.bool false)
  q_skip
  q_skip
  q_skip
  q_skip
  q_vn (.bool false)
  q_c stepG_region_end
  q_cond false
  q_c stepG_skip
  q_c stepG_seq
  q_c stepG_seq
  q_reg
  q_vn (.int .i32 (v:Int))
  q_vn (.bool true)
  q_vn (.bool true)
  q_skip
  q_skip
  q_vn (.bool true)
  q_c stepG_region_end
  q_cond true
  q_c stepG_ret'
  q_enable
  q_leave0 H.f_add
  exact quits_mono hT (by omega)
end Go.PB
namespace Go.PB
open Go.Conc Go.Conc.Lib Go.ConcR.Gen
open Go.ConcR (KK stA smA rd wr mk DC0)
set_option maxRecDepth 100000 in
theorem add_goes2 [Go.ConcR.Payload] {P : Program} {L : WgLink} (H : WgLib P L) {Wg : Nat} {b₀ : Frame} {a₀ : Act} {ops₀ : Array Oper} {i₀ : Nat} {rest₀ : List Nat} {k₀ : List Item} {cs : List Frame} {qt : Nat}
  (hT : QuitsD P qt 0 (G (b₀.at (a₀.put ((ops₀[i₀]?).bind (·.dst)) (.tuple #[])) (.inRegion ops₀ rest₀ :: k₀)) cs)) (w : World) (hK : WgLive L.tWg Wg w) :
  Zg P L.tWg Wg (ZR P L.tWg Wg) 20 (G ((Go.Conc.base L.add).at ⟨#[.pointer (some ⟨Wg, 0, none⟩), .int .i64 (-1), undef, undef, undef, undef, undef, undef, undef, undef, undef, undef, undef, undef, undef, undef, undef, undef, undef, undef, undef, undef, undef, undef, undef, undef, undef, undef, undef, undef, undef, undef, undef, undef, undef, undef, undef, undef, undef, undef, undef, undef, undef, undef, undef, undef, undef, undef, undef, undef, undef, undef, undef, undef, undef, undef, undef, undef, undef, undef, undef, undef, undef, undef, undef, undef, undef, undef, undef, undef, undef, undef, undef, undef, undef, undef, undef, undef, undef, undef, undef, undef, undef, undef, undef, undef, undef, undef, undef, undef, undef, undef, undef, undef, undef, undef, undef, undef, undef, undef, undef, undef, undef, undef, undef, undef, undef, undef, undef, undef, undef, undef, undef, undef, undef, undef, undef], []⟩ [.code (body_add L)]) (b₀.at a₀ (.inRegion ops₀ (i₀ :: rest₀) :: k₀) :: cs)) w := by
 have e : (#[.pointer (some ⟨Wg, 0, none⟩), .int .i64 (-1), undef, undef, undef, undef, undef, undef, undef, undef, undef, undef, undef, undef, undef, undef, undef, undef, undef, undef, undef, undef, undef, undef, undef, undef, undef, undef, undef, undef, undef, undef, undef, undef, undef, undef, undef, undef, undef, undef, undef, undef, undef, undef, undef, undef, undef, undef, undef, undef, undef, undef, undef, undef, undef, undef, undef, undef, undef, undef, undef, undef, undef, undef, undef, undef, undef, undef, undef, undef, undef, undef, undef, undef, undef, undef, undef, undef, undef, undef, undef, undef, undef, undef, undef, undef, undef, undef, undef, undef, undef, undef, undef, undef, undef, undef, undef, undef, undef, undef, undef, undef, undef, undef, undef, undef, undef, undef, undef, undef, undef, undef, undef, undef, undef, undef, undef] : Array Value) = #[.pointer (some ⟨Wg, 0, none⟩), .int .i64 (-1)] ++ Array.replicate 115 undef := by kernel_rfl
 rw [e]
 exact add_goes H hT w hK
set_option maxHeartbeats 8000000 in
set_option maxRecDepth 100000 in
theorem done_goes [Go.ConcR.Payload] {P : Program} {L : WgLink} (H : WgLib P L) {Wg : Nat} {c : Frame} {cs : List Frame} {qt : Nat} (hcm : c.mode = .returning) (hT : QuitsD P qt 0 (G c cs)) (w : World) (hK : WgLive L.tWg Wg w) :
  Zg P L.tWg Wg (ZR P L.tWg Wg) 23 (G ((baseD L.done).at ⟨#[.pointer (some ⟨Wg, 0, none⟩), undef, undef, undef], []⟩ [.code (body_done L)]) (c :: cs)) w := by
 lib_facts
 have hA := @add_goes2 _ P L H Wg
 unfold Zg at hA ⊢
 have key : ∀ {w w₁ : World}, WgLive L.tWg Wg w → RL L.tWg Wg w w₁ → WgLive L.tWg Wg w₁ := fun h r => r h
 simp only [body_done, body_add, doneFn, addFn, Option.getD_some] at hA ⊢
 u_reg key hK
 u_op key hK
 u_in key hK
 refine goes_call rfl rfl (by k_ne) rfl H.f_add (nm_add L) rfl ⟨by u_nil, ?_⟩
 walk_nrmf addFn
 refine hA (qt := qt + 3) ?_ _ hK
 q_c stepG_region_end
 q_c stepG_end
 exact QuitsD.leaveD rfl rfl H.f_done rfl hcm hT
theorem done_enter {P : Program} {L : WgLink} (H : WgLib P L) {v : Value} : Frame.enter P L.done #[v] .deferred = (baseD L.done).at ⟨#[v, undef, undef, undef], []⟩ [.code (body_done L)] := by
 simp [Frame.enter, H.f_done, body_done, doneFn]
 rfl
end Go.PB
