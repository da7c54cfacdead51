/-
  Part 5 of 7.
-/
import Derived.Test.YtaeegnfbofagcaaWk4
import Derived.Test.YtaeegnfbofagcaaWk3
import Derived.Conc.WgGenN2
set_option linter.unusedVariables false
set_option linter.unusedSimpArgs false
namespace Go.Proofs.Ytaeegnfbofagcaa
open Go Go.PB
section
def SlkQ.writes {π : Type} (q : SlkQ π) : Bool := match q.st with | .wr _ _ => true | _ => false
def slkLast (xs : List Nat) : Nat := xs.getLast?.getD 0
def SlkT (D : Slk) (X : Nat → Prop) (s : SlkS D.ζ) (q : SlkQ D.π) : Prop :=
 (∀ x, some x ∈ q.ops → X x) ∧ match q.st with
 | .idle => True
 | .cas v => v % 2 = 0
 | .wr v j => j ≤ D.n
 | .rd v j acc => j ≤ D.n ∧ v % 2 = 0 ∧ v ≤ 2 * (s.xs.length - 1) ∧ (s.ver = v → acc = (List.range j).map (D.W (slkLast s.xs)))
def SlkV (D : Slk) (s : SlkS D.ζ) (qs : List (SlkQ D.π)) : Prop :=
 (s.ver = 2 * (s.xs.length - 1) ∧ (∀ j, j < D.n → s.ws j = D.W (slkLast s.xs) j) ∧ ∀ (k : Nat) q, qs[k]? = some q → q.writes = false) ∨
 (s.ver = 2 * (s.xs.length - 1) + 1 ∧ ∃ (k : Nat) (x : Nat) (rest : List (Option Nat)) (j : Nat) (p : D.π), qs[k]? = some ⟨some x :: rest, .wr (2 * (s.xs.length - 1)) j, p⟩ ∧ (∀ i, i < j → s.ws i = D.W x i) ∧ ∀ (k' : Nat) q, qs[k']? = some q → k' ≠ k → q.writes = false)
structure SlkI (D : Slk) (X : Nat → Prop) (J : Nat → List Nat → D.ζ → List D.π → Prop) (m : Nat) (s : SlkS D.ζ) (qs : List (SlkQ D.π)) : Prop where
 lo : 1 ≤ s.xs.length
 hi : s.xs.length ≤ m + 1
 V : SlkV D s qs
 T : ∀ (k : Nat) q, qs[k]? = some q → SlkT D X s q
 J : J m s.xs s.z (qs.map (·.p))
def slkφ (n : Nat) {π : Type} (q : SlkQ π) : Nat := q.ops.length * (n + 4) - match q.st with | .idle => 0 | .cas _ => 1 | .wr _ j => 2 + j | .rd _ j _ => 1 + j
theorem set_get {α : Type} {l : List α} {k : Nat} {a b : α} (h : l[k]? = some a) : (l.set k b)[k]? = some b := by
 rw [List.getElem?_set_self (List.getElem?_eq_some_iff.1 h).1]
theorem set_cases {α : Type} {l : List α} {k j : Nat} {b c : α} (h : (l.set k b)[j]? = some c) : (j = k ∧ c = b) ∨ (j ≠ k ∧ l[j]? = some c) := by
 rw [List.getElem?_set] at h
 split at h
 ·split at h
  ·cases h; exact .inl ⟨by omega, rfl⟩
  ·cases h
 ·exact .inr ⟨by omega, h⟩
section
variable {D : Slk} {X : Nat → Prop} {s s' : SlkS D.ζ} {qs : List (SlkQ D.π)} {k : Nat} {q q' : SlkQ D.π}
theorem slkV_keep (h : SlkV D s qs) (hq : qs[k]? = some q) (h1 : q.writes = false) (h2 : q'.writes = false) (e1 : s'.ver = s.ver) (e2 : s'.ws = s.ws) (e3 : s'.xs = s.xs) : SlkV D s' (qs.set k q') := by
 rcases h with ⟨a, b, c⟩ | ⟨a, kw, x, rest, j, p, b, c, d⟩
 ·refine .inl ⟨by rw [e1, e3]; exact a, fun j hj => by rw [e2, e3]; exact b j hj, fun j q hj => ?_⟩
  rcases set_cases hj with ⟨_, rfl⟩ | ⟨_, h⟩
  ·exact h2
  ·exact c j q h
 ·have hne : kw ≠ k := fun e => by subst e; rw [hq] at b; cases b; cases h1
  refine .inr ⟨by rw [e1, e3]; exact a, kw, x, rest, j, p, ?_, fun i hi => by rw [e2]; exact c i hi, fun j q hj hj2 => ?_⟩
  ·rw [List.getElem?_set_ne hne.symm, e3]; exact b
  ·rcases set_cases hj with ⟨_, rfl⟩ | ⟨_, h⟩
   ·exact h2
   ·exact d j q h hj2
theorem slkT_set (h : ∀ (k : Nat) q, qs[k]? = some q → SlkT D X s q) (hs : ∀ q, SlkT D X s q → SlkT D X s' q) (h' : SlkT D X s' q') : ∀ (j : Nat) q, (qs.set k q')[j]? = some q → SlkT D X s' q := fun j q hj => by
 rcases set_cases hj with ⟨_, rfl⟩ | ⟨_, h2⟩
 ·exact h'
 ·exact hs q (h j q h2)
theorem slkT_of (hx : s'.xs.length ≥ s.xs.length) (hv : ∀ v, v % 2 = 0 → v ≤ 2 * (s.xs.length - 1) → s'.ver = v → s'.ver = s.ver ∧ s'.xs = s.xs) : SlkT D X s q → SlkT D X s' q := by
 rintro ⟨h0, h⟩
 refine ⟨h0, ?_⟩
 split
 ·trivial
 ·rename_i v e; rw [e] at h; exact h
 ·rename_i v j e; rw [e] at h; exact h
 ·rename_i v j acc e
  rw [e] at h
  obtain ⟨a, b, c, d⟩ := h
  refine ⟨a, b, by omega, fun hv' => ?_⟩
  obtain ⟨e1, e2⟩ := hv v b c hv'
  rw [e2]
  exact d (by rw [← e1]; exact hv')
end
set_option maxHeartbeats 1000000 in
theorem slk_step {D : Slk} {X : Nat → Prop} {J : Nat → List Nat → D.ζ → List D.π → Prop} {m : Nat} (hm : m < 1000000000)
  (hM : ∀ xs z πs, J m xs z πs → J (m + 1) xs z πs)
  (hW : ∀ (xs : List Nat) z πs (k : Nat) p x, J m xs z πs → πs[k]? = some p → 1 ≤ xs.length → xs.length ≤ m + 1 → X x → J (m + 1) (xs ++ [x]) (D.onW x (2 * xs.length) p z).1 (πs.set k (D.onW x (2 * xs.length) p z).2))
  (hR : ∀ (xs : List Nat) z πs (k : Nat) p x, J m xs z πs → πs[k]? = some p → 1 ≤ xs.length → xs.length ≤ m + 1 → xs.getLast? = some x → J (m + 1) xs (D.onR (D.words x) (2 * (xs.length - 1)) p z).1 (πs.set k (D.onR (D.words x) (2 * (xs.length - 1)) p z).2))
  {s : SlkS D.ζ} {qs : List (SlkQ D.π)} (I : SlkI D X J m s qs) {k : Nat} {q : SlkQ D.π} (hq : qs[k]? = some q) {mk : Int × Int} {f : SlkS D.ζ → SlkS D.ζ × SlkQ D.π} (hp : slkPlan D q = some (mk, f)) :
  SlkI D X J (m + 1) (f s).1 (qs.set k (f s).2) ∧ sumN ((qs.set k (f s).2).map (slkφ D.n)) + 1 ≤ sumN (qs.map (slkφ D.n)) := by
 obtain ⟨lo, hi, V, T, hJ⟩ := I
 have hT := T k q hq
 have hpk : (qs.map (·.p))[k]? = some q.p := by rw [List.getElem?_map, hq]; rfl
 have hJk : ∀ q' : SlkQ D.π, q'.p = q.p → J (m + 1) s.xs s.z ((qs.set k q').map (·.p)) := fun q' e => by
  have : (qs.set k q').map (·.p) = qs.map (·.p) := by
   rw [List.map_set, e]
   apply List.ext_getElem?
   intro i
   rw [List.getElem?_set]
   split
   ·rename_i h; subst h
    rw [hpk]
    have := (List.getElem?_eq_some_iff.1 hq).1
    simp [this]
   ·rfl
  rw [this]; exact hM _ _ _ hJ
 have same : ∀ q, SlkT D X s q → SlkT D X s q := fun q h => h
 obtain ⟨ops, st, p⟩ := q
 obtain ⟨hX, hst⟩ := hT
 unfold slkPlan at hp
 cases ops with
 | nil => cases hp
 | cons o rest =>
  have hXr : ∀ x, some x ∈ rest → X x := fun x hx => hX x (List.mem_cons_of_mem _ hx)
  have hlen : ((o :: rest : List (Option Nat)).length) * (D.n + 4) = rest.length * (D.n + 4) + (D.n + 4) := by rw [List.length_cons, Nat.add_mul]; omega
  cases o with
  | some x =>
   cases st with
   | idle =>
    simp only [Option.some.injEq, Prod.mk.injEq] at hp
    obtain ⟨_, rfl⟩ := hp
    by_cases c : s.ver % 2 = 0
    ·simp only [if_pos c]
     refine ⟨⟨lo, by omega, slkV_keep V hq rfl rfl rfl rfl rfl, slkT_set T same ⟨hX, c⟩, hJk _ rfl⟩, sum_step (fun _ => Nat.le_refl _) hq ?_⟩
     simp only [slkφ]; omega
    ·simp only [if_neg c]
     refine ⟨⟨lo, by omega, slkV_keep V hq rfl rfl rfl rfl rfl, slkT_set T same ⟨hXr, trivial⟩, hJk _ rfl⟩, sum_step (fun _ => Nat.le_refl _) hq ?_⟩
     simp only [slkφ]; omega
   | cas v =>
    simp only [Option.some.injEq, Prod.mk.injEq] at hp
    obtain ⟨_, rfl⟩ := hp
    replace hst : v % 2 = 0 := hst
    by_cases c : s.ver = v
    ·simp only [if_pos c]
     have hev : s.ver = 2 * (s.xs.length - 1) ∧ ∀ (k : Nat) q, qs[k]? = some q → q.writes = false := by
      rcases V with ⟨a, _, b⟩ | ⟨a, _⟩
      ·exact ⟨a, b⟩
      ·omega
     have hmod : (v + 1) % 18446744073709551616 = v + 1 := Nat.mod_eq_of_lt (by omega)
     rw [hmod]
     refine ⟨⟨lo, by show s.xs.length ≤ m + 1 + 1; omega, ?_, slkT_set T (fun q => slkT_of (Nat.le_refl _) fun u h1 h2 h3 => by simp only at h3; omega) ⟨hX, Nat.zero_le _⟩, hJk _ rfl⟩, sum_step (fun _ => Nat.le_refl _) hq ?_⟩
     ·refine .inr ⟨by show v + 1 = 2 * (s.xs.length - 1) + 1; omega, k, x, rest, 0, p, ?_, fun i hi => by omega, fun k' q' h1 h2 => ?_⟩
      ·rw [set_get hq]
       have : v = 2 * (s.xs.length - 1) := by omega
       rw [this]
      ·rcases set_cases h1 with ⟨e, _⟩ | ⟨_, h⟩
       ·exact absurd e h2
       ·exact hev.2 k' q' h
     ·simp only [slkφ]; omega
    ·simp only [if_neg c]
     refine ⟨⟨lo, by omega, slkV_keep V hq rfl rfl rfl rfl rfl, slkT_set T same ⟨hXr, trivial⟩, hJk _ rfl⟩, sum_step (fun _ => Nat.le_refl _) hq ?_⟩
     simp only [slkφ]; omega
   | wr v j =>
    replace hst : j ≤ D.n := hst
    have hodd : s.ver = 2 * (s.xs.length - 1) + 1 ∧ v = 2 * (s.xs.length - 1) ∧ (∀ i, i < j → s.ws i = D.W x i) ∧ ∀ (k' : Nat) q, qs[k']? = some q → k' ≠ k → q.writes = false := by
     rcases V with ⟨_, _, b⟩ | ⟨a, kw, x', rest', j', p', b, c, d⟩
     ·have := b k _ hq; cases this
     ·by_cases e : kw = k
      ·subst e
       rw [hq] at b
       cases b
       exact ⟨a, rfl, c, d⟩
      ·have := d k _ hq fun h => e h.symm
       cases this
    obtain ⟨h1, h2, h3, h4⟩ := hodd
    by_cases c : j < D.n
    ·simp only [if_pos c, Option.some.injEq, Prod.mk.injEq] at hp
     obtain ⟨_, rfl⟩ := hp
     refine ⟨⟨lo, by show s.xs.length ≤ m + 1 + 1; omega, .inr ⟨h1, k, x, rest, j + 1, p, ?_, fun i hi => ?_, fun k' q' h5 h6 => ?_⟩, slkT_set T (fun q => slkT_of (Nat.le_refl _) fun u h5 h6 h7 => by simp only at h7; omega) ⟨hX, by show j + 1 ≤ D.n; omega⟩, hJk _ rfl⟩, sum_step (fun _ => Nat.le_refl _) hq ?_⟩
     ·rw [set_get hq, h2]
     ·show upd s.ws j (D.W x j) i = _
      by_cases e : i = j
      ·subst e; exact upd_same
      ·rw [upd_other e]; exact h3 i (by omega)
     ·rcases set_cases h5 with ⟨e, _⟩ | ⟨_, h⟩
      ·exact absurd e h6
      ·exact h4 k' q' h h6
     ·simp only [slkφ]; omega
    ·obtain rfl : j = D.n := by omega
     simp only [if_neg c, Option.some.injEq, Prod.mk.injEq] at hp
     obtain ⟨_, rfl⟩ := hp
     have hmod : (v + 2) % 18446744073709551616 = 2 * s.xs.length := by rw [Nat.mod_eq_of_lt (by omega)]; omega
     have hlast : slkLast (s.xs ++ [x]) = x := by simp [slkLast]
     simp only [hmod]
     refine ⟨⟨by show 1 ≤ (s.xs ++ [x]).length; simp, by show (s.xs ++ [x]).length ≤ m + 1 + 1; simp; omega, .inl ⟨by show 2 * s.xs.length = 2 * ((s.xs ++ [x]).length - 1); simp, fun i hi => ?_, fun k' q' h5 => ?_⟩, slkT_set T (fun q => slkT_of (by show (s.xs ++ [x]).length ≥ _; simp) fun u h5 h6 h7 => by simp only at h7; omega) ⟨hXr, trivial⟩, ?_⟩, sum_step (fun _ => Nat.le_refl _) hq ?_⟩
     ·show s.ws i = D.W (slkLast (s.xs ++ [x])) i
      rw [hlast]; exact h3 i hi
     ·rcases set_cases h5 with ⟨_, rfl⟩ | ⟨h6, h⟩
      ·rfl
      ·exact h4 k' q' h h6
     ·show J (m + 1) (s.xs ++ [x]) _ _
      rw [List.map_set]
      exact hW s.xs s.z _ k p x hJ hpk lo hi (hX x (by simp))
     ·simp only [slkφ]; omega
   | rd v j acc => cases hp
  | none =>
   cases st with
   | idle =>
    simp only [Option.some.injEq, Prod.mk.injEq] at hp
    obtain ⟨_, rfl⟩ := hp
    by_cases c : s.ver % 2 = 0
    ·simp only [if_pos c]
     have hle : s.ver ≤ 2 * (s.xs.length - 1) := by
      rcases V with ⟨a, _⟩ | ⟨a, _⟩ <;> omega
     refine ⟨⟨lo, by omega, slkV_keep V hq rfl rfl rfl rfl rfl, slkT_set T same ⟨hX, Nat.zero_le _, c, hle, fun _ => rfl⟩, hJk _ rfl⟩, sum_step (fun _ => Nat.le_refl _) hq ?_⟩
     simp only [slkφ]; omega
    ·simp only [if_neg c]
     refine ⟨⟨lo, by omega, slkV_keep V hq rfl rfl rfl rfl rfl, slkT_set T same ⟨hXr, trivial⟩, hJk _ rfl⟩, sum_step (fun _ => Nat.le_refl _) hq ?_⟩
     simp only [slkφ]; omega
   | rd v j acc =>
    obtain ⟨t1, t2, t3, t4⟩ : j ≤ D.n ∧ v % 2 = 0 ∧ v ≤ 2 * (s.xs.length - 1) ∧ (s.ver = v → acc = (List.range j).map (D.W (slkLast s.xs))) := hst
    by_cases c : j < D.n
    ·simp only [if_pos c, Option.some.injEq, Prod.mk.injEq] at hp
     obtain ⟨_, rfl⟩ := hp
     refine ⟨⟨lo, by show s.xs.length ≤ m + 1 + 1; omega, slkV_keep V hq rfl rfl rfl rfl rfl, slkT_set T same ⟨hX, by show j + 1 ≤ D.n; omega, t2, t3, fun hv => ?_⟩, hJk _ rfl⟩, sum_step (fun _ => Nat.le_refl _) hq ?_⟩
     ·replace hv : s.ver = v := hv
      have hw : s.ws j = D.W (slkLast s.xs) j := by
       rcases V with ⟨_, a, _⟩ | ⟨a, _⟩
       ·exact a j c
       ·omega
      rw [t4 hv, hw, List.range_succ, List.map_append]; rfl
     ·simp only [slkφ]; omega
    ·obtain rfl : j = D.n := by omega
     simp only [if_neg c, Option.some.injEq, Prod.mk.injEq] at hp
     obtain ⟨_, rfl⟩ := hp
     by_cases e : s.ver = v
     ·simp only [if_pos e]
      have hev : s.ver = 2 * (s.xs.length - 1) := by
       rcases V with ⟨a, _⟩ | ⟨a, _⟩ <;> omega
      obtain ⟨x, hx⟩ : ∃ x, s.xs.getLast? = some x := by
       cases h : s.xs.getLast? with
       | none => rw [List.getLast?_eq_none_iff] at h; rw [h] at lo; simp at lo
       | some x => exact ⟨x, rfl⟩
      have hacc : acc = D.words x := by rw [t4 e]; unfold slkLast Slk.words; rw [hx]; rfl
      have hv2 : v = 2 * (s.xs.length - 1) := by omega
      refine ⟨⟨lo, by show s.xs.length ≤ m + 1 + 1; omega, slkV_keep V hq rfl rfl rfl rfl rfl, slkT_set T (fun q h => h) ⟨hXr, trivial⟩, ?_⟩, sum_step (fun _ => Nat.le_refl _) hq ?_⟩
      ·show J (m + 1) s.xs _ _
       rw [List.map_set, hacc, hv2]
       exact hR s.xs s.z _ k p x hJ hpk lo hi hx
      ·simp only [slkφ]; omega
     ·simp only [if_neg e]
      refine ⟨⟨lo, by omega, slkV_keep V hq rfl rfl rfl rfl rfl, slkT_set T same ⟨hXr, trivial⟩, hJk _ rfl⟩, sum_step (fun _ => Nat.le_refl _) hq ?_⟩
      simp only [slkφ]; omega
   | cas v => cases hp
   | wr v j => cases hp
end
end Go.Proofs.Ytaeegnfbofagcaa
namespace Go.PB
open Go.Conc
section
def mIdx : List (Int × Value) → Int → Nat → Option (Nat × Value)
 | [], _, _ => none
 | e :: l, k, i => if k = e.1 then some (i, e.2) else mIdx l k (i + 1)
def mGet : List (Int × Value) → Int → Option Value
 | [], _ => none
 | e :: l, k => if k = e.1 then some e.2 else mGet l k
def mPut : List (Int × Value) → Int → Value → List (Int × Value)
 | [], k, v => [(k, v)]
 | e :: l, k, v => if k = e.1 then (k, v) :: l else e :: mPut l k v
def mDel : List (Int × Value) → Int → List (Int × Value)
 | [], _ => []
 | e :: l, k => if k = e.1 then l else e :: mDel l k
theorem mIdx_get : ∀ (l : List (Int × Value)) (k : Int) (i : Nat), (mIdx l k i).map (·.2) = mGet l k
 | [], _, _ => rfl
 | e :: l, k, i => by
  unfold mIdx mGet
  split
  ·rfl
  ·exact mIdx_get l k (i + 1)
structure EsOk (ki : IntKind) (es : List MapEntry) (clock : Nat) (l : List (Int × Value)) : Prop where
 eq : es.map (fun e => (e.key, e.val)) = l.map fun y => (Value.int ki y.1, y.2)
 lt : ∀ e ∈ es, e.born < clock
 nd : (es.map (·.born)).Nodup
section
variable {ki : IntKind} {es : List MapEntry} {clock : Nat} {l : List (Int × Value)}
theorem EsOk.nil : EsOk ki [] clock [] := ⟨rfl, fun e h => by simp at h, by simp⟩
theorem EsOk.len (h : EsOk ki es clock l) : es.length = l.length := by have := congrArg List.length h.eq; simpa using this
theorem EsOk.get (h : EsOk ki es clock l) {i : Nat} {y : Int × Value} (hy : l[i]? = some y) : ∃ e, es[i]? = some e ∧ e.key = .int ki y.1 ∧ e.val = y.2 := by
 have := congrArg (fun x => x[i]?) h.eq
 simp only [List.getElem?_map, hy, Option.map_some] at this
 obtain ⟨e, h1, h2⟩ := Option.map_eq_some_iff.1 this
 simp only [Prod.mk.injEq] at h2
 exact ⟨e, h1, h2.1, h2.2⟩
theorem findNow_eq {kk : IntKind} {k : Int} : ∀ {es : List MapEntry} {l : List (Int × Value)} (i : Nat), es.map (fun e => (e.key, e.val)) = l.map (fun y => (Value.int ki y.1, y.2)) → Instr.findNow (.int kk) (.int ki k) es i = some (mIdx l k i)
 | [], [], _, _ => rfl
 | [], _ :: _, _, h => by simp at h
 | _ :: _, [], _, h => by simp at h
 | e :: es, y :: l, i, h => by
  simp only [List.map_cons, List.cons.injEq, Prod.mk.injEq] at h
  obtain ⟨⟨h1, h2⟩, h3⟩ := h
  unfold Instr.findNow mIdx
  rw [h1]
  by_cases hk : k = y.1
  ·rw [if_pos hk]
   have : Instr.sameNow (.int kk) (.int ki k) (.int ki y.1) = some true := by simp [Instr.sameNow, hk]
   rw [this, h2]
  ·rw [if_neg hk]
   have : Instr.sameNow (.int kk) (.int ki k) (.int ki y.1) = some false := by simp [Instr.sameNow, hk]
   rw [this]
   exact findNow_eq (i + 1) h3
theorem mIdx_none : ∀ {l : List (Int × Value)} {k : Int} {i : Nat}, mIdx l k i = none → ∀ v, mPut l k v = l ++ [(k, v)]
 | [], _, _, _, _ => rfl
 | e :: l, k, i, h, v => by
  unfold mIdx at h
  split at h
  ·cases h
  ·rename_i hk
   unfold mPut
   rw [if_neg hk, mIdx_none h v]; rfl
theorem mIdx_some : ∀ {l : List (Int × Value)} {k : Int} {i j : Nat} {u : Value}, mIdx l k i = some (j, u) → ∃ q, j = i + q ∧ q < l.length ∧ l[q]? = some (k, u) ∧ (∀ v, mPut l k v = l.set q (k, v)) ∧ mDel l k = l.eraseIdx q
 | [], _, _, _, _, h => by cases h
 | e :: l, k, i, j, u, h => by
  unfold mIdx at h
  split at h
  ·rename_i hk
   cases h
   exact ⟨0, rfl, Nat.succ_pos _, by rw [hk]; rfl, fun v => by unfold mPut; rw [if_pos hk]; rfl, by unfold mDel; rw [if_pos hk]; rfl⟩
  ·rename_i hk
   obtain ⟨q, h1, h2, h3, h4, h5⟩ := mIdx_some h
   exact ⟨q + 1, by omega, by simp; omega, by simpa using h3, fun v => by unfold mPut; rw [if_neg hk, h4]; rfl, by unfold mDel; rw [if_neg hk, h5]; rfl⟩
theorem EsOk.push {k : Int} {v : Value} (h : EsOk ki es clock l) : EsOk ki (es ++ [⟨.int ki k, v, clock⟩]) (clock + 1) (l ++ [(k, v)]) := ⟨by
  simp [h.eq], fun e he => by
  rcases List.mem_append.1 he with he | he
  ·exact Nat.lt_succ_of_lt (h.lt e he)
  ·cases List.mem_singleton.1 he; exact Nat.lt_succ_self _, by
  rw [List.map_append, List.nodup_append]
  refine ⟨h.nd, by simp, fun a ha b hb => ?_⟩
  obtain ⟨e, he, rfl⟩ := List.mem_map.1 ha
  simp only [List.map_cons, List.map_nil, List.mem_singleton] at hb
  have := h.lt e he
  omega⟩
theorem EsOk.set {k : Int} {v : Value} {q : Nat} {e : MapEntry} (h : EsOk ki es clock l) (he : es[q]? = some e) : EsOk ki (es.set q { e with key := .int ki k, val := v }) clock (l.set q (k, v)) where
 eq := by rw [List.map_set, List.map_set, h.eq]
 lt := fun e' he' => by
  rcases List.mem_or_eq_of_mem_set he' with h1 | rfl
  ·exact h.lt _ h1
  ·exact h.lt e (List.mem_of_getElem? he)
 nd := by
  rw [List.map_set]
  have : (es.map (·.born)).set q e.born = es.map (·.born) := by
   apply List.ext_getElem?
   intro i
   rw [List.getElem?_set]
   split
   ·rename_i hi; subst hi
    rw [List.getElem?_map, he]
    have := (List.getElem?_eq_some_iff.1 he).1
    simp [this]
   ·rfl
  rw [this]; exact h.nd
end
theorem modify_set {α : Type} (f : α → α) : ∀ {l : List α} {i : Nat} {a : α}, l[i]? = some a → l.modify i f = l.set i (f a)
 | [], _, _, h => by simp at h
 | b :: l, 0, a, h => by simp at h; subst h; rfl
 | b :: l, i + 1, a, h => by
  simp only [List.getElem?_cons_succ] at h
  simp [modify_set f h]
def mapC (ki : IntKind) (b : Nat) (l : List (Int × Value)) : HProp := fun h => ∃ es clock, EsOk ki es clock l ∧ h.obj b = some (.map es.toArray clock)
section
variable {P : Program} {e : Env} {ty : TypeId} {L F : List HProp} {ki : IntKind} {b : Nat} {l : List (Int × Value)}
theorem mapC_new {h : Hp} (f : h.fresh b) (s : Star L h) : Star (mapC ki b [] :: L) (h.setObj b (.map #[] 0)) :=
 star_map (star_newObj f s) (fun h ho => ⟨[], 0, .nil, ho⟩) fun _ z => z
theorem mapC_obj {h : Hp} (s : Star (mapC ki b l :: L) h) : ∃ es clock, EsOk ki es clock l ∧ Star (ob b (.map es.toArray clock) :: L) h := by
 obtain ⟨h1, h2, s1, ⟨es, clock, he, ho⟩, hL⟩ := s
 exact ⟨es, clock, he, h1, h2, s1, ho, hL⟩
theorem mapC_of {h : Hp} {es : List MapEntry} {clock : Nat} (he : EsOk ki es clock l) (s : Star (ob b (.map es.toArray clock) :: L) h) : Star (mapC ki b l :: L) h :=
 star_map s (fun h ho => ⟨es, clock, he, ho⟩) fun _ z => z
theorem wpS_checkKey {M : Mark → Prop} {empty : Bool} {n key : Nat} {kk : IntKind} {k : Int} {h : Hp} {Q : Unit → Hp → Prop} {X : Value → Hp → Prop} (hk : P.underlying key = some (.int kk)) (q : Q () h) : wpS P M (Instr.checkKey empty (n + 1) key (.int ki k)) h Q X := by
 unfold Instr.checkKey
 exact wpS_underlying hk q
theorem wpS_findKey {M : Mark → Prop} {key : Nat} {kk : IntKind} {k : Int} {es : List MapEntry} {clock : Nat} {h : Hp} {Q : Option (Nat × Value) → Hp → Prop} {X : Value → Hp → Prop} (hk : P.underlying key = some (.int kk)) (he : EsOk ki es clock l) (q : Q (mIdx l k 0) h) : wpS P M (Instr.findKey key (.int ki k) es) h Q X := by
 unfold Instr.findKey
 refine wpS_underlying hk ?_
 rw [findNow_eq 0 he.eq]
 exact q
theorem mo_makeMap {t : TypeId} (ki : IntKind) : Mo P e (.makeMap t none) ty L fun v' L' => ∃ b, v' = .map (some b) ∧ L' = mapC ki b [] :: L := by
 intro M _ _ tt h Q X ag s q
 show wpS P M (Sem.bind (Instr.makeMap t none) fun v => pure (.value v)) h Q X
 intro b hf
 exact q _ _ _ _ (.inl rfl) ⟨b, rfl, rfl⟩ (mapC_new hf s)
theorem wpS_mapUpdate {M : Mark → Prop} {t key el : Nat} {kk : IntKind} {k : Int} {v : Value} {h : Hp} {Q : Unit → Hp → Prop} {X : Value → Hp → Prop} (ht : P.underlying t = some (.map key el)) (hk : P.underlying key = some (.int kk)) (s : Star (mapC ki b l :: L) h)
  (q : ∀ h', Star (mapC ki b (mPut l k v) :: L) h' → Q () h') : wpS P M (Instr.mapUpdate t (.map (some b)) (.int ki k) v) h Q X := by
 obtain ⟨es, clock, he, s'⟩ := mapC_obj s
 unfold Instr.mapUpdate
 refine wpS_underlying ht ?_
 refine ⟨_, (star_setObj (o' := .map #[] 0) s').1, ?_⟩
 refine wpS_bind _ _ ?_
 change wpS P M (Sem.bind (Instr.checkKey _ 10000 _ _) _) _ _ _
 refine wpS_bind _ _ (wpS_checkKey (n := 9999) hk ?_)
 refine wpS_bind _ _ (wpS_findKey hk (l := l) (by simpa using he) ?_)
 cases hm : mIdx l k 0 with
 | none =>
  obtain ⟨h1, h2⟩ := star_setObj (o' := .map (es ++ [({ key := .int ki k, val := v, born := clock } : MapEntry)]).toArray (clock + 1)) s'
  refine ⟨by rw [h1]; rfl, rfl, ?_⟩
  rw [show es.toArray.push ({ key := .int ki k, val := v, born := clock } : MapEntry) = (es ++ [({ key := .int ki k, val := v, born := clock } : MapEntry)]).toArray by simp]
  refine q _ (mapC_of ?_ h2)
  rw [mIdx_none hm v]
  exact he.push
 | some y =>
  obtain ⟨j, u⟩ := y
  obtain ⟨i, h1, h2, h3, h4, _⟩ := mIdx_some hm
  obtain rfl : j = i := by omega
  obtain ⟨en, h5, h6, h7⟩ := he.get h3
  have hb : Instr.sameBits 10000 (((es.toArray[j]?).map (·.key)).getD (.int ki k)) (.int ki k) = true := by
   rw [List.getElem?_toArray, h5, Option.map_some, Option.getD_some, h6]
   show Instr.sameBits (9999 + 1) _ _ = true
   simp [Instr.sameBits]
  show wpS P M (Sem.bind (Instr.keyThatStays _ _) _) h Q X
  unfold Instr.keyThatStays
  rw [if_pos hb]
  obtain ⟨k1, k2⟩ := star_setObj (o' := .map (es.set j { en with key := .int ki k, val := v }).toArray clock) s'
  refine ⟨by rw [k1]; rfl, rfl, ?_⟩
  rw [show (es.toArray.modify j fun e => { e with key := .int ki k, val := v }) = (es.set j { en with key := .int ki k, val := v }).toArray by
   apply Array.ext'
   simp only [Array.toList_modify]
   exact modify_set _ h5]
  refine q _ (mapC_of ?_ k2)
  rw [h4]
  exact he.set h5
theorem mo_mapUpdate {t key el : Nat} {kk : IntKind} {m ko x : Operand} {k : Int} {v : Value} [p : Und P t (.map key el)] [pk : InT P key kk] (hm : ev e m = some (.map (some b))) (hk : ev e ko = some (.int ki k)) (hx : ev e x = some v) (hh : Has L (mapC ki b l) F) :
  Mo P e (.mapUpdate t m ko x) ty L fun v' L' => v' = undef ∧ L' = mapC ki b (mPut l k v) :: F := by
 intro M _ _ tt h Q X ag s q
 show wpS P M (Sem.bind (Instr.mapUpdate t (evT tt m) (evT tt ko) (evT tt x)) fun _ => pure .skip) h Q X
 rw [ag.ev hm, ag.ev hk, ag.ev hx]
 exact wpS_bind _ _ (wpS_mapUpdate p.ok pk.ok (hh.star s) fun h' s' => q undef _ _ _ (.inr ⟨rfl, rfl⟩) ⟨rfl, rfl⟩ s')
theorem mo_mapInsert {t key el : Nat} {kk : IntKind} {m ko x : Operand} {k : Int} {v : Value} [p : Und P t (.map key el)] [pk : InT P key kk] (hm : ev e m = some (.map (some b))) (hk : ev e ko = some (.int ki k)) (hx : ev e x = some v) (hh : Has L (mapC ki b l) F) :
  Mo P e (.insert t m ko x) ty L fun v' L' => v' = undef ∧ L' = mapC ki b (mPut l k v) :: F := by
 intro M _ _ tt h Q X ag s q
 show wpS P M (Sem.bind (Instr.mapUpdate t (evT tt m) (evT tt ko) (evT tt x)) fun _ => pure .skip) h Q X
 rw [ag.ev hm, ag.ev hk, ag.ev hx]
 exact wpS_bind _ _ (wpS_mapUpdate p.ok pk.ok (hh.star s) fun h' s' => q undef _ _ _ (.inr ⟨rfl, rfl⟩) ⟨rfl, rfl⟩ s')
theorem wpS_lookup {M : Mark → Prop} {t key el : Nat} {kk : IntKind} {zv : Value} {k : Int} {ok : Bool} {h : Hp} {Q : Value → Hp → Prop} {X : Value → Hp → Prop} (ht : P.underlying t = some (.map key el)) (hk : P.underlying key = some (.int kk)) (hz : zeroOf P el = some zv) (s : Star (mapC ki b l :: L) h)
  (q : Q (if ok = true then .tuple #[(mGet l k).getD zv, .bool (mGet l k).isSome] else (mGet l k).getD zv) h) : wpS P M (Instr.lookup t (.map (some b)) (.int ki k) ok) h Q X := by
 obtain ⟨es, clock, he, s'⟩ := mapC_obj s
 unfold Instr.lookup
 refine wpS_underlying ht ?_
 refine ⟨_, (star_setObj (o' := .map #[] 0) s').1, ?_⟩
 refine wpS_bind _ _ ?_
 change wpS P M (Sem.bind (Instr.checkKey _ 10000 _ _) _) _ _ _
 refine wpS_bind _ _ (wpS_checkKey (n := 9999) hk ?_)
 refine wpS_bind _ _ (wpS_findKey hk (l := l) (by simpa using he) ?_)
 have hg := mIdx_get l k 0
 cases hm : mIdx l k 0 with
 | none =>
  rw [hm] at hg
  rw [← hg] at q
  refine wpS_zeroValue hz ?_
  cases ok <;> exact q
 | some y =>
  rw [hm] at hg
  rw [← hg] at q
  cases ok <;> exact q
theorem mo_lookup {t key el : Nat} {kk : IntKind} {zv : Value} {m ko : Operand} {k : Int} {ok : Bool} [p : Und P t (.map key el)] [pk : InT P key kk] [z : Zer P el zv] (hm : ev e m = some (.map (some b))) (hk : ev e ko = some (.int ki k)) (hh : Has L (mapC ki b l) F) :
  Mo P e (.lookup t m ko ok) ty L fun v' L' => v' = (if ok = true then .tuple #[(mGet l k).getD zv, .bool (mGet l k).isSome] else (mGet l k).getD zv) ∧ L' = L := by
 intro M _ _ tt h Q X ag s q
 show wpS P M (Sem.bind (Instr.lookup t (evT tt m) (evT tt ko) ok) fun v => pure (.value v)) h Q X
 rw [ag.ev hm, ag.ev hk]
 exact wpS_bind _ _ (wpS_lookup p.ok pk.ok z.ok (hh.star s) (q _ L _ _ (.inl rfl) ⟨rfl, rfl⟩ s))
theorem mo_lookup2 {t key el : Nat} {kk : IntKind} {zv : Value} {m ko : Operand} {k : Int} [p : Und P t (.map key el)] [pk : InT P key kk] [z : Zer P el zv] (hm : ev e m = some (.map (some b))) (hk : ev e ko = some (.int ki k)) (hh : Has L (mapC ki b l) F) :
  Mo P e (.lookup t m ko true) ty L fun v' L' => v' = .tuple #[(mGet l k).getD zv, .bool (mGet l k).isSome] ∧ L' = L := by
 have h := mo_lookup (P := P) (e := e) (ty := ty) (L := L) (F := F) (t := t) (ki := ki) (b := b) (l := l) (m := m) (ko := ko) (k := k) (ok := true) (el := el) (key := key) (kk := kk) (zv := zv) hm hk hh
 rw [if_pos rfl] at h
 exact h
end
end
end Go.PB
namespace Go.PB
open Go
section
def Dup (c : HProp) : Prop := ∀ (L : List HProp) (h : Hp), Star (c :: L) h → Star (c :: c :: L) h
theorem dup_fro {b o : Nat} {vs : List Value} : Dup (fro b o vs) := fun L h s => fro_two s
theorem dup_base {W : World} : Dup (base W) := fun L h s => by
 obtain ⟨h1, h2, s1, ha, hL⟩ := s
 exact ⟨⟨fun _ _ => none, h1.ro, fun _ => none, fun _ => none⟩, h, ⟨fun _ _ _ e => s1.r1 _ _ _ e, fun _ _ _ e => e, fun _ _ _ e => by simp at e, fun _ _ _ e => e, fun _ _ => .inl rfl, fun _ _ e => by simp at e, fun _ _ e => e, fun _ => .inl rfl, fun _ _ e => by simp at e, fun _ _ e => e⟩, ha, h1, h2, s1, ha, hL⟩
theorem all_cons {c : HProp} {M L : List HProp} {h : Hp} (s : Star (all (c :: M) :: L) h) : Star (c :: all M :: L) h :=
 star_map (star_open (M := c :: M) s) (fun _ z => z) fun _ z => star_shut z
theorem cons_all {c : HProp} {M L : List HProp} {h : Hp} (s : Star (c :: all M :: L) h) : Star (all (c :: M) :: L) h :=
 star_shut (M := c :: M) (star_map s (fun _ z => z) fun _ z => star_open z)
theorem dup_all : ∀ {M : List HProp}, (∀ c ∈ M, Dup c) → Dup (all M)
 | [], _ => fun L h s => star_shut (M := []) s
 | c :: M, hM => fun L h s => by
  have s1 := hM c (by simp) _ _ (all_cons s)
  have s2 : Star (all M :: c :: c :: L) h := Ent.star (.take (.there (.there .here)) (.take .here (.take .here .refl))) s1
  have s3 := dup_all (fun d hd => hM d (by simp [hd])) _ _ s2
  have s4 : Star (c :: all M :: c :: all M :: L) h := Ent.star (.take (.there (.there .here)) (.take .here (.take (.there .here) (.take .here .refl)))) s3
  exact cons_all (star_map s4 (fun _ z => z) fun _ z => star_map z (fun _ z => z) fun _ z => cons_all z)
theorem dup_many {c : HProp} (hc : Dup c) {L : List HProp} {h : Hp} (s : Star (c :: L) h) : ∀ n, Star (all (List.replicate n c) :: c :: L) h
 | 0 => star_shut (M := []) s
 | n + 1 => by
  have s1 := dup_many hc s n
  have s2 := hc _ _ (star_swap s1)
  have s3 : Star (c :: all (List.replicate n c) :: c :: L) h := Ent.star (.take .here (.take (.there .here) (.take .here .refl))) s2
  rw [List.replicate_succ]
  exact cons_all s3
theorem star_zip : ∀ {As Bs L : List HProp} {h : Hp}, As.length = Bs.length → Star (all As :: all Bs :: L) h → Star (all (List.zipWith (fun a b => all [a, b]) As Bs) :: L) h
 | [], [], L, h, _, s => star_shut (M := []) (star_drop (star_drop s))
 | [], b :: Bs, L, h, e, s => by simp at e
 | a :: As, [], L, h, e, s => by simp at e
 | a :: As, b :: Bs, L, h, e, s => by
  have s1 := all_cons s
  have s2 : Star (all (b :: Bs) :: a :: all As :: L) h := Ent.star (.take (.there (.there .here)) (.take .here (.take .here .refl))) s1
  have s3 := all_cons s2
  have s4 : Star (all As :: all Bs :: a :: b :: L) h := Ent.star (.take (.there (.there (.there .here))) (.take (.there .here) (.take (.there .here) (.take .here .refl)))) s3
  have s5 := star_zip (by simpa using e) s4
  have s6 : Star (a :: b :: all (List.zipWith (fun a b => all [a, b]) As Bs) :: L) h := Ent.star (.take (.there .here) (.take (.there .here) (.take .here .refl))) s5
  exact cons_all (star_shut (M := [_, _]) s6)
theorem star_tail : ∀ {M L : List HProp} {h : Hp}, Star (M ++ L) h → Star (all L :: M) h
 | [], L, h, s => star_shut (L := []) (by rw [List.append_nil]; exact s)
 | c :: M, L, h, s => star_swap (star_map (L := M ++ L) s (fun _ z => z) fun _ z => star_tail z)
end
end Go.PB
namespace Go.Proofs.Ytaeegnfbofagcaa
open Go Go.PB
attribute [local irreducible] Mo Bin Eql Tr Wo Ap Wle
section
theorem rd_all {M L : List HProp} {b o : Nat} {v : Value} (r : Rd M b o v) : Rd (all M :: L) b o v := fun h s =>
 r h (star_drop (star_tail (star_open s)))
def sameB (n : Nat) (l : List Nat) : Bool := decide (l.length = n ∧ ∀ w ∈ l, w = l.headD 0)
section
variable {B : Hand} [Lets B] {x : B.X} {L F : List HProp}
theorem rdsoV {L F : List HProp} {a : Option Addr} {n c : Nat} {cs : List Value} (hh : Has L (vec 1 (.slice a n c) cs) F) (hn : cs.length = n) (hz : a = none → n = 0) (hy : ∀ y, a = some y → y = ⟨y.block, y.off, none⟩) : RdsO L a n cs := by
 refine ⟨hn.symm, ?_⟩
 cases a with
 | none => exact .inl (hz rfl)
 | some y =>
  refine .inr ⟨y.block, y.off, by rw [hy y rfl], ?_⟩
  have e := hy y rfl
  rw [e] at hh
  exact fun i v hi => rd_vec hh hi
def tfInv (n v : Nat) (b o c : Nat) (x : B.X) (L : List HProp) : PB.Inv Nat B.X where
 e := fun i => [(0, .int .u64 (v : Nat)), (5, .slice (some ⟨b, o, none⟩) n c), (10, .int .i64 (n : Nat)), (11, .int .i64 (i : Nat))]
 L := fun i => vec 1 (.slice (some ⟨b, o, none⟩) n c) (((List.range i).map fun _ => num v) ++ List.replicate (n - i) (num 0)) :: L
 x := fun _ => x
 ok := fun i => i ≤ n
theorem tfilled_tr {n v : Nat} (h1 : 1 ≤ n) (h2 : n ≤ 16) :
  Tr Try.prog B 10 [.int .u64 (v : Nat), .int .i64 (n : Nat)] L x fun rv L' x' => L' = vec 1 rv (((List.range n).map fun _ => v).map num) :: L ∧ x' = x := by
 refine Tr.post (R := fun rv L' x' => x' = x ∧ ∀ h, Star L' h → Star (vec 1 rv (((List.range n).map fun _ => v).map num) :: L) h) ?_ (by rintro v L' x' ⟨rfl, h2⟩; exact ⟨_, ⟨rfl, rfl⟩, h2⟩)
 refine tr_of_body Try.func10 rfl Try.ntmps10 (by simp) fun um Q _ hQ => ?_
 simp only [argE, Nat.zero_add, Nat.reduceAdd]
 repeat (first | (apply wo_mo; apply mo_make; exact rfl; exact rfl; exact rfl; omega; omega; exact trivial) | refine we_seq ?_ | (refine wR ?_; try simp only [oS]) | refine wo_nil ?_ | refine wM ?_ | refine wA ?_)
 rintro v' L' ⟨b, rfl, rfl⟩
 refine wo_star (vec 1 (.slice (some ⟨b, 0, none⟩) n n) (((List.range 0).map fun _ => num v) ++ List.replicate (n - 0) (num 0)) :: L) (fun h st => ?_) ?_
 ·have e : zeros n [.int .u64 0] = ((List.range 0).map fun _ => num v) ++ List.replicate (n - 0) (num 0) := by
   apply List.ext_getElem?
   intro i
   by_cases hi : i < n
   ·rw [zeros_one hi]; simp [List.getElem?_replicate, hi]; rfl
   ·rw [List.getElem?_eq_none (by simp [zeros]; omega), List.getElem?_eq_none (by simp; omega)]
  rw [← e]
  exact vec_new (by simp [zeros]) st
 repeat (first | refine we_seq ?_ | (refine wR ?_; try simp only [oS]) | refine wo_nil ?_ | refine wM ?_ | refine wA ?_ | refine wE ?_ | refine we_block ?_)
 refine we_loopN (tfInv n v b 0 n x L) (fun i => n - i) 0 (Nat.zero_le _) ⟨rfl, rfl, rfl, rfl, trivial⟩ .refl rfl ?_
 intro i hi
 replace hi : i ≤ n := hi
 simp only [tfInv]
 by_cases hlt : i < n
 ·repeat (first | (apply wo_po; apply mo_indexAddr (r := 0 + i); exact rfl; exact rfl; omega; omega; omega; exact trivial) | (apply wo_pm; apply mo_store (v := num v); exact rfl; exact rfl; exact rfl; exact wt_vec (i := i) .here (by simp; omega); exact trivial) | refine wlssT ?_ | refine we_seq ?_ | (refine wR ?_; try simp only [oS]) | refine wo_nil ?_ | refine wM ?_ | refine wA ?_ | refine wadd ?_ | refine wT ?_ | refine we_skip ?_ | refine we_block ?_)
  refine at_round (I := tfInv n v b 0 n x L) (R := fun j => n - j < n - i) (i + 1) (by omega) (show i + 1 ≤ n by omega) ⟨rfl, rfl, rfl, rfl, trivial⟩ ?_ rfl
  have e : ((((List.range i).map fun _ => num v) ++ List.replicate (n - i) (num 0)).set i (num v)) = ((List.range (i + 1)).map fun _ => num v) ++ List.replicate (n - (i + 1)) (num 0) := by
   rw [List.set_append_right _ _ (by simp), List.range_succ, List.map_append, List.append_assoc]
   congr 1
   obtain ⟨k, hk⟩ : ∃ k, n - i = k + 1 := ⟨n - i - 1, by omega⟩
   rw [hk, show n - (i + 1) = k by omega]
   simp [List.replicate_succ]
  show Ent _ (vec 1 _ _ :: L)
  rw [e]; exact .refl
 ·obtain rfl : i = n := by omega
  repeat (first | refine wlssF ?_ | refine we_seq ?_ | (refine wR ?_; try simp only [oS]) | refine wo_nil ?_ | refine wM ?_ | refine wA ?_ | refine wF ?_ | refine we_ret ?_ | refine we_exit ?_)
  (first | refine or1 Try.func10 Try.results10 hQ rfl ?_ | refine on1 Try.func10 Try.results10 hQ rfl ?_)
  exact ⟨rfl, fun h st => by simpa [Function.comp_def] using st⟩
def tsInv (n : Nat) (lv : Value) (l : List Nat) (x : B.X) (L : List HProp) : PB.Inv Nat B.X where
 e := fun i => [(0, lv), (1, .int .i64 (n : Nat)), (11, lv), (12, .int .i64 (n : Nat)), (13, .int .i64 (i : Nat))]
 L := fun i => L
 x := fun _ => x
 ok := fun i => i ≤ n ∧ ∀ j w, j < i → l[j]? = some w → w = l.headD 0
theorem tsame_tr {a : Option Addr} {n c : Nat} {l : List Nat} (hr : RdsO L a n (l.map num)) (hn : n ≤ 16) :
  Tr Try.prog B 12 [.slice a n c, .int .i64 (n : Nat)] L x fun rv L' x' => rv = .bool (sameB n l) ∧ L' = L ∧ x' = x := by
 obtain rfl : n = l.length := by have := hr.1; simpa using this
 refine tr_of_body Try.func12 rfl Try.ntmps12 (by simp) fun um Q _ hQ => ?_
 simp only [argE, Nat.zero_add, Nat.reduceAdd]
 repeat (first | refine wneqF ?_ | refine we_seq ?_ | (refine wR ?_; try simp only [oS]) | refine wo_nil ?_ | refine wM ?_ | refine wA ?_ | refine wE ?_ | refine wF ?_ | refine we_skip ?_ | refine we_block ?_)
 refine we_loopN (tsInv l.length (.slice a l.length c) l x L) (fun i => l.length - i) 0 ⟨Nat.zero_le _, fun j w hj => by omega⟩ ⟨rfl, rfl, rfl, rfl, rfl, trivial⟩ .refl rfl ?_
 rintro i ⟨hi, hall⟩
 simp only [tsInv]
 by_cases hlt : i < l.length
 ·obtain ⟨b, o, rfl, hrd⟩ := hr.rds (by omega)
  obtain ⟨w, hw⟩ : ∃ w, l[i]? = some w := ⟨l[i], List.getElem?_eq_getElem hlt⟩
  obtain ⟨w0, hw0⟩ : ∃ w, l[0]? = some w := ⟨l[0]'(by omega), List.getElem?_eq_getElem _⟩
  have hd : l.headD 0 = w0 := by
   cases l with
   | nil => simp at hw0
   | cons y l => simp at hw0; exact hw0
  have r1 := hrd i (.int .u64 (w : Nat)) (by rw [List.getElem?_map, hw]; rfl)
  have r0 := hrd 0 (.int .u64 (w0 : Nat)) (by rw [List.getElem?_map, hw0]; rfl)
  by_cases he : w = w0
  ·repeat (first | (apply wo_po; apply mo_indexAddr (r := o + i); exact rfl; exact rfl; omega; omega; omega; exact trivial) | (apply wo_po; apply mo_indexAddr (r := o + 0); exact rfl; exact rfl; omega; omega; omega; exact trivial) | (apply wo_po; apply mo_load; exact rfl; (first | exact r1 | exact r0); exact trivial) | refine wlssT ?_ | refine wneqF ?_ | refine we_seq ?_ | (refine wR ?_; try simp only [oS]) | refine wo_nil ?_ | refine wM ?_ | refine wA ?_ | refine wadd ?_ | refine wT ?_ | refine wF ?_ | refine we_skip ?_ | refine we_block ?_)
   refine at_round (I := tsInv l.length (.slice (some ⟨b, o, none⟩) l.length c) l x L) (R := fun j => l.length - j < l.length - i) (i + 1) (by omega) ⟨by omega, fun j u hj hu => ?_⟩ ⟨rfl, rfl, rfl, rfl, rfl, trivial⟩ .refl rfl
   by_cases e : j = i
   ·subst e; rw [hw] at hu; cases hu; rw [hd]; exact he
   ·exact hall j u (by omega) hu
  ·repeat (first | (apply wo_po; apply mo_indexAddr (r := o + i); exact rfl; exact rfl; omega; omega; omega; exact trivial) | (apply wo_po; apply mo_indexAddr (r := o + 0); exact rfl; exact rfl; omega; omega; omega; exact trivial) | (apply wo_po; apply mo_load; exact rfl; (first | exact r1 | exact r0); exact trivial) | refine wlssT ?_ | refine wneqT ?_ | refine we_seq ?_ | (refine wR ?_; try simp only [oS]) | refine wo_nil ?_ | refine wM ?_ | refine wA ?_ | refine wT ?_ | refine we_ret ?_ | refine we_skip ?_ | refine we_block ?_)
   (first | refine or1 Try.func12 Try.results12 hQ rfl ?_ | refine on1 Try.func12 Try.results12 hQ rfl ?_)
   refine ⟨?_, rfl, rfl⟩
   unfold sameB
   rw [decide_eq_false]
   rintro ⟨_, h⟩
   exact he (by rw [h w (List.mem_of_getElem? hw), hd])
 ·obtain rfl : i = l.length := by omega
  repeat (first | refine wlssF ?_ | refine we_seq ?_ | (refine wR ?_; try simp only [oS]) | refine wo_nil ?_ | refine wA ?_ | refine wF ?_ | refine we_ret ?_ | refine we_exit ?_)
  (first | refine or1 Try.func12 Try.results12 hQ rfl ?_ | refine on1 Try.func12 Try.results12 hQ rfl ?_)
  refine ⟨?_, rfl, rfl⟩
  unfold sameB
  rw [decide_eq_true]
  refine ⟨rfl, fun w hw => ?_⟩
  obtain ⟨j, hj⟩ := List.mem_iff_getElem?.1 hw
  exact hall j w (List.getElem?_eq_some_iff.1 hj).1 hj
theorem twithin_tr {n k : Int} (hn : -9223372036854775808 ≤ n ∧ n ≤ 9223372036854775807) (hk : 0 < k ∧ k ≤ 1000000) :
  Tr Try.prog B 5 [.int .i64 n, .int .i64 k] L x fun v L' x' => v = .int .i64 (n % k) ∧ L' = L ∧ x' = x := by
 have ht : (n.tmod k < 0 → n.tmod k + k = n % k) ∧ (¬ n.tmod k < 0 → n.tmod k = n % k) := by
  have hmul := Int.mul_tdiv_add_tmod n k
  have h1 := Int.emod_nonneg n (by omega : k ≠ 0)
  have h2 := Int.emod_lt_of_pos n hk.1
  constructor
  ·intro hneg
   have hlt := Int.lt_tmod_of_pos n hk.1
   have h3 : n % k = (n.tmod k + k) % k := by
    rw [Int.add_emod_right]
    conv => lhs; rw [← hmul]
    rw [Int.mul_add_emod_self_left]
   rw [h3]; exact (Int.emod_eq_of_lt (by omega) (by omega)).symm
  ·intro hpos
   have hlt := Int.tmod_lt_of_pos n hk.1
   have h3 : n % k = (n.tmod k) % k := by
    conv => lhs; rw [← hmul]
    rw [Int.mul_add_emod_self_left]
   rw [h3]; exact (Int.emod_eq_of_lt (by omega) (by omega)).symm
 have h1 := Int.emod_nonneg n (by omega : k ≠ 0)
 have h2 := Int.emod_lt_of_pos n hk.1
 have hlt := Int.tmod_lt_of_pos n hk.1
 have hlt' := Int.lt_tmod_of_pos n hk.1
 obtain ⟨m, hm⟩ : ∃ m, n % k = m := ⟨_, rfl⟩
 obtain ⟨t, hte⟩ : ∃ t, n.tmod k = t := ⟨_, rfl⟩
 rw [hm] at ht h1 h2
 rw [hte] at ht hlt hlt'
 rw [hm]
 by_cases hneg : t < 0
 ·have e := ht.1 hneg
  refine tr_of_body Try.func5 rfl Try.ntmps5 (by simp) fun um Q _ hQ => ?_
  simp only [argE, Nat.zero_add, Nat.reduceAdd]
  repeat (first | (apply wo_po; apply mo_bin; exact rfl; exact rfl; apply bin_rem; omega; exact hte; exact trivial) | refine wlssT ?_ | refine we_seq ?_ | (refine wR ?_; try simp only [oS]) | refine wo_nil ?_ | refine wM ?_ | refine wA ?_ | refine wadd ?_ | refine wT ?_ | refine we_ret ?_)
  (first | refine or1 Try.func5 Try.results5 hQ rfl ?_ | refine on1 Try.func5 Try.results5 hQ rfl ?_)
  exact ⟨by rw [e], rfl, rfl⟩
 ·have e := ht.2 hneg
  refine tr_of_body Try.func5 rfl Try.ntmps5 (by simp) fun um Q _ hQ => ?_
  simp only [argE, Nat.zero_add, Nat.reduceAdd]
  repeat (first | (apply wo_po; apply mo_bin; exact rfl; exact rfl; apply bin_rem; omega; exact hte; exact trivial) | refine wlssF ?_ | refine we_seq ?_ | (refine wR ?_; try simp only [oS]) | refine wo_nil ?_ | refine wM ?_ | refine wA ?_ | refine wF ?_ | refine we_ret ?_ | refine we_skip ?_)
  (first | refine or1 Try.func5 Try.results5 hQ rfl ?_ | refine on1 Try.func5 Try.results5 hQ rfl ?_)
  exact ⟨by rw [e], rfl, rfl⟩
theorem wrote_tr : Tr Try.prog B 7 [] L x fun v L' x' => v = .bool true ∧ L' = L ∧ x' = x := by
 refine Tr.post (R := fun v L' x' => v = .bool true ∧ x' = x ∧ ∀ h, Star L' h → Star L h) ?_
  (by rintro v L' x' ⟨rfl, rfl, h2⟩; exact ⟨_, ⟨rfl, rfl, rfl⟩, h2⟩)
 refine tr_of_body Try.func7 rfl Try.ntmps7 (by simp) fun um Q _ hQ => ?_
 simp only [argE, Nat.zero_add, Nat.reduceAdd]
 repeat (first | (apply wo_mo; apply mo_buildSlice (sz := 1) (vs := [num 5]); exact rfl; exact .cons rfl .nil; exact rfl; (intro v hv; cases (List.mem_singleton.1 hv); exact rfl); omega; exact trivial) | refine we_seq ?_ | (refine wR ?_; try simp only [oS]) | refine wo_nil ?_ | refine wA ?_)
 rintro v' L' ⟨b1, rfl, rfl⟩
 refine wo_ent (arr b1 0 ([5].map num) :: L) .refl ?_
 skip
 refine wo_call (.cons rfl .nil) trivial (snew_tr (n := 1) (ws := [5]) (by omega) (by omega) rfl (by decide) ⟨rfl, .inr ⟨_, _, rfl, Rds.all .here⟩⟩) ?_
 rintro v' L' x' ⟨r, rfl, rfl, rfl⟩
 repeat (first | (apply wo_mo; apply mo_buildSlice (sz := 1) (vs := [num 7]); exact rfl; exact .cons rfl .nil; exact rfl; (intro v hv; cases (List.mem_singleton.1 hv); exact rfl); omega; exact trivial) | refine we_seq ?_ | (refine wR ?_; try simp only [oS]) | refine wo_nil ?_ | refine wM ?_ | refine wA ?_ | (apply wo_po; apply mo_extract; exact rfl; exact rfl; exact gY))
 rintro v' L' ⟨b2, rfl, rfl⟩
 refine wo_ent (arr b2 0 ([7].map num) :: sC r 1 (recF [5] 0) :: arr b1 0 ([5].map num) :: L) .refl ?_
 skip
 refine wo_call (.cons rfl (.cons rfl (.cons rfl .nil))) trivial (write_lone (n := 1) (ws := [5]) (ws' := [7]) (v := 0) (by omega) (by omega) rfl (by decide) rfl (by omega) (.there .here) ⟨rfl, .inr ⟨_, _, rfl, Rds.all .here⟩⟩) ?_
 rintro v' L' x' ⟨rfl, rfl, rfl⟩
 repeat (first | refine we_seq ?_ | (refine wR ?_; try simp only [oS]) | refine wo_nil ?_ | refine wM ?_ | refine wA ?_ | (apply wo_po; apply mo_extract; exact rfl; exact rfl; exact gY))
 refine wo_call (.cons rfl (.cons rfl .nil)) trivial (read_lone (n := 1) (ws := [7]) (v := 2) (by omega) (by omega) rfl rfl .here) ?_
 rintro v' L' x' ⟨rv, rfl, rfl, rfl⟩
 refine wo_pure (of_has (.there .here) (vec_shape (by omega))) ?_
 rintro ⟨ra, rl, rc, rfl, hlen, hrc, hra, hra2⟩
 obtain rfl : rl = 1 := by simp at hlen; omega
 obtain ⟨rb, ro, rfl⟩ : ∃ b o, ra = some ⟨b, o, none⟩ := by
  cases ra with
  | none => have := hra rfl; omega
  | some y => exact ⟨y.block, y.off, by rw [hra2 y rfl]⟩
 have hr0 : Rd (sC r 1 (recF [7] 2) :: vec 1 (.slice (some ⟨rb, ro, none⟩) 1 rc) ([7].map num) :: arr b2 0 ([7].map num) :: arr b1 0 ([5].map num) :: L) rb (ro + 0) (.int .u64 7) := rd_vec (.there .here) rfl
 repeat (first | (apply wo_po; apply mo_indexAddr (r := ro + 0); exact rfl; exact rfl; omega; omega; omega; exact rfl) | (apply wo_po; apply mo_load; exact rfl; exact hr0; exact rfl) | refine weqlT ?_ | refine we_seq ?_ | (refine wR ?_; try simp only [oS]) | refine wo_nil ?_ | refine wM ?_ | refine wA ?_ | refine wK ?_ | (apply wo_po; apply mo_extract; exact rfl; exact rfl; exact gY) | refine wE ?_ | refine we_ret ?_)
 (first | refine or1 Try.func7 Try.results7 hQ rfl ?_ | refine on1 Try.func7 Try.results7 hQ rfl ?_)
 exact ⟨rfl, rfl, fun h st => Ent.star (.drop (.drop (.drop (.drop .refl)))) st⟩
end
end
section
abbrev TwZ := List (Int × Value) × Bool × List (Nat × Nat)
def twD (n : Nat) : Slk where
 n := n
 W := fun x _ => x
 ζ := TwZ
 π := Unit
 onW := fun x v _ z => ((mPut z.1 (v : Nat) (num x), z.2.1 || (mGet z.1 (v : Nat)).isSome, z.2.2), ())
 onR := fun acc v _ z => ((z.1, z.2.1 || !(sameB n acc), if acc = [] then z.2.2 else z.2.2 ++ [(acc.headD 0, v)]), ())
def twE (y : Nat × Nat) : List Value := [.int .u64 (y.1 : Nat), .int .u64 (y.2 : Nat)]
def twZ (mb wb rb : Nat) (z : TwZ) : HProp := fun h => ∃ rv : Value, all [mapC .u64 mb z.1, arr wb 0 [.bool z.2.1], arr rb 0 [rv], vec 2 rv (z.2.2.map twE).flatten] h
abbrev twOk (s : SlkS TwZ) : Prop := s.z.2.1 = false ∧ s.z.2.2.length ≤ 100000
def twOps (k : Nat) (l : List Int) : List (Option Nat) := l.mapIdx fun i d => if d % 2 = 0 then some (1 + 100 * k + i) else none
structure TwRo (Ro : HProp) (t1 t2 t3 t4 t5 r n k mb : Nat) (a : Option Addr) (c : Nat) (l : List Int) : Prop where
 h1 : Rd [Ro] t1 0 (.slice a l.length c)
 h2 : Rd [Ro] t2 0 (.int .i64 (k : Nat))
 h3 : Rd [Ro] t3 0 (.pointer (some ⟨r, 0, none⟩))
 h4 : Rd [Ro] t4 0 (.int .i64 (n : Nat))
 h5 : Rd [Ro] t5 0 (.map (some mb))
 hl : l.length ≤ 12
 hk : k ≤ 6
 ok : ∀ y ∈ l, -9223372036854775808 ≤ y ∧ y ≤ 9223372036854775807
 at_ : RdsO [Ro] a l.length (l.map fun y => .int .i64 y)
abbrev twF (t1 t2 t3 t4 t5 wb rb : Nat) : Value := .func (.func 8) #[] #[.pointer (some ⟨t1, 0, none⟩), .pointer (some ⟨t2, 0, none⟩), .pointer (some ⟨t3, 0, none⟩), .pointer (some ⟨t4, 0, none⟩), .pointer (some ⟨t5, 0, none⟩), .pointer (some ⟨wb, 0, none⟩), .pointer (some ⟨rb, 0, none⟩)]
section
variable {mb wb rb r n : Nat}
abbrev twG (mb wb rb n : Nat) : WGm := slkG (twD n) (twZ mb wb rb) twOk
def twInv (mb wb rb r n k sb says turn fin wg t1 t2 t3 t4 t5 : Nat) (a : Option Addr) (c : Nat) (l : List Int) (Ro : HProp) (F : List HProp) : PB.Inv (Nat × GaS (twG mb wb rb n)) TX where
 e := fun i => [(0, gateV sb), (1, .pointer (some ⟨t1, 0, none⟩)), (2, .pointer (some ⟨t2, 0, none⟩)), (3, .pointer (some ⟨t3, 0, none⟩)), (4, .pointer (some ⟨t4, 0, none⟩)), (5, .pointer (some ⟨t5, 0, none⟩)), (6, .pointer (some ⟨wb, 0, none⟩)), (7, .pointer (some ⟨rb, 0, none⟩)), (19, .slice a l.length c), (20, .int .i64 (l.length : Nat)), (21, .int .i64 (i.1 : Nat))]
 L := fun i => gaC (twG mb wb rb n) (sAddr r) (n + 1) (sK r n) sb says turn fin (all []) i.2.f i.2.c :: Ro :: F
 x := fun i => tx ((twG mb wb rb n).g (sAddr r) (n + 1) (sK r n)) says turn fin wg (.busy i.2.s i.2.q i.2.n)
 ok := fun i => i.1 ≤ l.length ∧ SlkAt (twD n) (twZ mb wb rb) twOk ⟨(twOps k l).drop i.1, .idle, ()⟩ i.2
theorem star_wt {L : List HProp} {h : Hp} {z : TwZ} {rv : Value} (st : Star (mapC .u64 mb z.1 :: arr wb 0 [.bool z.2.1] :: arr rb 0 [rv] :: vec 2 rv (z.2.2.map twE).flatten :: L) h) : Star (twZ mb wb rb z :: L) h :=
 star_map (star_shut (M := [_, _, _, _]) st) (fun h z => ⟨rv, z⟩) fun _ z => z
theorem tw_close {F : List HProp} {h : Hp} {f : Nat → Nat} {z : TwZ} {rv : Value} {sb says turn fin : Nat} {Ro : HProp} (st : Star (mapC .u64 mb z.1 :: arr wb 0 [.bool z.2.1] :: arr rb 0 [rv] :: vec 2 rv (z.2.2.map twE).flatten :: wds (sAddr r) (n + 1) (sK r n) f :: seatR sb says turn fin :: Ro :: F) h) :
  Star (gaC (twG mb wb rb n) (sAddr r) (n + 1) (sK r n) sb says turn fin (all []) f z :: Ro :: F) h := by
 have s1 := star_wt st
 have s2 : Star (all [] :: twZ mb wb rb z :: wds (sAddr r) (n + 1) (sK r n) f :: seatR sb says turn fin :: Ro :: F) h := star_shut (M := []) s1
 exact star_shut (M := [_, _, _, _]) (Ent.star (.take (.there (.there .here)) (.take (.there .here) (.take (.there .here) (.take .here .refl)))) s2)
set_option maxHeartbeats 4000000 in
theorem tw_ok {t1 t2 t3 t4 t5 k c : Nat} {a : Option Addr} {l : List Int} {Ro : HProp} (h1 : 1 ≤ n) (h2 : n ≤ 16) (O : TwRo Ro t1 t2 t3 t4 t5 r n k mb a c l) :
  ThrOk ((twG mb wb rb n).g (sAddr r) (n + 1) (sK r n)) (fun s => (s, (⟨twOps k l, .idle, ()⟩ : SlkQ Unit))) (twF t1 t2 t3 t4 t5 wb rb) Ro where
 run := by
  refine ⟨_, _, _, rfl, inferInstance, fun sb says turn fin wg (s : SlkS TwZ) m F hok => ?_⟩
  show Tr Try.prog tH _ [gateV sb, .pointer (some ⟨t1, 0, none⟩), .pointer (some ⟨t2, 0, none⟩), .pointer (some ⟨t3, 0, none⟩), .pointer (some ⟨t4, 0, none⟩), .pointer (some ⟨t5, 0, none⟩), .pointer (some ⟨wb, 0, none⟩), .pointer (some ⟨rb, 0, none⟩)] _ (tx ((twG mb wb rb n).g (sAddr r) (n + 1) (sK r n)) says turn fin wg (.busy s (⟨twOps k l, .idle, ()⟩ : SlkQ Unit) m)) _
  refine tr_star (gaC (twG mb wb rb n) (sAddr r) (n + 1) (sK r n) sb says turn fin (all []) (slkW (twD n) s) s.z :: Ro :: F) (fun hp st => ?_) ?_
  ·have s1 : Star (wds (sAddr r) (n + 1) (sK r n) (slkW (twD n) s) :: twZ mb wb rb s.z :: seatR sb says turn fin :: Ro :: F) hp := star_open (M := [_, _]) st
   have s2 : Star (all [] :: wds (sAddr r) (n + 1) (sK r n) (slkW (twD n) s) :: twZ mb wb rb s.z :: seatR sb says turn fin :: Ro :: F) hp := star_shut (M := []) s1
   exact star_shut (M := [_, _, _, _]) (Ent.star (.take (.there .here) (.take (.there .here) (.take (.there .here) (.take .here .refl)))) s2)
  have hl12 := O.hl
  have hk6 := O.hk
  refine tr_of_body Try.func8 rfl Try.ntmps8 (by simp) fun um Q _ hQ => ?_
  simp only [argE, Nat.zero_add, Nat.reduceAdd]
  repeat (first | (apply wo_po; apply mo_load; exact rfl; exact .there (Rd.of .here O.h1); exact trivial) | refine we_seq ?_ | (refine wR ?_; try simp only [oS]) | refine wo_nil ?_ | refine wM ?_ | refine wE ?_ | refine we_block ?_)
  refine we_loopN (twInv mb wb rb r n k sb says turn fin wg t1 t2 t3 t4 t5 a c l Ro F) (fun i => l.length - i.1) (0, ⟨slkW (twD n) s, s.z, s, (⟨twOps k l, .idle, ()⟩ : SlkQ Unit), m⟩) ⟨Nat.zero_le _, rfl, fun j hj => rfl, rfl⟩ ⟨rfl, rfl, rfl, rfl, rfl, rfl, rfl, rfl, rfl, rfl, rfl, trivial⟩ .refl rfl ?_
  rintro ⟨i, s⟩ ⟨hi, hs⟩
  dsimp only at hi hs
  simp only [twInv]
  by_cases hlt : i < l.length
  ·obtain ⟨b3, o3, rfl, r3⟩ := O.at_.rds (by omega)
   obtain ⟨d, hd⟩ : ∃ d, l[i]? = some d := ⟨l[i], List.getElem?_eq_getElem hlt⟩
   obtain ⟨hd1, hd2⟩ := O.ok d (List.mem_of_getElem? hd)
   have q3 : ∀ {c : HProp}, Rd (c :: Ro :: F) b3 (o3 + i) (.int .i64 d) := fun {c} => .there (Rd.of .here (r3 i _ (by rw [List.getElem?_map, hd]; rfl)))
   have hdrop : (twOps k l).drop i = (if d % 2 = 0 then some (1 + 100 * k + i) else none) :: (twOps k l).drop (i + 1) := by
    rw [List.drop_eq_getElem_cons (by simp [twOps]; omega)]
    congr 1
    have : (twOps k l)[i]? = some (if d % 2 = 0 then some (1 + 100 * k + i) else none) := by simp only [twOps, List.getElem?_mapIdx, hd, Option.map_some]
    exact (List.getElem?_eq_some_iff.1 this).2
   rw [hdrop] at hs
   repeat (first | (apply wo_po; apply mo_indexAddr (r := o3 + i); exact rfl; exact rfl; omega; omega; omega; exact trivial) | (apply wo_po; apply mo_load; exact rfl; exact q3; exact trivial) | refine wlssT ?_ | refine we_seq ?_ | (refine wR ?_; try simp only [oS]) | refine wo_nil ?_ | refine wM ?_ | refine wA ?_ | refine wT ?_ | refine we_skip ?_ | refine we_block ?_)
   refine wo_call (.cons rfl (.cons rfl .nil)) trivial (twithin_tr ⟨hd1, hd2⟩ (by omega)) ?_
   rintro v1 L1 x1 ⟨rfl, rfl, rfl⟩
   have p2 : ∀ {c : HProp}, Rd (c :: Ro :: F) t2 0 (.int .i64 (k : Nat)) := fun {c} => .there (Rd.of .here O.h2)
   have p3 : ∀ {c : HProp}, Rd (c :: Ro :: F) t3 0 (.pointer (some ⟨r, 0, none⟩)) := fun {c} => .there (Rd.of .here O.h3)
   have p4 : ∀ {c : HProp}, Rd (c :: Ro :: F) t4 0 (.int .i64 (n : Nat)) := fun {c} => .there (Rd.of .here O.h4)
   have p5 : ∀ {c : HProp}, Rd (c :: Ro :: F) t5 0 (.map (some mb)) := fun {c} => .there (Rd.of .here O.h5)
   by_cases hev : d % 2 = 0
   ·rw [if_pos hev] at hs
    have m1 : IntKind.i64.wrap (100 * (k : Int)) = ((100 * k : Nat) : Int) := (wrap_i64 (by omega) (by omega)).trans (by omega)
    have m2 : IntKind.i64.wrap (1 + ((100 * k : Nat) : Int)) = ((1 + 100 * k : Nat) : Int) := (wrap_i64 (by omega) (by omega)).trans (by omega)
    have m3 : IntKind.i64.wrap (((1 + 100 * k : Nat) : Int) + (i : Int)) = ((1 + 100 * k + i : Nat) : Int) := (wrap_i64 (by omega) (by omega)).trans (by omega)
    have m4 : IntKind.u64.wrap ((1 + 100 * k + i : Nat) : Int) = ((1 + 100 * k + i : Nat) : Int) := wrap_u64 (by omega) (by omega)
    obtain ⟨x, hx⟩ : ∃ x, 1 + 100 * k + i = x := ⟨_, rfl⟩
    rw [hx] at m3 m4 hs
    repeat (first | (apply wo_po; apply mo_load; exact rfl; exact p2; exact trivial) | (apply wo_po; apply mo_bin; exact rfl; exact rfl; apply bin_mul; exact m1; exact trivial) | (apply wo_po; apply mo_bin; exact rfl; exact rfl; apply bin_add; (first | exact m2 | exact m3); exact trivial) | (apply wo_po; apply mo_conv; exact rfl; exact m4; exact trivial) | refine weqlT ?_ | refine we_seq ?_ | (refine wR ?_; try simp only [oS]) | refine wo_nil ?_ | refine wM ?_ | refine wA ?_ | refine wT ?_)
    refine we_draw (List.range' 0 11) (by kernel_rfl) ?_
    repeat (first | (apply ap_read; exact rfl; exact rfl; exact trivial; apply mo_load; exact rfl; (first | exact p3 | exact p4)) | refine aM ?_)
    refine ap_callR rfl rfl rfl trivial rfl rfl (.cons rfl (.cons rfl .nil)) (tfilled_tr (v := x) h1 h2) ?_ ?_
    ·rintro v L' x' ⟨rfl, rfl⟩ p hp
     replace hp := (List.mem_filter.1 hp).1
     simp only [List.mem_cons, List.not_mem_nil, or_false] at hp
     rcases hp with rfl | rfl | rfl | rfl <;> first | exact .inl rfl | exact .inr ⟨_, rfl, trivial, mo_load rfl (.there p3)⟩ | exact .inr ⟨_, rfl, trivial, mo_load rfl (.there p4)⟩
    rintro fv L1 x1 ⟨rfl, rfl⟩
    refine ap_know (of_has .here (vec_shape (by omega))) ?_
    rintro ⟨fa, fn, fc, rfl, hfn, _, hfz, hfy⟩
    obtain rfl : n = fn := by simp at hfn; omega
    skip
    refine ap_callv rfl rfl rfl rfl trivial rfl rfl (.cons rfl (.cons rfl (.cons rfl .nil))) (write_tr (A := slkAcc (twD n) (twZ mb wb rb) twOk r sb says turn fin wg (all [])) (slk_at h1 h2) (ws := (twD n).words x) (show ((List.range n).map fun _ => x).length = n by simp) (fun w hw => by
     simp only [Slk.words, twD, List.mem_map] at hw
     obtain ⟨_, _, rfl⟩ := hw
     omega) (slk_write hs) (.there .here) (rdsoV .here (show (((List.range n).map fun _ => x).map num).length = n by simp) hfz hfy)) ?_
    rintro v L' x' ⟨q, s', ⟨p', s0, hq', hf', hok0, hz0, hm⟩, rfl, rfl, rfl⟩
    repeat (first | refine aM ?_ | refine aA ?_ | (apply ap_pure; exact rfl; exact rfl; exact gY; intro L; apply mo_extract; exact rfl; exact rfl) | refine ap_end ?_)
    obtain ⟨z, hz⟩ : ∃ z : TwZ, z = s'.c := ⟨_, rfl⟩
    have hwf : z.2.1 = false := by rw [hz, ← hz0]; exact hok0.1
    obtain ⟨zm, zw, zr⟩ := z
    simp only at hwf
    subst hwf
    refine we_star ((fun h => ∃ rv : Value, all [mapC .u64 mb zm, arr wb 0 [.bool false], arr rb 0 [rv], vec 2 rv (zr.map twE).flatten] h) :: wds (sAddr r) (n + 1) (sK r n) s'.f :: seatR sb says turn fin :: Ro :: F) (fun hp st => ?_) ?_
    ·have s1 : Star (wds (sAddr r) (n + 1) (sK r n) s'.f :: twZ mb wb rb s'.c :: seatR sb says turn fin :: all [] :: vec 1 (.slice fa n fc) _ :: Ro :: F) hp := star_open (M := [_, _, _, _]) st
     rw [← hz] at s1
     exact Ent.star (.take (.there .here) (.take .here (.take .here (.drop (.drop .refl))))) s1
    refine we_ex .here fun rv => ?_
    refine we_star (mapC .u64 mb zm :: arr wb 0 [.bool false] :: arr rb 0 [rv] :: vec 2 rv (zr.map twE).flatten :: wds (sAddr r) (n + 1) (sK r n) s'.f :: seatR sb says turn fin :: Ro :: F) (fun hp st => star_open (M := [_, _, _, _]) st) ?_
    cases q with
    | none =>
     obtain ⟨_, hm⟩ := hm
     repeat (first | refine wS ?_ | refine we_seq ?_ | (refine wR ?_; try simp only [oS]) | refine wo_nil ?_ | refine wM ?_ | refine wK ?_ | refine wJ ?_ | refine wL ?_ | (apply wo_po; apply mo_bin; exact rfl; exact rfl; exact bin_eql; exact gY) | (apply wo_po; apply mo_bin; exact rfl; exact rfl; exact bin_neq; exact gY) | refine wadd ?_ | refine wF ?_ | refine we_skip ?_ | refine we_exit ?_)
     refine at_roundS (B := tH) (I := twInv mb wb rb r n k sb says turn fin wg t1 t2 t3 t4 t5 (some ⟨b3, o3, none⟩) c l Ro F) (R := fun j => l.length - j.1 < l.length - i) (i + 1, s') (by show l.length - (i + 1) < l.length - i; omega) ⟨by show i + 1 ≤ l.length; omega, hq', hf', hm⟩ ⟨rfl, rfl, rfl, rfl, rfl, rfl, rfl, rfl, rfl, rfl, rfl, trivial⟩ (fun hp st => ?_) rfl
     have := tw_close (z := (zm, false, zr)) st
     rw [hz] at this
     exact this
    | some v =>
     replace hm : ((show SlkS TwZ from s'.s).z, p') = ((mPut zm (v : Nat) (num x), false || (mGet zm (v : Nat)).isSome, zr), ()) := by rw [hz.symm] at hm; exact hm
     have hm1 := congrArg Prod.fst hm
     simp only [Bool.false_or] at hm1
     have p5' : ∀ {c1 c2 c3 c4 c5 c6 : HProp}, Rd (c1 :: c2 :: c3 :: c4 :: c5 :: c6 :: Ro :: F) t5 0 (.map (some mb)) := .there (.there (.there (.there (.there p5))))
     cases hg : (mGet zm (v : Nat)).isSome
     ·repeat (first | (apply wo_po; apply mo_load; exact rfl; exact p5'; exact trivial) | (apply wo_po; apply mo_lookup2 (ki := .u64) (k := ((v : Nat) : Int)) (l := zm); exact rfl; exact rfl; exact .here; exact trivial) | refine we_seq ?_ | (refine wR ?_; try simp only [oS]) | refine wo_nil ?_ | refine wM ?_ | refine wA ?_ | refine wJ ?_ | (apply wo_po; apply mo_extract; exact rfl; exact rfl; exact gY) | refine wL ?_ | (apply wo_po; apply mo_bin; exact rfl; exact rfl; exact bin_eql; exact gY) | refine wT ?_)
      rw [hg]
      repeat (first | refine wS ?_ | (apply wo_po; apply mo_load; exact rfl; exact p5'; exact trivial) | (apply wo_pm; apply mo_mapUpdate (ki := .u64) (k := ((v : Nat) : Int)) (l := zm); exact rfl; exact rfl; exact rfl; exact .here; exact trivial) | refine we_seq ?_ | (refine wR ?_; try simp only [oS]) | refine wo_nil ?_ | refine wM ?_ | (apply wo_no; exact rfl) | refine wJ ?_ | refine wL ?_ | (apply wo_po; apply mo_bin; exact rfl; exact rfl; exact bin_neq; exact gY) | refine wadd ?_ | refine we_exit ?_)
      rw [hg] at hm1
      refine at_roundS (B := tH) (I := twInv mb wb rb r n k sb says turn fin wg t1 t2 t3 t4 t5 (some ⟨b3, o3, none⟩) c l Ro F) (R := fun j => l.length - j.1 < l.length - i) (i + 1, { s' with c := (mPut zm (v : Nat) (num x), false, zr) }) (by show l.length - (i + 1) < l.length - i; omega) ⟨by show i + 1 ≤ l.length; omega, hq', hf', hm1.symm⟩ ⟨rfl, rfl, rfl, rfl, rfl, rfl, rfl, rfl, rfl, rfl, rfl, trivial⟩ (fun hp st => ?_) rfl
      exact tw_close (z := (mPut zm (v : Nat) (num x), false, zr)) st
     ·repeat (first | (apply wo_po; apply mo_load; exact rfl; exact p5'; exact trivial) | (apply wo_po; apply mo_lookup2 (ki := .u64) (k := ((v : Nat) : Int)) (l := zm); exact rfl; exact rfl; exact .here; exact trivial) | refine we_seq ?_ | (refine wR ?_; try simp only [oS]) | refine wo_nil ?_ | refine wM ?_ | refine wA ?_ | refine wJ ?_ | (apply wo_po; apply mo_extract; exact rfl; exact rfl; exact gY) | refine wL ?_ | (apply wo_po; apply mo_bin; exact rfl; exact rfl; exact bin_eql; exact gY) | refine wT ?_)
      rw [hg]
      repeat (first | refine wS ?_ | (apply wo_po; apply mo_load; exact rfl; exact p5'; exact trivial) | (apply wo_pm; apply mo_mapUpdate (ki := .u64) (k := ((v : Nat) : Int)) (l := zm); exact rfl; exact rfl; exact rfl; exact .here; exact trivial) | refine we_seq ?_ | (refine wR ?_; try simp only [oS]) | refine wo_nil ?_ | refine wM ?_ | (apply wo_no; exact rfl) | (apply wo_nu; exact rfl) | refine wK ?_ | refine wL ?_ | refine wadd ?_ | refine we_exit ?_)
      rw [hg] at hm1
      refine at_roundS (B := tH) (I := twInv mb wb rb r n k sb says turn fin wg t1 t2 t3 t4 t5 (some ⟨b3, o3, none⟩) c l Ro F) (R := fun j => l.length - j.1 < l.length - i) (i + 1, { s' with c := (mPut zm (v : Nat) (num x), true, zr) }) (by show l.length - (i + 1) < l.length - i; omega) ⟨by show i + 1 ≤ l.length; omega, hq', hf', hm1.symm⟩ ⟨rfl, rfl, rfl, rfl, rfl, rfl, rfl, rfl, rfl, rfl, rfl, trivial⟩ (fun hp st => ?_) rfl
      exact tw_close (z := (mPut zm (v : Nat) (num x), true, zr)) st
   ·rw [if_neg hev] at hs
    repeat (first | (apply wo_po; apply mo_load; exact rfl; exact p3; exact trivial) | refine weqlF ?_ | refine we_seq ?_ | (refine wR ?_; try simp only [oS]) | refine wo_nil ?_ | refine wM ?_ | refine wF ?_ | refine we_skip ?_)
    refine wo_call (.cons rfl (.cons rfl .nil)) trivial (read_tr (A := slkAcc (twD n) (twZ mb wb rb) twOk r sb says turn fin wg (all [])) (slk_at h1 h2) (slk_read hs) .here) ?_
    rintro v L' x' ⟨q, s', gv, ⟨p', s0, hq', hf', hok0, hz0, hm⟩, hgood, rfl, rfl, rfl⟩
    obtain ⟨z, hz⟩ : ∃ z : TwZ, z = s'.c := ⟨_, rfl⟩
    have hwf : z.2.1 = false := by rw [hz, ← hz0]; exact hok0.1
    have hzl : z.2.2.length ≤ 100000 := by rw [hz, ← hz0]; exact hok0.2
    obtain ⟨zm, zw, zr⟩ := z
    simp only at hwf hzl
    subst hwf
    refine wo_star ((fun h => ∃ rv : Value, all [mapC .u64 mb zm, arr wb 0 [.bool false], arr rb 0 [rv], vec 2 rv (zr.map twE).flatten] h) :: vec 1 gv ((rdW q).map num) :: wds (sAddr r) (n + 1) (sK r n) s'.f :: seatR sb says turn fin :: Ro :: F) (fun hp st => ?_) ?_
    ·have s1 : Star (wds (sAddr r) (n + 1) (sK r n) s'.f :: twZ mb wb rb s'.c :: seatR sb says turn fin :: all [] :: vec 1 gv _ :: Ro :: F) hp := star_open (M := [_, _, _, _]) st
     rw [← hz] at s1
     exact Ent.star (.take (.there .here) (.take (.there (.there (.there .here))) (.take .here (.take .here (.drop .refl))))) s1
    refine wo_ex .here fun rv => ?_
    refine wo_star (mapC .u64 mb zm :: arr wb 0 [.bool false] :: arr rb 0 [rv] :: vec 2 rv (zr.map twE).flatten :: vec 1 gv ((rdW q).map num) :: wds (sAddr r) (n + 1) (sK r n) s'.f :: seatR sb says turn fin :: Ro :: F) (fun hp st => star_open (M := [_, _, _, _]) st) ?_
    cases q with
    | none =>
     obtain ⟨_, hm⟩ := hm
     repeat (first | refine wS ?_ | refine we_seq ?_ | (refine wR ?_; try simp only [oS]) | refine wo_nil ?_ | refine wM ?_ | refine wA ?_ | refine wK ?_ | refine wJ ?_ | (apply wo_po; apply mo_extract; exact rfl; exact rfl; exact gY) | refine wL ?_ | (apply wo_po; apply mo_bin; exact rfl; exact rfl; exact bin_eql; exact gY) | (apply wo_po; apply mo_bin; exact rfl; exact rfl; exact bin_neq; exact gY) | refine wadd ?_ | refine wF ?_ | refine we_skip ?_)
     refine at_roundS (B := tH) (I := twInv mb wb rb r n k sb says turn fin wg t1 t2 t3 t4 t5 (some ⟨b3, o3, none⟩) c l Ro F) (R := fun j => l.length - j.1 < l.length - i) (i + 1, s') (by show l.length - (i + 1) < l.length - i; omega) ⟨by show i + 1 ≤ l.length; omega, hq', hf', hm⟩ ⟨rfl, rfl, rfl, rfl, rfl, rfl, rfl, rfl, rfl, rfl, rfl, trivial⟩ (fun hp st => ?_) rfl
     have := tw_close (z := (zm, false, zr)) (Ent.star (.take .here (.take .here (.take .here (.take .here (.drop .refl))))) st)
     rw [hz] at this
     exact this
    | some y =>
     obtain ⟨acc, v⟩ := y
     obtain ⟨hal, hab, hvb⟩ := hgood _ rfl
     replace hal : acc.length = n := hal
     obtain ⟨a0, hacc⟩ : ∃ a0, acc[0]? = some a0 := ⟨acc[0]'(by omega), List.getElem?_eq_getElem _⟩
     have hne : acc ≠ [] := fun e => by rw [e] at hacc; cases hacc
     have hhd : acc.headD 0 = a0 := by
      cases acc with
      | nil => exact absurd rfl hne
      | cons y l => simp at hacc; exact hacc
     replace hm : ((show SlkS TwZ from s'.s).z, p') = ((zm, false || !(sameB n acc), if acc = [] then zr else zr ++ [(acc.headD 0, v)]), ()) := by rw [hz.symm] at hm; exact hm
     have hm1 := congrArg Prod.fst hm
     rw [if_neg hne, hhd] at hm1
     simp only [Bool.false_or] at hm1
     simp only [rdW, rdV, Option.map_some, Option.getD_some]
     refine wo_pure (of_has (.there (.there (.there (.there .here)))) (vec_shape (by omega))) ?_
     rintro ⟨ga, gn, gc, rfl, hgn, _, hgz, hgy⟩
     obtain rfl : n = gn := by simp at hgn; omega
     obtain ⟨gb, go, rfl⟩ : ∃ b o, ga = some ⟨b, o, none⟩ := by
      cases ga with
      | none => have := hgz rfl; omega
      | some y => exact ⟨y.block, y.off, by rw [hgy y rfl]⟩
     have p4' : ∀ {c1 c2 c3 c4 c5 c6 c7 : HProp}, Rd (c1 :: c2 :: c3 :: c4 :: c5 :: c6 :: c7 :: Ro :: F) t4 0 (.int .i64 (n : Nat)) := .there (.there (.there (.there (.there (.there p4)))))
     repeat (first | refine wS ?_ | (apply wo_po; apply mo_load; exact rfl; exact p4'; exact rfl) | refine we_seq ?_ | (refine wR ?_; try simp only [oS]) | refine wo_nil ?_ | refine wM ?_ | refine wA ?_ | (apply wo_no; exact rfl) | refine wJ ?_ | (apply wo_po; apply mo_extract; exact rfl; exact rfl; exact gY) | refine wL ?_ | (apply wo_po; apply mo_bin; exact rfl; exact rfl; exact bin_eql; exact gY) | (apply wo_po; apply mo_bin; exact rfl; exact rfl; exact bin_neq; exact gY) | refine wT ?_)
     refine wo_call (.cons rfl (.cons rfl .nil)) rfl (tsame_tr (l := acc) (rdsoV (.there (.there (.there (.there .here)))) (by simp; omega) hgz hgy) h2) ?_
     rintro v1 L1 x1 ⟨rfl, rfl, rfl⟩
     repeat (first | refine wS ?_ | refine wgtrT ?_ | refine we_seq ?_ | (refine wR ?_; try simp only [oS]) | refine wo_nil ?_ | refine wM ?_ | refine wJ ?_ | (apply wo_po; apply mo_not; exact rfl; exact gY) | refine wE ?_ | refine wT ?_)
     obtain ⟨sm, hsm⟩ : ∃ sm, sameB n acc = sm := ⟨_, rfl⟩
     rw [hsm] at hm1 ⊢
     refine we_pure (of_has (.there (.there (.there .here))) (vec_shape (by omega))) ?_
     rintro ⟨va, vn, vc, rfl, hvn, _⟩
     have hvn' : vn = zr.length := by rw [flat_len (k := 2) (fun _ => rfl)] at hvn; omega
     refine we_ent (mapC .u64 mb zm :: arr wb 0 [.bool !sm] :: arr rb 0 [.slice va vn vc] :: vec 2 (.slice va vn vc) (zr.map twE).flatten :: vec 1 (.slice (some ⟨gb, go, none⟩) n gc) (acc.map num) :: wds (sAddr r) (n + 1) (sK r n) s'.f :: seatR sb says turn fin :: Ro :: F) .refl ?_
     have hg0 : Rd (mapC .u64 mb zm :: arr wb 0 [.bool !sm] :: arr rb 0 [.slice va vn vc] :: vec 2 (.slice va vn vc) (zr.map twE).flatten :: vec 1 (.slice (some ⟨gb, go, none⟩) n gc) (acc.map num) :: wds (sAddr r) (n + 1) (sK r n) s'.f :: seatR sb says turn fin :: Ro :: F) gb (go + 0) (.int .u64 (a0 : Nat)) := rd_vec (.there (.there (.there (.there .here)))) (by rw [List.getElem?_map, hacc]; rfl)
     refine we_draw (List.range' 0 9) (by kernel_rfl) ?_
     repeat (first | (apply ap_pure; exact rfl; exact rfl; exact trivial; intro L; apply mo_indexAddr (r := go + 0); exact rfl; exact rfl; omega; omega; omega) | (apply ap_read; exact rfl; exact rfl; exact trivial; apply mo_load; exact rfl; exact hg0) | (apply ap_pure; exact rfl; exact rfl; exact trivial; intro L; apply mo_build (pv := [(0, _), (1, _)]); exact rfl; exact .cons rfl (.cons rfl .nil); exact rfl) | refine aM ?_ | refine aL ?_)
     refine ap_loudR rfl rfl rfl rfl trivial (mo_buildSlice (sz := 2) (vs := [.agg #[.int .u64 (a0 : Nat), .int .u64 (v : Nat)]]) rfl (.cons rfl .nil) rfl (by intro v hv; cases (List.mem_singleton.1 hv); exact rfl) (by omega)) ?_ ?_
     ·rintro v L' ⟨sb2, rfl, rfl⟩ p hp
      replace hp := (List.mem_filter.1 hp).1
      simp only [List.mem_cons, List.not_mem_nil, or_false] at hp
      rcases hp with rfl | rfl | rfl | rfl | rfl | rfl | rfl | rfl <;> first | exact .inl rfl | exact .inr ⟨_, rfl, trivial, mo_load rfl (.there (.there (.there (.row0 rfl))))⟩ | exact .inr ⟨_, rfl, trivial, mo_load rfl (.there hg0)⟩
     rintro v' L' ⟨sb2, rfl, rfl⟩
     refine ap_loud rfl rfl rfl rfl rfl trivial (mo_append (sz := 2) (new := [.int .u64 (a0 : Nat), .int .u64 (v : Nat)]) rfl rfl rfl rfl (.there (.there (.there (.there .here)))) rfl (.inr ⟨_, _, rfl, Rds.all .here⟩) (by intro v hv; simp at hv; rcases hv with rfl | rfl <;> rfl) (by simp only [sliceLen]; omega)) ?_
     rintro v' L' rfl
     refine ap_know (of_has .here (vec_shape (by omega))) ?_
     rintro ⟨ua, un, uc, rfl, _⟩
     skip
     refine ap_loud rfl rfl rfl rfl rfl trivial (mo_store rfl rfl rfl (Wt.row0 (k := 0) (vs := [.slice va vn vc]) (.there (.there (.there (.there .here)))) (Nat.lt_succ_self 0))) ?_
     rintro v' L' ⟨rfl, rfl⟩
     refine ap_end ?_
     repeat (first | (refine wR ?_; try simp only [oS]) | refine wo_nil ?_ | refine wM ?_ | refine wadd ?_)
     refine at_roundS (B := tH) (I := twInv mb wb rb r n k sb says turn fin wg t1 t2 t3 t4 t5 (some ⟨b3, o3, none⟩) c l Ro F) (R := fun j => l.length - j.1 < l.length - i) (i + 1, { s' with c := (zm, !sm, zr ++ [(a0, v)]) }) (by show l.length - (i + 1) < l.length - i; omega) ⟨by show i + 1 ≤ l.length; omega, hq', hf', hm1.symm⟩ ⟨rfl, rfl, rfl, rfl, rfl, rfl, rfl, rfl, rfl, rfl, rfl, trivial⟩ (fun hp st => ?_) rfl
     refine tw_close (z := (zm, !sm, zr ++ [(a0, v)])) (rv := .slice ua un uc) ?_
     have e : ((zr ++ [(a0, v)]).map twE).flatten = (zr.map twE).flatten ++ [.int .u64 (a0 : Nat), .int .u64 (v : Nat)] := by simp [twE]
     rw [e]
     exact Ent.star (.take (.there (.there .here)) (.take (.there (.there .here)) (.take (.there (.there .here)) (.take .here (.take (.there (.there .here)) (.take (.there (.there .here)) (.drop (.drop .refl)))))))) st
  ·obtain rfl : i = l.length := by omega
   repeat (first | refine wlssF ?_ | refine we_seq ?_ | (refine wR ?_; try simp only [oS]) | refine wo_nil ?_ | refine wF ?_ | refine we_exit ?_)
   (first | refine or0 Try.func8 Try.results8 hQ ?_ | refine on0 Try.func8 Try.results8 hQ ?_)
   refine ⟨s.s, s.q, s.n, rfl, ?_, fun hp st => ?_⟩
   ·show slkPlan (twD n) s.q = none
    rw [hs.q, List.drop_of_length_le (by simp [twOps])]; rfl
   ·have s1 : Star (wds (sAddr r) (n + 1) (sK r n) s.f :: twZ mb wb rb s.c :: seatR sb says turn fin :: all [] :: Ro :: F) hp := star_open (M := [_, _, _, _]) st
    have s2 : Star (wds (sAddr r) (n + 1) (sK r n) (slkW (twD n) s.s) :: twZ mb wb rb s.c :: seatR sb says turn fin :: all [] :: Ro :: F) hp := star_map s1 (wds_congr hs.f) fun _ z => z
    rw [hs.c] at s2
    have s3 := star_shut (M := [_, _]) s2
    exact star_map s3 (fun _ z => z) fun hq z => star_map z (fun _ z => z) fun hq z => star_shut (M := []) (Ent.star (.drop (.drop .refl)) z)
end
end
section
abbrev RowI := Option Addr × Nat × List Int
def rvI (y : RowI) : Value := .slice y.1 y.2.2.length y.2.1
abbrev intV (l : List Int) : List Value := l.map fun k => .int .i64 k
def ThsI (L : List HProp) (a : Option Addr) (rs : List RowI) : Prop := ∀ (i : Nat) y, rs[i]? = some y → ∃ b o, a = some ⟨b, o, none⟩ ∧ Rd L b (o + i) (rvI y) ∧ RdsO L y.1 y.2.2.length (intV y.2.2) ∧ y.2.2.length ≤ y.2.1 ∧ ∀ d ∈ y.2.2, -9223372036854775808 ≤ d ∧ d ≤ 9223372036854775807
def rowI (rs : List RowI) (i : Nat) : RowI := match rs[i]? with | some y => (y.1, y.2.1, y.2.2.take 12) | none => (none, 0, [])
theorem rowI_ok {L : List HProp} {a : Option Addr} {rs : List RowI} (h : ThsI L a rs) (i : Nat) : RdsO L (rowI rs i).1 (rowI rs i).2.2.length (intV (rowI rs i).2.2) ∧ (rowI rs i).2.2.length ≤ 12 ∧ ∀ d ∈ (rowI rs i).2.2, -9223372036854775808 ≤ d ∧ d ≤ 9223372036854775807 := by
 unfold rowI
 cases hr : rs[i]? with
 | none => exact ⟨⟨rfl, .inl rfl⟩, by simp, fun d hd => by simp at hd⟩
 | some y =>
  obtain ⟨_, _, _, _, hd, _, hb⟩ := h i y hr
  refine ⟨⟨by simp, ?_⟩, by simp only [List.length_take]; omega, fun d hd => hb d (List.mem_of_mem_take hd)⟩
  rcases hd.2 with h0 | ⟨b, o, e, r⟩
  ·left; simp only [List.length_take]; omega
  ·refine .inr ⟨b, o, e, fun j w hw => r j w ?_⟩
   simp only [intV, List.getElem?_map, List.getElem?_take] at hw ⊢
   split at hw
   ·exact hw
   ·cases hw
def bxW (rs : List RowI) (ts : List (Nat × Nat)) : List HProp := ts.mapIdx fun i b => all [arr b.1 0 [rvI (rowI rs i)], arr b.2 0 [.int .i64 (i : Nat)]]
theorem bxW_snoc {rs : List RowI} {ts : List (Nat × Nat)} {t : Nat × Nat} : bxW rs (ts ++ [t]) = bxW rs ts ++ [all [arr t.1 0 [rvI (rowI rs ts.length)], arr t.2 0 [.int .i64 (ts.length : Nat)]]] := by
 unfold bxW
 rw [List.mapIdx_append]
 simp
def mthW (RoS : HProp) (rs : List RowI) (i : Nat) (b : Nat × Nat) : HProp := all [RoS, all [arr b.1 0 [rvI (rowI rs i)], arr b.2 0 [.int .i64 (i : Nat)]]]
theorem dealW {RoS : HProp} (hd : Dup RoS) {rs : List RowI} {ts : List (Nat × Nat)} {L : List HProp} {h : Hp} (s : Star (RoS :: all (bxW rs ts) :: L) h) : Star (all (ts.mapIdx (mthW RoS rs)) :: RoS :: L) h := by
 have s1 := dup_many hd s ts.length
 have s2 : Star (all (List.replicate ts.length RoS) :: all (bxW rs ts) :: RoS :: L) h := Ent.star (.take .here (.take (.there .here) (.take .here .refl))) s1
 have s3 := star_zip (by simp [bxW]) s2
 have e : List.zipWith (fun a b => all [a, b]) (List.replicate ts.length RoS) (bxW rs ts) = ts.mapIdx (mthW RoS rs) := by
  apply List.ext_getElem?
  intro i
  by_cases hi : i < ts.length
  ·simp [bxW, mthW, hi, List.getElem?_zipWith]
  ·have h1 : (ts.mapIdx (mthW RoS rs))[i]? = none := List.getElem?_eq_none_iff.2 (by simp; omega)
   rw [h1]
   apply List.getElem?_eq_none_iff.2
   simp [bxW]; omega
 rw [e] at s3
 exact s3
abbrev twRoS (t8 t7 t10 r n mb : Nat) (L : List HProp) : HProp := all [fro t8 0 [.pointer (some ⟨r, 0, none⟩)], fro t7 0 [.int .i64 (n : Nat)], fro t10 0 [.map (some mb)], all L]
def twthrs (t8 t7 t10 wb rb r n mb : Nat) (RoS : HProp) (rs : List RowI) (ts : List (Nat × Nat)) : List (Thr ((twG mb wb rb n).g (sAddr r) (n + 1) (sK r n))) := ts.mapIdx fun i b => { fv := twF b.1 b.2 t8 t7 t10 wb rb, ini := fun s => (s, (show ((twG mb wb rb n).g (sAddr r) (n + 1) (sK r n)).θ from (⟨twOps i (rowI rs i).2.2, .idle, ()⟩ : SlkQ Unit))), M := mthW RoS rs i b }
theorem startF_qsW {g : Game} : ∀ {ts : List (Thr g)} {s : g.σ}, (∀ t ∈ ts, ∀ s, (t.ini s).1 = s) → startF ts s = (s, ts.map fun t => (t.ini s).2)
 | [], s, _ => rfl
 | t :: ts, s, h => by
  have h1 := h t (by simp) s
  have h2 := startF_qsW (ts := ts) (s := s) fun u hu => h u (by simp [hu])
  show ((startF ts (t.ini s).1).1, (t.ini s).2 :: (startF ts (t.ini s).1).2) = _
  rw [h1, h2]; rfl
theorem sumN_leW {l : List Nat} {c : Nat} (h : ∀ a ∈ l, a ≤ c) : sumN l ≤ c * l.length := by
 induction l with
 | nil => simp [sumN]
 | cons a l ih =>
  have h1 := ih fun b hb => h b (by simp [hb])
  have h2 := h a (by simp)
  simp only [sumN, List.foldr_cons, List.length_cons, Nat.mul_add] at h1 ⊢; omega
def wl : Nat → List Nat → List (Int × Value)
 | _, [] => []
 | o, x :: xs => (((2 * o : Nat) : Int), num x) :: wl (o + 1) xs
theorem wl_get : ∀ (xs : List Nat) (o j : Nat), mGet (wl o xs) ((2 * (o + j) : Nat) : Int) = (xs[j]?).map num
 | [], o, j => by simp [wl, mGet]
 | x :: xs, o, 0 => by unfold wl mGet; rw [if_pos (by omega)]; rfl
 | x :: xs, o, j + 1 => by
  unfold wl mGet
  rw [if_neg (by omega), show o + (j + 1) = (o + 1) + j by omega, wl_get xs (o + 1) j]; rfl
theorem wl_put : ∀ (xs : List Nat) (o x : Nat), mPut (wl o xs) ((2 * (o + xs.length) : Nat) : Int) (num x) = wl o (xs ++ [x])
 | [], o, x => rfl
 | y :: xs, o, x => by
  unfold wl mPut
  rw [if_neg (by simp only [List.length_cons]; omega), List.length_cons, show o + (xs.length + 1) = (o + 1) + xs.length by omega, wl_put xs (o + 1) x]; rfl
def twJ (m : Nat) (xs : List Nat) (z : TwZ) (_ : List Unit) : Prop := z.1 = wl 0 xs ∧ z.2.1 = false ∧ z.2.2.length ≤ m ∧ ∀ y ∈ z.2.2, ∃ j, xs[j]? = some y.1 ∧ y.2 = 2 * j
section
variable {t8 t7 t10 wb rb r n mb : Nat} {rs : List RowI} {L : List HProp} {ts : List (Nat × Nat)} {a0 : Option Addr}
theorem tw_step (h1 : 1 ≤ n) {m : Nat} (hm : m < 1000000000) {s : SlkS TwZ} {qs : List (SlkQ Unit)} (I : SlkI (twD n) (fun _ => True) twJ m s qs) {k : Nat} {q : SlkQ Unit} (hq : qs[k]? = some q) {mk : Int × Int} {f : SlkS TwZ → SlkS TwZ × SlkQ Unit} (hp : slkPlan (twD n) q = some (mk, f)) :
  SlkI (twD n) (fun _ => True) twJ (m + 1) (f s).1 (qs.set k (f s).2) ∧ sumN ((qs.set k (f s).2).map (slkφ n)) + 1 ≤ sumN (qs.map (slkφ n)) := by
 refine slk_step (D := twD n) hm (fun xs z πs h => ⟨h.1, h.2.1, Nat.le_succ_of_le h.2.2.1, h.2.2.2⟩) ?_ ?_ I hq hp
 ·rintro xs ⟨zm, zw, zr⟩ πs k p x ⟨e1, e2, e3, e4⟩ hk lo hi _
  simp only at e1 e2 e3 e4
  subst e1; subst e2
  have hg : mGet (wl 0 xs) ((2 * xs.length : Nat) : Int) = none := by
   have := wl_get xs 0 xs.length
   rw [Nat.zero_add] at this
   rw [this, List.getElem?_eq_none (Nat.le_refl _)]; rfl
  have hpq : mPut (wl 0 xs) ((2 * xs.length : Nat) : Int) (num x) = wl 0 (xs ++ [x]) := by
   have := wl_put xs 0 x
   rwa [Nat.zero_add] at this
  show mPut (wl 0 xs) ((2 * xs.length : Nat) : Int) (num x) = wl 0 (xs ++ [x]) ∧ (false || (mGet (wl 0 xs) ((2 * xs.length : Nat) : Int)).isSome) = false ∧ zr.length ≤ m + 1 ∧ ∀ y ∈ zr, ∃ j, (xs ++ [x])[j]? = some y.1 ∧ y.2 = 2 * j
  refine ⟨hpq, by rw [hg]; rfl, by omega, fun y hy => ?_⟩
  obtain ⟨j, h5, h6⟩ := e4 y hy
  exact ⟨j, by rw [List.getElem?_append_left (List.getElem?_eq_some_iff.1 h5).1]; exact h5, h6⟩
 ·rintro xs ⟨zm, zw, zr⟩ πs k p x ⟨e1, e2, e3, e4⟩ hk lo hi hx
  simp only at e1 e2 e3 e4
  subst e1; subst e2
  have hw : (twD n).words x = List.replicate n x := by
   show (List.range n).map (fun _ => x) = _
   apply List.ext_getElem
   ·simp
   ·intro i h3 h4; simp
  have hs : sameB n (List.replicate n x) = true := by
   unfold sameB
   rw [decide_eq_true]
   refine ⟨by simp, fun w hw => ?_⟩
   obtain ⟨_, rfl⟩ := List.mem_replicate.1 hw
   obtain ⟨n', rfl⟩ : ∃ n', n = n' + 1 := ⟨n - 1, by omega⟩
   rfl
  have hne : List.replicate n x ≠ [] := by
   intro e
   have := congrArg List.length e
   simp at this; omega
  have hhd : (List.replicate n x).headD 0 = x := by
   obtain ⟨n', rfl⟩ : ∃ n', n = n' + 1 := ⟨n - 1, by omega⟩
   rfl
  rw [hw]
  show wl 0 xs = wl 0 xs ∧ (false || !(sameB n (List.replicate n x))) = false ∧ (if List.replicate n x = [] then zr else zr ++ [((List.replicate n x).headD 0, 2 * (xs.length - 1))]).length ≤ m + 1 ∧ ∀ y ∈ (if List.replicate n x = [] then zr else zr ++ [((List.replicate n x).headD 0, 2 * (xs.length - 1))]), ∃ j, xs[j]? = some y.1 ∧ y.2 = 2 * j
  rw [if_neg hne, hs, hhd]
  refine ⟨rfl, rfl, by simp; omega, fun y hy => ?_⟩
  rcases List.mem_append.1 hy with hy | hy
  ·exact e4 y hy
  ·cases List.mem_singleton.1 hy
   refine ⟨xs.length - 1, ?_, rfl⟩
   rw [List.getLast?_eq_getElem?] at hx
   exact hx
theorem twthrs_ok (h1 : 1 ≤ n) (h2 : n ≤ 16) (h6 : ts.length ≤ 6) (hr : ThsI L a0 rs) : ∀ t ∈ twthrs t8 t7 t10 wb rb r n mb (twRoS t8 t7 t10 r n mb L) rs ts, ThrOk ((twG mb wb rb n).g (sAddr r) (n + 1) (sK r n)) t.ini t.fv t.M := by
 intro t ht
 obtain ⟨i, hi⟩ := List.mem_iff_getElem?.1 ht
 simp only [twthrs, List.getElem?_mapIdx, Option.map_eq_some_iff] at hi
 obtain ⟨y, hy, rfl⟩ := hi
 have hi6 : i < ts.length := (List.getElem?_eq_some_iff.1 hy).1
 obtain ⟨hdo, h12, hb⟩ := rowI_ok hr i
 have O : TwRo (mthW (twRoS t8 t7 t10 r n mb L) rs i y) y.1 y.2 t8 t7 t10 r n i mb (rowI rs i).1 (rowI rs i).2.1 (rowI rs i).2.2 :=
  {
   h1 := rd_all (.there (rd_all (.row0 rfl)))
   h2 := rd_all (.there (rd_all (.there (.row0 rfl))))
   h3 := rd_all (rd_all (Rd.fro (k := 0) rfl rfl))
   h4 := rd_all (rd_all (.there (Rd.fro (k := 0) rfl rfl)))
   h5 := rd_all (rd_all (.there (.there (Rd.fro (k := 0) rfl rfl))))
   hl := h12
   hk := by omega
   ok := hb
   at_ := ⟨hdo.1, hdo.2.imp id fun ⟨b, o, e, r⟩ => ⟨b, o, e, fun i v hi => rd_all (rd_all (.there (.there (.there (rd_all (r i v hi))))))⟩⟩ }
 exact tw_ok h1 h2 O
theorem twthrs_M {RoS : HProp} : (twthrs t8 t7 t10 wb rb r n mb RoS rs ts).map Thr.M = ts.mapIdx (mthW RoS rs) := by
 apply List.ext_getElem?
 intro k
 simp only [twthrs, List.getElem?_map, List.getElem?_mapIdx]
 cases ts[k]? <;> rfl
theorem twthrs_fv {RoS : HProp} : (twthrs t8 t7 t10 wb rb r n mb RoS rs ts).map Thr.fv = ts.map fun b => twF b.1 b.2 t8 t7 t10 wb rb := by
 apply List.ext_getElem?
 intro k
 simp only [twthrs, List.getElem?_map, List.getElem?_mapIdx]
 cases ts[k]? <;> rfl
theorem twthrs_ini {RoS : HProp} : ∀ t ∈ twthrs t8 t7 t10 wb rb r n mb RoS rs ts, ∀ s, (t.ini s).1 = s := fun t ht s => by
 obtain ⟨i, hi⟩ := List.mem_iff_getElem?.1 ht
 simp only [twthrs, List.getElem?_mapIdx, Option.map_eq_some_iff] at hi
 obtain ⟨y, hy, rfl⟩ := hi
 rfl
def twQs (rs : List RowI) (ts : List (Nat × Nat)) : List (SlkQ Unit) := ts.mapIdx fun i _ => (⟨twOps i (rowI rs i).2.2, .idle, ()⟩ : SlkQ Unit)
theorem twthrs_start {RoS : HProp} {s : SlkS TwZ} : startF (twthrs t8 t7 t10 wb rb r n mb RoS rs ts) (show ((twG mb wb rb n).g (sAddr r) (n + 1) (sK r n)).σ from s) = (s, twQs rs ts) := by
 rw [startF_qsW twthrs_ini]
 congr 1
 apply List.ext_getElem?
 intro k
 show ((twthrs t8 t7 t10 wb rb r n mb RoS rs ts).map fun t => (t.ini s).2)[k]? = (twQs rs ts)[k]?
 rw [List.getElem?_map]
 unfold twthrs twQs
 rw [List.getElem?_mapIdx, List.getElem?_mapIdx]
 cases ts[k]? <;> rfl
def twS0 : SlkS TwZ := ⟨0, fun _ => 0, [0], (wl 0 [0], false, [])⟩
theorem tw_I0 (hr : ThsI L a0 rs) (h2 : n ≤ 16) (h6 : ts.length ≤ 6) : SlkI (twD n) (fun _ => True) twJ 0 twS0 (twQs rs ts) ∧ sumN ((twQs rs ts).map (slkφ n)) ≤ 1440 := by
 have hlen : (twQs rs ts).length = ts.length := by simp [twQs]
 have hmem : ∀ (k : Nat) q, (twQs rs ts)[k]? = some q → ∃ i, q = (⟨twOps i (rowI rs i).2.2, .idle, ()⟩ : SlkQ Unit) := fun k q hq => by
  simp only [twQs, List.getElem?_mapIdx, Option.map_eq_some_iff] at hq
  obtain ⟨y, _, rfl⟩ := hq
  exact ⟨k, rfl⟩
 refine ⟨⟨Nat.le_refl 1, Nat.le_refl 1, .inl ⟨rfl, fun j hj => rfl, fun k q hq => ?_⟩, fun k q hq => ?_, rfl, rfl, Nat.le_refl _, fun y hy => by cases hy⟩, ?_⟩
 ·obtain ⟨i, rfl⟩ := hmem k q hq; rfl
 ·obtain ⟨i, rfl⟩ := hmem k q hq; exact ⟨fun _ _ => trivial, trivial⟩
 ·have := sumN_leW (c := 240) (l := (twQs rs ts).map (slkφ n)) (fun a ha => by
   obtain ⟨q, hq, rfl⟩ := List.mem_map.1 ha
   obtain ⟨k, hk⟩ := List.mem_iff_getElem?.1 hq
   obtain ⟨i, rfl⟩ := hmem k q hk
   have h12 := (rowI_ok hr i).2.1
   have e : (twOps i (rowI rs i).2.2).length = (rowI rs i).2.2.length := by simp [twOps]
   show (twOps i (rowI rs i).2.2).length * (n + 4) - 0 ≤ 240
   rw [e]
   have := Nat.mul_le_mul h12 (show n + 4 ≤ 20 by omega)
   omega)
  rw [List.length_map, hlen] at this
  have h3 := Nat.mul_le_mul_left 240 h6
  omega
def twPI (p : PS ((twG mb wb rb n).g (sAddr r) (n + 1) (sK r n))) : Prop := SlkI (twD n) (fun _ => True) twJ p.tr.length p.s p.qs ∧ p.tr.length ≤ 16384
theorem tw_plays {RoS : HProp} (h1 : 1 ≤ n) (h2 : n ≤ 16) (hr : ThsI L a0 rs) (h6 : ts.length ≤ 6) (o : List Int) :
  (∀ (p : PS ((twG mb wb rb n).g (sAddr r) (n + 1) (sK r n))) k, twPI p → twPI (takeF p k).1) ∧ twPI (wb := wb) (rb := rb) (r := r) (n := n) (mb := mb) ⟨(startF (twthrs t8 t7 t10 wb rb r n mb RoS rs ts) (show ((twG mb wb rb n).g (sAddr r) (n + 1) (sK r n)).σ from twS0)).1, (startF (twthrs t8 t7 t10 wb rb r n mb RoS rs ts) (show ((twG mb wb rb n).g (sAddr r) (n + 1) (sK r n)).σ from twS0)).2, []⟩ ∧
  twPI (playF (twthrs t8 t7 t10 wb rb r n mb RoS rs ts) (show ((twG mb wb rb n).g (sAddr r) (n + 1) (sK r n)).σ from twS0) o) ∧ cutN ((twG mb wb rb n).g (sAddr r) (n + 1) (sK r n)) (playF (twthrs t8 t7 t10 wb rb r n mb RoS rs ts) (show ((twG mb wb rb n).g (sAddr r) (n + 1) (sK r n)).σ from twS0) o).qs (twthrs t8 t7 t10 wb rb r n mb RoS rs ts).length = [] := by
 have hs : ∀ (p : PS ((twG mb wb rb n).g (sAddr r) (n + 1) (sK r n))) k, twPI p → twPI (takeF p k).1 ∧ ((takeF p k).2 = true → sumN ((show List (SlkQ Unit) from (takeF p k).1.qs).map (slkφ n)) + 1 ≤ sumN ((show List (SlkQ Unit) from p.qs).map (slkφ n))) := fun p k h => by
  rcases takeF_cases p k with e | ⟨m, q, mk, f, _, hq, hp, h16, e⟩
  ·rw [e]; exact ⟨h, fun h => by cases h⟩
  ·rw [e]
   obtain ⟨h, hle⟩ := h
   obtain ⟨a, b⟩ := tw_step h1 (by omega) h hq hp
   refine ⟨⟨?_, ?_⟩, fun _ => b⟩
   ·show SlkI (twD n) (fun _ => True) twJ (p.tr ++ [(m, mk)]).length _ _
    rw [List.length_append]; exact a
   ·show (p.tr ++ [(m, mk)]).length ≤ 16384
    simp; omega
 obtain ⟨i0, f0⟩ := tw_I0 (n := n) hr h2 h6
 have hI0 : twPI (wb := wb) (rb := rb) (r := r) (n := n) (mb := mb) ⟨(startF (twthrs t8 t7 t10 wb rb r n mb RoS rs ts) (show ((twG mb wb rb n).g (sAddr r) (n + 1) (sK r n)).σ from twS0)).1, (startF (twthrs t8 t7 t10 wb rb r n mb RoS rs ts) (show ((twG mb wb rb n).g (sAddr r) (n + 1) (sK r n)).σ from twS0)).2, []⟩ := by
  rw [twthrs_start]; exact ⟨i0, Nat.zero_le _⟩
 obtain ⟨hI, htr, hdone⟩ := play_ends (I := twPI) (Φ := fun p => sumN ((show List (SlkQ Unit) from p.qs).map (slkφ n))) (ts := twthrs t8 t7 t10 wb rb r n mb RoS rs ts) (s := (show ((twG mb wb rb n).g (sAddr r) (n + 1) (sK r n)).σ from twS0)) (o := o) (n := 1440) (fun p k h => (hs p k h).1) (fun p k h => (hs p k h).2) hI0 (by rw [twthrs_start]; exact f0) (by omega)
 exact ⟨fun p k h => (hs p k h).1, hI0, hI, cutN_nil hdone⟩
end
end
end Go.Proofs.Ytaeegnfbofagcaa
namespace Go.Proofs.Ytaeegnfbofagcaa
open Go Go.PB
attribute [local irreducible] Mo Bin Eql Tr Wo Ap Wle
attribute [local instance] Pass.of_no
section
theorem rd_liftB {L : List HProp} : ∀ (M : List HProp) {b o : Nat} {v : Value}, Rd L b o v → Rd (M ++ L) b o v
 | [], b, o, v, h => h
 | c :: M, b, o, v, h => .there (rd_liftB M h)
theorem rdso_liftB {L : List HProp} (M : List HProp) {a : Option Addr} {n : Nat} {vs : List Value} (h : RdsO L a n vs) : RdsO (M ++ L) a n vs :=
 ⟨h.1, h.2.imp id fun ⟨b, o, e, r⟩ => ⟨b, o, e, fun i v hi => rd_liftB M (r i v hi)⟩⟩
theorem mo_sliceHdB {P : Program} {e : Env} {ty : TypeId} {L : List HProp} {t el sz n c u : Nat} {a : Option Addr} {k : IntKind} {j : Int} {o hi : Operand} [p : SlT P t el] [s : Siz P el sz] (hx : ev e o = some (.slice a n c)) (hh : ev e hi = some (.int k j)) (hj : j = (u : Nat)) (hu : u ≤ c) :
  Mo P e (.slice t o none (some hi) none) ty L fun v' L' => v' = .slice a u c ∧ L' = L := by
 have h := mo_slice (P := P) (e := e) (ty := ty) (L := L) (t := t) (l := 0) (u := u) hx .no (.yes hh hj) (Nat.zero_le _) hu
 have e1 : (if c = 0 then a else a.map (·.add (0 * sz))) = a := by
  split
  ·rfl
  ·cases a with
   | none => rfl
   | some y => simp [Addr.add]
 rw [e1] at h
 exact h
section
variable {B : Hand} [Lets B] {x : B.X} {L F : List HProp}
theorem tord_rd {c : HProp} {a : Option Addr} {l : List Int} {m : Nat} (hr : RdsO L a l.length (intV l)) (hm : (l.take 4096).length = m) : m = 0 ∨ ∃ b o, a = some ⟨b, o, none⟩ ∧ Rds (c :: L) b o (intV (l.take 4096)) := by
 rcases hr.2 with h0 | ⟨b, o, e, r⟩
 ·left; rw [List.length_take] at hm; omega
 ·right
  refine ⟨b, o, e, fun i v hi => .there (r i v ?_)⟩
  rw [List.getElem?_map, List.getElem?_take] at hi
  split at hi
  ·rw [List.getElem?_map]; exact hi
  ·cases hi
theorem torder_tr {a : Option Addr} {c : Nat} {l : List Int} (hr : RdsO L a l.length (intV l)) (hc : l.length ≤ c) (hb : l.length ≤ 9223372036854775807) :
  Tr Try.prog B 14 [.slice a l.length c] L x fun v L' x' => L' = vec 1 v (intV (l.take 4096)) :: L ∧ x' = x := by
 refine Tr.post (R := fun v L' x' => x' = x ∧ ∀ h, Star L' h → Star (vec 1 v (intV (l.take 4096)) :: L) h) ?_ (by rintro v L' x' ⟨rfl, h2⟩; exact ⟨_, ⟨rfl, rfl⟩, h2⟩)
 refine tr_of_body Try.func14 rfl Try.ntmps14 (by simp) fun um Q _ hQ => ?_
 simp only [argE, Nat.zero_add, Nat.reduceAdd]
 obtain ⟨m, hm⟩ : ∃ m, (l.take 4096).length = m := ⟨_, rfl⟩
 have hm' := hm
 rw [List.length_take] at hm'
 repeat (first | (apply wo_mo; apply mo_buildSlice (sz := 1) (vs := []); exact rfl; exact .nil; exact rfl; (intro v hv; cases hv); omega; exact trivial) | refine we_seq ?_ | (refine wR ?_; try simp only [oS]) | refine wo_nil ?_ | refine wA ?_)
 rintro v' L' ⟨nb, rfl, rfl⟩
 refine wo_star (vec 1 (.slice (some ⟨nb, 0, none⟩) 0 0) [] :: L) (fun h st => vec_new rfl st) ?_
 repeat (first | (apply wo_po; apply mo_min; exact rfl; exact rfl; exact trivial) | (apply wo_po; apply mo_sliceHdB (u := m); exact rfl; exact rfl; omega; omega; exact trivial) | (apply wo_mo; apply mo_append (sz := 1) (new := intV (l.take 4096)); exact rfl; exact rfl; exact rfl; exact rfl; exact .here; (rw [List.length_map]; omega); (exact tord_rd hr hm); (intro v hv; obtain ⟨k, _, rfl⟩ := List.mem_map.1 hv; rfl); (simp only [sliceLen]; omega); exact trivial) | refine wM ?_ | refine wE ?_)
 rintro v' L' rfl
 repeat (first | refine wo_nil ?_ | refine wA ?_ | refine we_ret ?_)
 (first | refine or1 Try.func14 Try.results14 hQ rfl ?_ | refine on1 Try.func14 Try.results14 hQ rfl ?_)
 exact ⟨rfl, fun h st => st⟩
end
def twOut (t7 t8 t10 wb rb : Nat) (av ov : Value) (rs : List RowI) (R : List HProp) : PB.Inv (Nat × Value × List (Nat × Nat) × Nat) MX where
 e := fun i => [(1, av), (2, ov), (7, .pointer (some ⟨t7, 0, none⟩)), (8, .pointer (some ⟨t8, 0, none⟩)), (10, .pointer (some ⟨t10, 0, none⟩)), (11, .pointer (some ⟨wb, 0, none⟩)), (12, .pointer (some ⟨rb, 0, none⟩)), (13, i.2.1), (14, .pointer (some ⟨i.2.2.2, 0, none⟩))]
 L := fun i => vec 1 i.2.1 (i.2.2.1.map fun b => twF b.1 b.2 t8 t7 t10 wb rb) :: all (bxW rs i.2.2.1) :: arr i.2.2.2 0 [.int .i64 (i.1 : Nat)] :: R
 x := fun _ => .idle
 ok := fun i => i.1 ≤ rs.length ∧ i.1 ≤ 6 ∧ i.2.2.1.length = i.1
def twRd (t10 : Nat) (v : Value) (n : Nat) (R : List HProp) : PB.Inv Nat MX where
 e := fun i => [(10, .pointer (some ⟨t10, 0, none⟩)), (85, v), (86, .int .i64 (n : Nat)), (87, .int .i64 (i : Nat))]
 L := fun _ => R
 x := fun _ => .idle
 ok := fun i => i ≤ n
set_option maxHeartbeats 4000000 in
theorem twhole_tr {L : List HProp} {words : Int} {ta oa : Option Addr} {tc oc : Nat} {rs : List RowI} {order : List Int} (hL : Dup (all L)) (hw : -9223372036854775808 ≤ words ∧ words ≤ 9223372036854775807) (hr0 : ThsI L ta rs) (hro : RdsO L oa order.length (intV order)) (hoc : order.length ≤ oc) (hob : oc ≤ 9223372036854775807) :
  Tr Try.prog mT 3 [.int .i64 words, .slice ta rs.length tc, .slice oa order.length oc] L .idle fun v L' x' => v = .bool true ∧ x' = .idle := by
 have e16 := Int.emod_nonneg words (by decide : (16 : Int) ≠ 0)
 have e16' := Int.emod_lt_of_pos words (by decide : (0 : Int) < 16)
 obtain ⟨n, hn⟩ : ∃ n : Nat, 1 + words % 16 = n := ⟨(1 + words % 16).toNat, by omega⟩
 have hw0 : IntKind.i64.wrap (1 + words % 16) = n := by rw [hn]; exact wrap_i64 (by omega) (by omega)
 have h1 : 1 ≤ n := by omega
 have h2 : n ≤ 16 := by omega
 refine tr_of_body Try.func3 rfl Try.ntmps3 (by simp) fun um Q _ hQ => ?_
 simp only [argE, Nat.zero_add, Nat.reduceAdd]
 repeat (first | refine we_seq ?_ | (refine wR ?_; try simp only [oS]) | refine wo_nil ?_ | refine wM ?_ | refine wA ?_)
 refine wo_call (.cons rfl (.cons rfl .nil)) trivial (twithin_tr hw (by omega)) ?_
 rintro v1 L1 x1 ⟨rfl, hL1, rfl⟩
 rw [hL1]
 clear hL1
 repeat (first | (apply wo_po; apply mo_bin; exact rfl; exact rfl; apply bin_add; exact hw0; exact trivial) | (apply wo_mo; apply mo_alloc; exact trivial))
 rintro v' L' ⟨t7, rfl, rfl⟩
 repeat (first | refine wS ?_ | (apply wo_mo; apply mo_make; exact rfl; exact rfl; exact rfl; omega; omega; exact trivial) | refine we_seq ?_ | (refine wR ?_; try simp only [oS]) | refine wo_nil ?_ | refine wL ?_)
 rintro v' L' ⟨zb, rfl, rfl⟩
 have hz : zeros n [.int .u64 0] = (List.replicate n 0).map num := by
  apply List.ext_getElem?
  intro i
  by_cases hi : i < n
  ·rw [zeros_one hi]; simp [List.getElem?_replicate, hi]; rfl
  ·rw [List.getElem?_eq_none (by simp [zeros]; omega), List.getElem?_eq_none (by simp; omega)]
 refine wo_ent (arr zb 0 ((List.replicate n 0).map num) :: arr t7 0 [.int .i64 (n : Nat)] :: L) (ent_eq (by rw [← hz]; rfl)) ?_
 skip
 refine wo_call (.cons rfl .nil) trivial (snew_tr (n := n) (ws := List.replicate n 0) h1 h2 (by simp) (fun w hw => by obtain ⟨_, rfl⟩ := List.mem_replicate.1 hw; decide) ⟨by simp, .inr ⟨_, _, rfl, Rds.all .here⟩⟩) ?_
 rintro v' L' x' ⟨r, rfl, rfl, rfl⟩
 repeat (first | (apply wo_mo; apply mo_alloc; exact trivial) | refine wM ?_ | (apply wo_po; apply mo_extract; exact rfl; exact rfl; exact gY))
 rintro v' L' ⟨t8, rfl, rfl⟩
 repeat (first | refine wS ?_ | refine wneqF ?_ | refine we_seq ?_ | (refine wR ?_; try simp only [oS]) | refine wo_nil ?_ | refine wM ?_ | refine wA ?_)
 refine wo_call .nil rfl wrote_tr ?_
 rintro v1 L1 x1 ⟨rfl, rfl, rfl⟩
 repeat (first | (apply wo_mo; apply (mo_makeMap .u64); exact trivial) | refine we_seq ?_ | (refine wR ?_; try simp only [oS]) | refine wo_nil ?_ | refine wJ ?_ | (apply wo_po; apply mo_not; exact rfl; exact gY) | refine wF ?_ | refine we_skip ?_)
 rintro v' L' ⟨mb, rfl, rfl⟩
 repeat (first | (apply wo_pm; apply mo_mapInsert (ki := .u64) (k := 0) (l := []); exact rfl; exact rfl; exact rfl; exact .here; exact trivial) | (apply wo_mo; apply mo_alloc; exact trivial) | refine wM ?_)
 rintro v' L' ⟨t10, rfl, rfl⟩
 repeat (first | refine wS ?_ | (apply wo_mo; apply mo_alloc; exact trivial) | refine we_seq ?_ | (refine wR ?_; try simp only [oS]) | refine wo_nil ?_)
 rintro v' L' ⟨wb, rfl, rfl⟩
 repeat (first | refine wS ?_ | (apply wo_mo; apply mo_alloc; exact trivial) | refine we_seq ?_ | (refine wR ?_; try simp only [oS]) | refine wo_nil ?_)
 rintro v' L' ⟨rb, rfl, rfl⟩
 repeat (first | (apply wo_mo; apply mo_alloc; exact trivial) | refine we_seq ?_ | (refine wR ?_; try simp only [oS]) | refine wo_nil ?_ | refine wA ?_)
 rintro v' L' ⟨kb, rfl, rfl⟩
 repeat (first | refine wS ?_ | refine wo_nil ?_ | refine we_block ?_)
 obtain ⟨R, hR⟩ : ∃ R, R = arr rb 0 [.slice none 0 0] :: arr wb 0 [.bool false] :: arr t10 0 [.map (some mb)] :: mapC .u64 mb (wl 0 [0]) :: arr t8 0 [.pointer (some ⟨r, 0, none⟩)] :: sC r n (recF (List.replicate n 0) 0) :: arr zb 0 ((List.replicate n 0).map num) :: arr t7 0 [.int .i64 (n : Nat)] :: L := ⟨_, rfl⟩
 refine we_star ((twOut t7 t8 t10 wb rb (.slice ta rs.length tc) (.slice oa order.length oc) rs R).L (0, .slice none 0 0, [], kb)) (fun h st => ?_) ?_
 ·have s1 : Star (all [] :: arr kb 0 [.int .i64 0] :: R) h := star_shut (M := []) (by rw [hR]; exact st)
  exact vec_nil s1
 refine we_loopN (twOut t7 t8 t10 wb rb (.slice ta rs.length tc) (.slice oa order.length oc) rs R) (fun i => rs.length - i.1) (0, .slice none 0 0, [], kb) ⟨Nat.zero_le _, Nat.zero_le _, rfl⟩ ⟨rfl, rfl, rfl, rfl, rfl, rfl, rfl, rfl, rfl, trivial⟩ .refl rfl ?_
 clear kb
 rintro ⟨i, tv, ts, kb⟩ ⟨hi, hi6, hts⟩
 dsimp only at hi hi6 hts
 simp only [twOut]
 refine we_pure (of_has .here (vec_shape (by omega))) ?_
 rintro ⟨tva, tvn, tvc, rfl, htvn, _, htz, hty⟩
 have htvn : tvn = i := by simp at htvn; omega
 subst htvn
 by_cases hgo : tvn < rs.length ∧ tvn < 6
 ·obtain ⟨hlt, h6⟩ := hgo
  obtain ⟨y, hy⟩ : ∃ y, rs[tvn]? = some y := ⟨rs[tvn], List.getElem?_eq_getElem hlt⟩
  obtain ⟨b, o, rfl, hrd, hdo, hcap, _⟩ := hr0 tvn y hy
  obtain ⟨ya, yc, yl⟩ := y
  simp only [rvI] at hrd hcap
  have hrk : ∀ {c d e : HProp}, Rd (c :: d :: e :: R) b (o + tvn) (.slice ya yl.length yc) := by
   intro c d e
   rw [hR]
   exact rd_liftB [_, _, _, _, _, _, _, _, _, _, _] hrd
  have hkk : ∀ {c d : HProp}, Rd (c :: d :: arr kb 0 [.int .i64 (tvn : Nat)] :: R) kb 0 (.int .i64 (tvn : Nat)) := .there (.there (.row0 rfl))
  obtain ⟨m, hm⟩ : ∃ m, (yl.take 12).length = m := ⟨_, rfl⟩
  have hm' := hm
  rw [List.length_take] at hm'
  have hrow : rvI (rowI rs tvn) = .slice ya m yc := by unfold rowI; rw [hy]; show Value.slice ya (yl.take 12).length yc = _; rw [hm]
  repeat (first | (apply wo_po; apply mo_load; exact rfl; exact hkk; exact gY) | refine wlssT ?_ | refine we_seq ?_ | (refine wR ?_; try simp only [oS]) | refine wo_nil ?_ | refine wM ?_ | refine wK ?_ | refine wE ?_ | refine wT ?_ | refine we_skip ?_ | refine we_block ?_)
  refine we_draw (List.range' 0 13) (by kernel_rfl) ?_
  repeat (first | (apply ap_pure; exact rfl; exact rfl; exact trivial; intro L; apply mo_index1; exact rfl; exact rfl; omega) | (apply ap_read; exact rfl; exact rfl; exact trivial; apply mo_load; exact rfl; exact hrk) | (apply ap_read; exact rfl; exact rfl; exact trivial; apply mo_load; exact rfl; exact hkk) | (apply ap_pure; exact rfl; exact rfl; exact trivial; intro L; apply mo_min; exact rfl; exact rfl) | (apply ap_pure; exact rfl; exact rfl; exact trivial; intro L; apply mo_sliceHdB (u := m); exact rfl; exact rfl; omega; omega) | refine aM ?_ | (apply ap_pure; exact rfl; exact rfl; exact gY; intro L; apply mo_len; exact rfl))
  refine ap_loudR rfl rfl rfl rfl trivial mo_alloc ?_ ?_
  ·rintro v' L' ⟨xb, rfl, rfl⟩ p hp
   replace hp := (List.mem_filter.1 hp).1
   simp only [List.mem_cons, List.not_mem_nil, or_false] at hp
   repeat (rcases hp with rfl | hp; · first | exact .inl rfl | exact .inr ⟨_, rfl, trivial, mo_load rfl (.there hrk)⟩ | exact .inr ⟨_, rfl, trivial, mo_load rfl (.there hkk)⟩)
   all_goals (subst hp; first | exact .inl rfl | exact .inr ⟨_, rfl, trivial, mo_load rfl (.there hrk)⟩ | exact .inr ⟨_, rfl, trivial, mo_load rfl (.there hkk)⟩)
  rintro v' L' ⟨xb, rfl, rfl⟩
  skip
  refine ap_loud rfl rfl rfl rfl rfl trivial (mo_store rfl rfl rfl (Wt.row0 (k := 0) (vs := [.slice none 0 0]) .here (Nat.lt_succ_self 0))) ?_
  rintro v' L' ⟨rfl, rfl⟩
  repeat (first | refine ap_end ?_)
  repeat (first | (apply wo_po; apply mo_makeFunc (first := []) (cap := [_, _, _, _, _, _, _]) (vf := []); exact .nil; exact .cons rfl (.cons rfl (.cons rfl (.cons rfl (.cons rfl (.cons rfl (.cons rfl .nil)))))); exact trivial) | (apply wo_mo; apply mo_buildSlice (sz := 1) (vs := [twF xb kb t8 t7 t10 wb rb]); exact rfl; exact .cons rfl .nil; exact rfl; (intro v hv; cases (List.mem_singleton.1 hv); exact rfl); omega; exact trivial) | (refine wR ?_; try simp only [oS]) | refine wM ?_)
  rintro v' L' ⟨nb2, rfl, rfl⟩
  repeat (first | (apply wo_mo; apply mo_append (sz := 1) (new := [twF xb kb t8 t7 t10 wb rb]); exact rfl; exact rfl; exact rfl; exact rfl; exact (.there (.there .here)); exact rfl; exact .inr ⟨_, _, rfl, Rds.all .here⟩; (intro v hv; cases (List.mem_singleton.1 hv); exact rfl); (simp only [sliceLen]; omega); exact trivial))
  rintro v2 L' rfl
  repeat (first | (apply wo_mo; apply mo_alloc; exact trivial) | refine we_seq ?_ | (refine wR ?_; try simp only [oS]) | refine wo_nil ?_ | refine wA ?_ | refine wL ?_)
  rintro v' L' ⟨kb2, rfl, rfl⟩
  repeat (first | refine wS ?_ | (refine wR ?_; try simp only [oS]) | refine wo_nil ?_ | refine wL ?_ | refine wadd ?_)
  refine at_roundS (B := mT) (I := twOut t7 t8 t10 wb rb (.slice (some ⟨b, o, none⟩) rs.length tc) (.slice oa order.length oc) rs R) (R := fun q => rs.length - q.1 < rs.length - tvn) (tvn + 1, v2, ts ++ [(xb, kb)], kb2) (by show rs.length - (tvn + 1) < rs.length - tvn; omega) ⟨by show tvn + 1 ≤ rs.length; omega, by show tvn + 1 ≤ 6; omega, by simp [hts]⟩ ?_ (fun hp st => ?_) rfl
  ·exact ⟨rfl, rfl, rfl, rfl, rfl, rfl, rfl, rfl, rfl, trivial⟩
  ·have s0 : Star (all [arr xb 0 [.slice ya m yc], arr kb 0 [.int .i64 (tvn : Nat)]] :: all (bxW rs ts) :: _) hp := star_shut (M := [_, _]) (Ent.star (.take (.there (.there (.there .here))) (.take (.there (.there (.there (.there .here)))) (.take (.there (.there (.there .here))) (.take .here (.take .here (.drop .refl)))))) st)
   have s1 := star_open (Ent.star (.take (.there .here) (.take .here .refl)) s0)
   have s2 : Star (all (bxW rs (ts ++ [(xb, kb)])) :: _) hp := star_shut (by
    rw [bxW_snoc, List.append_assoc, hts, hrow]
    exact s1)
   have e1 : (ts ++ [(xb, kb)]).map (fun b => twF b.1 b.2 t8 t7 t10 wb rb) = ts.map (fun b => twF b.1 b.2 t8 t7 t10 wb rb) ++ [twF xb kb t8 t7 t10 wb rb] := by rw [List.map_append]; rfl
   show Star (vec 1 v2 ((ts ++ [(xb, kb)]).map fun b => twF b.1 b.2 t8 t7 t10 wb rb) :: _) hp
   rw [e1]
   exact Ent.star (.take (.there (.there .here)) (.take .here (.take .here .refl))) s2
 have hend : ¬ (tvn < rs.length ∧ tvn < 6) := hgo
 clear hgo
 by_cases h0 : tvn = 0
 ·subst h0
  have hrs0 : rs.length = 0 := by omega
  repeat (first | refine wlssF ?_ | refine weqlT ?_ | refine we_seq ?_ | (refine wR ?_; try simp only [oS]) | refine wo_nil ?_ | refine wM ?_ | refine wA ?_ | (apply wo_no; exact rfl) | refine wJ ?_ | refine wL ?_ | refine wE ?_ | refine wT ?_ | refine wF ?_ | refine we_ret ?_ | refine we_exit ?_)
  (first | refine or1 Try.func3 Try.results3 hQ rfl ?_ | refine on1 Try.func3 Try.results3 hQ rfl ?_)
  exact ⟨rfl, rfl⟩
 rw [hR]
 have h6 : ts.length ≤ 6 := by omega
 by_cases hv : tvn < rs.length
 all_goals
  repeat (first | refine wlssT ?_ | refine wlssF ?_ | refine weqlF ?_ | refine we_seq ?_ | (refine wR ?_; try simp only [oS]) | refine wo_nil ?_ | refine wM ?_ | (apply wo_no; exact rfl) | refine wK ?_ | refine wJ ?_ | refine wL ?_ | refine wE ?_ | refine wF ?_ | refine we_skip ?_ | refine we_exit ?_)
  refine wo_call (.cons rfl .nil) trivial (torder_tr (rdso_liftB [_, _, _, _, _, _, _, _, _, _, _] hro) hoc (by omega)) ?_
  rintro odv L1 x1 ⟨rfl, rfl⟩
  refine wo_pure (of_has .here (vec_shape (by omega))) ?_
  rintro ⟨oda, odn, odc, rfl, hodn, _, hodz, hody⟩
  have hol : (order.take 4096).length ≤ 4096 := by simp only [List.length_take]; omega
  obtain rfl : odn = (order.take 4096).length := by simp only [List.length_map] at hodn; omega
  repeat (first | refine wM ?_)
  refine wo_frz (b := t7) (o := 0) (.there (.there (.there (.there (.there (.there (.there (.there (.there (.there (.there .here))))))))))) ?_
  refine wo_frz (b := t8) (o := 0) (.there (.there (.there (.there (.there (.there (.there (.there (.there .here))))))))) ?_
  refine wo_frz (b := t10) (o := 0) (.there (.there (.there (.there (.there (.there (.there (.there .here)))))))) ?_
  have hRoS : Dup (twRoS t8 t7 t10 r n mb L) := dup_all (by
   intro c hc
   simp only [List.mem_cons, List.not_mem_nil, or_false] at hc
   rcases hc with rfl | rfl | rfl | rfl
   ·exact dup_fro
   ·exact dup_fro
   ·exact dup_fro
   ·exact hL)
  obtain ⟨hIs, hI0, hI, hcut⟩ := tw_plays (t8 := t8) (t7 := t7) (t10 := t10) (wb := wb) (rb := rb) (r := r) (n := n) (mb := mb) (ts := ts) (RoS := twRoS t8 t7 t10 r n mb L) h1 h2 hr0 h6 (order.take 4096)
  have hlen : (twthrs t8 t7 t10 wb rb r n mb (twRoS t8 t7 t10 r n mb L) rs ts).length = tvn := by rw [← hts]; simp [twthrs]
  refine wo_star (all [wds (sAddr r) (n + 1) (sK r n) (slkW (twD n) twS0), twZ mb wb rb twS0.z] :: all ((twthrs t8 t7 t10 wb rb r n mb (twRoS t8 t7 t10 r n mb L) rs ts).map Thr.M) :: twRoS t8 t7 t10 r n mb L :: vec 1 (.slice oda (order.take 4096).length odc) (intV (order.take 4096)) :: vec 1 (.slice tva tvn tvc) (ts.map fun b => twF b.1 b.2 t8 t7 t10 wb rb) :: []) (fun h st => ?_) ?_
  ·have s1 := star_tail (M := [_, _, _, _, _, _, _, _, _, _, _, _]) st
   have s2 : Star (twRoS t8 t7 t10 r n mb L :: _) h := star_shut (M := [_, _, _, _]) (Ent.star (.take (.there (.there .here)) (.take (.there (.there .here)) (.take (.there .here) (.take .here .refl)))) s1)
   have s4 := dealW hRoS (Ent.star (.take .here (.take (.there (.there .here)) .refl)) s2)
   rw [twthrs_M]
   have s5 : Star (vec 2 (.slice none 0 0) [] :: _) h := vec_nil (Ent.star (.take .here .refl) s4)
   have s6 : Star (twZ mb wb rb twS0.z :: _) h := star_wt (Ent.star (.take (.there (.there (.there (.there (.there (.there (.there (.there .here)))))))) (.take (.there (.there (.there (.there (.there (.there (.there .here))))))) (.take (.there (.there (.there (.there (.there (.there .here)))))) (.take .here .refl)))) s5)
   have s7 : Star (wds (sAddr r) (n + 1) (sK r n) (slkW (twD n) twS0) :: _) h := star_map (Ent.star (.take (.there (.there (.there (.there (.there (.there .here)))))) (.take .here .refl)) s6) (sC_congr fun j hj => by
    unfold recF slkW
    by_cases h0 : j = 0
    ·rw [if_pos h0, if_pos h0]; rfl
    ·rw [if_neg h0, if_neg h0, List.getD_eq_getElem?_getD, List.getElem?_replicate]
     split <;> rfl) fun _ z => z
   have s8 := star_shut (M := [_, _]) s7
   exact Ent.star (.take .here (.take .here (.take .here (.take .here (.take .here (.drop (.drop .refl))))))) s8
  skip
  refine wo_call (.cons rfl (.cons rfl .nil)) trivial (plays_tr (g := (twG mb wb rb n).g (sAddr r) (n + 1) (sK r n)) (ts := twthrs t8 t7 t10 wb rb r n mb (twRoS t8 t7 t10 r n mb L) rs ts) (s0 := twS0) (order := order.take 4096) twPI (fun j hj => by
    have e : (startF ((twthrs t8 t7 t10 wb rb r n mb (twRoS t8 t7 t10 r n mb L) rs ts).take j) (show ((twG mb wb rb n).g (sAddr r) (n + 1) (sK r n)).σ from twS0)).1 = twS0 := by rw [startF_qsW fun t ht => twthrs_ini t (List.mem_of_mem_take ht)]
    rw [e]; exact ⟨rfl, Nat.zero_le _⟩) hI0 hIs (fun p h h16 => ⟨h.1.J.2.1, Nat.le_trans h.1.J.2.2.1 (by omega)⟩) (fun _ _ z => z) (twthrs_ok h1 h2 h6 hr0) (by omega) (by omega) (by omega)
    (by rw [twthrs_fv]; exact rdsoV (.there (.there .here)) (by simp [hts]) htz hty) (rdsoV (.there .here) (by simp) hodz hody)) ?_
  rintro v1 L1 x1 ⟨tv2, cv2, rfl, rfl, rfl⟩
  rw [hcut]
  generalize playF (twthrs t8 t7 t10 wb rb r n mb (twRoS t8 t7 t10 r n mb L) rs ts) (show ((twG mb wb rb n).g (sAddr r) (n + 1) (sK r n)).σ from twS0) (order.take 4096) = p at hI hcut ⊢
  obtain ⟨xs, hxs⟩ : ∃ xs, (show SlkS TwZ from p.s).xs = xs := ⟨_, rfl⟩
  obtain ⟨z, hz⟩ : ∃ z, (show SlkS TwZ from p.s).z = z := ⟨_, rfl⟩
  have hJ : twJ p.tr.length xs z [] := by
   have := hI.1.J
   rw [← hxs, ← hz]; exact this
  have htrl : p.tr.length ≤ 16384 := hI.2
  obtain ⟨zm, zw, zr⟩ := z
  obtain ⟨j1, j2, j3, j4⟩ := hJ
  simp only at j1 j2 j3 j4
  subst j1; subst j2
  refine wo_pure (of_has (.there .here) (vec_shape (by omega))) ?_
  rintro ⟨a2, n2, c2, rfl, hn2, _, _⟩
  obtain rfl : n2 = 0 := by simp [cutC] at hn2; omega
  refine wo_pure (of_has .here (vec_shape (by omega))) ?_
  rintro ⟨a1, n1, c1, rfl, _⟩
  refine wo_star ((fun h => ∃ rv : Value, all [mapC .u64 mb (wl 0 xs), arr wb 0 [.bool false], arr rb 0 [rv], vec 2 rv (zr.map twE).flatten] h) :: twRoS t8 t7 t10 r n mb L :: []) (fun h st => ?_) ?_
  ·have s4 : Star (wds (sAddr r) (n + 1) (sK r n) (slkW (twD n) p.s) :: twZ mb wb rb (show SlkS TwZ from p.s).z :: _) h := star_open (M := [_, _]) (Ent.star (.take (.there (.there .here)) .refl) st)
   rw [hz] at s4
   exact Ent.star (.take (.there .here) (.take (.there (.there (.there (.there .here)))) (.drop (.drop (.drop (.drop (.drop (.drop .refl)))))))) s4
  refine wo_ex (c := fun (rv : Value) h => all [mapC .u64 mb (wl 0 xs), arr wb 0 [.bool false], arr rb 0 [rv], vec 2 rv (zr.map twE).flatten] h) .here fun rv => ?_
  refine wo_star (arr rb 0 [rv] :: arr wb 0 [.bool false] :: mapC .u64 mb (wl 0 xs) :: vec 2 rv (zr.map twE).flatten :: twRoS t8 t7 t10 r n mb L :: []) (fun h st => Ent.star (.take (.there (.there .here)) (.take (.there .here) (.take .here .refl))) (star_open (M := [_, _, _, _]) st)) ?_
  refine wo_pure (of_has (.there (.there (.there .here))) (vec_shape (by omega))) ?_
  rintro ⟨va, vn, vc, rfl, hvn, _, hvz, hvy⟩
  have hvn' : vn = zr.length := by rw [flat_len (k := 2) (fun _ => rfl)] at hvn; omega
  subst hvn'
  repeat (first | (apply wo_mo; apply mo_alloc; exact trivial) | refine wM ?_ | (apply wo_po; apply mo_extract; exact rfl; exact rfl; exact gY))
  rintro v' L' ⟨pb3, rfl, rfl⟩
  repeat (first | (apply wo_pm; apply mo_storeA (c := 0) (k := 0) (a := 0) (vs := [.slice none 0 0, .slice none 0 0]); exact rfl; exact rfl; exact rfl; (intro w hw; simp [Value.cells] at hw; rcases hw with rfl | rfl <;> rfl); exact rfl; exact Nat.le_refl 2; exact .here; exact trivial) | refine wgtrF ?_ | refine wneqF ?_ | refine we_seq ?_ | (refine wR ?_; try simp only [oS]) | refine wo_nil ?_ | refine wM ?_ | refine wA ?_ | refine wJ ?_ | refine wD ?_ | refine wL ?_ | refine wE ?_ | refine wF ?_ | refine we_skip ?_ | refine we_block ?_)
  obtain ⟨LL, hLL⟩ : ∃ LL, LL = arr rb 0 [.slice va zr.length vc] :: mapC .u64 mb (wl 0 xs) :: vec 2 (.slice va zr.length vc) (zr.map twE).flatten :: twRoS t8 t7 t10 r n mb L :: [] := ⟨_, rfl⟩
  refine we_star ((twRd t10 (.slice va zr.length vc) zr.length LL).L 0) (fun h st => by rw [hLL]; exact Ent.star (.take (.there .here) (.take (.there (.there .here)) (.take (.there (.there .here)) (.take (.there (.there .here)) (.drop (.drop .refl)))))) st) ?_
  refine we_loopN (twRd t10 (.slice va zr.length vc) zr.length LL) (fun i => zr.length - i) 0 (Nat.zero_le _) ⟨rfl, rfl, rfl, rfl, trivial⟩ .refl rfl ?_
  intro i hil
  replace hil : i ≤ zr.length := hil
  simp only [twRd]
  by_cases hi2 : i < zr.length
  ·obtain ⟨y, hy⟩ : ∃ y, zr[i]? = some y := ⟨zr[i], List.getElem?_eq_getElem hi2⟩
   obtain ⟨j, hj1, hj2⟩ := j4 y (List.mem_of_getElem? hy)
   obtain ⟨y1, y2⟩ := y
   simp only at hj1 hj2
   obtain ⟨lb, lo, rfl⟩ : ∃ b o, va = some ⟨b, o, none⟩ := by
    cases va with
    | none => have := hvz rfl; omega
    | some y => exact ⟨y.block, y.off, by rw [hvy y rfl]⟩
   have ky : Rds LL lb (lo + 2 * i) [.int .u64 (y1 : Nat), .int .u64 (y2 : Nat)] := fun q v hq => by
    have h2 : q < 2 := (List.getElem?_eq_some_iff.1 hq).1
    rw [hLL]
    have := rd_vec (i := 2 * i + q) (v := v) (L := arr rb 0 [.slice (some ⟨lb, lo, none⟩) zr.length vc] :: mapC .u64 mb (wl 0 xs) :: vec 2 (.slice (some ⟨lb, lo, none⟩) zr.length vc) (zr.map twE).flatten :: twRoS t8 t7 t10 r n mb L :: []) (.there (.there .here)) (by rw [flat_get (k := 2) (fun _ => rfl) zr i q _ hy h2]; exact hq)
    rwa [← Nat.add_assoc] at this
   have k10 : ∀ {c : HProp}, Rd (c :: LL) t10 0 (.map (some mb)) := fun {c} => .there (by rw [hLL]; exact .there (.there (.there (rd_all (.there (.there (Rd.fro (k := 0) rfl rfl)))))))
   have hget : mGet (wl 0 xs) ((y2 : Nat) : Int) = some (num y1) := by
    have := wl_get xs 0 j
    rw [Nat.zero_add, ← hj2, hj1] at this
    exact this
   obtain ⟨LR, hmap⟩ : ∃ LR, ∀ {c : HProp}, Has (c :: LL) (mapC .u64 mb (wl 0 xs)) (c :: LR) := ⟨_, fun {c} => by rw [hLL]; exact (.there (.there .here))⟩
   repeat (first | (apply wo_po; apply mo_indexAddr (r := lo + 2 * i); exact rfl; exact rfl; omega; omega; omega; exact trivial) | (apply wo_po; apply mo_loadA (vs := [.int .u64 (y1 : Nat), .int .u64 (y2 : Nat)]); exact rfl; exact rfl; exact ky; exact trivial) | (apply wo_mo; apply mo_alloc; exact trivial) | refine wlssT ?_ | refine we_seq ?_ | (refine wR ?_; try simp only [oS]) | refine wo_nil ?_ | refine wT ?_ | refine we_skip ?_ | refine we_block ?_)
   rintro v' L' ⟨xb, rfl, rfl⟩
   repeat (first | (apply wo_pm; apply mo_storeA (c := 0) (k := 0) (a := 0) (vs := [.int .u64 0, .int .u64 0]); exact rfl; exact rfl; exact rfl; (intro w hw; simp [Value.cells] at hw; rcases hw with rfl | rfl <;> rfl); exact rfl; exact Nat.le_refl 2; exact .here; exact trivial) | (apply wo_po; apply mo_load; exact rfl; exact k10; exact trivial) | (apply wo_po; apply mo_lookup2 (ki := .u64) (k := ((y2 : Nat) : Int)) (l := wl 0 xs); exact rfl; exact rfl; exact hmap; exact trivial) | refine we_seq ?_ | (refine wR ?_; try simp only [oS]) | refine wo_nil ?_ | refine wM ?_ | refine wA ?_ | refine wD ?_ | (apply wo_po; apply mo_extract; exact rfl; exact rfl; exact gY) | (apply wo_po; apply mo_not; exact rfl; exact gY) | refine wL ?_)
   rw [hget]
   repeat (first | refine wneqF ?_ | (refine wR ?_; try simp only [oS]) | refine wo_nil ?_ | refine wM ?_ | refine wJ ?_ | refine wD ?_ | refine wL ?_ | refine wadd ?_ | refine wF ?_ | refine we_skip ?_)
   refine at_roundS (B := mT) (I := twRd t10 (.slice (some ⟨lb, lo, none⟩) zr.length vc) zr.length LL) (R := fun q => zr.length - q < zr.length - i) (i + 1) (by show zr.length - (i + 1) < zr.length - i; omega) (by show i + 1 ≤ zr.length; omega) ⟨rfl, rfl, rfl, rfl, trivial⟩ (fun hp st => Ent.star (.drop .refl) st) rfl
  ·obtain rfl : i = zr.length := by omega
   repeat (first | refine wlssF ?_ | refine we_seq ?_ | (refine wR ?_; try simp only [oS]) | refine wo_nil ?_ | refine wA ?_ | refine wF ?_ | refine we_ret ?_ | refine we_exit ?_)
   (first | refine or1 Try.func3 Try.results3 hQ rfl ?_ | refine on1 Try.func3 Try.results3 hQ rfl ?_)
   exact ⟨rfl, rfl⟩
end
end Go.Proofs.Ytaeegnfbofagcaa
namespace Go.PB
open Go.Conc Go.Conc.Lib Go.ConcR.Gen
open Go.ConcR (KK stA smA rd wr mk DC0)
def WgAt (ty : TypeId) (wg : Nat) (w : World) (st sm : Int) : Prop := ∃ f : Nat × Nat, w.heap[wg]? = some (.cells #[.int .u64 st, .int .u32 sm] ty f) ∧ w.frozen? ⟨wg, 0, none⟩ = false ∧ w.frozen? ⟨wg, 1, none⟩ = false
section
variable {ty : TypeId} {wg : Nat} {w w' : World} {st sm : Int}
theorem WgAt.cellSt (h : WgAt ty wg w st sm) : w.cell? (stA wg) = some (.int .u64 st) := by obtain ⟨f, h, _⟩ := h; simp [World.cell?, stA, h]
theorem WgAt.cellSm (h : WgAt ty wg w st sm) : w.cell? (smA wg) = some (.int .u32 sm) := by obtain ⟨f, h, _⟩ := h; simp [World.cell?, smA, h]
theorem WgAt.thaw (h : WgAt ty wg w st sm) (n : Nat) (hn : n < 2 := by decide) : w.frozen? ⟨wg, n, none⟩ = false := by
 obtain ⟨f, _, h0, h1⟩ := h
 rcases n with _ | _ | n
 ·exact h0
 ·exact h1
 ·omega
theorem WgAt.unique {st' sm' : Int} (h : WgAt ty wg w st sm) (h' : WgAt ty wg w st' sm') : st = st' ∧ sm = sm' := by
 obtain ⟨f, h, _⟩ := h
 obtain ⟨f', h', _⟩ := h'
 rw [h] at h'
 simp at h'
 exact ⟨h'.1.1, h'.1.2⟩
theorem WgAt.setSt (h : WgAt ty wg w st sm) (v : Int) : WgAt ty wg (w.setCell (stA wg) (.int .u64 v)) v sm := by
 obtain ⟨f, h, h0, h1⟩ := h
 refine ⟨f, ?_, by rw [frozen_setCell]; exact h0, by rw [frozen_setCell]; exact h1⟩
 simp [World.setCell, stA, Array.getElem?_modify, h]
theorem WgAt.setSm (h : WgAt ty wg w st sm) (v : Int) : WgAt ty wg (w.setCell (smA wg) (.int .u32 v)) st v := by
 obtain ⟨f, h, h0, h1⟩ := h
 refine ⟨f, ?_, by rw [frozen_setCell]; exact h0, by rw [frozen_setCell]; exact h1⟩
 simp [World.setCell, smA, Array.getElem?_modify, h]
theorem WgAt.of_heap (h : WgAt ty wg w st sm) (e : w'.heap[wg]? = w.heap[wg]?) : WgAt ty wg w' st sm := by
 obtain ⟨f, h, h0, h1⟩ := h
 have hf : ∀ o, w'.frozen? ⟨wg, o, none⟩ = w.frozen? ⟨wg, o, none⟩ := fun o => by unfold World.frozen?; rw [e]
 exact ⟨f, e.trans h, (hf 0).trans h0, (hf 1).trans h1⟩
def WgLive (ty : TypeId) (Wg : Nat) (w : World) : Prop := ∃ st sm, WgAt ty Wg w st sm
end
def RL (ty : TypeId) (Wg : Nat) (w w₁ : World) : Prop := WgLive ty Wg w → WgLive ty Wg w₁
theorem live_cell {ty : TypeId} {Wg : Nat} {w : World} (h : WgLive ty Wg w) : ∃ v, w.cell? ⟨Wg, 0, none⟩ = some v := let ⟨_, _, x⟩ := h; ⟨_, WgAt.cellSt x⟩
section
variable (P : Program) (ty : TypeId) (Wg : Nat)
def Zg (Stop : Goroutine → World → Prop) (m : Nat) (g : Goroutine) (w : World) : Prop := Goes P false (RL ty Wg) DC0 Stop m g w
def Z4 (g : Goroutine) (w : World) : Prop :=
 g.status = .running ∧ mayWake P g = true ∧ (WgAt ty Wg w 0 0 → ∃ g' q, stepG P false g w = .go g' (w.setCell (smA Wg) (.int .u32 1)) (semEvents (smA Wg)) ∧ QuitsD P q 1 g')
def Z3 (g : Goroutine) (w : World) : Prop :=
 g.status = .running ∧ (WgAt ty Wg w 1 0 → ∃ g' m, stepG P false g w = .go g' (w.setCell (stA Wg) (.int .u64 0)) #[wr (stA Wg)] ∧ Zg P ty Wg (Z4 P ty Wg) m g' (w.setCell (stA Wg) (.int .u64 0)))
def Z2 (g : Goroutine) (w : World) : Prop :=
 g.status = .running ∧ (WgAt ty Wg w 1 0 → ∃ g' m, stepG P false g w = .go g' w #[rd (stA Wg)] ∧ Zg P ty Wg (Z3 P ty Wg) m g' w)
def Z1 (g : Goroutine) (w : World) : Prop :=
 g.status = .running ∧ ∀ v wt : Nat, wt ≤ 1 → v < 2147483647 → WgAt ty Wg w ((v + 1) * KK + wt) 0 →
  ∃ g', stepG P false g w = .go g' (w.setCell (stA Wg) (.int .u64 (v * KK + wt))) #[rd (stA Wg), wr (stA Wg)] ∧
   ((v = 0 ∧ wt = 1) → ∃ m, Zg P ty Wg (Z2 P ty Wg) m g' (w.setCell (stA Wg) (.int .u64 (v * KK + wt)))) ∧ (¬ (v = 0 ∧ wt = 1) → ∃ q, QuitsD P q 1 g')
def ZK (g : Goroutine) (w : World) : Prop :=
 g.status = .running ∧ ∃ g' m, stepG P false g w = .go g' w #[mk .disable] ∧ Zg P ty Wg (Z1 P ty Wg) m g' w
def ZR (g : Goroutine) (w : World) : Prop :=
 g.status = .running ∧ ∃ g' m, stepG P false g w = .go g' w #[mk (.releaseMerge (stA Wg))] ∧ Zg P ty Wg (ZK P ty Wg) m g' w
end
end Go.PB
namespace Go.PB
open Go.Conc Go.Conc.Lib Go.ConcR.Gen
open Go.ConcR (KK stA smA rd wr mk DC0)
theorem quits_more {P : Program} : ∀ {n d : Nat} {g : Goroutine}, QuitsD P n d g → QuitsD P (n + 1) d g
 | 0, _, _, h => .inl h
 | _ + 1, _, _, h => h.imp id fun ⟨hs, g', es, hm, hst, hq⟩ => ⟨hs, g', es, hm, hst, quits_more hq⟩
theorem quits_mono {P : Program} {n n' d : Nat} {g : Goroutine} (h : QuitsD P n d g) (hn : n ≤ n') : QuitsD P n' d g := by
 induction hn with
 | refl => exact h
 | step _ ih => exact quits_more ih
set_option maxRecDepth 100000 in
set_option maxHeartbeats 8000000 in
theorem add_goes [Go.ConcR.Payload] {P : Program} {L : WgLink} (H : WgLib P L) {Wg : Nat} {b₀ : Frame} {a₀ : Act} {ops₀ : Array Oper} {i₀ : Nat} {rest₀ : List Nat} {k₀ : List Item} {cs : List Frame} {qt : Nat}
  (hT : QuitsD P qt 0 (G (b₀.at (a₀.put ((ops₀[i₀]?).bind (·.dst)) (.tuple #[])) (.inRegion ops₀ rest₀ :: k₀)) cs)) (w : World) (hK : WgLive L.tWg Wg w) :
  Zg P L.tWg Wg (ZR P L.tWg Wg) 20 (G ((Go.Conc.base L.add).at ⟨#[.pointer (some ⟨Wg, 0, none⟩), .int .i64 (-1)] ++ Array.replicate 115 undef, []⟩ [.code (body_add L)]) (b₀.at a₀ (.inRegion ops₀ (i₀ :: rest₀) :: k₀) :: cs)) w := by
 lib_facts
 simp only [body_add, addFn, Option.getD_some, Array.replicate_succ, Array.replicate_zero]
 unfold Zg
 have key : ∀ {w w₁ : World}, WgLive L.tWg Wg w → RL L.tWg Wg w w₁ → WgLive L.tWg Wg w₁ := fun h r => r h
 walk_nrm
 repeat (first | u_c stepG_seq key hK | u_c stepG_region_end key hK | u_c stepG_skip key hK | u_reg key hK | u_skip key hK | u_op key hK | u_cond true key hK | u_cond false key hK | u_c stepG_ret' key hK | u_c stepG_block key hK | u_c stepG_loop key hK | u_c stepG_end key hK | u_defer key hK | u_leave1 H.f_uAdd key hK | u_leave1 H.f_uLoad key hK | u_leave0 H.f_uStore key hK | u_call H.f_uAdd (nm_uAdd L) uAddFn key hK | u_call H.f_uLoad (nm_uLoad L) uLoadFn key hK | u_call H.f_uStore (nm_uStore L) uStoreFn key hK | u_bub key hK)
 u_conv H.underlying_tWgP H.room_tWg (live_cell hK).choose_spec key hK
 refine Goes.stop (fun w₁ h₁ => ?_)
 replace hK := key hK h₁
 clear h₁
 refine ⟨rfl, _, 30, stepG_markAt .releaseMerge (by simp) rfl rfl (by k_ne) rfl H.f_relMerge (x_relMerge_n L) (x_relMerge_b L) (x_relMerge_x L) (x_relMerge_f L) (by simp [Act.eval, stA]), ?_⟩
 unfold Zg
 walk_nrm
 repeat (first | u_c stepG_seq key hK | u_c stepG_region_end key hK | u_c stepG_skip key hK | u_reg key hK | u_skip key hK | u_op key hK | u_cond true key hK | u_cond false key hK | u_c stepG_ret' key hK | u_c stepG_block key hK | u_c stepG_loop key hK | u_c stepG_end key hK | u_defer key hK | u_leave1 H.f_uAdd key hK | u_leave1 H.f_uLoad key hK | u_leave0 H.f_uStore key hK | u_call H.f_uAdd (nm_uAdd L) uAddFn key hK | u_call H.f_uLoad (nm_uLoad L) uLoadFn key hK | u_call H.f_uStore (nm_uStore L) uStoreFn key hK | u_bub key hK)
 refine Goes.stop (fun w₁ h₁ => ?_)
 replace hK := key hK h₁
 clear h₁
 refine ⟨rfl, _, 80, stepG_mark0 .disable (by simp) rfl rfl (by k_ne) rfl H.f_disable (x_disable_n L) (x_disable_b L) (x_disable_x L) (x_disable_f L), ?_⟩
 unfold Zg
 walk_nrm
 repeat (first | u_c stepG_seq key hK | u_c stepG_region_end key hK | u_c stepG_skip key hK | u_reg key hK | u_skip key hK | u_op key hK | u_cond true key hK | u_cond false key hK | u_c stepG_ret' key hK | u_c stepG_block key hK | u_c stepG_loop key hK | u_c stepG_end key hK | u_defer key hK | u_leave1 H.f_uAdd key hK | u_leave1 H.f_uLoad key hK | u_leave0 H.f_uStore key hK | u_call H.f_uAdd (nm_uAdd L) uAddFn key hK | u_call H.f_uLoad (nm_uLoad L) uLoadFn key hK | u_call H.f_uStore (nm_uStore L) uStoreFn key hK | u_bub key hK)
 refine Goes.stop (fun w₁ h₁ => ?_)
 clear h₁ hK
 refine ⟨rfl, fun v wt hwt hv hw => ?_⟩
 have e0 : IntKind.u64.wrap (KK + 18446744069414584320) = 0 := by decide
 have e1 : IntKind.u64.wrap (KK + 1 + 18446744069414584320) = 1 := by decide
 rcases Nat.eq_zero_or_pos v with rfl | hvp <;> (obtain rfl | rfl : wt = 0 ∨ wt = 1 := by omega)
 ·-- nobody is left, nobody waits
  replace hw : WgAt L.tWg Wg w₁ KK 0 := by simpa using hw
  have z : ((0 : Nat) : Int) * KK + ((0 : Nat) : Int) = 0 := by simp
  rw [z]
  refine ⟨_, (stepG_add_atomic rfl rfl (by k_ne) rfl H.f_addU64 (x_addU64_n L) (x_addU64_b L) (x_addU64_x L) .u64 (x_addU64_f L) rfl rfl (WgAt.cellSt hw) (WgAt.thaw hw 0)).trans (by rw [e0]; rfl), fun hl => absurd hl.2 (by decide), fun _ => ⟨qt + 200, ?_⟩⟩
  clear hw
  walk_nrm
  q_val (.int .u64 0)
  q_c stepG_region_end
  q_c stepG_ret'
  q_leave1 H.f_uAdd
  q_val (.int .u64 0)
  q_c stepG_region_end
  q_c stepG_seq
  q_c stepG_seq
  q_reg
  q_val (.int .u64 0)
  q_val (.int .u64 0)
  q_val (.bool false)
  q_val (.bool false)
  q_skip
  q_skip
  q_val (.bool false)
  q_c stepG_region_end
  q_cond false
  q_c stepG_skip
  q_c stepG_seq
  q_reg
  q_val (.int .u64 0)
  q_val (.int .u64 0)
  q_val (.int .i32 0)
  q_val (.int .i32 0)
  q_c stepG_region_end
  q_c stepG_seq
  q_reg
  q_val (.int .u64 0)
  q_val (.int .u64 0)
  q_val (.int .u32 0)
  q_val (.int .u32 0)
  q_c stepG_region_end
  q_c stepG_seq
  q_c stepG_seq
  q_reg
  q_val (.bool true)
  q_val (.int .i64 (-1))
  q_val (.bool false)
  q_val (.bool false)
  q_val (.bool false)
  q_skip
  q_skip
  q_skip
  q_skip
  q_val (.bool false)
  q_c stepG_region_end
  q_cond false
  q_c stepG_skip
  q_c stepG_seq
  q_c stepG_seq
  q_reg
  q_val (.int .i32 0)
  q_val (.bool false)
  q_c stepG_region_end
  q_cond false
  q_c stepG_skip
  q_c stepG_seq
  q_c stepG_seq
  q_reg
  q_val (.int .u32 0)
  q_val (.bool false)
  q_val (.bool false)
  q_skip
  q_skip
  q_val (.bool false)
  q_val (.bool false)
  q_skip
  q_skip
  q_skip
  q_skip
  q_val (.bool false)
  q_c stepG_region_end
  q_cond false
  q_c stepG_skip
  q_c stepG_seq
  q_c stepG_seq
  q_reg
  q_val (.int .i32 0)
  q_val (.bool false)
  q_val (.bool false)
  q_val (.int .u32 0)
  q_val (.bool true)
  q_val (.bool true)
  q_c stepG_region_end
  q_cond true
  q_c stepG_ret'
  q_enable
  q_leave0 H.f_add
  exact quits_mono hT (by omega)
 ·-- nobody is left, the starter waits: the last one
  replace hw : WgAt L.tWg Wg w₁ (KK + 1) 0 := by simpa using hw
  have z : ((0 : Nat) : Int) * KK + ((1 : Nat) : Int) = 1 := by simp
  rw [z]
  refine ⟨_, (stepG_add_atomic rfl rfl (by k_ne) rfl H.f_addU64 (x_addU64_n L) (x_addU64_b L) (x_addU64_x L) .u64 (x_addU64_f L) rfl rfl (WgAt.cellSt hw) (WgAt.thaw hw 0)).trans (by rw [e1]; rfl), fun _ => ⟨150, ?_⟩, fun hl => absurd ⟨rfl, rfl⟩ hl⟩
  have hK : WgLive L.tWg Wg (w₁.setCell (stA Wg) (.int .u64 1)) := ⟨_, _, WgAt.setSt hw 1⟩
  clear hw
  unfold Zg
  walk_nrm
  u_op key hK
  u_c stepG_region_end key hK
  u_c stepG_ret' key hK
  u_leave1 H.f_uAdd key hK
  u_op key hK
  u_c stepG_region_end key hK
  u_c stepG_seq key hK
  u_c stepG_seq key hK
  u_reg key hK
  u_op key hK
  u_op key hK
  u_op key hK
  u_op key hK
  u_skip key hK
  u_skip key hK
  u_op key hK
  u_c stepG_region_end key hK
  u_cond false key hK
  u_c stepG_skip key hK
  u_c stepG_seq key hK
  u_reg key hK
  u_op key hK
  u_op key hK
  u_op key hK
  u_op key hK
  u_c stepG_region_end key hK
  u_c stepG_seq key hK
  u_reg key hK
  u_op key hK
  u_op key hK
  u_op key hK
  u_op key hK
  u_c stepG_region_end key hK
  u_c stepG_seq key hK
  u_c stepG_seq key hK
  u_reg key hK
  u_op key hK
  u_op key hK
  u_op key hK
  u_op key hK
  u_op key hK
  u_skip key hK
  u_skip key hK
  u_skip key hK
  u_skip key hK
  u_op key hK
  u_c stepG_region_end key hK
  u_cond false key hK
  u_c stepG_skip key hK
  u_c stepG_seq key hK
  u_c stepG_seq key hK
  u_reg key hK
  u_op key hK
  u_op key hK
  u_c stepG_region_end key hK
  u_cond false key hK
  u_c stepG_skip key hK
  u_c stepG_seq key hK
  u_c stepG_seq key hK
  u_reg key hK
  u_op key hK
  u_op key hK
  u_op key hK
  u_op key hK
  u_op key hK
  u_op key hK
  u_op key hK
  u_skip key hK
  u_skip key hK
  u_skip key hK
  u_skip key hK
  u_op key hK
  u_c stepG_region_end key hK
  u_cond false key hK
  u_c stepG_skip key hK
  u_c stepG_seq key hK
  u_c stepG_seq key hK
  u_reg key hK
  u_op key hK
  u_op key hK
  u_op key hK
  u_op key hK
  u_op key hK
  u_op key hK
  u_c stepG_region_end key hK
  u_cond false key hK
  u_c stepG_skip key hK
  u_c stepG_seq key hK
  u_c stepG_seq key hK
  u_reg key hK
  u_op key hK
  u_op key hK
  u_op key hK
  u_call H.f_uLoad (nm_uLoad L) uLoadFn key hK
  u_c stepG_seq key hK
  u_reg key hK
  u_op key hK
  u_c stepG_region_end key hK
  u_c stepG_seq key hK
  u_reg key hK
  u_op key hK
  u_op key hK
  u_op key hK
  refine Goes.stop (fun w₂ h₂ => ?_)
  clear h₂ hK
  refine ⟨rfl, fun hw => ⟨_, 60, stepG_load_atomic rfl rfl (by k_ne) rfl H.f_loadU64 (x_loadU64_n L) (x_loadU64_b L) (x_loadU64_x L) .u64 (x_loadU64_f L) rfl (WgAt.cellSt hw), ?_⟩⟩
  have hK : WgLive L.tWg Wg w₂ := ⟨_, _, hw⟩
  clear hw
  unfold Zg
  walk_nrm
  u_op key hK
  u_c stepG_region_end key hK
  u_c stepG_ret' key hK
  u_leave1 H.f_uLoad key hK
  u_op key hK
  u_op key hK
  u_c stepG_region_end key hK
  u_cond false key hK
  u_c stepG_skip key hK
  u_c stepG_seq key hK
  u_reg key hK
  u_op key hK
  u_op key hK
  u_op key hK
  u_call H.f_uStore (nm_uStore L) uStoreFn key hK
  u_reg key hK
  u_op key hK
  u_op key hK
  u_op key hK
  u_op key hK
  refine Goes.stop (fun w₃ h₃ => ?_)
  clear h₃ hK
  refine ⟨rfl, fun hw => ⟨_, 60, stepG_store_atomic rfl rfl (by k_ne) rfl H.f_storeU64 (x_storeU64_n L) (x_storeU64_b L) (x_storeU64_x L) (x_storeU64_f L) rfl rfl (WgAt.cellSt hw) (WgAt.thaw hw 0), ?_⟩⟩
  have hK : WgLive L.tWg Wg (w₃.setCell (stA Wg) (.int .u64 0)) := ⟨_, _, WgAt.setSt hw 0⟩
  clear hw
  unfold Zg
  walk_nrm
  u_c stepG_region_end key hK
  u_c stepG_end key hK
  u_leave0 H.f_uStore key hK
  u_c stepG_region_end key hK
  u_c stepG_seq key hK
  u_c stepG_seq key hK
  u_reg key hK
  u_op key hK
  u_c stepG_region_end key hK
  u_cond false key hK
  u_c stepG_skip key hK
  u_c stepG_block key hK
  u_c stepG_loop key hK
  u_c stepG_seq key hK
  u_c stepG_seq key hK
  u_reg key hK
  u_op key hK
  u_op key hK
  u_c stepG_region_end key hK
  u_cond true key hK
  u_c stepG_skip key hK
  u_c stepG_seq key hK
  u_c stepG_block key hK
  u_reg key hK
  u_op key hK
  u_op key hK
  u_op key hK
  refine Goes.stop (fun w₄ h₄ => ?_)
  clear h₄ hK
  refine ⟨rfl, mayWake_entry rfl rfl H.f_semrelease (x_semrelease_b L), fun hw => ⟨_, qt + 40, (stepG_semrelease rfl rfl (by k_ne) rfl H.f_semrelease (x_semrelease_n L) (x_semrelease_b L) (x_semrelease_x L) (x_semrelease_f L) (by simp [Act.eval, smA]) (WgAt.cellSm hw) (WgAt.thaw hw 1)).trans (by rfl), ?_⟩⟩
  clear hw
  walk_nrm
  q_c stepG_region_end
  q_c stepG_inBlock
  q_reg
  q_val (.int .u32 1)
  q_val (.int .u32 0)
  q_val (.int .u32 0)
  q_c stepG_region_end
  q_c stepG_inLoop
  q_c stepG_seq
  q_c stepG_seq
  q_reg
  q_val (.int .u32 0)
  q_val (.bool false)
  q_c stepG_region_end
  q_cond false
  q_exit
  q_c stepG_end
  q_enable
  q_leave0 H.f_add
  exact quits_mono hT (by omega)
 ·-- some are left, nobody waits
  replace hw : WgAt L.tWg Wg w₁ (((v : Nat) + 1) * KK + 0) 0 := by simpa using hw
  have z : ((v : Nat) : Int) * KK + ((0 : Nat) : Int) = (v : Int) * KK + 0 := by simp
  rw [z]
  have eS : IntKind.u64.wrap (((v : Nat) + 1) * KK + 0 + 18446744069414584320) = (v : Int) * KK + 0 := by rw [IntKind.wrap_u64]; simp only [KK]; omega
  obtain ⟨S, hS⟩ : ∃ S : Int, S = (v : Int) * KK + 0 := ⟨_, rfl⟩
  rw [← hS] at eS ⊢
  have a1 : S / 4294967296 = (v : Int) := by rw [hS]; simp only [KK]; omega
  have a2 : 0 ≤ S ∧ S < 9223372036854775808 := by rw [hS]; simp only [KK]; omega
  have b1 : bits .and .u64 S 2147483648 = 0 := by rw [hS]; have := Go.ConcN.st_flag v 0 (by omega) (by omega); simpa [KK] using this
  have b2 : bits .and .u64 S 2147483647 = 0 := by rw [hS]; have := Go.ConcN.st_waiters v 0 (by omega) (by omega); simpa [KK] using this
  clear hS z
  refine ⟨_, (stepG_add_atomic rfl rfl (by k_ne) rfl H.f_addU64 (x_addU64_n L) (x_addU64_b L) (x_addU64_x L) .u64 (x_addU64_f L) rfl rfl (WgAt.cellSt hw) (WgAt.thaw hw 0)).trans (by rw [eS]; rfl), fun hl => absurd hl.1 (by omega), fun _ => ⟨qt + 150, ?_⟩⟩
  clear hw
  walk_nrm
  q_vn (.int .u64 S)
  q_c stepG_region_end
  q_c stepG_ret'
  q_leave1 H.f_uAdd
  q_vn (.int .u64 S)
  q_c stepG_region_end
  q_c stepG_seq
  q_c stepG_seq
  q_reg
  q_vn (.int .u64 S)
  q_vn (.int .u64 0)
  q_vn (.bool false)
  q_vn (.bool false)
  q_skip
  q_skip
  q_vn (.bool false)
  q_c stepG_region_end
  q_cond false
  q_c stepG_skip
  q_c stepG_seq
  q_reg
  q_vn (.int .u64 S)
  q_vn (.int .u64 (v:Int))
  q_vn (.int .i32 (v:Int))
  q_vn (.int .i32 (v:Int))
  q_c stepG_region_end
  q_c stepG_seq
  q_reg
  q_vn (.int .u64 S)
  q_vn (.int .u64 0)
  q_vn (.int .u32 0)
  q_vn (.int .u32 0)
  q_c stepG_region_end
  q_c stepG_seq
  q_c stepG_seq
  q_reg
  q_vn (.bool true)
  q_vn (.int .i64 (-1))
  q_vn (.bool false)
  q_vn (.bool false)
  q_vn (.bool false)
  q_skip
  q_skip
  q_skip
  q_skip
  q_vn (.bool false)
  q_c stepG_region_end
  q_cond false
  q_c stepG_skip
  q_c stepG_seq
  q_c stepG_seq
  q_reg
  q_vn (.int .i32 (v:Int))
  q_vn (.bool false)
  q_c stepG_region_end
  q_cond false
  q_c stepG_skip
  q_c stepG_seq
  q_c stepG_seq
  q_reg
  q_vn (.int .u32 0)
  q_vn (.bool false)
  q_vn (.bool false)
  q_skip
  q_skip
  q_vn (.bool false)
  q_vn (.bool false)
  q_skip
  q_skip
  q_skip
  q_skip
  q_vn (.bool false)
  q_c stepG_region_end
  q_cond false
  q_c stepG_skip
  q_c stepG_seq
  q_c stepG_seq
  q_reg
  q_vn (.int .i32 (v:Int))
  q_vn (.bool true)
  q_vn (.bool true)
  q_skip
  q_skip
  q_vn (.bool true)
  q_c stepG_region_end
  q_cond true
  q_c stepG_ret'
  q_enable
  q_leave0 H.f_add
  exact quits_mono hT (by omega)
 ·-- some are left, the starter waits
  replace hw : WgAt L.tWg Wg w₁ (((v : Nat) + 1) * KK + 1) 0 := by simpa using hw
  have z : ((v : Nat) : Int) * KK + ((1 : Nat) : Int) = (v : Int) * KK + 1 := by simp
  rw [z]
  have eS : IntKind.u64.wrap (((v : Nat) + 1) * KK + 1 + 18446744069414584320) = (v : Int) * KK + 1 := by rw [IntKind.wrap_u64]; simp only [KK]; omega
  obtain ⟨S, hS⟩ : ∃ S : Int, S = (v : Int) * KK + 1 := ⟨_, rfl⟩
  rw [← hS] at eS ⊢
  have a1 : S / 4294967296 = (v : Int) := by rw [hS]; simp only [KK]; omega
  have a2 : 0 ≤ S ∧ S < 9223372036854775808 := by rw [hS]; simp only [KK]; omega
  have b1 : bits .and .u64 S 2147483648 = 0 := by rw [hS]; have := Go.ConcN.st_flag v 1 (by omega) (by omega); simpa [KK] using this
  have b2 : bits .and .u64 S 2147483647 = 1 := by rw [hS]; have := Go.ConcN.st_waiters v 1 (by omega) (by omega); simpa [KK] using this
  clear hS z
  refine ⟨_, (stepG_add_atomic rfl rfl (by k_ne) rfl H.f_addU64 (x_addU64_n L) (x_addU64_b L) (x_addU64_x L) .u64 (x_addU64_f L) rfl rfl (WgAt.cellSt hw) (WgAt.thaw hw 0)).trans (by rw [eS]; rfl), fun hl => absurd hl.1 (by omega), fun _ => ⟨qt + 150, ?_⟩⟩
  clear hw
  walk_nrm
  q_vn (.int .u64 S)
  q_c stepG_region_end
  q_c stepG_ret'
  q_leave1 H.f_uAdd
  q_vn (.int .u64 S)
  q_c stepG_region_end
  q_c stepG_seq
  q_c stepG_seq
  q_reg
  q_vn (.int .u64 S)
  q_vn (.int .u64 0)
  q_vn (.bool false)
  q_vn (.bool false)
  q_skip
  q_skip
  q_vn (.bool false)
  q_c stepG_region_end
  q_cond false
  q_c stepG_skip
  q_c stepG_seq
  q_reg
  q_vn (.int .u64 S)
  q_vn (.int .u64 (v:Int))
  q_vn (.int .i32 (v:Int))
  q_vn (.int .i32 (v:Int))
  q_c stepG_region_end
  q_c stepG_seq
  q_reg
  q_vn (.int .u64 S)
  q_vn (.int .u64 1)
  q_vn (.int .u32 1)
  q_vn (.int .u32 1)
  q_c stepG_region_end
  q_c stepG_seq
  q_c stepG_seq
  q_reg
  q_vn (.bool true)
  q_vn (.int .i64 (-1))
  q_vn (.bool false)
  q_vn (.bool false)
  q_vn (.bool false)
  q_skip
  q_skip
  q_skip
  q_skip
  q_vn (.bool false)
  q_c stepG_region_end
  q_cond false
  q_c stepG_skip
  q_c stepG_seq
  q_c stepG_seq
  q_reg
  q_vn (.int .i32 (v:Int))
  q_vn (.bool false)
  q_c stepG_region_end
  q_cond false
  q_c stepG_skip
  q_c stepG_seq
  q_c stepG_seq
  q_reg
  q_vn (.int .u32 1)
  q_vn (.bool true)
  q_vn (.bool true)
  q_vn (.int .i64 (-1))
  q_vn (.bool false)
  q_vn (.bool false)
  q_vn (.bool false)
  q_skip
  q_skip
  q_skip
  q_skip
  q_vn (.bool false)
  q_c stepG_region_end
  q_cond false
  q_c stepG_skip
  q_c stepG_seq
  q_c stepG_seq
  q_reg
  q_vn (.int .i32 (v:Int))
  q_vn (.bool true)
  q_vn (.bool true)
  q_skip
  q_skip
  q_vn (.bool true)
  q_c stepG_region_end
  q_cond true
  q_c stepG_ret'
  q_enable
  q_leave0 H.f_add
  exact quits_mono hT (by omega)
end Go.PB
namespace Go.PB
open Go.Conc Go.Conc.Lib Go.ConcR.Gen
open Go.ConcR (KK stA smA rd wr mk DC0)
set_option maxRecDepth 100000 in
theorem add_goes2 [Go.ConcR.Payload] {P : Program} {L : WgLink} (H : WgLib P L) {Wg : Nat} {b₀ : Frame} {a₀ : Act} {ops₀ : Array Oper} {i₀ : Nat} {rest₀ : List Nat} {k₀ : List Item} {cs : List Frame} {qt : Nat}
  (hT : QuitsD P qt 0 (G (b₀.at (a₀.put ((ops₀[i₀]?).bind (·.dst)) (.tuple #[])) (.inRegion ops₀ rest₀ :: k₀)) cs)) (w : World) (hK : WgLive L.tWg Wg w) :
  Zg P L.tWg Wg (ZR P L.tWg Wg) 20 (G ((Go.Conc.base L.add).at ⟨#[.pointer (some ⟨Wg, 0, none⟩), .int .i64 (-1), undef, undef, undef, undef, undef, undef, undef, undef, undef, undef, undef, undef, undef, undef, undef, undef, undef, undef, undef, undef, undef, undef, undef, undef, undef, undef, undef, undef, undef, undef, undef, undef, undef, undef, undef, undef, undef, undef, undef, undef, undef, undef, undef, undef, undef, undef, undef, undef, undef, undef, undef, undef, undef, undef, undef, undef, undef, undef, undef, undef, undef, undef, undef, undef, undef, undef, undef, undef, undef, undef, undef, undef, undef, undef, undef, undef, undef, undef, undef, undef, undef, undef, undef, undef, undef, undef, undef, undef, undef, undef, undef, undef, undef, undef, undef, undef, undef, undef, undef, undef, undef, undef, undef, undef, undef, undef, undef, undef, undef, undef, undef, undef, undef, undef, undef], []⟩ [.code (body_add L)]) (b₀.at a₀ (.inRegion ops₀ (i₀ :: rest₀) :: k₀) :: cs)) w := by
 have e : (#[.pointer (some ⟨Wg, 0, none⟩), .int .i64 (-1), undef, undef, undef, undef, undef, undef, undef, undef, undef, undef, undef, undef, undef, undef, undef, undef, undef, undef, undef, undef, undef, undef, undef, undef, undef, undef, undef, undef, undef, undef, undef, undef, undef, undef, undef, undef, undef, undef, undef, undef, undef, undef, undef, undef, undef, undef, undef, undef, undef, undef, undef, undef, undef, undef, undef, undef, undef, undef, undef, undef, undef, undef, undef, undef, undef, undef, undef, undef, undef, undef, undef, undef, undef, undef, undef, undef, undef, undef, undef, undef, undef, undef, undef, undef, undef, undef, undef, undef, undef, undef, undef, undef, undef, undef, undef, undef, undef, undef, undef, undef, undef, undef, undef, undef, undef, undef, undef, undef, undef, undef, undef, undef, undef, undef, undef] : Array Value) = #[.pointer (some ⟨Wg, 0, none⟩), .int .i64 (-1)] ++ Array.replicate 115 undef := by kernel_rfl
 rw [e]
 exact add_goes H hT w hK
set_option maxHeartbeats 8000000 in
set_option maxRecDepth 100000 in
theorem done_goes [Go.ConcR.Payload] {P : Program} {L : WgLink} (H : WgLib P L) {Wg : Nat} {c : Frame} {cs : List Frame} {qt : Nat} (hcm : c.mode = .returning) (hT : QuitsD P qt 0 (G c cs)) (w : World) (hK : WgLive L.tWg Wg w) :
  Zg P L.tWg Wg (ZR P L.tWg Wg) 23 (G ((baseD L.done).at ⟨#[.pointer (some ⟨Wg, 0, none⟩), undef, undef, undef], []⟩ [.code (body_done L)]) (c :: cs)) w := by
 lib_facts
 have hA := @add_goes2 _ P L H Wg
 unfold Zg at hA ⊢
 have key : ∀ {w w₁ : World}, WgLive L.tWg Wg w → RL L.tWg Wg w w₁ → WgLive L.tWg Wg w₁ := fun h r => r h
 simp only [body_done, body_add, doneFn, addFn, Option.getD_some] at hA ⊢
 u_reg key hK
 u_op key hK
 u_in key hK
 refine goes_call rfl rfl (by k_ne) rfl H.f_add (nm_add L) rfl ⟨by u_nil, ?_⟩
 walk_nrmf addFn
 refine hA (qt := qt + 3) ?_ _ hK
 q_c stepG_region_end
 q_c stepG_end
 exact QuitsD.leaveD rfl rfl H.f_done rfl hcm hT
theorem done_enter {P : Program} {L : WgLink} (H : WgLib P L) {v : Value} : Frame.enter P L.done #[v] .deferred = (baseD L.done).at ⟨#[v, undef, undef, undef], []⟩ [.code (body_done L)] := by
 simp [Frame.enter, H.f_done, body_done, doneFn]
 rfl
end Go.PB
