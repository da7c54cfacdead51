/-
  PLAIN FACTS on plays: what holds of all that a play comes through; at the end nobody stands at a step, or all turns are used.
-/
import Derived.Test.YtabbkjciifnehaaPlayD
set_option linter.unusedVariables false
set_option linter.unusedSimpArgs false
namespace Go.Proofs.Ytabbkjciifnehaa
open Go Go.PB

section
variable {g : Game}

theorem ordF_inv {I : PS g → Prop} (hs : ∀ p k, I p → I (takeF p k).1) : ∀ (l : List Int) (p : PS g), I p → I (ordF p l)
  | [], p, h => h
  | k :: l, p, h => ordF_inv hs l _ (hs p k h)
theorem roundF_inv {I : PS g → Prop} (hs : ∀ p k, I p → I (takeF p k).1) {p : PS g} (h : I p) : ∀ n, I (roundF p n).1
  | 0 => h
  | n + 1 => hs _ _ (roundF_inv hs h n)
theorem restF_inv {I : PS g → Prop} (hs : ∀ p k, I p → I (takeF p k).1) : ∀ (n : Nat) (p : PS g), I p → I (restF n p)
  | 0, p, h => h
  | n + 1, p, h => by
    unfold restF
    split
    · exact restF_inv hs n _ (roundF_inv hs h _)
    · exact roundF_inv hs h _
theorem playF_inv {I : PS g → Prop} (hs : ∀ p k, I p → I (takeF p k).1) {ts : List (Thr g)} {s : g.σ} {o : List Int} (h0 : I ⟨(startF ts s).1, (startF ts s).2, []⟩) : I (playF ts s o) :=
  restF_inv hs _ _ (ordF_inv hs _ _ h0)

/-- nobody has had a turn -/
theorem roundF_no {p : PS g} : ∀ {n : Nat}, (roundF p n).2 = false → (roundF p n).1 = p ∧ ∀ k : Nat, k < n → takeF p k = (p, false)
  | 0, _ => ⟨rfl, fun k h => by omega⟩
  | n + 1, h => by
    have h' : ((takeF (roundF p n).1 n).2 || (roundF p n).2) = false := h
    rw [Bool.or_eq_false_iff] at h'
    obtain ⟨h1, h2⟩ := roundF_no h'.2
    rw [h1] at h'
    have h3 : takeF p n = (p, false) := by
      rcases takeF_cases p n with e | ⟨_, _, _, _, _, _, _, _, e⟩
      · exact e
      · rw [e] at h'; cases h'.1
    refine ⟨?_, fun k hk => ?_⟩
    · show (takeF (roundF p n).1 n).1 = p
      rw [h1, h3]
    · by_cases e : k = n
      · subst e; exact h3
      · exact h2 k (by omega)

theorem take_stuck {p : PS g} {k : Nat} {q : g.θ} (hq : p.qs[k]? = some q) (h : takeF p k = (p, false)) : g.plan q = none ∨ p.tr.length = 16384 := by
  cases hp : g.plan q with
  | none => exact .inl rfl
  | some mf =>
    obtain ⟨m, f⟩ := mf
    right
    by_cases htr : p.tr.length = 16384
    · exact htr
    · unfold takeF at h
      rw [if_neg (by omega), Int.toNat_natCast, hq] at h
      simp only [hp, if_neg htr] at h
      have := congrArg Prod.snd h
      cases this

theorem restF_done : ∀ (n : Nat) (p : PS g), p.tr.length ≤ 16384 → 16384 < p.tr.length + n → ∀ (k : Nat) q, (restF n p).qs[k]? = some q → g.plan q = none ∨ (restF n p).tr.length = 16384
  | 0, p, h1, h2 => by omega
  | n + 1, p, h1, h2 => by
    intro k q hq
    unfold restF at hq ⊢
    have hg := roundF_grow p p.qs.length
    have hle := roundF_le h1 p.qs.length
    split at hq
    · rename_i hm
      rw [if_pos hm]
      rw [if_pos hm] at hg
      exact restF_done n _ hle (by omega) k q hq
    · rename_i hm
      rw [if_neg hm]
      obtain ⟨e, hk⟩ := roundF_no (Bool.not_eq_true _ ▸ hm : (roundF p p.qs.length).2 = false)
      rw [e] at hq ⊢
      exact take_stuck hq (hk k (List.getElem?_eq_some_iff.1 hq).1)
theorem playF_done {ts : List (Thr g)} {s : g.σ} {o : List Int} {k : Nat} {q : g.θ} (hq : (playF ts s o).qs[k]? = some q) : g.plan q = none ∨ (playF ts s o).tr.length = 16384 :=
  restF_done 16385 _ (ordF_le _ _ (Nat.zero_le _)) (by omega) k q hq
theorem playF_len {ts : List (Thr g)} {s : g.σ} {o : List Int} : (playF ts s o).qs.length = ts.length :=
  playF_inv (I := fun p => p.qs.length = ts.length) (fun p k h => by rw [takeF_len]; exact h) (startF_len ts s)

/-- nobody is cut off -/
theorem cutN_nil {qs : List g.θ} {n : Nat} (h : ∀ (k : Nat) q, qs[k]? = some q → g.plan q = none) : cutN g qs n = [] := by
  unfold cutN
  rw [List.filter_eq_nil_iff]
  intro k _
  cases hq : qs[k]? with
  | none => simp
  | some q => simp [h k q hq]
end

/-- a sum -/
def sumN (l : List Nat) : Nat := l.foldr (· + ·) 0
theorem sumN_set : ∀ {l : List Nat} {k a b : Nat}, l[k]? = some a → sumN (l.set k b) + a = sumN l + b
  | [], _, _, _, h => by simp at h
  | x :: l, 0, a, b, h => by simp at h; subst h; simp only [List.set_cons_zero, sumN, List.foldr_cons]; omega
  | x :: l, k + 1, a, b, h => by
    have := sumN_set (l := l) (k := k) (a := a) (b := b) (by simpa using h)
    simp only [List.set_cons_succ, sumN, List.foldr_cons] at this ⊢
    omega
theorem sumN_all {l : List Nat} {c : Nat} (h : ∀ a ∈ l, a = c) : sumN l = l.length * c := by
  induction l with
  | nil => simp [sumN]
  | cons a l ih =>
    have h1 := ih fun b hb => h b (by simp [hb])
    have h2 := h a (by simp)
    simp only [sumN, List.foldr_cons, List.length_cons] at h1 ⊢
    rw [h1, h2, Nat.add_mul]
    omega
end Go.Proofs.Ytabbkjciifnehaa
