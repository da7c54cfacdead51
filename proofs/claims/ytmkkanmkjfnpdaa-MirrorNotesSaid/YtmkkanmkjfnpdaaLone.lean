/-
  ACCESS, ALONE: a layer's words in memory that the thread owns, and no gate.
-/
import Derived.Test.YtmkkanmkjfnpdaaAcc
import Derived.Test.YtmkkanmkjfnpdaaFo
set_option linter.unusedVariables false
set_option linter.unusedSimpArgs false
namespace Go.Proofs.Ytmkkanmkjfnpdaa
open Go Go.PB
attribute [local irreducible] Mo Bin Eql Tr Wo

variable {B : Hand} [Lets B]

/-- words that lie in memory of one's own; nobody is told -/
def loneAcc (x : B.X) (addr : Nat → Nat × Nat) (N : Nat) (K : List (Nat × Nat × Value)) (A : Apart addr N K) : Acc B .nilIface where
  S := Nat → Nat
  C := wds addr N K
  x := fun _ => x
  step := fun _ _ s R => R s
  addr := addr
  load := fun w s R => w < N ∧ R (s w) s
  store := fun w n s R => w < N ∧ R (upd s w n)
  cas := fun w a n s R => w < N ∧ if s w = a then R true (upd s w n) else R false s
  add := fun w n s R => w < N ∧ R ((s w + n) % 18446744073709551616) (upd s w ((s w + n) % 18446744073709551616))
  swap := fun w n s R => w < N ∧ R (s w) (upd s w n)
  gate := .inl ⟨rfl, fun _ _ _ _ h => h⟩
  load_ok := fun w s R L F b o ha hl hh => tr_pure (of_has hh fun h hc => (hc.1 w hl.1).1) fun hs =>
    (load_lone (rd_wds hh hl.1 ha)).post fun v L' x' ⟨h1, h2, h3⟩ => ⟨_, ⟨s w, s, hs, hl.2, h1, rfl, h3⟩, fun h st => hh.star (h2 ▸ st)⟩
  store_ok := fun w n s R L F b o ha hn hl hh =>
    (store_lone (wt_wds A hh hl.1 ha hn)).mono fun v L' x' ⟨h1, h2, h3⟩ => ⟨upd s w n, hl.2, h1, h2, h3⟩
  cas_ok := fun w m n s R L F b o ha hn hl hh =>
    (cas_lone (rd_wds hh hl.1 ha) (wt_wds A hh hl.1 ha hn)).post fun v L' x' ⟨h1, h2, h3⟩ => by
      obtain ⟨h4, h5⟩ := hl
      by_cases e : s w = m
      · rw [if_pos e] at h5; rw [if_pos (by omega)] at h2; exact ⟨_, ⟨true, _, h5, by rw [h1]; simp [e], rfl, h3⟩, fun h st => h2 ▸ st⟩
      · rw [if_neg e] at h5; rw [if_neg (by omega)] at h2; exact ⟨_, ⟨false, _, h5, by rw [h1]; simp; omega, rfl, h3⟩, fun h st => hh.star (h2 ▸ st)⟩
  add_ok := fun w n s R L F b o ha hn hl hh =>
    (add_lone (r := ((s w + n) % 18446744073709551616 : Nat)) (rd_wds hh hl.1 ha) (by rw [wrap_u64_mod]; omega) (wt_wds A hh hl.1 ha (Nat.mod_lt _ (by decide)))).mono fun v L' x' ⟨h1, h2, h3⟩ => ⟨_, _, Nat.mod_lt _ (by decide), hl.2, h1, h2, h3⟩

end Go.Proofs.Ytmkkanmkjfnpdaa
