/-
  AN ACCESS WITH MORE CHUNKS: what the layer holds beside its words.
-/
import Derived.Test.YtmkkanmkjfnpdaaAcc
import Derived.Test.YtmkkanmkjfnpdaaFo
set_option linter.unusedVariables false
set_option linter.unusedSimpArgs false
namespace Go.Proofs.Ytmkkanmkjfnpdaa
open Go Go.PB
attribute [local irreducible] Mo Bin Eql Tr Wo Ap Wle

variable {B : Hand} [Lets B] {gv : Value}

/-- an access, and a chunk that goes with it -/
def accWith (A : Acc B gv) (R : HProp) : Acc B gv where
  S := A.S
  C := fun s => all [A.C s, R]
  x := A.x
  step := A.step
  addr := A.addr
  load := A.load
  store := A.store
  cas := A.cas
  add := A.add
  swap := A.swap
  gate := A.gate.imp id fun ⟨t, p, f, e, m, en, g⟩ => ⟨t, p, f, e, m, en, fun op w s T L F hs hh =>
    tr_star _ (fun h st => star_open (hh.star st)) ((g op w s T _ _ hs .here).post fun v L' x' ⟨s', h1, h2, h3, h4⟩ => ⟨_, ⟨s', h1, h2, rfl, h4⟩, fun h st => star_shut (M := [_, _]) (by rw [h3] at st; exact st)⟩)⟩
  load_ok := fun w s T L F b o ha hl hh => tr_star _ (fun h st => star_open (hh.star st)) ((A.load_ok w s T _ _ b o ha hl .here).post fun v L' x' ⟨n, s', h1, h2, h3, hL, h5⟩ => ⟨_, ⟨n, s', h1, h2, h3, rfl, h5⟩, fun h st => star_shut (M := [_, _]) (by subst hL; exact st)⟩)
  store_ok := fun w n s T L F b o ha hn hl hh => tr_star _ (fun h st => star_open (hh.star st)) ((A.store_ok w n s T _ _ b o ha hn hl .here).post fun v L' x' ⟨s', h1, h2, hL, h4⟩ => ⟨_, ⟨s', h1, h2, rfl, h4⟩, fun h st => star_shut (M := [_, _]) (by subst hL; exact st)⟩)
  cas_ok := fun w m n s T L F b o ha hn hl hh => tr_star _ (fun h st => star_open (hh.star st)) ((A.cas_ok w m n s T _ _ b o ha hn hl .here).post fun v L' x' ⟨q, s', h1, h2, hL, h4⟩ => ⟨_, ⟨q, s', h1, h2, rfl, h4⟩, fun h st => star_shut (M := [_, _]) (by subst hL; exact st)⟩)
  add_ok := fun w n s T L F b o ha hn hl hh => tr_star _ (fun h st => star_open (hh.star st)) ((A.add_ok w n s T _ _ b o ha hn hl .here).post fun v L' x' ⟨r, s', h0, h1, h2, hL, h4⟩ => ⟨_, ⟨r, s', h0, h1, h2, rfl, h4⟩, fun h st => star_shut (M := [_, _]) (by subst hL; exact st)⟩)

end Go.Proofs.Ytmkkanmkjfnpdaa
