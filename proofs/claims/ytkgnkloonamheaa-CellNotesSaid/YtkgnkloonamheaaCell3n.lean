/-
  A CELL's calls as numbers; the document's machine does the same. No program in sight.
-/
import Derived.Test.YtkgnkloonamheaaCell3m
set_option linter.unusedVariables false
set_option linter.unusedSimpArgs false
set_option maxRecDepth 4000
namespace Go.PB.Mach

theorem p32 : (2 : Nat) ^ 32 = 4294967296 := by decide
theorem box_hi {n v : Nat} (hn : n < 4294967296) (hv : v < 4294967296) : (n * 4294967296 + v) / 2 ^ 32 % 18446744073709551616 = n := by
  rw [p32]; omega
theorem box_lo {n v : Nat} (hv : v < 4294967296) : (n * 4294967296 + v) * 2 ^ 32 % 18446744073709551616 = v * 4294967296 := by
  rw [p32]; omega
theorem box_lo2 {v : Nat} (hv : v < 4294967296) : (v * 4294967296) / 2 ^ 32 % 18446744073709551616 = v := by
  rw [p32]; omega
theorem box_up {n : Nat} (hn : n < 4294967296) : n * 2 ^ 32 % 18446744073709551616 = n * 4294967296 := by
  rw [p32]; omega
theorem box_p2 {n : Nat} (hn : n < 4294967296) : (n + 0 + 1) % 18446744073709551616 = n + 1 := by omega
theorem box_p4 {n v : Nat} (hn : n < 4294967296) (hv : v < 4294967296) : (n * 4294967296 + 0 + v) % 18446744073709551616 = n * 4294967296 + v := by omega

/-- a counter, a flag, a box's value and its number -/
structure CSt where
  c : Nat
  f : Nat
  v : Nat
  num : Nat

structure COk (k : Nat) (s : CSt) : Prop where
  c : s.c < 18446744073709551616
  f : s.f ≤ 1
  v : s.v < 4294967296
  num : s.num ≤ k

def CSt.words (s : CSt) : List (List Nat) := [[s.c], [s.f], [s.num * 4294967296 + s.v]]

/-- what a call does: the cells, what is told, the operations -/
def cellF (kd N mo V : Nat) (s : CSt) : CSt × List Nat × List (Nat × Nat) :=
  match kd with
  | 0 => (s, [s.c], [(1, 0)])
  | 1 => ({ s with c := (s.c + N) % 18446744073709551616 }, [(s.c + N) % 18446744073709551616], [(3, 0)])
  | 2 => if N ≤ mo ∧ s.c ≤ mo - N then ({ s with c := s.c + N }, [s.c + N, 1], [(1, 0), (5, 0)]) else (s, [s.c, 0], [(1, 0)])
  | 3 => if N ≤ s.c then ({ s with c := s.c - N }, [s.c - N, 1], [(1, 0), (5, 0)]) else (s, [s.c, 0], [(1, 0)])
  | 4 => if s.c < N then ({ s with c := N }, [1], [(1, 0), (5, 0)]) else (s, [0], [(1, 0)])
  | 5 => (s, [s.f], [(1, 0)])
  | 6 => ({ s with f := 1 }, [1 - s.f], [(4, 0)])
  | 7 => ({ s with f := 0 }, [s.f], [(4, 0)])
  | 8 => (s, [s.v, s.num], [(1, 0)])
  | 9 => ({ s with v := V, num := s.num + 1 }, [s.num + 1], [(1, 0), (5, 0)])
  | _ => if s.num = N then ({ s with v := V, num := s.num + 1 }, [1], [(1, 0), (5, 0)]) else (s, [0], [(1, 0)])

/-- the machine's call -/
def cellCl (kd N mo V : Nat) : Cl :=
  match kd with
  | 0 => cgetCl 0
  | 1 => caddCl 0 N
  | 2 => cupCl 0 N mo
  | 3 => cdownCl 0 N
  | 4 => cmaxCl 0 N
  | 5 => cgetCl 1
  | 6 => cturnCl 1 1
  | 7 => cturnCl 1 0
  | 8 => cgetbCl 2
  | 9 => cputCl 2 V
  | _ => ctryCl 2 N V

theorem cellF_ok {kd N mo V k : Nat} {s : CSt} (hN : N < 18446744073709551616) (hm : mo < 18446744073709551616) (hV : V < 4294967296) (h : COk k s) : COk (k + 1) (cellF kd N mo V s).1 := by
  obtain ⟨h1, h2, h3, h4⟩ := h
  have hs : COk (k + 1) s := ⟨h1, h2, h3, by omega⟩
  unfold cellF
  split
  · exact hs
  · exact ⟨Nat.mod_lt _ (by decide), h2, h3, by show s.num ≤ k + 1; omega⟩
  · split
    · exact ⟨by show s.c + N < _; omega, h2, h3, by show s.num ≤ k + 1; omega⟩
    · exact hs
  · split
    · exact ⟨by show s.c - N < _; omega, h2, h3, by show s.num ≤ k + 1; omega⟩
    · exact hs
  · split
    · exact ⟨hN, h2, h3, by show s.num ≤ k + 1; omega⟩
    · exact hs
  · exact hs
  · exact ⟨h1, by show 1 ≤ 1; omega, h3, by show s.num ≤ k + 1; omega⟩
  · exact ⟨h1, by show 0 ≤ 1; omega, h3, by show s.num ≤ k + 1; omega⟩
  · exact hs
  · exact ⟨h1, h2, hV, by show s.num + 1 ≤ k + 1; omega⟩
  · split
    · exact ⟨h1, h2, hV, by show s.num + 1 ≤ k + 1; omega⟩
    · exact hs

theorem cellF_ms {kd N mo V : Nat} {s : CSt} : (cellF kd N mo V s).2.2.length ≤ 2 ∧ (cellF kd N mo V s).2.1.length ≤ 2 := by
  unfold cellF
  split <;> first | exact ⟨by simp, by simp⟩ | (split <;> exact ⟨by simp, by simp⟩)

theorem cellCl_ok {kd N mo V : Nat} (hN : N < 18446744073709551616) (hm : mo < 18446744073709551616) (hV : V < 4294967296) : (cellCl kd N mo V).ok = true := by
  unfold cellCl
  split <;> first | decide | (simp [Cl.ok, caddCl, In.ok]; omega) | (simp [Cl.ok, cupCl, In.ok]; omega) | (simp [Cl.ok, cdownCl, In.ok]; omega) | (simp [Cl.ok, cmaxCl, In.ok]; omega) | (simp [Cl.ok, cputCl, In.ok]; omega) | (simp [Cl.ok, ctryCl, In.ok]; omega)

theorem cell_comes {kd N mo V k : Nat} {s : CSt} (hN : N < 18446744073709551616) (hm : mo < 18446744073709551616) (hV : V < 4294967296) (hk : k < 4000000) (h : COk k s) :
    Comes 30 ((cellF kd N mo V s).2.2.length + 1) ⟨s.words, 3⟩ (cellCl kd N mo V) ⟨(cellF kd N mo V s).1.words, 3⟩ (cellF kd N mo V s).2.1 (cellF kd N mo V s).2.2 := by
  obtain ⟨h1, h2, h3, h4⟩ := h
  have h0 : ([] : List (Bool × List Nat)).length = 0 := rfl
  have hn : s.num < 4294967296 := by omega
  have hn1 : s.num + 1 < 4294967296 := by omega
  have hx := box_hi hn h3
  have hl := box_lo (n := s.num) h3
  have hr := box_lo2 h3
  have p2 := box_p2 hn
  have p3 := box_up hn1
  have p4 := box_p4 hn1 hV
  unfold cellF cellCl CSt.words
  split
  · exact comes_runs (onF_more (k := 10) (cget_on rfl h0)) (.cons (cget_0 rfl h0 rfl (on_over (f := 9) rfl)) .nil) (by simp)
  · exact comes_runs (onF_more (k := 10) (cadd_on rfl h0 (Nat.mod_eq_of_lt hN))) (.cons (cadd_1 rfl h0 rfl rfl rfl (on_over (f := 9) rfl)) .nil) (by simp)
  · have e0 := onF_more (k := 10) (cup_on (cs := [cupCl 0 N mo]) (c := 0) rfl h0 (Nat.mod_eq_of_lt hN) (Nat.mod_eq_of_lt hm))
    split
    · rename_i c
      exact comes_runs e0 (.cons (cup_2T (n1 := mo - N) (n2 := s.c + N) rfl h0 rfl (by omega) (by omega) (by omega) (by omega)) (.cons (cup_7T rfl h0 rfl rfl (on_over (f := 9) rfl)) .nil)) (by simp)
    · rename_i c
      by_cases d : mo < N
      · exact comes_runs e0 (.cons (cup_2N rfl h0 rfl d (on_over (f := 9) rfl)) .nil) (by simp)
      · exact comes_runs e0 (.cons (cup_2F (n1 := mo - N) rfl h0 rfl d (by omega) (by omega) (on_over (f := 9) rfl)) .nil) (by simp)
  · have e0 := onF_more (k := 10) (cdown_on (cs := [cdownCl 0 N]) (c := 0) rfl h0 (Nat.mod_eq_of_lt hN))
    split
    · rename_i c
      exact comes_runs e0 (.cons (cdown_1T (n1 := s.c - N) rfl h0 rfl (by omega) (by omega)) (.cons (cdown_4T rfl h0 rfl rfl (on_over (f := 9) rfl)) .nil)) (by simp)
    · rename_i c
      exact comes_runs e0 (.cons (cdown_1F rfl h0 rfl (by omega) (on_over (f := 9) rfl)) .nil) (by simp)
  · have e0 := onF_more (k := 10) (cmax_on (cs := [cmaxCl 0 N]) (c := 0) rfl h0 (Nat.mod_eq_of_lt hN))
    split
    · rename_i c
      exact comes_runs e0 (.cons (cmax_1T rfl h0 rfl c) (.cons (cmax_5T rfl h0 rfl rfl (on_over (f := 9) rfl)) .nil)) (by simp)
    · rename_i c
      exact comes_runs e0 (.cons (cmax_1F rfl h0 rfl c (on_over (f := 9) rfl)) .nil) (by simp)
  · exact comes_runs (onF_more (k := 10) (cget_on rfl h0)) (.cons (cget_0 rfl h0 rfl (on_over (f := 9) rfl)) .nil) (by simp)
  · have e0 := onF_more (k := 10) (cturn_on (cs := [cturnCl 1 1]) (c := 0) rfl h0 rfl)
    obtain ⟨sc, sf, sv, sn⟩ := s
    dsimp only at h2 ⊢
    have : sf = 0 ∨ sf = 1 := by omega
    rcases this with rfl | rfl
    · exact comes_runs e0 (.cons (cturn_2T rfl h0 rfl rfl (by decide) (on_over (f := 9) rfl)) .nil) (by simp)
    · exact comes_runs e0 (.cons (cturn_2F rfl h0 rfl rfl rfl (on_over (f := 9) rfl)) .nil) (by simp)
  · have e0 := onF_more (k := 10) (cturn_on (cs := [cturnCl 1 0]) (c := 0) rfl h0 rfl)
    obtain ⟨sc, sf, sv, sn⟩ := s
    dsimp only at h2 ⊢
    have : sf = 0 ∨ sf = 1 := by omega
    rcases this with rfl | rfl
    · exact comes_runs e0 (.cons (cturn_2F rfl h0 rfl rfl rfl (on_over (f := 9) rfl)) .nil) (by simp)
    · exact comes_runs e0 (.cons (cturn_2T rfl h0 rfl rfl (by decide) (on_over (f := 9) rfl)) .nil) (by simp)
  · exact comes_runs (onF_more (k := 10) (cgetb_on rfl h0)) (.cons (cgetb_0 (n1 := s.v * 4294967296) (n2 := s.v) (n3 := s.num) rfl h0 rfl hl hr hx (on_over (f := 9) rfl)) .nil) (by simp)
  · exact comes_runs (onF_more (k := 10) (cput_on rfl h0)) (.cons (cput_0 (n1 := s.num) (n2 := s.num + 1) (n3 := (s.num + 1) * 4294967296) (n4 := (s.num + 1) * 4294967296 + V) rfl h0 rfl hx p2 p3 p4) (.cons (cput_5T rfl h0 rfl rfl (on_over (f := 9) rfl)) .nil)) (by simp)
  · have e0 := onF_more (k := 10) (ctry_on (cs := [ctryCl 2 N V]) (c := 0) rfl h0 (Nat.mod_eq_of_lt hN))
    split
    · rename_i c
      exact comes_runs e0 (.cons (ctry_1T (n1 := s.num) (n2 := s.num + 1) (n3 := (s.num + 1) * 4294967296) (n4 := (s.num + 1) * 4294967296 + V) rfl h0 rfl hx c p2 p3 p4) (.cons (ctry_9T rfl h0 rfl rfl (on_over (f := 9) rfl)) .nil)) (by simp)
    · rename_i c
      exact comes_runs e0 (.cons (ctry_1F (n1 := s.num) rfl h0 rfl hx c (on_over (f := 9) rfl)) .nil) (by simp)

end Go.PB.Mach
