/-
  A MIRROR with notes: what the program's calls do and what the machine's calls come to are the same.
-/
import Derived.Test.YtmkkanmkjfnpdaaQueueS
import Derived.Test.YtmkkanmkjfnpdaaMirror23m
import Derived.Test.YtmkkanmkjfnpdaaMirror
set_option linter.unusedVariables false
set_option linter.unusedSimpArgs false
namespace Go.Proofs.Ytmkkanmkjfnpdaa
open Go Go.PB
attribute [local irreducible] Mo Bin Eql Tr Wo Ap Wle

/-- the world of a mirror -/
def mirW (n : Nat) (f : Nat → Nat) : Mach.Wd := ⟨[[f (2 * n + 2), f (2 * n + 3), f (2 * n + 4)], rowOf (2 * n + 2) f], 2⟩

theorem mirW_at {n : Nat} : WdAt (mirW n) 1 n where
  get := fun f => rfl
  set := fun f q v hq => by
    have e0 := upd_other (m := f) (w := q) (n := v) (i := 2 * n + 2) (by omega)
    have e1 := upd_other (m := f) (w := q) (n := v) (i := 2 * n + 3) (by omega)
    have e2 := upd_other (m := f) (w := q) (n := v) (i := 2 * n + 4) (by omega)
    show (⟨[[f (2 * n + 2), f (2 * n + 3), f (2 * n + 4)], (rowOf (2 * n + 2) f).set q v], 2⟩ : Mach.Wd) = ⟨[[upd f q v (2 * n + 2), upd f q v (2 * n + 3), upd f q v (2 * n + 4)], rowOf (2 * n + 2) (upd f q v)], 2⟩
    rw [rowOf_set, e0, e1, e2]

theorem row_same {N q v : Nat} {f : Nat → Nat} (h : N ≤ q) : rowOf N (upd f q v) = rowOf N f := by
  unfold rowOf
  refine List.map_congr_left fun i hi => upd_other ?_
  have := List.mem_range.1 hi
  omega

theorem mirW_0 {n v : Nat} {f : Nat → Nat} : (⟨(mirW n f).words.set 0 ([f (2 * n + 2), f (2 * n + 3), f (2 * n + 4)].set 0 v), (mirW n f).nl⟩ : Mach.Wd) = mirW n (upd f (2 * n + 2) v) := by
  show (⟨[[v, f (2 * n + 3), f (2 * n + 4)], rowOf (2 * n + 2) f], 2⟩ : Mach.Wd) = ⟨[[upd f (2 * n + 2) v (2 * n + 2), upd f (2 * n + 2) v (2 * n + 3), upd f (2 * n + 2) v (2 * n + 4)], rowOf (2 * n + 2) (upd f (2 * n + 2) v)], 2⟩
  rw [row_same (by omega), upd_same, upd_other (by omega), upd_other (by omega)]
theorem mirW_1 {n v : Nat} {f : Nat → Nat} : (⟨(mirW n f).words.set 0 ([f (2 * n + 2), f (2 * n + 3), f (2 * n + 4)].set 1 v), (mirW n f).nl⟩ : Mach.Wd) = mirW n (upd f (2 * n + 3) v) := by
  show (⟨[[f (2 * n + 2), v, f (2 * n + 4)], rowOf (2 * n + 2) f], 2⟩ : Mach.Wd) = ⟨[[upd f (2 * n + 3) v (2 * n + 2), upd f (2 * n + 3) v (2 * n + 3), upd f (2 * n + 3) v (2 * n + 4)], rowOf (2 * n + 2) (upd f (2 * n + 3) v)], 2⟩
  rw [row_same (by omega), upd_same, upd_other (by omega), upd_other (by omega)]
theorem mirW_2 {n v : Nat} {f : Nat → Nat} : (⟨(mirW n f).words.set 0 ([f (2 * n + 2), f (2 * n + 3), f (2 * n + 4)].set 2 v), (mirW n f).nl⟩ : Mach.Wd) = mirW n (upd f (2 * n + 4) v) := by
  show (⟨[[f (2 * n + 2), f (2 * n + 3), v], rowOf (2 * n + 2) f], 2⟩ : Mach.Wd) = ⟨[[upd f (2 * n + 4) v (2 * n + 2), upd f (2 * n + 4) v (2 * n + 3), upd f (2 * n + 4) v (2 * n + 4)], rowOf (2 * n + 2) (upd f (2 * n + 4) v)], 2⟩
  rw [row_same (by omega), upd_same, upd_other (by omega), upd_other (by omega)]

theorem rowAt_same {n q v : Nat} {f : Nat → Nat} {row : List Nat} (hpos : 0 < n) (h : 2 * n + 2 ≤ q) (R : RowAt n f row) : RowAt n (upd f q v) row where
  len := R.len
  put := by rw [upd_other (by omega), upd_other (by omega)]; exact R.put
  t := by rw [upd_other (by omega)]; exact R.t
  full := fun i x hi => by
    have hm := Nat.mod_lt (f 1 + i) hpos
    rw [upd_other (m := f) (i := 1) (by omega), upd_other (by omega), upd_other (by omega)]
    exact R.full i x hi
  free := fun i h1 h2 => by
    have hm := Nat.mod_lt (f 1 + i) hpos
    rw [upd_other (m := f) (i := 1) (by omega), upd_other (by omega)]
    exact R.free i h1 h2

section
variable {B : Hand} {gv : Value}
def DoneT (A : Acc B gv) (n : Nat) (kd v : Nat) (s : A.S) (Q : List Nat → A.S → Prop) : Prop :=
  if kd = 0 then OfferT A n v s fun q s => Q [yes q] s
  else if kd = 1 then MTakeT A n s fun o s => Q [o.getD 0, yes o.isSome] s
  else CountsT A n s fun a b c s => Q [a, b, c] s
end
/-- the machine's call -/
def callCl (n kd v : Nat) : Mach.Cl := if kd = 0 then Mach.rofferCl n v else if kd = 1 then Mach.rtakeCl n else Mach.rcountsCl

section
variable {B : Hand} [Lets B] {x : B.X} {n k nb : Nat} {addr : Nat → Nat × Nat} {K : List (Nat × Nat × Value)} {ap : Apart addr (2 * n + 5) K} {f : Nat → Nat}

theorem done_comes {row : List Nat} (hn : n = 2 ^ k) (hk0 : 1 ≤ k) (hk : k ≤ 10) {kd v : Nat} (hv : v < 18446744073709551616) (R : RowAt n f row) :
    ∃ told f' row' ms, DoneT (notesAcc x addr (2 * n + 5) K ap nb) n kd v (f, []) (fun told' s' => told' = told ∧ s' = (f', ms.map mkI)) ∧ Mach.Comes 30 (ms.length + 1) (mirW n f) (callCl n kd v) (mirW n f') told ms ∧ ms.length ≤ 7 ∧ told.length ≤ 3 ∧ RowAt n f' row' := by
  have hle : n ≤ 1024 := by rw [hn]; exact pow_le hk
  have hpos : 2 ≤ n := by have := Nat.pow_le_pow_right (n := 2) (by omega) hk0; omega
  have h0 : ([] : List (Bool × List Nat)).length = 0 := rfl
  have hN : 2 * n + 2 ≤ 2 * n + 5 := by omega
  by_cases k0 : kd = 0
  · obtain ⟨a, ha⟩ : ∃ a, (f (2 * n + 2) + 1) % 18446744073709551616 = a := ⟨_, rfl⟩
    obtain ⟨f', mk, q, R', hm, hprog, hmach⟩ := put_step (x := x) (nb := nb) (ap := ap) (on := 1) hN mirW_at hn hk0 hk hv (rowAt_same (q := 2 * n + 2) (v := a) (by omega) (by omega) R)
    have hcl : callCl n kd v = Mach.rofferCl n v := if_pos k0
    have o2 := Mach.roffer_2 (cs := [Mach.rofferCl n v]) (c := 0) (pre := []) (n := n) (v := v) (w := mirW n f) rfl h0 rfl rfl ha rfl
    rw [mirW_0] at o2
    obtain ⟨r', e1, e9, hr⟩ := hmach [Mach.rofferCl n v] 0 _ 3 [] [] (upd (upd (upd (fun _ => 0) 0 v) 2 1) 3 a) rfl Mach.roffer_has h0 rfl rfl
    cases q with
    | true =>
      refine ⟨[1], f', _, (3, 0) :: mk, (iff_of_eq (if_pos k0)).mpr ⟨by simp, by omega, ?_⟩, ?_, by simp; omega, by simp, R'⟩
      · dsimp only [notesAcc]
        rw [ha]
        refine hprog _ _ (by simp) ?_
        rw [if_pos rfl]
        exact ⟨rfl, rfl⟩
      · rw [hcl]
        refine Mach.comes_runs (Mach.onF_more (k := 10) (Mach.roffer_on (n := n) (v := v) rfl h0 hv)) (.cons o2 ?_) (by simp; omega)
        exact hr _ (Mach.roffer_yes rfl h0 e1 (Mach.on_over (f := 19) rfl))
    | false =>
      obtain ⟨a2, ha2⟩ : ∃ a, (f' (2 * n + 3) + 1) % 18446744073709551616 = a := ⟨_, rfl⟩
      have o22 := Mach.roffer_22 (cs := [Mach.rofferCl n v]) (c := 0) (pre := []) (n := n) (v := v) (w := mirW n f') rfl h0 e1 e9 rfl rfl ha2 rfl (Mach.on_over (f := 19) rfl)
      rw [mirW_1] at o22
      refine ⟨[0], upd f' (2 * n + 3) a2, _, (3, 0) :: (mk ++ [(3, 1)]), (iff_of_eq (if_pos k0)).mpr ⟨by simp, by omega, ?_⟩, ?_, by simp; omega, by simp, rowAt_same (by omega) (by omega) R'⟩
      · dsimp only [notesAcc]
        rw [ha]
        refine hprog _ _ (by simp) ?_
        rw [if_neg (by decide)]
        refine ⟨by simp; omega, by show 2 * n + 3 < 2 * n + 5; omega, ?_⟩
        dsimp only [notesAcc]
        rw [ha2]
        exact ⟨rfl, by simp [mkI]⟩
      · rw [hcl]
        refine Mach.comes_runs (Mach.onF_more (k := 10) (Mach.roffer_on (n := n) (v := v) rfl h0 hv)) (.cons o2 ?_) (by simp; omega)
        exact (hr _ (Mach.roffer_no rfl h0 e1)).trans (.cons o22 .nil)
  · by_cases k1 : kd = 1
    · obtain ⟨f', mk, R', hm, hm0, hprog, hmach⟩ := take_step (x := x) (nb := nb) (ap := ap) (on := 1) hN mirW_at hn hk0 hk R
      have hcl : callCl n kd v = Mach.rtakeCl n := (if_neg k0).trans (if_pos k1)
      obtain ⟨r', e0, e1, e9, e3, hr⟩ := hmach [Mach.rtakeCl n] 0 _ 0 [] [] (fun _ => 0) rfl Mach.rtake_has h0 rfl
      cases row with
      | nil =>
        refine ⟨[0, 0], f', _, mk, (iff_of_eq ((if_neg k0).trans (if_pos k1))).mpr (hprog [] _ (by simp) ⟨rfl, rfl⟩), ?_, by omega, by simp, R'⟩
        rw [hcl]
        refine Mach.comes_runs (Mach.onF_more (k := 10) (Mach.rtake_on (n := n) rfl h0)) ?_ (by omega)
        exact hr _ (Mach.rtake_no (n := n) rfl h0 e0 e1 e9 (Mach.on_over (f := 19) rfl))
      | cons y row =>
        obtain ⟨a2, ha2⟩ : ∃ a, (f' (2 * n + 4) + 1) % 18446744073709551616 = a := ⟨_, rfl⟩
        have o21 := Mach.rtake_21 (cs := [Mach.rtakeCl n]) (c := 0) (pre := []) (n := n) (w := mirW n f') rfl h0 e0 e1 e9 rfl rfl ha2 rfl (Mach.on_over (f := 19) rfl)
        rw [mirW_2] at o21
        refine ⟨[y, 1], upd f' (2 * n + 4) a2, _, mk ++ [(3, 2)], (iff_of_eq ((if_neg k0).trans (if_pos k1))).mpr (hprog [] _ (by simp) ?_), ?_, by simp; omega, by simp, rowAt_same (by omega) (by omega) R'⟩
        · show _ ∧ _
          refine ⟨by simp; omega, by show 2 * n + 4 < 2 * n + 5; omega, ?_⟩
          dsimp only [notesAcc]
          rw [ha2]
          exact ⟨rfl, by simp [mkI]⟩
        · rw [hcl]
          refine Mach.comes_runs (Mach.onF_more (k := 10) (Mach.rtake_on (n := n) rfl h0)) ?_ (by simp; omega)
          exact (hr _ (Mach.rtake_yes (n := n) rfl h0 e1 e9)).trans (.cons o21 .nil)
    · have hcl : callCl n kd v = Mach.rcountsCl := (if_neg k0).trans (if_neg k1)
      refine ⟨[f (2 * n + 2), f (2 * n + 3), f (2 * n + 4)], f, _, [(1, 0), (1, 1), (1, 2)], (iff_of_eq ((if_neg k0).trans (if_neg k1))).mpr ⟨by simp, by show 2 * n + 2 < 2 * n + 5; omega, by simp, by show 2 * n + 3 < 2 * n + 5; omega, by simp, by show 2 * n + 4 < 2 * n + 5; omega, rfl, rfl⟩, ?_, by simp, by simp, R⟩
      rw [hcl]
      refine Mach.comes_runs (Mach.onF_more (k := 10) (Mach.rcounts_on rfl h0)) ?_ (by simp)
      exact .cons (Mach.rcounts_0 rfl h0 rfl rfl) (.cons (Mach.rcounts_1 rfl h0 rfl rfl) (.cons (Mach.rcounts_2 rfl h0 rfl rfl (Mach.on_over (f := 19) rfl)) .nil))
end
end Go.Proofs.Ytmkkanmkjfnpdaa
