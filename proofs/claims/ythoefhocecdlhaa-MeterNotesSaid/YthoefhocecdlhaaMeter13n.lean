/-
  A METER with notes: a call's steps, the program's and the machine's, side by side.
-/
import Derived.Test.YthoefhocecdlhaaMeterD
import Derived.Test.YthoefhocecdlhaaMeter13m
import Derived.Test.YthoefhocecdlhaaCom
set_option linter.unusedVariables false
set_option linter.unusedSimpArgs false
namespace Go.Proofs.Ythoefhocecdlhaa
open Go Go.PB
attribute [local irreducible] Mo Bin Eql Tr Wo Ap Wle

/-- what n tokens weigh; what they may not pass -/
def needN (den burst n : Nat) : Nat := if n ≤ burst then n * den else 0
def topN (num den burst now n : Nat) : Nat := if n ≤ burst then now * num + burst * den else 0

theorem bd_pos {den burst : Nat} (h1 : 1 ≤ burst) (h2 : 1 ≤ den) : 1 ≤ burst * den := Nat.mul_pos h1 h2

/-- Take, as the machine counts -/
theorem take_plain {num den burst s now n : Nat} (O : BOk num den burst) (ht : now ≤ 1099511627776) (hs : s ≤ 72057662757404672) :
    now * num ≤ 72057594037927936 ∧ topN num den burst now n ≤ 72057662757404672 ∧ needN den burst n ≤ 68719476736 ∧
    takeN num den burst s now n = if topN num den burst now n = 0 then none else if topN num den burst now n < max s (now * num) + needN den burst n then none else some (max s (now * num) + needN den burst n) := by
  have hm : now * num ≤ 1099511627776 * 65536 := Nat.mul_le_mul ht O.n2
  have hbd : burst * den ≤ 1048576 * 65536 := Nat.mul_le_mul O.b2 O.d2
  have hb1 := bd_pos O.b1 O.d1
  have hd1 := O.d1
  unfold takeN topN needN
  by_cases c : n ≤ burst
  · have hn : n * den ≤ burst * den := Nat.mul_le_mul_right _ c
    simp only [if_pos c]
    generalize now * num = ck at *
    generalize burst * den = bd at *
    generalize n * den = nd at *
    refine ⟨by omega, by omega, by omega, ?_⟩
    rw [if_neg (show ¬ ck + bd = 0 by omega)]
    by_cases d : bd < nd + (max s ck - ck)
    · rw [if_pos d, if_pos (by omega)]
    · rw [if_neg d, if_neg (by omega), Nat.mod_eq_of_lt (by omega)]
  · have hn : (burst + 1) * den ≤ n * den := Nat.mul_le_mul_right _ (by omega)
    rw [Nat.add_mul, Nat.one_mul] at hn
    simp only [if_neg c]
    generalize now * num = ck at *
    generalize burst * den = bd at *
    generalize n * den = nd at *
    refine ⟨by omega, by omega, by omega, ?_⟩
    rw [if_pos (by omega), if_pos trivial]

theorem level_plain {num den burst s now : Nat} (O : BOk num den burst) (ht : now ≤ 1099511627776) (hs : s ≤ 72057662757404672) :
    now * num ≤ 72057594037927936 ∧ burst * den ≤ 68719476736 ∧ levelN num den burst s now = (if now * num + burst * den < max s (now * num) then 0 else (now * num + burst * den - max s (now * num)) / den) ∧ levelN num den burst s now ≤ 68719476736 := by
  have hm : now * num ≤ 1099511627776 * 65536 := Nat.mul_le_mul ht O.n2
  have hbd : burst * den ≤ 1048576 * 65536 := Nat.mul_le_mul O.b2 O.d2
  unfold levelN
  generalize now * num = ck at *
  generalize burst * den = bd at *
  refine ⟨by omega, by omega, ?_, ?_⟩
  · by_cases c : bd < max s ck - ck
    · rw [if_pos c, if_pos (by omega)]
    · rw [if_neg c, if_neg (by omega), show bd - (max s ck - ck) = ck + bd - max s ck by omega]
  · by_cases c : bd < max s ck - ck
    · rw [if_pos c]; omega
    · rw [if_neg c]
      have := Nat.div_le_self (bd - (max s ck - ck)) den
      omega

section
variable {B : Hand} [Lets B] {x : B.X} {gv : Value} {r nb num den burst now n : Nat}

/-- the access to a meter with notes -/
def meterAccN (x : B.X) (r num den burst nb : Nat) : Acc B (.iface 50 (.pointer (some ⟨nb, 0, none⟩))) := notesAcc x (mAddr r) 1 (mK r num den burst) (m_apart r num den burst) nb
omit [Lets B] in
theorem rds_in {M : List HProp} {b o : Nat} {vs : List Value} (h : Rds M b o vs) : Rds [all M] b o vs := fun i v hv w st => h i v hv w (by have := star_open st; rwa [List.append_nil] at this)
theorem m_at_n (O : BOk num den burst) : MeterAt (meterAccN x r num den burst nb) r num den burst := ⟨O, fun s => rds_in fun i v hv => Rd.of .here (mC_rd i v hv), rfl⟩

/-- WHAT done DOES -/
def DoneT (A : Acc B gv) (num den burst kd now n : Nat) (s : A.S) (Q : List Nat → A.S → Prop) : Prop :=
  if kd = 0 then (if now ≤ 1099511627776 then MTakeT A num den burst now n s fun q s => Q [0, yes q] s else Q [5, 0] s)
  else if kd = 1 then (if now ≤ 1099511627776 then MLoadT A s fun o s => Q [0, levelN num den burst o now] s else Q [5, 0] s)
  else MLoadT A s fun o s => Q [0, o] s

/-- the machine's call -/
def callCl (num den burst kd now n : Nat) : Mach.Cl :=
  if kd = 0 then (if now ≤ 1099511627776 then Mach.mtakeCl (now * num) (needN den burst n) (topN num den burst now n) else Mach.mrefCl 5)
  else if kd = 1 then (if now ≤ 1099511627776 then Mach.mlevelCl (now * num) (burst * den) den else Mach.mrefCl 5)
  else Mach.mstateCl

theorem done_comes (O : BOk num den burst) {f : Nat → Nat} (hs : f 0 ≤ 72057662757404672) {kd : Nat} :
    ∃ told f' ms, DoneT (meterAccN x r num den burst nb) num den burst kd now n (f, []) (fun told' s' => told' = told ∧ s' = (f', ms.map mkI)) ∧ Mach.Comes 30 (ms.length + 1) ⟨[rowOf 1 f], 1⟩ (callCl num den burst kd now n) ⟨[rowOf 1 f'], 1⟩ told ms ∧ ms.length ≤ 2 ∧ told.length = 2 ∧ f' 0 ≤ 72057662757404672 := by
  have h0 : ([] : List (Bool × List Nat)).length = 0 := rfl
  have hv : (rowOf 1 f)[0]? = some (f 0) := rowOf_get (by omega)
  have hd1 := O.d1
  have hd2 := O.d2
  by_cases k0 : kd = 0
  · by_cases ht : now ≤ 1099511627776
    · obtain ⟨p1, p2, p3, p4⟩ := take_plain (n := n) O ht hs
      rw [show callCl num den burst kd now n = Mach.mtakeCl (now * num) (needN den burst n) (topN num den burst now n) from (if_pos k0).trans (if_pos ht)]
      have hD : ∀ Q, DoneT (meterAccN x r num den burst nb) num den burst kd now n (f, []) Q = MTakeT (meterAccN x r num den burst nb) num den burst now n (f, []) fun q s => Q [0, yes q] s := fun Q => (if_pos k0).trans (if_pos ht)
      have hT : ∀ {tk : Option Nat}, takeN num den burst (f 0) now n = tk → ∀ {G : Bool → (meterAccN x r num den burst nb).S → Prop}, (match tk with
          | none => G false (f, [(1, 0)])
          | some t => G true (upd f 0 t, [(1, 0), (5, 0)])) → MTakeT (meterAccN x r num den burst nb) num den burst now n (f, []) G := by
        intro tk htk G g X hX
        refine hX _ ⟨by show 0 < _; omega, by show 0 < 1; omega, ?_⟩
        show match takeN num den burst (f 0) now n with | none => _ | some t => _
        rw [htk]
        cases tk with
        | none => exact g
        | some t =>
          refine ⟨by show 1 < _; omega, by show 0 < 1; omega, ?_⟩
          rw [if_pos rfl]
          simp only [if_true]
          exact g
      generalize now * num = ck at *
      generalize needN den burst n = need at *
      generalize topN num den burst now n = top at *
      obtain ⟨t1, ht1⟩ : ∃ t1, max (f 0) ck = t1 := ⟨_, rfl⟩
      obtain ⟨t2, ht2⟩ : ∃ t2, t1 + need = t2 := ⟨_, rfl⟩
      rw [ht1, ht2] at p4
      have m1 : max (f 0) ck % 18446744073709551616 = t1 := by omega
      have m2 : (t1 + need) % 18446744073709551616 = t2 := by omega
      by_cases c1 : top = 0
      · subst c1
        rw [if_pos rfl] at p4
        refine ⟨[0, 0], f, [(1, 0)], (hD _).mpr (hT p4 ⟨rfl, rfl⟩), ?_, by simp, rfl, hs⟩
        refine Mach.comes_runs (Mach.onF_more (k := 10) (Mach.mtake_on rfl h0)) ?_ (by simp)
        exact .cons (Mach.mtake_0N rfl Mach.mtake_has h0 rfl hv rfl (by omega) m1 m2 (Mach.mtake_end rfl h0 rfl rfl (Mach.on_over (f := 9) rfl))) .nil
      · rw [if_neg c1] at p4
        by_cases c2 : top < t2
        · rw [if_pos c2] at p4
          refine ⟨[0, 0], f, [(1, 0)], (hD _).mpr (hT p4 ⟨rfl, rfl⟩), ?_, by simp, rfl, hs⟩
          refine Mach.comes_runs (Mach.onF_more (k := 10) (Mach.mtake_on rfl h0)) ?_ (by simp)
          exact .cons (Mach.mtake_0F rfl Mach.mtake_has h0 rfl hv rfl (by omega) m1 m2 (by omega) c1 c2 (Mach.mtake_end rfl h0 rfl rfl (Mach.on_over (f := 9) rfl))) .nil
        · rw [if_neg c2] at p4
          refine ⟨[0, 1], upd f 0 t2, [(1, 0), (5, 0)], (hD _).mpr (hT p4 ⟨rfl, rfl⟩), ?_, by simp, rfl, by rw [upd_same]; omega⟩
          refine Mach.comes_runs (Mach.onF_more (k := 10) (Mach.mtake_on rfl h0)) ?_ (by simp)
          exact .cons (Mach.mtake_0T rfl Mach.mtake_has h0 rfl hv rfl (by omega) m1 m2 (by omega) c1 c2) (.cons (Mach.mtake_7T rfl Mach.mtake_has h0 rfl hv rfl row_set0 (Mach.mtake_end rfl h0 rfl rfl (Mach.on_over (f := 9) rfl))) .nil)
    · rw [show callCl num den burst kd now n = Mach.mrefCl 5 from (if_pos k0).trans (if_neg ht)]
      refine ⟨[5, 0], f, [], (iff_of_eq ((if_pos k0).trans (if_neg ht))).mpr ⟨rfl, rfl⟩, ?_, by simp, rfl, hs⟩
      exact Mach.comes_runs (Mach.onF_more (k := 10) (Mach.mref_on rfl h0 (by omega) (Mach.on_over (f := 9) rfl))) .nil (by simp)
  · by_cases k1 : kd = 1
    · by_cases ht : now ≤ 1099511627776
      · obtain ⟨p1, p2, p3, p4⟩ := level_plain O ht hs
        rw [show callCl num den burst kd now n = Mach.mlevelCl (now * num) (burst * den) den from ((if_neg k0).trans (if_pos k1)).trans (if_pos ht)]
        refine ⟨[0, levelN num den burst (f 0) now], f, [(1, 0)], (iff_of_eq (((if_neg k0).trans (if_pos k1)).trans (if_pos ht))).mpr ⟨by show 0 < _; omega, by show 0 < 1; omega, rfl, rfl⟩, ?_, by simp, rfl, hs⟩
        refine Mach.comes_runs (Mach.onF_more (k := 10) (Mach.mlevel_on rfl h0)) ?_ (by simp)
        generalize levelN num den burst (f 0) now = lv at *
        generalize now * num = ck at *
        generalize burst * den = bd at *
        obtain ⟨t1, ht1⟩ : ∃ t1, max (f 0) ck = t1 := ⟨_, rfl⟩
        rw [ht1] at p3
        have m1 : max (f 0) ck % 18446744073709551616 = t1 := by omega
        have m2 : (ck + bd) % 18446744073709551616 = ck + bd := by omega
        by_cases c : ck + bd < t1
        · rw [if_pos c] at p3
          subst p3
          exact .cons (Mach.mlevel_F rfl h0 rfl hv (by omega) m1 m2 c (Mach.on_over (f := 9) rfl)) .nil
        · rw [if_neg c] at p3
          refine .cons (Mach.mlevel_T (t3 := ck + bd - t1) rfl h0 rfl hv (by omega) m1 m2 c (by omega) (by omega) ?_ (Mach.on_over (f := 9) rfl)) .nil
          rw [if_neg (show ¬ den = 0 by omega), ← p3]
          omega
      · rw [show callCl num den burst kd now n = Mach.mrefCl 5 from ((if_neg k0).trans (if_pos k1)).trans (if_neg ht)]
        refine ⟨[5, 0], f, [], (iff_of_eq (((if_neg k0).trans (if_pos k1)).trans (if_neg ht))).mpr ⟨rfl, rfl⟩, ?_, by simp, rfl, hs⟩
        exact Mach.comes_runs (Mach.onF_more (k := 10) (Mach.mref_on rfl h0 (by omega) (Mach.on_over (f := 9) rfl))) .nil (by simp)
    · rw [show callCl num den burst kd now n = Mach.mstateCl from (if_neg k0).trans (if_neg k1)]
      refine ⟨[0, f 0], f, [(1, 0)], (iff_of_eq ((if_neg k0).trans (if_neg k1))).mpr ⟨by show 0 < _; omega, by show 0 < 1; omega, rfl, rfl⟩, ?_, by simp, rfl, hs⟩
      refine Mach.comes_runs (Mach.onF_more (k := 10) (Mach.mstate_on rfl h0)) ?_ (by simp)
      exact .cons (Mach.mstate_0 rfl h0 rfl hv (Mach.on_over (f := 9) rfl)) .nil
end
end Go.Proofs.Ythoefhocecdlhaa
