/-
  A QUEUE with notes: a call's steps, the program's and the machine's, side by side.
-/
import Derived.Test.YthghlchcjeocpaaRow7n
import Derived.Test.YthghlchcjeocpaaCom
set_option linter.unusedVariables false
set_option linter.unusedSimpArgs false
namespace Go.Proofs.Ythghlchcjeocpaa
open Go Go.PB
attribute [local irreducible] Mo Bin Eql Tr Wo Ap

section
variable {B : Hand} [Lets B] {x : B.X} {r b n k nb : Nat} {h : r ≠ b}

/-- the access to a queue with notes -/
def queueAccN (x : B.X) (r b n nb : Nat) (h : r ≠ b) : Acc B (.iface 49 (.pointer (some ⟨nb, 0, none⟩))) := notesAcc x (twoAddr r b) (2 * n + 2) _ (two_apart h (.slice (some ⟨b, 0, none⟩) n n)) nb

theorem queue_at_n (h : r ≠ b) (hn : n = 2 ^ k) (hk : k ≤ 10) : QueueAt (queueAccN x r b n nb h) r b n k where
  hn := hn
  hk := hk
  hdr := fun s h hs => by
    obtain ⟨h1, h2, s1, hc, _⟩ := hs
    obtain ⟨h3, h4, s2, hd, _⟩ := hc
    exact ⟨rfl, .inl (s1.o1 _ _ _ (s2.o1 _ _ _ (hd.2 (r, 2, .slice (some ⟨b, 0, none⟩) n n) (List.mem_singleton.2 rfl))))⟩
  a0 := rfl
  a1 := rfl
  a2 := fun i _ => by show twoAddr r b (2 + i) = _; rw [Nat.add_comm]; rfl

variable {w whose : Nat} {f : Nat → Nat} {tr : List (Int × Nat)} {G : Option Nat → (Nat → Nat) × List (Int × Nat) → Prop} {t m q t1 : Nat}

theorem draw_none (hw : w < 2) (hn : m < n) (htr : tr.length + 3 < 1000000) (ht : f w = t) (hm : t % n = m) (hq : f (2 * m + 2) = q) (hd : 9223372036854775808 ≤ (q + 36893488147419103232 - t - whose) % 18446744073709551616)
    (g : G none (f, tr ++ [(1, w)] ++ [(1, 2 * m + 2)])) : DrawT (queueAccN x r b n nb h) n w whose (f, tr) G := by
  intro X hX
  have e2 : 2 + 2 * m = 2 * m + 2 := by omega
  refine hX _ ?_
  refine ⟨by show tr.length < _; omega, by show w < 2 * n + 2; omega, ?_⟩
  refine ⟨by simp; omega, by show 2 + 2 * (f w % n) < 2 * n + 2; rw [ht, hm]; omega, ?_⟩
  dsimp only [queueAccN, notesAcc]
  simp only [ht, hm, e2, hq]
  rw [if_pos hd]
  exact g

theorem draw_some (hw : w < 2) (hn : m < n) (htr : tr.length + 3 < 1000000) (ht : f w = t) (hm : t % n = m) (hq : f (2 * m + 2) = q) (hd : (q + 36893488147419103232 - t - whose) % 18446744073709551616 = 0) (ht1 : (t + 1) % 18446744073709551616 = t1)
    (g : G (some t) (upd f w t1, tr ++ [(1, w)] ++ [(1, 2 * m + 2)] ++ [(5, w)])) : DrawT (queueAccN x r b n nb h) n w whose (f, tr) G := by
  intro X hX
  have e2 : 2 + 2 * m = 2 * m + 2 := by omega
  refine hX _ ?_
  refine ⟨by show tr.length < _; omega, by show w < 2 * n + 2; omega, ?_⟩
  refine ⟨by simp; omega, by show 2 + 2 * (f w % n) < 2 * n + 2; rw [ht, hm]; omega, ?_⟩
  dsimp only [queueAccN, notesAcc]
  simp only [ht, hm, e2, hq]
  rw [hd, if_neg (by omega), if_neg (by omega)]
  refine ⟨by simp; omega, by omega, ?_⟩
  rw [if_pos trivial, if_pos trivial, ht1]
  exact g

theorem take_step {row : List Nat} (hn : n = 2 ^ k) (hk0 : 1 ≤ k) (hk : k ≤ 10) (R : RowAt n f row) : ∃ f' mk, RowAt n f' row.tail ∧ mk.length ≤ 5 ∧ (row = [] → mk.length ≤ 2) ∧
    (∀ tr G, tr.length + 6 < 1000000 → G row.head? (f', tr ++ mk.map mkI) → TakeT (queueAccN x r b n nb h) n (f, tr) G) ∧
    ∀ cs c cl bb pre said r, cs[c]? = some cl → Mach.HasTake cl 0 n bb → pre.length = c → r 9 = 0 → ∃ r', r' 0 = row.head?.getD 0 ∧ r' 1 = yes row.head?.isSome ∧ r' 9 = 0 ∧ r' 3 = r 3 ∧
      ∀ t', Mach.onF 26 (Mach.T cs c (bb + 19) r' pre said) = some t' → Mach.Runs 30 ⟨[rowOf (2 * n + 2) f], 1⟩ (Mach.T cs c bb r pre said) mk ⟨[rowOf (2 * n + 2) f'], 1⟩ t' := by
  have hle : n ≤ 1024 := by rw [hn]; exact pow_le hk
  have hpos : 2 ≤ n := by have := Nat.pow_le_pow_right (n := 2) (by omega) hk0; omega
  have hp := take_plain hn hk0 hk R
  have ht := R.t
  obtain ⟨t, ht0⟩ : ∃ t, f 1 = t := ⟨_, rfl⟩
  obtain ⟨m, hm⟩ : ∃ m, t % n = m := ⟨_, rfl⟩
  have hmod : m < n := by rw [← hm]; exact Nat.mod_lt _ (by omega)
  obtain ⟨t1, ht1⟩ : ∃ t1, (t + 1) % 18446744073709551616 = t1 := ⟨_, rfl⟩
  obtain ⟨tn, htn⟩ : ∃ tn, (t + n) % 18446744073709551616 = tn := ⟨_, rfl⟩
  obtain ⟨q, hq⟩ : ∃ q, f (2 * m + 2) = q := ⟨_, rfl⟩
  have hand : (t &&& (n - 1)) % 18446744073709551616 = m := by rw [Mach.qmask_mod hn, hm]; omega
  rw [ht0] at ht
  have e2 : 2 + 2 * m = 2 * m + 2 := by omega
  have e3 : 3 + 2 * m = 2 * m + 3 := by omega
  have hv1 : (rowOf (2 * n + 2) f)[1]? = some t := by rw [rowOf_get (by omega), ht0]
  have hvq : (rowOf (2 * n + 2) f)[2 * m + 2]? = some q := by rw [rowOf_get (by omega), hq]
  have hprog : (q + 36893488147419103232 - t - 1) % 18446744073709551616 = (q + 18446744073709551616 - t1) % 18446744073709551616 := by omega
  obtain ⟨d, hd⟩ : ∃ d, (q + 18446744073709551616 - t1) % 18446744073709551616 = d := ⟨_, rfl⟩
  rw [hd] at hprog
  cases row with
  | nil =>
    dsimp only at hp
    rw [ht0, hm, ht1, e2, hq, hd] at hp
    refine ⟨f, [(1, 1), (1, 2 * m + 2)], R, by simp, by simp, fun tr G htr g => ?_, fun cs c cl bb pre said r hc hh h0 h9 => ?_⟩
    · refine draw_none (by omega) hmod (by omega) ht0 hm hq (by rw [hprog]; exact hp) ?_
      rw [List.append_assoc]
      exact g
    · refine ⟨Mach.trN r n t m t1 q d, rfl, rfl, h9, rfl, fun t' ho => ?_⟩
      exact .cons (Mach.qtake_0 hc hh h0 rfl hv1 h9 (by omega) hand (by omega) ht1) (.cons (Mach.qtake_5F hc hh h0 rfl hvq (by omega) hd hp ho) .nil)
  | cons v row =>
    dsimp only at hp
    rw [ht0, hm, ht1, htn, e2, e3, hq, hd] at hp
    obtain ⟨hp1, hp2, hp3⟩ := hp
    rw [hp1] at hprog hd
    refine ⟨upd (upd f 1 t1) (2 * m + 2) tn, [(1, 1), (1, 2 * m + 2), (5, 1), (1, 2 * m + 3), (2, 2 * m + 2)], hp3, by simp, (fun e => by cases e), fun tr G htr g => ?_, fun cs c cl bb pre said r hc hh h0 h9 => ?_⟩
    · refine draw_some (by omega) hmod (by omega) ht0 hm hq hprog ht1 ?_
      dsimp only
      rw [hm]
      refine ⟨by simp; omega, by show 3 + 2 * m < 2 * n + 2; omega, ?_⟩
      refine ⟨by simp; omega, by show 2 + 2 * m < 2 * n + 2; omega, ?_⟩
      dsimp only
      rw [e2, e3, htn, upd_other (by omega), hp2]
      simpa [mkI] using g
    · refine ⟨Mach.trS r n t m t1 q v tn, rfl, rfl, h9, rfl, fun t' ho => ?_⟩
      have hl2 : (rowOf (2 * n + 2) (upd f 1 t1))[2 * m + 3]? = some v := by rw [rowOf_get (by omega), upd_other (by omega), hp2]
      refine .cons (Mach.qtake_0 hc hh h0 rfl hv1 h9 (by omega) hand (by omega) ht1) (.cons (Mach.qtake_5T hc hh h0 rfl hvq h9 (by omega) hd) ?_)
      refine .cons (Mach.qtake_10T hc hh h0 rfl hv1 h9 row_set0) ?_
      refine .cons (Mach.qtake_12 hc hh h0 rfl hl2 h9 (by omega) htn) ?_
      exact .cons (Mach.qtake_14 hc hh h0 rfl (by omega) (by rw [rowOf_len]; omega) row_set0 (Mach.onF_more (k := 2) ho)) .nil

theorem put_step {row : List Nat} {v : Nat} (hn : n = 2 ^ k) (hk0 : 1 ≤ k) (hk : k ≤ 10) (hv : v < 18446744073709551616) (R : RowAt n f row) : ∃ f' mk q, RowAt n f' (if row.length < n then row ++ [v] else row) ∧ mk.length ≤ 5 ∧
    (∀ tr G, tr.length + 6 < 1000000 → G q (f', tr ++ mk.map mkI) → PutT (queueAccN x r b n nb h) n v (f, tr) G) ∧
    ∀ cs c cl bb pre said r, cs[c]? = some cl → Mach.HasPut cl 0 n bb → pre.length = c → r 9 = 0 → r 0 = v → ∃ r', r' 1 = yes q ∧ ∀ t', Mach.onF 26 (Mach.T cs c (bb + 17) r' pre said) = some t' → Mach.Runs 30 ⟨[rowOf (2 * n + 2) f], 1⟩ (Mach.T cs c bb r pre said) mk ⟨[rowOf (2 * n + 2) f'], 1⟩ t' := by
  have hle : n ≤ 1024 := by rw [hn]; exact pow_le hk
  have hpos : 2 ≤ n := by have := Nat.pow_le_pow_right (n := 2) (by omega) hk0; omega
  have hp := put_plain (v := v) hn hk0 hk R
  have ht : f 0 < 18446744073709551616 := by rw [R.put]; exact Nat.mod_lt _ (by decide)
  obtain ⟨t, ht0⟩ : ∃ t, f 0 = t := ⟨_, rfl⟩
  obtain ⟨m, hm⟩ : ∃ m, t % n = m := ⟨_, rfl⟩
  have hmod : m < n := by rw [← hm]; exact Nat.mod_lt _ (by omega)
  obtain ⟨t1, ht1⟩ : ∃ t1, (t + 1) % 18446744073709551616 = t1 := ⟨_, rfl⟩
  obtain ⟨q, hq⟩ : ∃ q, f (2 * m + 2) = q := ⟨_, rfl⟩
  have hand : (t &&& (n - 1)) % 18446744073709551616 = m := by rw [Mach.qmask_mod hn, hm]; omega
  rw [ht0] at ht
  have e2 : 2 + 2 * m = 2 * m + 2 := by omega
  have e3 : 3 + 2 * m = 2 * m + 3 := by omega
  have hv1 : (rowOf (2 * n + 2) f)[0]? = some t := by rw [rowOf_get (by omega), ht0]
  have hvq : (rowOf (2 * n + 2) f)[2 * m + 2]? = some q := by rw [rowOf_get (by omega), hq]
  have hprog : (q + 36893488147419103232 - t - 0) % 18446744073709551616 = (q + 18446744073709551616 - t) % 18446744073709551616 := by omega
  obtain ⟨d, hd⟩ : ∃ d, (q + 18446744073709551616 - t) % 18446744073709551616 = d := ⟨_, rfl⟩
  rw [hd] at hprog
  rw [ht0, hm, ht1, e2, e3, hq, hd] at hp
  by_cases hf : row.length < n
  · rw [if_pos hf] at hp ⊢
    obtain ⟨hp1, hp3⟩ := hp
    rw [hp1] at hprog hd
    refine ⟨upd (upd (upd f 0 t1) (2 * m + 3) v) (2 * m + 2) t1, [(1, 0), (1, 2 * m + 2), (5, 0), (2, 2 * m + 3), (2, 2 * m + 2)], true, hp3, by simp, fun tr G htr g => ?_, fun cs c cl bb pre said r hc hh h0 h9 hr0 => ?_⟩
    · refine draw_some (by omega) hmod (by omega) ht0 hm hq hprog ht1 ?_
      dsimp only
      rw [hm]
      refine ⟨by simp; omega, by show 3 + 2 * m < 2 * n + 2; omega, ?_⟩
      refine ⟨by simp; omega, by show 2 + 2 * m < 2 * n + 2; omega, ?_⟩
      dsimp only
      rw [e2, e3, ht1]
      simpa [mkI] using g
    · refine ⟨Mach.qrS r n t m q t1, rfl, fun t' ho => ?_⟩
      refine .cons (Mach.qput_0 hc hh h0 rfl hv1 h9 (by omega) hand (by omega)) (.cons (Mach.qput_4T hc hh h0 rfl hvq h9 (by omega) hd ht1) ?_)
      refine .cons (Mach.qput_10T hc hh h0 rfl hv1 h9 row_set0) ?_
      refine .cons (Mach.qput_12 hc hh h0 rfl hr0 (by omega) (by rw [rowOf_len]; omega) row_set0) ?_
      exact .cons (Mach.qput_13 hc hh h0 rfl (by omega) (by rw [rowOf_len]; omega) row_set0 ho) .nil
  · rw [if_neg hf] at hp ⊢
    refine ⟨f, [(1, 0), (1, 2 * m + 2)], false, R, by simp, fun tr G htr g => ?_, fun cs c cl bb pre said r hc hh h0 h9 hr0 => ?_⟩
    · refine draw_none (by omega) hmod (by omega) ht0 hm hq (by rw [hprog]; exact hp) ?_
      rw [List.append_assoc]
      exact g
    · exact ⟨Mach.qrN r n t m q d, rfl, fun t' ho => .cons (Mach.qput_0 hc hh h0 rfl hv1 h9 (by omega) hand (by omega)) (.cons (Mach.qput_4F hc hh h0 rfl hvq (by omega) hd hp ho) .nil)⟩

theorem drain_step (hn : n = 2 ^ k) (hk0 : 1 ≤ k) (hk : k ≤ 10) : ∀ (j : Nat) {f : Nat → Nat} {row : List Nat}, row.length ≤ j → RowAt n f row → ∃ f' mk, RowAt n f' [] ∧ mk.length ≤ 5 * row.length + 2 ∧
    (∀ acc tr G, tr.length + (6 * j + 6) < 1000000 → G (acc ++ row) (f', tr ++ mk.map mkI) → DrainT (queueAccN x r b n nb h) n j acc (f, tr) G) ∧
    (0 < j → ∀ cs c pre said r t', cs[c]? = some (Mach.qdrainCl n) → pre.length = c → r 9 = 0 → r 3 = j → j < 18446744073709551616 → Mach.onF 20 (Mach.Bt cs (c + 1) (pre ++ [(true, said ++ row)])) = some t' → Mach.Runs 30 ⟨[rowOf (2 * n + 2) f], 1⟩ (Mach.T cs c 1 r pre said) mk ⟨[rowOf (2 * n + 2) f'], 1⟩ t') := by
  intro j
  induction j with
  | zero =>
    intro f row hl R
    cases row with
    | cons a l => simp at hl
    | nil => exact ⟨f, [], R, by simp, fun acc tr G _ g => by simpa [DrainT] using g, fun h0 => absurd h0 (by omega)⟩
  | succ j ih =>
    intro f row hl R
    obtain ⟨f1, mk1, R1, hm1, hm0, hprog, hmach⟩ := take_step (x := x) (r := r) (b := b) (nb := nb) (h := h) hn hk0 hk R
    cases row with
    | nil =>
      refine ⟨f1, mk1, R1, by have := hm0 rfl; simp; omega, fun acc tr G htr g => ?_, fun _ cs c pre said r t' hc h0 h9 h3 hj ho => ?_⟩
      · refine hprog tr _ (by omega) ?_
        show G acc _
        rwa [List.append_nil] at g
      · obtain ⟨r', e0, e1, e9, e3, hr⟩ := hmach cs c _ 1 pre said r hc Mach.qdrain_has h0 h9
        exact hr t' (Mach.qdrain_none hc h0 e1 e9 (by rwa [List.append_nil] at ho))
    | cons v row =>
      simp only [List.length_cons] at hl
      by_cases hj0 : j = 0
      · subst hj0
        cases row with
        | cons a l => simp at hl
        | nil =>
          refine ⟨f1, mk1, R1, by simp; omega, fun acc tr G htr g => ?_, fun _ cs c pre said r t' hc h0 h9 h3 hj ho => ?_⟩
          · exact hprog tr _ (by omega) g
          · obtain ⟨r', e0, e1, e9, e3, hr⟩ := hmach cs c _ 1 pre said r hc Mach.qdrain_has h0 h9
            exact hr t' (Mach.qdrain_last (v := v) hc h0 e0 e1 e9 (by rw [e3, h3]) ho)
      · obtain ⟨f2, mk2, R2, hm2, hprog2, hmach2⟩ := ih (row := row) (by omega) R1
        refine ⟨f2, mk1 ++ mk2, R2, by simp; omega, fun acc tr G htr g => ?_, fun _ cs c pre said r t' hc h0 h9 h3 hj ho => ?_⟩
        · refine hprog tr _ (by omega) ?_
          show DrainT _ n j (acc ++ [v]) _ G
          refine hprog2 _ _ _ (by simp; omega) ?_
          simpa using g
        · obtain ⟨r', e0, e1, e9, e3, hr⟩ := hmach cs c _ 1 pre said r hc Mach.qdrain_has h0 h9
          refine (hr _ (Mach.qdrain_more (v := v) (k := j) hc h0 e0 e1 e9 (by rw [e3, h3]) (by omega) (by omega))).trans ?_
          refine hmach2 (by omega) cs c pre (said ++ [v]) (Mach.drS r' j) t' hc h0 e9 rfl (by omega) ?_
          simpa using ho

/-- WHAT done DOES -/
def DoneT {gv : Value} (A : Acc B gv) (n : Nat) (kd v : Nat) (s : A.S) (Q : List Nat → A.S → Prop) : Prop :=
  if kd = 0 then PutT A n v s fun q s => Q [yes q] s
  else if kd = 1 then TakeT A n s fun q s => Q [q.getD 0, yes q.isSome] s
  else DrainT A n n [] s Q

/-- the machine's call -/
def callCl (n kd v : Nat) : Mach.Cl := if kd = 0 then Mach.qputCl n v else if kd = 1 then Mach.qtakeCl n else Mach.qdrainCl n

theorem done_comes {row : List Nat} (hn : n = 2 ^ k) (hk0 : 1 ≤ k) (hk : k ≤ 10) {kd v : Nat} (hv : v < 18446744073709551616) (R : RowAt n f row) :
    ∃ told f' row' ms, DoneT (queueAccN x r b n nb h) n kd v (f, []) (fun told' s' => told' = told ∧ s' = (f', ms.map mkI)) ∧ Mach.Comes 30 (ms.length + 1) ⟨[rowOf (2 * n + 2) f], 1⟩ (callCl n kd v) ⟨[rowOf (2 * n + 2) f'], 1⟩ told ms ∧ ms.length ≤ 5122 ∧ told.length ≤ 1026 ∧ RowAt n f' row' := by
  have hle : n ≤ 1024 := by rw [hn]; exact pow_le hk
  have hpos : 2 ≤ n := by have := Nat.pow_le_pow_right (n := 2) (by omega) hk0; omega
  have hlen := R.len
  have h0 : ([] : List (Bool × List Nat)).length = 0 := rfl
  by_cases k0 : kd = 0
  · obtain ⟨f', mk, q, R', hm, hprog, hmach⟩ := put_step (x := x) (r := r) (b := b) (nb := nb) (h := h) hn hk0 hk hv R
    refine ⟨_, f', _, mk, (iff_of_eq (if_pos k0)).mpr (hprog [] _ (by simp) ⟨rfl, rfl⟩), ?_, by omega, by simp, R'⟩
    rw [show callCl n kd v = Mach.qputCl n v from if_pos k0]
    refine Mach.comes_runs (Mach.onF_more (k := 10) (Mach.qput_on (n := n) (v := v) rfl h0 hv)) ?_ (by omega)
    obtain ⟨r', e1, hr⟩ := hmach [Mach.qputCl n v] 0 _ 1 [] [] (upd (fun _ => 0) 0 v) rfl Mach.qput_has h0 rfl rfl
    exact hr _ (Mach.qput_end (n := n) (v := v) rfl h0 e1 (Mach.on_over (f := 19) rfl))
  · by_cases k1 : kd = 1
    · obtain ⟨f', mk, R', hm, _, hprog, hmach⟩ := take_step (x := x) (r := r) (b := b) (nb := nb) (h := h) hn hk0 hk R
      refine ⟨_, f', _, mk, (iff_of_eq ((if_neg k0).trans (if_pos k1))).mpr (hprog [] _ (by simp) ⟨rfl, rfl⟩), ?_, by omega, by simp, R'⟩
      rw [show callCl n kd v = Mach.qtakeCl n from (if_neg k0).trans (if_pos k1)]
      refine Mach.comes_runs (Mach.onF_more (k := 10) (Mach.qtake_on (n := n) rfl h0)) ?_ (by omega)
      obtain ⟨r', e0, e1, e9, e3, hr⟩ := hmach [Mach.qtakeCl n] 0 _ 0 [] [] (fun _ => 0) rfl Mach.qtake_has h0 rfl
      exact hr _ (Mach.qtake_end (n := n) rfl h0 e0 e1 (Mach.on_over (f := 19) rfl))
    · obtain ⟨f', mk, R', hm, hprog, hmach⟩ := drain_step (x := x) (r := r) (b := b) (nb := nb) (h := h) hn hk0 hk n hlen R
      refine ⟨_, f', _, mk, (iff_of_eq ((if_neg k0).trans (if_neg k1))).mpr (hprog [] [] _ (by simp; omega) ⟨rfl, rfl⟩), ?_, by omega, by simp; omega, R'⟩
      rw [show callCl n kd v = Mach.qdrainCl n from (if_neg k0).trans (if_neg k1)]
      refine Mach.comes_runs (Mach.onF_more (k := 10) (Mach.qdrain_on (n := n) rfl h0 (by omega))) ?_ (by omega)
      exact hmach (by omega) _ _ _ _ _ _ rfl h0 rfl rfl (by omega) (Mach.on_over (f := 19) rfl)

end
end Go.Proofs.Ythghlchcjeocpaa
