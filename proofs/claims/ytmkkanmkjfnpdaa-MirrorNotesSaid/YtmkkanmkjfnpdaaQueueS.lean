/-
  A QUEUE with notes, wherever its words lie and whatever row of the machine's world they are: a put and a take of the program's and of the machine's are the same.
-/
import Derived.Test.YtmkkanmkjfnpdaaRow7p
import Derived.Test.YtmkkanmkjfnpdaaQueue
import Derived.Test.YtmkkanmkjfnpdaaCom
set_option linter.unusedVariables false
set_option linter.unusedSimpArgs false
namespace Go.Proofs.Ytmkkanmkjfnpdaa
open Go Go.PB
attribute [local irreducible] Mo Bin Eql Tr Wo Ap Wle

/-- the queue's words are row 'on' of the world -/
structure WdAt (W : (Nat → Nat) → Mach.Wd) (on n : Nat) : Prop where
  get : ∀ f, (W f).words[on]? = some (rowOf (2 * n + 2) f)
  set : ∀ f q v, q < 2 * n + 2 → (⟨(W f).words.set on ((rowOf (2 * n + 2) f).set q v), (W f).nl⟩ : Mach.Wd) = W (upd f q v)

section
variable {B : Hand} [Lets B] {x : B.X} {n k nb N on : Nat} {addr : Nat → Nat × Nat} {K : List (Nat × Nat × Value)} {ap : Apart addr N K} {W : (Nat → Nat) → Mach.Wd}
variable {w whose : Nat} {f : Nat → Nat} {tr : List (Int × Nat)} {G : Option Nat → (Nat → Nat) × List (Int × Nat) → Prop} {t m q t1 : Nat}

theorem to_W {q v g : Nat} {w : Mach.Wd} {t t' : Mach.Th} {mk : Nat × Nat} (HW : WdAt W on n) (hq : q < 2 * n + 2) (o : Mach.Op g w t mk ⟨(W f).words.set on ((rowOf (2 * n + 2) f).set q v), (W f).nl⟩ t') : Mach.Op g w t mk (W (upd f q v)) t' := by
  rw [← HW.set f q v hq]; exact o

theorem draw_none (hN : 2 * n + 2 ≤ N) (hw : w < 2) (hn : m < n) (htr : tr.length + 3 < 1000000) (ht : f w = t) (hm : t % n = m) (hq : f (2 * m + 2) = q) (hd : 9223372036854775808 ≤ (q + 36893488147419103232 - t - whose) % 18446744073709551616)
    (g : G none (f, tr ++ [(1, w)] ++ [(1, 2 * m + 2)])) : DrawT (notesAcc x addr N K ap nb) n w whose (f, tr) G := by
  intro X hX
  have e2 : 2 + 2 * m = 2 * m + 2 := by omega
  refine hX _ ?_
  refine ⟨by show tr.length < _; omega, by show w < N; omega, ?_⟩
  refine ⟨by simp; omega, by show 2 + 2 * (f w % n) < N; rw [ht, hm]; omega, ?_⟩
  dsimp only [notesAcc]
  simp only [ht, hm, e2, hq]
  rw [if_pos hd]
  exact g

theorem draw_some (hN : 2 * n + 2 ≤ N) (hw : w < 2) (hn : m < n) (htr : tr.length + 3 < 1000000) (ht : f w = t) (hm : t % n = m) (hq : f (2 * m + 2) = q) (hd : (q + 36893488147419103232 - t - whose) % 18446744073709551616 = 0) (ht1 : (t + 1) % 18446744073709551616 = t1)
    (g : G (some t) (upd f w t1, tr ++ [(1, w)] ++ [(1, 2 * m + 2)] ++ [(5, w)])) : DrawT (notesAcc x addr N K ap nb) n w whose (f, tr) G := by
  intro X hX
  have e2 : 2 + 2 * m = 2 * m + 2 := by omega
  refine hX _ ?_
  refine ⟨by show tr.length < _; omega, by show w < N; omega, ?_⟩
  refine ⟨by simp; omega, by show 2 + 2 * (f w % n) < N; rw [ht, hm]; omega, ?_⟩
  dsimp only [notesAcc]
  simp only [ht, hm, e2, hq]
  rw [hd, if_neg (by omega), if_neg (by omega)]
  refine ⟨by simp; omega, by omega, ?_⟩
  rw [if_pos trivial, if_pos trivial, ht1]
  exact g

theorem take_step {row : List Nat} (hN : 2 * n + 2 ≤ N) (HW : WdAt W on n) (hn : n = 2 ^ k) (hk0 : 1 ≤ k) (hk : k ≤ 10) (R : RowAt n f row) : ∃ f' mk, RowAt n f' row.tail ∧ mk.length ≤ 5 ∧ (row = [] → mk.length ≤ 2) ∧
    (∀ tr G, tr.length + 6 < 1000000 → G row.head? (f', tr ++ mk.map mkI) → TakeT (notesAcc x addr N K ap nb) n (f, tr) G) ∧
    ∀ cs c cl bb pre said r, cs[c]? = some cl → Mach.HasTake cl on n bb → pre.length = c → r 9 = 0 → ∃ r', r' 0 = row.head?.getD 0 ∧ r' 1 = yes row.head?.isSome ∧ r' 9 = 0 ∧ r' 3 = r 3 ∧
      ∀ t', Mach.onF 26 (Mach.T cs c (bb + 19) r' pre said) = some t' → Mach.Runs 30 (W f) (Mach.T cs c bb r pre said) mk (W f') t' := by
  have hle : n ≤ 1024 := by rw [hn]; exact pow_le hk
  have hpos : 2 ≤ n := by have := Nat.pow_le_pow_right (n := 2) (by omega) hk0; omega
  have hp := take_plain hn hk0 hk R
  have ht := R.t
  obtain ⟨t, ht0⟩ : ∃ t, f 1 = t := ⟨_, rfl⟩
  obtain ⟨m, hm⟩ : ∃ m, t % n = m := ⟨_, rfl⟩
  have hmod : m < n := by rw [← hm]; exact Nat.mod_lt _ (by omega)
  obtain ⟨t1, ht1⟩ : ∃ t1, (t + 1) % 18446744073709551616 = t1 := ⟨_, rfl⟩
  obtain ⟨tn, htn⟩ : ∃ tn, (t + n) % 18446744073709551616 = tn := ⟨_, rfl⟩
  obtain ⟨q, hq⟩ : ∃ q, f (2 * m + 2) = q := ⟨_, rfl⟩
  have hand : (t &&& (n - 1)) % 18446744073709551616 = m := by rw [Mach.qmask_mod hn, hm]; omega
  rw [ht0] at ht
  have e2 : 2 + 2 * m = 2 * m + 2 := by omega
  have e3 : 3 + 2 * m = 2 * m + 3 := by omega
  have hv1 : (rowOf (2 * n + 2) f)[1]? = some t := by rw [rowOf_get (by omega), ht0]
  have hvq : (rowOf (2 * n + 2) f)[2 * m + 2]? = some q := by rw [rowOf_get (by omega), hq]
  have hprog : (q + 36893488147419103232 - t - 1) % 18446744073709551616 = (q + 18446744073709551616 - t1) % 18446744073709551616 := by omega
  obtain ⟨d, hd⟩ : ∃ d, (q + 18446744073709551616 - t1) % 18446744073709551616 = d := ⟨_, rfl⟩
  rw [hd] at hprog
  cases row with
  | nil =>
    dsimp only at hp
    rw [ht0, hm, ht1, e2, hq, hd] at hp
    refine ⟨f, [(1, 1), (1, 2 * m + 2)], R, by simp, by simp, fun tr G htr g => ?_, fun cs c cl bb pre said r hc hh h0 h9 => ?_⟩
    · refine draw_none hN (by omega) hmod (by omega) ht0 hm hq (by rw [hprog]; exact hp) ?_
      rw [List.append_assoc]
      exact g
    · refine ⟨Mach.trN r n t m t1 q d, rfl, rfl, h9, rfl, fun t' ho => ?_⟩
      exact .cons (Mach.qtake_0 hc hh h0 (HW.get _) hv1 h9 (by omega) hand (by omega) ht1) (.cons (Mach.qtake_5F hc hh h0 (HW.get _) hvq (by omega) hd hp ho) .nil)
  | cons v row =>
    dsimp only at hp
    rw [ht0, hm, ht1, htn, e2, e3, hq, hd] at hp
    obtain ⟨hp1, hp2, hp3⟩ := hp
    rw [hp1] at hprog hd
    refine ⟨upd (upd f 1 t1) (2 * m + 2) tn, [(1, 1), (1, 2 * m + 2), (5, 1), (1, 2 * m + 3), (2, 2 * m + 2)], hp3, by simp, (fun e => by cases e), fun tr G htr g => ?_, fun cs c cl bb pre said r hc hh h0 h9 => ?_⟩
    · refine draw_some hN (by omega) hmod (by omega) ht0 hm hq hprog ht1 ?_
      dsimp only
      rw [hm]
      refine ⟨by simp; omega, by show 3 + 2 * m < N; omega, ?_⟩
      refine ⟨by simp; omega, by show 2 + 2 * m < N; omega, ?_⟩
      dsimp only
      rw [e2, e3, htn, upd_other (by omega), hp2]
      simpa [mkI] using g
    · refine ⟨Mach.trS r n t m t1 q v tn, rfl, rfl, h9, rfl, fun t' ho => ?_⟩
      have hl2 : (rowOf (2 * n + 2) (upd f 1 t1))[2 * m + 3]? = some v := by rw [rowOf_get (by omega), upd_other (by omega), hp2]
      refine .cons (Mach.qtake_0 hc hh h0 (HW.get _) hv1 h9 (by omega) hand (by omega) ht1) (.cons (Mach.qtake_5T hc hh h0 (HW.get _) hvq h9 (by omega) hd) ?_)
      refine .cons (to_W HW (by omega) (Mach.qtake_10T hc hh h0 (HW.get _) hv1 h9 rfl)) ?_
      refine .cons (Mach.qtake_12 hc hh h0 (HW.get _) hl2 h9 (by omega) htn) ?_
      exact .cons (to_W HW (by omega) (Mach.qtake_14 hc hh h0 (HW.get _) (by omega) (by rw [rowOf_len]; omega) rfl (Mach.onF_more (k := 2) ho))) .nil

theorem put_step {row : List Nat} {v : Nat} (hN : 2 * n + 2 ≤ N) (HW : WdAt W on n) (hn : n = 2 ^ k) (hk0 : 1 ≤ k) (hk : k ≤ 10) (hv : v < 18446744073709551616) (R : RowAt n f row) : ∃ f' mk q, RowAt n f' (if row.length < n then row ++ [v] else row) ∧ mk.length ≤ 5 ∧
    (∀ tr G, tr.length + 6 < 1000000 → G q (f', tr ++ mk.map mkI) → PutT (notesAcc x addr N K ap nb) n v (f, tr) G) ∧
    ∀ cs c cl bb pre said r, cs[c]? = some cl → Mach.HasPut cl on n bb → pre.length = c → r 9 = 0 → r 0 = v → ∃ r', r' 1 = yes q ∧ r' 9 = 0 ∧ ∀ t', Mach.onF 26 (Mach.T cs c (bb + 17) r' pre said) = some t' → Mach.Runs 30 (W f) (Mach.T cs c bb r pre said) mk (W f') t' := by
  have hle : n ≤ 1024 := by rw [hn]; exact pow_le hk
  have hpos : 2 ≤ n := by have := Nat.pow_le_pow_right (n := 2) (by omega) hk0; omega
  have hp := put_plain (v := v) hn hk0 hk R
  have ht : f 0 < 18446744073709551616 := by rw [R.put]; exact Nat.mod_lt _ (by decide)
  obtain ⟨t, ht0⟩ : ∃ t, f 0 = t := ⟨_, rfl⟩
  obtain ⟨m, hm⟩ : ∃ m, t % n = m := ⟨_, rfl⟩
  have hmod : m < n := by rw [← hm]; exact Nat.mod_lt _ (by omega)
  obtain ⟨t1, ht1⟩ : ∃ t1, (t + 1) % 18446744073709551616 = t1 := ⟨_, rfl⟩
  obtain ⟨q, hq⟩ : ∃ q, f (2 * m + 2) = q := ⟨_, rfl⟩
  have hand : (t &&& (n - 1)) % 18446744073709551616 = m := by rw [Mach.qmask_mod hn, hm]; omega
  rw [ht0] at ht
  have e2 : 2 + 2 * m = 2 * m + 2 := by omega
  have e3 : 3 + 2 * m = 2 * m + 3 := by omega
  have hv1 : (rowOf (2 * n + 2) f)[0]? = some t := by rw [rowOf_get (by omega), ht0]
  have hvq : (rowOf (2 * n + 2) f)[2 * m + 2]? = some q := by rw [rowOf_get (by omega), hq]
  have hprog : (q + 36893488147419103232 - t - 0) % 18446744073709551616 = (q + 18446744073709551616 - t) % 18446744073709551616 := by omega
  obtain ⟨d, hd⟩ : ∃ d, (q + 18446744073709551616 - t) % 18446744073709551616 = d := ⟨_, rfl⟩
  rw [hd] at hprog
  rw [ht0, hm, ht1, e2, e3, hq, hd] at hp
  by_cases hf : row.length < n
  · rw [if_pos hf] at hp ⊢
    obtain ⟨hp1, hp3⟩ := hp
    rw [hp1] at hprog hd
    refine ⟨upd (upd (upd f 0 t1) (2 * m + 3) v) (2 * m + 2) t1, [(1, 0), (1, 2 * m + 2), (5, 0), (2, 2 * m + 3), (2, 2 * m + 2)], true, hp3, by simp, fun tr G htr g => ?_, fun cs c cl bb pre said r hc hh h0 h9 hr0 => ?_⟩
    · refine draw_some hN (by omega) hmod (by omega) ht0 hm hq hprog ht1 ?_
      dsimp only
      rw [hm]
      refine ⟨by simp; omega, by show 3 + 2 * m < N; omega, ?_⟩
      refine ⟨by simp; omega, by show 2 + 2 * m < N; omega, ?_⟩
      dsimp only
      rw [e2, e3, ht1]
      simpa [mkI] using g
    · refine ⟨Mach.qrS r n t m q t1, rfl, h9, fun t' ho => ?_⟩
      refine .cons (Mach.qput_0 hc hh h0 (HW.get _) hv1 h9 (by omega) hand (by omega)) (.cons (Mach.qput_4T hc hh h0 (HW.get _) hvq h9 (by omega) hd ht1) ?_)
      refine .cons (to_W HW (by omega) (Mach.qput_10T hc hh h0 (HW.get _) hv1 h9 rfl)) ?_
      refine .cons (to_W HW (by omega) (Mach.qput_12 hc hh h0 (HW.get _) hr0 (by omega) (by rw [rowOf_len]; omega) rfl)) ?_
      exact .cons (to_W HW (by omega) (Mach.qput_13 hc hh h0 (HW.get _) (by omega) (by rw [rowOf_len]; omega) rfl ho)) .nil
  · rw [if_neg hf] at hp ⊢
    refine ⟨f, [(1, 0), (1, 2 * m + 2)], false, R, by simp, fun tr G htr g => ?_, fun cs c cl bb pre said r hc hh h0 h9 hr0 => ?_⟩
    · refine draw_none hN (by omega) hmod (by omega) ht0 hm hq (by rw [hprog]; exact hp) ?_
      rw [List.append_assoc]
      exact g
    · exact ⟨Mach.qrN r n t m q d, rfl, h9, fun t' ho => .cons (Mach.qput_0 hc hh h0 (HW.get _) hv1 h9 (by omega) hand (by omega)) (.cons (Mach.qput_4F hc hh h0 (HW.get _) hvq (by omega) hd hp ho) .nil)⟩

end
end Go.Proofs.Ytmkkanmkjfnpdaa
