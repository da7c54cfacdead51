/-
  Part 7 of 9.
-/
import Derived.Test.YthoefhocecdlhaaPm6
import Derived.Test.YthoefhocecdlhaaPm3
import Derived.Test.YthoefhocecdlhaaPm5
import Derived.Test.YthoefhocecdlhaaPm4
set_option linter.unusedVariables false
set_option linter.unusedSimpArgs false
namespace Go.Proofs.Ythoefhocecdlhaa
open Go Go.PB
attribute [local irreducible] Mo Bin Eql Tr Wo Ap Wle
section
abbrev mD : Wds := rowDM 1 72057662757404673 200
def fl (cs : List Mach.Cl) (c : Nat) : Nat := 10 * (cs.length - c) + 10
theorem fl_step {cs : List Mach.Cl} {c : Nat} {cl : Mach.Cl} (h : cs[c]? = some cl) : fl cs c = fl cs (c + 1) + 10 := by
 have := (List.getElem?_eq_some_iff.1 h).1
 unfold fl; omega
theorem fl_le {cs : List Mach.Cl} {c : Nat} (h : cs.length ≤ 12) : fl cs c + 20 ≤ 200 := by unfold fl; omega
section
variable {num den burst now n : Nat} {addr : Nat → Nat × Nat} {K : List (Nat × Nat × Value)} {A : Apart addr 1 K} {Z : HProp} {Pv : Nat × Mach.Th → HProp} {hPv : ∀ q h, Star [Pv q] h → Pv q h} {sb says turn fin wg k : Nat} {Pm : HProp}
variable {cs : List Mach.Cl} {cl : Mach.Cl} {c : Nat} {pre : List (Bool × List Nat)}
theorem take_plays (O : BOk num den burst) (hnow : now ≤ 1099511627776) (h12 : cs.length ≤ 12) (hc : cs[c]? = some (Mach.mtakeCl (now * num) (needN den burst n) (topN num den burst now n))) (h0 : pre.length = c) (hP : ∀ p r said h, Pm h → Pv (k, Mach.T cs c p r pre said) h)
  (nxt : ∀ told, ∃ t', Mach.onF (fl cs (c + 1)) (Mach.Bt cs (c + 1) (pre ++ [(true, told)])) = some t') {s : PlS} (ht : s.t = Mach.T cs c 0 (fun _ => 0) pre []) (hfg : ∀ i, i < 1 → s.f i = s.g i)
  {Q : Bool → PlS → Prop} (hQ : ∀ q s', Mach.onF (fl cs (c + 1)) (Mach.Bt cs (c + 1) (pre ++ [(true, [0, yes q])])) = some s'.t → (∀ i, i < 1 → s'.f i = s'.g i) → mD.ok s'.f → Q q s') :
  MTakeT (playAcc mD addr 1 K A Z Pv hPv sb says turn fin wg k Pm) num den burst now n s Q := by
 have hfl := fl_le (c := c + 1) h12
 intro X hX
 suffices H : ∀ (N : Nat) (r : Nat → Nat) (s : PlS), s.n < N → r 9 = 0 → s.t = Mach.T cs c 0 r pre [] → (∀ i, i < 1 → s.f i = s.g i) → X s from H (s.n + 1) _ s (by omega) rfl ht hfg
 intro N
 induction N with
 | zero => intro r s hN; omega
 | succ N ih =>
  intro r s hN h9 ht hfg
  refine hX _ ?_
  unfold MTakeF
  refine acc_go (op := 1) rfl row_ok0 hfg (by rw [ht]; exact hP _ _ _) fun f1 ok1 => ?_
  have hs := ok1 0 (by omega)
  obtain ⟨u, hu⟩ : ∃ u, f1 0 = u := ⟨_, rfl⟩
  rw [hu] at hs
  have hv : (rowOf 1 f1)[0]? = some u := by rw [rowOf_get (by omega), hu]
  obtain ⟨p1, p2, p3, p4⟩ := take_plain (n := n) O hnow (s := u) (by omega)
  have tkeq : ∀ {G : Bool → PlS → Prop}, True := fun {G} => trivial
  rw [ht]
  generalize hck : now * num = ck at *
  generalize hneed : needN den burst n = need at *
  generalize htop : topN num den burst now n = top at *
  obtain ⟨t1, ht1⟩ : ∃ t1, max u ck = t1 := ⟨_, rfl⟩
  obtain ⟨t2, ht2⟩ : ∃ t2, t1 + need = t2 := ⟨_, rfl⟩
  rw [ht1, ht2] at p4
  have m1 : max u ck % 18446744073709551616 = t1 := by omega
  have m2 : (t1 + need) % 18446744073709551616 = t2 := by omega
  obtain ⟨tt, htt⟩ := nxt [0, 0]
  by_cases c1 : top = 0
  ·subst c1
   rw [if_pos rfl] at p4
   refine ⟨f1, _, (Mach.mtake_0N (w := mD.W f1) (l := rowOf 1 f1) hc Mach.mtake_has h0 rfl hv h9 (by omega) m1 m2 (Mach.mtake_end hc h0 rfl h9 htt)).up hfl, fun m1 hm1 => ⟨by omega, ?_⟩⟩
   simp only [hu, p4]
   exact hQ false _ htt (fun i hi => row_un hi) ok1
  ·rw [if_neg c1] at p4
   by_cases c2 : top < t2
   ·rw [if_pos c2] at p4
    refine ⟨f1, _, (Mach.mtake_0F (w := mD.W f1) (l := rowOf 1 f1) hc Mach.mtake_has h0 rfl hv h9 (by omega) m1 m2 (by omega) c1 c2 (Mach.mtake_end hc h0 rfl h9 htt)).up hfl, fun m1 hm1 => ⟨by omega, ?_⟩⟩
    simp only [hu, p4]
    exact hQ false _ htt (fun i hi => row_un hi) ok1
   ·rw [if_neg c2] at p4
    refine ⟨f1, _, (Mach.mtake_0T (w := mD.W f1) (l := rowOf 1 f1) hc Mach.mtake_has h0 rfl hv h9 (by omega) m1 m2 (by omega) c1 c2).up (by decide), fun m1 hm1 => ⟨by omega, ?_⟩⟩
    simp only [hu, p4]
    refine acc_go (op := 5) rfl row_ok0 (fun i hi => row_un hi) (hP _ _ _) fun f2 ok2 => ?_
    by_cases c3 : f2 0 = u
    ·obtain ⟨tt1, htt1⟩ := nxt [0, 1]
     refine ⟨upd f2 0 t2, _, (Mach.mtake_7T (w := mD.W f2) (l := rowOf 1 f2) hc Mach.mtake_has h0 rfl (by rw [rowOf_get (by omega), c3]) h9 row_set0 (Mach.mtake_end hc h0 rfl h9 htt1)).up hfl, fun m3 hm3 => ⟨by omega, ?_⟩⟩
     simp only [c3]
     rw [if_pos trivial, if_pos trivial]
     exact hQ true _ htt1 (fun i hi => row_un hi) (row_upd ok2 (by omega))
    ·refine ⟨f2, _, (Mach.mtake_7F (w := mD.W f2) (l := rowOf 1 f2) hc Mach.mtake_has h0 rfl (rowOf_get (by omega)) h9 c3).up (by decide), fun m3 hm3 => ⟨by omega, ?_⟩⟩
     dsimp only at hm1 hm3
     simp only
     rw [if_neg c3, if_neg (by decide)]
     exact ih (upd (Mach.mr r u ck t1 t2 top) 14 0) _ (by dsimp only; omega) h9 rfl fun i hi => row_un hi
theorem level_plays (O : BOk num den burst) (hnow : now ≤ 1099511627776) (h12 : cs.length ≤ 12) (hc : cs[c]? = some (Mach.mlevelCl (now * num) (burst * den) den)) (h0 : pre.length = c) (hP : ∀ p r said h, Pm h → Pv (k, Mach.T cs c p r pre said) h)
  (nxt : ∀ told, ∃ t', Mach.onF (fl cs (c + 1)) (Mach.Bt cs (c + 1) (pre ++ [(true, told)])) = some t') {s : PlS} (ht : s.t = Mach.T cs c 0 (fun _ => 0) pre []) (hfg : ∀ i, i < 1 → s.f i = s.g i)
  {Q : Nat → PlS → Prop} (hQ : ∀ o s', Mach.onF (fl cs (c + 1)) (Mach.Bt cs (c + 1) (pre ++ [(true, [0, levelN num den burst o now])])) = some s'.t → (∀ i, i < 1 → s'.f i = s'.g i) → mD.ok s'.f → Q o s') :
  MLoadT (playAcc mD addr 1 K A Z Pv hPv sb says turn fin wg k Pm) s Q := by
 have hfl := fl_le (c := c + 1) h12
 have hd1 := O.d1
 have hd2 := O.d2
 unfold MLoadT
 refine acc_go (op := 1) rfl row_ok0 hfg (by rw [ht]; exact hP _ _ _) fun f1 ok1 => ?_
 have hs := ok1 0 (by omega)
 obtain ⟨u, hu⟩ : ∃ u, f1 0 = u := ⟨_, rfl⟩
 rw [hu] at hs
 have hv : (rowOf 1 f1)[0]? = some u := by rw [rowOf_get (by omega), hu]
 obtain ⟨p1, p2, p3, p4⟩ := level_plain O hnow (s := u) (by omega)
 obtain ⟨tt, htt⟩ := nxt [0, levelN num den burst u now]
 rw [ht]
 refine ⟨f1, tt, ?_, fun m1 hm1 => ⟨by omega, ?_⟩⟩
 ·generalize levelN num den burst u now = lv at *
  generalize now * num = ck at *
  generalize burst * den = bd at *
  obtain ⟨t1, ht1⟩ : ∃ t1, max u ck = t1 := ⟨_, rfl⟩
  rw [ht1] at p3
  have m1 : max u ck % 18446744073709551616 = t1 := by omega
  have m2 : (ck + bd) % 18446744073709551616 = ck + bd := by omega
  by_cases c1 : ck + bd < t1
  ·rw [if_pos c1] at p3
   subst p3
   exact (Mach.mlevel_F (w := mD.W f1) (l := rowOf 1 f1) hc h0 rfl hv (by omega) m1 m2 c1 htt).up hfl
  ·rw [if_neg c1] at p3
   refine (Mach.mlevel_T (w := mD.W f1) (l := rowOf 1 f1) (t3 := ck + bd - t1) hc h0 rfl hv (by omega) m1 m2 c1 (by omega) (by omega) ?_ htt).up hfl
   rw [if_neg (show ¬ den = 0 by omega), ← p3]
   omega
 ·dsimp only
  rw [hu]
  exact hQ u _ htt (fun i hi => row_un hi) ok1
theorem state_plays (h12 : cs.length ≤ 12) (hc : cs[c]? = some Mach.mstateCl) (h0 : pre.length = c) (hP : ∀ p r said h, Pm h → Pv (k, Mach.T cs c p r pre said) h)
  (nxt : ∀ told, ∃ t', Mach.onF (fl cs (c + 1)) (Mach.Bt cs (c + 1) (pre ++ [(true, told)])) = some t') {s : PlS} (ht : s.t = Mach.T cs c 0 (fun _ => 0) pre []) (hfg : ∀ i, i < 1 → s.f i = s.g i)
  {Q : Nat → PlS → Prop} (hQ : ∀ o s', Mach.onF (fl cs (c + 1)) (Mach.Bt cs (c + 1) (pre ++ [(true, [0, o])])) = some s'.t → (∀ i, i < 1 → s'.f i = s'.g i) → mD.ok s'.f → Q o s') :
  MLoadT (playAcc mD addr 1 K A Z Pv hPv sb says turn fin wg k Pm) s Q := by
 have hfl := fl_le (c := c + 1) h12
 unfold MLoadT
 refine acc_go (op := 1) rfl row_ok0 hfg (by rw [ht]; exact hP _ _ _) fun f1 ok1 => ?_
 obtain ⟨u, hu⟩ : ∃ u, f1 0 = u := ⟨_, rfl⟩
 have hv : (rowOf 1 f1)[0]? = some u := by rw [rowOf_get (by omega), hu]
 obtain ⟨tt, htt⟩ := nxt [0, u]
 rw [ht]
 refine ⟨f1, tt, (Mach.mstate_0 (w := mD.W f1) (l := rowOf 1 f1) hc h0 rfl hv htt).up hfl, fun m1 hm1 => ⟨by omega, ?_⟩⟩
 dsimp only
 rw [hu]
 exact hQ u _ htt (fun i hi => row_un hi) ok1
def MeterCalls (num den burst : Nat) (cs : List Mach.Cl) : Prop := ∀ (i : Nat) (cl : Mach.Cl), cs[i]? = some cl → ∃ kd now n, cl = callCl num den burst kd now n
theorem meter_next (hcs : MeterCalls num den burst cs) : ∀ (m c : Nat) (pre : List (Bool × List Nat)), cs.length - c = m → pre.length = c → ∃ t', Mach.onF (fl cs c) (Mach.Bt cs c pre) = some t' := by
 intro m
 induction m with
 | zero =>
  intro c pre hm h0
  exact ⟨_, Mach.on_over (f := 10 * (cs.length - c) + 9) (List.getElem?_eq_none_iff.2 (by omega))⟩
 | succ m ih =>
  intro c pre hm h0
  have hlt : c < cs.length := by omega
  have h : cs[c]? = some cs[c] := List.getElem?_eq_getElem hlt
  obtain ⟨kd, now, n, e⟩ := hcs c _ h
  rw [e] at h
  have hb : Mach.onF (fl cs c) (Mach.Bt cs c pre) = Mach.onF (fl cs c) (Mach.T cs c 0 (fun _ => 0) pre []) := Mach.on_begin (f := 10 * (cs.length - c) + 9) h h0
  rw [hb]
  obtain ⟨u, hu⟩ := ih (c + 1) (pre ++ [(true, [5, 0])]) (by omega) (by simp [h0])
  have href : cs[c]? = some (Mach.mrefCl 5) → ∃ t', Mach.onF (fl cs c) (Mach.T cs c 0 (fun _ => 0) pre []) = some t' := fun h => ⟨u, by rw [fl_step h]; exact Mach.mref_on h h0 (by omega) hu⟩
  have hstop : ∀ {cl : Mach.Cl} {x : Mach.In}, cs[c]? = some cl → cl.code[0]? = some x → Mach.told x.op = true → ∃ t', Mach.onF (fl cs c) (Mach.T cs c 0 (fun _ => 0) pre []) = some t' := fun h h1 h2 => ⟨_, Mach.on_stop (f := 10 * (cs.length - c) + 9) h h0 h1 h2⟩
  unfold callCl at h
  by_cases k0 : kd = 0
  ·rw [if_pos k0] at h
   by_cases hn : now ≤ 1099511627776
   ·rw [if_pos hn] at h; exact hstop h rfl rfl
   ·rw [if_neg hn] at h; exact href h
  ·rw [if_neg k0] at h
   by_cases k1 : kd = 1
   ·rw [if_pos k1] at h
    by_cases hn : now ≤ 1099511627776
    ·rw [if_pos hn] at h; exact hstop h rfl rfl
    ·rw [if_neg hn] at h; exact href h
   ·rw [if_neg k1] at h; exact hstop h rfl rfl
theorem done_plays {kd : Nat} (O : BOk num den burst) (h12 : cs.length ≤ 12) (hcs : MeterCalls num den burst cs) (hc : cs[c]? = some (callCl num den burst kd now n)) (h0 : pre.length = c) (hP : ∀ p r said h, Pm h → Pv (k, Mach.T cs c p r pre said) h)
  {s : PlS} (ht : Mach.onF (fl cs c) (Mach.Bt cs c pre) = some s.t) (hfg : ∀ i, i < 1 → s.f i = s.g i) (hok : mD.ok s.f) :
  DoneT (playAcc mD addr 1 K A Z Pv hPv sb says turn fin wg k Pm) num den burst kd now n s fun told s' => Mach.onF (fl cs (c + 1)) (Mach.Bt cs (c + 1) (pre ++ [(true, told)])) = some s'.t ∧ (∀ i, i < 1 → s'.f i = s'.g i) ∧ mD.ok s'.f := by
 have nxt : ∀ told, ∃ t', Mach.onF (fl cs (c + 1)) (Mach.Bt cs (c + 1) (pre ++ [(true, told)])) = some t' := fun told => meter_next hcs _ (c + 1) _ rfl (by simp [h0])
 have hb : Mach.onF (fl cs c) (Mach.Bt cs c pre) = Mach.onF (fl cs c) (Mach.T cs c 0 (fun _ => 0) pre []) := Mach.on_begin (f := 10 * (cs.length - c) + 9) hc h0
 rw [hb] at ht
 have href : cs[c]? = some (Mach.mrefCl 5) → Mach.onF (fl cs (c + 1)) (Mach.Bt cs (c + 1) (pre ++ [(true, [5, 0])])) = some s.t := fun h => by
  obtain ⟨u, hu⟩ := nxt [5, 0]
  rw [fl_step h, Mach.mref_on h h0 (by omega) hu] at ht
  rw [← ht]; exact hu
 have hstop : ∀ {cl : Mach.Cl} {x : Mach.In}, cs[c]? = some cl → cl.code[0]? = some x → Mach.told x.op = true → s.t = Mach.T cs c 0 (fun _ => 0) pre [] := fun h h1 h2 => by
  have := Mach.on_stop (f := 10 * (cs.length - c) + 9) (r := fun _ => 0) (said := []) h h0 h1 h2
  have e : Mach.onF (fl cs c) (Mach.T cs c 0 (fun _ => 0) pre []) = some (Mach.T cs c 0 (fun _ => 0) pre []) := this
  rw [e] at ht
  exact (Option.some.inj ht).symm
 unfold callCl at hc
 unfold DoneT
 by_cases k0 : kd = 0
 ·rw [if_pos k0] at hc ⊢
  by_cases hn : now ≤ 1099511627776
  ·rw [if_pos hn] at hc ⊢
   exact take_plays O hn h12 hc h0 hP nxt (hstop hc rfl rfl) hfg fun q s' a b d => ⟨a, b, d⟩
  ·rw [if_neg hn] at hc ⊢
   exact ⟨href hc, hfg, hok⟩
 ·rw [if_neg k0] at hc ⊢
  by_cases k1 : kd = 1
  ·rw [if_pos k1] at hc ⊢
   by_cases hn : now ≤ 1099511627776
   ·rw [if_pos hn] at hc ⊢
    exact level_plays O hn h12 hc h0 hP nxt (hstop hc rfl rfl) hfg fun q s' a b d => ⟨a, b, d⟩
   ·rw [if_neg hn] at hc ⊢
    exact ⟨href hc, hfg, hok⟩
  ·rw [if_neg k1] at hc ⊢
   exact state_plays h12 hc h0 hP nxt (hstop hc rfl rfl) hfg fun q s' a b d => ⟨a, b, d⟩
end
section
variable {num den burst now n : Nat} {cs : List Mach.Cl} {c : Nat} {pre : List (Bool × List Nat)}
theorem take_goodN (O : BOk num den burst) (hnow : now ≤ 1099511627776) (h12 : cs.length ≤ 12) (hc : cs[c]? = some (Mach.mtakeCl (now * num) (needN den burst n) (topN num den burst now n))) (h0 : pre.length = c)
  (nxt : ∀ told, ∃ t', Mach.onF (fl cs (c + 1)) (Mach.Bt cs (c + 1) (pre ++ [(true, told)])) = some t' ∧ GoodT mD t') : ∀ (N : Nat) (r : Nat → Nat), r 9 = 0 → GoodN mD N (Mach.T cs c 0 r pre []) := by
 have hfl := fl_le (c := c + 1) h12
 obtain ⟨tt, htt, g0⟩ := nxt [0, 0]
 obtain ⟨tt1, htt1, g1⟩ := nxt [0, 1]
 intro N
 induction N with
 | zero => exact fun _ _ => trivial
 | succ N ih =>
  intro r h9
  refine goodN_go (m := (1, 0)) row_ok0 fun f1 ok1 => ?_
  have hs := ok1 0 (by omega)
  obtain ⟨u, hu⟩ : ∃ u, f1 0 = u := ⟨_, rfl⟩
  rw [hu] at hs
  have hv : (rowOf 1 f1)[0]? = some u := by rw [rowOf_get (by omega), hu]
  obtain ⟨p1, p2, p3, p4⟩ := take_plain (n := n) O hnow (s := u) (by omega)
  clear p4
  generalize hck : now * num = ck at *
  generalize hneed : needN den burst n = need at *
  generalize htop : topN num den burst now n = top at *
  obtain ⟨t1, ht1⟩ : ∃ t1, max u ck = t1 := ⟨_, rfl⟩
  obtain ⟨t2, ht2⟩ : ∃ t2, t1 + need = t2 := ⟨_, rfl⟩
  have m1 : max u ck % 18446744073709551616 = t1 := by omega
  have m2 : (t1 + need) % 18446744073709551616 = t2 := by omega
  by_cases c1 : top = 0
  ·subst c1
   exact ⟨f1, _, (Mach.mtake_0N (w := mD.W f1) (l := rowOf 1 f1) hc Mach.mtake_has h0 rfl hv h9 (by omega) m1 m2 (Mach.mtake_end hc h0 rfl h9 htt)).up hfl, ok1, g0 N⟩
  ·by_cases c2 : top < t2
   ·exact ⟨f1, _, (Mach.mtake_0F (w := mD.W f1) (l := rowOf 1 f1) hc Mach.mtake_has h0 rfl hv h9 (by omega) m1 m2 (by omega) c1 c2 (Mach.mtake_end hc h0 rfl h9 htt)).up hfl, ok1, g0 N⟩
   ·refine ⟨f1, _, (Mach.mtake_0T (w := mD.W f1) (l := rowOf 1 f1) hc Mach.mtake_has h0 rfl hv h9 (by omega) m1 m2 (by omega) c1 c2).up (by decide), ok1, ?_⟩
    refine goodN_le (goodN_go (m := (5, 0)) row_ok0 fun f2 ok2 => ?_)
    by_cases c3 : f2 0 = u
    ·exact ⟨upd f2 0 t2, _, (Mach.mtake_7T (w := mD.W f2) (l := rowOf 1 f2) hc Mach.mtake_has h0 rfl (by rw [rowOf_get (by omega), c3]) h9 row_set0 (Mach.mtake_end hc h0 rfl h9 htt1)).up hfl, row_upd ok2 (by omega), g1 N⟩
    ·exact ⟨f2, _, (Mach.mtake_7F (w := mD.W f2) (l := rowOf 1 f2) hc Mach.mtake_has h0 rfl (rowOf_get (by omega)) h9 c3).up (by decide), ok2, ih (upd (Mach.mr r u ck t1 t2 top) 14 0) h9⟩
theorem level_good (O : BOk num den burst) (hnow : now ≤ 1099511627776) (h12 : cs.length ≤ 12) (hc : cs[c]? = some (Mach.mlevelCl (now * num) (burst * den) den)) (h0 : pre.length = c)
  (nxt : ∀ told, ∃ t', Mach.onF (fl cs (c + 1)) (Mach.Bt cs (c + 1) (pre ++ [(true, told)])) = some t' ∧ GoodT mD t') : GoodT mD (Mach.T cs c 0 (fun _ => 0) pre []) := by
 have hfl := fl_le (c := c + 1) h12
 have hd1 := O.d1
 have hd2 := O.d2
 refine good_go (m := (1, 0)) row_ok0 fun f1 ok1 => ?_
 have hs := ok1 0 (by omega)
 obtain ⟨u, hu⟩ : ∃ u, f1 0 = u := ⟨_, rfl⟩
 rw [hu] at hs
 have hv : (rowOf 1 f1)[0]? = some u := by rw [rowOf_get (by omega), hu]
 obtain ⟨p1, p2, p3, p4⟩ := level_plain O hnow (s := u) (by omega)
 obtain ⟨tt, htt, g⟩ := nxt [0, levelN num den burst u now]
 refine ⟨f1, tt, ?_, ok1, g⟩
 generalize levelN num den burst u now = lv at *
 generalize now * num = ck at *
 generalize burst * den = bd at *
 obtain ⟨t1, ht1⟩ : ∃ t1, max u ck = t1 := ⟨_, rfl⟩
 rw [ht1] at p3
 have m1 : max u ck % 18446744073709551616 = t1 := by omega
 have m2 : (ck + bd) % 18446744073709551616 = ck + bd := by omega
 by_cases c1 : ck + bd < t1
 ·rw [if_pos c1] at p3
  subst p3
  exact (Mach.mlevel_F (w := mD.W f1) (l := rowOf 1 f1) hc h0 rfl hv (by omega) m1 m2 c1 htt).up hfl
 ·rw [if_neg c1] at p3
  refine (Mach.mlevel_T (w := mD.W f1) (l := rowOf 1 f1) (t3 := ck + bd - t1) hc h0 rfl hv (by omega) m1 m2 c1 (by omega) (by omega) ?_ htt).up hfl
  rw [if_neg (show ¬ den = 0 by omega), ← p3]
  omega
theorem meter_good (O : BOk num den burst) (h12 : cs.length ≤ 12) (hcs : MeterCalls num den burst cs) : ∀ (m c : Nat) (pre : List (Bool × List Nat)), cs.length - c = m → pre.length = c → ∃ t', Mach.onF (fl cs c) (Mach.Bt cs c pre) = some t' ∧ GoodT mD t' := by
 intro m
 induction m with
 | zero =>
  intro c pre hm h0
  exact ⟨_, Mach.on_over (f := 10 * (cs.length - c) + 9) (List.getElem?_eq_none_iff.2 (by omega)), .over rfl⟩
 | succ m ih =>
  intro c pre hm h0
  have hlt : c < cs.length := by omega
  have h : cs[c]? = some cs[c] := List.getElem?_eq_getElem hlt
  obtain ⟨kd, now, n, e⟩ := hcs c _ h
  rw [e] at h
  have nxt : ∀ told, ∃ t', Mach.onF (fl cs (c + 1)) (Mach.Bt cs (c + 1) (pre ++ [(true, told)])) = some t' ∧ GoodT mD t' := fun told => ih (c + 1) _ (by omega) (by simp [h0])
  have hb : Mach.onF (fl cs c) (Mach.Bt cs c pre) = Mach.onF (fl cs c) (Mach.T cs c 0 (fun _ => 0) pre []) := Mach.on_begin (f := 10 * (cs.length - c) + 9) h h0
  rw [hb]
  have href : cs[c]? = some (Mach.mrefCl 5) → ∃ t', Mach.onF (fl cs c) (Mach.T cs c 0 (fun _ => 0) pre []) = some t' ∧ GoodT mD t' := fun h => by
   obtain ⟨u, hu, g⟩ := nxt [5, 0]
   exact ⟨u, by rw [fl_step h]; exact Mach.mref_on h h0 (by omega) hu, g⟩
  have hstop : ∀ {cl : Mach.Cl} {x : Mach.In}, cs[c]? = some cl → cl.code[0]? = some x → Mach.told x.op = true → Mach.onF (fl cs c) (Mach.T cs c 0 (fun _ => 0) pre []) = some (Mach.T cs c 0 (fun _ => 0) pre []) := fun h h1 h2 => Mach.on_stop (f := 10 * (cs.length - c) + 9) h h0 h1 h2
  unfold callCl at h
  by_cases k0 : kd = 0
  ·rw [if_pos k0] at h
   by_cases hn : now ≤ 1099511627776
   ·rw [if_pos hn] at h; exact ⟨_, hstop h rfl rfl, fun N => take_goodN O hn h12 h h0 nxt N _ rfl⟩
   ·rw [if_neg hn] at h; exact href h
  ·rw [if_neg k0] at h
   by_cases k1 : kd = 1
   ·rw [if_pos k1] at h
    by_cases hn : now ≤ 1099511627776
    ·rw [if_pos hn] at h; exact ⟨_, hstop h rfl rfl, level_good O hn h12 h h0 nxt⟩
    ·rw [if_neg hn] at h; exact href h
   ·rw [if_neg k1] at h
    refine ⟨_, hstop h rfl rfl, good_go (m := (1, 0)) row_ok0 fun f1 ok1 => ?_⟩
    obtain ⟨tt, htt, g⟩ := nxt [0, f1 0]
    exact ⟨f1, tt, (Mach.mstate_0 (w := mD.W f1) (l := rowOf 1 f1) h h0 rfl (rowOf_get (by omega)) htt).up (fl_le h12), ok1, g⟩
theorem meter_begin (O : BOk num den burst) (h12 : cs.length ≤ 12) (hcs : MeterCalls num den burst cs) : ∃ t', Mach.onF (fl cs 0) (Mach.Bt cs 0 []) = some t' ∧ Mach.onF mD.fu { calls := cs } = some t' ∧ GoodT mD t' := by
 obtain ⟨t', h1, h2⟩ := meter_good O h12 hcs cs.length 0 [] (by omega) rfl
 refine ⟨t', h1, ?_, h2⟩
 have := fl_le (c := 0) h12
 obtain ⟨k, hk⟩ := Nat.le.dest (show fl cs 0 ≤ 200 by omega)
 have := Mach.onF_more (k := k) h1
 rw [hk] at this
 exact this
end
end
end Go.Proofs.Ythoefhocecdlhaa
namespace Go.Proofs.Ythoefhocecdlhaa
open Go Go.PB
section
structure DoAt (L : List HProp) (a : Option Addr) (l : List (Int × Nat × Nat)) : Prop where
 rng : ∀ y ∈ l, (-9223372036854775808 ≤ y.1 ∧ y.1 ≤ 9223372036854775807) ∧ y.2.1 < 18446744073709551616 ∧ y.2.2 < 18446744073709551616
 at_ : ∀ i y, l[i]? = some y → ∃ b o, a = some ⟨b, o, none⟩ ∧ Rd L b (o + 3 * i) (.int .i64 y.1) ∧ Rd L b (o + 3 * i + 1) (.int .u64 y.2.1) ∧ Rd L b (o + 3 * i + 2) (.int .u64 y.2.2)
end
end Go.Proofs.Ythoefhocecdlhaa
namespace Go.Proofs.Ythoefhocecdlhaa
open Go Go.PB
attribute [local irreducible] Mo Bin Eql Tr Wo Ap Wle
section
section
variable {B : Hand} [Lets B] {L F : List HProp} {x : B.X} {num den burst now n : Nat}
theorem world_tr : Tr Try.prog B 16 [] L x fun w L' x' => ∃ wv lv, w = .agg #[wv, lv] ∧ L' = wvC wv lv ⟨[[0]], 1⟩ :: L ∧ x' = x := by
 refine Tr.post (R := fun v L' x' => ∃ wv lv, v = .agg #[wv, lv] ∧ x' = x ∧ ∀ h, Star L' h → Star (wvC wv lv ⟨[[0]], 1⟩ :: L) h) ?_
  (by rintro v L' x' ⟨wv, lv, rfl, rfl, hs⟩; exact ⟨_, ⟨wv, lv, rfl, rfl, rfl⟩, hs⟩)
 refine tr_of_body Try.func16 rfl Try.ntmps16 (by simp) fun um Q _ hQ => ?_
 simp only [argE, Nat.zero_add, Nat.reduceAdd]
 repeat (first | (apply wo_mo; apply mo_alloc; exact trivial) | refine we_seq ?_ | (refine wR ?_; try simp only [oS]))
 rintro v' L' ⟨cb, rfl, rfl⟩
 repeat (first | (apply wo_mo; apply mo_buildSlice (sz := 1) (vs := [Go.PB.num 0]); exact rfl; (repeat (first | exact EvL.nil | apply EvL.cons rfl)); exact rfl; (repeat (first | exact List.forall_mem_nil _ | refine List.forall_mem_cons.2 ⟨rfl, ?_⟩)); omega; exact trivial) | refine we_seq ?_ | (refine wR ?_; try simp only [oS]) | refine wo_nil ?_)
 rintro v' L' ⟨qb, rfl, rfl⟩
 repeat (first | (apply wo_mo; apply mo_buildSlice (sz := 1) (vs := [.slice (some ⟨qb, 0, none⟩) 1 1]); exact rfl; (repeat (first | exact EvL.nil | apply EvL.cons rfl)); exact rfl; (repeat (first | exact List.forall_mem_nil _ | refine List.forall_mem_cons.2 ⟨rfl, ?_⟩)); omega; exact trivial))
 rintro v' L' ⟨rb, rfl, rfl⟩
 repeat (first | (apply wo_mo; apply mo_buildSlice (sz := 1) (vs := [.slice none 0 0]); exact rfl; (repeat (first | exact EvL.nil | apply EvL.cons rfl)); exact rfl; (repeat (first | exact List.forall_mem_nil _ | refine List.forall_mem_cons.2 ⟨rfl, ?_⟩)); omega; exact trivial))
 rintro v' L' ⟨lb, rfl, rfl⟩
 repeat (first | (apply wo_po; apply mo_buildV; (repeat (first | exact EvL.nil | apply EvL.cons rfl)); exact rfl; exact trivial) | (apply wo_pm; apply mo_storeA (b := cb) (c := 0) (k := 0) (a := 0) (vs := [.slice none 0 0, .slice none 0 0]); exact rfl; exact rfl; exact rfl; (intro w hw; simp [Value.cells] at hw; rcases hw with rfl | rfl <;> rfl); exact rfl; exact Nat.le_refl 2; exact (.there (.there (.there .here))); exact trivial) | refine wo_nil ?_ | refine we_ret ?_)
 refine at_leaveM (rs := [.cell 0 48]) Try.func16 Try.results16 hQ (.inl rfl) (.cons (.cell (vs := [.slice (some ⟨rb, 0, none⟩) 1 1, .slice (some ⟨lb, 0, none⟩) 1 1]) rfl rfl (Rds.all (.there (.there (.there .here))))) .nil) ?_
 refine ⟨_, _, rfl, rfl, fun h st => ?_⟩
 have s1 : Star (arr lb 0 [.slice none 0 0] :: arr rb 0 [.slice (some ⟨qb, 0, none⟩) 1 1] :: arr qb 0 [Go.PB.num 0] :: L) h := Ent.star (.take .here (.take .here (.take .here (.drop .refl)))) st
 refine wv_shut (wl := [(.slice (some ⟨qb, 0, none⟩) 1 1, [0])]) (lw := [.slice none 0 0]) rfl ?_ rfl ?_
 ·refine ⟨by show 1 < 1000000; omega, by show 1 < 1000000; omega, fun l hl => by cases (List.mem_singleton.1 hl); show 1 < 1000000; omega, fun l hl v hv => ?_⟩
  cases (List.mem_singleton.1 hl)
  cases (List.mem_singleton.1 hv)
  omega
 ·refine star_map (vec_new (n := 1) (sz := 1) rfl s1) (fun _ y => y) fun _ y => ?_
  refine star_shut (M := [_]) (vec_nil ?_)
  refine star_map (vec_new (n := 1) (sz := 1) rfl y) (fun _ y => y) fun _ z => ?_
  refine star_shut (M := [_]) ?_
  exact vec_new (n := 1) (sz := 1) rfl z
def tells (a b : Nat) : List Mach.In := [⟨22, 0, a, 0, 0, 0, 0⟩, ⟨22, 0, b, 0, 0, 0, 0⟩]
def tellInv (x : B.X) (F : List HProp) (cb lb : Nat) (code : List Mach.In) (a b : Nat) : Inv (Nat × Option Addr × Nat × Nat) B.X where
 e := fun i => [(0, .slice i.2.1 i.2.2.1 i.2.2.2), (1, .slice (some ⟨lb, 0, none⟩) 2 2), (4, .pointer (some ⟨cb, 0, none⟩)), (5, .int .i64 (i.1 : Nat))]
 L := fun i => vec 7 (.slice i.2.1 i.2.2.1 i.2.2.2) ((code ++ (tells a b).take i.1).map inC).flatten :: arr cb 0 [.slice none 0 0, .slice none 0 0] :: arr lb 0 [.int .i64 (a : Nat), .int .i64 (b : Nat)] :: F
 x := fun _ => x
 ok := fun i => i.1 ≤ 2
theorem tell_tr {ka : Option Addr} {kn kc lb a b : Nat} {code : List Mach.In} (hl : code.length ≤ 100) (hh : Has L (vec 7 (.slice ka kn kc) (code.map inC).flatten) (arr lb 0 [.int .i64 (a : Nat), .int .i64 (b : Nat)] :: F)) :
  Tr Try.prog B 70 [.slice ka kn kc, .slice (some ⟨lb, 0, none⟩) 2 2] L x fun w L' x' => ∃ a' m c, w = .agg #[.slice a' m c, .slice none 0 0] ∧ L' = clC (.slice a' m c) (.slice none 0 0) ⟨code ++ tells a b, []⟩ :: F ∧ x' = x := by
 refine Tr.post (R := fun v L' x' => ∃ a' m c, v = .agg #[.slice a' m c, .slice none 0 0] ∧ x' = x ∧ ∀ h, Star L' h → Star (clC (.slice a' m c) (.slice none 0 0) ⟨code ++ tells a b, []⟩ :: F) h) ?_
  (by rintro v L' x' ⟨a', m, c, rfl, rfl, hs⟩; exact ⟨_, ⟨a', m, c, rfl, rfl, rfl⟩, hs⟩)
 refine tr_star (vec 7 (.slice ka kn kc) (code.map inC).flatten :: arr lb 0 [.int .i64 (a : Nat), .int .i64 (b : Nat)] :: F) (fun h st => hh.star st) ?_
 refine tr_of_body Try.func70 rfl Try.ntmps70 (by simp) fun um Q _ hQ => ?_
 simp only [argE, Nat.zero_add, Nat.reduceAdd]
 repeat (first | (apply wo_mo; apply mo_alloc; exact trivial) | refine we_seq ?_ | (refine wR ?_; try simp only [oS]))
 rintro v' L' ⟨cb, rfl, rfl⟩
 repeat (first | refine we_seq ?_ | (refine wR ?_; try simp only [oS]) | refine wo_nil ?_ | refine wA ?_ | refine we_block ?_)
 refine we_loopN (tellInv x F cb lb code a b) (fun i => 3 - i.1) (0, ka, kn, kc) (by show 0 ≤ 2; omega) ⟨rfl, rfl, rfl, rfl, trivial⟩ ?_ rfl ?_
 ·show Ent _ (vec 7 (.slice ka kn kc) ((code ++ []).map inC).flatten :: arr cb 0 [.slice none 0 0, .slice none 0 0] :: arr lb 0 [.int .i64 (a : Nat), .int .i64 (b : Nat)] :: F)
  rw [List.append_nil]
  exact (.take (.there .here) (.take .here (.take .here .refl)))
 rintro ⟨i, sa, sn, sc⟩ hi
 dsimp only [tellInv] at hi ⊢
 by_cases hc : i < 2
 ·refine we_pure (of_has .here (vec_shape (by omega))) ?_
  rintro ⟨sa', sn', sc', he, hlen, _⟩
  cases he
  have hsn : sn ≤ 102 := by
   have h7 := flat_len (f := inC) (k := 7) (fun _ => rfl) (code ++ (tells a b).take i)
   rw [h7, List.length_append, List.length_take] at hlen
   have : (tells a b).length = 2 := rfl
   omega
  obtain ⟨y, hy⟩ : ∃ y, [a, b][i]? = some y := ⟨[a, b][i]'(by simp; omega), by simp⟩
  have hrd : Rd (vec 7 (.slice sa sn sc) ((code ++ (tells a b).take i).map inC).flatten :: arr cb 0 [.slice none 0 0, .slice none 0 0] :: arr lb 0 [.int .i64 (a : Nat), .int .i64 (b : Nat)] :: F) lb i (.int .i64 (y : Nat)) := by
   refine Rd.there (Rd.there ?_)
   match i, hy with
   | 0, hy => cases hy; exact Rd.row (k := 0) rfl rfl
   | 1, hy => cases hy; exact Rd.row (k := 1) rfl rfl
  repeat (first | (apply wo_po; apply mo_indexAddr (r := i); exact rfl; exact rfl; omega; omega; omega; exact trivial) | (apply wo_po; apply mo_load; exact rfl; exact hrd; exact trivial) | (apply wo_po; apply mo_buildV; (repeat (first | exact EvL.nil | apply EvL.cons rfl)); exact rfl; exact trivial) | (apply wo_mo; apply mo_buildSlice (sz := 7); exact rfl; (repeat (first | exact EvL.nil | apply EvL.cons rfl)); exact rfl; (repeat (first | exact List.forall_mem_nil _ | refine List.forall_mem_cons.2 ⟨rfl, ?_⟩)); omega; exact trivial) | refine wlssT ?_ | refine we_seq ?_ | (refine wR ?_; try simp only [oS]) | refine wo_nil ?_ | refine wM ?_ | refine wE ?_ | refine wT ?_ | refine we_skip ?_ | refine we_block ?_)
  rintro v' L' ⟨sb, rfl, rfl⟩
  repeat (first | (apply wo_mo; apply mo_append (sz := 7) (new := (([⟨22, 0, y, 0, 0, 0, 0⟩] : List Mach.In).map inC).flatten); exact rfl; exact rfl; exact rfl; exact rfl; exact (.there .here); exact rfl; exact .inr ⟨_, _, rfl, Rds.all .here⟩; exact inC_one; (simp only [sliceLen]; omega); exact trivial))
  rintro v' L' rfl
  have hnext : ((code ++ (tells a b).take i).map inC).flatten ++ (([⟨22, 0, y, 0, 0, 0, 0⟩] : List Mach.In).map inC).flatten = ((code ++ (tells a b).take (i + 1)).map inC).flatten := by
   rw [← List.flatten_append, ← List.map_append, List.append_assoc]
   congr 3
   match i, hy with
   | 0, hy => cases hy; rfl
   | 1, hy => cases hy; rfl
  rw [hnext]
  refine wo_pure (of_has .here (vec_shape (by omega))) ?_
  rintro ⟨qa, qn, qc, rfl, _⟩
  repeat (first | (refine wR ?_; try simp only [oS]) | refine wo_nil ?_ | refine wM ?_ | refine wA ?_ | refine wadd ?_)
  exact at_round (I := tellInv _ F cb lb code a b) (R := fun i' => 3 - i'.1 < 3 - i) (i + 1, qa, qn, qc) (by show 3 - (i + 1) < 3 - i; omega) (by show i + 1 ≤ 2; omega) ⟨rfl, rfl, rfl, rfl, trivial⟩ (.take .here (.take (.there .here) (.take (.there .here) (.drop .refl)))) rfl
 ·have : i = 2 := by omega
  subst this
  repeat (first | (apply wo_po; apply mo_buildV; (repeat (first | exact EvL.nil | apply EvL.cons rfl)); exact rfl; exact trivial) | (apply wo_pm; apply mo_storeA (b := cb) (c := 0) (k := 0) (a := 0) (vs := [.slice none 0 0, .slice none 0 0]); exact rfl; exact rfl; exact rfl; (intro w hw; simp [Value.cells] at hw; rcases hw with rfl | rfl <;> rfl); exact rfl; exact Nat.le_refl 2; exact (.there .here); exact trivial) | refine wlssF ?_ | refine we_seq ?_ | (refine wR ?_; try simp only [oS]) | refine wo_nil ?_ | refine wM ?_ | refine wE ?_ | refine wF ?_ | refine we_ret ?_ | refine we_exit ?_)
  refine at_leaveM (rs := [.cell 4 61]) Try.func70 Try.results70 hQ (.inl rfl) (.cons (.cell (vs := [.slice sa sn sc, .slice none 0 0]) rfl rfl (Rds.all (.there .here))) .nil) ?_
  refine ⟨sa, sn, sc, rfl, rfl, fun h st => ?_⟩
  exact cl_shut rfl rfl (Ent.star (.take .here (.drop (.drop .refl))) st)
theorem refused_tr : Tr Try.prog B 69 [.int .i64 5] L x fun w L' x' => ∃ a m c, w = .agg #[.slice a m c, .slice none 0 0] ∧ L' = clC (.slice a m c) (.slice none 0 0) (Mach.mrefCl 5) :: L ∧ x' = x := by
 refine Tr.post (R := fun v L' x' => ∃ a m c, v = .agg #[.slice a m c, .slice none 0 0] ∧ x' = x ∧ ∀ h, Star L' h → Star (clC (.slice a m c) (.slice none 0 0) (Mach.mrefCl 5) :: L) h) ?_
  (by rintro v L' x' ⟨a, m, c, rfl, rfl, hs⟩; exact ⟨_, ⟨a, m, c, rfl, rfl, rfl⟩, hs⟩)
 have hcv : IntKind.u64.wrap (5 : Int) = ((5 : Nat) : Int) := rfl
 refine tr_of_body Try.func69 rfl Try.ntmps69 (by simp) fun um Q _ hQ => ?_
 simp only [argE, Nat.zero_add, Nat.reduceAdd]
 repeat (first | (apply wo_mo; apply mo_alloc; exact trivial) | refine we_seq ?_ | (refine wR ?_; try simp only [oS]))
 rintro v' L' ⟨cb, rfl, rfl⟩
 repeat (first | (apply wo_po; apply mo_conv; exact rfl; exact hcv; exact trivial) | (apply wo_po; apply mo_buildV; (repeat (first | exact EvL.nil | apply EvL.cons rfl)); exact rfl; exact trivial) | (apply wo_mo; apply mo_buildSlice (sz := 7); exact rfl; (repeat (first | exact EvL.nil | apply EvL.cons rfl)); exact rfl; (repeat (first | exact List.forall_mem_nil _ | refine List.forall_mem_cons.2 ⟨rfl, ?_⟩)); omega; exact trivial) | refine we_seq ?_ | (refine wR ?_; try simp only [oS]) | refine wo_nil ?_ | refine wM ?_)
 rintro v' L' ⟨kb, rfl, rfl⟩
 repeat (first | (apply wo_mo; apply mo_buildSlice (sz := 1); exact rfl; (repeat (first | exact EvL.nil | apply EvL.cons rfl)); exact rfl; (repeat (first | exact List.forall_mem_nil _ | refine List.forall_mem_cons.2 ⟨rfl, ?_⟩)); omega; exact trivial))
 rintro v' L' ⟨lb, rfl, rfl⟩
 refine wo_star (vec 7 (.slice (some ⟨kb, 0, none⟩) 1 1) (([⟨6, 0, 0, 0, 0, 0, 5⟩] : List Mach.In).map inC).flatten :: arr lb 0 [.int .i64 (0 : Nat), .int .i64 (9 : Nat)] :: arr cb 0 [.slice none 0 0, .slice none 0 0] :: L) (fun h st => vec_new rfl (star_swap st)) ?_
 skip
 refine wo_call (.cons rfl (.cons rfl .nil)) trivial (tell_tr (a := 0) (b := 9) (code := [⟨6, 0, 0, 0, 0, 0, 5⟩]) (by simp) .here) ?_
 rintro v' L' x' ⟨qa, qn, qc, rfl, rfl, rfl⟩
 repeat (first | (apply wo_pm; apply mo_storeA (b := cb) (c := 0) (k := 0) (a := 0) (vs := [.slice none 0 0, .slice none 0 0]); exact rfl; exact rfl; exact rfl; (intro w hw; simp [Value.cells] at hw; rcases hw with rfl | rfl <;> rfl); exact rfl; exact Nat.le_refl 2; exact (.there .here); exact trivial) | refine wo_nil ?_ | refine we_ret ?_)
 refine at_leaveM (rs := [.cell 2 61]) Try.func69 Try.results69 hQ (.inl rfl) (.cons (.cell (vs := [.slice qa qn qc, .slice none 0 0]) rfl rfl (Rds.all (.there .here))) .nil) ?_
 exact ⟨_, _, _, rfl, rfl, fun h st => Ent.star (.take .here (.drop .refl)) st⟩
set_option maxHeartbeats 8000000 in
theorem take_code_tr (O : BOk num den burst) (ht : now ≤ 1099511627776) {on a out : Nat} (ho : on ≤ 1000) (ha : a ≤ 1000) (hu : out ≤ 1000) : Tr Try.prog B 71 [.int .i64 (on : Nat), .agg #[.int .u64 (num : Nat), .int .u64 (den : Nat), .int .u64 (burst : Nat)], .int .u64 (now : Nat), .int .u64 (n : Nat), .int .i64 (a : Nat), .int .i64 (out : Nat)] L x fun v L' x' => ∃ kb, v = .slice (some ⟨kb, 0, none⟩) 12 12 ∧ L' = arr kb 0 ((Mach.mtakeCode on (now * num) (needN den burst n) (topN num den burst now n) a out).map inC).flatten :: L ∧ x' = x := by
 refine Tr.post (R := fun v L' x' => ∃ kb, v = .slice (some ⟨kb, 0, none⟩) 12 12 ∧ x' = x ∧ ∀ h, Star L' h → Star (arr kb 0 ((Mach.mtakeCode on (now * num) (needN den burst n) (topN num den burst now n) a out).map inC).flatten :: L) h) ?_
  (by rintro v L' x' ⟨kb, rfl, rfl, hs⟩; exact ⟨_, ⟨kb, rfl, rfl, rfl⟩, hs⟩)
 have hm : now * num ≤ 1099511627776 * 65536 := Nat.mul_le_mul ht O.n2
 have hbd : burst * den ≤ 1048576 * 65536 := Nat.mul_le_mul O.b2 O.d2
 have hb2 := O.b2
 have m1 : IntKind.u64.wrap ((now : Int) * (num : Int)) = ((now * num : Nat) : Int) := mulw rfl (by omega)
 have m2 : IntKind.u64.wrap ((burst : Int) * (den : Int)) = ((burst * den : Nat) : Int) := mulw rfl (by omega)
 have s1 : IntKind.u64.wrap (((now * num : Nat) : Int) + ((burst * den : Nat) : Int)) = ((now * num + burst * den : Nat) : Int) := addw rfl (by omega)
 have h11 : IntKind.u64.wrap ((a : Int) + 11) = ((a + 11 : Nat) : Int) := (wrap_u64 (by omega) (by omega)).trans (by omega)
 have h12 : IntKind.u64.wrap ((a : Int) + 12) = ((a + 12 : Nat) : Int) := (wrap_u64 (by omega) (by omega)).trans (by omega)
 have hcv : IntKind.u64.wrap (a : Int) = (a : Int) := wrap_u64 (by omega) (by omega)
 by_cases c : n ≤ burst
 ·have hn : n * den ≤ burst * den := Nat.mul_le_mul_right _ c
  have m3 : IntKind.u64.wrap ((n : Int) * (den : Int)) = ((n * den : Nat) : Int) := mulw rfl (by omega)
  rw [show needN den burst n = n * den from if_pos c, show topN num den burst now n = now * num + burst * den from if_pos c]
  refine tr_of_body Try.func71 rfl Try.ntmps71 (by simp) fun um Q _ hQ => ?_
  simp only [argE, Nat.zero_add, Nat.reduceAdd]
  repeat (first | (apply wo_mo; apply mo_box; exact rfl; exact trivial) | refine we_seq ?_ | (refine wR ?_; try simp only [oS]))
  rintro v' L' ⟨bb, rfl, rfl⟩
  refine wo_ent (arr bb 0 [.int .u64 (num : Nat), .int .u64 (den : Nat), .int .u64 (burst : Nat)] :: L) .refl ?_
  repeat (first | (apply wo_po; apply mo_conv; exact rfl; exact hcv; exact trivial) | (apply wo_po; apply mo_bin; exact rfl; exact rfl; apply bin_mul; (first | exact m1 | exact m2 | exact m3); exact gY) | (apply wo_po; apply mo_bin; exact rfl; exact rfl; apply bin_add; (first | exact s1 | exact h11 | exact h12); exact gY) | (apply wo_po; apply mo_buildV; (repeat (first | exact EvL.nil | apply EvL.cons rfl)); exact rfl; exact trivial) | (apply wo_mo; apply mo_buildSlice (sz := 7); exact rfl; (repeat (first | exact EvL.nil | apply EvL.cons rfl)); exact rfl; (repeat (first | exact List.forall_mem_nil _ | refine List.forall_mem_cons.2 ⟨rfl, ?_⟩)); omega; exact trivial) | refine wleqT ?_ | refine we_seq ?_ | (refine wR ?_; try simp only [oS]) | refine wo_nil ?_ | refine wM ?_ | refine wA ?_ | refine wD ?_ | refine wL ?_ | refine wT ?_)
  rintro v' L' ⟨kb, rfl, rfl⟩
  repeat (first | refine wo_nil ?_ | refine wA ?_ | refine we_ret ?_)
  (first | refine or1 Try.func71 Try.results71 hQ rfl ?_ | refine on1 Try.func71 Try.results71 hQ rfl ?_)
  exact ⟨kb, rfl, rfl, fun h st => Ent.star (.take .here (.drop .refl)) st⟩
 ·rw [show needN den burst n = 0 from if_neg c, show topN num den burst now n = 0 from if_neg c]
  refine tr_of_body Try.func71 rfl Try.ntmps71 (by simp) fun um Q _ hQ => ?_
  simp only [argE, Nat.zero_add, Nat.reduceAdd]
  repeat (first | (apply wo_mo; apply mo_box; exact rfl; exact trivial) | refine we_seq ?_ | (refine wR ?_; try simp only [oS]))
  rintro v' L' ⟨bb, rfl, rfl⟩
  refine wo_ent (arr bb 0 [.int .u64 (num : Nat), .int .u64 (den : Nat), .int .u64 (burst : Nat)] :: L) .refl ?_
  repeat (first | (apply wo_po; apply mo_conv; exact rfl; exact hcv; exact trivial) | (apply wo_po; apply mo_bin; exact rfl; exact rfl; apply bin_mul; (first | exact m1 | exact m2); exact gY) | (apply wo_po; apply mo_bin; exact rfl; exact rfl; apply bin_add; (first | exact s1 | exact h11 | exact h12); exact gY) | (apply wo_po; apply mo_buildV; (repeat (first | exact EvL.nil | apply EvL.cons rfl)); exact rfl; exact trivial) | (apply wo_mo; apply mo_buildSlice (sz := 7); exact rfl; (repeat (first | exact EvL.nil | apply EvL.cons rfl)); exact rfl; (repeat (first | exact List.forall_mem_nil _ | refine List.forall_mem_cons.2 ⟨rfl, ?_⟩)); omega; exact trivial) | refine wleqF ?_ | refine we_seq ?_ | (refine wR ?_; try simp only [oS]) | refine wo_nil ?_ | refine wM ?_ | refine wA ?_ | refine wD ?_ | refine wL ?_ | refine wF ?_ | refine we_skip ?_)
  rintro v' L' ⟨kb, rfl, rfl⟩
  repeat (first | refine wo_nil ?_ | refine wA ?_ | refine we_ret ?_)
  (first | refine or1 Try.func71 Try.results71 hQ rfl ?_ | refine on1 Try.func71 Try.results71 hQ rfl ?_)
  exact ⟨kb, rfl, rfl, fun h st => Ent.star (.take .here (.drop .refl)) st⟩
theorem ref_take_tr (O : BOk num den burst) (hn : n < 18446744073709551616) : Tr Try.prog B 46 [.agg #[.int .u64 (num : Nat), .int .u64 (den : Nat), .int .u64 (burst : Nat)], .int .u64 (now : Nat), .int .u64 (n : Nat)] L x fun w L' x' => ∃ a m c, w = .agg #[.slice a m c, .slice none 0 0] ∧ L' = clC (.slice a m c) (.slice none 0 0) (if now ≤ 1099511627776 then Mach.mtakeCl (now * num) (needN den burst n) (topN num den burst now n) else Mach.mrefCl 5) :: L ∧ x' = x := by
 obtain ⟨kl, hkl⟩ : ∃ kl, (if now ≤ 1099511627776 then Mach.mtakeCl (now * num) (needN den burst n) (topN num den burst now n) else Mach.mrefCl 5) = kl := ⟨_, rfl⟩
 rw [hkl]
 refine Tr.post (R := fun v L' x' => ∃ a m c, v = .agg #[.slice a m c, .slice none 0 0] ∧ x' = x ∧ ∀ h, Star L' h → Star (clC (.slice a m c) (.slice none 0 0) (kl) :: L) h) ?_
  (by rintro v L' x' ⟨a, m, c, rfl, rfl, hs⟩; exact ⟨_, ⟨a, m, c, rfl, rfl, rfl⟩, hs⟩)
 refine tr_of_body Try.func46 rfl Try.ntmps46 (by simp) fun um Q _ hQ => ?_
 simp only [argE, Nat.zero_add, Nat.reduceAdd]
 repeat (first | (apply wo_mo; apply mo_box; exact rfl; exact trivial) | refine we_seq ?_ | (refine wR ?_; try simp only [oS]))
 rintro v' L' ⟨bb, rfl, rfl⟩
 refine wo_ent (arr bb 0 [.int .u64 (num : Nat), .int .u64 (den : Nat), .int .u64 (burst : Nat)] :: L) .refl ?_
 repeat (first | (apply wo_mo; apply mo_alloc; exact trivial))
 rintro v' L' ⟨cb, rfl, rfl⟩
 by_cases ht : now ≤ 1099511627776
 ·rw [if_pos ht] at hkl
  subst hkl
  repeat (first | (apply wo_po; apply mo_loadA (vs := [.int .u64 (num : Nat), .int .u64 (den : Nat), .int .u64 (burst : Nat)]); exact rfl; exact rfl; exact Rds.all (.there .here); exact trivial) | refine wgtrF ?_ | refine we_seq ?_ | (refine wR ?_; try simp only [oS]) | refine wo_nil ?_ | refine wM ?_ | refine wF ?_ | refine we_skip ?_)
  refine wo_call (.cons rfl (.cons rfl (.cons rfl (.cons rfl (.cons rfl (.cons rfl .nil)))))) trivial (take_code_tr (on := 0) (a := 0) (out := 0) O ht (by omega) (by omega) (by omega)) ?_
  rintro v' L' x' ⟨kb, rfl, rfl, rfl⟩
  repeat (first | (apply wo_mo; apply mo_buildSlice (sz := 1); exact rfl; (repeat (first | exact EvL.nil | apply EvL.cons rfl)); exact rfl; (repeat (first | exact List.forall_mem_nil _ | refine List.forall_mem_cons.2 ⟨rfl, ?_⟩)); omega; exact trivial))
  rintro v' L' ⟨lb, rfl, rfl⟩
  refine wo_star (vec 7 (.slice (some ⟨kb, 0, none⟩) 12 12) ((Mach.mtakeCode 0 (now * num) (needN den burst n) (topN num den burst now n) 0 0).map inC).flatten :: arr lb 0 [.int .i64 (9 : Nat), .int .i64 (0 : Nat)] :: arr cb 0 [.slice none 0 0, .slice none 0 0] :: arr bb 0 [.int .u64 (num : Nat), .int .u64 (den : Nat), .int .u64 (burst : Nat)] :: L) (fun h st => vec_new rfl (star_swap st)) ?_
  skip
  refine wo_call (.cons rfl (.cons rfl .nil)) trivial (tell_tr (a := 9) (b := 0) (code := Mach.mtakeCode 0 (now * num) (needN den burst n) (topN num den burst now n) 0 0) (by simp [Mach.mtakeCode]) .here) ?_
  rintro v' L' x' ⟨qa, qn, qc, rfl, rfl, rfl⟩
  repeat (first | (apply wo_pm; apply mo_storeA (b := cb) (c := 0) (k := 0) (a := 0) (vs := [.slice none 0 0, .slice none 0 0]); exact rfl; exact rfl; exact rfl; (intro w hw; simp [Value.cells] at hw; rcases hw with rfl | rfl <;> rfl); exact rfl; exact Nat.le_refl 2; exact (.there .here); exact trivial) | refine wo_nil ?_ | refine we_ret ?_)
  refine at_leaveM (rs := [.cell 6 61]) Try.func46 Try.results46 hQ (.inl rfl) (.cons (.cell (vs := [.slice qa qn qc, .slice none 0 0]) rfl rfl (Rds.all (.there .here))) .nil) ?_
  exact ⟨_, _, _, rfl, rfl, fun h st => Ent.star (.take .here (.drop (.drop .refl))) st⟩
 ·rw [if_neg ht] at hkl
  subst hkl
  repeat (first | refine wgtrT ?_ | refine we_seq ?_ | (refine wR ?_; try simp only [oS]) | refine wo_nil ?_ | refine wM ?_ | refine wT ?_)
  refine wo_call (.cons rfl .nil) trivial refused_tr ?_
  rintro v' L' x' ⟨qa, qn, qc, rfl, rfl, rfl⟩
  repeat (first | (apply wo_pm; apply mo_storeA (b := cb) (c := 0) (k := 0) (a := 0) (vs := [.slice none 0 0, .slice none 0 0]); exact rfl; exact rfl; exact rfl; (intro w hw; simp [Value.cells] at hw; rcases hw with rfl | rfl <;> rfl); exact rfl; exact Nat.le_refl 2; exact (.there .here); exact trivial) | refine wo_nil ?_ | refine we_ret ?_)
  refine at_leaveM (rs := [.cell 6 61]) Try.func46 Try.results46 hQ (.inl rfl) (.cons (.cell (vs := [.slice qa qn qc, .slice none 0 0]) rfl rfl (Rds.all (.there .here))) .nil) ?_
  exact ⟨_, _, _, rfl, rfl, fun h st => Ent.star (.take .here (.drop (.drop .refl))) st⟩
theorem ref_state_tr : Tr Try.prog B 48 [] L x fun w L' x' => ∃ a m c, w = .agg #[.slice a m c, .slice none 0 0] ∧ L' = clC (.slice a m c) (.slice none 0 0) (Mach.mstateCl) :: L ∧ x' = x := by
 refine Tr.post (R := fun v L' x' => ∃ a m c, v = .agg #[.slice a m c, .slice none 0 0] ∧ x' = x ∧ ∀ h, Star L' h → Star (clC (.slice a m c) (.slice none 0 0) (Mach.mstateCl) :: L) h) ?_
  (by rintro v L' x' ⟨a, m, c, rfl, rfl, hs⟩; exact ⟨_, ⟨a, m, c, rfl, rfl, rfl⟩, hs⟩)
 refine tr_of_body Try.func48 rfl Try.ntmps48 (by simp) fun um Q _ hQ => ?_
 simp only [argE, Nat.zero_add, Nat.reduceAdd]
 repeat (first | (apply wo_mo; apply mo_alloc; exact trivial) | refine we_seq ?_ | (refine wR ?_; try simp only [oS]))
 rintro v' L' ⟨cb, rfl, rfl⟩
 repeat (first | (apply wo_po; apply mo_buildV; (repeat (first | exact EvL.nil | apply EvL.cons rfl)); exact rfl; exact trivial) | (apply wo_mo; apply mo_buildSlice (sz := 7); exact rfl; (repeat (first | exact EvL.nil | apply EvL.cons rfl)); exact rfl; (repeat (first | exact List.forall_mem_nil _ | refine List.forall_mem_cons.2 ⟨rfl, ?_⟩)); omega; exact trivial) | refine we_seq ?_ | (refine wR ?_; try simp only [oS]) | refine wo_nil ?_)
 rintro v' L' ⟨kb, rfl, rfl⟩
 repeat (first | (apply wo_mo; apply mo_buildSlice (sz := 1); exact rfl; (repeat (first | exact EvL.nil | apply EvL.cons rfl)); exact rfl; (repeat (first | exact List.forall_mem_nil _ | refine List.forall_mem_cons.2 ⟨rfl, ?_⟩)); omega; exact trivial))
 rintro v' L' ⟨lb, rfl, rfl⟩
 refine wo_star (vec 7 (.slice (some ⟨kb, 0, none⟩) 1 1) (([⟨1, 0, 0, 9, 0, 0, 0⟩] : List Mach.In).map inC).flatten :: arr lb 0 [.int .i64 (9 : Nat), .int .i64 (0 : Nat)] :: arr cb 0 [.slice none 0 0, .slice none 0 0] :: L) (fun h st => vec_new rfl (star_swap st)) ?_
 skip
 refine wo_call (.cons rfl (.cons rfl .nil)) trivial (tell_tr (a := 9) (b := 0) (code := [⟨1, 0, 0, 9, 0, 0, 0⟩]) (by simp) .here) ?_
 rintro v' L' x' ⟨qa, qn, qc, rfl, rfl, rfl⟩
 repeat (first | (apply wo_pm; apply mo_storeA (b := cb) (c := 0) (k := 0) (a := 0) (vs := [.slice none 0 0, .slice none 0 0]); exact rfl; exact rfl; exact rfl; (intro w hw; simp [Value.cells] at hw; rcases hw with rfl | rfl <;> rfl); exact rfl; exact Nat.le_refl 2; exact (.there .here); exact trivial) | refine wo_nil ?_ | refine we_ret ?_)
 refine at_leaveM (rs := [.cell 0 61]) Try.func48 Try.results48 hQ (.inl rfl) (.cons (.cell (vs := [.slice qa qn qc, .slice none 0 0]) rfl rfl (Rds.all (.there .here))) .nil) ?_
 exact ⟨_, _, _, rfl, rfl, fun h st => Ent.star (.take .here (.drop .refl)) st⟩
theorem ref_level_tr (O : BOk num den burst) : Tr Try.prog B 47 [.agg #[.int .u64 (num : Nat), .int .u64 (den : Nat), .int .u64 (burst : Nat)], .int .u64 (now : Nat)] L x fun w L' x' => ∃ a m c, w = .agg #[.slice a m c, .slice none 0 0] ∧ L' = clC (.slice a m c) (.slice none 0 0) (if now ≤ 1099511627776 then Mach.mlevelCl (now * num) (burst * den) den else Mach.mrefCl 5) :: L ∧ x' = x := by
 obtain ⟨kl, hkl⟩ : ∃ kl, (if now ≤ 1099511627776 then Mach.mlevelCl (now * num) (burst * den) den else Mach.mrefCl 5) = kl := ⟨_, rfl⟩
 rw [hkl]
 refine Tr.post (R := fun v L' x' => ∃ a m c, v = .agg #[.slice a m c, .slice none 0 0] ∧ x' = x ∧ ∀ h, Star L' h → Star (clC (.slice a m c) (.slice none 0 0) (kl) :: L) h) ?_
  (by rintro v L' x' ⟨a, m, c, rfl, rfl, hs⟩; exact ⟨_, ⟨a, m, c, rfl, rfl, rfl⟩, hs⟩)
 refine tr_of_body Try.func47 rfl Try.ntmps47 (by simp) fun um Q _ hQ => ?_
 simp only [argE, Nat.zero_add, Nat.reduceAdd]
 repeat (first | (apply wo_mo; apply mo_box; exact rfl; exact trivial) | refine we_seq ?_ | (refine wR ?_; try simp only [oS]))
 rintro v' L' ⟨bb, rfl, rfl⟩
 refine wo_ent (arr bb 0 [.int .u64 (num : Nat), .int .u64 (den : Nat), .int .u64 (burst : Nat)] :: L) .refl ?_
 repeat (first | (apply wo_mo; apply mo_alloc; exact trivial))
 rintro v' L' ⟨cb, rfl, rfl⟩
 by_cases ht : now ≤ 1099511627776
 ·rw [if_pos ht] at hkl
  subst hkl
  have hm : now * num ≤ 1099511627776 * 65536 := Nat.mul_le_mul ht O.n2
  have hbd : burst * den ≤ 1048576 * 65536 := Nat.mul_le_mul O.b2 O.d2
  have m1 : IntKind.u64.wrap ((now : Int) * (num : Int)) = ((now * num : Nat) : Int) := mulw rfl (by omega)
  have m2 : IntKind.u64.wrap ((burst : Int) * (den : Int)) = ((burst * den : Nat) : Int) := mulw rfl (by omega)
  repeat (first | (apply wo_po; apply mo_bin; exact rfl; exact rfl; apply bin_mul; (first | exact m1 | exact m2); exact gY) | (apply wo_po; apply mo_buildV; (repeat (first | exact EvL.nil | apply EvL.cons rfl)); exact rfl; exact trivial) | (apply wo_mo; apply mo_buildSlice (sz := 7); exact rfl; (repeat (first | exact EvL.nil | apply EvL.cons rfl)); exact rfl; (repeat (first | exact List.forall_mem_nil _ | refine List.forall_mem_cons.2 ⟨rfl, ?_⟩)); omega; exact trivial) | refine wgtrF ?_ | refine we_seq ?_ | (refine wR ?_; try simp only [oS]) | refine wo_nil ?_ | refine wM ?_ | refine wD ?_ | refine wL ?_ | refine wF ?_ | refine we_skip ?_)
  rintro v' L' ⟨kb, rfl, rfl⟩
  repeat (first | (apply wo_mo; apply mo_buildSlice (sz := 1); exact rfl; (repeat (first | exact EvL.nil | apply EvL.cons rfl)); exact rfl; (repeat (first | exact List.forall_mem_nil _ | refine List.forall_mem_cons.2 ⟨rfl, ?_⟩)); omega; exact trivial))
  rintro v' L' ⟨lb, rfl, rfl⟩
  refine wo_star (vec 7 (.slice (some ⟨kb, 0, none⟩) 9 9) (([⟨1, 0, 0, 9, 0, 0, 0⟩, ⟨6, 0, 1, 0, 0, 0, now * num⟩, ⟨16, 0, 0, 0, 1, 0, 0⟩, ⟨8, 0, 2, 1, 9, 0, burst * den⟩, ⟨6, 0, 3, 0, 0, 0, 0⟩, ⟨20, 0, 2, 0, 0, 0, 9⟩, ⟨9, 0, 2, 2, 0, 0, 0⟩, ⟨6, 0, 4, 0, 0, 0, den⟩, ⟨11, 0, 3, 2, 4, 0, 0⟩] : List Mach.In).map inC).flatten :: arr lb 0 [.int .i64 (9 : Nat), .int .i64 (3 : Nat)] :: arr cb 0 [.slice none 0 0, .slice none 0 0] :: arr bb 0 [.int .u64 (num : Nat), .int .u64 (den : Nat), .int .u64 (burst : Nat)] :: L) (fun h st => vec_new rfl (star_swap st)) ?_
  skip
  refine wo_call (.cons rfl (.cons rfl .nil)) trivial (tell_tr (a := 9) (b := 3) (code := [⟨1, 0, 0, 9, 0, 0, 0⟩, ⟨6, 0, 1, 0, 0, 0, now * num⟩, ⟨16, 0, 0, 0, 1, 0, 0⟩, ⟨8, 0, 2, 1, 9, 0, burst * den⟩, ⟨6, 0, 3, 0, 0, 0, 0⟩, ⟨20, 0, 2, 0, 0, 0, 9⟩, ⟨9, 0, 2, 2, 0, 0, 0⟩, ⟨6, 0, 4, 0, 0, 0, den⟩, ⟨11, 0, 3, 2, 4, 0, 0⟩]) (by simp) .here) ?_
  rintro v' L' x' ⟨qa, qn, qc, rfl, rfl, rfl⟩
  repeat (first | (apply wo_pm; apply mo_storeA (b := cb) (c := 0) (k := 0) (a := 0) (vs := [.slice none 0 0, .slice none 0 0]); exact rfl; exact rfl; exact rfl; (intro w hw; simp [Value.cells] at hw; rcases hw with rfl | rfl <;> rfl); exact rfl; exact Nat.le_refl 2; exact (.there .here); exact trivial) | refine wo_nil ?_ | refine we_ret ?_)
  refine at_leaveM (rs := [.cell 4 61]) Try.func47 Try.results47 hQ (.inl rfl) (.cons (.cell (vs := [.slice qa qn qc, .slice none 0 0]) rfl rfl (Rds.all (.there .here))) .nil) ?_
  exact ⟨_, _, _, rfl, rfl, fun h st => Ent.star (.take .here (.drop (.drop .refl))) st⟩
 ·rw [if_neg ht] at hkl
  subst hkl
  repeat (first | refine wgtrT ?_ | refine we_seq ?_ | (refine wR ?_; try simp only [oS]) | refine wo_nil ?_ | refine wM ?_ | refine wT ?_)
  refine wo_call (.cons rfl .nil) trivial refused_tr ?_
  rintro v' L' x' ⟨qa, qn, qc, rfl, rfl, rfl⟩
  repeat (first | (apply wo_pm; apply mo_storeA (b := cb) (c := 0) (k := 0) (a := 0) (vs := [.slice none 0 0, .slice none 0 0]); exact rfl; exact rfl; exact rfl; (intro w hw; simp [Value.cells] at hw; rcases hw with rfl | rfl <;> rfl); exact rfl; exact Nat.le_refl 2; exact (.there .here); exact trivial) | refine wo_nil ?_ | refine we_ret ?_)
  refine at_leaveM (rs := [.cell 4 61]) Try.func47 Try.results47 hQ (.inl rfl) (.cons (.cell (vs := [.slice qa qn qc, .slice none 0 0]) rfl rfl (Rds.all (.there .here))) .nil) ?_
  exact ⟨_, _, _, rfl, rfl, fun h st => Ent.star (.take .here (.drop (.drop .refl))) st⟩
end
end
section
section
variable {B : Hand} [Lets B] {gv : Value} {A : Acc B gv} {r num den burst now n : Nat} {L F : List HProp} {x : B.X}
theorem done_tr (R : MeterAt A r num den burst) {kind : Int} {kd : Nat} (hk : -9223372036854775808 ≤ kind ∧ kind ≤ 9223372036854775807) (hkd : kind % 3 = kd) (hn : n < 18446744073709551616) {s : A.S} {Q : List Nat → A.S → Prop} (hs : DoneT A num den burst kd now n s Q) (hh : Has L (A.C s) F) :
  Tr Try.prog B 18 [.pointer (some ⟨r, 0, none⟩), gv, .agg #[.int .i64 kind, .int .u64 (now : Nat), .int .u64 (n : Nat)]] L (A.x s) fun w L' x' => ∃ told s', Q told s' ∧ L' = vec 1 w (told.map Go.PB.num) :: A.C s' :: F ∧ x' = A.x s' := by
 refine Tr.post (R := fun w L' x' => ∃ told s', Q told s' ∧ x' = A.x s' ∧ ∀ h, Star L' h → Star (vec 1 w (told.map Go.PB.num) :: A.C s' :: F) h) ?_
  (by rintro v L' x' ⟨told, s', h1, rfl, hs⟩; exact ⟨_, ⟨told, s', h1, rfl, rfl⟩, hs⟩)
 unfold DoneT at hs
 have cv0 : IntKind.u64.wrap (0 : Int) = ((0 : Nat) : Int) := rfl
 have cv5 : IntKind.u64.wrap (5 : Int) = ((5 : Nat) : Int) := rfl
 refine tr_of_body Try.func18 rfl Try.ntmps18 (by simp) fun um Q _ hQ => ?_
 simp only [argE, Nat.zero_add, Nat.reduceAdd]
 repeat (first | (apply wo_mo; apply mo_box; exact rfl; exact trivial) | refine we_seq ?_ | (refine wR ?_; try simp only [oS]))
 rintro v' L' ⟨db, rfl, rfl⟩
 refine wo_ent (arr db 0 [.int .i64 kind, .int .u64 (now : Nat), .int .u64 (n : Nat)] :: L) .refl ?_
 repeat (first | refine we_seq ?_ | (refine wR ?_; try simp only [oS]) | refine wo_nil ?_ | refine wA ?_ | refine wD ?_ | refine wL ?_)
 refine wo_call (.cons rfl (.cons rfl .nil)) trivial (within_tr hk (by omega)) ?_
 rintro v' L' x' ⟨rfl, rfl, rfl⟩
 rw [hkd]
 by_cases k0 : kd = 0
 ·rw [if_pos k0] at hs
  by_cases ht : now ≤ 1099511627776
  ·rw [if_pos ht] at hs
   repeat (first | refine weqlT ?_ | refine we_seq ?_ | (refine wR ?_; try simp only [oS]) | refine wo_nil ?_ | refine wM ?_ | refine wA ?_ | refine wD ?_ | refine wL ?_ | refine wT ?_ | refine we_block ?_)
   refine wo_call (.cons rfl (.cons rfl (.cons rfl (.cons rfl .nil)))) trivial (mtake_tr R ht hn hs (.there hh)) ?_
   rintro v' L' x' ⟨q, s', h1, rfl, rfl, rfl⟩
   repeat (first | (apply wo_po; apply mo_conv; exact rfl; (first | exact cv0 | exact cv5); exact trivial) | refine we_seq ?_ | (refine wR ?_; try simp only [oS]) | refine wo_nil ?_ | refine wM ?_ | refine wA ?_ | (apply wo_po; apply mo_extract; exact rfl; exact rfl; exact gY))
   refine wo_call (.cons rfl .nil) trivial yes_tr ?_
   rintro v' L' x' ⟨rfl, rfl, rfl⟩
   repeat (first | (apply wo_mo; apply mo_buildSlice (sz := 1) (vs := [Go.PB.num 0, Go.PB.num (yes q)]); exact rfl; (repeat (first | exact EvL.nil | apply EvL.cons rfl)); exact rfl; (repeat (first | exact List.forall_mem_nil _ | refine List.forall_mem_cons.2 ⟨rfl, ?_⟩)); omega; exact trivial))
   rintro v' L' ⟨vb, rfl, rfl⟩
   repeat (first | refine wo_nil ?_ | refine wA ?_ | refine we_ret ?_)
   (first | refine or1 Try.func18 Try.results18 hQ rfl ?_ | refine on1 Try.func18 Try.results18 hQ rfl ?_)
   refine ⟨[0, (yes q)], s', h1, rfl, fun h st => ?_⟩
   exact vec_new (n := 2) rfl (Ent.star (.take .here (.take .here (.drop .refl))) st)
  ·rw [if_neg ht] at hs
   repeat (first | refine weqlT ?_ | refine we_seq ?_ | (refine wR ?_; try simp only [oS]) | refine wo_nil ?_ | refine wM ?_ | refine wA ?_ | refine wD ?_ | refine wL ?_ | refine wT ?_ | refine we_block ?_)
   refine wo_call (.cons rfl (.cons rfl (.cons rfl (.cons rfl .nil)))) trivial (mtake_far R (by omega) (.there hh)) ?_
   rintro v' L' x' ⟨rfl, rfl, rfl⟩
   repeat (first | (apply wo_po; apply mo_conv; exact rfl; (first | exact cv0 | exact cv5); exact trivial) | refine we_seq ?_ | (refine wR ?_; try simp only [oS]) | refine wo_nil ?_ | refine wM ?_ | refine wA ?_ | (apply wo_po; apply mo_extract; exact rfl; exact rfl; exact gY))
   refine wo_call (.cons rfl .nil) trivial yes_tr ?_
   rintro v' L' x' ⟨rfl, rfl, rfl⟩
   repeat (first | (apply wo_mo; apply mo_buildSlice (sz := 1) (vs := [Go.PB.num 5, Go.PB.num (yes false)]); exact rfl; (repeat (first | exact EvL.nil | apply EvL.cons rfl)); exact rfl; (repeat (first | exact List.forall_mem_nil _ | refine List.forall_mem_cons.2 ⟨rfl, ?_⟩)); omega; exact trivial))
   rintro v' L' ⟨vb, rfl, rfl⟩
   repeat (first | refine wo_nil ?_ | refine wA ?_ | refine we_ret ?_)
   (first | refine or1 Try.func18 Try.results18 hQ rfl ?_ | refine on1 Try.func18 Try.results18 hQ rfl ?_)
   refine ⟨[5, 0], s, hs, rfl, fun h st => ?_⟩
   exact vec_new (n := 2) rfl (Ent.star (Ent.take .here (.take (.there hh) (.drop .refl))) st)
 ·rw [if_neg k0] at hs
  by_cases k1 : kd = 1
  ·rw [if_pos k1] at hs
   by_cases ht : now ≤ 1099511627776
   ·rw [if_pos ht] at hs
    repeat (first | refine weqlT ?_ | refine weqlF ?_ | refine we_seq ?_ | (refine wR ?_; try simp only [oS]) | refine wo_nil ?_ | refine wM ?_ | refine wA ?_ | refine wD ?_ | refine wL ?_ | refine wT ?_ | refine wF ?_ | refine we_block ?_)
    refine wo_call (.cons rfl (.cons rfl (.cons rfl .nil))) trivial (mlevel_tr R ht hs (.there hh)) ?_
    rintro v' L' x' ⟨o, s', ho, h1, rfl, rfl, rfl⟩
    repeat (first | (apply wo_po; apply mo_conv; exact rfl; (first | exact cv0 | exact cv5); exact trivial) | (apply wo_mo; apply mo_buildSlice (sz := 1) (vs := [Go.PB.num 0, Go.PB.num (levelN num den burst o now)]); exact rfl; (repeat (first | exact EvL.nil | apply EvL.cons rfl)); exact rfl; (repeat (first | exact List.forall_mem_nil _ | refine List.forall_mem_cons.2 ⟨rfl, ?_⟩)); omega; exact trivial) | refine we_seq ?_ | (refine wR ?_; try simp only [oS]) | refine wo_nil ?_ | refine wM ?_ | refine wA ?_ | (apply wo_po; apply mo_extract; exact rfl; exact rfl; exact gY))
    rintro v' L' ⟨vb, rfl, rfl⟩
    repeat (first | refine wo_nil ?_ | refine wA ?_ | refine we_ret ?_)
    (first | refine or1 Try.func18 Try.results18 hQ rfl ?_ | refine on1 Try.func18 Try.results18 hQ rfl ?_)
    refine ⟨[0, (levelN num den burst o now)], s', h1, rfl, fun h st => ?_⟩
    exact vec_new (n := 2) rfl (Ent.star (.take .here (.take .here (.drop .refl))) st)
   ·rw [if_neg ht] at hs
    repeat (first | refine weqlT ?_ | refine weqlF ?_ | refine we_seq ?_ | (refine wR ?_; try simp only [oS]) | refine wo_nil ?_ | refine wM ?_ | refine wA ?_ | refine wD ?_ | refine wL ?_ | refine wT ?_ | refine wF ?_ | refine we_block ?_)
    refine wo_call (.cons rfl (.cons rfl (.cons rfl .nil))) trivial (mlevel_far R (by omega) (.there hh)) ?_
    rintro v' L' x' ⟨rfl, rfl, rfl⟩
    repeat (first | (apply wo_po; apply mo_conv; exact rfl; (first | exact cv0 | exact cv5); exact trivial) | (apply wo_mo; apply mo_buildSlice (sz := 1) (vs := [Go.PB.num 5, Go.PB.num 0]); exact rfl; (repeat (first | exact EvL.nil | apply EvL.cons rfl)); exact rfl; (repeat (first | exact List.forall_mem_nil _ | refine List.forall_mem_cons.2 ⟨rfl, ?_⟩)); omega; exact trivial) | refine we_seq ?_ | (refine wR ?_; try simp only [oS]) | refine wo_nil ?_ | refine wM ?_ | refine wA ?_ | (apply wo_po; apply mo_extract; exact rfl; exact rfl; exact gY))
    rintro v' L' ⟨vb, rfl, rfl⟩
    repeat (first | refine wo_nil ?_ | refine wA ?_ | refine we_ret ?_)
    (first | refine or1 Try.func18 Try.results18 hQ rfl ?_ | refine on1 Try.func18 Try.results18 hQ rfl ?_)
    refine ⟨[5, 0], s, hs, rfl, fun h st => ?_⟩
    exact vec_new (n := 2) rfl (Ent.star (Ent.take .here (.take (.there hh) (.drop .refl))) st)
  ·rw [if_neg k1] at hs
   repeat (first | refine weqlF ?_ | refine we_seq ?_ | (refine wR ?_; try simp only [oS]) | refine wo_nil ?_ | refine wM ?_ | refine wA ?_ | refine wF ?_ | refine we_skip ?_ | refine we_block ?_)
   refine wo_call (.cons rfl (.cons rfl .nil)) trivial (mstate_tr R hs (.there hh)) ?_
   rintro v' L' x' ⟨o, s', ho, h1, rfl, rfl, rfl⟩
   repeat (first | (apply wo_po; apply mo_conv; exact rfl; (first | exact cv0 | exact cv5); exact trivial) | (apply wo_mo; apply mo_buildSlice (sz := 1) (vs := [Go.PB.num 0, Go.PB.num o]); exact rfl; (repeat (first | exact EvL.nil | apply EvL.cons rfl)); exact rfl; (repeat (first | exact List.forall_mem_nil _ | refine List.forall_mem_cons.2 ⟨rfl, ?_⟩)); omega; exact trivial) | refine we_seq ?_ | (refine wR ?_; try simp only [oS]) | refine wo_nil ?_ | refine wM ?_ | refine wA ?_ | (apply wo_po; apply mo_extract; exact rfl; exact rfl; exact gY))
   rintro v' L' ⟨vb, rfl, rfl⟩
   repeat (first | refine wo_nil ?_ | refine wA ?_ | refine we_ret ?_)
   (first | refine or1 Try.func18 Try.results18 hQ rfl ?_ | refine on1 Try.func18 Try.results18 hQ rfl ?_)
   refine ⟨[0, o], s', h1, rfl, fun h st => ?_⟩
   exact vec_new (n := 2) rfl (Ent.star (.take .here (.take .here (.drop .refl))) st)
theorem call_tr (O : BOk num den burst) (hn : n < 18446744073709551616) {kind : Int} {kd : Nat} (hk : -9223372036854775808 ≤ kind ∧ kind ≤ 9223372036854775807) (hkd : kind % 3 = kd) :
  Tr Try.prog B 20 [.agg #[.int .u64 (num : Nat), .int .u64 (den : Nat), .int .u64 (burst : Nat)], .agg #[.int .i64 kind, .int .u64 (now : Nat), .int .u64 (n : Nat)]] L x fun w L' x' => ∃ a m c, w = .agg #[.slice a m c, .slice none 0 0] ∧ L' = clC (.slice a m c) (.slice none 0 0) (callCl num den burst kd now n) :: L ∧ x' = x := by
 refine Tr.post (R := fun v L' x' => ∃ a m c, v = .agg #[.slice a m c, .slice none 0 0] ∧ x' = x ∧ ∀ h, Star L' h → Star (clC (.slice a m c) (.slice none 0 0) (callCl num den burst kd now n) :: L) h) ?_
  (by rintro v L' x' ⟨a, m, c, rfl, rfl, hs⟩; exact ⟨_, ⟨a, m, c, rfl, rfl, rfl⟩, hs⟩)
 refine tr_of_body Try.func20 rfl Try.ntmps20 (by simp) fun um Q _ hQ => ?_
 simp only [argE, Nat.zero_add, Nat.reduceAdd]
 repeat (first | (apply wo_mo; apply mo_box; exact rfl; exact trivial) | refine we_seq ?_ | (refine wR ?_; try simp only [oS]))
 rintro v' L' ⟨bb, rfl, rfl⟩
 refine wo_ent (arr bb 0 [.int .u64 (num : Nat), .int .u64 (den : Nat), .int .u64 (burst : Nat)] :: L) .refl ?_
 repeat (first | (apply wo_mo; apply mo_box; exact rfl; exact trivial))
 rintro v' L' ⟨db, rfl, rfl⟩
 refine wo_ent (arr db 0 [.int .i64 kind, .int .u64 (now : Nat), .int .u64 (n : Nat)] :: arr bb 0 [.int .u64 (num : Nat), .int .u64 (den : Nat), .int .u64 (burst : Nat)] :: L) .refl ?_
 repeat (first | (apply wo_mo; apply mo_alloc; exact trivial))
 rintro v' L' ⟨ab, rfl, rfl⟩
 repeat (first | refine we_seq ?_ | (refine wR ?_; try simp only [oS]) | refine wo_nil ?_ | refine wD ?_ | refine wL ?_)
 refine wo_call (.cons rfl (.cons rfl .nil)) trivial (within_tr hk (by omega)) ?_
 rintro v' L' x' ⟨rfl, rfl, rfl⟩
 rw [hkd]
 by_cases k0 : kd = 0
 ·have e : callCl num den burst kd now n = if now ≤ 1099511627776 then Mach.mtakeCl (now * num) (needN den burst n) (topN num den burst now n) else Mach.mrefCl 5 := if_pos k0
  repeat (first | (apply wo_po; apply mo_loadA (vs := [.int .u64 (num : Nat), .int .u64 (den : Nat), .int .u64 (burst : Nat)]); exact rfl; exact rfl; exact Rds.all (.there (.there .here)); exact trivial) | refine weqlT ?_ | refine we_seq ?_ | (refine wR ?_; try simp only [oS]) | refine wo_nil ?_ | refine wA ?_ | refine wD ?_ | refine wL ?_ | refine wT ?_ | refine we_block ?_)
  refine wo_call (.cons rfl (.cons rfl (.cons rfl .nil))) trivial (ref_take_tr O hn) ?_
  rintro v' L' x' ⟨qa, qn, qc, rfl, rfl, rfl⟩
  repeat (first | (apply wo_pm; apply mo_storeA (b := ab) (c := 0) (k := 0) (a := 0) (vs := [.slice none 0 0, .slice none 0 0]); exact rfl; exact rfl; exact rfl; (intro w hw; simp [Value.cells] at hw; rcases hw with rfl | rfl <;> rfl); exact rfl; exact Nat.le_refl 2; exact (.there .here); exact trivial) | refine wo_nil ?_ | refine we_ret ?_)
  refine at_leaveM (rs := [.cell 4 61]) Try.func20 Try.results20 hQ (.inl rfl) (.cons (.cell (vs := [.slice qa qn qc, .slice none 0 0]) rfl rfl (Rds.all (.there .here))) .nil) ?_
  exact ⟨_, _, _, rfl, rfl, fun h st => by rw [e]; exact Ent.star (.take .here (.drop (.drop (.drop .refl)))) st⟩
 ·by_cases k1 : kd = 1
  ·have e : callCl num den burst kd now n = if now ≤ 1099511627776 then Mach.mlevelCl (now * num) (burst * den) den else Mach.mrefCl 5 := (if_neg k0).trans (if_pos k1)
   repeat (first | (apply wo_po; apply mo_loadA (vs := [.int .u64 (num : Nat), .int .u64 (den : Nat), .int .u64 (burst : Nat)]); exact rfl; exact rfl; exact Rds.all (.there (.there .here)); exact trivial) | refine weqlT ?_ | refine weqlF ?_ | refine we_seq ?_ | (refine wR ?_; try simp only [oS]) | refine wo_nil ?_ | refine wA ?_ | refine wD ?_ | refine wL ?_ | refine wT ?_ | refine wF ?_ | refine we_block ?_)
   refine wo_call (.cons rfl (.cons rfl .nil)) trivial (ref_level_tr O) ?_
   rintro v' L' x' ⟨qa, qn, qc, rfl, rfl, rfl⟩
   repeat (first | (apply wo_pm; apply mo_storeA (b := ab) (c := 0) (k := 0) (a := 0) (vs := [.slice none 0 0, .slice none 0 0]); exact rfl; exact rfl; exact rfl; (intro w hw; simp [Value.cells] at hw; rcases hw with rfl | rfl <;> rfl); exact rfl; exact Nat.le_refl 2; exact (.there .here); exact trivial) | refine wo_nil ?_ | refine we_ret ?_)
   refine at_leaveM (rs := [.cell 4 61]) Try.func20 Try.results20 hQ (.inl rfl) (.cons (.cell (vs := [.slice qa qn qc, .slice none 0 0]) rfl rfl (Rds.all (.there .here))) .nil) ?_
   exact ⟨_, _, _, rfl, rfl, fun h st => by rw [e]; exact Ent.star (.take .here (.drop (.drop (.drop .refl)))) st⟩
  ·have e : callCl num den burst kd now n = Mach.mstateCl := (if_neg k0).trans (if_neg k1)
   repeat (first | refine weqlF ?_ | refine we_seq ?_ | (refine wR ?_; try simp only [oS]) | refine wo_nil ?_ | refine wA ?_ | refine wF ?_ | refine we_skip ?_ | refine we_block ?_)
   refine wo_call (.nil) trivial (ref_state_tr) ?_
   rintro v' L' x' ⟨qa, qn, qc, rfl, rfl, rfl⟩
   repeat (first | (apply wo_pm; apply mo_storeA (b := ab) (c := 0) (k := 0) (a := 0) (vs := [.slice none 0 0, .slice none 0 0]); exact rfl; exact rfl; exact rfl; (intro w hw; simp [Value.cells] at hw; rcases hw with rfl | rfl <;> rfl); exact rfl; exact Nat.le_refl 2; exact (.there .here); exact trivial) | refine wo_nil ?_ | refine we_ret ?_)
   refine at_leaveM (rs := [.cell 4 61]) Try.func20 Try.results20 hQ (.inl rfl) (.cons (.cell (vs := [.slice qa qn qc, .slice none 0 0]) rfl rfl (Rds.all (.there .here))) .nil) ?_
   exact ⟨_, _, _, rfl, rfl, fun h st => by rw [e]; exact Ent.star (.take .here (.drop (.drop (.drop .refl)))) st⟩
end
end
end Go.Proofs.Ythoefhocecdlhaa
namespace Go.PB
section
section
variable {P : Program} {xt : TypeId} {x y : Operand} {a b : ByteArray}
theorem wpS_partA {M : Mark → Prop} {α : Type} {t : TypeId} {n : Nat} {cs : Array Value} {off : Nat} {kk : Value → Sem α} (ha : aggOf P t = some true) (hz : szOf P t = some n) {h : Hp} {Q : α → Hp → Prop} {X : Value → Hp → Prop} (q : wpS P M (kk (.agg (cs.extract off (off + n)))) h Q X) :
  wpS P M (Sem.bind (part t cs off) kk) h Q X := by
 refine wpS_bind _ _ ?_
 unfold part
 refine wpS_isAgg (q := true) ha ?_
 simp only [if_true]
 refine wpS_sizeOf hz ?_
 exact q
theorem eql_turned {t t1 : TypeId} {f0 f1 g0 g1 : Field} {k0 k1 k2 : IntKind} {a0 b0 a1 b1 a2 b2 : Int} [p : Und P t (.struct #[f0, f1])] [p1 : Und P t1 (.struct #[g0, g1])] [sz : Siz P t1 2] (hs : P.stoodInHeld t = false) (hs1 : P.stoodInHeld t1 = false) (hg : P.eqGuardType P.depth t = false)
  (n0 : f0.name ≠ "_") (n1 : f1.name ≠ "_") (m0 : g0.name ≠ "_") (m1 : g1.name ≠ "_") (o0 : f0.offset = 0) (o1 : f1.offset = 1) (q0 : g0.offset = 0) (q1 : g1.offset = 1) (ft1 : f1.type = t1) (t0 : P.underlying f0.type = some (.int k0)) (u0 : P.underlying g0.type = some (.int k1)) (u1 : P.underlying g1.type = some (.int k2)) :
  Eql P t x y (.agg #[.int k0 a0, .int k1 a1, .int k2 a2]) (.agg #[.int k0 b0, .int k1 b1, .int k2 b2]) (decide (a0 = b0 ∧ a1 = b1 ∧ a2 = b2)) :=
 eql_agg hg fun {M h Q X} q => by
  rw [equal_def]
  unfold Op.equalIn
  refine wpS_underlying p.ok ?_
  dsimp only
  refine wpS_program (β := Unit) ?_
  simp only [hs, Bool.false_eq_true, if_false, ← Array.forIn_toList, List.forIn_cons, List.forIn_nil, n0, n1, ne_eq, not_false_eq_true, if_true, bind_assoc, pure_bind, o0, o1, ft1]
  have ha : aggOf P t1 = some true := by unfold aggOf; rw [p1.ok]; rfl
  refine wpS_partI t0 rfl (wpS_partI t0 rfl (wpS_equalI (d := 9998) t0 ?_))
  by_cases e0 : a0 = b0
  ·subst e0
   simp only [beq_self_eq_true, Bool.not_true, Bool.false_eq_true, if_false, pure_bind, bind_assoc]
   refine wpS_partA ha sz.ok (wpS_partA ha sz.ok (wpS_bind _ _ ?_))
   refine equalIn_two (d := 9997) p1.ok hs1 m0 m1 q0 q1 u0 u1 ?_
   by_cases e1 : a1 = b1 ∧ a2 = b2
   ·obtain ⟨rfl, rfl⟩ := e1
    simp only [decide_true, and_self, Bool.not_true, Bool.false_eq_true, if_false, pure_bind]
    have q' : Q true h := by simpa using q
    exact q'
   ·simp only [e1, decide_false, Bool.not_false, if_true, pure_bind]
    have q' : Q false h := by simpa [e1] using q
    exact q'
  ·have : (a0 == b0) = false := by simp [e0]
   simp only [this, Bool.not_false, if_true, pure_bind, bind_assoc]
   have q' : Q false h := by simpa [e0] using q
   exact q'
end
end
end Go.PB
namespace Go.Proofs.Ythoefhocecdlhaa
open Go Go.PB
attribute [local irreducible] Mo Bin Eql Tr Wo Ap
section
theorem eqTurn {x y : Operand} {a0 b0 a1 b1 a2 b2 : Int} : Eql Try.prog 116 x y (.agg #[.int .i64 a0, .int .u8 a1, .int .i64 a2]) (.agg #[.int .i64 b0, .int .u8 b1, .int .i64 b2]) (decide (a0 = b0 ∧ a1 = b1 ∧ a2 = b2)) :=
 haveI p0 : Und Try.prog 116 _ := ⟨Try.underlying116⟩
 haveI p1 : Und Try.prog 114 _ := ⟨Try.underlying114⟩
 eql_turned (t1 := 114) (p := p0) (p1 := p1) (by kernel_rfl) (by kernel_rfl) (by kernel_rfl) (by decide) (by decide) (by decide) (by decide) rfl rfl rfl rfl rfl (by kernel_rfl) (by kernel_rfl) (by kernel_rfl)
def RdTr (L : List HProp) (a : Option Addr) (l : List (Nat × (Int × Int))) : Prop := ∀ (i : Nat) t, l[i]? = some t → ∃ b o, a = some ⟨b, o, none⟩ ∧ Rds L b (o + 3 * i) [.int .i64 (t.1 : Nat), .int .u8 t.2.1, .int .i64 t.2.2]
def RdI (L : List HProp) (a : Option Addr) (l : List Nat) : Prop := ∀ (i : Nat) k, l[i]? = some k → ∃ b o, a = some ⟨b, o, none⟩ ∧ Rd L b (o + i) (.int .i64 (k : Nat))
theorem RdTr.there {L : List HProp} {a : Option Addr} {l : List (Nat × (Int × Int))} {d : HProp} (h : RdTr L a l) : RdTr (d :: L) a l := fun i t hi => by
 obtain ⟨b, o, e, r⟩ := h i t hi
 exact ⟨b, o, e, fun j v hj => .there (r j v hj)⟩
theorem RdI.there {L : List HProp} {a : Option Addr} {l : List Nat} {d : HProp} (h : RdI L a l) : RdI (d :: L) a l := fun i t hi => by
 obtain ⟨b, o, e, r⟩ := h i t hi
 exact ⟨b, o, e, .there r⟩
section
variable {B : Hand} [Lets B] {L F : List HProp} {x : B.X}
def samePInv (x : B.X) (j p q : Nat) (n : Nat) (u1 u2 v1 v2 : Value) (L : List HProp) : Inv Nat B.X where
 e := fun i => [(2, .pointer (some ⟨p, 0, none⟩)), (3, .pointer (some ⟨q, 0, none⟩)), (j, .int .i64 (i : Nat))]
 L := fun _ => arr q 0 [v1, v2] :: arr p 0 [u1, u2] :: L
 x := fun _ => x
 ok := fun i => i ≤ n
theorem same_played_tr {a1 a2 a3 a4 : Option Addr} {c1 c2 c3 c4 : Nat} {tr : List (Nat × (Int × Int))} {cut : List Nat} (h1 : RdTr L a1 tr) (h3 : RdTr L a3 tr) (h2 : RdI L a2 cut) (h4 : RdI L a4 cut) (hl : tr.length < 1000000000) (hl2 : cut.length < 1000000000) :
  Tr Try.prog B 34 [.agg #[.slice a1 tr.length c1, .slice a2 cut.length c2], .agg #[.slice a3 tr.length c3, .slice a4 cut.length c4]] L x fun v L' x' => v = .bool true ∧ L' = L ∧ x' = x := by
 refine Tr.post (R := fun v L' x' => v = .bool true ∧ x' = x ∧ ∀ h, Star L' h → Star L h) ?_
  (by rintro v L' x' ⟨rfl, rfl, h2⟩; exact ⟨_, ⟨rfl, rfl, rfl⟩, h2⟩)
 refine tr_of_body Try.func34 rfl Try.ntmps34 (by simp) fun um Q _ hQ => ?_
 simp only [argE, Nat.zero_add, Nat.reduceAdd]
 repeat (first | (apply wo_mo; apply mo_box; exact rfl; exact trivial) | refine we_seq ?_ | (refine wR ?_; try simp only [oS]))
 rintro v' L' ⟨p, rfl, rfl⟩
 repeat (first | (apply wo_mo; apply mo_box; exact rfl; exact trivial))
 rintro v' L' ⟨q, rfl, rfl⟩
 refine wo_ent (arr q 0 [.slice a3 tr.length c3, .slice a4 cut.length c4] :: arr p 0 [.slice a1 tr.length c1, .slice a2 cut.length c2] :: L) .refl ?_
 repeat (first | refine wneqF ?_ | refine we_seq ?_ | (refine wR ?_; try simp only [oS]) | refine wo_nil ?_ | refine wM ?_ | refine wA ?_ | refine wJ ?_ | refine wD ?_ | refine wL ?_ | refine wE ?_ | refine wF ?_ | refine we_skip ?_ | refine we_block ?_)
 refine we_loopN (samePInv x 5 p q tr.length (.slice a1 tr.length c1) (.slice a2 cut.length c2) (.slice a3 tr.length c3) (.slice a4 cut.length c4) L) (fun i => tr.length - i) 0 (Nat.zero_le _) ⟨rfl, rfl, rfl, trivial⟩ .refl rfl ?_
 intro i hi
 replace hi : i ≤ tr.length := hi
 simp only [samePInv]
 by_cases hlt : i < tr.length
 ·obtain ⟨t, ht⟩ : ∃ t, tr[i]? = some t := ⟨tr[i], List.getElem?_eq_getElem hlt⟩
  obtain ⟨b1, o1, rfl, r1⟩ := h1 i t ht
  obtain ⟨b3, o3, rfl, r3⟩ := h3 i t ht
  have r1 : Rds (arr q 0 [.slice (some ⟨b3, o3, none⟩) tr.length c3, .slice a4 cut.length c4] :: arr p 0 [.slice (some ⟨b1, o1, none⟩) tr.length c1, .slice a2 cut.length c2] :: L) b1 (o1 + 3 * i) [.int .i64 (t.1 : Nat), .int .u8 t.2.1, .int .i64 t.2.2] := fun j v hj => .there (.there (r1 j v hj))
  have r3 : Rds (arr q 0 [.slice (some ⟨b3, o3, none⟩) tr.length c3, .slice a4 cut.length c4] :: arr p 0 [.slice (some ⟨b1, o1, none⟩) tr.length c1, .slice a2 cut.length c2] :: L) b3 (o3 + 3 * i) [.int .i64 (t.1 : Nat), .int .u8 t.2.1, .int .i64 t.2.2] := fun j v hj => .there (.there (r3 j v hj))
  have heq := eqTurn (x := .tmp 34) (y := .tmp 39) (a0 := (t.1 : Nat)) (b0 := (t.1 : Nat)) (a1 := t.2.1) (b1 := t.2.1) (a2 := t.2.2) (b2 := t.2.2)
  rw [show decide ((((t.1 : Nat) : Int) = (t.1 : Nat)) ∧ t.2.1 = t.2.1 ∧ t.2.2 = t.2.2) = true by simp] at heq
  repeat (first | refine wlssT ?_ | refine we_seq ?_ | (refine wR ?_; try simp only [oS]) | refine wo_nil ?_ | refine wM ?_ | refine wD ?_ | refine wL ?_ | refine wE ?_ | refine wT ?_ | refine we_skip ?_ | refine we_block ?_)
  refine we_draw (List.range' 0 11) (by kernel_rfl) ?_
  repeat (first | (apply ap_pure; exact rfl; exact rfl; exact trivial; intro L; apply mo_indexAddr (r := o1 + 3 * i); exact rfl; exact rfl; omega; omega; omega) | (apply ap_pure; exact rfl; exact rfl; exact trivial; intro L; apply mo_indexAddr (r := o3 + 3 * i); exact rfl; exact rfl; omega; omega; omega) | (apply ap_read; exact rfl; exact rfl; exact trivial; apply mo_loadA (vs := [.int .i64 (t.1 : Nat), .int .u8 t.2.1, .int .i64 t.2.2]); exact rfl; exact rfl; exact r1) | (apply ap_read; exact rfl; exact rfl; exact trivial; apply mo_loadA (vs := [.int .i64 (t.1 : Nat), .int .u8 t.2.1, .int .i64 t.2.2]); exact rfl; exact rfl; exact r3) | (apply ap_pure; exact rfl; exact rfl; exact trivial; intro L; apply mo_bin; exact rfl; exact rfl; apply bin_ne; exact heq) | refine aM ?_ | refine aD ?_ | refine aL ?_ | refine ap_end ?_)
  repeat (first | (refine wR ?_; try simp only [oS]) | refine wo_nil ?_ | refine wM ?_ | refine wA ?_ | refine wadd ?_ | refine wF ?_ | refine we_skip ?_)
  refine at_round (I := samePInv x 5 p q tr.length (.slice (some ⟨b1, o1, none⟩) tr.length c1) (.slice a2 cut.length c2) (.slice (some ⟨b3, o3, none⟩) tr.length c3) (.slice a4 cut.length c4) L) (R := fun j => tr.length - j < tr.length - i) (i + 1) (by omega) (show i + 1 ≤ tr.length by omega) ?_ .refl rfl
  exact ⟨rfl, rfl, rfl, trivial⟩
 obtain rfl : i = tr.length := by omega
 repeat (first | refine wlssF ?_ | refine we_seq ?_ | (refine wR ?_; try simp only [oS]) | refine wo_nil ?_ | refine wM ?_ | refine wA ?_ | refine wD ?_ | refine wL ?_ | refine wE ?_ | refine wF ?_ | refine we_block ?_ | refine we_exit ?_)
 refine we_loopN (samePInv x 6 p q cut.length (.slice a1 tr.length c1) (.slice a2 cut.length c2) (.slice a3 tr.length c3) (.slice a4 cut.length c4) L) (fun i => cut.length - i) 0 (Nat.zero_le _) ⟨rfl, rfl, rfl, trivial⟩ .refl rfl ?_
 intro i hi
 replace hi : i ≤ cut.length := hi
 simp only [samePInv]
 by_cases hlt : i < cut.length
 ·obtain ⟨t, ht⟩ : ∃ t, cut[i]? = some t := ⟨cut[i], List.getElem?_eq_getElem hlt⟩
  obtain ⟨b1, o1, rfl, r1⟩ := h2 i t ht
  obtain ⟨b3, o3, rfl, r3⟩ := h4 i t ht
  have r1 : Rd (arr q 0 [.slice a3 tr.length c3, .slice (some ⟨b3, o3, none⟩) cut.length c4] :: arr p 0 [.slice a1 tr.length c1, .slice (some ⟨b1, o1, none⟩) cut.length c2] :: L) b1 (o1 + i) (.int .i64 (t : Nat)) := .there (.there r1)
  have r3 : Rd (arr q 0 [.slice a3 tr.length c3, .slice (some ⟨b3, o3, none⟩) cut.length c4] :: arr p 0 [.slice a1 tr.length c1, .slice (some ⟨b1, o1, none⟩) cut.length c2] :: L) b3 (o3 + i) (.int .i64 (t : Nat)) := .there (.there r3)
  repeat (first | refine wlssT ?_ | refine we_seq ?_ | (refine wR ?_; try simp only [oS]) | refine wo_nil ?_ | refine wM ?_ | refine wD ?_ | refine wL ?_ | refine wE ?_ | refine wT ?_ | refine we_skip ?_ | refine we_block ?_)
  refine we_draw (List.range' 0 11) (by kernel_rfl) ?_
  repeat (first | (apply ap_pure; exact rfl; exact rfl; exact trivial; intro L; apply mo_indexAddr (r := o1 + i); exact rfl; exact rfl; omega; omega; omega) | (apply ap_pure; exact rfl; exact rfl; exact trivial; intro L; apply mo_indexAddr (r := o3 + i); exact rfl; exact rfl; omega; omega; omega) | (apply ap_read; exact rfl; exact rfl; exact trivial; apply mo_load; exact rfl; exact r1) | (apply ap_read; exact rfl; exact rfl; exact trivial; apply mo_load; exact rfl; exact r3) | refine aM ?_ | refine aD ?_ | (apply ap_pure; exact rfl; exact rfl; exact gY; intro L; apply mo_bin; exact rfl; exact rfl; exact bin_neq) | refine aL ?_ | refine ap_end ?_)
  rw [show (!decide (((t : Nat) : Int) = ((t : Nat) : Int))) = false by simp]
  repeat (first | (refine wR ?_; try simp only [oS]) | refine wo_nil ?_ | refine wM ?_ | refine wA ?_ | refine wadd ?_ | refine wF ?_ | refine we_skip ?_)
  refine at_round (I := samePInv x 6 p q cut.length (.slice a1 tr.length c1) (.slice (some ⟨b1, o1, none⟩) cut.length c2) (.slice a3 tr.length c3) (.slice (some ⟨b3, o3, none⟩) cut.length c4) L) (R := fun j => cut.length - j < cut.length - i) (i + 1) (by omega) (show i + 1 ≤ cut.length by omega) ?_ .refl rfl
  exact ⟨rfl, rfl, rfl, trivial⟩
 obtain rfl : i = cut.length := by omega
 repeat (first | refine wlssF ?_ | refine we_seq ?_ | (refine wR ?_; try simp only [oS]) | refine wo_nil ?_ | refine wM ?_ | refine wA ?_ | refine wD ?_ | refine wL ?_ | refine wE ?_ | refine wF ?_ | refine we_ret ?_ | refine we_exit ?_)
 (first | refine or1 Try.func34 Try.results34 hQ rfl ?_ | refine on1 Try.func34 Try.results34 hQ rfl ?_)
 exact ⟨rfl, rfl, fun h st => Ent.star (.drop (.drop .refl)) st⟩
end
end
section
def GotAt (L : List HProp) (v : Value) (pre : List (List Nat)) : Prop := ∃ a c, v = .slice a pre.length c ∧ ∀ (j : Nat) ws, pre[j]? = some ws → ∃ b o a' c', a = some ⟨b, o, none⟩ ∧ Rd L b (o + j) (.slice a' ws.length c') ∧ RdV L a' ws
def GotsAt (L : List HProp) (a : Option Addr) (l : List (List (List Nat))) : Prop := ∀ (k : Nat) pre, l[k]? = some pre → ∃ b o v, a = some ⟨b, o, none⟩ ∧ Rd L b (o + k) v ∧ GotAt L v pre
def AnsAt (L : List HProp) (v : Value) (ans : List (Bool × List Nat)) : Prop := ∃ a c, v = .slice a ans.length c ∧ ∀ (j : Nat) y, ans[j]? = some y → ∃ b o a' c', a = some ⟨b, o, none⟩ ∧ Rd L b (o + 2 * j) (.bool y.1) ∧ Rd L b (o + 2 * j + 1) (.slice a' y.2.length c') ∧ RdV L a' y.2
def AnssAt (L : List HProp) (a : Option Addr) (l : List (List (Bool × List Nat))) : Prop := ∀ (k : Nat) ans, l[k]? = some ans → ∃ b o v, a = some ⟨b, o, none⟩ ∧ Rd L b (o + k) v ∧ AnsAt L v ans
def Told (ans : List (Bool × List Nat)) (pre : List (List Nat)) : Prop := ∃ tail, ans = pre.map (fun w => (true, w)) ++ tail ∧ ∀ y ∈ tail, y.1 = false
section
variable {B : Hand} [Lets B] {L F : List HProp} {x : B.X}
def sameAInv (x : B.X) (u v : Value) (n : Nat) (L : List HProp) : Inv Nat B.X where
 e := fun i => [(0, u), (1, v), (5, .int .i64 (i : Nat))]
 L := fun _ => L
 x := fun _ => x
 ok := fun i => i ≤ n
def sameBInv (x : B.X) (u v : Value) (i n m : Nat) (L : List HProp) : Inv Nat B.X where
 e := fun j => [(0, u), (1, v), (5, .int .i64 (i : Nat)), (6, .int .i64 (min j m : Nat)), (7, .int .i64 (j : Nat))]
 L := fun _ => L
 x := fun _ => x
 ok := fun j => j ≤ n
theorem same_answers_tr {ga aa : Option Addr} {gc ac : Nat} {got : List (List (List Nat))} {anss : List (List (Bool × List Nat))} (hg : GotsAt L ga got) (ha : AnssAt L aa anss) (hlen : got.length = anss.length) (htold : ∀ (k : Nat) pre ans, got[k]? = some pre → anss[k]? = some ans → Told ans pre)
  (hl : anss.length < 1000000000) (hl2 : ∀ a ∈ anss, a.length < 1000000000) (hl3 : ∀ a ∈ anss, ∀ y ∈ a, y.2.length < 1000000000) :
  Tr Try.prog B 35 [.slice ga anss.length gc, .slice aa anss.length ac] L x fun v L' x' => v = .bool true ∧ L' = L ∧ x' = x := by
 refine tr_of_body Try.func35 rfl Try.ntmps35 (by simp) fun um Q _ hQ => ?_
 simp only [argE, Nat.zero_add, Nat.reduceAdd]
 repeat (first | refine wneqF ?_ | refine we_seq ?_ | (refine wR ?_; try simp only [oS]) | refine wo_nil ?_ | refine wM ?_ | refine wA ?_ | refine wE ?_ | refine wF ?_ | refine we_skip ?_ | refine we_block ?_)
 refine we_loopN (sameAInv x (.slice ga anss.length gc) (.slice aa anss.length ac) anss.length L) (fun i => anss.length - i) 0 (Nat.zero_le _) ⟨rfl, rfl, rfl, trivial⟩ .refl rfl ?_
 intro i hi
 replace hi : i ≤ anss.length := hi
 simp only [sameAInv]
 by_cases hlt : i < anss.length
 ·obtain ⟨ans, hans⟩ : ∃ t, anss[i]? = some t := ⟨anss[i], List.getElem?_eq_getElem hlt⟩
  obtain ⟨pre, hpre⟩ : ∃ t, got[i]? = some t := ⟨got[i]'(by omega), List.getElem?_eq_getElem (by omega)⟩
  have hn := hl2 ans (List.mem_of_getElem? hans)
  have hn3 := hl3 ans (List.mem_of_getElem? hans)
  obtain ⟨tail, htl, hfalse⟩ := htold i pre ans hpre hans
  have hle : pre.length ≤ ans.length := by rw [htl]; simp
  obtain ⟨gb, go, gv, rfl, rg, ga2, gc2, rfl, hg2⟩ := hg i pre hpre
  obtain ⟨ab, ao, av, rfl, ra, aa2, ac2, rfl, ha2⟩ := ha i ans hans
  repeat (first | refine wlssT ?_ | refine we_seq ?_ | (refine wR ?_; try simp only [oS]) | refine wo_nil ?_ | refine wM ?_ | refine wA ?_ | refine wE ?_ | refine wT ?_ | refine we_skip ?_ | refine we_block ?_)
  refine we_loopN (sameBInv x (.slice (some ⟨gb, go, none⟩) anss.length gc) (.slice (some ⟨ab, ao, none⟩) anss.length ac) i ans.length pre.length L) (fun i => ans.length - i) 0 (Nat.zero_le _) ⟨rfl, rfl, rfl, (by rw [Nat.zero_min]; rfl), rfl, trivial⟩ .refl rfl ?_
  intro j hj
  replace hj : j ≤ ans.length := hj
  simp only [sameBInv]
  by_cases hjl : j < ans.length
  ·obtain ⟨⟨q, ws⟩, hy⟩ : ∃ y, ans[j]? = some y := ⟨ans[j], List.getElem?_eq_getElem hjl⟩
   obtain ⟨b2, o2, a2, c2, rfl, r1, r2, rv⟩ := ha2 j _ hy
   simp only at r1 r2 rv
   by_cases hjp : j < pre.length
   ·have hyy : ans[j]? = some (true, pre[j]) := by
     rw [htl, List.getElem?_append_left (by simpa using hjp)]; simp [hjp]
    rw [hy] at hyy
    obtain ⟨rfl, rfl⟩ : q = true ∧ ws = pre[j] := by simpa using hyy
    obtain ⟨b3, o3, a3, c3, rfl, s1, sv⟩ := hg2 j pre[j] (List.getElem?_eq_getElem hjp)
    have hwl := hn3 _ (List.mem_of_getElem? hy)
    simp only at hwl
    rw [show min j pre.length = j by omega]
    obtain ⟨ws, hws⟩ : ∃ ws, pre[j] = ws := ⟨_, rfl⟩
    rw [hws] at r2 rv s1 sv hwl
    repeat (first | (apply wo_po; apply mo_index1; exact rfl; exact rfl; omega; exact trivial) | (apply wo_po; apply mo_index2; exact rfl; exact rfl; omega; exact trivial) | (apply wo_po; apply mo_load; exact rfl; exact ra; exact trivial) | (apply wo_po; apply mo_load; exact rfl; exact r1; exact trivial) | refine wlssT ?_ | refine we_seq ?_ | (refine wR ?_; try simp only [oS]) | refine wo_nil ?_ | refine wM ?_ | refine wD ?_ | (apply wo_po; apply mo_not; exact rfl; exact gY) | refine wE ?_ | refine wT ?_ | refine wF ?_ | refine we_skip ?_ | refine we_block ?_)
    refine we_draw (List.range' 0 26) (by kernel_rfl) ?_
    repeat (first | (apply ap_pure; exact rfl; exact rfl; exact gY; intro L; apply mo_bin; exact rfl; exact rfl; exact (bin_geqF (by omega))) | (apply ap_pure; exact rfl; exact rfl; exact gY; intro L; apply mo_index1; exact rfl; exact rfl; omega) | (apply ap_pure; exact rfl; exact rfl; exact gY; intro L; apply mo_index2; exact rfl; exact rfl; omega) | (apply ap_read; exact rfl; exact rfl; exact gY; apply mo_load; exact rfl; (first | exact ra | exact rg | exact s1 | exact r2)) | refine aM ?_ | refine aD ?_ | (apply ap_pure; exact rfl; exact rfl; exact gY; intro L; apply mo_len; exact rfl))
    refine ap_callR (Pd' := []) rfl rfl (by kernel_rfl) rfl rfl rfl (.cons rfl (.cons rfl .nil)) (same_words_tr (l := ws) (l' := ws) rfl rfl hwl sv rv) (fun v L' x' _ p hp => by cases hp) ?_
    rintro v L' x' ⟨rfl, eL, ex⟩
    subst L' x'
    rw [show decide (ws = ws) = true from decide_eq_true rfl]
    repeat (first | (apply ap_pure; exact rfl; exact rfl; exact gY; intro L; apply mo_not; exact rfl) | (apply ap_pure; exact rfl; exact rfl; exact gY; intro L; apply mo_pickF; exact rfl; exact rfl; exact rfl) | refine ap_end ?_)
    repeat (first | (refine wR ?_; try simp only [oS]) | refine wo_nil ?_ | refine wM ?_ | refine wA ?_ | refine wadd ?_ | refine wF ?_ | refine we_skip ?_)
    refine at_round (I := sameBInv _ _ _ i ans.length pre.length L) (R := fun k => ans.length - k < ans.length - j) (j + 1) (by omega) (show j + 1 ≤ ans.length by omega) ?_ .refl rfl
    refine ⟨rfl, rfl, rfl, ?_, rfl, trivial⟩
    rw [show min (j + 1) pre.length = j + 1 by omega]; rfl
   ·have hq : q = false := by
     rw [htl, List.getElem?_append_right (by simpa using hjp)] at hy
     exact hfalse _ (List.mem_of_getElem? hy)
    subst hq
    repeat (first | (apply wo_po; apply mo_index1; exact rfl; exact rfl; omega; exact trivial) | (apply wo_po; apply mo_index2; exact rfl; exact rfl; omega; exact trivial) | (apply wo_po; apply mo_load; exact rfl; exact ra; exact trivial) | (apply wo_po; apply mo_load; exact rfl; exact r1; exact trivial) | refine wlssT ?_ | refine we_seq ?_ | (refine wR ?_; try simp only [oS]) | refine wo_nil ?_ | refine wM ?_ | refine wA ?_ | refine wD ?_ | (apply wo_po; apply mo_not; exact rfl; exact gY) | refine wadd ?_ | refine wE ?_ | refine wT ?_ | refine we_skip ?_ | refine we_block ?_ | refine we_exit ?_)
    refine at_round (I := sameBInv _ _ _ i ans.length pre.length L) (R := fun k => ans.length - k < ans.length - j) (j + 1) (by omega) (show j + 1 ≤ ans.length by omega) ?_ .refl rfl
    refine ⟨rfl, rfl, rfl, ?_, rfl, trivial⟩
    rw [show min (j + 1) pre.length = min j pre.length by omega]; rfl
  ·obtain rfl : j = ans.length := by omega
   rw [show min ans.length pre.length = pre.length by omega]
   repeat (first | (apply wo_po; apply mo_index1; exact rfl; exact rfl; omega; exact trivial) | (apply wo_po; apply mo_load; exact rfl; (first | exact ra | exact rg); exact trivial) | refine wlssF ?_ | refine wneqF ?_ | refine we_seq ?_ | (refine wR ?_; try simp only [oS]) | refine wo_nil ?_ | refine wM ?_ | refine wA ?_ | refine wadd ?_ | refine wE ?_ | refine wF ?_ | refine we_skip ?_ | refine we_exit ?_)
   refine at_round (I := sameAInv x _ _ anss.length L) (R := fun k => anss.length - k < anss.length - i) (i + 1) (by omega) (show i + 1 ≤ anss.length by omega) ?_ .refl rfl
   exact ⟨rfl, rfl, rfl, trivial⟩
 obtain rfl : i = anss.length := by omega
 repeat (first | refine wlssF ?_ | refine we_seq ?_ | (refine wR ?_; try simp only [oS]) | refine wo_nil ?_ | refine wM ?_ | refine wA ?_ | refine wE ?_ | refine wF ?_ | refine we_ret ?_ | refine we_exit ?_)
 (first | refine or1 Try.func35 Try.results35 hQ rfl ?_ | refine on1 Try.func35 Try.results35 hQ rfl ?_)
 exact ⟨rfl, rfl, rfl⟩
end
end
end Go.Proofs.Ythoefhocecdlhaa
namespace Go.PB.Mach
section
def AnsOk (t : Th) : Prop := ∃ (pre : List (List Nat)) (tail : List (Bool × List Nat)), t.ans = pre.map (fun w => (true, w)) ++ tail ∧ pre.length = t.call ∧ tail.length ≤ 1 ∧ ∀ y ∈ tail, y.1 = false
theorem modify_tail {pre : List (List Nat)} {y : Bool × List Nat} {c : Nat} {g : Bool × List Nat → Bool × List Nat} (h : pre.length = c) : (pre.map (fun w => (true, w)) ++ [y]).modify c g = pre.map (fun w => (true, w)) ++ [g y] := by
 subst h
 induction pre with
 | nil => rfl
 | cons a l ih => simp only [List.map_cons, List.cons_append, List.length_cons, List.modify_succ_cons, ih]
theorem begun_ok {t : Th} (h : AnsOk t) : ∃ (pre : List (List Nat)) (y : Bool × List Nat), t.begun.ans = pre.map (fun w => (true, w)) ++ [y] ∧ pre.length = t.begun.call ∧ y.1 = false := by
 obtain ⟨pre, tail, e, hp, hl, hf⟩ := h
 unfold Th.begun
 match tail, hl with
 | [], _ =>
  rw [if_pos (by rw [e]; simp [hp])]
  exact ⟨pre, (false, []), by simp [e], hp, rfl⟩
 | [y], _ =>
  rw [if_neg (by rw [e]; simp [hp])]
  exact ⟨pre, y, e, hp, hf y (by simp)⟩
theorem done_ok {t : Th} {pre : List (List Nat)} {y : Bool × List Nat} (e : t.ans = pre.map (fun w => (true, w)) ++ [y]) (hp : pre.length = t.call) : AnsOk t.done := by
 refine ⟨pre ++ [y.2], [], ?_, by simp [Th.done, hp], by simp, fun z hz => by simp at hz⟩
 unfold Th.done
 simp only
 rw [e, modify_tail hp]
 simp
theorem own_ok {t : Th} {i : In} {pre : List (List Nat)} {y : Bool × List Nat} (e : t.ans = pre.map (fun w => (true, w)) ++ [y]) (hp : pre.length = t.call) (hy : y.1 = false) : AnsOk (own t i) := by
 have base : ∀ u : Th, u.ans = t.ans → u.call = t.call → AnsOk u := fun u h1 h2 => ⟨pre, [y], by rw [h1, e], by rw [h2, hp], by simp, fun z hz => by rw [List.mem_singleton.1 hz]; exact hy⟩
 unfold own
 simp only
 split <;> first
  | exact base _ rfl rfl
  | (split <;> exact base _ rfl rfl)
  | skip
 ·refine ⟨pre, [(y.1, y.2 ++ [t.r i.a])], ?_, hp, by simp, fun z hz => by rw [List.mem_singleton.1 hz]; exact hy⟩
  unfold Th.tell
  simp only
  rw [e, modify_tail hp]
theorem on_ok : ∀ {f : Nat} {t t' : Th}, AnsOk t → onF f t = some t' → AnsOk t' := by
 intro f
 induction f with
 | zero => intro t t' _ h; cases h
 | succ f ih =>
  intro t t' ha h
  unfold onF at h
  obtain ⟨pre, y, e, hp, hy⟩ := begun_ok ha
  split at h
  ·cases h; exact ha
  split at h
  ·cases h; exact ha
  split at h
  ·cases h; exact ⟨pre, [y], e, hp, by simp, fun z hz => by rw [List.mem_singleton.1 hz]; exact hy⟩
  split at h
  ·exact ih (done_ok e hp) h
  ·exact ih (own_ok e hp hy) h
theorem op_ok {f : Nat} {w w' : Wd} {t t' : Th} (ha : AnsOk t) (h : opF f w t = some (w', t')) : AnsOk t' := by
 unfold opF at h
 split at h
 ·simp only [Option.map_eq_some_iff] at h
  obtain ⟨u, hu, e⟩ := h
  cases e
  exact on_ok (t := { t with pc := t.pc + 1, r := _ }) ha hu
 ·cases h
theorem turn_ok {f : Nat} {s s' : St} {k : Nat} (h : ∀ t ∈ s.l, AnsOk t) (ht : turn f s k = some s') : ∀ t ∈ s'.l, AnsOk t := by
 unfold turn at ht
 split at ht
 ·rename_i t hk
  simp only [Option.map_eq_some_iff] at ht
  obtain ⟨y, hy, rfl⟩ := ht
  intro u hu
  rcases List.mem_or_eq_of_mem_set hu with hu | rfl
  ·exact h u hu
  ·exact op_ok (w' := y.1) (h t (List.mem_of_getElem? hk)) hy
 ·cases ht; exact h
theorem byOrder_ok {f : Nat} : ∀ {o : List (Option Nat)} {s s' : St}, (∀ t ∈ s.l, AnsOk t) → byOrder f s o = some s' → ∀ t ∈ s'.l, AnsOk t
 | [], s, s', h, e => by cases e; exact h
 | none :: o, s, s', h, e => byOrder_ok (o := o) h e
 | some k :: o, s, s', h, e => by
  unfold byOrder at e
  split at e
  ·cases ht : turn f s k with
   | none => rw [ht] at e; cases e
   | some s1 => rw [ht] at e; exact byOrder_ok (turn_ok h ht) e
  ·exact byOrder_ok h e
theorem round_ok {f : Nat} : ∀ {m k : Nat} {s : St} {q : Bool} {y : St × Bool}, (∀ t ∈ s.l, AnsOk t) → round f m k s q = some y → ∀ t ∈ y.1.l, AnsOk t
 | 0, k, s, q, y, h, e => by cases e; exact h
 | m + 1, k, s, q, y, h, e => by
  unfold round at e
  split at e
  ·cases ht : turn f s k with
   | none => rw [ht] at e; cases e
   | some s1 => rw [ht] at e; exact round_ok (turn_ok h ht) e
  ·exact round_ok h e
theorem rounds_ok {f : Nat} : ∀ {g : Nat} {s s' : St}, (∀ t ∈ s.l, AnsOk t) → rounds f g s = some s' → ∀ t ∈ s'.l, AnsOk t
 | 0, s, s', h, e => by cases e
 | g + 1, s, s', h, e => by
  unfold rounds at e
  cases hr : round f s.l.length 0 s false with
  | none => rw [hr] at e; cases e
  | some y =>
   rw [hr, Option.bind_some] at e
   split at e
   ·exact rounds_ok (round_ok h hr) e
   ·cases e; exact round_ok h hr
theorem begin_ok {f : Nat} : ∀ {l l' : List Th}, (∀ t ∈ l, AnsOk t) → begin_ f l = some l' → ∀ t ∈ l', AnsOk t
 | [], l', h, e => by cases e; exact fun t ht => by simp at ht
 | t :: l, l', h, e => by
  unfold begin_ at e
  cases ho : onF f t with
  | none => rw [ho] at e; cases e
  | some u =>
   rw [ho, Option.bind_some] at e
   simp only [Option.map_eq_some_iff] at e
   obtain ⟨l1, h1, rfl⟩ := e
   intro v hv
   rcases List.mem_cons.1 hv with rfl | hv
   ·exact on_ok (h t (by simp)) ho
   ·exact begin_ok (fun w hw => h w (by simp [hw])) h1 v hv
theorem play_ok {f g : Nat} {w : Wd} {o : List (Option Nat)} {l : List (List Cl)} {st : St} (h : play f g w o l = some st) : ∀ t ∈ st.l, AnsOk t := by
 unfold play at h
 cases hb : begin_ f (l.map fun c => { calls := c }) with
 | none => rw [hb] at h; cases h
 | some l1 =>
  rw [hb, Option.bind_some] at h
  have h1 := begin_ok (fun t ht => by
   obtain ⟨c, _, rfl⟩ := List.mem_map.1 ht
   exact ⟨[], [], rfl, rfl, by simp, fun y hy => by simp at hy⟩) hb
  cases hbo : byOrder f ⟨w, l1, []⟩ o with
  | none => rw [hbo] at h; cases h
  | some s1 =>
   rw [hbo, Option.bind_some] at h
   exact rounds_ok (byOrder_ok (s := ⟨w, l1, []⟩) h1 hbo) h
def AnsN (m : Nat) (t : Th) : Prop := t.ans.length ≤ m ∧ ∀ y ∈ t.ans, y.2.length ≤ m
theorem AnsN.le {m m' : Nat} {t : Th} (h : AnsN m t) (hm : m ≤ m') : AnsN m' t := ⟨Nat.le_trans h.1 hm, fun y hy => Nat.le_trans (h.2 y hy) hm⟩
theorem modify_all {p : Bool × List Nat → Prop} {g : Bool × List Nat → Bool × List Nat} {l : List (Bool × List Nat)} {c : Nat} (h : ∀ y ∈ l, p y ∧ p (g y)) : ∀ y ∈ l.modify c g, p y := fun y hy => by
 obtain ⟨i, hi⟩ := List.mem_iff_getElem?.1 hy
 rw [List.getElem?_modify] at hi
 obtain ⟨z, hz, rfl⟩ := Option.map_eq_some_iff.1 hi
 have := h z (List.mem_of_getElem? hz)
 split
 ·exact this.2
 ·exact this.1
theorem begun_n {m : Nat} {t : Th} (h : AnsN m t) : t.begun.ans.length ≤ m + 1 ∧ ∀ y ∈ t.begun.ans, y.2.length ≤ m := by
 unfold Th.begun
 split
 ·refine ⟨by simp [h.1], fun y hy => ?_⟩
  rcases List.mem_append.1 hy with hy | hy
  ·exact h.2 y hy
  ·rw [List.mem_singleton.1 hy]; exact Nat.zero_le _
 ·exact ⟨Nat.le_succ_of_le h.1, h.2⟩
theorem own_n {m : Nat} {t : Th} {i : In} (h : t.ans.length ≤ m + 1 ∧ ∀ y ∈ t.ans, y.2.length ≤ m) : AnsN (m + 1) (own t i) := by
 have base : ∀ u : Th, u.ans = t.ans → AnsN (m + 1) u := fun u h1 => ⟨h1 ▸ h.1, fun y hy => Nat.le_succ_of_le (h.2 y (h1 ▸ hy))⟩
 unfold own
 simp only
 split <;> first
  | exact base _ rfl
  | (split <;> exact base _ rfl)
  | skip
 refine ⟨by unfold Th.tell; simpa using h.1, ?_⟩
 unfold Th.tell
 refine modify_all (p := fun y => y.2.length ≤ m + 1) fun y hy => ⟨Nat.le_succ_of_le (h.2 y hy), ?_⟩
 simpa using h.2 y hy
theorem done_n {m : Nat} {t : Th} (h : t.ans.length ≤ m + 1 ∧ ∀ y ∈ t.ans, y.2.length ≤ m) : AnsN (m + 1) t.done := by
 refine ⟨by unfold Th.done; simpa using h.1, ?_⟩
 unfold Th.done
 exact modify_all (p := fun y => y.2.length ≤ m + 1) fun y hy => ⟨Nat.le_succ_of_le (h.2 y hy), Nat.le_succ_of_le (h.2 y hy)⟩
theorem on_n : ∀ {f m : Nat} {t t' : Th}, AnsN m t → onF f t = some t' → AnsN (m + f) t' := by
 intro f
 induction f with
 | zero => intro m t t' _ h; cases h
 | succ f ih =>
  intro m t t' ha h
  unfold onF at h
  have hb := begun_n ha
  split at h
  ·cases h; exact ha.le (by omega)
  split at h
  ·cases h; exact AnsN.le (t := { t with over := true }) ha (by omega)
  split at h
  ·cases h; exact ⟨by have := hb.1; omega, fun y hy => by have := hb.2 y hy; omega⟩
  split at h
  ·exact (ih (done_n hb) h).le (by omega)
  ·exact (ih (own_n hb) h).le (by omega)
theorem op_n {f m : Nat} {w w' : Wd} {t t' : Th} (ha : AnsN m t) (h : opF f w t = some (w', t')) : AnsN (m + f) t' := by
 unfold opF at h
 split at h
 ·simp only [Option.map_eq_some_iff] at h
  obtain ⟨u, hu, e⟩ := h
  cases e
  exact on_n (t := { t with pc := t.pc + 1, r := _ }) ha hu
 ·cases h
def StN (f : Nat) (s : St) : Prop := ∀ t ∈ s.l, AnsN (f * (s.tr.length + 1)) t
theorem turn_n {f : Nat} {s s' : St} {k : Nat} (h : StN f s) (ht : turn f s k = some s') : StN f s' := by
 unfold turn at ht
 split at ht
 ·rename_i t hk
  simp only [Option.map_eq_some_iff] at ht
  obtain ⟨y, hy, rfl⟩ := ht
  intro u hu
  show AnsN (f * ((s.tr ++ [(k, t.mark)]).length + 1)) u
  have e : f * ((s.tr ++ [(k, t.mark)]).length + 1) = f * (s.tr.length + 1) + f := by rw [List.length_append]; show f * (s.tr.length + 1 + 1) = _; rw [Nat.mul_succ]
  rw [e]
  rcases List.mem_or_eq_of_mem_set hu with hu | rfl
  ·exact (h u hu).le (by omega)
  ·exact op_n (w' := y.1) (h t (List.mem_of_getElem? hk)) hy
 ·cases ht; exact h
theorem byOrder_n {f : Nat} : ∀ {o : List (Option Nat)} {s s' : St}, StN f s → byOrder f s o = some s' → StN f s'
 | [], s, s', h, e => by cases e; exact h
 | none :: o, s, s', h, e => byOrder_n (o := o) h e
 | some k :: o, s, s', h, e => by
  unfold byOrder at e
  split at e
  ·cases ht : turn f s k with
   | none => rw [ht] at e; cases e
   | some s1 => rw [ht] at e; exact byOrder_n (turn_n h ht) e
  ·exact byOrder_n h e
theorem round_n {f : Nat} : ∀ {m k : Nat} {s : St} {q : Bool} {y : St × Bool}, StN f s → round f m k s q = some y → StN f y.1
 | 0, k, s, q, y, h, e => by cases e; exact h
 | m + 1, k, s, q, y, h, e => by
  unfold round at e
  split at e
  ·cases ht : turn f s k with
   | none => rw [ht] at e; cases e
   | some s1 => rw [ht] at e; exact round_n (turn_n h ht) e
  ·exact round_n h e
theorem rounds_n {f : Nat} : ∀ {g : Nat} {s s' : St}, StN f s → rounds f g s = some s' → StN f s'
 | 0, s, s', h, e => by cases e
 | g + 1, s, s', h, e => by
  unfold rounds at e
  cases hr : round f s.l.length 0 s false with
  | none => rw [hr] at e; cases e
  | some y =>
   rw [hr, Option.bind_some] at e
   split at e
   ·exact rounds_n (round_n h hr) e
   ·cases e; exact round_n h hr
theorem begin_n {f : Nat} : ∀ {l l' : List Th}, (∀ t ∈ l, AnsN 0 t) → begin_ f l = some l' → ∀ t ∈ l', AnsN f t
 | [], l', h, e => by cases e; exact fun t ht => by simp at ht
 | t :: l, l', h, e => by
  unfold begin_ at e
  cases ho : onF f t with
  | none => rw [ho] at e; cases e
  | some u =>
   rw [ho, Option.bind_some] at e
   simp only [Option.map_eq_some_iff] at e
   obtain ⟨l1, h1, rfl⟩ := e
   intro v hv
   rcases List.mem_cons.1 hv with rfl | hv
   ·have := on_n (h t (by simp)) ho
    rwa [Nat.zero_add] at this
   ·exact begin_n (fun w hw => h w (by simp [hw])) h1 v hv
theorem play_n {f g : Nat} {w : Wd} {o : List (Option Nat)} {l : List (List Cl)} {st : St} (h : play f g w o l = some st) : StN f st := by
 unfold play at h
 cases hb : begin_ f (l.map fun c => { calls := c }) with
 | none => rw [hb] at h; cases h
 | some l1 =>
  rw [hb, Option.bind_some] at h
  have h1 : StN f ⟨w, l1, []⟩ := fun t ht => by
   have := begin_n (fun t ht => by
    obtain ⟨c, _, rfl⟩ := List.mem_map.1 ht
    exact ⟨Nat.le_refl 0, fun y hy => by simp at hy⟩) hb t ht
   exact this.le (by show f ≤ f * (0 + 1); omega)
  cases hbo : byOrder f ⟨w, l1, []⟩ o with
  | none => rw [hbo] at h; cases h
  | some s1 =>
   rw [hbo, Option.bind_some] at h
   exact rounds_n (byOrder_n h1 hbo) h
end
end Go.PB.Mach
namespace Go.PB
open Go
section
def Dup (c : HProp) : Prop := ∀ (L : List HProp) (h : Hp), Star (c :: L) h → Star (c :: c :: L) h
theorem dup_fro {b o : Nat} {vs : List Value} : Dup (fro b o vs) := fun L h s => fro_two s
theorem dup_base {W : World} : Dup (base W) := fun L h s => by
 obtain ⟨h1, h2, s1, ha, hL⟩ := s
 exact ⟨⟨fun _ _ => none, h1.ro, fun _ => none, fun _ => none⟩, h, ⟨fun _ _ _ e => s1.r1 _ _ _ e, fun _ _ _ e => e, fun _ _ _ e => by simp at e, fun _ _ _ e => e, fun _ _ => .inl rfl, fun _ _ e => by simp at e, fun _ _ e => e, fun _ => .inl rfl, fun _ _ e => by simp at e, fun _ _ e => e⟩, ha, h1, h2, s1, ha, hL⟩
theorem all_cons {c : HProp} {M L : List HProp} {h : Hp} (s : Star (all (c :: M) :: L) h) : Star (c :: all M :: L) h :=
 star_map (star_open (M := c :: M) s) (fun _ z => z) fun _ z => star_shut z
theorem cons_all {c : HProp} {M L : List HProp} {h : Hp} (s : Star (c :: all M :: L) h) : Star (all (c :: M) :: L) h :=
 star_shut (M := c :: M) (star_map s (fun _ z => z) fun _ z => star_open z)
theorem dup_all : ∀ {M : List HProp}, (∀ c ∈ M, Dup c) → Dup (all M)
 | [], _ => fun L h s => star_shut (M := []) s
 | c :: M, hM => fun L h s => by
  have s1 := hM c (by simp) _ _ (all_cons s)
  have s2 : Star (all M :: c :: c :: L) h := Ent.star (.take (.there (.there .here)) (.take .here (.take .here .refl))) s1
  have s3 := dup_all (fun d hd => hM d (by simp [hd])) _ _ s2
  have s4 : Star (c :: all M :: c :: all M :: L) h := Ent.star (.take (.there (.there .here)) (.take .here (.take (.there .here) (.take .here .refl)))) s3
  exact cons_all (star_map s4 (fun _ z => z) fun _ z => star_map z (fun _ z => z) fun _ z => cons_all z)
theorem dup_many {c : HProp} (hc : Dup c) {L : List HProp} {h : Hp} (s : Star (c :: L) h) : ∀ n, Star (all (List.replicate n c) :: c :: L) h
 | 0 => star_shut (M := []) s
 | n + 1 => by
  have s1 := dup_many hc s n
  have s2 := hc _ _ (star_swap s1)
  have s3 : Star (c :: all (List.replicate n c) :: c :: L) h := Ent.star (.take .here (.take (.there .here) (.take .here .refl))) s2
  rw [List.replicate_succ]
  exact cons_all s3
theorem star_zip : ∀ {As Bs L : List HProp} {h : Hp}, As.length = Bs.length → Star (all As :: all Bs :: L) h → Star (all (List.zipWith (fun a b => all [a, b]) As Bs) :: L) h
 | [], [], L, h, _, s => star_shut (M := []) (star_drop (star_drop s))
 | [], b :: Bs, L, h, e, s => by simp at e
 | a :: As, [], L, h, e, s => by simp at e
 | a :: As, b :: Bs, L, h, e, s => by
  have s1 := all_cons s
  have s2 : Star (all (b :: Bs) :: a :: all As :: L) h := Ent.star (.take (.there (.there .here)) (.take .here (.take .here .refl))) s1
  have s3 := all_cons s2
  have s4 : Star (all As :: all Bs :: a :: b :: L) h := Ent.star (.take (.there (.there (.there .here))) (.take (.there .here) (.take (.there .here) (.take .here .refl)))) s3
  have s5 := star_zip (by simpa using e) s4
  have s6 : Star (a :: b :: all (List.zipWith (fun a b => all [a, b]) As Bs) :: L) h := Ent.star (.take (.there .here) (.take (.there .here) (.take .here .refl))) s5
  exact cons_all (star_shut (M := [_, _]) s6)
theorem all_mono : ∀ {As Bs L : List HProp} {h : Hp}, As.length = Bs.length → (∀ (i : Nat) a b, As[i]? = some a → Bs[i]? = some b → ∀ h, a h → b h) → Star (all As :: L) h → Star (all Bs :: L) h
 | [], [], L, h, _, _, s => s
 | [], b :: Bs, L, h, e, _, s => by simp at e
 | a :: As, [], L, h, e, _, s => by simp at e
 | a :: As, b :: Bs, L, h, e, m, s => by
  have s1 := all_cons s
  refine cons_all (star_map s1 (m 0 a b rfl rfl) fun h z => ?_)
  exact all_mono (by simpa using e) (fun i a b ha hb => m (i + 1) a b ha hb) z
theorem star_tail : ∀ {M L : List HProp} {h : Hp}, Star (M ++ L) h → Star (all L :: M) h
 | [], L, h, s => star_shut (L := []) (by rw [List.append_nil]; exact s)
 | c :: M, L, h, s => star_swap (star_map (L := M ++ L) s (fun _ z => z) fun _ z => star_tail z)
theorem zeros_rep {n : Nat} {v : Value} : zeros n [v] = List.replicate n v := by
 unfold zeros
 induction n with
 | zero => rfl
 | succ n ih => rw [List.replicate_succ, List.flatten_cons, ih, List.replicate_succ]; rfl
end
end Go.PB
namespace Go.Proofs.Ythoefhocecdlhaa
open Go Go.PB
attribute [local irreducible] Mo Bin Eql Tr Wo Ap Wle
section
def gotC (gb k : Nat) (pre : List (List Nat)) : HProp := fun h => ∃ y : Value × List (Value × List Nat), y.2.map (·.2) = pre ∧ all [arr gb k [y.1], vec 1 y.1 (y.2.map (·.1)), all (y.2.map rowT)] h
def doneOf (t : Mach.Th) : List (List Nat) := (t.ans.filter (·.1)).map (·.2)
def rgPv (gb : Nat) (q : Nat × Mach.Th) : HProp := fun h => Star [gotC gb q.1 (doneOf q.2)] h
theorem rgPv_up {gb : Nat} : ∀ q h, Star [rgPv gb q] h → rgPv gb q h := fun q h st => star_open (M := [_]) st
def yesA (pre : List (List Nat)) : List (Bool × List Nat) := pre.map fun w => (true, w)
theorem yesA_len {pre : List (List Nat)} : (yesA pre).length = pre.length := by simp [yesA]
theorem yesA_snoc {pre : List (List Nat)} {w : List Nat} : yesA pre ++ [(true, w)] = yesA (pre ++ [w]) := by simp [yesA]
theorem doneOf_yes {pre : List (List Nat)} : ((yesA pre).filter (·.1)).map (·.2) = pre := by
 induction pre with
 | nil => rfl
 | cons a l ih => simp only [yesA, List.map_cons] at ih ⊢; simp [List.filter_cons, ih]
theorem doneOf_T {cs : List Mach.Cl} {c p : Nat} {r : Nat → Nat} {pre : List (List Nat)} {said : List Nat} : doneOf (Mach.T cs c p r (yesA pre) said) = pre := by
 unfold doneOf Mach.T
 simp only [List.filter_append, List.map_append, doneOf_yes]
 simp
theorem told_of {t : Mach.Th} (h : Mach.AnsOk t) : Told t.ans (doneOf t) := by
 obtain ⟨pre, tail, e, hp, hl, hf⟩ := h
 have h1 : tail.filter (·.1) = [] := List.filter_eq_nil_iff.2 fun y hy => by rw [hf y hy]; decide
 have h2 : doneOf t = pre := by
  unfold doneOf
  rw [e, List.filter_append, h1, List.append_nil]
  exact doneOf_yes
 rw [h2]
 exact ⟨tail, e, hf⟩
theorem rd_all {M L : List HProp} {b o : Nat} {v : Value} (r : Rd M b o v) : Rd (all M :: L) b o v := fun h s =>
 r h (star_drop (star_tail (star_open s)))
theorem rdso_vec {L F : List HProp} {a : Option Addr} {n c : Nat} {cs : List Value} (hh : Has L (vec 1 (.slice a n c) cs) F) (hn : cs.length = n * 1) (hz : a = none → n = 0) (hy : ∀ y, a = some y → y = ⟨y.block, y.off, none⟩) : RdsO L a n cs := by
 refine ⟨by omega, ?_⟩
 cases a with
 | none => exact .inl (hz rfl)
 | some y =>
  obtain ⟨b, o, sp⟩ := y
  cases hy _ rfl
  exact .inr ⟨b, o, rfl, fun i v hi => rd_vec hh hi⟩
theorem alls_ex {Y : Type} : ∀ {M : List HProp} {C : Nat → Y → HProp} {Q : Nat → Y → Prop} (hM : ∀ (k : Nat) c, M[k]? = some c → ∀ h, c h → ∃ y, Q k y ∧ C k y h) {L : List HProp} {h : Hp}, Star (all M :: L) h →
  ∃ ys : List Y, (ys.length = M.length ∧ ∀ (k : Nat) y, ys[k]? = some y → Q k y) ∧ Star (all (ys.mapIdx C) :: L) h
 | [], C, Q, hM, L, h, s => ⟨[], ⟨rfl, fun k y hy => by simp at hy⟩, s⟩
 | c :: M, C, Q, hM, L, h, s => by
  obtain ⟨h1, h2, sp, hc, hr⟩ := all_cons s
  obtain ⟨y, hq, hy⟩ := hM 0 c rfl h1 hc
  obtain ⟨ys, ⟨hl, hQ⟩, hs⟩ := alls_ex (C := fun k => C (k + 1)) (Q := fun k => Q (k + 1)) (fun k c hk => hM (k + 1) c hk) hr
  refine ⟨y :: ys, ⟨by simp [hl], fun k z hz => ?_⟩, ?_⟩
  ·cases k with
   | zero => cases hz; exact hq
   | succ k => exact hQ k z hz
  ·rw [List.mapIdx_cons]
   exact cons_all ⟨h1, h2, sp, hy, hs⟩
theorem rd_item {M L : List HProp} {c : HProp} {k b o : Nat} {v : Value} (e : M[k]? = some c) (r : Rd [c] b o v) : Rd (all M :: L) b o v := fun h s => by
 obtain ⟨h1, h2, sp, hc, hr⟩ := PB.star_pick e s
 exact (Rd.of (R := all (M.eraseIdx k) :: L) .here r) h ⟨h1, h2, sp, hc, hr⟩
def Shp (v : Value) (n : Nat) : Prop := ∃ a c, v = .slice a n c ∧ (a = none → n = 0) ∧ ∀ y, a = some y → y = ⟨y.block, y.off, none⟩
theorem shp_vec {v : Value} {cs : List Value} {h : Hp} (hv : vec 1 v cs h) : Shp v cs.length := by
 obtain ⟨a, n, c, rfl, hn, _, hz, hy⟩ := vec_shape (by omega) h hv
 obtain rfl : n = cs.length := by omega
 exact ⟨a, c, rfl, hz, hy⟩
theorem shp_rows {ι : Type} {f : ι → Value × List Nat} {l : List ι} {h : Hp} (s : all (l.map fun y => vec 1 (f y).1 ((f y).2.map num)) h) : ∀ z ∈ l, Shp (f z).1 (f z).2.length := fun z hz => by
 obtain ⟨i, hi⟩ := List.mem_iff_getElem?.1 hz
 have s1 : Star (all (l.map fun y => vec 1 (f y).1 ((f y).2.map num)) :: []) h := star_one s
 obtain ⟨h1, h2, sp, hc, hr⟩ := PB.star_pick (i := i) (c := vec 1 (f z).1 ((f z).2.map num)) (by rw [List.getElem?_map, hi]; rfl) s1
 have := shp_vec hc
 simpa using this
def gotY (gb k : Nat) (y : Value × List (Value × List Nat)) : HProp := all [arr gb k [y.1], vec 1 y.1 (y.2.map (·.1)), all (y.2.map rowT)]
def GotQ (l : List (List (List Nat))) (k : Nat) (y : Value × List (Value × List Nat)) : Prop := l[k]? = some (y.2.map (·.2)) ∧ Shp y.1 y.2.length ∧ ∀ z ∈ y.2, Shp z.1 z.2.length
theorem gots_ex {gb : Nat} {l : List Mach.Th} {L : List HProp} {h : Hp} (s : Star (all (l.mapIdx fun k t => rgPv gb (k, t)) :: L) h) :
  ∃ ys : List (Value × List (Value × List Nat)), (ys.length = l.length ∧ ∀ (k : Nat) y, ys[k]? = some y → GotQ (l.map doneOf) k y) ∧ Star (all (ys.mapIdx (gotY gb)) :: L) h := by
 obtain ⟨ys, ⟨h1, h2⟩, h3⟩ := alls_ex (C := gotY gb) (Q := GotQ (l.map doneOf)) (fun k c hk h hc => by
  rw [List.getElem?_mapIdx, Option.map_eq_some_iff] at hk
  obtain ⟨t, ht, rfl⟩ := hk
  obtain ⟨h1, h2, sp, ⟨y, hy, hc⟩, _⟩ := hc
  have sg : gotY gb k y h1 := hc
  have hh := rgPv_up (gb := gb) (k, t)
  refine ⟨y, ⟨?_, ?_, ?_⟩, ?_⟩
  ·rw [List.getElem?_map, ht, hy]; rfl
  ·obtain ⟨g1, g2, sp1, _, g3, g4, sp2, hv, _⟩ := hc
   simpa using shp_vec hv
  ·obtain ⟨g1, g2, sp1, _, g3, g4, sp2, hv, g5, g6, sp3, hr, _⟩ := hc
   exact shp_rows (f := fun y : Value × List Nat => y) hr
  ·have s1 : Star (gotY gb k y :: []) h := ⟨h1, h2, sp, sg, ‹_›⟩
   exact star_open (M := [_, _, _]) s1) s
 exact ⟨ys, ⟨by simpa using h1, h2⟩, h3⟩
theorem Rd.deep {M L F : List HProp} {c : HProp} {k b o : Nat} {v : Value} (hh : Has L (all M) F) (e : M[k]? = some c) (r : Rd [c] b o v) : Rd L b o v := Rd.of hh (rd_item e r)
theorem gots_at {gb : Nat} {l : List (List (List Nat))} {ys : List (Value × List (Value × List Nat))} {L F : List HProp} (hh : Has L (all (ys.mapIdx (gotY gb))) F) (hl : ys.length = l.length) (hq : ∀ (k : Nat) y, ys[k]? = some y → GotQ l k y) : GotsAt L (some ⟨gb, 0, none⟩) l := fun k pre hk => by
 have hlt := (List.getElem?_eq_some_iff.1 hk).1
 obtain ⟨y, hy⟩ : ∃ y, ys[k]? = some y := ⟨ys[k]'(by omega), List.getElem?_eq_getElem _⟩
 obtain ⟨q1, ⟨a, c, ev, hz, hs⟩, q3⟩ := hq k y hy
 rw [hk] at q1
 obtain rfl : pre = y.2.map (·.2) := by simpa using q1
 have e : (ys.mapIdx (gotY gb))[k]? = some (gotY gb k y) := by rw [List.getElem?_mapIdx, hy]; rfl
 refine ⟨gb, 0, y.1, rfl, Rd.deep hh e (rd_all (Rd.row (k := 0) rfl (by omega))), a, c, by rw [ev]; simp, fun j ws hj => ?_⟩
 rw [List.getElem?_map, Option.map_eq_some_iff] at hj
 obtain ⟨z, hz1, rfl⟩ := hj
 obtain ⟨a', c', ev', hz', hs'⟩ := q3 z (List.mem_of_getElem? hz1)
 have hjl := (List.getElem?_eq_some_iff.1 hz1).1
 cases a with
 | none => have := hz rfl; omega
 | some w =>
  obtain ⟨b, o, sp⟩ := w
  cases hs _ rfl
  refine ⟨b, o, a', c', rfl, ?_, fun i v hi => ?_⟩
  ·refine Rd.deep hh e (rd_all (M := [_, _, _]) (rd_vec (cs := y.2.map (·.1)) (by rw [ev]; exact (.there .here)) ?_))
   rw [List.getElem?_map, hz1, ← ev']; rfl
  ·cases a' with
   | none => have := hz' rfl; have := (List.getElem?_eq_some_iff.1 hi).1; omega
   | some w' =>
    obtain ⟨b', o', sp'⟩ := w'
    cases hs' _ rfl
    have e2 : (y.2.map rowT)[j]? = some (rowT z) := by rw [List.getElem?_map, hz1]; rfl
    refine ⟨b', o', rfl, Rd.deep hh e (rd_all (M := [_, _, _]) (Rd.deep (.there (.there .here)) e2 (rd_vec (n := z.2.length) (sz := 1) (c := c') (F := []) (cs := z.2.map num) ?_ (by rw [List.getElem?_map, hi]; rfl))))⟩
    have : rowT z = vec 1 (.slice (some ⟨b', o', none⟩) z.2.length c') (z.2.map num) := by unfold rowT; rw [ev']
    rw [this]
    exact .here
def ansY (_k : Nat) (y : Value × List (Bool × Value × List Nat)) : HProp := all [vec 2 y.1 (y.2.map ansV).flatten, all (y.2.map ansT)]
def AnsQ (os : List (Value × List (Bool × List Nat))) (k : Nat) (y : Value × List (Bool × Value × List Nat)) : Prop := os[k]? = some (y.1, y.2.map ansOf) ∧ Shp y.1 y.2.length ∧ ∀ z ∈ y.2, Shp z.2.1 z.2.2.length
theorem anss_ex {os : List (Value × List (Bool × List Nat))} {L : List HProp} {h : Hp} (s : Star (all (os.map ansK) :: L) h) :
  ∃ ys : List (Value × List (Bool × Value × List Nat)), (ys.length = os.length ∧ ∀ (k : Nat) y, ys[k]? = some y → AnsQ os k y) ∧ Star (all (ys.mapIdx ansY) :: L) h := by
 obtain ⟨ys, ⟨h1, h2⟩, h3⟩ := alls_ex (C := ansY) (Q := AnsQ os) (fun k c hk h hc => by
  rw [List.getElem?_map, Option.map_eq_some_iff] at hk
  obtain ⟨y, hy, rfl⟩ := hk
  obtain ⟨al, hal, hc⟩ := hc
  refine ⟨(y.1, al), ⟨?_, ?_, ?_⟩, hc⟩
  ·rw [hy, hal]
  ·obtain ⟨g1, g2, sp1, hv, _⟩ := hc
   obtain ⟨a, n, c, e, hn, _, hz, hs⟩ := vec_shape (by omega) _ hv
   obtain rfl : n = al.length := by rw [flat_len (k := 2) (fun _ => rfl)] at hn; omega
   exact ⟨a, c, e, hz, hs⟩
  ·obtain ⟨g1, g2, sp1, hv, g5, g6, sp3, hr, _⟩ := hc
   exact shp_rows (f := fun y : Bool × Value × List Nat => y.2) hr) s
 exact ⟨ys, ⟨by simpa using h1, h2⟩, h3⟩
theorem anss_at {os : List (Value × List (Bool × List Nat))} {ys : List (Value × List (Bool × Value × List Nat))} {a : Option Addr} {n c : Nat} {L F F' : List HProp} (hv : Has L (vec 1 (.slice a n c) (os.map (·.1))) F') (hn : (os.map (·.1)).length = n * 1) (hz : a = none → n = 0) (hs : ∀ y, a = some y → y = ⟨y.block, y.off, none⟩)
  (hh : Has L (all (ys.mapIdx ansY)) F) (hl : ys.length = os.length) (hq : ∀ (k : Nat) y, ys[k]? = some y → AnsQ os k y) : AnssAt L a (os.map (·.2)) := fun k ans hk => by
 have hlt := (List.getElem?_eq_some_iff.1 hk).1
 simp only [List.length_map] at hlt hn
 obtain ⟨y, hy⟩ : ∃ y, ys[k]? = some y := ⟨ys[k]'(by omega), List.getElem?_eq_getElem _⟩
 obtain ⟨q1, ⟨ya, yc, ev, yz, yh⟩, q3⟩ := hq k y hy
 rw [List.getElem?_map, q1] at hk
 obtain rfl : ans = y.2.map ansOf := by simpa using hk.symm
 have e : (ys.mapIdx ansY)[k]? = some (ansY k y) := by rw [List.getElem?_mapIdx, hy]; rfl
 cases a with
 | none => have := hz rfl; omega
 | some w =>
  obtain ⟨b, o, sp⟩ := w
  cases hs _ rfl
  refine ⟨b, o, y.1, rfl, rd_vec hv (by rw [List.getElem?_map, q1]; rfl), ya, yc, by rw [ev]; simp, fun j q hj => ?_⟩
  rw [List.getElem?_map, Option.map_eq_some_iff] at hj
  obtain ⟨z, hz1, rfl⟩ := hj
  obtain ⟨a', c', ev', hz', hs'⟩ := q3 z (List.mem_of_getElem? hz1)
  have hjl := (List.getElem?_eq_some_iff.1 hz1).1
  cases ya with
  | none => have := yz rfl; omega
  | some w =>
   obtain ⟨b1, o1, sp⟩ := w
   cases yh _ rfl
   have hf : ∀ i, i < 2 → ((y.2.map ansV).flatten)[2 * j + i]? = (ansV z)[i]? := fun i hi => flat_get (f := ansV) (k := 2) (fun _ => rfl) _ _ _ _ hz1 hi
   refine ⟨b1, o1, a', c', rfl, ?_, ?_, fun i v hi => ?_⟩
   ·exact Rd.deep hh e (rd_all (M := [_, _]) (rd_vec (i := 2 * j) (cs := (y.2.map ansV).flatten) (by rw [ev]; exact .here) (hf 0 (by omega))))
   ·have := Rd.deep (b := b1) (o := o1 + (2 * j + 1)) (v := z.2.1) hh e (rd_all (M := [_, _]) (rd_vec (i := 2 * j + 1) (cs := (y.2.map ansV).flatten) (by rw [ev]; exact .here) (hf 1 (by omega))))
    rw [ev', ← Nat.add_assoc] at this
    exact this
   ·cases a' with
    | none => have := hz' rfl; have := (List.getElem?_eq_some_iff.1 hi).1; simp only [ansOf] at this; omega
    | some w' =>
     obtain ⟨b', o', sp'⟩ := w'
     cases hs' _ rfl
     have e2 : (y.2.map ansT)[j]? = some (ansT z) := by rw [List.getElem?_map, hz1]; rfl
     refine ⟨b', o', rfl, Rd.deep hh e (rd_all (M := [_, _]) (Rd.deep (.there .here) e2 (rd_vec (n := z.2.2.length) (sz := 1) (c := c') (F := []) (cs := z.2.2.map num) ?_ (by rw [List.getElem?_map]; simp only [ansOf] at hi; rw [hi]; rfl))))⟩
     have : ansT z = vec 1 (.slice (some ⟨b', o', none⟩) z.2.2.length c') (z.2.2.map num) := by unfold ansT; rw [ev']
     rw [this]
     exact .here
theorem trC_CP : ∀ {l : List (Nat × Nat × Nat)}, (l.map trC).flatten = trCP (l.map fun e => (e.1, mkII e.2))
 | [] => rfl
 | e :: l => by
  have := trC_CP (l := l)
  simp only [List.map_cons, List.flatten_cons, trCP, this]
  rfl
theorem rdtr_vec {L F : List HProp} {a : Option Addr} {n c : Nat} {tr : List (Nat × (Int × Int))} (hh : Has L (vec 3 (.slice a n c) (trCP tr)) F) (hn : tr.length = n) (hz : a = none → n = 0) (hs : ∀ y, a = some y → y = ⟨y.block, y.off, none⟩) : RdTr L a tr := fun i t hi => by
 have hlt := (List.getElem?_eq_some_iff.1 hi).1
 cases a with
 | none => have := hz rfl; omega
 | some w =>
  obtain ⟨b, o, sp⟩ := w
  cases hs _ rfl
  refine ⟨b, o, rfl, fun j v hj => ?_⟩
  have hjl := (List.getElem?_eq_some_iff.1 hj).1
  rw [Nat.add_assoc]
  refine rd_vec hh ?_
  exact (flat_get (f := fun t : Nat × (Int × Int) => [Value.int .i64 (t.1 : Nat), .int .u8 t.2.1, .int .i64 t.2.2]) (k := 3) (fun _ => rfl) _ _ _ _ hi (by simpa using hjl)).trans hj
theorem cut_le {st : Mach.St} : (Mach.St.cut st).length ≤ st.l.length := by
 unfold Mach.St.cut
 exact Nat.le_trans (List.length_filter_le _ _) (by simp)
theorem star_exs {ι : Type} {P : ι → Prop} {c : ι → HProp} {L : List HProp} {h : Hp} (s : ∃ y, P y ∧ Star (c y :: L) h) : Star ((fun h => ∃ y, P y ∧ c y h) :: L) h := by
 obtain ⟨y, hp, h1, h2, sp, hc, hr⟩ := s
 exact ⟨h1, h2, sp, ⟨y, hp, hc⟩, hr⟩
theorem rdi_vec {L F : List HProp} {a : Option Addr} {n c : Nat} {l : List Nat} (hh : Has L (vec 1 (.slice a n c) (cutC l)) F) (hn : l.length = n) (hz : a = none → n = 0) (hs : ∀ y, a = some y → y = ⟨y.block, y.off, none⟩) : RdI L a l := fun i t hi => by
 have hlt := (List.getElem?_eq_some_iff.1 hi).1
 cases a with
 | none => have := hz rfl; omega
 | some w =>
  obtain ⟨b, o, sp⟩ := w
  cases hs _ rfl
  exact ⟨b, o, rfl, rd_vec hh (by unfold cutC; rw [List.getElem?_map, hi]; rfl)⟩
end
section
structure ThRo (Ro : HProp) (p8 ib rb gt qb qo nt qc gb gc k r : Nat) (a : Option Addr) (c : Nat) (l : List (Int × Nat × Nat)) : Prop where
 h1 : Rd [Ro] p8 0 (.slice (some ⟨qb, qo, none⟩) nt qc)
 h2 : Rd [Ro] qb (qo + k) (.slice a l.length c)
 h3 : ∀ (i : Nat) y, l[i]? = some y → ∃ b o, a = some ⟨b, o, none⟩ ∧ Rds [Ro] b (o + 3 * i) [.int .i64 y.1, .int .u64 (y.2.1 : Nat), .int .u64 (y.2.2 : Nat)]
 h4 : Rd [Ro] ib 0 (.int .i64 (k : Nat))
 h5 : Rd [Ro] rb 0 (.pointer (some ⟨r, 0, none⟩))
 h6 : Rd [Ro] gt 0 (.slice (some ⟨gb, 0, none⟩) nt gc)
 hk : k < nt
 hl : l.length ≤ 12
 ok : ∀ y ∈ l, (-9223372036854775808 ≤ y.1 ∧ y.1 ≤ 9223372036854775807) ∧ y.2.1 < 18446744073709551616 ∧ y.2.2 < 18446744073709551616
def callsOf (num den burst : Nat) (l : List (Int × Nat × Nat)) : List Mach.Cl := l.map fun y => callCl num den burst (y.1 % 3).toNat y.2.1 y.2.2
theorem callsOf_meter {num den burst : Nat} {l : List (Int × Nat × Nat)} : MeterCalls num den burst (callsOf num den burst l) := fun i cl hi => by
 simp only [callsOf, List.getElem?_map, Option.map_eq_some_iff] at hi
 obtain ⟨y, hy, rfl⟩ := hi
 exact ⟨_, _, _, rfl⟩
section
variable {num den burst r gb k : Nat} {sb says turn fin wg : Nat}
abbrev meterG (num den burst r gb : Nat) : Game := wG mD (mAddr r) 1 (mK r num den burst) (all []) (rgPv gb)
abbrev meterP (num den burst r sb says turn fin gb k : Nat) (pre : List (List Nat)) (f : Nat → Nat) : HProp := plC (mAddr r) 1 (mK r num den burst) (all []) sb says turn fin (gotC gb k pre) f
theorem meter_at_m {M : HProp} (O : BOk num den burst) : MeterAt (playAcc mD (mAddr r) 1 (mK r num den burst) (m_apart r num den burst) (all []) (rgPv gb) rgPv_up sb says turn fin wg k M) r num den burst := ⟨O, fun s => rds_in fun i v hv => Rd.of .here (mC_rd i v hv), rfl⟩
def thInv (num den burst r gb k sb says turn fin wg p8 ib rb gt : Nat) (l : List (Int × Nat × Nat)) (Ro : HProp) (F : List HProp) : PB.Inv (Nat × List (List Nat) × PlS) TX where
 e := fun i => [(0, gateV sb), (1, .pointer (some ⟨p8, 0, none⟩)), (2, .pointer (some ⟨ib, 0, none⟩)), (3, .pointer (some ⟨gt, 0, none⟩)), (4, .pointer (some ⟨rb, 0, none⟩)), (6, .int .i64 (i.1 : Nat))]
 L := fun i => meterP num den burst r sb says turn fin gb k i.2.1 i.2.2.f :: Ro :: F
 x := fun i => tx (meterG num den burst r gb) says turn fin wg (.busy i.2.2.g ((k, i.2.2.t) : Nat × Mach.Th) i.2.2.n)
 ok := fun i => i.1 ≤ l.length ∧ i.2.1.length = i.1 ∧ Mach.onF (fl (callsOf num den burst l) i.1) (Mach.Bt (callsOf num den burst l) i.1 (yesA i.2.1)) = some i.2.2.t ∧ (∀ q, q < 1 → i.2.2.f q = i.2.2.g q) ∧ mD.ok i.2.2.f
set_option maxHeartbeats 2000000 in
theorem thr_ok {p8 ib rb gt qb qo nt qc gc c : Nat} {a : Option Addr} {l : List (Int × Nat × Nat)} {Ro : HProp} (B : BOk num den burst) (O : ThRo Ro p8 ib rb gt qb qo nt qc gb gc k r a c l) {t0 : Mach.Th} (ht0 : Mach.onF (fl (callsOf num den burst l) 0) (Mach.Bt (callsOf num den burst l) 0 []) = some t0) :
  ThrOk (meterG num den burst r gb) (fun s => (s, ((k, t0) : Nat × Mach.Th))) (.func (.func 32) #[] #[.pointer (some ⟨p8, 0, none⟩), .pointer (some ⟨ib, 0, none⟩), .pointer (some ⟨gt, 0, none⟩), .pointer (some ⟨rb, 0, none⟩)]) (all [Ro, gotC gb k []]) where
 run := by
  refine ⟨_, _, _, rfl, inferInstance, fun sb says turn fin wg (s : Nat → Nat) m F hok => ?_⟩
  show Tr Try.prog tH _ [gateV sb, .pointer (some ⟨p8, 0, none⟩), .pointer (some ⟨ib, 0, none⟩), .pointer (some ⟨gt, 0, none⟩), .pointer (some ⟨rb, 0, none⟩)] _ (tx (meterG num den burst r gb) says turn fin wg (.busy s ((k, t0) : Nat × Mach.Th) m)) _
  refine tr_star (meterP num den burst r sb says turn fin gb k [] s :: Ro :: F) (fun hp st => ?_) ?_
  ·have s1 : Star (wds (mAddr r) 1 (mK r num den burst) s :: all [] :: seatR sb says turn fin :: all [Ro, gotC gb k []] :: F) hp := star_open (M := [_, _]) st
   have s2 : Star (Ro :: gotC gb k [] :: wds (mAddr r) 1 (mK r num den burst) s :: all [] :: seatR sb says turn fin :: F) hp := star_open (M := [_, _]) (Ent.star (.take (.there (.there (.there .here))) .refl) s1)
   exact star_shut (M := [_, _, _, _]) (Ent.star (.take (.there (.there .here)) (.take (.there (.there .here)) (.take (.there (.there .here)) (.take (.there .here) .refl)))) s2)
  refine tr_of_body Try.func32 rfl Try.ntmps32 (by simp) fun um Q _ hQ => ?_
  simp only [argE, Nat.zero_add, Nat.reduceAdd]
  repeat (first | refine we_seq ?_ | (refine wR ?_; try simp only [oS]) | refine wo_nil ?_ | refine wA ?_ | refine we_block ?_)
  refine we_loopN (thInv num den burst r gb k sb says turn fin wg p8 ib rb gt l Ro F) (fun i => l.length - i.1) (0, [], ⟨s, s, t0, m⟩) ⟨Nat.zero_le _, rfl, ht0, fun _ _ => rfl, hok⟩ ⟨rfl, rfl, rfl, rfl, rfl, rfl, trivial⟩ .refl rfl ?_
  rintro ⟨i, pre, s⟩ ⟨hi, hpre, hon, hfg, hok⟩
  dsimp only at hi hpre hon hfg hok
  simp only [thInv]
  have q1 : ∀ {c : HProp}, Rd (c :: Ro :: F) p8 0 (.slice (some ⟨qb, qo, none⟩) nt qc) := fun {c} => .there (Rd.of .here O.h1)
  have q2 : ∀ {c' : HProp}, Rd (c' :: Ro :: F) qb (qo + k) (.slice a l.length c) := fun {c} => .there (Rd.of .here O.h2)
  have q4 : ∀ {c : HProp}, Rd (c :: Ro :: F) ib 0 (.int .i64 (k : Nat)) := fun {c} => .there (Rd.of .here O.h4)
  have q5 : ∀ {c : HProp}, Rd (c :: Ro :: F) rb 0 (.pointer (some ⟨r, 0, none⟩)) := fun {c} => .there (Rd.of .here O.h5)
  have hkn := O.hk
  have hl16 := O.hl
  by_cases hlt : i < l.length
  ·obtain ⟨y, hy⟩ : ∃ y, l[i]? = some y := ⟨l[i], List.getElem?_eq_getElem hlt⟩
   obtain ⟨b3, o3, rfl, r3⟩ := O.h3 i y hy
   have q3 : ∀ {c' : HProp}, Rds (c' :: Ro :: F) b3 (o3 + 3 * i) [.int .i64 y.1, .int .u64 (y.2.1 : Nat), .int .u64 (y.2.2 : Nat)] := fun {c} q v hq => .there (Rd.of .here (r3 q v hq))
   obtain ⟨hy1, hy2, hy3⟩ := O.ok y (List.mem_of_getElem? hy)
   obtain ⟨kind, now, v⟩ := y
   simp only at hy1 hy2 hy3 q3
   have e3 := Int.emod_nonneg kind (by decide : (3 : Int) ≠ 0)
   obtain ⟨kd, hkd⟩ : ∃ kd : Nat, kind % 3 = kd := ⟨(kind % 3).toNat, by omega⟩
   have hcl : (callsOf num den burst l)[i]? = some (callCl num den burst kd now v) := by
    simp only [callsOf, List.getElem?_map, hy, Option.map_some]
    rw [hkd, Int.toNat_natCast]
   -- got[k]'s cell, seen
   refine we_star (gotC gb k pre :: wds (mAddr r) 1 (mK r num den burst) s.f :: all [] :: seatR sb says turn fin :: Ro :: F) (fun hp st => by
    have s1 : Star (wds (mAddr r) 1 (mK r num den burst) s.f :: all [] :: seatR sb says turn fin :: gotC gb k pre :: Ro :: F) hp := star_open (M := [_, _, _, _]) st
    exact Ent.star (.take (.there (.there (.there .here))) .refl) s1) ?_
   refine we_ex (d := fun (y : Value × List (Value × List Nat)) h => y.2.map (·.2) = pre ∧ gotY gb k y h) .here fun y => we_and .here fun hsn => ?_
   obtain ⟨gv, sl⟩ := y
   simp only at hsn
   refine we_pure (p := ∃ ga gn gcap, gv = .slice ga gn gcap ∧ gn = i) (fun hp st => by
    have s1 : Star (arr gb k [gv] :: vec 1 gv (sl.map (·.1)) :: all (sl.map rowT) :: _) hp := star_open (M := [_, _, _]) st
    obtain ⟨ga, gn, gcap, e, hgn, _⟩ := of_has (.there .here) (vec_shape (by omega)) hp s1
    have hsl : sl.length = pre.length := by rw [← hsn]; simp
    exact ⟨ga, gn, gcap, e, by simp at hgn; omega⟩) ?_
   rintro ⟨ga, gn, gcap, rfl, rfl⟩
   have hsl : sl.length = pre.length := by rw [← hsn]; simp
   obtain ⟨M, hM⟩ : ∃ M, M = gotY gb k (.slice ga gn gcap, sl) := ⟨_, rfl⟩
   rw [← hM]
   refine we_star (plC (mAddr r) 1 (mK r num den burst) (all []) sb says turn fin M s.f :: Ro :: F) (fun hp st => star_shut (M := [_, _, _, _]) (Ent.star (.take (.there .here) (.take (.there .here) (.take (.there .here) (.take .here .refl)))) st)) ?_
   have hMg : ∀ h, M h → gotC gb k pre h := fun h z => ⟨(.slice ga gn gcap, sl), hsn, by rw [hM] at z; exact z⟩
   have hdone := done_plays (addr := mAddr r) (K := mK r num den burst) (A := m_apart r num den burst) (Z := all []) (Pv := rgPv gb) (hPv := rgPv_up) (sb := sb) (says := says) (turn := turn) (fin := fin) (wg := wg) (k := k) (Pm := M) B (by simpa [callsOf] using O.hl) callsOf_meter hcl (by rw [yesA_len]; exact hpre)
    (fun p r said hp hm => star_one (by rw [doneOf_T]; exact hMg _ hm)) hon hfg hok
   have w0 : ∀ {f : Nat → Nat}, Rd (plC (mAddr r) 1 (mK r num den burst) (all []) sb says turn fin M f :: Ro :: F) gb (0 + k) (.slice ga gn gcap) := fun {f} => by
    rw [hM]
    exact rd_all (.there (.there (.there (rd_all (Rd.row (k := 0) rfl (by omega))))))
   have w6 : ∀ {c : HProp}, Rd (c :: Ro :: F) gt 0 (.slice (some ⟨gb, 0, none⟩) nt gc) := fun {c} => .there (Rd.of .here O.h6)
   repeat (first | (apply wo_po; apply mo_index1; exact rfl; exact rfl; omega; exact trivial) | (apply wo_po; apply mo_load; exact rfl; (first | exact q1 | exact q2 | exact q4); exact trivial) | refine wlssT ?_ | refine we_seq ?_ | (refine wR ?_; try simp only [oS]) | refine wo_nil ?_ | refine wM ?_ | refine wE ?_ | refine wT ?_ | refine we_skip ?_ | refine we_block ?_)
   refine we_draw (List.range' 0 20) (by kernel_rfl) ?_
   repeat (first | (apply ap_pure; exact rfl; exact rfl; exact trivial; intro L; apply mo_index1; exact rfl; exact rfl; omega) | (apply ap_pure; exact rfl; exact rfl; exact trivial; intro L; apply mo_indexAddr (r := o3 + 3 * gn); exact rfl; exact rfl; omega; omega; omega) | (apply ap_read; exact rfl; exact rfl; exact trivial; apply mo_load; exact rfl; (first | exact q1 | exact q2 | exact q4 | exact q5 | exact w0 | exact w6)) | (apply ap_read; exact rfl; exact rfl; exact trivial; apply mo_loadA (vs := [.int .i64 kind, .int .u64 (now : Nat), .int .u64 (v : Nat)]); exact rfl; exact rfl; exact q3) | refine aM ?_)
   refine ap_callR rfl rfl rfl trivial rfl rfl (.cons rfl (.cons rfl (.cons rfl .nil))) (done_tr (A := playAcc mD (mAddr r) 1 (mK r num den burst) (m_apart r num den burst) (all []) (rgPv gb) rgPv_up sb says turn fin wg k M) (meter_at_m B) hy1 hkd hy3 hdone .here) ?_ ?_
   ·rintro v1 L' x' ⟨told, s', _, rfl, _⟩ p hp
    replace hp := (List.mem_filter.1 hp).1
    simp only [List.mem_cons, List.not_mem_nil, or_false] at hp
    repeat (rcases hp with rfl | hp; · first | exact .inl rfl | exact .inr ⟨_, rfl, trivial, mo_load rfl (by first | exact .there w0 | exact Rd.of (.there (.there .here)) O.h1 | exact Rd.of (.there (.there .here)) O.h2 | exact Rd.of (.there (.there .here)) O.h4 | exact Rd.of (.there (.there .here)) O.h5 | exact Rd.of (.there (.there .here)) O.h6)⟩ | exact .inr ⟨_, rfl, trivial, mo_loadA (vs := [.int .i64 kind, .int .u64 (now : Nat), .int .u64 (v : Nat)]) rfl rfl (fun q w hq => Rd.of (.there (.there .here)) (r3 q w hq))⟩)
   rintro bv L' x' ⟨told, s', ⟨hon', hfg', hok'⟩, rfl, rfl⟩
   refine ap_know (of_has .here (vec_shape (by omega))) ?_
   rintro ⟨ba, bn, bcap, rfl, hbn, _⟩
   have v0 : Rd (arr gb k [.slice ga gn gcap] :: vec 1 (.slice ga gn gcap) (sl.map (·.1)) :: all (sl.map rowT) :: wds (mAddr r) 1 (mK r num den burst) s'.f :: all [] :: seatR sb says turn fin :: vec 1 (.slice ba bn bcap) (told.map Go.PB.num) :: Ro :: F) gb (0 + k) (.slice ga gn gcap) := Rd.row (k := 0) rfl (by omega)
   refine ap_star (L' := arr gb k [.slice ga gn gcap] :: vec 1 (.slice ga gn gcap) (sl.map (·.1)) :: all (sl.map rowT) :: wds (mAddr r) 1 (mK r num den burst) s'.f :: all [] :: seatR sb says turn fin :: vec 1 (.slice ba bn bcap) (told.map Go.PB.num) :: Ro :: F) (fun hp st => by
    have s1 : Star (wds (mAddr r) 1 (mK r num den burst) s'.f :: all [] :: seatR sb says turn fin :: M :: vec 1 (.slice ba bn bcap) (told.map Go.PB.num) :: Ro :: F) hp := star_open (M := [_, _, _, _]) (star_swap st)
    rw [hM] at s1
    exact star_open (M := [_, _, _]) (Ent.star (.take (.there (.there (.there .here))) .refl) s1)) (fun p hp => ?_) ?_
   ·replace hp := (List.mem_filter.1 hp).1
    simp only [List.mem_cons, List.not_mem_nil, or_false] at hp
    repeat (rcases hp with rfl | hp; · first | exact .inl rfl | exact .inr ⟨_, rfl, trivial, mo_load rfl (by first | exact v0 | exact Rd.of (.there (.there (.there (.there (.there (.there (.there .here))))))) O.h1 | exact Rd.of (.there (.there (.there (.there (.there (.there (.there .here))))))) O.h2 | exact Rd.of (.there (.there (.there (.there (.there (.there (.there .here))))))) O.h4 | exact Rd.of (.there (.there (.there (.there (.there (.there (.there .here))))))) O.h5 | exact Rd.of (.there (.there (.there (.there (.there (.there (.there .here))))))) O.h6)⟩ | exact .inr ⟨_, rfl, trivial, mo_loadA (vs := [.int .i64 kind, .int .u64 (now : Nat), .int .u64 (v : Nat)]) rfl rfl (fun q w hq => Rd.of (.there (.there (.there (.there (.there (.there (.there .here))))))) (r3 q w hq))⟩)
   refine ap_loudR rfl rfl rfl rfl trivial (mo_buildSlice (sz := 1) (vs := [.slice ba bn bcap]) rfl (.cons rfl .nil) rfl (by intro v hv; cases (List.mem_singleton.1 hv); exact rfl) (by omega)) ?_ ?_
   ·rintro v' L' ⟨sb2, rfl, rfl⟩ p hp
    replace hp := (List.mem_filter.1 (List.mem_filter.1 hp).1).1
    simp only [List.mem_cons, List.not_mem_nil, or_false] at hp
    repeat (rcases hp with rfl | hp; · first | exact .inl rfl | exact .inr ⟨_, rfl, trivial, mo_load rfl (by first | exact .there v0 | exact Rd.of (.there (.there (.there (.there (.there (.there (.there (.there .here)))))))) O.h1 | exact Rd.of (.there (.there (.there (.there (.there (.there (.there (.there .here)))))))) O.h2 | exact Rd.of (.there (.there (.there (.there (.there (.there (.there (.there .here)))))))) O.h4 | exact Rd.of (.there (.there (.there (.there (.there (.there (.there (.there .here)))))))) O.h5 | exact Rd.of (.there (.there (.there (.there (.there (.there (.there (.there .here)))))))) O.h6)⟩ | exact .inr ⟨_, rfl, trivial, mo_loadA (vs := [.int .i64 kind, .int .u64 (now : Nat), .int .u64 (v : Nat)]) rfl rfl (fun q w hq => Rd.of (.there (.there (.there (.there (.there (.there (.there (.there .here)))))))) (r3 q w hq))⟩)
   rintro v' L' ⟨sb2, rfl, rfl⟩
   refine ap_loudR rfl rfl rfl rfl trivial (mo_append (sz := 1) (new := [.slice ba bn bcap]) rfl rfl rfl rfl (.there (.there .here)) rfl (.inr ⟨_, _, rfl, Rds.all .here⟩) (by intro v hv; cases (List.mem_singleton.1 hv); exact rfl) (by simp only [sliceLen]; omega)) ?_ ?_
   ·rintro vw L' rfl p hp
    replace hp := (List.mem_filter.1 (List.mem_filter.1 (List.mem_filter.1 hp).1).1).1
    simp only [List.mem_cons, List.not_mem_nil, or_false] at hp
    have v0 : Rd (vec 1 vw (sl.map (·.1) ++ [.slice ba bn bcap]) :: arr sb2 0 [.slice ba bn bcap] :: arr gb k [.slice ga gn gcap] :: all (sl.map rowT) :: wds (mAddr r) 1 (mK r num den burst) s'.f :: all [] :: seatR sb says turn fin :: vec 1 (.slice ba bn bcap) (told.map Go.PB.num) :: Ro :: F) gb (0 + k) (.slice ga gn gcap) := .there (.there (Rd.row (k := 0) rfl (by omega)))
    repeat (rcases hp with rfl | hp; · first | exact .inl rfl | exact .inr ⟨_, rfl, trivial, mo_load rfl (by first | exact v0 | exact Rd.of (.there (.there (.there (.there (.there (.there (.there (.there .here)))))))) O.h1 | exact Rd.of (.there (.there (.there (.there (.there (.there (.there (.there .here)))))))) O.h2 | exact Rd.of (.there (.there (.there (.there (.there (.there (.there (.there .here)))))))) O.h4 | exact Rd.of (.there (.there (.there (.there (.there (.there (.there (.there .here)))))))) O.h5 | exact Rd.of (.there (.there (.there (.there (.there (.there (.there (.there .here)))))))) O.h6)⟩ | exact .inr ⟨_, rfl, trivial, mo_loadA (vs := [.int .i64 kind, .int .u64 (now : Nat), .int .u64 (v : Nat)]) rfl rfl (fun q w hq => Rd.of (.there (.there (.there (.there (.there (.there (.there (.there .here)))))))) (r3 q w hq))⟩)
   rintro v' L' rfl
   refine ap_know (of_has .here (vec_shape (by omega))) ?_
   rintro ⟨va, vn, vc, rfl, _⟩
   repeat (first | (apply ap_pure; exact rfl; exact rfl; exact trivial; intro L; apply mo_index1; exact rfl; exact rfl; omega))
   refine ap_loud rfl rfl rfl rfl rfl trivial (mo_store rfl rfl rfl (Wt.row (k := 0) (vs := [.slice ga gn gcap]) (Nat.lt_succ_self 0) (by omega) (.there (.there .here)))) ?_
   rintro v' L' ⟨rfl, rfl⟩
   refine ap_end ?_
   repeat (first | (refine wR ?_; try simp only [oS]) | refine wo_nil ?_ | refine wM ?_ | refine wA ?_ | refine wadd ?_)
   refine at_roundS (B := tH) (I := thInv num den burst r gb k sb says turn fin wg p8 ib rb gt l Ro F) (R := fun q => l.length - q.1 < l.length - gn) (gn + 1, pre ++ [told], s') (by show l.length - (gn + 1) < l.length - gn; omega) ⟨by show gn + 1 ≤ l.length; omega, by simp [hpre], by rw [← yesA_snoc]; exact hon', hfg', hok'⟩ ?_ (fun hp st => ?_) rfl
   ·exact ⟨rfl, rfl, rfl, rfl, rfl, rfl, trivial⟩
   ·have s1 : Star (all (sl.map rowT) :: rowT (Value.slice ba bn bcap, told) :: vec 1 (.slice va vn vc) (sl.map (·.1) ++ [.slice ba bn bcap]) :: arr gb k [.slice va vn vc] :: wds (mAddr r) 1 (mK r num den burst) s'.f :: all [] :: seatR sb says turn fin :: Ro :: F) hp := Ent.star (.take (.there (.there (.there .here))) (.take (.there (.there (.there (.there (.there (.there .here)))))) (.take .here (.drop (.take .here .refl))))) st
    have s2 := star_open s1
    have s3 : Star (all ((sl ++ [((Value.slice ba bn bcap, told) : Value × List Nat)]).map rowT) :: vec 1 (.slice va vn vc) ((sl ++ [((Value.slice ba bn bcap, told) : Value × List Nat)]).map (·.1)) :: arr gb k [.slice va vn vc] :: wds (mAddr r) 1 (mK r num den burst) s'.f :: all [] :: seatR sb says turn fin :: Ro :: F) hp := star_shut (by
     rw [List.map_append, List.map_append, List.append_assoc]
     exact s2)
    have s4 := star_shut (M := [_, _, _]) (Ent.star (.take (.there (.there .here)) (.take (.there .here) (.take .here .refl))) s3)
    have s5 : Star (gotC gb k (pre ++ [told]) :: wds (mAddr r) 1 (mK r num den burst) s'.f :: all [] :: seatR sb says turn fin :: Ro :: F) hp := star_map s4 (fun h z => ⟨(Value.slice va vn vc, sl ++ [((Value.slice ba bn bcap, told) : Value × List Nat)]), (show List.map (·.2) (sl ++ [((Value.slice ba bn bcap, told) : Value × List Nat)]) = pre ++ [told] from by rw [List.map_append]; exact congrArg (· ++ [told]) hsn), z⟩) fun _ z => z
    exact star_shut (M := [_, _, _, _]) (Ent.star (.take (.there .here) (.take (.there .here) (.take (.there .here) (.take .here .refl)))) s5)
  ·obtain rfl : i = l.length := by omega
   repeat (first | (apply wo_po; apply mo_index1; exact rfl; exact rfl; omega; exact trivial) | (apply wo_po; apply mo_load; exact rfl; (first | exact q1 | exact q2 | exact q4); exact trivial) | refine wlssF ?_ | refine we_seq ?_ | (refine wR ?_; try simp only [oS]) | refine wo_nil ?_ | refine wM ?_ | refine wE ?_ | refine wF ?_ | refine we_exit ?_)
   (first | refine or0 Try.func32 Try.results32 hQ ?_ | refine on0 Try.func32 Try.results32 hQ ?_)
   have hnone : (callsOf num den burst l)[l.length]? = none := List.getElem?_eq_none_iff.2 (by simp [callsOf])
   rw [show fl (callsOf num den burst l) l.length = 9 + 1 by simp [fl, callsOf], Mach.on_over (f := 9) hnone] at hon
   have hst := (Option.some.inj hon).symm
   refine ⟨s.g, ((k, s.t) : Nat × Mach.Th), s.n, rfl, ?_, fun hp st => ?_⟩
   ·show mPlan _ (k, s.t) = none
    unfold mPlan
    rw [if_pos (by rw [hst])]
   ·have s1 : Star (wds (mAddr r) 1 (mK r num den burst) s.f :: all [] :: seatR sb says turn fin :: gotC gb k pre :: Ro :: F) hp := star_open (M := [_, _, _, _]) st
    have s2 := star_shut (M := [_, _]) (star_map s1 (wds_congr hfg) fun _ z => z)
    have e : doneOf s.t = pre := by rw [hst]; exact doneOf_yes
    refine star_map s2 (fun _ z => z) fun hq z => star_map z (fun _ z => z) fun hq z => star_map z (fun hq z => ?_) fun hq z => star_drop z
    show Star [gotC gb k (doneOf s.t)] hq
    rw [e]; exact star_one z
end
end
end Go.Proofs.Ythoefhocecdlhaa
namespace Go.Proofs.Ythoefhocecdlhaa
open Go Go.PB
attribute [local irreducible] Mo Bin Eql Tr Wo Ap
section
theorem mo_sliceHd {P : Program} {e : Env} {ty : TypeId} {L : List HProp} {t el sz n c u : Nat} {a : Option Addr} {k : IntKind} {j : Int} {o hi : Operand} [p : SlT P t el] [s : Siz P el sz] (hx : ev e o = some (.slice a n c)) (hh : ev e hi = some (.int k j)) (hj : j = (u : Nat)) (hu : u ≤ c) :
  Mo P e (.slice t o none (some hi) none) ty L fun v' L' => v' = .slice a u c ∧ L' = L := by
 have h := mo_slice (P := P) (e := e) (ty := ty) (L := L) (t := t) (l := 0) (u := u) hx .no (.yes hh hj) (Nat.zero_le _) hu
 have e1 : (if c = 0 then a else a.map (·.add (0 * sz))) = a := by
  split
  ·rfl
  ·cases a with
   | none => rfl
   | some y => simp [Addr.add]
 rw [e1] at h
 exact h
abbrev RW := Option Addr × Nat × List (Int × Nat × Nat)
def rv (y : RW) : Value := .slice y.1 y.2.2.length y.2.1
def ThsAt (L : List HProp) (a : Option Addr) (rs : List RW) : Prop := ∀ (i : Nat) y, rs[i]? = some y → ∃ b o, a = some ⟨b, o, none⟩ ∧ Rd L b (o + i) (rv y) ∧ DoAt L y.1 y.2.2 ∧ y.2.2.length ≤ y.2.1
def cutR (y : RW) : RW := (y.1, y.2.1, y.2.2.take 12)
def fewR (rs : List RW) : List RW := if rs = [] then [(none, 0, [])] else (rs.take 6).map cutR
section
variable {B : Hand} [Lets B] {L F : List HProp} {x : B.X}
def fewInv (x : B.X) (a : Option Addr) (c : Nat) (rs : List RW) (L : List HProp) : Inv (Nat × Value) B.X where
 e := fun i => [(0, .slice a rs.length c), (3, i.2), (4, .int .i64 (i.1 : Nat))]
 L := fun i => vec 1 i.2 (((rs.take i.1).map cutR).map rv) :: L
 x := fun _ => x
 ok := fun i => i.1 ≤ rs.length ∧ i.1 ≤ 6
theorem few_tr {a : Option Addr} {c : Nat} {rs : List RW} (hr : ThsAt L a rs) :
  Tr Try.prog B 26 [.slice a rs.length c] L x fun v L' x' => L' = vec 1 v ((fewR rs).map rv) :: L ∧ x' = x := by
 refine Tr.post (R := fun v L' x' => x' = x ∧ ∀ h, Star L' h → Star (vec 1 v ((fewR rs).map rv) :: L) h) ?_
  (by rintro v L' x' ⟨rfl, h2⟩; exact ⟨_, ⟨rfl, rfl⟩, h2⟩)
 refine tr_of_body Try.func26 rfl Try.ntmps26 (by simp) fun um Q _ hQ => ?_
 simp only [argE, Nat.zero_add, Nat.reduceAdd]
 repeat (first | refine we_seq ?_ | (refine wR ?_; try simp only [oS]) | refine wo_nil ?_ | refine wA ?_ | refine we_block ?_)
 refine we_star (vec 1 (.slice none 0 0) (((rs.take 0).map cutR).map rv) :: L) (fun h st => vec_nil st) ?_
 refine we_loopN (fewInv x a c rs L) (fun i => rs.length - i.1) (0, .slice none 0 0) ⟨Nat.zero_le _, Nat.zero_le _⟩ ⟨rfl, rfl, rfl, trivial⟩ .refl rfl ?_
 rintro ⟨i, v⟩ ⟨hil, hi4⟩
 simp only at hil hi4
 simp only [fewInv]
 refine we_pure (of_has .here (vec_shape (by omega))) ?_
 rintro ⟨va, vn, vc, rfl, hvn, _⟩
 have hvn : vn = i := by simp at hvn; omega
 subst hvn
 by_cases hgo : vn < rs.length ∧ vn < 6
 ·obtain ⟨hlt, h4⟩ := hgo
  obtain ⟨y, hy⟩ : ∃ k, rs[vn]? = some k := ⟨rs[vn], List.getElem?_eq_getElem hlt⟩
  obtain ⟨b, o, rfl, hrd, hdo, hcap⟩ := hr vn y hy
  obtain ⟨ya, yc, yl⟩ := y
  simp only [rv] at hrd hdo hcap
  have hrk : ∀ {d : HProp}, Rd (d :: L) b (o + vn) (.slice ya yl.length yc) := fun {d} => .there hrd
  have hmin : min (yl.length : Int) 12 = ((yl.take 12).length : Nat) := by rw [List.length_take]; omega
  have hle16 : (yl.take 12).length ≤ yc := by rw [List.length_take]; omega
  repeat (first | refine wlssT ?_ | refine we_seq ?_ | (refine wR ?_; try simp only [oS]) | refine wo_nil ?_ | refine wM ?_ | refine wK ?_ | refine wE ?_ | refine wT ?_ | refine we_skip ?_ | refine we_block ?_)
  refine we_draw (List.range' 0 15) (by kernel_rfl) ?_
  repeat (first | (apply ap_pure; exact rfl; exact rfl; exact trivial; intro L; apply mo_index1; exact rfl; exact rfl; omega) | (apply ap_read; exact rfl; exact rfl; exact trivial; apply mo_load; exact rfl; exact hrk) | (apply ap_pure; exact rfl; exact rfl; exact trivial; intro L; apply mo_min; exact rfl; exact rfl) | (apply ap_pure; exact rfl; exact rfl; exact trivial; intro L; apply mo_sliceHd; exact rfl; exact rfl; exact hmin; exact hle16) | refine aM ?_ | (apply ap_pure; exact rfl; exact rfl; exact gY; intro L; apply mo_len; exact rfl))
  refine ap_loudR rfl rfl rfl rfl trivial (mo_buildSlice (sz := 1) (vs := [.slice ya (yl.take 12).length yc]) rfl (.cons rfl .nil) rfl (by intro v hv; cases (List.mem_singleton.1 hv); exact rfl) (by omega)) ?_ ?_
  ·rintro v L' ⟨sb2, rfl, rfl⟩ p hp
   replace hp := (List.mem_filter.1 hp).1
   simp only [List.mem_cons, List.not_mem_nil, or_false] at hp
   repeat (rcases hp with rfl | hp; · first | exact .inl rfl | exact .inr ⟨_, rfl, trivial, mo_load rfl (Rd.there hrk)⟩)
   all_goals first | (subst hp; first | exact .inl rfl | exact .inr ⟨_, rfl, trivial, mo_load rfl (Rd.there hrk)⟩)
  rintro v' L' ⟨sb2, rfl, rfl⟩
  refine ap_loud rfl rfl rfl rfl rfl trivial (mo_append (sz := 1) (new := [.slice ya (yl.take 12).length yc]) rfl rfl rfl rfl (.there .here) rfl (.inr ⟨_, _, rfl, Rds.all .here⟩) (by intro v hv; cases (List.mem_singleton.1 hv); exact rfl) (by simp only [sliceLen]; omega)) ?_
  rintro v' L' rfl
  repeat (first | refine aA ?_ | refine ap_end ?_)
  repeat (first | (refine wR ?_; try simp only [oS]) | refine wo_nil ?_ | refine wM ?_ | refine wA ?_ | refine wadd ?_)
  refine at_round (I := fewInv x (some ⟨b, o, none⟩) c rs L) (R := fun j => rs.length - j.1 < rs.length - vn) (vn + 1, v') (by show rs.length - (vn + 1) < rs.length - vn; omega) ⟨by show vn + 1 ≤ rs.length; omega, by show vn + 1 ≤ 6; omega⟩ ?_ ?_ rfl
  exact ⟨rfl, rfl, rfl, trivial⟩
  show Ent _ (vec 1 v' (((rs.take (vn + 1)).map cutR).map rv) :: _)
  rw [show ((rs.take (vn + 1)).map cutR).map rv = ((rs.take vn).map cutR).map rv ++ [.slice ya (yl.take 12).length yc] by rw [List.take_add_one, hy]; simp [cutR, rv]]
  exact (.take .here (.drop .refl))
 ·have hend : rs.take vn = rs.take 6 := by
   by_cases h4 : vn = 6
   ·rw [h4]
   ·have : vn = rs.length := by omega
    rw [this, List.take_length, List.take_of_length_le (by omega)]
  rw [hend]
  by_cases h0 : rs = []
  ·subst h0
   obtain rfl : vn = 0 := by simp at hil; omega
   repeat (first | (apply wo_mo; apply mo_buildSlice (sz := 1) (vs := [.slice none 0 0]); exact rfl; exact .cons rfl .nil; exact rfl; (intro v hv; cases (List.mem_singleton.1 hv); exact rfl); omega; exact trivial) | refine wlssF ?_ | refine weqlT ?_ | refine we_seq ?_ | (refine wR ?_; try simp only [oS]) | refine wo_nil ?_ | refine wM ?_ | (apply wo_no; exact rfl) | refine wJ ?_ | refine wE ?_ | refine wT ?_ | refine wF ?_ | refine we_exit ?_)
   rintro v' L' ⟨nb, rfl, rfl⟩
   repeat (first | (apply wo_mo; apply mo_append (sz := 1) (new := [.slice none 0 0]); exact rfl; exact rfl; exact rfl; exact rfl; exact (.there .here); exact rfl; exact .inr ⟨_, _, rfl, Rds.all .here⟩; (intro v hv; cases (List.mem_singleton.1 hv); exact rfl); (simp only [sliceLen]; omega); exact trivial))
   rintro v' L' rfl
   repeat (first | refine we_seq ?_ | (refine wR ?_; try simp only [oS]) | refine wo_nil ?_ | refine wM ?_ | refine wA ?_ | refine we_ret ?_)
   (first | refine or1 Try.func26 Try.results26 hQ rfl ?_ | refine on1 Try.func26 Try.results26 hQ rfl ?_)
   exact ⟨rfl, fun h st => Ent.star (.take .here (.drop .refl)) st⟩
  ·have he : fewR rs = (rs.take 6).map cutR := if_neg h0
   have hpos : 0 < rs.length := List.length_pos_iff.2 h0
   have hvp : 0 < vn := by omega
   by_cases hv : vn < rs.length
   ·obtain rfl : vn = 6 := by omega
    repeat (first | refine wlssT ?_ | refine wlssF ?_ | refine weqlF ?_ | refine we_seq ?_ | (refine wR ?_; try simp only [oS]) | refine wo_nil ?_ | refine wM ?_ | refine wA ?_ | refine wK ?_ | refine wE ?_ | refine wF ?_ | refine we_ret ?_ | refine we_skip ?_ | refine we_exit ?_)
    (first | refine or1 Try.func26 Try.results26 hQ rfl ?_ | refine on1 Try.func26 Try.results26 hQ rfl ?_)
    exact ⟨rfl, fun h st => by rw [he]; exact st⟩
   ·obtain rfl : vn = rs.length := by omega
    repeat (first | refine wlssF ?_ | refine weqlF ?_ | refine we_seq ?_ | (refine wR ?_; try simp only [oS]) | refine wo_nil ?_ | refine wM ?_ | refine wA ?_ | (apply wo_no; exact rfl) | refine wJ ?_ | refine wE ?_ | refine wF ?_ | refine we_ret ?_ | refine we_skip ?_ | refine we_exit ?_)
    (first | refine or1 Try.func26 Try.results26 hQ rfl ?_ | refine on1 Try.func26 Try.results26 hQ rfl ?_)
    exact ⟨rfl, fun h st => by rw [he]; exact st⟩
end
end
section
abbrev CY := (Option Addr × Nat) × Nat × Mach.Cl
def clV (y : CY) : List Value := [.slice y.1.1 y.2.1 y.1.2, .slice none 0 0]
def clK (y : CY) : HProp := clC (.slice y.1.1 y.2.1 y.1.2) (.slice none 0 0) y.2.2
def cwOf (a : Option Addr) (c : Nat) (ys : List CY) : CW := ⟨a, c, fun i => match ys[i]? with | some y => y.1 | none => (none, 0), fun _ => (none, 0)⟩
theorem star_pick {c : HProp} {F : List HProp} : ∀ {M : List HProp} {i : Nat} {h : Hp}, M[i]? = some c → Star (M ++ F) h → ∃ R, Star (c :: R) h
 | [], i, h, hi, s => by simp at hi
 | d :: M, 0, h, hi, s => by cases hi; exact ⟨_, s⟩
 | d :: M, i + 1, h, hi, s => by
  obtain ⟨h1, h2, sp, hd, hr⟩ := s
  obtain ⟨R, hR⟩ := star_pick (M := M) (i := i) hi hr
  refine ⟨d :: R, ?_⟩
  exact star_swap ⟨h1, h2, sp, hd, hR⟩
theorem code_close {a : Option Addr} {n c : Nat} {ys : List CY} {F : List HProp} (hd : ∀ y ∈ ys, y.2.2.data = []) {h : Hp} (s : Star (vec 2 (.slice a n c) (ys.map clV).flatten :: all (ys.map clK) :: F) h) : codeC (cwOf a c ys) (ys.map (·.2.2)) h := by
 intro i cl hi
 rw [List.getElem?_map, Option.map_eq_some_iff] at hi
 obtain ⟨y, hy, rfl⟩ := hi
 have hyd := hd y (List.mem_of_getElem? hy)
 obtain ⟨a', n', c', e, hn, _, hz, hya⟩ := of_has (L := vec 2 (.slice a n c) (ys.map clV).flatten :: all (ys.map clK) :: F) .here (vec_shape (by omega)) h s
 cases e
 have hlen : (ys.map clV).flatten.length = ys.length * 2 := flat_len (k := 2) (fun _ => rfl) ys
 have hil := (List.getElem?_eq_some_iff.1 hy).1
 cases a with
 | none => have := hz rfl; omega
 | some ad =>
  obtain ⟨cb, co, sp⟩ := ad
  cases hya _ rfl
  have key : ∀ j v, (clV y)[j]? = some v → j < 2 → h.can ⟨cb, co + 2 * i + j, none⟩ v := fun j v hj hj2 => by
   have := (rd_vec (i := 2 * i + j) (v := v) (L := vec 2 (.slice (some ⟨cb, co, none⟩) n c) (ys.map clV).flatten :: all (ys.map clK) :: F) .here (by rw [flat_get (k := 2) (fun _ => rfl) ys i j y hy hj2]; exact hj)) h s
   rwa [← Nat.add_assoc] at this
  obtain ⟨R, s2⟩ := star_pick (M := ys.map clK) (i := i) (c := clK y) (by rw [List.getElem?_map, hy]; rfl) (star_open (star_swap s))
  have s3 : Star (vec 7 (.slice y.1.1 y.2.1 y.1.2) (y.2.2.code.map inC).flatten :: vec 1 (.slice none 0 0) (y.2.2.data.map num) :: R) h := star_open (M := [_, _]) s2
  obtain ⟨ya, yn, yc, e, hn7, _, hz7, hy7⟩ := of_has (L := vec 7 (.slice y.1.1 y.2.1 y.1.2) (y.2.2.code.map inC).flatten :: vec 1 (.slice none 0 0) (y.2.2.data.map num) :: R) .here (vec_shape (by omega)) h s3
  simp only [Value.slice.injEq] at e
  obtain ⟨e1, e2, e3⟩ := e
  have h7 : (y.2.2.code.map inC).flatten.length = y.2.2.code.length * 7 := flat_len (k := 7) (fun _ => rfl) _
  have hm : y.2.1 = y.2.2.code.length := by omega
  refine ⟨cb, co, rfl, ?_, ?_, fun j z hz' => ?_, fun j v hv => ?_⟩
  ·have := key 0 _ rfl (by omega)
   simp only [cwOf, hy]
   rw [← hm]; exact this
  ·have := key 1 _ rfl (by omega)
   rw [hyd]; exact this
  ·have hjl := (List.getElem?_eq_some_iff.1 hz').1
   cases ya with
   | none => have := hz7 rfl; omega
   | some w =>
    obtain ⟨kb, ko, sp⟩ := w
    cases hy7 _ rfl
    refine ⟨kb, ko, by simp only [cwOf, hy]; exact e1, fun m v hmv => ?_⟩
    have hm7 : m < 7 := (List.getElem?_eq_some_iff.1 hmv).1
    rw [e1] at s3
    have := (rd_vec (i := 7 * j + m) (v := v) (L := vec 7 (.slice (some ⟨kb, ko, none⟩) y.2.1 y.1.2) (y.2.2.code.map inC).flatten :: vec 1 (.slice none 0 0) (y.2.2.data.map num) :: R) .here (by rw [flat_get (k := 7) (fun _ => rfl) _ _ _ _ hz' hm7]; exact hmv)) h s3
    rwa [← Nat.add_assoc] at this
  ·rw [hyd] at hv; simp at hv
end
section
def intC (l : List Int) : List Value := l.map fun k => .int .i64 k
def orderF (m : Nat) (l : List Int) : List Int := (l.take 2000).map fun k => k % ((m : Int) + 1)
section
variable {B : Hand} [Lets B] {L F : List HProp} {x : B.X}
def orderInv (x : B.X) (u : Value) (m : Nat) (l : List Int) (L : List HProp) : Inv (Nat × Value) B.X where
 e := fun i => [(0, u), (1, .int .i64 (m : Nat)), (5, i.2), (6, .int .i64 (i.1 : Nat))]
 L := fun i => vec 1 i.2 (intC ((l.take i.1).map fun k => k % ((m : Int) + 1))) :: L
 x := fun _ => x
 ok := fun i => i.1 ≤ l.length ∧ i.1 ≤ 2000
theorem order_tr {a : Option Addr} {c m : Nat} {l : List Int} (hr : RdsO L a l.length (intC l)) (hm : m < 1000000) (hi : ∀ k ∈ l, -9223372036854775808 ≤ k ∧ k ≤ 9223372036854775807) :
  Tr Try.prog B 30 [.slice a l.length c, .int .i64 (m : Nat)] L x fun v L' x' => L' = vec 1 v (intC (orderF m l)) :: L ∧ x' = x := by
 refine tr_of_body Try.func30 rfl Try.ntmps30 (by simp) fun um Q _ hQ => ?_
 simp only [argE, Nat.zero_add, Nat.reduceAdd]
 repeat (first | refine we_seq ?_ | (refine wR ?_; try simp only [oS]) | refine wo_nil ?_ | refine wA ?_ | refine we_block ?_)
 refine we_star (vec 1 (.slice none 0 0) (intC ((l.take 0).map fun k => k % ((m : Int) + 1))) :: L) (fun h st => vec_nil st) ?_
 refine we_loopN (orderInv x (.slice a l.length c) m l L) (fun i => l.length - i.1) (0, .slice none 0 0) ⟨Nat.zero_le _, Nat.zero_le _⟩ ⟨rfl, rfl, rfl, rfl, trivial⟩ .refl rfl ?_
 rintro ⟨i, v⟩ ⟨hil, hi2⟩
 simp only at hil hi2
 simp only [orderInv]
 refine we_pure (of_has .here (vec_shape (by omega))) ?_
 rintro ⟨va, vn, vc, rfl, hvn, _⟩
 have hvn : vn = i := by simp [intC] at hvn; omega
 subst hvn
 by_cases hlt : vn < l.length
 ·by_cases h2 : vn < 2000
  ·obtain ⟨b, o, rfl, hrd⟩ := hr.rds (by omega)
   obtain ⟨k, hk⟩ : ∃ k, l[vn]? = some k := ⟨l[vn], List.getElem?_eq_getElem hlt⟩
   have hrk : ∀ {d : HProp}, Rd (d :: L) b (o + vn) (.int .i64 k) := fun {d} => .there (hrd vn _ (by simp [intC, hk]))
   repeat (first | (apply wo_po; apply mo_index1; exact rfl; exact rfl; omega; exact trivial) | (apply wo_po; apply mo_load; exact rfl; exact hrk; exact trivial) | refine wlssT ?_ | refine we_seq ?_ | (refine wR ?_; try simp only [oS]) | refine wo_nil ?_ | refine wM ?_ | refine wK ?_ | refine wadd ?_ | refine wE ?_ | refine wT ?_ | refine we_skip ?_ | refine we_block ?_)
   refine wo_call (.cons rfl (.cons rfl .nil)) trivial (within_tr (hi k (List.mem_of_getElem? hk)) (by omega)) ?_
   rintro v1 L1 x1 ⟨rfl, rfl, rfl⟩
   repeat (first | (apply wo_mo; apply mo_buildSlice (sz := 1) (vs := [.int .i64 (k % ((m : Int) + 1))]); exact rfl; exact .cons rfl .nil; exact rfl; (intro v hv; cases (List.mem_singleton.1 hv); exact rfl); omega; exact trivial))
   rintro v' L' ⟨nb, rfl, rfl⟩
   repeat (first | (apply wo_mo; apply mo_append (sz := 1) (new := [.int .i64 (k % ((m : Int) + 1))]); exact rfl; exact rfl; exact rfl; exact rfl; exact (.there .here); exact rfl; exact .inr ⟨_, _, rfl, Rds.all .here⟩; (intro v hv; cases (List.mem_singleton.1 hv); exact rfl); (simp only [sliceLen]; omega); exact trivial))
   rintro v' L' rfl
   repeat (first | (refine wR ?_; try simp only [oS]) | refine wo_nil ?_ | refine wM ?_ | refine wA ?_ | refine wadd ?_)
   refine at_round (I := orderInv x1 (.slice (some ⟨b, o, none⟩) l.length c) m l L) (R := fun j => l.length - j.1 < l.length - vn) (vn + 1, v') (by show l.length - (vn + 1) < l.length - vn; omega) ⟨by omega, by omega⟩ ?_ ?_ rfl
   exact ⟨rfl, rfl, rfl, rfl, trivial⟩
   show Ent _ (vec 1 v' (intC ((l.take (vn + 1)).map fun k => k % ((m : Int) + 1))) :: _)
   rw [show intC ((l.take (vn + 1)).map fun k => k % ((m : Int) + 1)) = intC ((l.take vn).map fun k => k % ((m : Int) + 1)) ++ [.int .i64 (k % ((m : Int) + 1))] by rw [List.take_add_one, hk]; simp [intC]]
   exact (.take .here (.drop .refl))
  ·obtain rfl : vn = 2000 := by omega
   repeat (first | refine wlssT ?_ | refine wlssF ?_ | refine we_seq ?_ | (refine wR ?_; try simp only [oS]) | refine wo_nil ?_ | refine wM ?_ | refine wA ?_ | refine wK ?_ | refine wE ?_ | refine wF ?_ | refine we_ret ?_ | refine we_exit ?_)
   (first | refine or1 Try.func30 Try.results30 hQ rfl ?_ | refine on1 Try.func30 Try.results30 hQ rfl ?_)
   exact ⟨rfl, rfl⟩
 ·obtain rfl : vn = l.length := by omega
  repeat (first | refine wlssF ?_ | refine we_seq ?_ | (refine wR ?_; try simp only [oS]) | refine wo_nil ?_ | refine wM ?_ | refine wA ?_ | (apply wo_no; exact rfl) | refine wJ ?_ | refine wE ?_ | refine wF ?_ | refine we_ret ?_ | refine we_exit ?_)
  (first | refine or1 Try.func30 Try.results30 hQ rfl ?_ | refine on1 Try.func30 Try.results30 hQ rfl ?_)
  refine ⟨?_, rfl⟩
  unfold orderF
  rw [List.take_of_length_le (by omega), List.take_of_length_le (by omega)]
end
end
end Go.Proofs.Ythoefhocecdlhaa
namespace Go.Proofs.Ythoefhocecdlhaa
open Go Go.PB
attribute [local irreducible] Mo Bin Eql Tr Wo Ap Wle
section
theorem startF_keep {g : Game} : ∀ {ts : List (Thr g)} {s : g.σ}, (∀ t ∈ ts, ∀ s, (t.ini s).1 = s) → (startF ts s).1 = s
 | [], s, _ => rfl
 | t :: ts, s, h => by
  show (startF ts (t.ini s).1).1 = s
  rw [h t (by simp) s]
  exact startF_keep fun u hu => h u (by simp [hu])
section
variable {D : Wds} {U : (Nat → Nat) → HProp} {Pv : Nat × Mach.Th → HProp} {F : List HProp}
theorem rel_step {p : PS (mG D U Pv)} {k : Int} (h : ∃ st, Rel p st) : ∃ st, Rel (takeF p k).1 st := by
 obtain ⟨st, h⟩ := h
 by_cases h0 : k < 0
 ·have ht : takeF p k = (p, false) := by unfold takeF; rw [if_pos h0]
  rw [ht]; exact ⟨st, h⟩
 ·obtain ⟨n, rfl⟩ : ∃ n : Nat, k = n := ⟨k.toNat, by omega⟩
  obtain ⟨st', _, h2, _⟩ := take_rel h n
  exact ⟨st', h2⟩
theorem rel_start {ts : List (Thr (mG D U Pv))} {cc : List (List Mach.Cl)} {s0 : (mG D U Pv).σ} (hb : Begins D U Pv 0 ts cc) (h0 : D.ok s0) : ∃ st, Rel (D := D) (U := U) (Pv := Pv) ⟨(startF ts s0).1, (startF ts s0).2, []⟩ st := by
 obtain ⟨l, h1, h2, h3, h4, h5⟩ := begin_rel ts cc 0 s0 hb
 exact ⟨⟨D.W s0, l, []⟩, ⟨congrArg D.W h4.symm, (startF_len ts (show (mG D U Pv).σ from s0)).trans h2.symm, fun k => (h5 k).trans (by rw [Nat.zero_add]), rfl, Nat.zero_le _, h3, (show D.ok (startF ts (show (mG D U Pv).σ from s0)).1 from h4.symm ▸ h0)⟩⟩
theorem rel_cut {p : PS (mG D U Pv)} {st : Mach.St} (h : Rel p st) {n : Nat} (hn : n = st.l.length) : cutN (mG D U Pv) p.qs n = Mach.St.cut st := by
 subst hn
 unfold cutN Mach.St.cut
 apply List.filter_congr
 intro k _
 have hq := h.qs k
 cases hl : st.l[k]? with
 | none => rw [hl] at hq; rw [hq]; rfl
 | some t =>
  rw [hl] at hq
  rw [hq]
  show ((mPlan D (k, t)).isSome) = !t.over
  unfold mPlan
  cases ho : t.over <;> simp [ho]
theorem pv_list {qs : List (Nat × Mach.Th)} {l : List Mach.Th} (hq : ∀ k : Nat, qs[k]? = (l[k]?).map fun t => (k, t)) : qs.map Pv = l.mapIdx fun k t => Pv (k, t) := by
 apply List.ext_getElem?
 intro k
 rw [List.getElem?_map, List.getElem?_mapIdx, hq k]
 cases l[k]? <;> rfl
theorem mplays_tr {oa ta : Option Addr} {on oc tn tc : Nat} {order : List Int} {ts : List (Thr (mG D U Pv))} {cc : List (List Mach.Cl)} {s0 : (mG D U Pv).σ} (hb : Begins D U Pv 0 ts cc) (h0 : D.ok s0) (hini : ∀ t ∈ ts, ∀ s, (t.ini s).1 = s) (hts : ∀ t ∈ ts, ThrOk (mG D U Pv) t.ini t.fv t.M) (h1 : 0 < ts.length) (h16 : ts.length ≤ 16) (hor : order.length ≤ 16384)
  (hrt : RdsO F ta tn (ts.map Thr.fv)) (hro : RdsO F oa on (order.map fun k => .int .i64 k)) :
  Tr Try.prog mT 29 [.slice oa on oc, .slice ta tn tc] (U s0 :: all (ts.map Thr.M) :: F) .idle fun v L' x' =>
   ∃ tv cv st f', v = .tuple #[.agg #[tv, cv], .int .i64 0] ∧ x' = .idle ∧ Mach.play D.fu 16385 (D.W s0) (order.map fun k => if k < 0 then none else some k.toNat) cc = some st ∧ st.w = D.W f' ∧ st.tr.length ≤ 16384 ∧ st.l.length = cc.length ∧
    L' = vec 3 tv (trCP (st.tr.map fun e => (e.1, mkII e.2))) :: vec 1 cv (cutC (Mach.St.cut st)) :: U f' :: all (st.l.mapIdx fun k t => Pv (k, t)) :: F := by
 obtain ⟨st, hp, hr, hl⟩ := play_rel (o := order) hb h0
 refine Tr.mono (plays_tr (g := mG D U Pv) (order := order) (ts := ts) (s0 := s0) (fun p => ∃ st, Rel p st) (fun j hj => ?_) (rel_start hb h0) (fun p k h => rel_step h) (fun p ⟨st, h⟩ _ => h.ok) (fun _ _ z => z) hts h1 h16 hor hrt hro) ?_
 ·have e : (startF (ts.take j) s0).1 = s0 := startF_keep fun t ht => hini t (List.mem_of_mem_take ht)
  rw [e]; exact h0
 ·rintro v L' x' ⟨tv, cv, rfl, rfl, rfl⟩
  refine ⟨tv, cv, st, (playF ts s0 order).s, rfl, rfl, hp, hr.w, hr.le, hl, ?_⟩
  rw [hr.tr, rel_cut hr (by rw [hl, hb.len])]
  exact congrArg (fun z => vec 3 tv (trCP (st.tr.map fun e => (e.1, mkII e.2))) :: vec 1 cv (cutC (Mach.St.cut st)) :: U (playF ts s0 order).s :: all z :: F) (pv_list (Pv := Pv) hr.qs)
end
end
section
theorem row_cells {b : Nat} {v : Value} {L : List HProp} : ∀ (n o : Nat) {h : Hp}, Star (arr b o (List.replicate n v) :: L) h → Star (all ((List.range' o n).map fun i => arr b i [v]) :: L) h
 | 0, o, h, s => star_shut (M := []) (star_drop s)
 | n + 1, o, h, s => by
  rw [List.replicate_succ] at s
  have s1 : Star (arr b o [v] :: arr b (o + 1) (List.replicate n v) :: L) h := star_cut (us := [v]) s
  rw [List.range'_succ, List.map_cons]
  exact cons_all (star_map s1 (fun _ z => z) fun _ z => row_cells n (o + 1) z)
theorem got_nil {gb i : Nat} : ∀ h, arr gb i [.slice none 0 0] h → gotC gb i [] h := fun h z => by
 refine ⟨(.slice none 0 0, []), rfl, ?_⟩
 have s : Star (arr gb i [.slice none 0 0] :: []) h := star_one z
 have s1 : Star (vec 1 (.slice none 0 0) [] :: all [] :: arr gb i [.slice none 0 0] :: []) h := vec_nil (star_shut (M := []) s)
 exact Ent.star (.take (.there (.there .here)) (.take .here (.take .here .refl))) s1
theorem vec_row {b o n c : Nat} {cs : List Value} : ∀ h, vec 1 (.slice (some ⟨b, o, none⟩) n c) cs h → ∃ sp, arr b o (cs ++ sp) h := fun h z => by
 rcases z with ⟨e, _⟩ | ⟨b', o', n', c', sp, e, h1, h2, h3, h4⟩
 ·cases e
 ·cases e; exact ⟨sp, h4⟩
abbrev TH := Nat × (Option Addr × Nat × List CY)
def boxes (ts : List TH) : List HProp := ts.mapIdx fun i y => arr y.1 0 [.int .i64 (i : Nat)]
def thM (RoS : HProp) (gb i : Nat) (t : TH) : HProp := all [all [RoS, arr t.1 0 [.int .i64 (i : Nat)]], gotC gb i []]
theorem deal {RoS : HProp} (hd : Dup RoS) {gb : Nat} {ts : List TH} {L : List HProp} {h : Hp} (s : Star (RoS :: all (boxes ts) :: arr gb 0 (List.replicate ts.length (.slice none 0 0)) :: L) h) : Star (all (ts.mapIdx (thM RoS gb)) :: RoS :: L) h := by
 have s1 := dup_many hd s ts.length
 have s2 : Star (all (List.replicate ts.length RoS) :: all (boxes ts) :: arr gb 0 (List.replicate ts.length (.slice none 0 0)) :: RoS :: L) h := Ent.star (.take .here (.take (.there .here) (.take (.there .here) (.take .here .refl)))) s1
 have s3 := star_zip (by simp [boxes]) s2
 have s4 := row_cells ts.length 0 (star_swap s3)
 have s5 : Star (all ((List.range' 0 ts.length).map fun i => gotC gb i []) :: _) h := all_mono (by simp) (fun i a b ha hb => by
  rw [List.getElem?_map, Option.map_eq_some_iff] at ha hb
  obtain ⟨k, hk, rfl⟩ := ha
  obtain ⟨k', hk', rfl⟩ := hb
  rw [hk] at hk'
  cases hk'
  exact got_nil) s4
 have s6 := star_zip (by simp [boxes]) (star_swap s5)
 have e : List.zipWith (fun a b => all [a, b]) (List.zipWith (fun a b => all [a, b]) (List.replicate ts.length RoS) (boxes ts)) ((List.range' 0 ts.length).map fun i => gotC gb i []) = ts.mapIdx (thM RoS gb) := by
  apply List.ext_getElem?
  intro i
  by_cases hi : i < ts.length
  ·simp [boxes, thM, hi, List.getElem?_zipWith, List.getElem?_range']
  ·have h1 : (ts.mapIdx (thM RoS gb))[i]? = none := List.getElem?_eq_none_iff.2 (by simp; omega)
   rw [h1]
   apply List.getElem?_eq_none_iff.2
   simp [boxes]; omega
 rw [e] at s6
 exact s6
def t0Of (t : TH) : Mach.Th := (Mach.onF (fl (t.2.2.2.map (·.2.2)) 0) (Mach.Bt (t.2.2.2.map (·.2.2)) 0 [])).getD (Mach.Bt [] 0 [])
abbrev rpF (p8 rb gt : Nat) (y : TH) : Value := .func (.func 32) #[] #[.pointer (some ⟨p8, 0, none⟩), .pointer (some ⟨y.1, 0, none⟩), .pointer (some ⟨gt, 0, none⟩), .pointer (some ⟨rb, 0, none⟩)]
def thrsOf (num den burst r p8 rb gt gb : Nat) (RoS : HProp) (ts : List TH) : List (Thr (meterG num den burst r gb)) := ts.mapIdx fun i t => ⟨rpF p8 rb gt t, fun s => (s, ((i, t0Of t) : Nat × Mach.Th)), thM RoS gb i t⟩
def ccOf (ts : List TH) : List (List Mach.Cl) := ts.map fun t => t.2.2.2.map (·.2.2)
theorem thrs_begin {num den burst r p8 rb gt gb : Nat} {RoS : HProp} {ts : List TH} (B : BOk num den burst) (hc : ∀ t ∈ ts, t.2.2.2.length ≤ 12 ∧ MeterCalls num den burst (t.2.2.2.map (·.2.2))) : Begins mD (fun f => all [wds (mAddr r) 1 (mK r num den burst) f, all []]) (rgPv gb) 0 (thrsOf num den burst r p8 rb gt gb RoS ts) (ccOf ts) where
 len := by simp [thrsOf, ccOf]
 ini := fun k t c ht hcc => by
  simp only [ccOf, List.getElem?_map, Option.map_eq_some_iff] at hcc
  obtain ⟨y, hy, rfl⟩ := hcc
  simp only [thrsOf, List.getElem?_mapIdx, hy, Option.map_some, Option.some.injEq] at ht
  subst ht
  obtain ⟨t', h1, h2, h3⟩ := meter_begin B (by simpa using (hc y (List.mem_of_getElem? hy)).1) (hc y (List.mem_of_getElem? hy)).2
  refine ⟨t', h2, h3, fun s => ?_⟩
  show (s, ((k, t0Of y) : Nat × Mach.Th)) = _
  unfold t0Of
  rw [h1, Nat.zero_add]; rfl
abbrev roS (qb qo qc p8 rb gt gb r : Nat) (rs : List RW) (sp : List Value) (L : List HProp) : HProp := all [fro qb qo (rs.map rv ++ sp), fro p8 0 [.slice (some ⟨qb, qo, none⟩) rs.length qc], fro rb 0 [.pointer (some ⟨r, 0, none⟩)], fro gt 0 [.slice (some ⟨gb, 0, none⟩) rs.length rs.length], all L]
theorem thrs_ok {num den burst r p8 rb gt gb qb qo qc : Nat} {rs : List RW} {sp : List Value} {L : List HProp} {ts : List TH} (B : BOk num den burst) (hrow : ∀ (i : Nat) y, rs[i]? = some y → DoAt L y.1 y.2.2 ∧ y.2.2.length ≤ 12) (hts : ts.length = rs.length)
  (hg : ∀ (i : Nat) t y, ts[i]? = some t → rs[i]? = some y → t.2.2.2.map (·.2.2) = callsOf num den burst y.2.2) : ∀ t ∈ thrsOf num den burst r p8 rb gt gb (roS qb qo qc p8 rb gt gb r rs sp L) ts, ThrOk (meterG num den burst r gb) t.ini t.fv t.M := by
 intro t ht
 obtain ⟨i, hi⟩ := List.mem_iff_getElem?.1 ht
 simp only [thrsOf, List.getElem?_mapIdx, Option.map_eq_some_iff] at hi
 obtain ⟨y, hy, rfl⟩ := hi
 have hil := (List.getElem?_eq_some_iff.1 hy).1
 obtain ⟨z, hz⟩ : ∃ z, rs[i]? = some z := ⟨rs[i]'(by omega), List.getElem?_eq_getElem (by omega)⟩
 obtain ⟨hdo, h16⟩ := hrow i z hz
 have hcl := hg i y z hy hz
 obtain ⟨t', h1, _, _⟩ := meter_begin B (by simpa [callsOf] using h16) (callsOf_meter (l := z.2.2))
 have ht0 : t0Of y = t' := by unfold t0Of; rw [hcl, h1]; rfl
 have lift : ∀ {b o v}, Rd [fro qb qo (rs.map rv ++ sp), fro p8 0 [.slice (some ⟨qb, qo, none⟩) rs.length qc], fro rb 0 [.pointer (some ⟨r, 0, none⟩)], fro gt 0 [.slice (some ⟨gb, 0, none⟩) rs.length rs.length], all L] b o v → Rd [all [roS qb qo qc p8 rb gt gb r rs sp L, arr y.1 0 [.int .i64 (i : Nat)]]] b o v := fun h => rd_all (rd_all h)
 have O : ThRo (all [roS qb qo qc p8 rb gt gb r rs sp L, arr y.1 0 [.int .i64 (i : Nat)]]) p8 y.1 rb gt qb qo rs.length qc gb rs.length i r z.1 z.2.1 z.2.2 :=
  {
   h1 := lift (.there (Rd.fro (k := 0) rfl rfl))
   h2 := lift (Rd.fro (k := i) (by rw [List.getElem?_append_left (by rw [List.length_map]; omega), List.getElem?_map, hz]; rfl) rfl)
   h3 := fun q w hw => by
    obtain ⟨b', o', e, r1, r2, r3⟩ := hdo.at_ q w hw
    refine ⟨b', o', e, fun m v hm => ?_⟩
    match m, hm with
    | 0, hm => cases hm; exact lift (.there (.there (.there (.there (rd_all r1)))))
    | 1, hm => cases hm; exact lift (.there (.there (.there (.there (rd_all r2)))))
    | 2, hm => cases hm; exact lift (.there (.there (.there (.there (rd_all r3)))))
   h4 := rd_all (.there (.row0 rfl))
   h5 := lift (.there (.there (Rd.fro (k := 0) rfl rfl)))
   h6 := lift (.there (.there (.there (Rd.fro (k := 0) rfl rfl))))
   hk := by omega
   hl := h16
   ok := hdo.rng }
 show ThrOk (meterG num den burst r gb) (fun s => (s, ((i, t0Of y) : Nat × Mach.Th))) (rpF p8 rb gt y) (thM _ gb i y)
 rw [ht0]
 exact thr_ok B O h1
theorem thrs_M {num den burst r p8 rb gt gb : Nat} {RoS : HProp} {ts : List TH} : (thrsOf num den burst r p8 rb gt gb RoS ts).map Thr.M = ts.mapIdx (thM RoS gb) := by
 apply List.ext_getElem?
 intro k
 simp only [thrsOf, List.getElem?_map, List.getElem?_mapIdx]
 cases ts[k]? <;> rfl
theorem thrs_fv {num den burst r p8 rb gt gb : Nat} {RoS : HProp} {ts : List TH} : (thrsOf num den burst r p8 rb gt gb RoS ts).map Thr.fv = ts.map (rpF p8 rb gt) := by
 apply List.ext_getElem?
 intro k
 simp only [thrsOf, List.getElem?_map, List.getElem?_mapIdx]
 cases ts[k]? <;> rfl
theorem thrs_ini {num den burst r p8 rb gt gb : Nat} {RoS : HProp} {ts : List TH} : ∀ t ∈ thrsOf num den burst r p8 rb gt gb RoS ts, ∀ s, (t.ini s).1 = s := fun t ht s => by
 obtain ⟨i, hi⟩ := List.mem_iff_getElem?.1 ht
 simp only [thrsOf, List.getElem?_mapIdx, Option.map_eq_some_iff] at hi
 obtain ⟨y, hy, rfl⟩ := hi
 rfl
end
section
section
variable {B : Hand} [Lets B] {x : B.X} {L F : List HProp}
theorem ok1103 : BOk 1 10 3 := ⟨by decide, by decide, by decide, by decide, by decide, by decide⟩
theorem works_tr : Tr Try.prog B 14 [] L x fun v L' x' => v = .bool true ∧ L' = L ∧ x' = x := by
 refine Tr.post (R := fun v L' x' => v = .bool true ∧ x' = x ∧ ∀ h, Star L' h → Star L h) ?_ (by rintro v L' x' ⟨h0, rfl, hs⟩; exact ⟨L, ⟨h0, rfl, rfl⟩, hs⟩)
 refine tr_of_body Try.func14 rfl Try.ntmps14 (by simp) fun um Q _ hQ => ?_
 simp only [argE, Nat.zero_add, Nat.reduceAdd]
 repeat (first | (apply wo_po; apply mo_build (pv := [(0, _), (1, _), (2, _)]); exact rfl; exact .cons rfl (.cons rfl (.cons rfl .nil)); exact rfl; exact trivial) | refine we_seq ?_ | (refine wR ?_; try simp only [oS]) | refine wo_nil ?_ | refine wA ?_)
 refine wo_call (.cons rfl .nil) trivial (mnew_tr (num := 1) (den := 10) (burst := 3) ok1103) ?_
 rintro v' L' x' ⟨r, rfl, rfl, rfl⟩
 refine wo_star (mC r 1 10 3 (fun _ => 0) :: L) (fun h st => m_wds st) ?_
 repeat (first | refine wneqF ?_ | refine we_seq ?_ | (refine wR ?_; try simp only [oS]) | refine wo_nil ?_ | refine wM ?_ | refine wA ?_ | (apply wo_po; apply mo_extract; exact rfl; exact rfl; exact gY) | refine wF ?_ | refine we_skip ?_)
 refine wo_call (.cons rfl (.cons rfl (.cons rfl (.cons rfl .nil)))) trivial (mtake_lone (num := 1) (den := 10) (burst := 3) (now := 0) (n := 2) ok1103 (by omega) (by omega) (u := 0) (k := some 20) rfl (by decide) .here) ?_
 rintro v' L' x' ⟨s1, rfl, hs1, rfl, rfl⟩
 replace hs1 : s1 0 = 20 := hs1
 repeat (first | refine we_seq ?_ | (refine wR ?_; try simp only [oS]) | refine wo_nil ?_ | refine wM ?_ | refine wA ?_ | (apply wo_po; apply mo_extract; exact rfl; exact rfl; exact gY))
 refine wo_call (.cons rfl (.cons rfl (.cons rfl (.cons rfl .nil)))) trivial (mtake_lone (num := 1) (den := 10) (burst := 3) (now := 0) (n := 2) ok1103 (by omega) (by omega) (u := 20) (k := none) hs1 (by decide) .here) ?_
 rintro v' L' x' ⟨s2, rfl, hs2, rfl, rfl⟩
 replace hs2 : s2 0 = 20 := hs2
 repeat (first | refine we_seq ?_ | (refine wR ?_; try simp only [oS]) | refine wo_nil ?_ | refine wM ?_ | refine wA ?_ | (apply wo_po; apply mo_extract; exact rfl; exact rfl; exact gY))
 refine wo_call (.cons rfl (.cons rfl (.cons rfl (.cons rfl .nil)))) trivial (mtake_lone (num := 1) (den := 10) (burst := 3) (now := 0) (n := 1) ok1103 (by omega) (by omega) (u := 20) (k := some 30) hs2 (by decide) .here) ?_
 rintro v' L' x' ⟨s3, rfl, hs3, rfl, rfl⟩
 replace hs3 : s3 0 = 30 := hs3
 repeat (first | refine weqlT ?_ | refine we_seq ?_ | (refine wR ?_; try simp only [oS]) | refine wo_nil ?_ | refine wM ?_ | refine wA ?_ | refine wK ?_ | (apply wo_po; apply mo_extract; exact rfl; exact rfl; exact gY) | (apply wo_po; apply mo_not; exact rfl; exact gY) | refine we_ret ?_)
 (first | refine or1 Try.func14 Try.results14 hQ rfl ?_ | refine on1 Try.func14 Try.results14 hQ rfl ?_)
 exact ⟨rfl, rfl, fun h st => star_drop st⟩
end
end
section
section
variable {B : Hand} [Lets B] {L F G : List HProp} {x : B.X} {r nb num den burst now n : Nat}
theorem mbucket_tr (hr : Rds L r 0 [.int .u64 (num : Nat), .int .u64 (den : Nat), .int .u64 (burst : Nat)]) : Tr Try.prog B 12 [.pointer (some ⟨r, 0, none⟩)] L x fun v L' x' => v = .agg #[.int .u64 (num : Nat), .int .u64 (den : Nat), .int .u64 (burst : Nat)] ∧ L' = L ∧ x' = x := by
 refine Tr.post (R := fun v L' x' => v = .agg #[.int .u64 (num : Nat), .int .u64 (den : Nat), .int .u64 (burst : Nat)] ∧ x' = x ∧ ∀ h, Star L' h → Star L h) ?_ (by rintro v L' x' ⟨h0, rfl, hs⟩; exact ⟨L, ⟨h0, rfl, rfl⟩, hs⟩)
 have hr' : ∀ {c : HProp}, Rds (c :: L) r 0 [.int .u64 (num : Nat), .int .u64 (den : Nat), .int .u64 (burst : Nat)] := fun i v hv => Rd.there (hr i v hv)
 refine tr_of_body Try.func12 rfl Try.ntmps12 (by simp) fun um Q _ hQ => ?_
 simp only [argE, Nat.zero_add, Nat.reduceAdd]
 repeat (first | (apply wo_mo; apply mo_alloc; exact trivial) | refine we_seq ?_ | (refine wR ?_; try simp only [oS]))
 rintro v' L' ⟨cb, rfl, rfl⟩
 repeat (first | (apply wo_po; apply mo_loadA (vs := [.int .u64 (num : Nat), .int .u64 (den : Nat), .int .u64 (burst : Nat)]); exact rfl; exact rfl; exact hr'; exact trivial) | (apply wo_pm; apply mo_storeA (b := cb) (c := 0) (k := 0) (a := 0) (vs := [.int .u64 0, .int .u64 0, .int .u64 0]); exact rfl; exact rfl; exact rfl; (intro w hw; simp [Value.cells] at hw; rcases hw with rfl | rfl | rfl <;> rfl); exact rfl; exact Nat.le_refl 3; exact .here; exact trivial) | refine we_seq ?_ | (refine wR ?_; try simp only [oS]) | refine wo_nil ?_ | refine wM ?_ | refine wN ?_ | refine wD ?_ | (apply wo_po; apply mo_bin; exact rfl; exact rfl; apply bin_eq; apply eql_ptr_nil; exact gY) | refine wF ?_ | refine we_ret ?_ | refine we_skip ?_)
 refine at_leaveM (rs := [.cell 2 25]) Try.func12 Try.results12 hQ (.inl rfl) (.cons (.cell (vs := [.int .u64 (num : Nat), .int .u64 (den : Nat), .int .u64 (burst : Nat)]) rfl rfl (Rds.all .here)) .nil) ?_
 exact ⟨rfl, rfl, fun h st => star_drop st⟩
theorem call_ok (O : BOk num den burst) {kd : Nat} : (callCl num den burst kd now n).ok = true := by
 have hb : burst * den ≤ 1048576 * 65536 := Nat.mul_le_mul O.b2 O.d2
 have hd := O.d2
 unfold callCl
 by_cases ht : now ≤ 1099511627776
 ·have hm : now * num ≤ 1099511627776 * 65536 := Nat.mul_le_mul ht O.n2
  have h1 : needN den burst n ≤ 68719476736 := by
   unfold needN
   split
   ·rename_i c
    have : n * den ≤ burst * den := Nat.mul_le_mul_right _ c
    omega
   ·omega
  have h2 : topN num den burst now n ≤ 72057662757404672 := by
   unfold topN
   split <;> omega
  generalize now * num = ck at *
  generalize burst * den = bd at *
  generalize needN den burst n = need at *
  generalize topN num den burst now n = top at *
  split
  ·simp [Mach.Cl.ok, Mach.mtakeCl, Mach.mtakeCode, Mach.In.ok]; omega
  split
  ·simp [Mach.Cl.ok, Mach.mlevelCl, Mach.In.ok]; omega
  ·decide
 ·split
  ·decide
  split
  ·decide
  ·decide
end
end
end Go.Proofs.Ythoefhocecdlhaa
