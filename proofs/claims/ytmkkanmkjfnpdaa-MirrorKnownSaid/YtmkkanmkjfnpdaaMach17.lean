/-
  patchbayref00's Play and Alone.
-/
import Derived.Test.YtmkkanmkjfnpdaaMach16
set_option linter.unusedVariables false
set_option linter.unusedSimpArgs false
namespace Go.Proofs.Ytmkkanmkjfnpdaa
open Go Go.PB
attribute [local irreducible] Mo Bin Eql Tr Wo Ap

variable {B : Hand} [Lets B] {L F G : List HProp} {x : B.X}

set_option maxHeartbeats 8000000 in
theorem play_tr {wv lv tv : Value} {w : Mach.Wd} {st : Mach.St} {oa : Option Addr} {oc : Nat} {o : List Int} {cc : Calls} {f g : Nat}
    (hp : Mach.play f g w (o.map fun k => if k < 0 then none else some k.toNat) (cc.map (·.2)) = some st) (hf : 16384 * (f + 1) + f < 1000000000) (hcc : CallsOk F cc) (ho : o.length < 1000000) (hoi : ∀ k ∈ o, -9223372036854775808 ≤ k ∧ k ≤ 9223372036854775807)
    (hor : ∀ i k, o[i]? = some k → ∃ b p, oa = some ⟨b, p, none⟩ ∧ Rd F b (p + i) (.int .i64 k)) (hh : Has L (wvC wv lv w) G) (ht : Has G (vec 1 tv (cc.map cvK)) F) :
    Tr Try.prog B 31 [.agg #[wv, lv], .slice oa o.length oc, tv] L x (playR x (vec 1 tv (cc.map cvK) :: wvC wv lv w :: F) st) := by
  refine tr_star (wvC wv lv w :: vec 1 tv (cc.map cvK) :: F) (fun h s => star_map (hh.star s) (fun _ z => z) (fun _ z => ht.star z)) ?_
  clear hh ht
  refine tr_pure (of_has (.there .here) (vec_shape (by omega))) ?_
  rintro ⟨ta, tn, tc, rfl, htn, _, hta, hta2⟩
  have htnn : tn = cc.length := by simpa using htn.symm
  subst htnn
  -- the plain play, step by step
  unfold Mach.play at hp
  cases hb : Mach.begin_ f ((cc.map (·.2)).map fun c => { calls := c }) with
  | none => rw [hb] at hp; cases hp
  | some l0 =>
  rw [hb, Option.bind_some] at hp
  cases hby : Mach.byOrder f ⟨w, l0, []⟩ (o.map fun k => if k < 0 then none else some k.toNat) with
  | none => rw [hby] at hp; cases hp
  | some s1 =>
  rw [hby, Option.bind_some] at hp
  refine tr_of_body Try.func31 rfl Try.ntmps31 (by simp) fun um Q hQ => ?_
  simp only [argE, Nat.zero_add, Nat.reduceAdd]
  repeat (first
    | (apply wo_mo; apply mo_box; exact rfl; exact trivial)
    | refine we_seq ?_
    | (refine we_region _ rfl rfl ?_; simp only [opsOf, List.map_cons, List.map_nil, Option.map_none, Option.map_some, List.getElem?_toArray, List.getElem?_cons_zero, List.getElem?_cons_succ, Option.bind_some, Option.getD_some]))
  rintro v' L' ⟨b3, rfl, rfl⟩
  repeat (first
    | (apply wo_mo; apply mo_alloc; exact trivial))
  rintro v' L' ⟨b6, rfl, rfl⟩
  repeat (first
    | (apply wo_mo; apply mo_alloc; exact trivial)
    | (apply wo_po; apply mo_assign; exact rfl; (first | exact trivial | exact rfl)))
  rintro v' L' ⟨b8, rfl, rfl⟩
  refine wo_pure (of_has (.there (.there (.there .here))) wv_shape) ?_
  rintro ⟨⟨wa, wn, wc, rfl⟩, la, ln, lc, rfl⟩
  have hb3 : Rds (arr b8 0 [.slice none 0 0, .slice none 0 0] :: arr b6 0 [.slice none 0 0, .slice none 0 0] :: arr b3 0 [.slice wa wn wc, .slice la ln lc] :: wvC (.slice wa wn wc) (.slice la ln lc) w :: vec 1 (.slice ta cc.length tc) (cc.map cvK) :: F) b3 0 [.slice wa wn wc, .slice la ln lc] := Rds.all (.there (.there .here))
  repeat (first
    | (apply wo_po; apply mo_loadA (vs := [.slice wa wn wc, .slice la ln lc]); exact rfl; exact rfl; exact hb3; exact trivial)
    | refine we_seq ?_
    | (refine we_region _ rfl rfl ?_; simp only [opsOf, List.map_cons, List.map_nil, Option.map_none, Option.map_some, List.getElem?_toArray, List.getElem?_cons_zero, List.getElem?_cons_succ, Option.bind_some, Option.getD_some])
    | refine wo_nil ?_)
  refine wo_call (.cons rfl .nil) trivial (copy_tr (.there (.there (.there .here)))) ?_
  rintro v L' x' ⟨wv', lv', rfl, rfl, rfl⟩
  refine wo_pure (of_has .here wv_shape) ?_
  rintro ⟨⟨wa', wn', wc', rfl⟩, la', ln', lc', rfl⟩
  repeat (first
    | (apply wo_mo; apply mo_alloc; exact trivial))
  rintro v' L' ⟨wb, rfl, rfl⟩
  repeat (first
    | (apply wo_pm; apply mo_storeA (c := 0) (k := 0) (a := 0) (vs := [.slice none 0 0, .slice none 0 0]); exact rfl; exact rfl; exact rfl; (intro w hw; simp [Value.cells] at hw; rcases hw with rfl | rfl <;> rfl); exact rfl; exact Nat.le_refl 2; exact .here; exact trivial)
    | refine we_seq ?_
    | (refine we_region _ rfl rfl ?_; simp only [opsOf, List.map_cons, List.map_nil, Option.map_none, Option.map_some, List.getElem?_toArray, List.getElem?_cons_zero, List.getElem?_cons_succ, Option.bind_some, Option.getD_some])
    | refine wo_nil ?_
    | (apply wo_po; apply mo_assign; exact rfl; (first | exact trivial | exact rfl)))
  obtain ⟨R0, hR0⟩ : ∃ R0, R0 = wvC (.slice wa wn wc) (.slice la ln lc) w :: F := ⟨_, rfl⟩
  have hccR : ∀ {d : HProp}, CallsOk R0 cc := fun {d} => by rw [hR0]; exact hcc.there
  refine we_block ?_
  refine we_star ((playInv1 b3 b6 b8 wb (.slice oa o.length oc) (.slice ta cc.length tc) cc x' (wdC wb w :: arr b6 0 [.slice none 0 0, .slice none 0 0] :: arr b8 0 [.slice none 0 0, .slice none 0 0] :: R0)).L (0, .slice none 0 0, [])) (fun h st => ?_) ?_
  · have s1 : Star (arr wb 0 [.slice wa' wn' wc', .slice la' ln' lc'] :: wvC (.slice wa' wn' wc') (.slice la' ln' lc') w :: vec 1 (.slice ta cc.length tc) (cc.map cvK) :: arr b6 0 [.slice none 0 0, .slice none 0 0] :: arr b8 0 [.slice none 0 0, .slice none 0 0] :: R0) h := by
      rw [hR0]
      refine Ent.star ?_ st
      repeat (first | exact Ent.refl | (apply Ent.take; (repeat (first | exact Has.here | apply Has.there))) | apply Ent.drop)
    have s2 := wd_of_wv s1
    dsimp only [playInv1]
    exact vec_nil (star_shut (M := []) (star_swap s2))
  refine we_loopN (playInv1 b3 b6 b8 wb (.slice oa o.length oc) (.slice ta cc.length tc) cc x' (wdC wb w :: arr b6 0 [.slice none 0 0, .slice none 0 0] :: arr b8 0 [.slice none 0 0, .slice none 0 0] :: R0)) (fun i => cc.length - i.1) (0, .slice none 0 0, []) ⟨by simp, by simp, by simp⟩ ⟨rfl, rfl, rfl, rfl, rfl, rfl, rfl, trivial⟩ .refl rfl ?_
  rintro ⟨i, av, q⟩ ⟨hi, hq1, hq2⟩
  dsimp only [playInv1] at hi hq1 hq2 ⊢
  have hccn := hcc.n
  by_cases hc : i < cc.length
  · obtain ⟨⟨cw, cs⟩, hcs⟩ : ∃ z, cc[i]? = some z := ⟨cc[i], by simp [hc]⟩
    obtain ⟨⟨tb0, to0, sp⟩, rfl⟩ : ∃ z, ta = some z := by
      cases ta with
      | none => have : cc.length = 0 := hta rfl; omega
      | some z => exact ⟨z, rfl⟩
    cases hta2 _ rfl
    refine we_pure (of_has .here (vec_shape (by omega))) ?_
    rintro ⟨qa, qn, qc, rfl, hqn, _⟩
    have hqnn : qn = q.length := by simpa using hqn.symm
    subst hqnn
    have hql : q.length = i := by have := congrArg List.length hq1; simpa [Nat.min_eq_left hi] using this
    have hcv : Rd (vec 1 (.slice qa q.length qc) (q.map ptrK) :: all (q.map thK) :: vec 1 (.slice (some ⟨tb0, to0, none⟩) cc.length tc) (cc.map cvK) :: wdC wb w :: arr b6 0 [.slice none 0 0, .slice none 0 0] :: arr b8 0 [.slice none 0 0, .slice none 0 0] :: R0) tb0 (to0 + i) (cvK (cw, cs)) := rd_vec (.there (.there .here)) (by rw [List.getElem?_map, hcs]; rfl)
    repeat (first
      | (apply wo_po; apply mo_index1; exact rfl; exact rfl; exact hc; exact trivial)
      | (apply wo_po; apply mo_load; exact rfl; exact hcv; exact trivial)
      | (apply wo_po; apply mo_build (pv := [(0, _)]); exact rfl; exact .cons rfl .nil; exact rfl; exact trivial)
      | (apply wo_mo; apply mo_box; exact rfl; exact trivial)
      | (apply wo_po; apply mo_bin; exact rfl; exact rfl; apply bin_lssT; omega; (first | exact trivial | exact rfl))
      | refine we_seq ?_
      | (refine we_region _ rfl rfl ?_; simp only [opsOf, List.map_cons, List.map_nil, Option.map_none, Option.map_some, List.getElem?_toArray, List.getElem?_cons_zero, List.getElem?_cons_succ, Option.bind_some, Option.getD_some])
      | refine wo_nil ?_
      | (apply wo_po; apply mo_move; exact rfl; (first | exact trivial | exact rfl))
      | (apply wo_po; apply mo_len; exact rfl; (first | exact trivial | exact rfl))
      | (apply we_condT; exact rfl; (first | exact rfl | (simp <;> omega) | omega))
      | refine we_skip ?_
      | refine we_block ?_)
    rintro v' L' ⟨tb, rfl, rfl⟩
    refine wo_star (thK (⟨tb, cw, cs⟩, { calls := cs }) :: vec 1 (.slice qa q.length qc) (q.map ptrK) :: all (q.map thK) :: vec 1 (.slice (some ⟨tb0, to0, none⟩) cc.length tc) (cc.map cvK) :: wdC wb w :: arr b6 0 [.slice none 0 0, .slice none 0 0] :: arr b8 0 [.slice none 0 0, .slice none 0 0] :: R0) (fun h st => new_th st) ?_
    repeat (first
      | (apply wo_mo; apply mo_buildSlice (sz := 1) (vs := [.pointer (some ⟨tb, 0, none⟩)]); exact rfl; exact .cons rfl .nil; exact rfl; (intro v hv; cases (List.mem_singleton.1 hv); exact rfl); omega; exact trivial))
    rintro v' L' ⟨sb, rfl, rfl⟩
    repeat (first
      | (apply wo_mo; apply mo_append (sz := 1) (new := [.pointer (some ⟨tb, 0, none⟩)]); exact rfl; exact rfl; exact rfl; exact rfl; exact (.there (.there .here)); exact rfl; exact .inr ⟨_, _, rfl, Rds.all .here⟩; (intro v hv; cases (List.mem_singleton.1 hv); exact rfl); (simp only [sliceLen]; omega); exact trivial))
    rintro v' L' rfl
    repeat (first
      | (refine we_region _ rfl rfl ?_; simp only [opsOf, List.map_cons, List.map_nil, Option.map_none, Option.map_some, List.getElem?_toArray, List.getElem?_cons_zero, List.getElem?_cons_succ, Option.bind_some, Option.getD_some])
      | refine wo_nil ?_
      | (apply wo_po; apply mo_move; exact rfl; (first | exact trivial | exact rfl))
      | (apply wo_po; apply mo_assign; exact rfl; (first | exact trivial | exact rfl))
      | (apply wo_po; apply mo_bin; exact rfl; exact rfl; apply bin_add; exact wrap_i64 (by omega) (by omega); (first | exact trivial | exact rfl)))
    refine at_roundS (I := playInv1 b3 b6 b8 wb (.slice oa o.length oc) (.slice (some ⟨tb0, to0, none⟩) cc.length tc) cc x' (wdC wb w :: arr b6 0 [.slice none 0 0, .slice none 0 0] :: arr b8 0 [.slice none 0 0, .slice none 0 0] :: R0)) (R := fun i' => cc.length - i'.1 < cc.length - i) (i + 1, v', q ++ [(⟨tb, cw, cs⟩, { calls := cs })]) (by simp only; omega) ⟨by simp only; omega, ?_, ?_⟩ ⟨rfl, rfl, rfl, rfl, rfl, rfl, rfl, trivial⟩ (fun h st => ?_) rfl
    · simp only [List.map_append, List.map_cons, List.map_nil, hq1]
      rw [List.take_add_one, hcs]; rfl
    · simp only [List.map_append, List.map_cons, List.map_nil, hq2]
      rw [List.take_add_one, hcs, List.map_append]; rfl
    · dsimp only [playInv1]
      rw [List.map_append, List.map_append]
      have s1 : Star (vec 1 v' (q.map ptrK ++ [.pointer (some ⟨tb, 0, none⟩)]) :: thK (⟨tb, cw, cs⟩, { calls := cs }) :: all (q.map thK) :: vec 1 (.slice (some ⟨tb0, to0, none⟩) cc.length tc) (cc.map cvK) :: wdC wb w :: arr b6 0 [.slice none 0 0, .slice none 0 0] :: arr b8 0 [.slice none 0 0, .slice none 0 0] :: R0) h := by
        refine Ent.star ?_ st
        repeat (first | exact Ent.refl | (apply Ent.take; (repeat (first | exact Has.here | apply Has.there))) | apply Ent.drop)
      exact star_map s1 (fun _ z => z) (fun _ z => star_push z)
  · have hi' : i = cc.length := by omega
    subst hi'
    rw [List.take_length] at hq1 hq2
    repeat (first
      | (apply wo_po; apply mo_bin; exact rfl; exact rfl; apply bin_lssF; omega; (first | exact trivial | exact rfl))
      | refine we_seq ?_
      | (refine we_region _ rfl rfl ?_; simp only [opsOf, List.map_cons, List.map_nil, Option.map_none, Option.map_some, List.getElem?_toArray, List.getElem?_cons_zero, List.getElem?_cons_succ, Option.bind_some, Option.getD_some])
      | refine wo_nil ?_
      | (apply wo_po; apply mo_move; exact rfl; (first | exact trivial | exact rfl))
      | (apply wo_po; apply mo_assign; exact rfl; (first | exact trivial | exact rfl))
      | (apply wo_po; apply mo_len; exact rfl; (first | exact trivial | exact rfl))
      | (apply we_condF; exact rfl; (first | exact rfl | (simp <;> omega) | omega))
      | refine we_exit ?_)
    obtain ⟨pts, hpts⟩ : ∃ pts, pts = q.map (·.1) := ⟨_, rfl⟩
    have hpc : pts.map (fun p => (p.cw, p.cs)) = cc := by rw [hpts, List.map_map, ← hq1]; rfl
    have hpn : pts.length = cc.length := by rw [← hpc, List.length_map]
    obtain ⟨hbl, hbg⟩ := begin_get hb
    rw [List.map_map] at hb hbl hbg
    have hql : q.length = cc.length := by rw [← hpn, hpts, List.length_map]
    have hl0n : l0.length = cc.length := by rw [hbl]; simp
    refine we_pure (of_has .here (vec_shape (by omega))) ?_
    rintro ⟨qa, qn, qc, rfl, hqn, _, hqa, hqa2⟩
    have hqnn : qn = cc.length := by rw [← hql]; simpa using hqn.symm
    subst hqnn
    obtain ⟨R1, hR1⟩ : ∃ R1, R1 = vec 1 (.slice ta cc.length tc) (cc.map cvK) :: wdC wb w :: arr b6 0 [.slice none 0 0, .slice none 0 0] :: arr b8 0 [.slice none 0 0, .slice none 0 0] :: R0 := ⟨_, rfl⟩
    have hccR1 : CallsOk R1 cc := by rw [hR1, hR0]; exact hcc.there.there.there.there.there
    rw [← hR1]
    refine we_block ?_
    refine we_loopN (playInv2 b6 b8 wb (.slice oa o.length oc) (.slice ta cc.length tc) (.slice qa cc.length qc) pts (cc.map fun y => { calls := y.2 }) l0 x' R1) (fun i => pts.length - i.1) (0, q) ⟨Nat.zero_le _, hpts.symm, by simpa using hq2⟩ ⟨rfl, rfl, rfl, rfl, rfl, rfl, rfl, trivial⟩ .refl rfl ?_
    clear hq1 hq2 hpts hql
    rintro ⟨i, q⟩ ⟨hi, hq1, hq2⟩
    dsimp only [playInv2] at hi hq1 hq2 ⊢
    have hql : q.length = pts.length := by rw [← hq1, List.length_map]
    by_cases hc2 : i < pts.length
    · obtain ⟨⟨pt, t⟩, hqi⟩ : ∃ z, q[i]? = some z := ⟨q[i], by simp⟩
      obtain ⟨⟨qb, qo, sp⟩, rfl⟩ : ∃ z, qa = some z := by
        cases qa with
        | none => have : cc.length = 0 := hqa rfl; omega
        | some z => exact ⟨z, rfl⟩
      cases hqa2 _ rfl
      have hpti : pts[i]? = some pt := by rw [← hq1, List.getElem?_map, hqi]; rfl
      have hcci : cc[i]? = some (pt.cw, pt.cs) := by rw [← hpc, List.getElem?_map, hpti]; rfl
      have hccm := List.mem_of_getElem? hcci
      have hti : t = { calls := pt.cs } := by
        have h1 := congrArg (fun l => l[i]?) hq2
        simp only [List.getElem?_map, hqi] at h1
        rw [List.getElem?_append_right (by simp; omega)] at h1
        have h2 : i - (l0.take i).length = 0 := by simp; omega
        rw [h2, List.getElem?_drop, Nat.add_zero, List.getElem?_map, hcci] at h1
        exact Option.some.inj h1
      subst hti
      obtain ⟨t', ht', hl0⟩ := hbg i { calls := pt.cs } (by rw [List.getElem?_map, hcci]; rfl)
      have hpv : Rd (vec 1 (.slice (some ⟨qb, qo, none⟩) cc.length qc) (q.map ptrK) :: thK (pt, { calls := pt.cs }) :: all ((q.map thK).eraseIdx i) :: R1) qb (qo + i) (.pointer (some ⟨pt.tb, 0, none⟩)) := rd_vec .here (by rw [List.getElem?_map, hqi]; rfl)
      refine we_star (vec 1 (.slice (some ⟨qb, qo, none⟩) cc.length qc) (q.map ptrK) :: thK (pt, { calls := pt.cs }) :: all ((q.map thK).eraseIdx i) :: R1) (fun h st => star_map st (fun _ z => z) (fun _ z => star_pick (by rw [List.getElem?_map, hqi]; rfl) z)) ?_
      repeat (first
        | (apply wo_po; apply mo_index1; exact rfl; exact rfl; omega; exact trivial)
        | (apply wo_po; apply mo_load; exact rfl; exact hpv; exact trivial)
        | (apply wo_po; apply mo_bin; exact rfl; exact rfl; apply bin_lssT; omega; (first | exact trivial | exact rfl))
        | refine we_seq ?_
        | (refine we_region _ rfl rfl ?_; simp only [opsOf, List.map_cons, List.map_nil, Option.map_none, Option.map_some, List.getElem?_toArray, List.getElem?_cons_zero, List.getElem?_cons_succ, Option.bind_some, Option.getD_some])
        | refine wo_nil ?_
        | (apply wo_po; apply mo_move; exact rfl; (first | exact trivial | exact rfl))
        | (apply wo_po; apply mo_len; exact rfl; (first | exact trivial | exact rfl))
        | (apply we_condT; exact rfl; (first | exact rfl | (simp <;> omega) | omega))
        | refine we_skip ?_
        | refine we_block ?_)
      refine wo_call (.cons rfl (.cons rfl .nil)) trivial (on_tr (cw := pt.cw) (cs := pt.cs) ht' (init_good (hcc.ok _ hccm) (hcc.len _ hccm)) (by omega) (.there .here) ((hccR1.obs _ hccm).there.there)) ?_
      rintro v L' x'' ⟨rfl, rfl, rfl⟩
      repeat (first
        | (refine we_region _ rfl rfl ?_; simp only [opsOf, List.map_cons, List.map_nil, Option.map_none, Option.map_some, List.getElem?_toArray, List.getElem?_cons_zero, List.getElem?_cons_succ, Option.bind_some, Option.getD_some])
        | refine wo_nil ?_
        | (apply wo_po; apply mo_move; exact rfl; (first | exact trivial | exact rfl))
        | (apply wo_po; apply mo_assign; exact rfl; (first | exact trivial | exact rfl))
        | (apply wo_po; apply mo_bin; exact rfl; exact rfl; apply bin_add; exact wrap_i64 (by omega) (by omega); (first | exact trivial | exact rfl)))
      refine at_roundS (I := playInv2 b6 b8 wb (.slice oa o.length oc) (.slice ta cc.length tc) (.slice (some ⟨qb, qo, none⟩) cc.length qc) pts (cc.map fun y => { calls := y.2 }) l0 x'' R1) (R := fun i' => pts.length - i'.1 < pts.length - i) (i + 1, q.set i (pt, t')) (by simp only; omega) ⟨by simp only; omega, ?_, ?_⟩ ⟨rfl, rfl, rfl, rfl, rfl, rfl, rfl, trivial⟩ (fun h st => ?_) rfl
      · simp only [List.map_set, hq1]
        exact set_same hpti
      · simp only [List.map_set, hq2]
        exact take_set_drop hl0 (by simp; omega)
      · dsimp only [playInv2]
        rw [List.map_set, List.map_set, set_same (l := q.map ptrK) (by rw [List.getElem?_map, hqi]; rfl)]
        have s1 : Star (vec 1 (.slice (some ⟨qb, qo, none⟩) cc.length qc) (q.map ptrK) :: thK (pt, t') :: all ((q.map thK).eraseIdx i) :: R1) h := star_swap st
        exact star_map s1 (fun _ z => z) (fun _ z => star_put (by simp; omega) z)
    · have hi2 : i = pts.length := by omega
      subst hi2
      have hq2' : q.map (·.2) = l0 := by
        rw [hq2, List.take_of_length_le (by rw [hbl]; simp; omega), List.drop_eq_nil_of_le (by simp; omega), List.append_nil]
      clear hq2
      repeat (first
        | (apply wo_po; apply mo_bin; exact rfl; exact rfl; apply bin_lssF; omega; (first | exact trivial | exact rfl))
        | refine we_seq ?_
        | (refine we_region _ rfl rfl ?_; simp only [opsOf, List.map_cons, List.map_nil, Option.map_none, Option.map_some, List.getElem?_toArray, List.getElem?_cons_zero, List.getElem?_cons_succ, Option.bind_some, Option.getD_some])
        | refine wo_nil ?_
        | (apply wo_po; apply mo_move; exact rfl; (first | exact trivial | exact rfl))
        | (apply wo_po; apply mo_len; exact rfl; (first | exact trivial | exact rfl))
        | (apply we_condF; exact rfl; (first | exact rfl | (simp <;> omega) | omega))
        | refine we_exit ?_)
      repeat (first
        | (apply wo_mo; apply mo_alloc; exact trivial))
      rintro v' L' ⟨pb, rfl, rfl⟩
      refine wo_nil ?_
      have hqc : q.length = cc.length := by omega
      have pk : PlayOk f ⟨w, l0, []⟩ q := by
        have hall : ∀ y ∈ q, Good y.1.cs y.2 (16384 * (f + 1)) ∧ Stands y.2 := by
          intro y hy
          obtain ⟨i, hi3⟩ := List.mem_iff_getElem?.1 hy
          have hpti : pts[i]? = some y.1 := by rw [← hq1, List.getElem?_map, hi3]; rfl
          have hcci : cc[i]? = some (y.1.cw, y.1.cs) := by rw [← hpc, List.getElem?_map, hpti]; rfl
          have hccm := List.mem_of_getElem? hcci
          obtain ⟨t', ht', hl0⟩ := hbg i { calls := y.1.cs } (by rw [List.getElem?_map, hcci]; rfl)
          have : l0[i]? = some y.2 := by rw [← hq2', List.getElem?_map, hi3]; rfl
          rw [this] at hl0
          cases hl0
          exact ⟨Good.onF (k := 16384 * (f + 1)) (f := f) (init_good (hcc.ok _ hccm) (hcc.len _ hccm)) hf ht', onF_stands ht'⟩
        exact ⟨hq2', Nat.zero_le _, fun y hy => (hall y hy).1, fun y hy => (hall y hy).2⟩
      refine at_star (arr pb 0 [.slice none 0 0, .slice none 0 0] :: vec 1 (.slice qa q.length qc) (q.map ptrK) :: all (q.map thK) :: wdC wb w :: arr b6 0 [.slice none 0 0, .slice none 0 0] :: arr b8 0 [.slice none 0 0, .slice none 0 0] :: vec 1 (.slice ta cc.length tc) (cc.map cvK) :: wvC (.slice wa wn wc) (.slice la ln lc) w :: F) (fun h st => ?_) ?_
      · rw [hR1, hR0] at st
        rw [hqc]
        refine Ent.star ?_ st
        exact (.take .here (.take .here (.take .here (.take (.there .here) (.take (.there .here) (.take (.there .here) (.take .here .refl)))))))
      refine at_sub [(1, .slice oa o.length oc), (2, .slice ta cc.length tc), (6, .pointer (some ⟨b6, 0, none⟩)), (8, .pointer (some ⟨b8, 0, none⟩)), (9, .pointer (some ⟨wb, 0, none⟩)), (10, .slice qa q.length qc), (13, .pointer (some ⟨pb, 0, none⟩))] ⟨rfl, rfl, rfl, rfl, rfl, by rw [hqc]; rfl, rfl, trivial⟩ ?_
      exact play_tail (F := vec 1 (.slice ta cc.length tc) (cc.map cvK) :: wvC (.slice wa wn wc) (.slice la ln lc) w :: F) (l0 := l0) (w := w) hby hp hf hcc.there.there ho hoi (fun i k h => by
        obtain ⟨b, p, h1, h2⟩ := hor i k h
        exact ⟨b, p, h1, .there (.there h2)⟩) hpc hq1 pk (by rw [hqc]; exact hqa) hqa2 hQ

end Go.Proofs.Ytmkkanmkjfnpdaa
