/-
  patchbayref00's Play: by the order.
-/
import Derived.Test.YtmkkanmkjfnpdaaMach15
set_option linter.unusedVariables false
set_option linter.unusedSimpArgs false
namespace Go.Proofs.Ytmkkanmkjfnpdaa
open Go Go.PB
attribute [local irreducible] Mo Bin Eql Tr Wo Ap

variable {B : Hand} [Lets B] {L F G : List HProp} {x : B.X}

set_option maxHeartbeats 8000000 in
theorem play_tail {um : FrameMode} {Q : End → FrameMode → Hp → B.X → Prop} {b6 b8 wb pb : Nat} {tv : Value} {w : Mach.Wd} {st s1 : Mach.St} {oa : Option Addr} {oc : Nat} {o : List Int} {cc : Calls} {f g : Nat} {pts : List PT} {l0 : List Mach.Th} {q : List (PT × Mach.Th)} {qa : Option Addr} {qc : Nat}
    (hby : Mach.byOrder f ⟨w, l0, []⟩ (o.map fun k => if k < 0 then none else some k.toNat) = some s1) (hp : Mach.rounds f g s1 = some st) (hf : 16384 * (f + 1) + f < 1000000000) (hcc : CallsOk F cc) (ho : o.length < 1000000) (hoi : ∀ k ∈ o, -9223372036854775808 ≤ k ∧ k ≤ 9223372036854775807)
    (hor : ∀ i k, o[i]? = some k → ∃ b p, oa = some ⟨b, p, none⟩ ∧ Rd F b (p + i) (.int .i64 k)) (hpc : pts.map (fun p => (p.cw, p.cs)) = cc) (hq1 : q.map (·.1) = pts) (pk : PlayOk f ⟨w, l0, []⟩ q) (hqa : qa = none → q.length = 0) (hqa2 : ∀ y, qa = some y → y = ⟨y.block, y.off, none⟩)
    (hQ : ∀ v L' x' h', playR x F st v L' x' → Star L' h' → Q (.ret v) um h' x') :
    We Try.prog B .normal 159 (seqTail 6 ((Try.f31.body).getD .skip)) (leave Try.prog B 31 .normal Q)
      [(1, .slice oa o.length oc), (2, tv), (6, .pointer (some ⟨b6, 0, none⟩)), (8, .pointer (some ⟨b8, 0, none⟩)), (9, .pointer (some ⟨wb, 0, none⟩)), (10, .slice qa q.length qc), (13, .pointer (some ⟨pb, 0, none⟩))] ⟨[], um⟩
      (arr pb 0 [.slice none 0 0, .slice none 0 0] :: vec 1 (.slice qa q.length qc) (q.map ptrK) :: all (q.map thK) :: wdC wb w :: arr b6 0 [.slice none 0 0, .slice none 0 0] :: arr b8 0 [.slice none 0 0, .slice none 0 0] :: F) x := by
  obtain ⟨R2, hR2⟩ : ∃ R2, R2 = arr b6 0 [.slice none 0 0, .slice none 0 0] :: arr b8 0 [.slice none 0 0, .slice none 0 0] :: F := ⟨_, rfl⟩
  have hcc2 : CallsOk R2 cc := by rw [hR2]; exact hcc.there.there
  have hor2 : ∀ i k, o[i]? = some k → ∃ b p, oa = some ⟨b, p, none⟩ ∧ Rd R2 b (p + i) (.int .i64 k) := fun i k h => by
    obtain ⟨b, p, h1, h2⟩ := hor i k h
    exact ⟨b, p, h1, by rw [hR2]; exact .there (.there h2)⟩
  rw [← hR2]
  obtain ⟨oN, hoN⟩ : ∃ oN, oN = o.map fun k : Int => if k < 0 then none else some k.toNat := ⟨_, rfl⟩
  have hoNl : oN.length = o.length := by rw [hoN, List.length_map]
  rw [← hoN] at hby
  have hcn := hcc.n
  have hqn : q.length = cc.length := by rw [← hpc, ← hq1, List.length_map, List.length_map]
  repeat (first
    | refine we_seq ?_
    | (refine we_region _ rfl rfl ?_; simp only [opsOf, List.map_cons, List.map_nil, Option.map_none, Option.map_some, List.getElem?_toArray, List.getElem?_cons_zero, List.getElem?_cons_succ, Option.bind_some, Option.getD_some])
    | refine wo_nil ?_
    | (apply wo_po; apply mo_assign; exact rfl; (first | exact trivial | exact rfl)))
  refine we_join (playMid b6 b8 wb pb (.slice oa o.length oc) tv (.slice qa q.length qc) pts f s1 x R2) ?_ ?_
  rotate_left
  · rintro ⟨trv, q2⟩ ⟨hq2, pk2⟩
    dsimp only [playMid] at hq2 pk2 ⊢
    have hqn2 : q2.length = q.length := by rw [← List.length_map (f := (·.1)), hq2, ← hq1, List.length_map]
    rw [hR2]
    rw [← hqn2] at hqa ⊢
    exact play_tail2 hp hf hcc hpc hq2 pk2 hqa hqa2 hQ
  refine we_block ?_
  refine we_star ((playInv3 b6 b8 wb pb (.slice oa o.length oc) tv (.slice qa q.length qc) pts f oN s1 x R2).L (0, .slice none 0 0, ⟨w, l0, []⟩, q)) (fun h st => star_map st (fun _ z => z) (fun _ z => vec_nil z)) ?_
  obtain ⟨nq, hnq⟩ : ∃ nq, nq = q.length := ⟨_, rfl⟩
  rw [← hnq] at hqa hqn ⊢
  refine we_loopN (playInv3 b6 b8 wb pb (.slice oa o.length oc) tv (.slice qa nq qc) pts f oN s1 x R2) (fun i => oN.length - i.1) (0, .slice none 0 0, ⟨w, l0, []⟩, q) ⟨Nat.zero_le _, hby, hq1, pk⟩ ⟨rfl, rfl, rfl, rfl, rfl, rfl, rfl, rfl, trivial⟩ .refl rfl ?_
  clear hby pk hq1 hnq q w l0
  rintro ⟨i, trv, s, q⟩ ⟨hi, hby, hq1, pk⟩
  dsimp only [playInv3] at hi hby hq1 pk ⊢
  have hqn2 : q.length = nq := by rw [hqn, ← hpc, ← hq1, List.length_map, List.length_map]
  have hsl : s.l.length = nq := by rw [← pk.l, List.length_map]; exact hqn2
  refine we_pure (of_has (.there .here) (vec_shape (by omega))) ?_
  rintro ⟨ra, rn, rc, rfl, hrn, _⟩
  have hrnn := tr_len hrn
  subst hrnn
  have htr := pk.tr
  by_cases hc : i < o.length
  · by_cases hc2 : s.tr.length < 16384
    · obtain ⟨ki, hk⟩ : ∃ k, o[i]? = some k := ⟨o[i], by simp [hc]⟩
      obtain ⟨k1, k2⟩ := hoi ki (List.mem_of_getElem? hk)
      obtain ⟨ob, op, rfl, hkr⟩ := hor2 i ki hk
      have hdrop : oN.drop i = (if ki < 0 then none else some ki.toNat) :: oN.drop (i + 1) := by
        rw [List.drop_eq_getElem_cons (by omega : i < oN.length)]
        congr 1
        have : oN[i]? = some (if ki < 0 then none else some ki.toNat) := by rw [hoN, List.getElem?_map, hk]; rfl
        exact Option.some.inj (by rw [← this]; simp)
      rw [hdrop] at hby
      by_cases hneg : ki < 0
      · rw [if_pos hneg] at hby
        have hkr' : ∀ {d1 d2 d3 d4 d5 : HProp}, Rd (d1 :: d2 :: d3 :: d4 :: d5 :: R2) ob (op + i) (.int .i64 ki) := fun {d1 d2 d3 d4 d5} => .there (.there (.there (.there (.there hkr))))
        repeat (first
          | (apply wo_po; apply mo_indexAddr (r := op + i); exact rfl; exact rfl; omega; omega; omega; exact trivial)
          | (apply wo_po; apply mo_load; exact rfl; exact hkr'; exact trivial)
          | (apply wo_po; apply mo_bin; exact rfl; exact rfl; apply bin_lssT; omega; (first | exact trivial | exact rfl))
          | refine we_seq ?_
          | (refine we_region _ rfl rfl ?_; simp only [opsOf, List.map_cons, List.map_nil, Option.map_none, Option.map_some, List.getElem?_toArray, List.getElem?_cons_zero, List.getElem?_cons_succ, Option.bind_some, Option.getD_some])
          | refine wo_nil ?_
          | (apply wo_po; apply mo_move; exact rfl; (first | exact trivial | exact rfl))
          | (apply wo_po; apply mo_assign; exact rfl; (first | exact trivial | exact rfl))
          | (apply wo_no; exact rfl)
          | (apply wo_po; apply mo_pickT; exact rfl; exact rfl; exact rfl; (first | exact trivial | exact rfl))
          | (apply wo_po; apply mo_fieldAddr; exact rfl; exact rfl; (first | exact Nat.zero_add _ | exact rfl); (first | exact trivial | exact rfl))
          | (apply wo_po; apply mo_load; exact rfl; (repeat (first | exact Rd.row0 rfl | exact Rd.row rfl rfl | exact Rd.still | apply Rd.there)); (first | exact trivial | exact rfl))
          | (apply wo_po; apply mo_bin; exact rfl; exact rfl; apply bin_add; exact wrap_i64 (by omega) (by omega); (first | exact trivial | exact rfl))
          | (apply wo_po; apply mo_len; exact rfl; (first | exact trivial | exact rfl))
          | (apply we_condT; exact rfl; (first | exact rfl | (simp <;> omega) | omega))
          | refine we_skip ?_
          | refine we_block ?_
          | refine we_exit ?_)
        refine at_round (I := playInv3 b6 b8 wb pb (.slice (some ⟨ob, op, none⟩) o.length oc) tv (.slice qa nq qc) pts f oN s1 x R2) (R := fun i' => oN.length - i'.1 < oN.length - i) (i + 1, _, s, q) (by simp only; omega) ⟨by simp only; omega, hby, hq1, pk⟩ ⟨rfl, rfl, rfl, rfl, rfl, rfl, rfl, rfl, trivial⟩ .refl rfl
      rw [if_neg hneg] at hby
      obtain ⟨k, rfl⟩ : ∃ k : Nat, ki = k := ⟨ki.toNat, by omega⟩
      rw [Int.toNat_natCast] at hby
      unfold Mach.byOrder at hby
      by_cases hkq : k < nq
      · obtain ⟨⟨pt, t⟩, hqk⟩ : ∃ z, q[k]? = some z := ⟨q[k], by simp⟩
        have hlk : s.l[k]? = some t := by rw [← pk.l, List.getElem?_map, hqk]; rfl
        obtain ⟨⟨qb, qo, sp⟩, rfl⟩ : ∃ z, qa = some z := by
          cases qa with
          | none => have : nq = 0 := hqa rfl; omega
          | some z => exact ⟨z, rfl⟩
        cases hqa2 _ rfl
        have hpt : pts[k]? = some pt := by rw [← hq1, List.getElem?_map, hqk]; rfl
        have hccm : (pt.cw, pt.cs) ∈ cc := by rw [← hpc]; exact List.mem_map.2 ⟨pt, List.mem_of_getElem? hpt, rfl⟩
        refine we_star (thK (pt, t) :: arr pb 0 [.slice ra s.tr.length rc, .slice none 0 0] :: vec 3 (.slice ra s.tr.length rc) (s.tr.map trC).flatten :: vec 1 (.slice (some ⟨qb, qo, none⟩) nq qc) (q.map ptrK) :: all ((q.map thK).eraseIdx k) :: wdC wb s.w :: R2) (fun h st => ?_) ?_
        · have s1 : Star (all (q.map thK) :: arr pb 0 [.slice ra s.tr.length rc, .slice none 0 0] :: vec 3 (.slice ra s.tr.length rc) (s.tr.map trC).flatten :: vec 1 (.slice (some ⟨qb, qo, none⟩) nq qc) (q.map ptrK) :: wdC wb s.w :: R2) h := by
            refine Ent.star ?_ st
            repeat (first | exact Ent.refl | (apply Ent.take; (repeat (first | exact Has.here | apply Has.there))) | apply Ent.drop)
          have s2 := star_pick (i := k) (c := thK (pt, t)) (by rw [List.getElem?_map, hqk]; rfl) s1
          refine Ent.star ?_ s2
          repeat (first | exact Ent.refl | (apply Ent.take; (repeat (first | exact Has.here | apply Has.there))) | apply Ent.drop)
        refine we_ex .here fun y => we_and .here fun e1 => we_and .here fun hr => we_open .here ?_
        obtain ⟨av, al⟩ := y
        refine we_ent (arr pt.tb 0 (thCells pt.cv t av) :: vec 2 av (al.map ansV).flatten :: all (al.map ansT) :: arr pb 0 [.slice ra s.tr.length rc, .slice none 0 0] :: vec 3 (.slice ra s.tr.length rc) (s.tr.map trC).flatten :: vec 1 (.slice (some ⟨qb, qo, none⟩) nq qc) (q.map ptrK) :: all ((q.map thK).eraseIdx k) :: wdC wb s.w :: R2) .refl ?_
        have hkr' : ∀ {d1 d2 d3 d4 d5 d6 d7 d8 : HProp}, Rd (d1 :: d2 :: d3 :: d4 :: d5 :: d6 :: d7 :: d8 :: R2) ob (op + i) (.int .i64 k) := fun {d1 d2 d3 d4 d5 d6 d7 d8} => .there (.there (.there (.there (.there (.there (.there (.there hkr)))))))
        have hpv : Rd (arr pt.tb 0 (thCells pt.cv t av) :: vec 2 av (al.map ansV).flatten :: all (al.map ansT) :: arr pb 0 [.slice ra s.tr.length rc, .slice none 0 0] :: vec 3 (.slice ra s.tr.length rc) (s.tr.map trC).flatten :: vec 1 (.slice (some ⟨qb, qo, none⟩) nq qc) (q.map ptrK) :: all ((q.map thK).eraseIdx k) :: wdC wb s.w :: R2) qb (qo + k) (.pointer (some ⟨pt.tb, 0, none⟩)) := rd_vec (.there (.there (.there (.there (.there .here))))) (by rw [List.getElem?_map, hqk]; rfl)
        have hov : Rd (arr pt.tb 0 (thCells pt.cv t av) :: vec 2 av (al.map ansV).flatten :: all (al.map ansT) :: arr pb 0 [.slice ra s.tr.length rc, .slice none 0 0] :: vec 3 (.slice ra s.tr.length rc) (s.tr.map trC).flatten :: vec 1 (.slice (some ⟨qb, qo, none⟩) nq qc) (q.map ptrK) :: all ((q.map thK).eraseIdx k) :: wdC wb s.w :: R2) pt.tb 28 (.bool t.over) := Rd.row0 rfl
        cases hto : t.over with
        | true =>
          rw [hto] at hov
          rw [if_neg (by rw [may_over hlk hto]; decide)] at hby
          repeat (first
            | (apply wo_po; apply mo_indexAddr (r := op + i); exact rfl; exact rfl; omega; omega; omega; exact trivial)
            | (apply wo_po; apply mo_load; exact rfl; exact hkr'; exact trivial)
            | (apply wo_po; apply mo_index1; exact rfl; exact rfl; omega; (first | exact trivial | exact rfl))
            | (apply wo_po; apply mo_load; exact rfl; exact hpv; (first | exact trivial | exact rfl))
            | (apply wo_po; apply mo_load; exact rfl; exact hov; (first | exact trivial | exact rfl))
            | (apply wo_po; apply mo_bin; exact rfl; exact rfl; apply bin_lssT; omega; (first | exact trivial | exact rfl))
            | (apply wo_po; apply mo_bin; exact rfl; exact rfl; apply bin_lssF; omega; (first | exact trivial | exact rfl))
            | (apply wo_po; apply mo_bin; exact rfl; exact rfl; apply bin_geqF; omega; (first | exact trivial | exact rfl))
            | refine we_seq ?_
            | (refine we_region _ rfl rfl ?_; simp only [opsOf, List.map_cons, List.map_nil, Option.map_none, Option.map_some, List.getElem?_toArray, List.getElem?_cons_zero, List.getElem?_cons_succ, Option.bind_some, Option.getD_some])
            | refine wo_nil ?_
            | (apply wo_po; apply mo_move; exact rfl; (first | exact trivial | exact rfl))
            | (apply wo_po; apply mo_assign; exact rfl; (first | exact trivial | exact rfl))
            | (apply wo_po; apply mo_pickT; exact rfl; exact rfl; exact rfl; (first | exact trivial | exact rfl))
            | (apply wo_po; apply mo_pickF; exact rfl; exact rfl; exact rfl; (first | exact trivial | exact rfl))
            | (apply wo_po; apply mo_nilCheck; exact rfl; (first | exact trivial | exact rfl))
            | (apply wo_po; apply mo_fieldAddr; exact rfl; exact rfl; (first | exact Nat.zero_add _ | exact rfl); (first | exact trivial | exact rfl))
            | (apply wo_po; apply mo_load; exact rfl; (repeat (first | exact Rd.row0 rfl | exact Rd.row rfl rfl | exact Rd.still | apply Rd.there)); (first | exact trivial | exact rfl))
            | (apply wo_po; apply mo_bin; exact rfl; exact rfl; apply bin_add; exact wrap_i64 (by omega) (by omega); (first | exact trivial | exact rfl))
            | (apply wo_po; apply mo_len; exact rfl; (first | exact trivial | exact rfl))
            | (apply we_condT; exact rfl; (first | exact rfl | (simp <;> omega) | omega))
            | refine we_skip ?_
            | refine we_block ?_
            | refine we_exit ?_)
          refine at_roundS (I := playInv3 b6 b8 wb pb (.slice (some ⟨ob, op, none⟩) o.length oc) tv (.slice (some ⟨qb, qo, none⟩) nq qc) pts f oN s1 x R2) (R := fun i' => oN.length - i'.1 < oN.length - i) (i + 1, .slice ra s.tr.length rc, s, q) (by simp only; omega) ⟨by simp only; omega, hby, hq1, pk⟩ ⟨rfl, rfl, rfl, rfl, rfl, rfl, rfl, rfl, trivial⟩ (fun h st => ?_) rfl
          dsimp only [playInv3]
          have s1 := th_close (y := (av, al)) e1 hr st
          have s2 : Star (thK (pt, t) :: all ((q.map thK).eraseIdx k) :: arr pb 0 [.slice ra s.tr.length rc, .slice none 0 0] :: vec 3 (.slice ra s.tr.length rc) (s.tr.map trC).flatten :: vec 1 (.slice (some ⟨qb, qo, none⟩) nq qc) (q.map ptrK) :: wdC wb s.w :: R2) h := by
            refine Ent.star ?_ s1
            exact (.take .here (.take (.there (.there (.there .here))) .refl))
          have s3 := star_put (M := q.map thK) (by simp; omega) s2
          rw [set_same (by rw [List.getElem?_map, hqk]; rfl)] at s3
          refine Ent.star ?_ s3
          repeat (first | exact Ent.refl | (apply Ent.take; (repeat (first | exact Has.here | apply Has.there))) | apply Ent.drop)
        | false =>
          rw [hto] at hov
          rw [if_pos (may_true hc2 hlk hto)] at hby
          cases htn : Mach.turn f s k with
          | none => rw [htn] at hby; cases hby
          | some s' =>
          rw [htn, Option.bind_some] at hby
          obtain ⟨w', t', hop, rfl, pk', hgood, hcl, htold⟩ := turn_ok pk hf hqk hc2 hto htn
          repeat (first
            | (apply wo_po; apply mo_indexAddr (r := op + i); exact rfl; exact rfl; omega; omega; omega; exact trivial)
            | (apply wo_po; apply mo_load; exact rfl; exact hkr'; exact trivial)
            | (apply wo_po; apply mo_index1; exact rfl; exact rfl; omega; (first | exact trivial | exact rfl))
            | (apply wo_po; apply mo_load; exact rfl; exact hpv; (first | exact trivial | exact rfl))
            | (apply wo_po; apply mo_load; exact rfl; exact hov; (first | exact trivial | exact rfl))
            | (apply wo_po; apply mo_bin; exact rfl; exact rfl; apply bin_lssT; omega; (first | exact trivial | exact rfl))
            | (apply wo_po; apply mo_bin; exact rfl; exact rfl; apply bin_lssF; omega; (first | exact trivial | exact rfl))
            | (apply wo_po; apply mo_bin; exact rfl; exact rfl; apply bin_geqF; omega; (first | exact trivial | exact rfl))
            | refine we_seq ?_
            | (refine we_region _ rfl rfl ?_; simp only [opsOf, List.map_cons, List.map_nil, Option.map_none, Option.map_some, List.getElem?_toArray, List.getElem?_cons_zero, List.getElem?_cons_succ, Option.bind_some, Option.getD_some])
            | refine wo_nil ?_
            | (apply wo_po; apply mo_move; exact rfl; (first | exact trivial | exact rfl))
            | (apply wo_po; apply mo_assign; exact rfl; (first | exact trivial | exact rfl))
            | (apply wo_po; apply mo_pickT; exact rfl; exact rfl; exact rfl; (first | exact trivial | exact rfl))
            | (apply wo_po; apply mo_pickF; exact rfl; exact rfl; exact rfl; (first | exact trivial | exact rfl))
            | (apply wo_po; apply mo_nilCheck; exact rfl; (first | exact trivial | exact rfl))
            | (apply wo_po; apply mo_fieldAddr; exact rfl; exact rfl; (first | exact Nat.zero_add _ | exact rfl); (first | exact trivial | exact rfl))
            | (apply wo_po; apply mo_load; exact rfl; (repeat (first | exact Rd.row0 rfl | exact Rd.row rfl rfl | exact Rd.still | apply Rd.there)); (first | exact trivial | exact rfl))
            | (apply wo_po; apply mo_len; exact rfl; (first | exact trivial | exact rfl))
            | (apply we_condT; exact rfl; (first | exact rfl | (simp <;> omega) | omega))
            | (apply we_condF; exact rfl; (first | exact rfl | (simp <;> omega) | omega))
            | refine we_skip ?_
            | refine we_block ?_)
          obtain ⟨GG, hGG⟩ : ∃ GG, GG = arr pb 0 [.slice ra s.tr.length rc, .slice none 0 0] :: vec 3 (.slice ra s.tr.length rc) (s.tr.map trC).flatten :: vec 1 (.slice (some ⟨qb, qo, none⟩) nq qc) (q.map ptrK) :: all ((q.map thK).eraseIdx k) :: R2 := ⟨_, rfl⟩
          have hobs : Obs GG (codeC pt.cw pt.cs) := by rw [hGG]; exact (hcc2.obs _ hccm).there.there.there.there
          have hptr : ∀ d1 d2 : HProp, Rd (d1 :: d2 :: GG) qb (qo + k) (.pointer (some ⟨pt.tb, 0, none⟩)) := fun d1 d2 => by rw [hGG]; exact rd_vec (.there (.there (.there (.there .here)))) (by rw [List.getElem?_map, hqk]; rfl)
          have htrv : ∀ d1 d2 : HProp, Rd (d1 :: d2 :: GG) pb 0 (.slice ra s.tr.length rc) := fun d1 d2 => by rw [hGG]; exact .there (.there (Rd.row0 rfl))
          refine we_star (thC pt.tb (pt.cw.v pt.cs.length) t :: wdC wb s.w :: GG) (fun h st => ?_) ?_
          · rw [hGG]
            have s1 := th_close (y := (av, al)) e1 hr st
            refine Ent.star ?_ s1
            exact (.take .here (.take (.there (.there (.there (.there .here)))) .refl))
          refine we_draw (List.range' 0 13) (by kernel_rfl) ?_
          repeat (first
            | (apply ap_pure; exact rfl; exact rfl; exact trivial; intro L; apply mo_index1; exact rfl; exact rfl; exact hkq)
            | (apply ap_read; exact rfl; exact rfl; exact trivial; apply mo_load; exact rfl; exact hptr _ _)
            | (apply ap_read; exact rfl; exact rfl; exact trivial; apply mo_load; exact rfl; exact htrv _ _)
            | (apply ap_pure; exact rfl; exact rfl; (first | exact trivial | exact rfl); intro L; apply mo_move; exact rfl)
            | (apply ap_pure; exact rfl; exact rfl; (first | exact trivial | exact rfl); intro L; apply mo_fieldAddr; exact rfl; exact rfl; (first | exact Nat.zero_add _ | exact rfl)))
          refine ap_callR rfl rfl rfl trivial rfl rfl (.cons rfl (.cons rfl .nil)) (op_tr (cw := pt.cw) (cs := pt.cs) (G := GG) hop hgood (by omega) hcl htold .here .here hobs) ?_ ?_
          · rintro v L' x' ⟨rfl, rfl, rfl⟩ p hp
            replace hp := (List.mem_filter.1 hp).1
            simp only [List.mem_cons, List.not_mem_nil, or_false] at hp
            rcases hp with rfl | rfl | rfl | rfl | rfl | rfl | rfl <;> first | exact .inl rfl | exact .inr ⟨_, rfl, trivial, mo_load rfl (htrv _ _)⟩ | exact .inr ⟨_, rfl, trivial, mo_load rfl (hptr _ _)⟩
          rintro v L' x1 ⟨rfl, rfl, rfl⟩
          repeat (first
            | (apply ap_pure; exact rfl; exact rfl; exact trivial; intro L; apply mo_build (pv := [(0, _), (1, _)]); exact rfl; exact .cons rfl (.cons rfl .nil); exact rfl))
          refine ap_loudR rfl rfl rfl rfl trivial (mo_buildSlice (sz := 3) (vs := [.agg #[.int .i64 (k : Nat), .int .u8 (t.mark.1 : Nat), .int .i64 (t.mark.2 : Nat)]]) rfl (.cons rfl .nil) rfl (by intro v hv; cases (List.mem_singleton.1 hv); exact rfl) (by omega)) ?_ ?_
          · rintro v L' ⟨sb, rfl, rfl⟩ p hp
            replace hp := (List.mem_filter.1 hp).1
            rcases List.mem_cons.1 hp with rfl | hp
            · exact .inl rfl
            replace hp := (List.mem_filter.1 hp).1
            simp only [List.mem_cons, List.not_mem_nil, or_false] at hp
            rcases hp with rfl | rfl | rfl | rfl | rfl | rfl | rfl <;> first | exact .inl rfl | exact .inr ⟨_, rfl, trivial, mo_load rfl (.there (htrv _ _))⟩ | exact .inr ⟨_, rfl, trivial, mo_load rfl (.there (hptr _ _))⟩
          rintro v' L' ⟨sb, rfl, rfl⟩
          subst hGG
          refine ap_loud rfl rfl rfl rfl rfl trivial (mo_append (sz := 3) (new := [.int .i64 (k : Nat), .int .u8 (t.mark.1 : Nat), .int .i64 (t.mark.2 : Nat)]) rfl rfl rfl rfl (.there (.there (.there (.there .here)))) rfl (.inr ⟨_, _, rfl, Rds.all .here⟩) (by intro v hv; simp at hv; rcases hv with rfl | rfl | rfl <;> rfl) (by simp only [sliceLen]; omega)) ?_
          rintro v' L' rfl
          refine ap_know (of_has .here (vec_shape (by omega))) ?_
          rintro ⟨ua, un, uc, rfl, _⟩
          repeat (first
            | (apply ap_pure; exact rfl; exact rfl; (first | exact trivial | exact rfl); intro L; apply mo_fieldAddr; exact rfl; exact rfl; (first | exact Nat.zero_add _ | exact rfl)))
          refine ap_loud rfl rfl rfl rfl rfl trivial (mo_store rfl rfl rfl (Wt.row0 (k := 0) (.there (.there (.there (.there .here)))) (Nat.succ_pos 1))) ?_
          rintro v' L' ⟨rfl, rfl⟩
          refine ap_end ?_
          repeat (first
            | (refine we_region _ rfl rfl ?_; simp only [opsOf, List.map_cons, List.map_nil, Option.map_none, Option.map_some, List.getElem?_toArray, List.getElem?_cons_zero, List.getElem?_cons_succ, Option.bind_some, Option.getD_some])
            | refine wo_nil ?_
            | (apply wo_po; apply mo_move; exact rfl; (first | exact trivial | exact rfl))
            | (apply wo_po; apply mo_assign; exact rfl; (first | exact trivial | exact rfl))
            | (apply wo_po; apply mo_bin; exact rfl; exact rfl; apply bin_add; exact wrap_i64 (by omega) (by omega); (first | exact trivial | exact rfl)))
          refine at_roundS (I := playInv3 b6 b8 wb pb (.slice (some ⟨ob, op, none⟩) o.length oc) tv (.slice (some ⟨qb, qo, none⟩) nq qc) pts f oN s1 x1 R2) (R := fun i' => oN.length - i'.1 < oN.length - i) (i + 1, .slice ua un uc, ⟨w', s.l.set k t', s.tr ++ [(k, t.mark)]⟩, q.set k (pt, t')) (by simp only; omega) ⟨by simp only; omega, hby, by simp only [List.map_set, hq1]; exact set_same hpt, pk'⟩ ⟨rfl, rfl, rfl, rfl, rfl, rfl, rfl, rfl, trivial⟩ (fun h st => ?_) rfl
          dsimp only [playInv3]
          have s1 : Star (thK (pt, t') :: all ((q.map thK).eraseIdx k) :: arr pb 0 [.slice ua un uc, .slice none 0 0] :: vec 3 (.slice ua un uc) ((s.tr.map trC).flatten ++ trC (k, t.mark)) :: vec 1 (.slice (some ⟨qb, qo, none⟩) nq qc) (q.map ptrK) :: wdC wb w' :: R2) h := by
            refine Ent.star ?_ st
            exact (.take (.there (.there .here)) (.take (.there (.there (.there (.there (.there .here))))) (.take (.there (.there (.there .here))) (.take .here (.take (.there (.there .here)) (.take (.there .here) (.drop .refl)))))))
          have s2 := star_put (M := q.map thK) (by simp; omega) s1
          rw [List.map_set, List.map_set, set_same (l := q.map ptrK) (by rw [List.getElem?_map, hqk]; rfl), show ((s.tr ++ [(k, t.mark)]).map trC).flatten = (s.tr.map trC).flatten ++ trC (k, t.mark) by simp]
          refine Ent.star ?_ s2
          repeat (first | exact Ent.refl | (apply Ent.take; (repeat (first | exact Has.here | apply Has.there))) | apply Ent.drop)
      · rw [if_neg (by rw [may_none (List.getElem?_eq_none (by omega))]; decide)] at hby
        have hkr' : ∀ {d1 d2 d3 d4 d5 : HProp}, Rd (d1 :: d2 :: d3 :: d4 :: d5 :: R2) ob (op + i) (.int .i64 k) := fun {d1 d2 d3 d4 d5} => .there (.there (.there (.there (.there hkr))))
        repeat (first
          | (apply wo_po; apply mo_indexAddr (r := op + i); exact rfl; exact rfl; omega; omega; omega; exact trivial)
          | (apply wo_po; apply mo_load; exact rfl; exact hkr'; exact trivial)
          | (apply wo_po; apply mo_bin; exact rfl; exact rfl; apply bin_lssT; omega; (first | exact trivial | exact rfl))
          | (apply wo_po; apply mo_bin; exact rfl; exact rfl; apply bin_lssF; omega; (first | exact trivial | exact rfl))
          | (apply wo_po; apply mo_bin; exact rfl; exact rfl; apply bin_geqT; omega; (first | exact trivial | exact rfl))
          | refine we_seq ?_
          | (refine we_region _ rfl rfl ?_; simp only [opsOf, List.map_cons, List.map_nil, Option.map_none, Option.map_some, List.getElem?_toArray, List.getElem?_cons_zero, List.getElem?_cons_succ, Option.bind_some, Option.getD_some])
          | refine wo_nil ?_
          | (apply wo_po; apply mo_move; exact rfl; (first | exact trivial | exact rfl))
          | (apply wo_po; apply mo_assign; exact rfl; (first | exact trivial | exact rfl))
          | (apply wo_no; exact rfl)
          | (apply wo_po; apply mo_pickT; exact rfl; exact rfl; exact rfl; (first | exact trivial | exact rfl))
          | (apply wo_po; apply mo_pickF; exact rfl; exact rfl; exact rfl; (first | exact trivial | exact rfl))
          | (apply wo_po; apply mo_fieldAddr; exact rfl; exact rfl; (first | exact Nat.zero_add _ | exact rfl); (first | exact trivial | exact rfl))
          | (apply wo_po; apply mo_load; exact rfl; (repeat (first | exact Rd.row0 rfl | exact Rd.row rfl rfl | exact Rd.still | apply Rd.there)); (first | exact trivial | exact rfl))
          | (apply wo_po; apply mo_bin; exact rfl; exact rfl; apply bin_add; exact wrap_i64 (by omega) (by omega); (first | exact trivial | exact rfl))
          | (apply wo_po; apply mo_len; exact rfl; (first | exact trivial | exact rfl))
          | (apply we_condT; exact rfl; (first | exact rfl | (simp <;> omega) | omega))
          | refine we_skip ?_
          | refine we_block ?_
          | refine we_exit ?_)
        refine at_round (I := playInv3 b6 b8 wb pb (.slice (some ⟨ob, op, none⟩) o.length oc) tv (.slice qa nq qc) pts f oN s1 x R2) (R := fun i' => oN.length - i'.1 < oN.length - i) (i + 1, _, s, q) (by simp only; omega) ⟨by simp only; omega, hby, hq1, pk⟩ ⟨rfl, rfl, rfl, rfl, rfl, rfl, rfl, rfl, trivial⟩ .refl rfl
    · rw [byOrder_full (by omega)] at hby
      cases hby
      repeat (first
        | (apply wo_po; apply mo_bin; exact rfl; exact rfl; apply bin_lssT; omega; (first | exact trivial | exact rfl))
        | (apply wo_po; apply mo_bin; exact rfl; exact rfl; apply bin_lssF; omega; (first | exact trivial | exact rfl))
        | refine we_seq ?_
        | (refine we_region _ rfl rfl ?_; simp only [opsOf, List.map_cons, List.map_nil, Option.map_none, Option.map_some, List.getElem?_toArray, List.getElem?_cons_zero, List.getElem?_cons_succ, Option.bind_some, Option.getD_some])
        | refine wo_nil ?_
        | (apply wo_po; apply mo_move; exact rfl; (first | exact trivial | exact rfl))
        | (apply wo_po; apply mo_pickT; exact rfl; exact rfl; exact rfl; (first | exact trivial | exact rfl))
        | (apply wo_po; apply mo_fieldAddr; exact rfl; exact rfl; (first | exact Nat.zero_add _ | exact rfl); (first | exact trivial | exact rfl))
        | (apply wo_po; apply mo_load; exact rfl; (repeat (first | exact Rd.row0 rfl | exact Rd.row rfl rfl | exact Rd.still | apply Rd.there)); (first | exact trivial | exact rfl))
        | (apply wo_po; apply mo_len; exact rfl; (first | exact trivial | exact rfl))
        | (apply we_condF; exact rfl; (first | exact rfl | (simp <;> omega) | omega))
        | refine we_exit ?_)
      refine at_mid (I := playMid b6 b8 wb pb (.slice oa o.length oc) tv (.slice qa nq qc) pts f s1 x R2) (_, q) ⟨hq1, pk⟩ ⟨rfl, rfl, rfl, rfl, rfl, rfl, rfl, trivial⟩ .refl rfl
  · have : oN.drop i = [] := List.drop_eq_nil_of_le (by omega)
    rw [this] at hby
    cases hby
    repeat (first
      | (apply wo_po; apply mo_bin; exact rfl; exact rfl; apply bin_lssF; omega; (first | exact trivial | exact rfl))
      | refine we_seq ?_
      | (refine we_region _ rfl rfl ?_; simp only [opsOf, List.map_cons, List.map_nil, Option.map_none, Option.map_some, List.getElem?_toArray, List.getElem?_cons_zero, List.getElem?_cons_succ, Option.bind_some, Option.getD_some])
      | refine wo_nil ?_
      | (apply wo_po; apply mo_move; exact rfl; (first | exact trivial | exact rfl))
      | (apply wo_no; exact rfl)
      | (apply wo_po; apply mo_pickF; exact rfl; exact rfl; exact rfl; (first | exact trivial | exact rfl))
      | (apply wo_po; apply mo_len; exact rfl; (first | exact trivial | exact rfl))
      | (apply we_condF; exact rfl; (first | exact rfl | (simp <;> omega) | omega))
      | refine we_exit ?_)
    refine at_mid (I := playMid b6 b8 wb pb (.slice oa o.length oc) tv (.slice qa nq qc) pts f s1 x R2) (_, q) ⟨hq1, pk⟩ ⟨rfl, rfl, rfl, rfl, rfl, rfl, rfl, trivial⟩ .refl rfl

end Go.Proofs.Ytmkkanmkjfnpdaa
