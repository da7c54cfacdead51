/-
  patchbayref00's Play: rounds.
-/
import Derived.Test.YtmkkanmkjfnpdaaMach14
set_option linter.unusedVariables false
set_option linter.unusedSimpArgs false
namespace Go.Proofs.Ytmkkanmkjfnpdaa
open Go Go.PB
attribute [local irreducible] Mo Bin Eql Tr Wo Ap

variable {B : Hand} [Lets B] {L F G : List HProp} {x : B.X}

theorem round_full {f : Nat} {s : Mach.St} {b : Bool} (h : 16384 ≤ s.tr.length) : ∀ m k, Mach.round f m k s b = some (s, b) := by
  intro m
  induction m with
  | zero => intro k; rfl
  | succ m ih =>
    intro k
    unfold Mach.round
    rw [may_full h, if_neg (by decide)]
    exact ih (k + 1)

/-- ahead of a round over all threads -/
def rndInv (b6 b8 wb pb : Nat) (ov tv lv : Value) (pts : List PT) (f : Nat) (st : Mach.St) (x : B.X) (F : List HProp) : Inv (Nat × Bool × Value × Mach.St × List (PT × Mach.Th)) B.X where
  e := fun i => [(1, ov), (2, tv), (6, .pointer (some ⟨b6, 0, none⟩)), (8, .pointer (some ⟨b8, 0, none⟩)), (9, .pointer (some ⟨wb, 0, none⟩)), (10, lv), (13, .pointer (some ⟨pb, 0, none⟩)), (16, .bool i.2.1)]
  L := fun i => arr pb 0 [i.2.2.1, .slice none 0 0] :: vec 3 i.2.2.1 (i.2.2.2.1.tr.map trC).flatten :: vec 1 lv (i.2.2.2.2.map ptrK) :: all (i.2.2.2.2.map thK) :: wdC wb i.2.2.2.1.w :: F
  x := fun _ => x
  ok := fun i => (if i.2.1 = true then Mach.rounds f i.1 i.2.2.2.1 = some st else i.2.2.2.1 = st) ∧ i.2.2.2.2.map (·.1) = pts ∧ PlayOk f i.2.2.2.1 i.2.2.2.2

/-- ahead of thread k in a round -/
def rndIn (b6 b8 wb pb : Nat) (ov tv lv : Value) (pts : List PT) (f : Nat) (r : Mach.St × Bool) (x : B.X) (F : List HProp) : Inv (Nat × Bool × Value × Mach.St × List (PT × Mach.Th)) B.X where
  e := fun i => [(1, ov), (2, tv), (6, .pointer (some ⟨b6, 0, none⟩)), (8, .pointer (some ⟨b8, 0, none⟩)), (9, .pointer (some ⟨wb, 0, none⟩)), (10, lv), (13, .pointer (some ⟨pb, 0, none⟩)), (16, .bool i.2.1), (17, .int .i64 (i.1 : Nat))]
  L := fun i => arr pb 0 [i.2.2.1, .slice none 0 0] :: vec 3 i.2.2.1 (i.2.2.2.1.tr.map trC).flatten :: vec 1 lv (i.2.2.2.2.map ptrK) :: all (i.2.2.2.2.map thK) :: wdC wb i.2.2.2.1.w :: F
  x := fun _ => x
  ok := fun i => i.1 ≤ pts.length ∧ Mach.round f (pts.length - i.1) i.1 i.2.2.2.1 i.2.1 = some r ∧ i.2.2.2.2.map (·.1) = pts ∧ PlayOk f i.2.2.2.1 i.2.2.2.2

set_option maxHeartbeats 8000000 in
theorem play_tail2 {um : FrameMode} {Q : End → FrameMode → Hp → B.X → Prop} {b6 b8 wb pb : Nat} {ov0 tv trv : Value} {st s1 : Mach.St} {cc : Calls} {f g : Nat} {pts : List PT} {q : List (PT × Mach.Th)} {qa : Option Addr} {qc : Nat}
    (hp : Mach.rounds f g s1 = some st) (hf : 16384 * (f + 1) + f < 1000000000) (hcc : CallsOk F cc) (hpc : pts.map (fun p => (p.cw, p.cs)) = cc) (hq1 : q.map (·.1) = pts) (pk : PlayOk f s1 q) (hqa : qa = none → q.length = 0) (hqa2 : ∀ y, qa = some y → y = ⟨y.block, y.off, none⟩)
    (hQ : ∀ v L' x' h', playR x F st v L' x' → Star L' h' → Q (.ret v) um h' x') :
    We Try.prog B .normal 159 (seqTail 7 ((Try.f31.body).getD .skip)) (leave Try.prog B 31 .normal Q)
      [(1, ov0), (2, tv), (6, .pointer (some ⟨b6, 0, none⟩)), (8, .pointer (some ⟨b8, 0, none⟩)), (9, .pointer (some ⟨wb, 0, none⟩)), (10, .slice qa q.length qc), (13, .pointer (some ⟨pb, 0, none⟩))] ⟨[], um⟩
      (arr pb 0 [trv, .slice none 0 0] :: vec 3 trv (s1.tr.map trC).flatten :: vec 1 (.slice qa q.length qc) (q.map ptrK) :: all (q.map thK) :: wdC wb s1.w :: arr b6 0 [.slice none 0 0, .slice none 0 0] :: arr b8 0 [.slice none 0 0, .slice none 0 0] :: F) x := by
  have hcn := hcc.n
  have hpn : pts.length = cc.length := by rw [← hpc, List.length_map]
  have hqn : q.length = pts.length := by rw [← hq1, List.length_map]
  obtain ⟨R2, hR2⟩ : ∃ R2, R2 = arr b6 0 [.slice none 0 0, .slice none 0 0] :: arr b8 0 [.slice none 0 0, .slice none 0 0] :: F := ⟨_, rfl⟩
  have hcc2 : CallsOk R2 cc := by rw [hR2]; exact hcc.there.there
  rw [← hR2, hqn]
  rw [hqn] at hqa
  repeat (first
    | refine we_seq ?_
    | (refine we_region _ rfl rfl ?_; simp only [opsOf, List.map_cons, List.map_nil, Option.map_none, Option.map_some, List.getElem?_toArray, List.getElem?_cons_zero, List.getElem?_cons_succ, Option.bind_some, Option.getD_some])
    | refine wo_nil ?_
    | (apply wo_po; apply mo_assign; exact rfl; (first | exact trivial | exact rfl)))
  refine we_join (playMid b6 b8 wb pb ov0 tv (.slice qa pts.length qc) pts f st x R2) ?_ ?_
  · refine we_block ?_
    refine we_loopN (rndInv b6 b8 wb pb ov0 tv (.slice qa pts.length qc) pts f st x R2) (fun i => if i.2.1 = true then i.1 + 1 else 0) (g, true, trv, s1, q) ⟨by rw [if_pos rfl]; exact hp, hq1, pk⟩ ⟨rfl, rfl, rfl, rfl, rfl, rfl, rfl, rfl, trivial⟩ .refl rfl ?_
    clear hp hq1 pk hqn q s1 trv
    rintro ⟨g, left, trv, s, q⟩ ⟨hg, hq1, pk⟩
    dsimp only [rndInv] at hg hq1 pk ⊢
    cases left with
    | false =>
      rw [if_neg (by decide)] at hg
      subst hg
      repeat (first
        | refine we_seq ?_
        | (refine we_region _ rfl rfl ?_; simp only [opsOf, List.map_cons, List.map_nil, Option.map_none, Option.map_some, List.getElem?_toArray, List.getElem?_cons_zero, List.getElem?_cons_succ, Option.bind_some, Option.getD_some])
        | refine wo_nil ?_
        | (apply wo_po; apply mo_move; exact rfl; (first | exact trivial | exact rfl))
        | (apply we_condF; exact rfl; (first | exact rfl | (simp <;> omega) | omega))
        | refine we_exit ?_)
      refine at_mid (I := playMid b6 b8 wb pb ov0 tv (.slice qa pts.length qc) pts f s x R2) (trv, q) ⟨hq1, pk⟩ ⟨rfl, rfl, rfl, rfl, rfl, rfl, rfl, trivial⟩ .refl rfl
    | true =>
      rw [if_pos rfl] at hg
      obtain ⟨g, rfl⟩ : ∃ g', g = g' + 1 := by
        cases g with
        | zero => cases hg
        | succ g => exact ⟨g, rfl⟩
      have hsl : s.l.length = pts.length := by rw [← pk.l, List.length_map, ← hq1, List.length_map]
      unfold Mach.rounds at hg
      cases hr : Mach.round f s.l.length 0 s false with
      | none => rw [hr] at hg; cases hg
      | some r =>
      rw [hr, Option.bind_some] at hg
      rw [hsl] at hr
      repeat (first
        | refine we_seq ?_
        | (refine we_region _ rfl rfl ?_; simp only [opsOf, List.map_cons, List.map_nil, Option.map_none, Option.map_some, List.getElem?_toArray, List.getElem?_cons_zero, List.getElem?_cons_succ, Option.bind_some, Option.getD_some])
        | refine wo_nil ?_
        | (apply wo_po; apply mo_move; exact rfl; (first | exact trivial | exact rfl))
        | (apply we_condT; exact rfl; (first | exact rfl | (simp <;> omega) | omega))
        | refine we_skip ?_)
      refine we_block ?_
      repeat (first
        | refine we_seq ?_
        | (refine we_region _ rfl rfl ?_; simp only [opsOf, List.map_cons, List.map_nil, Option.map_none, Option.map_some, List.getElem?_toArray, List.getElem?_cons_zero, List.getElem?_cons_succ, Option.bind_some, Option.getD_some])
        | refine wo_nil ?_
        | (apply wo_po; apply mo_assign; exact rfl; (first | exact trivial | exact rfl)))
      refine we_block ?_
      refine we_loopN (rndIn b6 b8 wb pb ov0 tv (.slice qa pts.length qc) pts f r x R2) (fun i => pts.length - i.1) (0, false, trv, s, q) ⟨Nat.zero_le _, hr, hq1, pk⟩ ⟨rfl, rfl, rfl, rfl, rfl, rfl, rfl, rfl, rfl, trivial⟩ .refl rfl ?_
      clear hr hq1 pk hsl q s trv
      rintro ⟨k, left, trv, s, q⟩ ⟨hk, hr, hq1, pk⟩
      dsimp only [rndIn] at hk hr hq1 pk ⊢
      have hqn : q.length = pts.length := by rw [← hq1, List.length_map]
      have htr := pk.tr
      refine we_pure (of_has (.there .here) (vec_shape (by omega))) ?_
      rintro ⟨ra, rn, rc, rfl, hrn, _⟩
      have hrnn := tr_len hrn
      subst hrnn
      by_cases hc : k < pts.length
      · by_cases hc2 : s.tr.length < 16384
        · obtain ⟨⟨pt, t⟩, hqk⟩ : ∃ z, q[k]? = some z := ⟨q[k], by simp⟩
          have hlk : s.l[k]? = some t := by rw [← pk.l, List.getElem?_map, hqk]; rfl
          obtain ⟨⟨qb, qo, sp⟩, rfl⟩ : ∃ z, qa = some z := by
            cases qa with
            | none => have : pts.length = 0 := hqa rfl; omega
            | some z => exact ⟨z, rfl⟩
          cases hqa2 _ rfl
          have hpt : pts[k]? = some pt := by rw [← hq1, List.getElem?_map, hqk]; rfl
          have hccm : (pt.cw, pt.cs) ∈ cc := by rw [← hpc]; exact List.mem_map.2 ⟨pt, List.mem_of_getElem? hpt, rfl⟩
          rw [show pts.length - k = (pts.length - (k + 1)) + 1 by omega] at hr
          unfold Mach.round at hr
          refine we_star (thK (pt, t) :: arr pb 0 [.slice ra s.tr.length rc, .slice none 0 0] :: vec 3 (.slice ra s.tr.length rc) (s.tr.map trC).flatten :: vec 1 (.slice (some ⟨qb, qo, none⟩) pts.length qc) (q.map ptrK) :: all ((q.map thK).eraseIdx k) :: wdC wb s.w :: R2) (fun h st => ?_) ?_
          · have s1 : Star (all (q.map thK) :: arr pb 0 [.slice ra s.tr.length rc, .slice none 0 0] :: vec 3 (.slice ra s.tr.length rc) (s.tr.map trC).flatten :: vec 1 (.slice (some ⟨qb, qo, none⟩) pts.length qc) (q.map ptrK) :: wdC wb s.w :: R2) h := by
              refine Ent.star ?_ st
              repeat (first | exact Ent.refl | (apply Ent.take; (repeat (first | exact Has.here | apply Has.there))) | apply Ent.drop)
            have s2 := star_pick (i := k) (c := thK (pt, t)) (by rw [List.getElem?_map, hqk]; rfl) s1
            refine Ent.star ?_ s2
            exact (.take .here (.take (.there .here) (.take (.there .here) (.take (.there .here) (.take .here .refl)))))
          refine we_ex .here fun y => we_and .here fun e1 => we_and .here fun hr2 => we_open .here ?_
          obtain ⟨av, al⟩ := y
          refine we_ent (arr pt.tb 0 (thCells pt.cv t av) :: vec 2 av (al.map ansV).flatten :: all (al.map ansT) :: arr pb 0 [.slice ra s.tr.length rc, .slice none 0 0] :: vec 3 (.slice ra s.tr.length rc) (s.tr.map trC).flatten :: vec 1 (.slice (some ⟨qb, qo, none⟩) pts.length qc) (q.map ptrK) :: all ((q.map thK).eraseIdx k) :: wdC wb s.w :: R2) .refl ?_
          have hpv : Rd (arr pt.tb 0 (thCells pt.cv t av) :: vec 2 av (al.map ansV).flatten :: all (al.map ansT) :: arr pb 0 [.slice ra s.tr.length rc, .slice none 0 0] :: vec 3 (.slice ra s.tr.length rc) (s.tr.map trC).flatten :: vec 1 (.slice (some ⟨qb, qo, none⟩) pts.length qc) (q.map ptrK) :: all ((q.map thK).eraseIdx k) :: wdC wb s.w :: R2) qb (qo + k) (.pointer (some ⟨pt.tb, 0, none⟩)) := rd_vec (.there (.there (.there (.there (.there .here))))) (by rw [List.getElem?_map, hqk]; rfl)
          have hov : Rd (arr pt.tb 0 (thCells pt.cv t av) :: vec 2 av (al.map ansV).flatten :: all (al.map ansT) :: arr pb 0 [.slice ra s.tr.length rc, .slice none 0 0] :: vec 3 (.slice ra s.tr.length rc) (s.tr.map trC).flatten :: vec 1 (.slice (some ⟨qb, qo, none⟩) pts.length qc) (q.map ptrK) :: all ((q.map thK).eraseIdx k) :: wdC wb s.w :: R2) pt.tb 28 (.bool t.over) := Rd.row0 rfl
          cases hto : t.over with
          | true =>
            rw [hto] at hov
            rw [if_neg (by rw [may_over hlk hto]; decide)] at hr
            repeat (first
              | (apply wo_po; apply mo_index1; exact rfl; exact rfl; omega; (first | exact trivial | exact rfl))
              | (apply wo_po; apply mo_load; exact rfl; exact hpv; (first | exact trivial | exact rfl))
              | (apply wo_po; apply mo_load; exact rfl; exact hov; (first | exact trivial | exact rfl))
              | (apply wo_po; apply mo_bin; exact rfl; exact rfl; apply bin_lssT; omega; (first | exact trivial | exact rfl))
              | refine we_seq ?_
              | (refine we_region _ rfl rfl ?_; simp only [opsOf, List.map_cons, List.map_nil, Option.map_none, Option.map_some, List.getElem?_toArray, List.getElem?_cons_zero, List.getElem?_cons_succ, Option.bind_some, Option.getD_some])
              | refine wo_nil ?_
              | (apply wo_po; apply mo_move; exact rfl; (first | exact trivial | exact rfl))
              | (apply wo_po; apply mo_assign; exact rfl; (first | exact trivial | exact rfl))
              | (apply wo_po; apply mo_pickT; exact rfl; exact rfl; exact rfl; (first | exact trivial | exact rfl))
              | (apply wo_po; apply mo_nilCheck; exact rfl; (first | exact trivial | exact rfl))
              | (apply wo_po; apply mo_fieldAddr; exact rfl; exact rfl; (first | exact Nat.zero_add _ | exact rfl); (first | exact trivial | exact rfl))
              | (apply wo_po; apply mo_not; exact rfl; (first | exact trivial | exact rfl))
              | (apply wo_po; apply mo_load; exact rfl; (repeat (first | exact Rd.row0 rfl | exact Rd.row rfl rfl | exact Rd.still | apply Rd.there)); (first | exact trivial | exact rfl))
              | (apply wo_po; apply mo_bin; exact rfl; exact rfl; apply bin_add; exact wrap_i64 (by omega) (by omega); (first | exact trivial | exact rfl))
              | (apply wo_po; apply mo_len; exact rfl; (first | exact trivial | exact rfl))
              | (apply we_condT; exact rfl; (first | exact rfl | (simp <;> omega) | omega))
              | (apply we_condF; exact rfl; (first | exact rfl | (simp <;> omega) | omega))
              | refine we_skip ?_
              | refine we_block ?_)
            refine at_roundS (I := rndIn b6 b8 wb pb ov0 tv (.slice (some ⟨qb, qo, none⟩) pts.length qc) pts f r x R2) (R := fun i' => pts.length - i'.1 < pts.length - k) (k + 1, left, .slice ra s.tr.length rc, s, q) (by simp only; omega) ⟨by simp only; omega, hr, hq1, pk⟩ ⟨rfl, rfl, rfl, rfl, rfl, rfl, rfl, rfl, rfl, trivial⟩ (fun h st => ?_) rfl
            dsimp only [rndIn]
            have s1 := th_close (y := (av, al)) e1 hr2 st
            have s2 : Star (thK (pt, t) :: all ((q.map thK).eraseIdx k) :: arr pb 0 [.slice ra s.tr.length rc, .slice none 0 0] :: vec 3 (.slice ra s.tr.length rc) (s.tr.map trC).flatten :: vec 1 (.slice (some ⟨qb, qo, none⟩) pts.length qc) (q.map ptrK) :: wdC wb s.w :: R2) h := by
              refine Ent.star ?_ s1
              exact (.take .here (.take (.there (.there (.there .here))) .refl))
            have s3 := star_put (M := q.map thK) (by simp; omega) s2
            rw [set_same (by rw [List.getElem?_map, hqk]; rfl)] at s3
            refine Ent.star ?_ s3
            exact (.take (.there .here) (.take (.there .here) (.take (.there .here) (.take .here .refl))))
          | false =>
            rw [hto] at hov
            rw [if_pos (may_true hc2 hlk hto)] at hr
            cases htn : Mach.turn f s k with
            | none => rw [htn] at hr; cases hr
            | some s' =>
            rw [htn, Option.bind_some] at hr
            obtain ⟨w', t', hop, rfl, pk', hgood, hcl, htold⟩ := turn_ok pk hf hqk hc2 hto htn
            repeat (first
              | (apply wo_po; apply mo_index1; exact rfl; exact rfl; omega; (first | exact trivial | exact rfl))
              | (apply wo_po; apply mo_load; exact rfl; exact hpv; (first | exact trivial | exact rfl))
              | (apply wo_po; apply mo_load; exact rfl; exact hov; (first | exact trivial | exact rfl))
              | (apply wo_po; apply mo_bin; exact rfl; exact rfl; apply bin_lssT; omega; (first | exact trivial | exact rfl))
              | refine we_seq ?_
              | (refine we_region _ rfl rfl ?_; simp only [opsOf, List.map_cons, List.map_nil, Option.map_none, Option.map_some, List.getElem?_toArray, List.getElem?_cons_zero, List.getElem?_cons_succ, Option.bind_some, Option.getD_some])
              | refine wo_nil ?_
              | (apply wo_po; apply mo_move; exact rfl; (first | exact trivial | exact rfl))
              | (apply wo_po; apply mo_pickT; exact rfl; exact rfl; exact rfl; (first | exact trivial | exact rfl))
              | (apply wo_po; apply mo_nilCheck; exact rfl; (first | exact trivial | exact rfl))
              | (apply wo_po; apply mo_fieldAddr; exact rfl; exact rfl; (first | exact Nat.zero_add _ | exact rfl); (first | exact trivial | exact rfl))
              | (apply wo_po; apply mo_not; exact rfl; (first | exact trivial | exact rfl))
              | (apply wo_po; apply mo_load; exact rfl; (repeat (first | exact Rd.row0 rfl | exact Rd.row rfl rfl | exact Rd.still | apply Rd.there)); (first | exact trivial | exact rfl))
              | (apply wo_po; apply mo_len; exact rfl; (first | exact trivial | exact rfl))
              | (apply we_condT; exact rfl; (first | exact rfl | (simp <;> omega) | omega))
              | refine we_skip ?_
              | refine we_block ?_)
            obtain ⟨GG, hGG⟩ : ∃ GG, GG = arr pb 0 [.slice ra s.tr.length rc, .slice none 0 0] :: vec 3 (.slice ra s.tr.length rc) (s.tr.map trC).flatten :: vec 1 (.slice (some ⟨qb, qo, none⟩) pts.length qc) (q.map ptrK) :: all ((q.map thK).eraseIdx k) :: R2 := ⟨_, rfl⟩
            have hobs : Obs GG (codeC pt.cw pt.cs) := by rw [hGG]; exact (hcc2.obs _ hccm).there.there.there.there
            have hptr : ∀ d1 d2 : HProp, Rd (d1 :: d2 :: GG) qb (qo + k) (.pointer (some ⟨pt.tb, 0, none⟩)) := fun d1 d2 => by rw [hGG]; exact rd_vec (.there (.there (.there (.there .here)))) (by rw [List.getElem?_map, hqk]; rfl)
            have htrv : ∀ d1 d2 : HProp, Rd (d1 :: d2 :: GG) pb 0 (.slice ra s.tr.length rc) := fun d1 d2 => by rw [hGG]; exact .there (.there (Rd.row0 rfl))
            refine we_star (thC pt.tb (pt.cw.v pt.cs.length) t :: wdC wb s.w :: GG) (fun h st => ?_) ?_
            · rw [hGG]
              have s1 := th_close (y := (av, al)) e1 hr2 st
              refine Ent.star ?_ s1
              exact (.take .here (.take (.there (.there (.there (.there .here)))) .refl))
            refine we_draw (List.range' 0 13) (by kernel_rfl) ?_
            repeat (first
              | (apply ap_pure; exact rfl; exact rfl; exact trivial; intro L; apply mo_index1; exact rfl; exact rfl; exact hc)
              | (apply ap_read; exact rfl; exact rfl; exact trivial; apply mo_load; exact rfl; exact hptr _ _)
              | (apply ap_read; exact rfl; exact rfl; exact trivial; apply mo_load; exact rfl; exact htrv _ _)
              | (apply ap_pure; exact rfl; exact rfl; (first | exact trivial | exact rfl); intro L; apply mo_move; exact rfl)
              | (apply ap_pure; exact rfl; exact rfl; (first | exact trivial | exact rfl); intro L; apply mo_fieldAddr; exact rfl; exact rfl; (first | exact Nat.zero_add _ | exact rfl)))
            refine ap_callR rfl rfl rfl trivial rfl rfl (.cons rfl (.cons rfl .nil)) (op_tr (cw := pt.cw) (cs := pt.cs) (G := GG) hop hgood (by omega) hcl htold .here .here hobs) ?_ ?_
            · rintro v L' x' ⟨rfl, rfl, rfl⟩ p hp
              replace hp := (List.mem_filter.1 hp).1
              simp only [List.mem_cons, List.not_mem_nil, or_false] at hp
              rcases hp with rfl | rfl | rfl | rfl | rfl | rfl | rfl <;> first | exact .inl rfl | exact .inr ⟨_, rfl, trivial, mo_load rfl (htrv _ _)⟩ | exact .inr ⟨_, rfl, trivial, mo_load rfl (hptr _ _)⟩
            rintro v L' x1 ⟨rfl, rfl, rfl⟩
            repeat (first
              | (apply ap_pure; exact rfl; exact rfl; exact trivial; intro L; apply mo_build (pv := [(0, _), (1, _)]); exact rfl; exact .cons rfl (.cons rfl .nil); exact rfl))
            refine ap_loudR rfl rfl rfl rfl trivial (mo_buildSlice (sz := 3) (vs := [.agg #[.int .i64 (k : Nat), .int .u8 (t.mark.1 : Nat), .int .i64 (t.mark.2 : Nat)]]) rfl (.cons rfl .nil) rfl (by intro v hv; cases (List.mem_singleton.1 hv); exact rfl) (by omega)) ?_ ?_
            · rintro v L' ⟨sb, rfl, rfl⟩ p hp
              replace hp := (List.mem_filter.1 hp).1
              rcases List.mem_cons.1 hp with rfl | hp
              · exact .inl rfl
              replace hp := (List.mem_filter.1 hp).1
              simp only [List.mem_cons, List.not_mem_nil, or_false] at hp
              rcases hp with rfl | rfl | rfl | rfl | rfl | rfl | rfl <;> first | exact .inl rfl | exact .inr ⟨_, rfl, trivial, mo_load rfl (.there (htrv _ _))⟩ | exact .inr ⟨_, rfl, trivial, mo_load rfl (.there (hptr _ _))⟩
            rintro v' L' ⟨sb, rfl, rfl⟩
            subst hGG
            refine ap_loud rfl rfl rfl rfl rfl trivial (mo_append (sz := 3) (new := [.int .i64 (k : Nat), .int .u8 (t.mark.1 : Nat), .int .i64 (t.mark.2 : Nat)]) rfl rfl rfl rfl (.there (.there (.there (.there .here)))) rfl (.inr ⟨_, _, rfl, Rds.all .here⟩) (by intro v hv; simp at hv; rcases hv with rfl | rfl | rfl <;> rfl) (by simp only [sliceLen]; omega)) ?_
            rintro v' L' rfl
            refine ap_know (of_has .here (vec_shape (by omega))) ?_
            rintro ⟨ua, un, uc, rfl, _⟩
            repeat (first
              | (apply ap_pure; exact rfl; exact rfl; (first | exact trivial | exact rfl); intro L; apply mo_fieldAddr; exact rfl; exact rfl; (first | exact Nat.zero_add _ | exact rfl)))
            refine ap_loud rfl rfl rfl rfl rfl trivial (mo_store rfl rfl rfl (Wt.row0 (k := 0) (.there (.there (.there (.there .here)))) (Nat.succ_pos 1))) ?_
            rintro v' L' ⟨rfl, rfl⟩
            refine ap_end ?_
            repeat (first
              | (refine we_region _ rfl rfl ?_; simp only [opsOf, List.map_cons, List.map_nil, Option.map_none, Option.map_some, List.getElem?_toArray, List.getElem?_cons_zero, List.getElem?_cons_succ, Option.bind_some, Option.getD_some])
              | refine wo_nil ?_
              | (apply wo_po; apply mo_move; exact rfl; (first | exact trivial | exact rfl))
              | (apply wo_po; apply mo_assign; exact rfl; (first | exact trivial | exact rfl))
              | (apply wo_po; apply mo_bin; exact rfl; exact rfl; apply bin_add; exact wrap_i64 (by omega) (by omega); (first | exact trivial | exact rfl)))
            refine at_roundS (I := rndIn b6 b8 wb pb ov0 tv (.slice (some ⟨qb, qo, none⟩) pts.length qc) pts f r x1 R2) (R := fun i' => pts.length - i'.1 < pts.length - k) (k + 1, true, .slice ua un uc, ⟨w', s.l.set k t', s.tr ++ [(k, t.mark)]⟩, q.set k (pt, t')) (by simp only; omega) ⟨by simp only; omega, hr, by simp only [List.map_set, hq1]; exact set_same hpt, pk'⟩ ⟨rfl, rfl, rfl, rfl, rfl, rfl, rfl, rfl, rfl, trivial⟩ (fun h st => ?_) rfl
            dsimp only [rndIn]
            have s1 : Star (thK (pt, t') :: all ((q.map thK).eraseIdx k) :: arr pb 0 [.slice ua un uc, .slice none 0 0] :: vec 3 (.slice ua un uc) ((s.tr.map trC).flatten ++ trC (k, t.mark)) :: vec 1 (.slice (some ⟨qb, qo, none⟩) pts.length qc) (q.map ptrK) :: wdC wb w' :: R2) h := by
              refine Ent.star ?_ st
              exact (.take (.there (.there .here)) (.take (.there (.there (.there (.there (.there .here))))) (.take (.there (.there (.there .here))) (.take .here (.take (.there (.there .here)) (.take (.there .here) (.drop .refl)))))))
            have s2 := star_put (M := q.map thK) (by simp; omega) s1
            rw [List.map_set, List.map_set, set_same (l := q.map ptrK) (by rw [List.getElem?_map, hqk]; rfl), show ((s.tr ++ [(k, t.mark)]).map trC).flatten = (s.tr.map trC).flatten ++ trC (k, t.mark) by simp]
            refine Ent.star ?_ s2
            exact (.take (.there .here) (.take (.there .here) (.take (.there .here) (.take .here .refl))))
        · rw [round_full (by omega)] at hr
          cases hr
          have hg' : if left = true then Mach.rounds f g s = some st else s = st := by
            dsimp only at hg
            cases left with
            | true => rw [if_pos rfl] at hg ⊢; exact hg
            | false => rw [if_neg (by decide)] at hg ⊢; exact Option.some.inj hg
          repeat (first
            | (apply wo_po; apply mo_bin; exact rfl; exact rfl; apply bin_lssT; omega; (first | exact trivial | exact rfl))
            | (apply wo_po; apply mo_bin; exact rfl; exact rfl; apply bin_lssF; omega; (first | exact trivial | exact rfl))
            | refine we_seq ?_
            | (refine we_region _ rfl rfl ?_; simp only [opsOf, List.map_cons, List.map_nil, Option.map_none, Option.map_some, List.getElem?_toArray, List.getElem?_cons_zero, List.getElem?_cons_succ, Option.bind_some, Option.getD_some])
            | refine wo_nil ?_
            | (apply wo_po; apply mo_move; exact rfl; (first | exact trivial | exact rfl))
            | (apply wo_po; apply mo_pickT; exact rfl; exact rfl; exact rfl; (first | exact trivial | exact rfl))
            | (apply wo_po; apply mo_fieldAddr; exact rfl; exact rfl; (first | exact Nat.zero_add _ | exact rfl); (first | exact trivial | exact rfl))
            | (apply wo_po; apply mo_load; exact rfl; (repeat (first | exact Rd.row0 rfl | exact Rd.row rfl rfl | exact Rd.still | apply Rd.there)); (first | exact trivial | exact rfl))
            | (apply wo_po; apply mo_len; exact rfl; (first | exact trivial | exact rfl))
            | (apply we_condF; exact rfl; (first | exact rfl | (simp <;> omega) | omega))
            | refine we_exit ?_)
          refine at_round (I := rndInv b6 b8 wb pb ov0 tv (.slice qa pts.length qc) pts f st x R2) (R := fun i' => (if i'.2.1 = true then i'.1 + 1 else 0) < (if true = true then g + 1 + 1 else 0)) (g, left, .slice ra s.tr.length rc, s, q) (by dsimp only; rw [if_pos rfl]; split <;> omega) ⟨hg', hq1, pk⟩ ⟨rfl, rfl, rfl, rfl, rfl, rfl, rfl, rfl, trivial⟩ .refl rfl
      · rw [show pts.length - k = 0 by omega] at hr
        cases hr
        have hg' : if left = true then Mach.rounds f g s = some st else s = st := by
          dsimp only at hg
          cases left with
          | true => rw [if_pos rfl] at hg ⊢; exact hg
          | false => rw [if_neg (by decide)] at hg ⊢; exact Option.some.inj hg
        repeat (first
          | (apply wo_po; apply mo_bin; exact rfl; exact rfl; apply bin_lssF; omega; (first | exact trivial | exact rfl))
          | refine we_seq ?_
          | (refine we_region _ rfl rfl ?_; simp only [opsOf, List.map_cons, List.map_nil, Option.map_none, Option.map_some, List.getElem?_toArray, List.getElem?_cons_zero, List.getElem?_cons_succ, Option.bind_some, Option.getD_some])
          | refine wo_nil ?_
          | (apply wo_po; apply mo_move; exact rfl; (first | exact trivial | exact rfl))
          | (apply wo_no; exact rfl)
          | (apply wo_po; apply mo_pickF; exact rfl; exact rfl; exact rfl; (first | exact trivial | exact rfl))
          | (apply wo_po; apply mo_len; exact rfl; (first | exact trivial | exact rfl))
          | (apply we_condF; exact rfl; (first | exact rfl | (simp <;> omega) | omega))
          | refine we_exit ?_)
        refine at_round (I := rndInv b6 b8 wb pb ov0 tv (.slice qa pts.length qc) pts f st x R2) (R := fun i' => (if i'.2.1 = true then i'.1 + 1 else 0) < (if true = true then g + 1 + 1 else 0)) (g, left, .slice ra s.tr.length rc, s, q) (by dsimp only; rw [if_pos rfl]; split <;> omega) ⟨hg', hq1, pk⟩ ⟨rfl, rfl, rfl, rfl, rfl, rfl, rfl, rfl, trivial⟩ .refl rfl
  · rintro ⟨trv, q⟩ ⟨hq1, pk⟩
    dsimp only [playMid] at hq1 pk ⊢
    have hqn2 : q.length = pts.length := by rw [← hq1, List.length_map]
    rw [hR2]
    rw [← hqn2] at hqa ⊢
    exact play_tail3 (by omega) pk.l hqa hqa2 hQ

end Go.Proofs.Ytmkkanmkjfnpdaa
