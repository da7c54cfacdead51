/-
  patchbayref00's Play: what is told of it.
-/
import Derived.Test.YtmkkanmkjfnpdaaMach13
set_option linter.unusedVariables false
set_option linter.unusedSimpArgs false
namespace Go.PB.Mach
/-- who was cut off -/
def St.cut (s : St) : List Nat := (List.range s.l.length).filter fun k => match s.l[k]? with | some t => !t.over | none => false
end Go.PB.Mach
namespace Go.Proofs.Ytmkkanmkjfnpdaa
open Go Go.PB
attribute [local irreducible] Mo Bin Eql Tr Wo Ap

variable {B : Hand} [Lets B] {L F G : List HProp} {x : B.X}

/-- what came of a thread's calls -/
def ansK (y : Value × List (Bool × List Nat)) : HProp := fun h => ∃ al : List (Bool × Value × List Nat), al.map ansOf = y.2 ∧ all [vec 2 y.1 (al.map ansV).flatten, all (al.map ansT)] h
def cI (k : Nat) : Value := .int .i64 (k : Nat)

/-- what Play answers -/
def playR (x : B.X) (F : List HProp) (st : Mach.St) (v : Value) (L' : List HProp) (x' : B.X) : Prop :=
  ∃ trv cutv ansv wv lv : Value, ∃ os : List (Value × List (Bool × List Nat)), v = .tuple #[.agg #[trv, cutv], ansv, .agg #[wv, lv]] ∧ x' = x ∧ os.map (·.2) = st.l.map (·.ans) ∧
    ∀ h, Star L' h → Star (vec 3 trv (st.tr.map trC).flatten :: vec 1 cutv (st.cut.map cI) :: vec 1 ansv (os.map (·.1)) :: all (os.map ansK) :: wvC wv lv st.w :: F) h

omit [Lets B] in
theorem we_wd {kd : CallKind} {n : Nat} {K : Post B} {e : Env} {z : Z} {c : Code} {wb : Nat} {w : Mach.Wd} (hh : Has L (wdC wb w) F) (k : ∀ wv lv, We Try.prog B kd n c K e z (arr wb 0 [wv, lv] :: wvC wv lv w :: F) x) : We Try.prog B kd n c K e z L x :=
  we_ex hh fun y => we_and .here fun e1 => we_and .here fun e2 => we_star (arr wb 0 [y.1, y.2.1] :: wvC y.1 y.2.1 w :: F) (fun h s => star_map (star_open s) (fun _ z => z) (fun _ z => wv_close (wl := y.2.2) e1 e2 z)) (k y.1 y.2.1)

def cutTo (q : List (PT × Mach.Th)) (k : Nat) : List Nat := (List.range k).filter fun j => match q[j]? with | some y => !y.2.over | none => false

theorem cut_succ {q : List (PT × Mach.Th)} {k : Nat} {y : PT × Mach.Th} (h : q[k]? = some y) : cutTo q (k + 1) = if y.2.over = true then cutTo q k else cutTo q k ++ [k] := by
  by_cases ho : y.2.over = true
  · rw [if_pos ho]; unfold cutTo; rw [List.range_succ, List.filter_append]; simp [h, ho]
  · rw [if_neg ho]; unfold cutTo; rw [List.range_succ, List.filter_append]; simp [h, ho]

/-- ahead of telling of thread k -/
def outInv (b6 b8 wb pb : Nat) (lv trv : Value) (q : List (PT × Mach.Th)) (x : B.X) (F : List HProp) : Inv (Nat × Value × Value × List (Value × List (Bool × List Nat))) B.X where
  e := fun i => [(6, .pointer (some ⟨b6, 0, none⟩)), (8, .pointer (some ⟨b8, 0, none⟩)), (9, .pointer (some ⟨wb, 0, none⟩)), (10, lv), (13, .pointer (some ⟨pb, 0, none⟩)), (18, i.2.1), (19, .int .i64 (i.1 : Nat))]
  L := fun i => arr pb 0 [trv, i.2.2.1] :: vec 1 i.2.2.1 ((cutTo q i.1).map cI) :: vec 1 i.2.1 (i.2.2.2.map (·.1)) :: all (i.2.2.2.map ansK) :: all ((q.drop i.1).map thK) :: vec 1 lv (q.map ptrK) :: F
  x := fun _ => x
  ok := fun i => i.1 ≤ q.length ∧ i.2.2.2.map (·.2) = (q.take i.1).map fun y => y.2.ans

/-- behind who was cut off -/
def outMid (b6 b8 wb pb : Nat) (lv trv ov : Value) (q : List (PT × Mach.Th)) (k : Nat) (x : B.X) (L : List HProp) : Inv Value B.X where
  e := fun _ => [(6, .pointer (some ⟨b6, 0, none⟩)), (8, .pointer (some ⟨b8, 0, none⟩)), (9, .pointer (some ⟨wb, 0, none⟩)), (10, lv), (13, .pointer (some ⟨pb, 0, none⟩)), (18, ov), (19, .int .i64 (k : Nat))]
  L := fun i => arr pb 0 [trv, i] :: vec 1 i ((cutTo q (k + 1)).map cI) :: L
  x := fun _ => x
  ok := fun _ => True

set_option maxHeartbeats 8000000 in
theorem play_tail3 {um : FrameMode} {Q : End → FrameMode → Hp → B.X → Prop} {b6 b8 wb pb : Nat} {ov0 tv trv : Value} {st : Mach.St} {q : List (PT × Mach.Th)} {qa : Option Addr} {qc : Nat} (hqn : q.length < 1000)
    (hl : q.map (·.2) = st.l) (hqa : qa = none → q.length = 0) (hqa2 : ∀ y, qa = some y → y = ⟨y.block, y.off, none⟩)
    (hQ : ∀ v L' x' h', playR x F st v L' x' → Star L' h' → Q (.ret v) um h' x') :
    We Try.prog B .normal 159 (seqTail 8 ((Try.f31.body).getD .skip)) (leave Try.prog B 31 .normal Q)
      [(1, ov0), (2, tv), (6, .pointer (some ⟨b6, 0, none⟩)), (8, .pointer (some ⟨b8, 0, none⟩)), (9, .pointer (some ⟨wb, 0, none⟩)), (10, .slice qa q.length qc), (13, .pointer (some ⟨pb, 0, none⟩))] ⟨[], um⟩
      (arr pb 0 [trv, .slice none 0 0] :: vec 3 trv (st.tr.map trC).flatten :: vec 1 (.slice qa q.length qc) (q.map ptrK) :: all (q.map thK) :: wdC wb st.w :: arr b6 0 [.slice none 0 0, .slice none 0 0] :: arr b8 0 [.slice none 0 0, .slice none 0 0] :: F) x := by
  obtain ⟨F2, hF2⟩ : ∃ F2, F2 = vec 3 trv (st.tr.map trC).flatten :: wdC wb st.w :: arr b6 0 [.slice none 0 0, .slice none 0 0] :: arr b8 0 [.slice none 0 0, .slice none 0 0] :: F := ⟨_, rfl⟩
  repeat (first
    | refine we_seq ?_
    | (refine we_region _ rfl rfl ?_; simp only [opsOf, List.map_cons, List.map_nil, Option.map_none, Option.map_some, List.getElem?_toArray, List.getElem?_cons_zero, List.getElem?_cons_succ, Option.bind_some, Option.getD_some])
    | refine wo_nil ?_
    | (apply wo_po; apply mo_assign; exact rfl; (first | exact trivial | exact rfl)))
  refine we_block ?_
  refine we_star ((outInv b6 b8 wb pb (.slice qa q.length qc) trv q x F2).L (0, .slice none 0 0, .slice none 0 0, [])) (fun h hs => ?_) ?_
  · rw [hF2]
    have s1 : Star (arr pb 0 [trv, .slice none 0 0] :: all (q.map thK) :: vec 1 (.slice qa q.length qc) (q.map ptrK) :: vec 3 trv (st.tr.map trC).flatten :: wdC wb st.w :: arr b6 0 [.slice none 0 0, .slice none 0 0] :: arr b8 0 [.slice none 0 0, .slice none 0 0] :: F) h := by
      refine Ent.star ?_ hs
      repeat (first | exact Ent.refl | (apply Ent.take; (repeat (first | exact Has.here | apply Has.there))) | apply Ent.drop)
    exact star_map s1 (fun _ z => z) (fun _ z => vec_nil (vec_nil (star_shut (M := []) z)))
  refine we_loopN (outInv b6 b8 wb pb (.slice qa q.length qc) trv q x F2) (fun i => q.length - i.1) (0, .slice none 0 0, .slice none 0 0, []) ⟨Nat.zero_le _, rfl⟩ ⟨rfl, rfl, rfl, rfl, rfl, rfl, rfl, trivial⟩ .refl rfl ?_
  rintro ⟨k, ov, cutv, os⟩ ⟨hk, hos⟩
  dsimp only [outInv] at hk hos ⊢
  have hosn : os.length = k := by have := congrArg List.length hos; simpa [Nat.min_eq_left hk] using this
  by_cases hc : k < q.length
  · obtain ⟨⟨pt, t⟩, hqk⟩ : ∃ z, q[k]? = some z := ⟨q[k], by simp [hc]⟩
    obtain ⟨⟨qb, qo, sp⟩, rfl⟩ : ∃ z, qa = some z := by
      cases qa with
      | none => have : q.length = 0 := hqa rfl; omega
      | some z => exact ⟨z, rfl⟩
    cases hqa2 _ rfl
    have hdrop : q.drop k = (pt, t) :: q.drop (k + 1) := by
      rw [List.drop_eq_getElem_cons hc]
      congr 1
      exact Option.some.inj (by rw [← hqk]; simp)
    refine we_star (thK (pt, t) :: arr pb 0 [trv, cutv] :: vec 1 cutv ((cutTo q k).map cI) :: vec 1 ov (os.map (·.1)) :: all (os.map ansK) :: all ((q.drop (k + 1)).map thK) :: vec 1 (.slice (some ⟨qb, qo, none⟩) q.length qc) (q.map ptrK) :: F2) (fun h hs => ?_) ?_
    · rw [hdrop] at hs
      have s1 : Star (all (thK (pt, t) :: (q.drop (k + 1)).map thK) :: arr pb 0 [trv, cutv] :: vec 1 cutv ((cutTo q k).map cI) :: vec 1 ov (os.map (·.1)) :: all (os.map ansK) :: vec 1 (.slice (some ⟨qb, qo, none⟩) q.length qc) (q.map ptrK) :: F2) h := by
        refine Ent.star ?_ hs
        exact (.take (.there (.there (.there (.there .here)))) .refl)
      have s2 := star_pick (i := 0) (c := thK (pt, t)) rfl s1
      refine Ent.star ?_ s2
      exact (.take .here (.take (.there .here) (.take (.there .here) (.take (.there .here) (.take (.there .here) .refl)))))
    refine we_ex .here fun y => we_and .here fun e1 => we_and .here fun hr => we_open .here ?_
    obtain ⟨av, al⟩ := y
    dsimp only at e1
    refine we_pure (of_has (.there .here) (vec_shape (by omega))) ?_
    rintro ⟨aa, an, ac, hav, _⟩
    dsimp only at hav
    subst hav
    refine we_pure (of_has (.there (.there (.there (.there .here)))) (vec_shape (by omega))) ?_
    rintro ⟨ca, cn, cc, hcv, hcn, _⟩
    subst hcv
    have hcnn : cn = (cutTo q k).length := by simpa using hcn.symm
    have hcl : (cutTo q k).length ≤ k := by unfold cutTo; exact Nat.le_trans (List.length_filter_le _ _) (by simp)
    subst hcnn
    refine we_pure (of_has (.there (.there (.there (.there (.there .here))))) (vec_shape (by omega))) ?_
    rintro ⟨oa, on, oc, hov, hon, _⟩
    subst hov
    have honn : on = os.length := by simpa using hon.symm
    subst honn
    obtain ⟨LL, hLL⟩ : ∃ LL, LL = vec 2 (.slice aa an ac) (al.map ansV).flatten :: all (al.map ansT) :: vec 1 (.slice oa os.length oc) (os.map (·.1)) :: all (os.map ansK) :: all ((q.drop (k + 1)).map thK) :: vec 1 (.slice (some ⟨qb, qo, none⟩) q.length qc) (q.map ptrK) :: F2 := ⟨_, rfl⟩
    refine we_star (arr pb 0 [trv, .slice ca (cutTo q k).length cc] :: vec 1 (.slice ca (cutTo q k).length cc) ((cutTo q k).map cI) :: arr pt.tb 0 (thCells pt.cv t (.slice aa an ac)) :: LL) (fun h hs => ?_) ?_
    · rw [hLL]
      refine Ent.star ?_ hs
      exact (.take (.there (.there (.there .here))) (.take (.there (.there (.there .here))) .refl))
    have hptr : ∀ d1 d2 d3 : HProp, Rd (d1 :: d2 :: d3 :: LL) qb (qo + k) (.pointer (some ⟨pt.tb, 0, none⟩)) := fun d1 d2 d3 => by rw [hLL]; exact rd_vec (.there (.there (.there (.there (.there (.there (.there (.there .here)))))))) (by rw [List.getElem?_map, hqk]; rfl)
    have hover : ∀ d1 d2 : HProp, Rd (d1 :: d2 :: arr pt.tb 0 (thCells pt.cv t (.slice aa an ac)) :: LL) pt.tb 28 (.bool t.over) := fun d1 d2 => .there (.there (Rd.row0 rfl))
    have hansv : ∀ d1 d2 : HProp, Rd (d1 :: d2 :: arr pt.tb 0 (thCells pt.cv t (.slice aa an ac)) :: LL) pt.tb 27 (.slice aa an ac) := fun d1 d2 => .there (.there (Rd.row0 rfl))
    repeat (first
      | (apply wo_po; apply mo_bin; exact rfl; exact rfl; apply bin_lssT; omega; (first | exact trivial | exact rfl))
      | refine we_seq ?_
      | (refine we_region _ rfl rfl ?_; simp only [opsOf, List.map_cons, List.map_nil, Option.map_none, Option.map_some, List.getElem?_toArray, List.getElem?_cons_zero, List.getElem?_cons_succ, Option.bind_some, Option.getD_some])
      | refine wo_nil ?_
      | (apply wo_po; apply mo_move; exact rfl; (first | exact trivial | exact rfl))
      | (apply wo_po; apply mo_len; exact rfl; (first | exact trivial | exact rfl))
      | (apply we_condT; exact rfl; (first | exact rfl | (simp <;> omega) | omega))
      | refine we_skip ?_)
    refine we_block ?_
    refine we_seq ?_
    refine we_join (outMid b6 b8 wb pb (.slice (some ⟨qb, qo, none⟩) q.length qc) trv (.slice oa os.length oc) q k x (arr pt.tb 0 (thCells pt.cv t (.slice aa an ac)) :: LL)) ?_ ?_
    · have hcs := cut_succ hqk
      cases hto : t.over with
      | true =>
        rw [hto] at hover
        rw [if_pos hto] at hcs
        repeat (first
          | (apply wo_po; apply mo_index1; exact rfl; exact rfl; omega; exact trivial)
          | (apply wo_po; apply mo_load; exact rfl; exact hptr _ _ _; exact trivial)
          | (apply wo_po; apply mo_load; exact rfl; exact hover _ _; exact trivial)
          | refine we_seq ?_
          | (refine we_region _ rfl rfl ?_; simp only [opsOf, List.map_cons, List.map_nil, Option.map_none, Option.map_some, List.getElem?_toArray, List.getElem?_cons_zero, List.getElem?_cons_succ, Option.bind_some, Option.getD_some])
          | refine wo_nil ?_
          | (apply wo_po; apply mo_move; exact rfl; (first | exact trivial | exact rfl))
          | (apply wo_po; apply mo_nilCheck; exact rfl; (first | exact trivial | exact rfl))
          | (apply wo_po; apply mo_fieldAddr; exact rfl; exact rfl; (first | exact Nat.zero_add _ | exact rfl); (first | exact trivial | exact rfl))
          | (apply wo_po; apply mo_not; exact rfl; (first | exact trivial | exact rfl))
          | (apply we_condF; exact rfl; (first | exact rfl | (simp <;> omega) | omega))
          | refine we_skip ?_)
        refine at_mid (I := outMid b6 b8 wb pb (.slice (some ⟨qb, qo, none⟩) q.length qc) trv (.slice oa os.length oc) q k x (arr pt.tb 0 (thCells pt.cv t (.slice aa an ac)) :: LL)) (.slice ca (cutTo q k).length cc) trivial ⟨rfl, rfl, rfl, rfl, rfl, rfl, rfl, trivial⟩ (ent_eq ?_) rfl
        dsimp only [outMid]
        rw [hcs]
      | false =>
        rw [hto] at hover
        rw [if_neg (by simp [hto])] at hcs
        repeat (first
          | (apply wo_po; apply mo_index1; exact rfl; exact rfl; omega; exact trivial)
          | (apply wo_po; apply mo_load; exact rfl; exact hptr _ _ _; exact trivial)
          | (apply wo_po; apply mo_load; exact rfl; exact hover _ _; exact trivial)
          | (apply wo_mo; apply mo_buildSlice (sz := 1) (vs := [cI k]); exact rfl; exact .cons rfl .nil; exact rfl; (intro v hv; cases (List.mem_singleton.1 hv); exact rfl); omega; exact trivial)
          | refine we_seq ?_
          | (refine we_region _ rfl rfl ?_; simp only [opsOf, List.map_cons, List.map_nil, Option.map_none, Option.map_some, List.getElem?_toArray, List.getElem?_cons_zero, List.getElem?_cons_succ, Option.bind_some, Option.getD_some])
          | refine wo_nil ?_
          | (apply wo_po; apply mo_move; exact rfl; (first | exact trivial | exact rfl))
          | (apply wo_po; apply mo_nilCheck; exact rfl; (first | exact trivial | exact rfl))
          | (apply wo_po; apply mo_fieldAddr; exact rfl; exact rfl; (first | exact Nat.zero_add _ | exact rfl); (first | exact trivial | exact rfl))
          | (apply wo_po; apply mo_not; exact rfl; (first | exact trivial | exact rfl))
          | (apply wo_po; apply mo_load; exact rfl; (repeat (first | exact Rd.row0 rfl | exact Rd.row rfl rfl | exact Rd.still | apply Rd.there)); (first | exact trivial | exact rfl))
          | (apply we_condT; exact rfl; (first | exact rfl | (simp <;> omega) | omega)))
        rintro v' L' ⟨sb, rfl, rfl⟩
        repeat (first
          | (apply wo_mo; apply mo_append (sz := 1) (new := [cI k]); exact rfl; exact rfl; exact rfl; exact rfl; exact (.there (.there .here)); exact rfl; exact .inr ⟨_, _, rfl, Rds.all .here⟩; (intro v hv; cases (List.mem_singleton.1 hv); exact rfl); (simp only [sliceLen]; omega); exact trivial))
        rintro v' L' rfl
        refine wo_pure (of_has .here (vec_shape (by omega))) ?_
        rintro ⟨ua, un, uc, rfl, _⟩
        repeat (first
          | (apply wo_pm; apply mo_store; exact rfl; exact rfl; exact rfl; apply Wt.row0; (repeat (first | exact Foc.here | apply Foc.there)); (first | exact Nat.lt_of_sub_eq_succ rfl | omega); (first | exact trivial | exact rfl))
          | refine wo_nil ?_
          | (apply wo_po; apply mo_fieldAddr; exact rfl; exact rfl; (first | exact Nat.zero_add _ | exact rfl); (first | exact trivial | exact rfl)))
        refine at_mid (I := outMid b6 b8 wb pb (.slice (some ⟨qb, qo, none⟩) q.length qc) trv (.slice oa os.length oc) q k x (arr pt.tb 0 (thCells pt.cv t (.slice aa an ac)) :: LL)) (.slice ua un uc) trivial ⟨rfl, rfl, rfl, rfl, rfl, rfl, rfl, trivial⟩ ?_ rfl
        dsimp only [outMid]
        rw [hcs, show (cutTo q k ++ [k]).map cI = (cutTo q k).map cI ++ [cI k] by simp]
        exact (.take (.there (.there .here)) (.take .here (.drop .refl)))
    · intro cutv2 _
      dsimp only [outMid]
      repeat (first
        | (apply wo_po; apply mo_index1; exact rfl; exact rfl; omega; exact trivial)
        | (apply wo_po; apply mo_load; exact rfl; exact hptr _ _ _; exact trivial)
        | (apply wo_po; apply mo_load; exact rfl; exact hansv _ _; exact trivial)
        | (apply wo_mo; apply mo_buildSlice (sz := 1) (vs := [.slice aa an ac]); exact rfl; exact .cons rfl .nil; exact rfl; (intro v hv; cases (List.mem_singleton.1 hv); exact rfl); omega; exact trivial)
        | (refine we_region _ rfl rfl ?_; simp only [opsOf, List.map_cons, List.map_nil, Option.map_none, Option.map_some, List.getElem?_toArray, List.getElem?_cons_zero, List.getElem?_cons_succ, Option.bind_some, Option.getD_some])
        | (apply wo_po; apply mo_move; exact rfl; (first | exact trivial | exact rfl))
        | (apply wo_po; apply mo_nilCheck; exact rfl; (first | exact trivial | exact rfl))
        | (apply wo_po; apply mo_fieldAddr; exact rfl; exact rfl; (first | exact Nat.zero_add _ | exact rfl); (first | exact trivial | exact rfl)))
      rintro v' L' ⟨sb, rfl, rfl⟩
      refine wo_ent (arr sb 0 [.slice aa an ac] :: arr pb 0 [trv, cutv2] :: vec 1 cutv2 ((cutTo q (k + 1)).map cI) :: arr pt.tb 0 (thCells pt.cv t (.slice aa an ac)) :: vec 2 (.slice aa an ac) (al.map ansV).flatten :: all (al.map ansT) :: vec 1 (.slice oa os.length oc) (os.map (·.1)) :: all (os.map ansK) :: all ((q.drop (k + 1)).map thK) :: vec 1 (.slice (some ⟨qb, qo, none⟩) q.length qc) (q.map ptrK) :: F2) (ent_eq (by rw [hLL]; rfl)) ?_
      repeat (first
        | (apply wo_mo; apply mo_append (sz := 1) (new := [.slice aa an ac]); exact rfl; exact rfl; exact rfl; exact rfl; exact (.there (.there (.there (.there (.there (.there .here)))))); exact rfl; exact .inr ⟨_, _, rfl, Rds.all .here⟩; (intro v hv; cases (List.mem_singleton.1 hv); exact rfl); (simp only [sliceLen]; omega); exact trivial))
      rintro v' L' rfl
      repeat (first
        | (refine we_region _ rfl rfl ?_; simp only [opsOf, List.map_cons, List.map_nil, Option.map_none, Option.map_some, List.getElem?_toArray, List.getElem?_cons_zero, List.getElem?_cons_succ, Option.bind_some, Option.getD_some])
        | refine wo_nil ?_
        | (apply wo_po; apply mo_move; exact rfl; (first | exact trivial | exact rfl))
        | (apply wo_po; apply mo_assign; exact rfl; (first | exact trivial | exact rfl))
        | (apply wo_po; apply mo_bin; exact rfl; exact rfl; apply bin_add; exact wrap_i64 (by omega) (by omega); (first | exact trivial | exact rfl)))
      refine at_roundS (I := outInv b6 b8 wb pb (.slice (some ⟨qb, qo, none⟩) q.length qc) trv q x F2) (R := fun i' => q.length - i'.1 < q.length - k) (k + 1, v', cutv2, os ++ [(.slice aa an ac, t.ans)]) (by simp only; omega) ⟨by simp only; omega, ?_⟩ ⟨rfl, rfl, rfl, rfl, rfl, rfl, rfl, trivial⟩ (fun h hs => ?_) rfl
      · simp only [List.map_append, List.map_cons, List.map_nil, hos]
        rw [List.take_add_one, hqk, List.map_append]; rfl
      · dsimp only [outInv]
        rw [List.map_append, List.map_append]
        have s1 : Star (vec 2 (.slice aa an ac) (al.map ansV).flatten :: all (al.map ansT) :: all (os.map ansK) :: arr pb 0 [trv, cutv2] :: vec 1 cutv2 ((cutTo q (k + 1)).map cI) :: vec 1 v' (os.map (·.1) ++ [.slice aa an ac]) :: all ((q.drop (k + 1)).map thK) :: vec 1 (.slice (some ⟨qb, qo, none⟩) q.length qc) (q.map ptrK) :: F2) h := by
          refine Ent.star ?_ hs
          exact (.take (.there (.there (.there (.there (.there .here))))) (.take (.there (.there (.there (.there (.there .here))))) (.take (.there (.there (.there (.there (.there .here))))) (.take (.there (.there .here)) (.take (.there (.there .here)) (.take .here (.take (.there (.there .here)) (.take (.there (.there .here)) (.drop (.drop .refl))))))))))
        have s2 : Star (ansK (.slice aa an ac, t.ans) :: all (os.map ansK) :: _) h := star_map (star_shut (M := [_, _]) s1) (fun _ z => ⟨al, e1, z⟩) (fun _ z => z)
        have s3 := star_push s2
        refine Ent.star ?_ s3
        exact (.take (.there .here) (.take (.there .here) (.take (.there .here) (.take .here .refl))))
  · have hk2 : k = q.length := by omega
    subst hk2
    rw [List.take_length] at hos
    repeat (first
      | (apply wo_po; apply mo_bin; exact rfl; exact rfl; apply bin_lssF; omega; (first | exact trivial | exact rfl))
      | refine we_seq ?_
      | (refine we_region _ rfl rfl ?_; simp only [opsOf, List.map_cons, List.map_nil, Option.map_none, Option.map_some, List.getElem?_toArray, List.getElem?_cons_zero, List.getElem?_cons_succ, Option.bind_some, Option.getD_some])
      | refine wo_nil ?_
      | (apply wo_po; apply mo_move; exact rfl; (first | exact trivial | exact rfl))
      | (apply wo_po; apply mo_len; exact rfl; (first | exact trivial | exact rfl))
      | (apply we_condF; exact rfl; (first | exact rfl | (simp <;> omega) | omega))
      | refine we_exit ?_)
    subst hF2
    refine we_pure (of_has (.there (.there (.there (.there (.there (.there .here)))))) (vec_shape (by omega))) ?_
    rintro ⟨ra, rn, rc, rfl, _⟩
    refine we_pure (of_has (.there .here) (vec_shape (by omega))) ?_
    rintro ⟨ca, cn, cc, rfl, _⟩
    refine we_wd (wb := wb) (w := st.w) (.there (.there (.there (.there (.there (.there (.there .here))))))) fun wv lv => ?_
    refine we_pure (of_has (.there .here) wv_shape) ?_
    rintro ⟨⟨wa, wn, wc, rfl⟩, la, ln, lc, rfl⟩
    obtain ⟨F3, hF3⟩ : ∃ F3, F3 = wvC (.slice wa wn wc) (.slice la ln lc) st.w :: vec 1 (.slice ca cn cc) ((cutTo q q.length).map cI) :: vec 1 ov (os.map (·.1)) :: all (os.map ansK) :: vec 3 (.slice ra rn rc) (st.tr.map trC).flatten :: F := ⟨_, rfl⟩
    refine we_star (arr wb 0 [.slice wa wn wc, .slice la ln lc] :: arr pb 0 [.slice ra rn rc, .slice ca cn cc] :: arr b6 0 [.slice none 0 0, .slice none 0 0] :: arr b8 0 [.slice none 0 0, .slice none 0 0] :: F3) (fun h hs => ?_) ?_
    · rw [hF3]
      refine Ent.star ?_ hs
      exact (.take .here (.take (.there .here) (.take (.there (.there (.there (.there (.there (.there (.there .here))))))) (.take (.there (.there (.there (.there (.there (.there (.there .here))))))) (.take .here (.take .here (.take .here (.take .here (.take (.there (.there .here)) (.drop (.drop .refl)))))))))))
    have hrp : ∀ {F3 : List HProp}, Rds (arr wb 0 [.slice wa wn wc, .slice la ln lc] :: arr pb 0 [.slice ra rn rc, .slice ca cn cc] :: F3) pb 0 [.slice ra rn rc, .slice ca cn cc] := fun {F3} => Rds.all (.there .here)
    have hrw : ∀ {F3 : List HProp}, Rds (arr wb 0 [.slice wa wn wc, .slice la ln lc] :: F3) wb 0 [.slice wa wn wc, .slice la ln lc] := fun {F3} => Rds.all .here
    refine we_draw (List.range' 0 6) (by kernel_rfl) ?_
    repeat (first
      | (apply ap_read; exact rfl; exact rfl; exact trivial; apply mo_loadA (vs := [.slice ra rn rc, .slice ca cn cc]); exact rfl; exact rfl; exact hrp)
      | (apply ap_read; exact rfl; exact rfl; exact trivial; apply mo_loadA (vs := [.slice wa wn wc, .slice la ln lc]); exact rfl; exact rfl; exact hrw)
      | (apply ap_pure; exact rfl; exact rfl; (first | exact trivial | exact rfl); intro L; apply mo_move; exact rfl))
    refine ap_loudR rfl rfl rfl rfl trivial (mo_storeA (c := 0) (k := 0) (a := 0) (vs := [.slice none 0 0, .slice none 0 0]) rfl rfl rfl (by intro w hw; simp [Value.cells] at hw; rcases hw with rfl | rfl <;> rfl) rfl (Nat.le_refl 2) (.there (.there .here))) ?_ ?_
    · rintro v L' ⟨rfl, rfl⟩ p hp
      replace hp := (List.mem_filter.1 hp).1
      simp only [List.mem_cons, List.not_mem_nil, or_false] at hp
      rcases hp with rfl | rfl | rfl <;> first | exact .inl rfl | exact .inr ⟨_, rfl, trivial, mo_loadA (vs := [.slice wa wn wc, .slice la ln lc]) rfl rfl hrw⟩ | exact .inr ⟨_, rfl, trivial, mo_loadA (vs := [.slice ra rn rc, .slice ca cn cc]) rfl rfl hrp⟩
    rintro v' L' ⟨rfl, rfl⟩
    repeat (first
      | (apply ap_pure; exact rfl; exact rfl; (first | exact trivial | exact rfl); intro L; apply mo_assign; exact rfl))
    refine ap_loud rfl rfl rfl rfl rfl trivial (mo_storeA (c := 0) (k := 0) (a := 0) (vs := [.slice none 0 0, .slice none 0 0]) rfl rfl rfl (by intro w hw; simp [Value.cells] at hw; rcases hw with rfl | rfl <;> rfl) rfl (Nat.le_refl 2) (.there (.there (.there .here)))) ?_
    rintro v' L' ⟨rfl, rfl⟩
    refine ap_end ?_
    repeat (first
      | refine we_ret ?_)
    refine at_leaveM (rs := [.cell 6 91, .tmp 7, .cell 8 32]) Try.func31 Try.results31 hQ (.inl rfl) (.cons (.cell (vs := [.slice ra rn rc, .slice ca cn cc]) rfl rfl (Rds.all (.there (.there .here)))) (.cons (.tmp rfl) (.cons (.cell (vs := [.slice wa wn wc, .slice la ln lc]) rfl rfl (Rds.all (.there (.there (.there .here))))) .nil))) ?_
    refine ⟨.slice ra rn rc, .slice ca cn cc, ov, .slice wa wn wc, .slice la ln lc, os, rfl, rfl, ?_, fun h hs => ?_⟩
    · rw [hos, ← hl, List.map_map]; rfl
    · have hcut : cutTo q q.length = st.cut := by
        unfold cutTo Mach.St.cut
        rw [← hl, List.length_map]
        congr 1
        funext j
        rw [List.getElem?_map]
        cases q[j]? <;> rfl
      rw [hF3, hcut] at hs
      refine Ent.star ?_ hs
      exact (.take (.there (.there (.there (.there (.there (.there (.there (.there .here)))))))) (.take (.there (.there (.there (.there (.there .here))))) (.take (.there (.there (.there (.there (.there .here))))) (.take (.there (.there (.there (.there (.there .here))))) (.take (.there (.there (.there (.there .here)))) (.drop (.drop (.drop (.drop .refl)))))))))

end Go.Proofs.Ytmkkanmkjfnpdaa
