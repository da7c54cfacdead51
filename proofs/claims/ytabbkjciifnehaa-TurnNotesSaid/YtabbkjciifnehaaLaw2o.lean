/-
  patchbaylaw02: TurnNotes' walk.
-/
import Derived.Test.YtabbkjciifnehaaLaw2n
set_option linter.unusedVariables false
set_option linter.unusedSimpArgs false
namespace Go.Proofs.Ytabbkjciifnehaa
open Go Go.PB
attribute [local irreducible] Mo Bin Eql Tr Wo Ap Wle
attribute [local instance] Pass.of_no

def mcs (l : List (Int × Nat)) : List Value := (l.map mark2).flatten
/-- a slice of n marks, whatever they are -/
def anyM (v : Value) (n : Nat) : HProp := fun h => ∃ cs : List Value, cs.length = n * 2 ∧ vec 2 v cs h

def noteInv (lv mv : Value) (nb : Nat) (m : List (Int × Nat)) (L : List HProp) : PB.Inv Nat MX where
  e := fun i => [(0, lv), (3, .pointer (some ⟨nb, 0, none⟩)), (4, mv), (5, .int .i64 (i : Nat))]
  L := fun i => notesC nb (m.take i) :: vec 2 mv (mcs m) :: L
  x := fun _ => .idle
  ok := fun i => i ≤ m.length
def wipeInv (lv mv av bv : Value) (nb : Nat) (n : Nat) (L : List HProp) : PB.Inv Nat MX where
  e := fun i => [(0, lv), (3, .pointer (some ⟨nb, 0, none⟩)), (4, mv), (6, av), (7, bv), (8, .int .i64 (i : Nat))]
  L := fun i => anyM av n :: L
  x := fun _ => .idle
  ok := fun i => i ≤ n

set_option maxHeartbeats 4000000 in
theorem notes_tr {L : List HProp} {a : Option Addr} {n c : Nat} {l : List Int} (hr : RdsO L a n (ints l)) (hl : ∀ v ∈ l, -9223372036854775808 ≤ v ∧ v ≤ 9223372036854775807) (hb : n ≤ 9223372036854775807) :
    Tr Try.prog mT 9 [.slice a n c] L .idle fun v L' x' => v = .bool true ∧ x' = .idle := by
  refine tr_of_body Try.func9 rfl Try.ntmps9 (by simp) fun um Q _ hQ => ?_
  simp only [argE, Nat.zero_add, Nat.reduceAdd]
  repeat (first
    | refine we_seq ?_
    | (refine we_region _ rfl rfl ?_; simp only [opsOf, List.map_cons, List.map_nil, Option.map_none, Option.map_some, List.getElem?_toArray, List.getElem?_cons_zero, List.getElem?_cons_succ, Option.bind_some, Option.getD_some])
    | refine wo_nil ?_
    | (apply wo_po; apply mo_assign; exact rfl; (first | exact trivial | exact rfl)))
  refine wo_call .nil trivial awake_tr ?_
  rintro v1 L1 x1 ⟨rfl, rfl, rfl⟩
  repeat (first
    | refine we_seq ?_
    | (refine we_region _ rfl rfl ?_; simp only [opsOf, List.map_cons, List.map_nil, Option.map_none, Option.map_some, List.getElem?_toArray, List.getElem?_cons_zero, List.getElem?_cons_succ, Option.bind_some, Option.getD_some])
    | refine wo_nil ?_
    | (apply wo_po; apply mo_not; exact rfl; (first | exact trivial | exact rfl))
    | (apply we_condF; exact rfl; (first | exact rfl | (simp <;> omega) | omega))
    | refine we_skip ?_)
  refine wo_call .nil trivial new_notes_tr ?_
  rintro v1 L2 x1 ⟨nb, rfl, rfl, rfl⟩
  repeat (first
    | refine we_seq ?_
    | (refine we_region _ rfl rfl ?_; simp only [opsOf, List.map_cons, List.map_nil, Option.map_none, Option.map_some, List.getElem?_toArray, List.getElem?_cons_zero, List.getElem?_cons_succ, Option.bind_some, Option.getD_some])
    | refine wo_nil ?_
    | (apply wo_po; apply mo_move; exact rfl; (first | exact trivial | exact rfl))
    | (apply wo_po; apply mo_assign; exact rfl; (first | exact trivial | exact rfl))
    | (apply wo_po; apply mo_bin; exact rfl; exact rfl; apply bin_eq; apply eql_ptr_nil; (first | exact trivial | exact rfl))
    | (apply we_condF; exact rfl; (first | exact rfl | (simp <;> omega) | omega))
    | refine we_skip ?_)
  refine wo_call (.cons rfl .nil) trivial (marks_of_tr hr.there hl hb) ?_
  rintro mv L2 x1 ⟨rfl, rfl⟩
  have hm60 : (mkF l).length ≤ 60 := by unfold mkF; simp; omega
  obtain ⟨m, hm⟩ : ∃ m, mkF l = m := ⟨_, rfl⟩
  rw [hm] at hm60 ⊢
  refine wo_pure (of_has .here (vec_shape (by omega))) ?_
  rintro ⟨ma, mn, mc, rfl, hmn, _, hmz, hmy⟩
  have hmn : mn = m.length := by rw [flat2] at hmn; omega
  subst hmn
  have hmz' : ma = none → m = [] := fun h => List.length_eq_zero_iff.1 (hmz h)
  repeat (first
    | refine we_seq ?_
    | (refine we_region _ rfl rfl ?_; simp only [opsOf, List.map_cons, List.map_nil, Option.map_none, Option.map_some, List.getElem?_toArray, List.getElem?_cons_zero, List.getElem?_cons_succ, Option.bind_some, Option.getD_some])
    | refine wo_nil ?_
    | (apply wo_po; apply mo_assign; exact rfl; (first | exact trivial | exact rfl))
    | refine we_block ?_)
  refine we_ent (notesC nb (m.take 0) :: vec 2 (.slice ma m.length mc) (mcs m) :: L1) (.take (.there .here) (.take .here .refl)) ?_
  refine we_loopN (noteInv (.slice a n c) (.slice ma m.length mc) nb m L1) (fun i => m.length - i) 0 (Nat.zero_le _) ⟨rfl, rfl, rfl, rfl, trivial⟩ .refl rfl ?_
  intro i hi
  replace hi : i ≤ m.length := hi
  simp only [noteInv]
  by_cases hlt : i < m.length
  · obtain ⟨b, o, hmb⟩ : ∃ b o, ma = some ⟨b, o, none⟩ := by
      cases ma with
      | none => rw [hmz' rfl] at hlt; simp at hlt
      | some y => exact ⟨y.block, y.off, by rw [hmy y rfl]⟩
    subst hmb
    obtain ⟨b2, o2, e2, hrm⟩ := RdM.vec (L := notesC nb (m.take i) :: vec 2 (.slice (some ⟨b, o, none⟩) m.length mc) (mcs m) :: L1) (.there .here) hmy hmz' i m[i] (List.getElem?_eq_getElem hlt)
    cases e2
    repeat (first
      | (apply wo_po; apply mo_index2; exact rfl; exact rfl; omega; (first | exact trivial | exact rfl))
      | (apply wo_po; apply mo_loadA (vs := [.int .u8 m[i].1, .int .i64 (m[i].2 : Nat)]); exact rfl; exact rfl; exact hrm; exact trivial)
      | (apply wo_po; apply mo_bin; exact rfl; exact rfl; apply bin_lssT; omega; (first | exact trivial | exact rfl))
      | refine we_seq ?_
      | (refine we_region _ rfl rfl ?_; simp only [opsOf, List.map_cons, List.map_nil, Option.map_none, Option.map_some, List.getElem?_toArray, List.getElem?_cons_zero, List.getElem?_cons_succ, Option.bind_some, Option.getD_some])
      | refine wo_nil ?_
      | (apply wo_po; apply mo_move; exact rfl; (first | exact trivial | exact rfl))
      | (apply wo_po; apply mo_len; exact rfl; (first | exact trivial | exact rfl))
      | (apply we_condT; exact rfl; (first | exact rfl | (simp <;> omega) | omega))
      | refine we_skip ?_
      | refine we_block ?_)
    refine wo_call (.cons rfl (.cons rfl .nil)) trivial (notes_step_tr (by simp; omega) .here) ?_
    rintro v1 L2 x1 ⟨rfl, rfl, rfl⟩
    rw [show m.take i ++ [(m[i].1, m[i].2)] = m.take (i + 1) from (List.take_succ_eq_append_getElem hlt).symm]
    repeat (first
      | (refine we_region _ rfl rfl ?_; simp only [opsOf, List.map_cons, List.map_nil, Option.map_none, Option.map_some, List.getElem?_toArray, List.getElem?_cons_zero, List.getElem?_cons_succ, Option.bind_some, Option.getD_some])
      | refine wo_nil ?_
      | (apply wo_po; apply mo_move; exact rfl; (first | exact trivial | exact rfl))
      | (apply wo_po; apply mo_assign; exact rfl; (first | exact trivial | exact rfl))
      | (apply wo_po; apply mo_bin; exact rfl; exact rfl; apply bin_add; exact wrap_i64 (by omega) (by omega); (first | exact trivial | exact rfl)))
    refine at_round (B := mT) (I := noteInv (.slice a n c) (.slice (some ⟨b, o, none⟩) m.length mc) nb m L1) (R := fun j => m.length - j < m.length - i) (i + 1) (by omega) (show i + 1 ≤ m.length by omega) ?_ .refl rfl
    exact ⟨rfl, rfl, rfl, rfl, trivial⟩
  obtain rfl : i = m.length := by omega
  rw [List.take_length]
  repeat (first
    | (apply wo_po; apply mo_bin; exact rfl; exact rfl; apply bin_lssF; omega; (first | exact trivial | exact rfl))
    | refine we_seq ?_
    | (refine we_region _ rfl rfl ?_; simp only [opsOf, List.map_cons, List.map_nil, Option.map_none, Option.map_some, List.getElem?_toArray, List.getElem?_cons_zero, List.getElem?_cons_succ, Option.bind_some, Option.getD_some])
    | refine wo_nil ?_
    | (apply wo_po; apply mo_move; exact rfl; (first | exact trivial | exact rfl))
    | (apply wo_po; apply mo_len; exact rfl; (first | exact trivial | exact rfl))
    | (apply we_condF; exact rfl; (first | exact rfl | (simp <;> omega) | omega))
    | refine we_exit ?_)
  refine wo_call (.cons rfl .nil) trivial (marks_tr (by omega) .here) ?_
  rintro av L2 x1 ⟨rfl, rfl⟩
  repeat (first
    | (apply wo_po; apply mo_move; exact rfl; (first | exact trivial | exact rfl)))
  refine wo_call (.cons rfl .nil) trivial (marks_tr (by omega) (.there .here)) ?_
  rintro bv L2 x1 ⟨rfl, rfl⟩
  refine wo_pure (of_has .here (vec_shape (by omega))) ?_
  rintro ⟨ba, bn, bc, rfl, hbn, _, hbz, hby⟩
  have hbn : bn = m.length := by rw [flat2] at hbn; omega
  subst hbn
  refine wo_pure (of_has (.there (.there .here)) (vec_shape (by omega))) ?_
  rintro ⟨aa, an, ac, rfl, han, hac, haz, hay⟩
  have han : an = m.length := by rw [flat2] at han; omega
  subst han
  have hbz' : ba = none → m = [] := fun h => List.length_eq_zero_iff.1 (hbz h)
  have haz' : aa = none → m = [] := fun h => List.length_eq_zero_iff.1 (haz h)
  let L3 : List HProp := vec 2 (.slice ba m.length bc) (mcs m) :: notesC nb m :: vec 2 (.slice aa m.length ac) (mcs m) :: vec 2 (.slice ma m.length mc) (mcs m) :: L1
  have qm : RdM L3 ma m := RdM.vec (.there (.there (.there .here))) hmy hmz'
  have qa : RdM L3 aa m := RdM.vec (.there (.there .here)) hay haz'
  have qb : RdM L3 ba m := RdM.vec .here hby hbz'
  refine wo_ent L3 .refl ?_
  repeat (first
    | refine we_seq ?_
    | (refine we_region _ rfl rfl ?_; simp only [opsOf, List.map_cons, List.map_nil, Option.map_none, Option.map_some, List.getElem?_toArray, List.getElem?_cons_zero, List.getElem?_cons_succ, Option.bind_some, Option.getD_some])
    | refine wo_nil ?_
    | (apply wo_po; apply mo_move; exact rfl; (first | exact trivial | exact rfl))
    | (apply wo_po; apply mo_assign; exact rfl; (first | exact trivial | exact rfl)))
  refine wo_call (.cons rfl (.cons rfl .nil)) trivial (same_marks_tr rfl rfl (by omega) qa qm) ?_
  rintro v1 L2 x1 ⟨rfl, rfl, rfl⟩
  rw [show decide (m = m) = true from decide_eq_true rfl]
  repeat (first
    | (apply wo_po; apply mo_move; exact rfl; (first | exact trivial | exact rfl))
    | (apply wo_po; apply mo_not; exact rfl; (first | exact trivial | exact rfl)))
  refine wo_call (.cons rfl (.cons rfl .nil)) rfl (same_marks_tr rfl rfl (by omega) qb qm) ?_
  rintro v1 L2 x1 ⟨rfl, rfl, rfl⟩
  rw [show decide (m = m) = true from decide_eq_true rfl]
  repeat (first
    | refine we_seq ?_
    | (refine we_region _ rfl rfl ?_; simp only [opsOf, List.map_cons, List.map_nil, Option.map_none, Option.map_some, List.getElem?_toArray, List.getElem?_cons_zero, List.getElem?_cons_succ, Option.bind_some, Option.getD_some])
    | refine wo_nil ?_
    | (apply wo_po; apply mo_assign; exact rfl; (first | exact trivial | exact rfl))
    | (apply wo_po; apply mo_pickF; exact rfl; exact rfl; exact rfl; (first | exact trivial | exact rfl))
    | (apply wo_po; apply mo_not; exact rfl; (first | exact trivial | exact rfl))
    | (apply we_condF; exact rfl; (first | exact rfl | (simp <;> omega) | omega))
    | refine we_skip ?_
    | refine we_block ?_)
  refine we_star (anyM (.slice aa m.length ac) m.length :: vec 2 (.slice ba m.length bc) (mcs m) :: notesC nb m :: vec 2 (.slice ma m.length mc) (mcs m) :: L1) (fun h st => star_map (((.there (.there .here)) : Has L3 _ _).star st) (fun h z => ⟨mcs m, by rw [mcs, flat2], z⟩) fun _ z => z) ?_
  refine we_loopN (wipeInv (.slice a n c) (.slice ma m.length mc) (.slice aa m.length ac) (.slice ba m.length bc) nb m.length (vec 2 (.slice ba m.length bc) (mcs m) :: notesC nb m :: vec 2 (.slice ma m.length mc) (mcs m) :: L1)) (fun i => m.length - i) 0 (Nat.zero_le _) ⟨rfl, rfl, rfl, rfl, rfl, rfl, trivial⟩ .refl rfl ?_
  intro i hi
  replace hi : i ≤ m.length := hi
  simp only [wipeInv]
  refine we_ex .here fun cs => we_and .here fun hcs => ?_
  by_cases hlt : i < m.length
  · obtain ⟨b, o, hab⟩ : ∃ b o, aa = some ⟨b, o, none⟩ := by
      cases aa with
      | none => rw [haz' rfl] at hlt; simp at hlt
      | some y => exact ⟨y.block, y.off, by rw [hay y rfl]⟩
    subst hab
    repeat (first
      | (apply wo_po; apply mo_build (pv := [(1, _)]); exact rfl; exact .cons rfl .nil; exact rfl; exact trivial)
      | (apply wo_po; apply mo_index2; exact rfl; exact rfl; omega; (first | exact trivial | exact rfl))
      | (apply wo_pm; apply mo_storeV (i := 2 * i); exact rfl; exact rfl; exact rfl; exact rfl; (intro w hw; simp [Value.cells] at hw; rcases hw with rfl | rfl <;> rfl); exact .here; omega; exact trivial)
      | (apply wo_po; apply mo_bin; exact rfl; exact rfl; apply bin_lssT; omega; (first | exact trivial | exact rfl))
      | refine we_seq ?_
      | (refine we_region _ rfl rfl ?_; simp only [opsOf, List.map_cons, List.map_nil, Option.map_none, Option.map_some, List.getElem?_toArray, List.getElem?_cons_zero, List.getElem?_cons_succ, Option.bind_some, Option.getD_some])
      | refine wo_nil ?_
      | (apply wo_po; apply mo_move; exact rfl; (first | exact trivial | exact rfl))
      | (apply wo_po; apply mo_assign; exact rfl; (first | exact trivial | exact rfl))
      | (apply wo_po; apply mo_bin; exact rfl; exact rfl; apply bin_add; exact wrap_i64 (by omega) (by omega); (first | exact trivial | exact rfl))
      | (apply wo_po; apply mo_len; exact rfl; (first | exact trivial | exact rfl))
      | (apply we_condT; exact rfl; (first | exact rfl | (simp <;> omega) | omega))
      | refine we_skip ?_
      | refine we_block ?_)
    refine at_roundS (B := mT) (I := wipeInv (.slice a n c) (.slice ma m.length mc) (.slice (some ⟨b, o, none⟩) m.length ac) (.slice ba m.length bc) nb m.length (vec 2 (.slice ba m.length bc) (mcs m) :: notesC nb m :: vec 2 (.slice ma m.length mc) (mcs m) :: L1)) (R := fun j => m.length - j < m.length - i) (i + 1) (by omega) (show i + 1 ≤ m.length by omega) ?_ (fun h st => star_map st (fun h z => ⟨_, ?_, z⟩) fun _ z => z) rfl
    exact ⟨rfl, rfl, rfl, rfl, rfl, rfl, trivial⟩
    rw [over_length (by simp [Value.cells]; omega)]; exact hcs
  obtain rfl : i = m.length := by omega
  repeat (first
    | (apply wo_po; apply mo_build (pv := [(1, _)]); exact rfl; exact .cons rfl .nil; exact rfl; exact trivial)
    | (apply wo_mo; apply mo_buildSlice (sz := 2) (vs := [.agg #[.int .u8 0, .int .i64 (-2)]]); exact rfl; exact .cons rfl .nil; exact rfl; (intro v hv; cases (List.mem_singleton.1 hv); exact rfl); omega; exact trivial)
    | (apply wo_po; apply mo_bin; exact rfl; exact rfl; apply bin_lssF; omega; (first | exact trivial | exact rfl))
    | refine we_seq ?_
    | (refine we_region _ rfl rfl ?_; simp only [opsOf, List.map_cons, List.map_nil, Option.map_none, Option.map_some, List.getElem?_toArray, List.getElem?_cons_zero, List.getElem?_cons_succ, Option.bind_some, Option.getD_some])
    | refine wo_nil ?_
    | (apply wo_po; apply mo_move; exact rfl; (first | exact trivial | exact rfl))
    | (apply wo_po; apply mo_len; exact rfl; (first | exact trivial | exact rfl))
    | (apply we_condF; exact rfl; (first | exact rfl | (simp <;> omega) | omega))
    | refine we_exit ?_)
  rintro v' L' ⟨nb2, rfl, rfl⟩
  repeat (first
    | (apply wo_mo; apply mo_append (sz := 2) (new := [.int .u8 0, .int .i64 (-2)]); exact rfl; exact rfl; exact rfl; exact rfl; exact (.there .here); exact rfl; exact .inr ⟨_, _, rfl, Rds.all .here⟩; (intro v hv; simp at hv; rcases hv with rfl | rfl <;> rfl); (simp only [sliceLen]; omega); exact trivial))
  rintro v' L' rfl
  refine wo_pure (of_has .here (vec_shape (by omega))) ?_
  rintro ⟨ua, un, uc, rfl, hun, _⟩
  have hun : un = m.length + 1 := by simp at hun; omega
  subst hun
  repeat (first
    | (apply wo_po; apply mo_build (pv := [(1, _)]); exact rfl; exact .cons rfl .nil; exact rfl; exact trivial)
    | refine we_seq ?_
    | (refine we_region _ rfl rfl ?_; simp only [opsOf, List.map_cons, List.map_nil, Option.map_none, Option.map_some, List.getElem?_toArray, List.getElem?_cons_zero, List.getElem?_cons_succ, Option.bind_some, Option.getD_some])
    | refine wo_nil ?_
    | (apply wo_po; apply mo_move; exact rfl; (first | exact trivial | exact rfl))
    | (apply wo_po; apply mo_assign; exact rfl; (first | exact trivial | exact rfl)))
  refine wo_call (.cons rfl (.cons rfl .nil)) trivial (notes_step_tr (op := 0) (w := 5) (by omega) (.there (.there (.there .here)))) ?_
  rintro v1 L2 x1 ⟨rfl, rfl, rfl⟩
  repeat (first
    | refine we_seq ?_
    | (refine we_region _ rfl rfl ?_; simp only [opsOf, List.map_cons, List.map_nil, Option.map_none, Option.map_some, List.getElem?_toArray, List.getElem?_cons_zero, List.getElem?_cons_succ, Option.bind_some, Option.getD_some])
    | refine wo_nil ?_
    | (apply wo_po; apply mo_move; exact rfl; (first | exact trivial | exact rfl)))
  refine wo_call (.cons rfl .nil) trivial (marks_tr (by simp; omega) .here) ?_
  rintro cv L2 x1 ⟨rfl, rfl⟩
  have hflat : (m ++ [((0 : Int), 5)]).length = m.length + 1 := by simp
  refine wo_pure (of_has .here (vec_shape (by omega))) ?_
  rintro ⟨ca, cn, cc, rfl, hcn, hcc, hcz, hcy⟩
  have hcn : cn = m.length + 1 := by rw [flat2, hflat] at hcn; omega
  subst hcn
  obtain ⟨cb, co, rfl⟩ : ∃ cb co, ca = some ⟨cb, co, none⟩ := by
    cases ca with
    | none => have := hcz rfl; omega
    | some y => exact ⟨y.block, y.off, by rw [hcy y rfl]⟩
  let L4 : List HProp := vec 2 (.slice (some ⟨cb, co, none⟩) (m.length + 1) cc) (mcs (m ++ [((0 : Int), 5)])) :: notesC nb (m ++ [((0 : Int), 5)]) :: vec 2 (.slice ua (m.length + 1) uc) (cs ++ [.int .u8 0, .int .i64 (-2)]) :: arr nb2 0 [.int .u8 0, .int .i64 (-2)] :: vec 2 (.slice ba m.length bc) (mcs m) :: vec 2 (.slice ma m.length mc) (mcs m) :: L1
  have qc : RdM L4 (some ⟨cb, co, none⟩) (m ++ [((0 : Int), 5)]) := RdM.vec .here hcy (fun h => by cases h)
  have qc' : RdM L4 (some ⟨cb, co, none⟩) m := fun i v hi => qc i v (by rw [List.getElem?_append_left (List.getElem?_eq_some_iff.1 hi).1]; exact hi)
  have qm2 : RdM L4 ma m := RdM.vec (.there (.there (.there (.there (.there .here))))) hmy hmz'
  have qb2 : RdM L4 ba m := RdM.vec (.there (.there (.there (.there .here)))) hby hbz'
  obtain ⟨b5, o5, e5, hr5⟩ := qc m.length (0, 5) (by simp)
  cases e5
  have heq := eql_two (p := ⟨Try.underlying47⟩) (P := Try.prog) (t := 47) (x := .tmp 90) (y := .tmp 91) (a0 := 0) (b0 := 0) (a1 := 5) (b1 := 5) (k0 := .u8) (k1 := .i64) (by kernel_rfl) (by kernel_rfl) (by decide) (by decide) rfl rfl (by kernel_rfl) (by kernel_rfl)
  refine wo_ent L4 .refl ?_
  repeat (first
    | refine we_seq ?_
    | (refine we_region _ rfl rfl ?_; simp only [opsOf, List.map_cons, List.map_nil, Option.map_none, Option.map_some, List.getElem?_toArray, List.getElem?_cons_zero, List.getElem?_cons_succ, Option.bind_some, Option.getD_some])
    | refine wo_nil ?_
    | (apply wo_po; apply mo_move; exact rfl; (first | exact trivial | exact rfl))
    | (apply wo_po; apply mo_assign; exact rfl; (first | exact trivial | exact rfl)))
  refine wo_call (.cons rfl (.cons rfl .nil)) trivial (same_marks_tr rfl rfl (by omega) qb2 qm2) ?_
  rintro v1 L2 x1 ⟨rfl, rfl, rfl⟩
  rw [show decide (m = m) = true from decide_eq_true rfl]
  repeat (first
    | (apply wo_po; apply mo_sliceTo; exact rfl; exact rfl; exact rfl; omega; omega; exact rfl)
    | (apply wo_po; apply mo_bin; exact rfl; exact rfl; apply bin_neqF; omega; (first | exact trivial | exact rfl))
    | (apply wo_po; apply mo_move; exact rfl; (first | exact trivial | exact rfl))
    | (apply wo_po; apply mo_pickF; exact rfl; exact rfl; exact rfl; (first | exact trivial | exact rfl))
    | (apply wo_po; apply mo_not; exact rfl; (first | exact trivial | exact rfl))
    | (apply wo_po; apply mo_bin; exact rfl; exact rfl; apply bin_add; exact wrap_i64 (by omega) (by omega); (first | exact trivial | exact rfl))
    | (apply wo_po; apply mo_len; exact rfl; (first | exact trivial | exact rfl)))
  refine wo_call (.cons rfl (.cons rfl .nil)) rfl (same_marks_tr rfl rfl (by omega) qc' qm2) ?_
  rintro v1 L2 x1 ⟨rfl, rfl, rfl⟩
  rw [show decide (m = m) = true from decide_eq_true rfl]
  repeat (first
    | (apply wo_po; apply mo_index2; exact rfl; exact rfl; omega; (first | exact trivial | exact rfl))
    | (apply wo_po; apply mo_loadA (vs := [.int .u8 0, .int .i64 5]); exact rfl; exact rfl; exact hr5; exact rfl)
    | (apply wo_po; apply mo_build (pv := [(1, _)]); exact rfl; exact .cons rfl .nil; exact rfl; exact rfl)
    | (apply wo_po; apply mo_bin; exact rfl; exact rfl; apply bin_ne; exact heq; exact rfl)
    | (apply wo_po; apply mo_build (pv := []); exact rfl; exact .nil; exact rfl; exact trivial)
    | (apply wo_po; apply mo_bin; exact rfl; exact rfl; apply bin_neqF; omega; (first | exact trivial | exact rfl))
    | refine we_seq ?_
    | (refine we_region _ rfl rfl ?_; simp only [opsOf, List.map_cons, List.map_nil, Option.map_none, Option.map_some, List.getElem?_toArray, List.getElem?_cons_zero, List.getElem?_cons_succ, Option.bind_some, Option.getD_some])
    | refine wo_nil ?_
    | (apply wo_po; apply mo_move; exact rfl; (first | exact trivial | exact rfl))
    | (apply wo_po; apply mo_assign; exact rfl; (first | exact trivial | exact rfl))
    | (apply wo_po; apply mo_pickF; exact rfl; exact rfl; exact rfl; (first | exact trivial | exact rfl))
    | (apply wo_po; apply mo_not; exact rfl; (first | exact trivial | exact rfl))
    | (apply wo_po; apply mo_bin; exact rfl; exact rfl; apply bin_add; exact wrap_i64 (by omega) (by omega); (first | exact trivial | exact rfl))
    | (apply wo_po; apply mo_len; exact rfl; (first | exact trivial | exact rfl))
    | (apply we_condF; exact rfl; (first | exact rfl | (simp <;> omega) | omega))
    | refine we_skip ?_)
  refine wo_call (.cons rfl (.cons rfl .nil)) trivial step_none ?_
  rintro v1 L2 x1 ⟨rfl, rfl, rfl⟩
  repeat (first
    | (apply wo_po; apply mo_build (pv := []); exact rfl; exact .nil; exact rfl; exact trivial)
    | (apply wo_mo; apply mo_box; exact rfl; exact trivial)
    | refine we_seq ?_
    | (refine we_region _ rfl rfl ?_; simp only [opsOf, List.map_cons, List.map_nil, Option.map_none, Option.map_some, List.getElem?_toArray, List.getElem?_cons_zero, List.getElem?_cons_succ, Option.bind_some, Option.getD_some])
    | refine wo_nil ?_)
  rintro v' L' ⟨zb, rfl, rfl⟩
  repeat (first
    | (apply wo_po; apply mo_build (pv := [(1, _)]); exact rfl; exact .cons rfl .nil; exact rfl; exact trivial)
    | refine we_seq ?_
    | (refine we_region _ rfl rfl ?_; simp only [opsOf, List.map_cons, List.map_nil, Option.map_none, Option.map_some, List.getElem?_toArray, List.getElem?_cons_zero, List.getElem?_cons_succ, Option.bind_some, Option.getD_some])
    | refine wo_nil ?_
    | (apply wo_po; apply mo_move; exact rfl; (first | exact trivial | exact rfl))
    | (apply wo_po; apply mo_assign; exact rfl; (first | exact trivial | exact rfl)))
  refine wo_call (.cons rfl (.cons rfl .nil)) trivial (step_zero (Rd.row0 rfl)) ?_
  rintro v1 L2 x1 ⟨rfl, rfl, rfl⟩
  repeat (first
    | refine we_seq ?_
    | (refine we_region _ rfl rfl ?_; simp only [opsOf, List.map_cons, List.map_nil, Option.map_none, Option.map_some, List.getElem?_toArray, List.getElem?_cons_zero, List.getElem?_cons_succ, Option.bind_some, Option.getD_some])
    | refine wo_nil ?_
    | (apply wo_po; apply mo_move; exact rfl; (first | exact trivial | exact rfl)))
  refine wo_call (.cons rfl .nil) trivial marks_none ?_
  rintro v1 L2 x1 ⟨rfl, rfl, rfl⟩
  repeat (first
    | (apply wo_po; apply mo_bin; exact rfl; exact rfl; apply bin_eqlT; omega; (first | exact trivial | exact rfl))
    | (apply wo_po; apply mo_move; exact rfl; (first | exact trivial | exact rfl))
    | (apply wo_po; apply mo_len; exact rfl; (first | exact trivial | exact rfl)))
  refine wo_call (.cons rfl .nil) rfl (marks_zero (Rd.row0 rfl)) ?_
  rintro v1 L2 x1 ⟨rfl, rfl, rfl⟩
  repeat (first
    | (apply wo_po; apply mo_bin; exact rfl; exact rfl; apply bin_eqlT; omega; (first | exact trivial | exact rfl))
    | refine wo_nil ?_
    | (apply wo_po; apply mo_assign; exact rfl; (first | exact trivial | exact rfl))
    | (apply wo_po; apply mo_pickT; exact rfl; exact rfl; exact rfl; (first | exact trivial | exact rfl))
    | (apply wo_po; apply mo_len; exact rfl; (first | exact trivial | exact rfl))
    | refine we_ret ?_)
  (first | refine at_ret1 (ex := .ret) Try.func9 Try.results9 hQ (.inl rfl) rfl ?_ | refine at_ret1 (ex := .normal) Try.func9 Try.results9 hQ (.inr rfl) rfl ?_)
  exact ⟨rfl, rfl⟩
end Go.Proofs.Ytabbkjciifnehaa
