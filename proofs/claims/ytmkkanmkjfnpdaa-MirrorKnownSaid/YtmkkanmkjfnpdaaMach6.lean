/-
  patchbayref00's thread.turns: what is told; thread.own, all of it.
-/
import Derived.Test.YtmkkanmkjfnpdaaMach5
set_option linter.unusedVariables false
set_option linter.unusedSimpArgs false
namespace Go.Proofs.Ytmkkanmkjfnpdaa
open Go Go.PB
attribute [local irreducible] Mo Bin Eql Tr Wo Ap

variable {B : Hand} [Lets B] {L F : List HProp} {x : B.X}

set_option maxHeartbeats 4000000 in
theorem turns_tell_tr {tb ab ao an ac : Nat} {w cv tv : Value} {cs : List Value} {told : List Nat} {t : Mach.Th} {i : Mach.In} (hop : i.op = 22) (hi : i.ok = true) (hr : ∀ j, t.r j < 18446744073709551616) (hcall : t.call < an) (hcs : cs[2 * t.call + 1]? = some tv) (hl : told.length < 1000000000) :
    Tr Try.prog B 100 [.pointer (some ⟨tb, 0, none⟩), w, .agg (inC i).toArray] (arr tb 0 (thCells cv { t with pc := t.pc + 1 } (.slice (some ⟨ab, ao, none⟩) an ac)) :: vec 2 (.slice (some ⟨ab, ao, none⟩) an ac) cs :: vec 1 tv (told.map num) :: F) x
      fun v L' x' => ∃ tv', v = .tuple #[] ∧ L' = arr tb 0 (thCells cv { t with pc := t.pc + 1 } (.slice (some ⟨ab, ao, none⟩) an ac)) :: vec 2 (.slice (some ⟨ab, ao, none⟩) an ac) (cs.set (2 * t.call + 1) tv') :: vec 1 tv' ((told ++ [t.r i.a]).map num) :: F ∧ x' = x := by
  refine tr_pure (of_has (.there (.there .here)) (vec_shape (by omega))) ?_
  rintro ⟨ta, tn, tc, rfl, htn, _, hta, hta2⟩
  have htn' : tn = told.length := by simpa using htn.symm
  subst htn'
  refine Tr.post (R := fun v L' x' => ∃ tv', v = .tuple #[] ∧ x' = x ∧ ∀ h, Star L' h → Star (arr tb 0 (thCells cv { t with pc := t.pc + 1 } (.slice (some ⟨ab, ao, none⟩) an ac)) :: vec 2 (.slice (some ⟨ab, ao, none⟩) an ac) (cs.set (2 * t.call + 1) tv') :: vec 1 tv' ((told ++ [t.r i.a]).map num) :: F) h) ?_ (by rintro v L' x' ⟨tv', rfl, rfl, hs⟩; exact ⟨_, ⟨tv', rfl, rfl, rfl⟩, hs⟩)
  obtain ⟨op, on, a, b, c, d, n⟩ := i
  simp only [Mach.In.ok, Bool.and_eq_true, decide_eq_true_eq, Bool.or_eq_true, Bool.not_eq_true', decide_eq_false_iff_not] at hi hop
  obtain ⟨⟨⟨⟨⟨⟨⟨⟨⟨⟨_, _⟩, ha⟩, hb⟩, hc⟩, hd⟩, hon⟩, hn⟩, hj⟩, _⟩, _⟩ := hi
  subst hop
  have hcsl : 2 * t.call + 1 < cs.length := (List.getElem?_eq_some_iff.1 hcs).1
  obtain ⟨G, hG⟩ : ∃ G, G = vec 2 (.slice (some ⟨ab, ao, none⟩) an ac) cs :: vec 1 (.slice ta told.length tc) (told.map num) :: F := ⟨_, rfl⟩
  rw [← hG]
  have hregs : ∀ {e : HProp}, ∀ j, j < 24 → Rd (e :: arr tb 0 (thCells cv { t with pc := t.pc + 1 } (.slice (some ⟨ab, ao, none⟩) an ac)) :: G) tb (3 + j) (num (t.r j)) := fun {e} j h => rd_reg (t := { t with pc := t.pc + 1 }) (.there .here) h
  have htold : ∀ {e e' : HProp}, Rd (e :: e' :: G) ab (ao + 2 * t.call + 1) (.slice ta told.length tc) := fun {e e'} => by
    rw [hG, Nat.add_assoc]
    exact rd_vec (.there (.there .here)) hcs
  refine tr_of_body Try.func100 rfl Try.ntmps100 (by simp) fun um Q hQ => ?_
  simp only [argE, Nat.zero_add, Nat.reduceAdd]
  repeat (first
    | (apply wo_mo; apply mo_box; exact rfl; exact trivial)
    | refine we_seq ?_
    | (refine we_region _ rfl rfl ?_; simp only [opsOf, List.map_cons, List.map_nil, Option.map_none, Option.map_some, List.getElem?_toArray, List.getElem?_cons_zero, List.getElem?_cons_succ, Option.bind_some, Option.getD_some]))
  rintro v' L' ⟨xb, rfl, rfl⟩
  repeat (first
    | refine we_seq ?_
    | (refine we_region _ rfl rfl ?_; simp only [opsOf, List.map_cons, List.map_nil, Option.map_none, Option.map_some, List.getElem?_toArray, List.getElem?_cons_zero, List.getElem?_cons_succ, Option.bind_some, Option.getD_some])
    | refine wo_nil ?_
    | (apply wo_po; apply mo_move; exact rfl; (first | exact trivial | exact rfl))
    | (apply wo_po; apply mo_assign; exact rfl; (first | exact trivial | exact rfl))
    | (apply wo_po; apply mo_nilCheck; exact rfl; (first | exact trivial | exact rfl))
    | (apply wo_po; apply mo_fieldAddr; exact rfl; exact rfl; (first | exact Nat.zero_add _ | exact rfl); (first | exact trivial | exact rfl)))
  refine we_ent (arr xb 0 (inC ⟨22, on, a, b, c, d, n⟩) :: arr tb 0 (thCells cv { t with pc := t.pc + 1 } (.slice (some ⟨ab, ao, none⟩) an ac)) :: G) .refl ?_
  refine we_draw (List.range' 0 11) (by kernel_rfl) ?_
  have hreg := @hregs (arr xb 0 (inC ⟨22, on, a, b, c, d, n⟩))
  have hav : Rd (arr xb 0 (inC ⟨22, on, a, b, c, d, n⟩) :: arr tb 0 (thCells cv { t with pc := t.pc + 1 } (.slice (some ⟨ab, ao, none⟩) an ac)) :: G) tb 27 (.slice (some ⟨ab, ao, none⟩) an ac) := .there (.row0 rfl)
  repeat (first
    | (apply ap_read; exact rfl; exact rfl; exact trivial; apply mo_load; exact rfl; exact hav)
    | (apply ap_pure; exact rfl; exact rfl; exact trivial; intro L; apply mo_index2; exact rfl; exact rfl; omega)
    | (apply ap_pure; exact rfl; exact rfl; (first | exact trivial | exact rfl); intro L; apply mo_move; exact rfl)
    | (apply ap_pure; exact rfl; exact rfl; (first | exact trivial | exact rfl); intro L; apply mo_assign; exact rfl)
    | (apply ap_pure; exact rfl; exact rfl; (first | exact trivial | exact rfl); intro L; apply mo_nilCheck; exact rfl)
    | (apply ap_pure; exact rfl; exact rfl; (first | exact trivial | exact rfl); intro L; apply mo_fieldAddr; exact rfl; exact rfl; (first | exact Nat.zero_add _ | exact rfl))
    | (apply ap_read; exact rfl; exact rfl; (first | exact trivial | exact rfl); apply mo_load; exact rfl; (repeat (first | exact Rd.row0 rfl | exact Rd.row rfl rfl | exact Rd.still | apply Rd.there)))
    | refine ap_end ?_)
  repeat (first
    | (apply wo_po; apply mo_bin; exact rfl; exact rfl; apply bin_eqlT; omega; (first | exact trivial | exact rfl))
    | (apply wo_po; apply mo_bin; exact rfl; exact rfl; apply bin_eqlF; omega; (first | exact trivial | exact rfl))
    | refine we_seq ?_
    | (refine we_region _ rfl rfl ?_; simp only [opsOf, List.map_cons, List.map_nil, Option.map_none, Option.map_some, List.getElem?_toArray, List.getElem?_cons_zero, List.getElem?_cons_succ, Option.bind_some, Option.getD_some])
    | refine wo_nil ?_
    | (apply wo_po; apply mo_assign; exact rfl; (first | exact trivial | exact rfl))
    | (apply wo_po; apply mo_fieldAddr; exact rfl; exact rfl; (first | exact Nat.zero_add _ | exact rfl); (first | exact trivial | exact rfl))
    | (apply wo_po; apply mo_load; exact rfl; (repeat (first | exact Rd.row0 rfl | exact Rd.row rfl rfl | exact Rd.still | apply Rd.there)); (first | exact trivial | exact rfl))
    | (apply we_condT; exact rfl; (first | exact rfl | (simp <;> omega) | omega))
    | (apply we_condF; exact rfl; (first | exact rfl | (simp <;> omega) | omega))
    | refine we_block ?_)
  refine we_draw (List.range' 0 14) (by kernel_rfl) ?_
  repeat (first
    | (apply ap_pure; exact rfl; exact rfl; exact trivial; intro L; apply mo_indexArr1; exact rfl; exact rfl; omega)
    | (apply ap_read; exact rfl; exact rfl; exact trivial; apply mo_load; exact rfl; exact hreg _ ha)
    | (apply ap_read; exact rfl; exact rfl; exact trivial; apply mo_load; exact rfl; exact htold)
    | (apply ap_pure; exact rfl; exact rfl; (first | exact trivial | exact rfl); intro L; apply mo_move; exact rfl)
    | (apply ap_pure; exact rfl; exact rfl; (first | exact trivial | exact rfl); intro L; apply mo_nilCheck; exact rfl)
    | (apply ap_pure; exact rfl; exact rfl; (first | exact trivial | exact rfl); intro L; apply mo_fieldAddr; exact rfl; exact rfl; (first | exact Nat.zero_add _ | exact rfl))
    | (apply ap_read; exact rfl; exact rfl; (first | exact trivial | exact rfl); apply mo_load; exact rfl; (repeat (first | exact Rd.row0 rfl | exact Rd.row rfl rfl | exact Rd.still | apply Rd.there))))
  refine ap_loudR rfl rfl rfl rfl trivial (mo_buildSlice (sz := 1) (vs := [num (t.r a)]) rfl (.cons rfl .nil) rfl (by intro v hv; cases (List.mem_singleton.1 hv); exact rfl) (by omega)) ?_ ?_
  · rintro v L' ⟨sb, rfl, rfl⟩ p hp
    replace hp := (List.mem_filter.1 hp).1
    simp only [List.mem_cons, List.not_mem_nil, or_false] at hp
    rcases hp with rfl | rfl | rfl | rfl | rfl | rfl | rfl | rfl | rfl | rfl <;> first | exact .inl rfl | exact .inr ⟨_, rfl, trivial, mo_load rfl (Rd.there (hreg _ ha))⟩ | exact .inr ⟨_, rfl, trivial, mo_load rfl (Rd.there (Rd.row0 rfl))⟩ | exact .inr ⟨_, rfl, trivial, mo_load rfl (Rd.there htold)⟩
  rintro v' L' ⟨sb, rfl, rfl⟩
  subst hG
  refine ap_loud rfl rfl rfl rfl rfl trivial (mo_append (sz := 1) (new := [num (t.r a)]) rfl rfl rfl rfl (.there (.there (.there (.there .here)))) rfl (.inr ⟨_, _, rfl, Rds.all .here⟩) (by intro v hv; cases (List.mem_singleton.1 hv); exact rfl) (by simp only [sliceLen]; omega)) ?_
  rintro v' L' rfl
  refine ap_know (of_has .here (vec_shape (by omega))) ?_
  rintro ⟨qa, ql, qc, rfl, _⟩
  repeat (first
    | (apply ap_pure; exact rfl; exact rfl; (first | exact trivial | exact rfl); intro L; apply mo_nilCheck; exact rfl))
  have hw := fun {X1 X2 X3 X4 : HProp} {G : List HProp} => wt_vec (L := X1 :: X2 :: X3 :: X4 :: vec 2 (.slice (some ⟨ab, ao, none⟩) an ac) cs :: G) (v := .slice qa ql qc) (.there (.there (.there (.there .here)))) hcsl
  rw [← Nat.add_assoc] at hw
  refine ap_loud rfl rfl rfl rfl rfl trivial (mo_store rfl rfl rfl hw) ?_
  rintro v' L' ⟨rfl, rfl⟩
  refine ap_end ?_
  skip
  (first | refine at_ret0 (ex := .ret) Try.func100 Try.results100 hQ (.inl rfl) ?_ | refine at_ret0 (ex := .normal) Try.func100 Try.results100 hQ (.inr rfl) ?_)
  refine ⟨.slice qa ql qc, rfl, rfl, fun h st => ?_⟩
  rw [show (told ++ [t.r a]).map num = told.map num ++ [num (t.r a)] by simp]
  refine Ent.star ?_ st
  exact .take (.there (.there (.there (.there .here)))) (.take .here (.take .here (.drop (.drop .refl))))

end Go.Proofs.Ytmkkanmkjfnpdaa
