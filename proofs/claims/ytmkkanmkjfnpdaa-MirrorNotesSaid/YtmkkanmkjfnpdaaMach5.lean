/-
  patchbayref00's thread.turns: jumps.
-/
import Derived.Test.YtmkkanmkjfnpdaaMach4
set_option linter.unusedVariables false
set_option linter.unusedSimpArgs false
namespace Go.Proofs.Ytmkkanmkjfnpdaa
open Go Go.PB
attribute [local irreducible] Mo Bin Eql Tr Wo Ap

variable {B : Hand} [Lets B] {L F : List HProp} {x : B.X}

set_option maxHeartbeats 4000000 in
theorem turns_jump_tr {tb ab ao an ac : Nat} {w cv : Value} {t : Mach.Th} {i : Mach.In} (hop : 18 ≤ i.op ∧ i.op ≤ 21) (hi : i.ok = true) (hr : ∀ j, t.r j < 18446744073709551616) (hcall : t.call < an)
    (hh : Has L (arr tb 0 (thCells cv { t with pc := t.pc + 1 } (.slice (some ⟨ab, ao, none⟩) an ac))) F) :
    Tr Try.prog B 100 [.pointer (some ⟨tb, 0, none⟩), w, .agg (inC i).toArray] L x fun v L' x' => v = .tuple #[] ∧ L' = arr tb 0 (thCells cv (Mach.own t i) (.slice (some ⟨ab, ao, none⟩) an ac)) :: F ∧ x' = x := by
  refine tr_star _ (fun h s => hh.star s) ?_
  clear hh
  refine Tr.post (R := fun v L' x' => ∃ c, v = .tuple #[] ∧ L' = c :: arr tb 0 (thCells cv (Mach.own t i) (.slice (some ⟨ab, ao, none⟩) an ac)) :: F ∧ x' = x) ?_ (by rintro v L' x' ⟨c, rfl, rfl, rfl⟩; exact ⟨_, ⟨rfl, rfl, rfl⟩, fun h s => star_drop s⟩)
  obtain ⟨op, on, a, b, c, d, n⟩ := i
  simp only [Mach.In.ok, Bool.and_eq_true, decide_eq_true_eq, Bool.or_eq_true, Bool.not_eq_true', decide_eq_false_iff_not] at hi hop
  obtain ⟨⟨⟨⟨⟨⟨⟨⟨⟨⟨_, _⟩, ha⟩, hb⟩, hc⟩, hd⟩, hon⟩, hn⟩, hj⟩, _⟩, _⟩ := hi
  have hnj : n < 1000000 := by
    rcases hj with hj | hj
    · simp at hj; omega
    · exact hj
  have hcv : IntKind.i64.wrap (n : Int) = (n : Int) := wrap_i64 (by omega) (by omega)
  have hops : op = 18 ∨ op = 19 ∨ op = 20 ∨ op = 21 := by omega
  have hregs : ∀ {e : HProp}, ∀ j, j < 24 → Rd (e :: arr tb 0 (thCells cv { t with pc := t.pc + 1 } (.slice (some ⟨ab, ao, none⟩) an ac)) :: F) tb (3 + j) (num (t.r j)) := fun {e} j h => rd_reg (t := { t with pc := t.pc + 1 }) (.there .here) h
  have va := hr a
  have vb := hr b
  rcases hops with rfl | rfl | rfl | rfl
  · refine tr_of_body Try.func100 rfl Try.ntmps100 (by simp) fun um Q hQ => ?_
    simp only [argE, Nat.zero_add, Nat.reduceAdd]
    repeat (first
      | (apply wo_mo; apply mo_box; exact rfl; exact trivial)
      | refine we_seq ?_
      | (refine we_region _ rfl rfl ?_; simp only [opsOf, List.map_cons, List.map_nil, Option.map_none, Option.map_some, List.getElem?_toArray, List.getElem?_cons_zero, List.getElem?_cons_succ, Option.bind_some, Option.getD_some]))
    rintro v' L' ⟨xb, rfl, rfl⟩
    repeat (first
      | refine we_seq ?_
      | (refine we_region _ rfl rfl ?_; simp only [opsOf, List.map_cons, List.map_nil, Option.map_none, Option.map_some, List.getElem?_toArray, List.getElem?_cons_zero, List.getElem?_cons_succ, Option.bind_some, Option.getD_some])
      | refine wo_nil ?_
      | (apply wo_po; apply mo_move; exact rfl; (first | exact trivial | exact rfl))
      | (apply wo_po; apply mo_assign; exact rfl; (first | exact trivial | exact rfl))
      | (apply wo_po; apply mo_nilCheck; exact rfl; (first | exact trivial | exact rfl))
      | (apply wo_po; apply mo_fieldAddr; exact rfl; exact rfl; (first | exact Nat.zero_add _ | exact rfl); (first | exact trivial | exact rfl)))
    refine we_ent (arr xb 0 (inC ⟨18, on, a, b, c, d, n⟩) :: arr tb 0 (thCells cv { t with pc := t.pc + 1 } (.slice (some ⟨ab, ao, none⟩) an ac)) :: F) .refl ?_
    refine we_draw (List.range' 0 11) (by kernel_rfl) ?_
    have hreg := @hregs (arr xb 0 (inC ⟨18, on, a, b, c, d, n⟩))
    have hav : Rd (arr xb 0 (inC ⟨18, on, a, b, c, d, n⟩) :: arr tb 0 (thCells cv { t with pc := t.pc + 1 } (.slice (some ⟨ab, ao, none⟩) an ac)) :: F) tb 27 (.slice (some ⟨ab, ao, none⟩) an ac) := .there (.row0 rfl)
    repeat (first
      | (apply ap_read; exact rfl; exact rfl; exact trivial; apply mo_load; exact rfl; exact hav)
      | (apply ap_pure; exact rfl; exact rfl; exact trivial; intro L; apply mo_index2; exact rfl; exact rfl; omega)
      | (apply ap_pure; exact rfl; exact rfl; (first | exact trivial | exact rfl); intro L; apply mo_move; exact rfl)
      | (apply ap_pure; exact rfl; exact rfl; (first | exact trivial | exact rfl); intro L; apply mo_assign; exact rfl)
      | (apply ap_pure; exact rfl; exact rfl; (first | exact trivial | exact rfl); intro L; apply mo_nilCheck; exact rfl)
      | (apply ap_pure; exact rfl; exact rfl; (first | exact trivial | exact rfl); intro L; apply mo_fieldAddr; exact rfl; exact rfl; (first | exact Nat.zero_add _ | exact rfl))
      | (apply ap_read; exact rfl; exact rfl; (first | exact trivial | exact rfl); apply mo_load; exact rfl; (repeat (first | exact Rd.row0 rfl | exact Rd.row rfl rfl | exact Rd.still | apply Rd.there)))
      | refine ap_end ?_)
    repeat (first
      | (apply wo_po; apply mo_bin; exact rfl; exact rfl; apply bin_eqlT; omega; (first | exact trivial | exact rfl))
      | refine we_seq ?_
      | (refine we_region _ rfl rfl ?_; simp only [opsOf, List.map_cons, List.map_nil, Option.map_none, Option.map_some, List.getElem?_toArray, List.getElem?_cons_zero, List.getElem?_cons_succ, Option.bind_some, Option.getD_some])
      | refine wo_nil ?_
      | (apply wo_po; apply mo_move; exact rfl; (first | exact trivial | exact rfl))
      | (apply wo_po; apply mo_assign; exact rfl; (first | exact trivial | exact rfl))
      | (apply wo_po; apply mo_fieldAddr; exact rfl; exact rfl; (first | exact Nat.zero_add _ | exact rfl); (first | exact trivial | exact rfl))
      | (apply wo_po; apply mo_load; exact rfl; (repeat (first | exact Rd.row0 rfl | exact Rd.row rfl rfl | exact Rd.still | apply Rd.there)); (first | exact trivial | exact rfl))
      | (apply we_condT; exact rfl; (first | exact rfl | (simp <;> omega) | omega))
      | refine we_block ?_)
    repeat (first
      | (apply wo_po; apply mo_conv; exact rfl; exact hcv; exact trivial)
      | (apply wo_pm; apply mo_store; exact rfl; exact rfl; exact rfl; apply Wt.row0; (repeat (first | exact Foc.here | apply Foc.there)); (first | exact Nat.lt_of_sub_eq_succ rfl | omega); (first | exact trivial | exact rfl))
      | refine wo_nil ?_
      | (apply wo_po; apply mo_nilCheck; exact rfl; (first | exact trivial | exact rfl))
      | (apply wo_po; apply mo_fieldAddr; exact rfl; exact rfl; (first | exact Nat.zero_add _ | exact rfl); (first | exact trivial | exact rfl)))
    refine at_ent (arr xb 0 (inC ⟨18, on, a, b, c, d, n⟩) :: arr tb 0 (thCells cv (Mach.own t ⟨18, on, a, b, c, d, n⟩) (.slice (some ⟨ab, ao, none⟩) an ac)) :: F) (ent_eq (by rfl)) ?_
    (first | refine at_ret0 (ex := .ret) Try.func100 Try.results100 hQ (.inl rfl) ?_ | refine at_ret0 (ex := .normal) Try.func100 Try.results100 hQ (.inr rfl) ?_)
    exact ⟨_, rfl, rfl, rfl⟩
  · by_cases h0 : t.r a = t.r b
    · have hc1 : (t.r a : Int) = (t.r b : Int) := by omega
      refine tr_of_body Try.func100 rfl Try.ntmps100 (by simp) fun um Q hQ => ?_
      simp only [argE, Nat.zero_add, Nat.reduceAdd]
      repeat (first
        | (apply wo_mo; apply mo_box; exact rfl; exact trivial)
        | refine we_seq ?_
        | (refine we_region _ rfl rfl ?_; simp only [opsOf, List.map_cons, List.map_nil, Option.map_none, Option.map_some, List.getElem?_toArray, List.getElem?_cons_zero, List.getElem?_cons_succ, Option.bind_some, Option.getD_some]))
      rintro v' L' ⟨xb, rfl, rfl⟩
      repeat (first
        | refine we_seq ?_
        | (refine we_region _ rfl rfl ?_; simp only [opsOf, List.map_cons, List.map_nil, Option.map_none, Option.map_some, List.getElem?_toArray, List.getElem?_cons_zero, List.getElem?_cons_succ, Option.bind_some, Option.getD_some])
        | refine wo_nil ?_
        | (apply wo_po; apply mo_move; exact rfl; (first | exact trivial | exact rfl))
        | (apply wo_po; apply mo_assign; exact rfl; (first | exact trivial | exact rfl))
        | (apply wo_po; apply mo_nilCheck; exact rfl; (first | exact trivial | exact rfl))
        | (apply wo_po; apply mo_fieldAddr; exact rfl; exact rfl; (first | exact Nat.zero_add _ | exact rfl); (first | exact trivial | exact rfl)))
      refine we_ent (arr xb 0 (inC ⟨19, on, a, b, c, d, n⟩) :: arr tb 0 (thCells cv { t with pc := t.pc + 1 } (.slice (some ⟨ab, ao, none⟩) an ac)) :: F) .refl ?_
      refine we_draw (List.range' 0 11) (by kernel_rfl) ?_
      have hreg := @hregs (arr xb 0 (inC ⟨19, on, a, b, c, d, n⟩))
      have hav : Rd (arr xb 0 (inC ⟨19, on, a, b, c, d, n⟩) :: arr tb 0 (thCells cv { t with pc := t.pc + 1 } (.slice (some ⟨ab, ao, none⟩) an ac)) :: F) tb 27 (.slice (some ⟨ab, ao, none⟩) an ac) := .there (.row0 rfl)
      repeat (first
        | (apply ap_read; exact rfl; exact rfl; exact trivial; apply mo_load; exact rfl; exact hav)
        | (apply ap_pure; exact rfl; exact rfl; exact trivial; intro L; apply mo_index2; exact rfl; exact rfl; omega)
        | (apply ap_pure; exact rfl; exact rfl; (first | exact trivial | exact rfl); intro L; apply mo_move; exact rfl)
        | (apply ap_pure; exact rfl; exact rfl; (first | exact trivial | exact rfl); intro L; apply mo_assign; exact rfl)
        | (apply ap_pure; exact rfl; exact rfl; (first | exact trivial | exact rfl); intro L; apply mo_nilCheck; exact rfl)
        | (apply ap_pure; exact rfl; exact rfl; (first | exact trivial | exact rfl); intro L; apply mo_fieldAddr; exact rfl; exact rfl; (first | exact Nat.zero_add _ | exact rfl))
        | (apply ap_read; exact rfl; exact rfl; (first | exact trivial | exact rfl); apply mo_load; exact rfl; (repeat (first | exact Rd.row0 rfl | exact Rd.row rfl rfl | exact Rd.still | apply Rd.there)))
        | refine ap_end ?_)
      repeat (first
        | (apply wo_po; apply mo_bin; exact rfl; exact rfl; apply bin_eqlT; omega; (first | exact trivial | exact rfl))
        | (apply wo_po; apply mo_bin; exact rfl; exact rfl; apply bin_eqlF; omega; (first | exact trivial | exact rfl))
        | refine we_seq ?_
        | (refine we_region _ rfl rfl ?_; simp only [opsOf, List.map_cons, List.map_nil, Option.map_none, Option.map_some, List.getElem?_toArray, List.getElem?_cons_zero, List.getElem?_cons_succ, Option.bind_some, Option.getD_some])
        | refine wo_nil ?_
        | (apply wo_po; apply mo_assign; exact rfl; (first | exact trivial | exact rfl))
        | (apply wo_po; apply mo_fieldAddr; exact rfl; exact rfl; (first | exact Nat.zero_add _ | exact rfl); (first | exact trivial | exact rfl))
        | (apply wo_po; apply mo_load; exact rfl; (repeat (first | exact Rd.row0 rfl | exact Rd.row rfl rfl | exact Rd.still | apply Rd.there)); (first | exact trivial | exact rfl))
        | (apply we_condT; exact rfl; (first | exact rfl | (simp <;> omega) | omega))
        | (apply we_condF; exact rfl; (first | exact rfl | (simp <;> omega) | omega))
        | refine we_block ?_)
      refine we_draw (List.range' 0 13) (by kernel_rfl) ?_
      repeat (first
        | (apply ap_pure; exact rfl; exact rfl; exact trivial; intro L; apply mo_indexArr1; exact rfl; exact rfl; omega)
        | (apply ap_read; exact rfl; exact rfl; exact trivial; apply mo_load; exact rfl; exact hreg _ ha)
        | (apply ap_read; exact rfl; exact rfl; exact trivial; apply mo_load; exact rfl; exact hreg _ hb)
        | (apply ap_pure; exact rfl; exact rfl; exact trivial; intro L; apply mo_bin; exact rfl; exact rfl; apply bin_eqlT; exact hc1)
        | (apply ap_pure; exact rfl; exact rfl; (first | exact trivial | exact rfl); intro L; apply mo_move; exact rfl)
        | (apply ap_pure; exact rfl; exact rfl; (first | exact trivial | exact rfl); intro L; apply mo_nilCheck; exact rfl)
        | (apply ap_pure; exact rfl; exact rfl; (first | exact trivial | exact rfl); intro L; apply mo_fieldAddr; exact rfl; exact rfl; (first | exact Nat.zero_add _ | exact rfl))
        | (apply ap_read; exact rfl; exact rfl; (first | exact trivial | exact rfl); apply mo_load; exact rfl; (repeat (first | exact Rd.row0 rfl | exact Rd.row rfl rfl | exact Rd.still | apply Rd.there)))
        | refine ap_end ?_)
      repeat (first
        | (apply wo_po; apply mo_conv; exact rfl; exact hcv; exact trivial)
        | (apply wo_pm; apply mo_store; exact rfl; exact rfl; exact rfl; apply Wt.row0; (repeat (first | exact Foc.here | apply Foc.there)); (first | exact Nat.lt_of_sub_eq_succ rfl | omega); (first | exact trivial | exact rfl))
        | (refine we_region _ rfl rfl ?_; simp only [opsOf, List.map_cons, List.map_nil, Option.map_none, Option.map_some, List.getElem?_toArray, List.getElem?_cons_zero, List.getElem?_cons_succ, Option.bind_some, Option.getD_some])
        | refine wo_nil ?_
        | (apply wo_po; apply mo_move; exact rfl; (first | exact trivial | exact rfl))
        | (apply wo_po; apply mo_nilCheck; exact rfl; (first | exact trivial | exact rfl))
        | (apply wo_po; apply mo_fieldAddr; exact rfl; exact rfl; (first | exact Nat.zero_add _ | exact rfl); (first | exact trivial | exact rfl))
        | (apply wo_po; apply mo_load; exact rfl; (repeat (first | exact Rd.row0 rfl | exact Rd.row rfl rfl | exact Rd.still | apply Rd.there)); (first | exact trivial | exact rfl))
        | (apply we_condT; exact rfl; (first | exact rfl | (simp <;> omega) | omega)))
      refine at_ent (arr xb 0 (inC ⟨19, on, a, b, c, d, n⟩) :: arr tb 0 (thCells cv (Mach.own t ⟨19, on, a, b, c, d, n⟩) (.slice (some ⟨ab, ao, none⟩) an ac)) :: F) (ent_eq (by rw [show Mach.own t ⟨19, on, a, b, c, d, n⟩ = { t with pc := n } from if_pos h0]; rfl)) ?_
      (first | refine at_ret0 (ex := .ret) Try.func100 Try.results100 hQ (.inl rfl) ?_ | refine at_ret0 (ex := .normal) Try.func100 Try.results100 hQ (.inr rfl) ?_)
      exact ⟨_, rfl, rfl, rfl⟩
    · have hc1 : ¬ (t.r a : Int) = (t.r b : Int) := by omega
      refine tr_of_body Try.func100 rfl Try.ntmps100 (by simp) fun um Q hQ => ?_
      simp only [argE, Nat.zero_add, Nat.reduceAdd]
      repeat (first
        | (apply wo_mo; apply mo_box; exact rfl; exact trivial)
        | refine we_seq ?_
        | (refine we_region _ rfl rfl ?_; simp only [opsOf, List.map_cons, List.map_nil, Option.map_none, Option.map_some, List.getElem?_toArray, List.getElem?_cons_zero, List.getElem?_cons_succ, Option.bind_some, Option.getD_some]))
      rintro v' L' ⟨xb, rfl, rfl⟩
      repeat (first
        | refine we_seq ?_
        | (refine we_region _ rfl rfl ?_; simp only [opsOf, List.map_cons, List.map_nil, Option.map_none, Option.map_some, List.getElem?_toArray, List.getElem?_cons_zero, List.getElem?_cons_succ, Option.bind_some, Option.getD_some])
        | refine wo_nil ?_
        | (apply wo_po; apply mo_move; exact rfl; (first | exact trivial | exact rfl))
        | (apply wo_po; apply mo_assign; exact rfl; (first | exact trivial | exact rfl))
        | (apply wo_po; apply mo_nilCheck; exact rfl; (first | exact trivial | exact rfl))
        | (apply wo_po; apply mo_fieldAddr; exact rfl; exact rfl; (first | exact Nat.zero_add _ | exact rfl); (first | exact trivial | exact rfl)))
      refine we_ent (arr xb 0 (inC ⟨19, on, a, b, c, d, n⟩) :: arr tb 0 (thCells cv { t with pc := t.pc + 1 } (.slice (some ⟨ab, ao, none⟩) an ac)) :: F) .refl ?_
      refine we_draw (List.range' 0 11) (by kernel_rfl) ?_
      have hreg := @hregs (arr xb 0 (inC ⟨19, on, a, b, c, d, n⟩))
      have hav : Rd (arr xb 0 (inC ⟨19, on, a, b, c, d, n⟩) :: arr tb 0 (thCells cv { t with pc := t.pc + 1 } (.slice (some ⟨ab, ao, none⟩) an ac)) :: F) tb 27 (.slice (some ⟨ab, ao, none⟩) an ac) := .there (.row0 rfl)
      repeat (first
        | (apply ap_read; exact rfl; exact rfl; exact trivial; apply mo_load; exact rfl; exact hav)
        | (apply ap_pure; exact rfl; exact rfl; exact trivial; intro L; apply mo_index2; exact rfl; exact rfl; omega)
        | (apply ap_pure; exact rfl; exact rfl; (first | exact trivial | exact rfl); intro L; apply mo_move; exact rfl)
        | (apply ap_pure; exact rfl; exact rfl; (first | exact trivial | exact rfl); intro L; apply mo_assign; exact rfl)
        | (apply ap_pure; exact rfl; exact rfl; (first | exact trivial | exact rfl); intro L; apply mo_nilCheck; exact rfl)
        | (apply ap_pure; exact rfl; exact rfl; (first | exact trivial | exact rfl); intro L; apply mo_fieldAddr; exact rfl; exact rfl; (first | exact Nat.zero_add _ | exact rfl))
        | (apply ap_read; exact rfl; exact rfl; (first | exact trivial | exact rfl); apply mo_load; exact rfl; (repeat (first | exact Rd.row0 rfl | exact Rd.row rfl rfl | exact Rd.still | apply Rd.there)))
        | refine ap_end ?_)
      repeat (first
        | (apply wo_po; apply mo_bin; exact rfl; exact rfl; apply bin_eqlT; omega; (first | exact trivial | exact rfl))
        | (apply wo_po; apply mo_bin; exact rfl; exact rfl; apply bin_eqlF; omega; (first | exact trivial | exact rfl))
        | refine we_seq ?_
        | (refine we_region _ rfl rfl ?_; simp only [opsOf, List.map_cons, List.map_nil, Option.map_none, Option.map_some, List.getElem?_toArray, List.getElem?_cons_zero, List.getElem?_cons_succ, Option.bind_some, Option.getD_some])
        | refine wo_nil ?_
        | (apply wo_po; apply mo_assign; exact rfl; (first | exact trivial | exact rfl))
        | (apply wo_po; apply mo_fieldAddr; exact rfl; exact rfl; (first | exact Nat.zero_add _ | exact rfl); (first | exact trivial | exact rfl))
        | (apply wo_po; apply mo_load; exact rfl; (repeat (first | exact Rd.row0 rfl | exact Rd.row rfl rfl | exact Rd.still | apply Rd.there)); (first | exact trivial | exact rfl))
        | (apply we_condT; exact rfl; (first | exact rfl | (simp <;> omega) | omega))
        | (apply we_condF; exact rfl; (first | exact rfl | (simp <;> omega) | omega))
        | refine we_block ?_)
      refine we_draw (List.range' 0 13) (by kernel_rfl) ?_
      repeat (first
        | (apply ap_pure; exact rfl; exact rfl; exact trivial; intro L; apply mo_indexArr1; exact rfl; exact rfl; omega)
        | (apply ap_read; exact rfl; exact rfl; exact trivial; apply mo_load; exact rfl; exact hreg _ ha)
        | (apply ap_read; exact rfl; exact rfl; exact trivial; apply mo_load; exact rfl; exact hreg _ hb)
        | (apply ap_pure; exact rfl; exact rfl; exact trivial; intro L; apply mo_bin; exact rfl; exact rfl; apply bin_eqlF; exact hc1)
        | (apply ap_pure; exact rfl; exact rfl; (first | exact trivial | exact rfl); intro L; apply mo_move; exact rfl)
        | (apply ap_pure; exact rfl; exact rfl; (first | exact trivial | exact rfl); intro L; apply mo_nilCheck; exact rfl)
        | (apply ap_pure; exact rfl; exact rfl; (first | exact trivial | exact rfl); intro L; apply mo_fieldAddr; exact rfl; exact rfl; (first | exact Nat.zero_add _ | exact rfl))
        | (apply ap_read; exact rfl; exact rfl; (first | exact trivial | exact rfl); apply mo_load; exact rfl; (repeat (first | exact Rd.row0 rfl | exact Rd.row rfl rfl | exact Rd.still | apply Rd.there)))
        | refine ap_end ?_)
      repeat (first
        | (apply we_condF; exact rfl; (first | exact rfl | (simp <;> omega) | omega))
        | refine we_skip ?_)
      refine at_ent (arr xb 0 (inC ⟨19, on, a, b, c, d, n⟩) :: arr tb 0 (thCells cv (Mach.own t ⟨19, on, a, b, c, d, n⟩) (.slice (some ⟨ab, ao, none⟩) an ac)) :: F) (ent_eq (by rw [show Mach.own t ⟨19, on, a, b, c, d, n⟩ = { t with pc := t.pc + 1 } from if_neg h0])) ?_
      (first | refine at_ret0 (ex := .ret) Try.func100 Try.results100 hQ (.inl rfl) ?_ | refine at_ret0 (ex := .normal) Try.func100 Try.results100 hQ (.inr rfl) ?_)
      exact ⟨_, rfl, rfl, rfl⟩
  · by_cases h0 : t.r a < t.r b
    · have hc1 : (t.r a : Int) < (t.r b : Int) := by omega
      refine tr_of_body Try.func100 rfl Try.ntmps100 (by simp) fun um Q hQ => ?_
      simp only [argE, Nat.zero_add, Nat.reduceAdd]
      repeat (first
        | (apply wo_mo; apply mo_box; exact rfl; exact trivial)
        | refine we_seq ?_
        | (refine we_region _ rfl rfl ?_; simp only [opsOf, List.map_cons, List.map_nil, Option.map_none, Option.map_some, List.getElem?_toArray, List.getElem?_cons_zero, List.getElem?_cons_succ, Option.bind_some, Option.getD_some]))
      rintro v' L' ⟨xb, rfl, rfl⟩
      repeat (first
        | refine we_seq ?_
        | (refine we_region _ rfl rfl ?_; simp only [opsOf, List.map_cons, List.map_nil, Option.map_none, Option.map_some, List.getElem?_toArray, List.getElem?_cons_zero, List.getElem?_cons_succ, Option.bind_some, Option.getD_some])
        | refine wo_nil ?_
        | (apply wo_po; apply mo_move; exact rfl; (first | exact trivial | exact rfl))
        | (apply wo_po; apply mo_assign; exact rfl; (first | exact trivial | exact rfl))
        | (apply wo_po; apply mo_nilCheck; exact rfl; (first | exact trivial | exact rfl))
        | (apply wo_po; apply mo_fieldAddr; exact rfl; exact rfl; (first | exact Nat.zero_add _ | exact rfl); (first | exact trivial | exact rfl)))
      refine we_ent (arr xb 0 (inC ⟨20, on, a, b, c, d, n⟩) :: arr tb 0 (thCells cv { t with pc := t.pc + 1 } (.slice (some ⟨ab, ao, none⟩) an ac)) :: F) .refl ?_
      refine we_draw (List.range' 0 11) (by kernel_rfl) ?_
      have hreg := @hregs (arr xb 0 (inC ⟨20, on, a, b, c, d, n⟩))
      have hav : Rd (arr xb 0 (inC ⟨20, on, a, b, c, d, n⟩) :: arr tb 0 (thCells cv { t with pc := t.pc + 1 } (.slice (some ⟨ab, ao, none⟩) an ac)) :: F) tb 27 (.slice (some ⟨ab, ao, none⟩) an ac) := .there (.row0 rfl)
      repeat (first
        | (apply ap_read; exact rfl; exact rfl; exact trivial; apply mo_load; exact rfl; exact hav)
        | (apply ap_pure; exact rfl; exact rfl; exact trivial; intro L; apply mo_index2; exact rfl; exact rfl; omega)
        | (apply ap_pure; exact rfl; exact rfl; (first | exact trivial | exact rfl); intro L; apply mo_move; exact rfl)
        | (apply ap_pure; exact rfl; exact rfl; (first | exact trivial | exact rfl); intro L; apply mo_assign; exact rfl)
        | (apply ap_pure; exact rfl; exact rfl; (first | exact trivial | exact rfl); intro L; apply mo_nilCheck; exact rfl)
        | (apply ap_pure; exact rfl; exact rfl; (first | exact trivial | exact rfl); intro L; apply mo_fieldAddr; exact rfl; exact rfl; (first | exact Nat.zero_add _ | exact rfl))
        | (apply ap_read; exact rfl; exact rfl; (first | exact trivial | exact rfl); apply mo_load; exact rfl; (repeat (first | exact Rd.row0 rfl | exact Rd.row rfl rfl | exact Rd.still | apply Rd.there)))
        | refine ap_end ?_)
      repeat (first
        | (apply wo_po; apply mo_bin; exact rfl; exact rfl; apply bin_eqlT; omega; (first | exact trivial | exact rfl))
        | (apply wo_po; apply mo_bin; exact rfl; exact rfl; apply bin_eqlF; omega; (first | exact trivial | exact rfl))
        | refine we_seq ?_
        | (refine we_region _ rfl rfl ?_; simp only [opsOf, List.map_cons, List.map_nil, Option.map_none, Option.map_some, List.getElem?_toArray, List.getElem?_cons_zero, List.getElem?_cons_succ, Option.bind_some, Option.getD_some])
        | refine wo_nil ?_
        | (apply wo_po; apply mo_assign; exact rfl; (first | exact trivial | exact rfl))
        | (apply wo_po; apply mo_fieldAddr; exact rfl; exact rfl; (first | exact Nat.zero_add _ | exact rfl); (first | exact trivial | exact rfl))
        | (apply wo_po; apply mo_load; exact rfl; (repeat (first | exact Rd.row0 rfl | exact Rd.row rfl rfl | exact Rd.still | apply Rd.there)); (first | exact trivial | exact rfl))
        | (apply we_condT; exact rfl; (first | exact rfl | (simp <;> omega) | omega))
        | (apply we_condF; exact rfl; (first | exact rfl | (simp <;> omega) | omega))
        | refine we_block ?_)
      refine we_draw (List.range' 0 13) (by kernel_rfl) ?_
      repeat (first
        | (apply ap_pure; exact rfl; exact rfl; exact trivial; intro L; apply mo_indexArr1; exact rfl; exact rfl; omega)
        | (apply ap_read; exact rfl; exact rfl; exact trivial; apply mo_load; exact rfl; exact hreg _ ha)
        | (apply ap_read; exact rfl; exact rfl; exact trivial; apply mo_load; exact rfl; exact hreg _ hb)
        | (apply ap_pure; exact rfl; exact rfl; exact trivial; intro L; apply mo_bin; exact rfl; exact rfl; apply bin_lssT; exact hc1)
        | (apply ap_pure; exact rfl; exact rfl; (first | exact trivial | exact rfl); intro L; apply mo_move; exact rfl)
        | (apply ap_pure; exact rfl; exact rfl; (first | exact trivial | exact rfl); intro L; apply mo_nilCheck; exact rfl)
        | (apply ap_pure; exact rfl; exact rfl; (first | exact trivial | exact rfl); intro L; apply mo_fieldAddr; exact rfl; exact rfl; (first | exact Nat.zero_add _ | exact rfl))
        | (apply ap_read; exact rfl; exact rfl; (first | exact trivial | exact rfl); apply mo_load; exact rfl; (repeat (first | exact Rd.row0 rfl | exact Rd.row rfl rfl | exact Rd.still | apply Rd.there)))
        | refine ap_end ?_)
      repeat (first
        | (apply wo_po; apply mo_conv; exact rfl; exact hcv; exact trivial)
        | (apply wo_pm; apply mo_store; exact rfl; exact rfl; exact rfl; apply Wt.row0; (repeat (first | exact Foc.here | apply Foc.there)); (first | exact Nat.lt_of_sub_eq_succ rfl | omega); (first | exact trivial | exact rfl))
        | (refine we_region _ rfl rfl ?_; simp only [opsOf, List.map_cons, List.map_nil, Option.map_none, Option.map_some, List.getElem?_toArray, List.getElem?_cons_zero, List.getElem?_cons_succ, Option.bind_some, Option.getD_some])
        | refine wo_nil ?_
        | (apply wo_po; apply mo_move; exact rfl; (first | exact trivial | exact rfl))
        | (apply wo_po; apply mo_nilCheck; exact rfl; (first | exact trivial | exact rfl))
        | (apply wo_po; apply mo_fieldAddr; exact rfl; exact rfl; (first | exact Nat.zero_add _ | exact rfl); (first | exact trivial | exact rfl))
        | (apply wo_po; apply mo_load; exact rfl; (repeat (first | exact Rd.row0 rfl | exact Rd.row rfl rfl | exact Rd.still | apply Rd.there)); (first | exact trivial | exact rfl))
        | (apply we_condT; exact rfl; (first | exact rfl | (simp <;> omega) | omega)))
      refine at_ent (arr xb 0 (inC ⟨20, on, a, b, c, d, n⟩) :: arr tb 0 (thCells cv (Mach.own t ⟨20, on, a, b, c, d, n⟩) (.slice (some ⟨ab, ao, none⟩) an ac)) :: F) (ent_eq (by rw [show Mach.own t ⟨20, on, a, b, c, d, n⟩ = { t with pc := n } from if_pos h0]; rfl)) ?_
      (first | refine at_ret0 (ex := .ret) Try.func100 Try.results100 hQ (.inl rfl) ?_ | refine at_ret0 (ex := .normal) Try.func100 Try.results100 hQ (.inr rfl) ?_)
      exact ⟨_, rfl, rfl, rfl⟩
    · have hc1 : ¬ (t.r a : Int) < (t.r b : Int) := by omega
      refine tr_of_body Try.func100 rfl Try.ntmps100 (by simp) fun um Q hQ => ?_
      simp only [argE, Nat.zero_add, Nat.reduceAdd]
      repeat (first
        | (apply wo_mo; apply mo_box; exact rfl; exact trivial)
        | refine we_seq ?_
        | (refine we_region _ rfl rfl ?_; simp only [opsOf, List.map_cons, List.map_nil, Option.map_none, Option.map_some, List.getElem?_toArray, List.getElem?_cons_zero, List.getElem?_cons_succ, Option.bind_some, Option.getD_some]))
      rintro v' L' ⟨xb, rfl, rfl⟩
      repeat (first
        | refine we_seq ?_
        | (refine we_region _ rfl rfl ?_; simp only [opsOf, List.map_cons, List.map_nil, Option.map_none, Option.map_some, List.getElem?_toArray, List.getElem?_cons_zero, List.getElem?_cons_succ, Option.bind_some, Option.getD_some])
        | refine wo_nil ?_
        | (apply wo_po; apply mo_move; exact rfl; (first | exact trivial | exact rfl))
        | (apply wo_po; apply mo_assign; exact rfl; (first | exact trivial | exact rfl))
        | (apply wo_po; apply mo_nilCheck; exact rfl; (first | exact trivial | exact rfl))
        | (apply wo_po; apply mo_fieldAddr; exact rfl; exact rfl; (first | exact Nat.zero_add _ | exact rfl); (first | exact trivial | exact rfl)))
      refine we_ent (arr xb 0 (inC ⟨20, on, a, b, c, d, n⟩) :: arr tb 0 (thCells cv { t with pc := t.pc + 1 } (.slice (some ⟨ab, ao, none⟩) an ac)) :: F) .refl ?_
      refine we_draw (List.range' 0 11) (by kernel_rfl) ?_
      have hreg := @hregs (arr xb 0 (inC ⟨20, on, a, b, c, d, n⟩))
      have hav : Rd (arr xb 0 (inC ⟨20, on, a, b, c, d, n⟩) :: arr tb 0 (thCells cv { t with pc := t.pc + 1 } (.slice (some ⟨ab, ao, none⟩) an ac)) :: F) tb 27 (.slice (some ⟨ab, ao, none⟩) an ac) := .there (.row0 rfl)
      repeat (first
        | (apply ap_read; exact rfl; exact rfl; exact trivial; apply mo_load; exact rfl; exact hav)
        | (apply ap_pure; exact rfl; exact rfl; exact trivial; intro L; apply mo_index2; exact rfl; exact rfl; omega)
        | (apply ap_pure; exact rfl; exact rfl; (first | exact trivial | exact rfl); intro L; apply mo_move; exact rfl)
        | (apply ap_pure; exact rfl; exact rfl; (first | exact trivial | exact rfl); intro L; apply mo_assign; exact rfl)
        | (apply ap_pure; exact rfl; exact rfl; (first | exact trivial | exact rfl); intro L; apply mo_nilCheck; exact rfl)
        | (apply ap_pure; exact rfl; exact rfl; (first | exact trivial | exact rfl); intro L; apply mo_fieldAddr; exact rfl; exact rfl; (first | exact Nat.zero_add _ | exact rfl))
        | (apply ap_read; exact rfl; exact rfl; (first | exact trivial | exact rfl); apply mo_load; exact rfl; (repeat (first | exact Rd.row0 rfl | exact Rd.row rfl rfl | exact Rd.still | apply Rd.there)))
        | refine ap_end ?_)
      repeat (first
        | (apply wo_po; apply mo_bin; exact rfl; exact rfl; apply bin_eqlT; omega; (first | exact trivial | exact rfl))
        | (apply wo_po; apply mo_bin; exact rfl; exact rfl; apply bin_eqlF; omega; (first | exact trivial | exact rfl))
        | refine we_seq ?_
        | (refine we_region _ rfl rfl ?_; simp only [opsOf, List.map_cons, List.map_nil, Option.map_none, Option.map_some, List.getElem?_toArray, List.getElem?_cons_zero, List.getElem?_cons_succ, Option.bind_some, Option.getD_some])
        | refine wo_nil ?_
        | (apply wo_po; apply mo_assign; exact rfl; (first | exact trivial | exact rfl))
        | (apply wo_po; apply mo_fieldAddr; exact rfl; exact rfl; (first | exact Nat.zero_add _ | exact rfl); (first | exact trivial | exact rfl))
        | (apply wo_po; apply mo_load; exact rfl; (repeat (first | exact Rd.row0 rfl | exact Rd.row rfl rfl | exact Rd.still | apply Rd.there)); (first | exact trivial | exact rfl))
        | (apply we_condT; exact rfl; (first | exact rfl | (simp <;> omega) | omega))
        | (apply we_condF; exact rfl; (first | exact rfl | (simp <;> omega) | omega))
        | refine we_block ?_)
      refine we_draw (List.range' 0 13) (by kernel_rfl) ?_
      repeat (first
        | (apply ap_pure; exact rfl; exact rfl; exact trivial; intro L; apply mo_indexArr1; exact rfl; exact rfl; omega)
        | (apply ap_read; exact rfl; exact rfl; exact trivial; apply mo_load; exact rfl; exact hreg _ ha)
        | (apply ap_read; exact rfl; exact rfl; exact trivial; apply mo_load; exact rfl; exact hreg _ hb)
        | (apply ap_pure; exact rfl; exact rfl; exact trivial; intro L; apply mo_bin; exact rfl; exact rfl; apply bin_lssF; exact hc1)
        | (apply ap_pure; exact rfl; exact rfl; (first | exact trivial | exact rfl); intro L; apply mo_move; exact rfl)
        | (apply ap_pure; exact rfl; exact rfl; (first | exact trivial | exact rfl); intro L; apply mo_nilCheck; exact rfl)
        | (apply ap_pure; exact rfl; exact rfl; (first | exact trivial | exact rfl); intro L; apply mo_fieldAddr; exact rfl; exact rfl; (first | exact Nat.zero_add _ | exact rfl))
        | (apply ap_read; exact rfl; exact rfl; (first | exact trivial | exact rfl); apply mo_load; exact rfl; (repeat (first | exact Rd.row0 rfl | exact Rd.row rfl rfl | exact Rd.still | apply Rd.there)))
        | refine ap_end ?_)
      repeat (first
        | (apply we_condF; exact rfl; (first | exact rfl | (simp <;> omega) | omega))
        | refine we_skip ?_)
      refine at_ent (arr xb 0 (inC ⟨20, on, a, b, c, d, n⟩) :: arr tb 0 (thCells cv (Mach.own t ⟨20, on, a, b, c, d, n⟩) (.slice (some ⟨ab, ao, none⟩) an ac)) :: F) (ent_eq (by rw [show Mach.own t ⟨20, on, a, b, c, d, n⟩ = { t with pc := t.pc + 1 } from if_neg h0])) ?_
      (first | refine at_ret0 (ex := .ret) Try.func100 Try.results100 hQ (.inl rfl) ?_ | refine at_ret0 (ex := .normal) Try.func100 Try.results100 hQ (.inr rfl) ?_)
      exact ⟨_, rfl, rfl, rfl⟩
  · have hsh : (t.r a : Int).fdiv (2 ^ (min (63 : Int).toNat IntKind.u64.bits)) = (((t.r a / 2 ^ 63) % 18446744073709551616 : Nat) : Int) := u64_shr (n := 63) (by omega) va
    by_cases h0 : 9223372036854775808 ≤ t.r a
    · have hc1 : (((t.r a / 2 ^ 63) % 18446744073709551616 : Nat) : Int) = 1 := by omega
      refine tr_of_body Try.func100 rfl Try.ntmps100 (by simp) fun um Q hQ => ?_
      simp only [argE, Nat.zero_add, Nat.reduceAdd]
      repeat (first
        | (apply wo_mo; apply mo_box; exact rfl; exact trivial)
        | refine we_seq ?_
        | (refine we_region _ rfl rfl ?_; simp only [opsOf, List.map_cons, List.map_nil, Option.map_none, Option.map_some, List.getElem?_toArray, List.getElem?_cons_zero, List.getElem?_cons_succ, Option.bind_some, Option.getD_some]))
      rintro v' L' ⟨xb, rfl, rfl⟩
      repeat (first
        | refine we_seq ?_
        | (refine we_region _ rfl rfl ?_; simp only [opsOf, List.map_cons, List.map_nil, Option.map_none, Option.map_some, List.getElem?_toArray, List.getElem?_cons_zero, List.getElem?_cons_succ, Option.bind_some, Option.getD_some])
        | refine wo_nil ?_
        | (apply wo_po; apply mo_move; exact rfl; (first | exact trivial | exact rfl))
        | (apply wo_po; apply mo_assign; exact rfl; (first | exact trivial | exact rfl))
        | (apply wo_po; apply mo_nilCheck; exact rfl; (first | exact trivial | exact rfl))
        | (apply wo_po; apply mo_fieldAddr; exact rfl; exact rfl; (first | exact Nat.zero_add _ | exact rfl); (first | exact trivial | exact rfl)))
      refine we_ent (arr xb 0 (inC ⟨21, on, a, b, c, d, n⟩) :: arr tb 0 (thCells cv { t with pc := t.pc + 1 } (.slice (some ⟨ab, ao, none⟩) an ac)) :: F) .refl ?_
      refine we_draw (List.range' 0 11) (by kernel_rfl) ?_
      have hreg := @hregs (arr xb 0 (inC ⟨21, on, a, b, c, d, n⟩))
      have hav : Rd (arr xb 0 (inC ⟨21, on, a, b, c, d, n⟩) :: arr tb 0 (thCells cv { t with pc := t.pc + 1 } (.slice (some ⟨ab, ao, none⟩) an ac)) :: F) tb 27 (.slice (some ⟨ab, ao, none⟩) an ac) := .there (.row0 rfl)
      repeat (first
        | (apply ap_read; exact rfl; exact rfl; exact trivial; apply mo_load; exact rfl; exact hav)
        | (apply ap_pure; exact rfl; exact rfl; exact trivial; intro L; apply mo_index2; exact rfl; exact rfl; omega)
        | (apply ap_pure; exact rfl; exact rfl; (first | exact trivial | exact rfl); intro L; apply mo_move; exact rfl)
        | (apply ap_pure; exact rfl; exact rfl; (first | exact trivial | exact rfl); intro L; apply mo_assign; exact rfl)
        | (apply ap_pure; exact rfl; exact rfl; (first | exact trivial | exact rfl); intro L; apply mo_nilCheck; exact rfl)
        | (apply ap_pure; exact rfl; exact rfl; (first | exact trivial | exact rfl); intro L; apply mo_fieldAddr; exact rfl; exact rfl; (first | exact Nat.zero_add _ | exact rfl))
        | (apply ap_read; exact rfl; exact rfl; (first | exact trivial | exact rfl); apply mo_load; exact rfl; (repeat (first | exact Rd.row0 rfl | exact Rd.row rfl rfl | exact Rd.still | apply Rd.there)))
        | refine ap_end ?_)
      repeat (first
        | (apply wo_po; apply mo_bin; exact rfl; exact rfl; apply bin_eqlT; omega; (first | exact trivial | exact rfl))
        | (apply wo_po; apply mo_bin; exact rfl; exact rfl; apply bin_eqlF; omega; (first | exact trivial | exact rfl))
        | refine we_seq ?_
        | (refine we_region _ rfl rfl ?_; simp only [opsOf, List.map_cons, List.map_nil, Option.map_none, Option.map_some, List.getElem?_toArray, List.getElem?_cons_zero, List.getElem?_cons_succ, Option.bind_some, Option.getD_some])
        | refine wo_nil ?_
        | (apply wo_po; apply mo_assign; exact rfl; (first | exact trivial | exact rfl))
        | (apply wo_po; apply mo_fieldAddr; exact rfl; exact rfl; (first | exact Nat.zero_add _ | exact rfl); (first | exact trivial | exact rfl))
        | (apply wo_po; apply mo_load; exact rfl; (repeat (first | exact Rd.row0 rfl | exact Rd.row rfl rfl | exact Rd.still | apply Rd.there)); (first | exact trivial | exact rfl))
        | (apply we_condT; exact rfl; (first | exact rfl | (simp <;> omega) | omega))
        | (apply we_condF; exact rfl; (first | exact rfl | (simp <;> omega) | omega))
        | refine we_block ?_)
      refine we_draw (List.range' 0 8) (by kernel_rfl) ?_
      repeat (first
        | (apply ap_pure; exact rfl; exact rfl; exact trivial; intro L; apply mo_indexArr1; exact rfl; exact rfl; omega)
        | (apply ap_read; exact rfl; exact rfl; exact trivial; apply mo_load; exact rfl; exact hreg _ ha)
        | (apply ap_pure; exact rfl; exact rfl; exact trivial; intro L; apply mo_bin; exact rfl; exact rfl; apply bin_shr; omega; exact hsh)
        | (apply ap_pure; exact rfl; exact rfl; (first | exact trivial | exact rfl); intro L; apply mo_move; exact rfl)
        | (apply ap_pure; exact rfl; exact rfl; (first | exact trivial | exact rfl); intro L; apply mo_nilCheck; exact rfl)
        | (apply ap_pure; exact rfl; exact rfl; (first | exact trivial | exact rfl); intro L; apply mo_fieldAddr; exact rfl; exact rfl; (first | exact Nat.zero_add _ | exact rfl))
        | (apply ap_pure; exact rfl; exact rfl; (first | exact trivial | exact rfl); intro L; apply mo_bin; exact rfl; exact rfl; exact bin_eql)
        | (apply ap_read; exact rfl; exact rfl; (first | exact trivial | exact rfl); apply mo_load; exact rfl; (repeat (first | exact Rd.row0 rfl | exact Rd.row rfl rfl | exact Rd.still | apply Rd.there)))
        | refine ap_end ?_)
      repeat (first
        | (apply wo_po; apply mo_conv; exact rfl; exact hcv; exact trivial)
        | (apply wo_pm; apply mo_store; exact rfl; exact rfl; exact rfl; apply Wt.row0; (repeat (first | exact Foc.here | apply Foc.there)); (first | exact Nat.lt_of_sub_eq_succ rfl | omega); (first | exact trivial | exact rfl))
        | (refine we_region _ rfl rfl ?_; simp only [opsOf, List.map_cons, List.map_nil, Option.map_none, Option.map_some, List.getElem?_toArray, List.getElem?_cons_zero, List.getElem?_cons_succ, Option.bind_some, Option.getD_some])
        | refine wo_nil ?_
        | (apply wo_po; apply mo_move; exact rfl; (first | exact trivial | exact rfl))
        | (apply wo_po; apply mo_nilCheck; exact rfl; (first | exact trivial | exact rfl))
        | (apply wo_po; apply mo_fieldAddr; exact rfl; exact rfl; (first | exact Nat.zero_add _ | exact rfl); (first | exact trivial | exact rfl))
        | (apply wo_po; apply mo_load; exact rfl; (repeat (first | exact Rd.row0 rfl | exact Rd.row rfl rfl | exact Rd.still | apply Rd.there)); (first | exact trivial | exact rfl))
        | (apply we_condT; exact rfl; (first | exact rfl | (simp <;> omega) | omega)))
      refine at_ent (arr xb 0 (inC ⟨21, on, a, b, c, d, n⟩) :: arr tb 0 (thCells cv (Mach.own t ⟨21, on, a, b, c, d, n⟩) (.slice (some ⟨ab, ao, none⟩) an ac)) :: F) (ent_eq (by rw [show Mach.own t ⟨21, on, a, b, c, d, n⟩ = { t with pc := n } from if_pos h0]; rfl)) ?_
      (first | refine at_ret0 (ex := .ret) Try.func100 Try.results100 hQ (.inl rfl) ?_ | refine at_ret0 (ex := .normal) Try.func100 Try.results100 hQ (.inr rfl) ?_)
      exact ⟨_, rfl, rfl, rfl⟩
    · have hc1 : ¬ (((t.r a / 2 ^ 63) % 18446744073709551616 : Nat) : Int) = 1 := by omega
      refine tr_of_body Try.func100 rfl Try.ntmps100 (by simp) fun um Q hQ => ?_
      simp only [argE, Nat.zero_add, Nat.reduceAdd]
      repeat (first
        | (apply wo_mo; apply mo_box; exact rfl; exact trivial)
        | refine we_seq ?_
        | (refine we_region _ rfl rfl ?_; simp only [opsOf, List.map_cons, List.map_nil, Option.map_none, Option.map_some, List.getElem?_toArray, List.getElem?_cons_zero, List.getElem?_cons_succ, Option.bind_some, Option.getD_some]))
      rintro v' L' ⟨xb, rfl, rfl⟩
      repeat (first
        | refine we_seq ?_
        | (refine we_region _ rfl rfl ?_; simp only [opsOf, List.map_cons, List.map_nil, Option.map_none, Option.map_some, List.getElem?_toArray, List.getElem?_cons_zero, List.getElem?_cons_succ, Option.bind_some, Option.getD_some])
        | refine wo_nil ?_
        | (apply wo_po; apply mo_move; exact rfl; (first | exact trivial | exact rfl))
        | (apply wo_po; apply mo_assign; exact rfl; (first | exact trivial | exact rfl))
        | (apply wo_po; apply mo_nilCheck; exact rfl; (first | exact trivial | exact rfl))
        | (apply wo_po; apply mo_fieldAddr; exact rfl; exact rfl; (first | exact Nat.zero_add _ | exact rfl); (first | exact trivial | exact rfl)))
      refine we_ent (arr xb 0 (inC ⟨21, on, a, b, c, d, n⟩) :: arr tb 0 (thCells cv { t with pc := t.pc + 1 } (.slice (some ⟨ab, ao, none⟩) an ac)) :: F) .refl ?_
      refine we_draw (List.range' 0 11) (by kernel_rfl) ?_
      have hreg := @hregs (arr xb 0 (inC ⟨21, on, a, b, c, d, n⟩))
      have hav : Rd (arr xb 0 (inC ⟨21, on, a, b, c, d, n⟩) :: arr tb 0 (thCells cv { t with pc := t.pc + 1 } (.slice (some ⟨ab, ao, none⟩) an ac)) :: F) tb 27 (.slice (some ⟨ab, ao, none⟩) an ac) := .there (.row0 rfl)
      repeat (first
        | (apply ap_read; exact rfl; exact rfl; exact trivial; apply mo_load; exact rfl; exact hav)
        | (apply ap_pure; exact rfl; exact rfl; exact trivial; intro L; apply mo_index2; exact rfl; exact rfl; omega)
        | (apply ap_pure; exact rfl; exact rfl; (first | exact trivial | exact rfl); intro L; apply mo_move; exact rfl)
        | (apply ap_pure; exact rfl; exact rfl; (first | exact trivial | exact rfl); intro L; apply mo_assign; exact rfl)
        | (apply ap_pure; exact rfl; exact rfl; (first | exact trivial | exact rfl); intro L; apply mo_nilCheck; exact rfl)
        | (apply ap_pure; exact rfl; exact rfl; (first | exact trivial | exact rfl); intro L; apply mo_fieldAddr; exact rfl; exact rfl; (first | exact Nat.zero_add _ | exact rfl))
        | (apply ap_read; exact rfl; exact rfl; (first | exact trivial | exact rfl); apply mo_load; exact rfl; (repeat (first | exact Rd.row0 rfl | exact Rd.row rfl rfl | exact Rd.still | apply Rd.there)))
        | refine ap_end ?_)
      repeat (first
        | (apply wo_po; apply mo_bin; exact rfl; exact rfl; apply bin_eqlT; omega; (first | exact trivial | exact rfl))
        | (apply wo_po; apply mo_bin; exact rfl; exact rfl; apply bin_eqlF; omega; (first | exact trivial | exact rfl))
        | refine we_seq ?_
        | (refine we_region _ rfl rfl ?_; simp only [opsOf, List.map_cons, List.map_nil, Option.map_none, Option.map_some, List.getElem?_toArray, List.getElem?_cons_zero, List.getElem?_cons_succ, Option.bind_some, Option.getD_some])
        | refine wo_nil ?_
        | (apply wo_po; apply mo_assign; exact rfl; (first | exact trivial | exact rfl))
        | (apply wo_po; apply mo_fieldAddr; exact rfl; exact rfl; (first | exact Nat.zero_add _ | exact rfl); (first | exact trivial | exact rfl))
        | (apply wo_po; apply mo_load; exact rfl; (repeat (first | exact Rd.row0 rfl | exact Rd.row rfl rfl | exact Rd.still | apply Rd.there)); (first | exact trivial | exact rfl))
        | (apply we_condT; exact rfl; (first | exact rfl | (simp <;> omega) | omega))
        | (apply we_condF; exact rfl; (first | exact rfl | (simp <;> omega) | omega))
        | refine we_block ?_)
      refine we_draw (List.range' 0 8) (by kernel_rfl) ?_
      repeat (first
        | (apply ap_pure; exact rfl; exact rfl; exact trivial; intro L; apply mo_indexArr1; exact rfl; exact rfl; omega)
        | (apply ap_read; exact rfl; exact rfl; exact trivial; apply mo_load; exact rfl; exact hreg _ ha)
        | (apply ap_pure; exact rfl; exact rfl; exact trivial; intro L; apply mo_bin; exact rfl; exact rfl; apply bin_shr; omega; exact hsh)
        | (apply ap_pure; exact rfl; exact rfl; (first | exact trivial | exact rfl); intro L; apply mo_move; exact rfl)
        | (apply ap_pure; exact rfl; exact rfl; (first | exact trivial | exact rfl); intro L; apply mo_nilCheck; exact rfl)
        | (apply ap_pure; exact rfl; exact rfl; (first | exact trivial | exact rfl); intro L; apply mo_fieldAddr; exact rfl; exact rfl; (first | exact Nat.zero_add _ | exact rfl))
        | (apply ap_pure; exact rfl; exact rfl; (first | exact trivial | exact rfl); intro L; apply mo_bin; exact rfl; exact rfl; exact bin_eql)
        | (apply ap_read; exact rfl; exact rfl; (first | exact trivial | exact rfl); apply mo_load; exact rfl; (repeat (first | exact Rd.row0 rfl | exact Rd.row rfl rfl | exact Rd.still | apply Rd.there)))
        | refine ap_end ?_)
      repeat (first
        | (apply we_condF; exact rfl; (first | exact rfl | (simp <;> omega) | omega))
        | refine we_skip ?_)
      refine at_ent (arr xb 0 (inC ⟨21, on, a, b, c, d, n⟩) :: arr tb 0 (thCells cv (Mach.own t ⟨21, on, a, b, c, d, n⟩) (.slice (some ⟨ab, ao, none⟩) an ac)) :: F) (ent_eq (by rw [show Mach.own t ⟨21, on, a, b, c, d, n⟩ = { t with pc := t.pc + 1 } from if_neg h0])) ?_
      (first | refine at_ret0 (ex := .ret) Try.func100 Try.results100 hQ (.inl rfl) ?_ | refine at_ret0 (ex := .normal) Try.func100 Try.results100 hQ (.inr rfl) ?_)
      exact ⟨_, rfl, rfl, rfl⟩

end Go.Proofs.Ytmkkanmkjfnpdaa
