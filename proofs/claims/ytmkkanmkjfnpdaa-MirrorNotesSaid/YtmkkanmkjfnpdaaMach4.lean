/-
  patchbayref00's thread.own: a thread's cells; the instructions that turn a register.
-/
import Derived.Test.YtmkkanmkjfnpdaaMach3
import Derived.Test.YtmkkanmkjfnpdaaFt
set_option linter.unusedVariables false
set_option linter.unusedSimpArgs false
namespace Go.PB
variable {P : Program} {e : Env} {L : List HProp} {ty : TypeId}

/-- a thread's cells -/
def thCells (cv : Value) (t : Mach.Th) (av : Value) : List Value := [cv, .int .i64 (t.call : Nat), .int .i64 (t.pc : Nat)] ++ ((List.range 24).map (fun i => num (t.r i)) ++ [av, .bool t.over])

theorem thCells_len {cv av : Value} {t : Mach.Th} : (thCells cv t av).length = 29 := by simp [thCells]

theorem thCells_reg {cv av : Value} {t : Mach.Th} {i : Nat} (h : i < 24) : (thCells cv t av)[3 + i]? = some (num (t.r i)) := by
  unfold thCells
  rw [List.getElem?_append_right (by simp), List.getElem?_append_left (by simp; omega)]
  simp [h]

theorem thCells_set {cv av : Value} {t : Mach.Th} {a v : Nat} (h : a < 24) : (thCells cv t av).set (3 + a) (num v) = thCells cv { t with r := upd t.r a v } av := by
  unfold thCells
  rw [List.set_append_right _ _ (by simp), List.set_append_left _ _ (by simp; omega)]
  congr 2
  apply List.ext_getElem?
  intro i
  rw [List.getElem?_set]
  simp only [List.length_cons, List.length_nil, List.length_map, List.length_range, List.getElem?_map]
  by_cases e : 3 + a - (0 + 1 + 1 + 1) = i
  · obtain rfl : i = a := by omega
    simp [h, upd]
  · rw [if_neg e]
    by_cases hi : i < 24
    · simp [hi, upd, show ¬ i = a by omega]
    · simp [hi]

theorem thCells_pc {cv av : Value} {t : Mach.Th} {n : Nat} : (thCells cv t av).set 2 (.int .i64 (n : Nat)) = thCells cv { t with pc := n } av := rfl

theorem rd_reg {tb : Nat} {cv av : Value} {t : Mach.Th} {F : List HProp} (hh : Has L (arr tb 0 (thCells cv t av)) F) {i : Nat} (h : i < 24) : Rd L tb (3 + i) (num (t.r i)) :=
  Rd.of hh (Rd.row (k := 3 + i) (thCells_reg h) (by omega))
end Go.PB

namespace Go.Proofs.Ytmkkanmkjfnpdaa
open Go Go.PB
attribute [local irreducible] Mo Bin Eql Tr Wo Ap

variable {B : Hand} [Lets B] {L F : List HProp} {x : B.X}

set_option maxHeartbeats 4000000 in
theorem own_reg_tr {tb : Nat} {w cv av : Value} {t : Mach.Th} {i : Mach.In} (hop : 6 ≤ i.op ∧ i.op ≤ 16) (hi : i.ok = true) (hr : ∀ j, t.r j < 18446744073709551616) (hpc : t.pc < 1000000) (hh : Has L (arr tb 0 (thCells cv t av)) F) :
    Tr Try.prog B 92 [.pointer (some ⟨tb, 0, none⟩), w, .agg (inC i).toArray] L x fun v L' x' => v = .tuple #[] ∧ L' = arr tb 0 (thCells cv (Mach.own t i) av) :: F ∧ x' = x := by
  refine tr_star _ (fun h s => hh.star s) ?_
  clear hh
  refine Tr.post (R := fun v L' x' => ∃ c, v = .tuple #[] ∧ L' = c :: arr tb 0 (thCells cv (Mach.own t i) av) :: F ∧ x' = x) ?_ (by rintro v L' x' ⟨c, rfl, rfl, rfl⟩; exact ⟨_, ⟨rfl, rfl, rfl⟩, fun h s => star_drop s⟩)
  obtain ⟨op, on, a, b, c, d, n⟩ := i
  simp only [Mach.In.ok, Bool.and_eq_true, decide_eq_true_eq, Bool.or_eq_true, Bool.not_eq_true', decide_eq_false_iff_not] at hi hop
  obtain ⟨⟨⟨⟨⟨⟨⟨⟨⟨⟨_, _⟩, ha⟩, hb⟩, hc⟩, hd⟩, hon⟩, hn⟩, _⟩, _⟩, hsh⟩ := hi
  have hops : op = 6 ∨ op = 7 ∨ op = 8 ∨ op = 9 ∨ op = 10 ∨ op = 11 ∨ op = 12 ∨ op = 13 ∨ op = 14 ∨ op = 15 ∨ op = 16 := by omega
  have hregs : ∀ {e : HProp}, ∀ j, j < 24 → Rd (e :: arr tb 0 (thCells cv { t with pc := t.pc + 1 } av) :: F) tb (3 + j) (num (t.r j)) := fun {e} j h => rd_reg (t := { t with pc := t.pc + 1 }) (.there .here) h
  have vb := hr b
  have vc := hr c
  rcases hops with rfl | rfl | rfl | rfl | rfl | rfl | rfl | rfl | rfl | rfl | rfl
  · refine tr_of_body Try.func92 rfl Try.ntmps92 (by simp) fun um Q hQ => ?_
    simp only [argE, Nat.zero_add, Nat.reduceAdd]
    repeat (first
      | (apply wo_mo; apply mo_box; exact rfl; exact trivial)
      | refine we_seq ?_
      | (refine we_region _ rfl rfl ?_; simp only [opsOf, List.map_cons, List.map_nil, Option.map_none, Option.map_some, List.getElem?_toArray, List.getElem?_cons_zero, List.getElem?_cons_succ, Option.bind_some, Option.getD_some]))
    rintro v' L' ⟨xb, rfl, rfl⟩
    repeat (first
      | (apply wo_pm; apply mo_store; exact rfl; exact rfl; exact rfl; apply Wt.row0; (repeat (first | exact Foc.here | apply Foc.there)); (first | exact Nat.lt_of_sub_eq_succ rfl | omega); (first | exact trivial | exact rfl))
      | (apply wo_po; apply mo_bin; exact rfl; exact rfl; apply bin_eqlT; omega; (first | exact trivial | exact rfl))
      | refine we_seq ?_
      | (refine we_region _ rfl rfl ?_; simp only [opsOf, List.map_cons, List.map_nil, Option.map_none, Option.map_some, List.getElem?_toArray, List.getElem?_cons_zero, List.getElem?_cons_succ, Option.bind_some, Option.getD_some])
      | refine wo_nil ?_
      | (apply wo_po; apply mo_move; exact rfl; (first | exact trivial | exact rfl))
      | (apply wo_po; apply mo_assign; exact rfl; (first | exact trivial | exact rfl))
      | (apply wo_po; apply mo_nilCheck; exact rfl; (first | exact trivial | exact rfl))
      | (apply wo_po; apply mo_fieldAddr; exact rfl; exact rfl; (first | exact Nat.zero_add _ | exact rfl); (first | exact trivial | exact rfl))
      | (apply wo_po; apply mo_load; exact rfl; (repeat (first | exact Rd.row0 rfl | exact Rd.row rfl rfl | exact Rd.still | apply Rd.there)); (first | exact trivial | exact rfl))
      | (apply wo_po; apply mo_bin; exact rfl; exact rfl; apply bin_add; exact wrap_i64 (by omega) (by omega); (first | exact trivial | exact rfl))
      | (apply we_condT; exact rfl; (first | exact rfl | (simp <;> omega) | omega))
      | refine we_block ?_)
    refine we_ent (arr xb 0 (inC ⟨6, on, a, b, c, d, n⟩) :: arr tb 0 (thCells cv { t with pc := t.pc + 1 } av) :: F) .refl ?_
    refine we_draw (List.range' 0 8) (by kernel_rfl) ?_
    have hreg := @hregs (arr xb 0 (inC ⟨6, on, a, b, c, d, n⟩))
    repeat (first
      | (apply ap_pure; exact rfl; exact rfl; exact trivial; intro L; apply mo_indexArr1; exact rfl; exact rfl; omega)
      | (apply ap_pure; exact rfl; exact rfl; (first | exact trivial | exact rfl); intro L; apply mo_move; exact rfl)
      | (apply ap_pure; exact rfl; exact rfl; (first | exact trivial | exact rfl); intro L; apply mo_nilCheck; exact rfl)
      | (apply ap_pure; exact rfl; exact rfl; (first | exact trivial | exact rfl); intro L; apply mo_fieldAddr; exact rfl; exact rfl; (first | exact Nat.zero_add _ | exact rfl))
      | (apply ap_read; exact rfl; exact rfl; (first | exact trivial | exact rfl); apply mo_load; exact rfl; (repeat (first | exact Rd.row0 rfl | exact Rd.row rfl rfl | exact Rd.still | apply Rd.there))))
    refine ap_loud rfl rfl rfl rfl rfl trivial (mo_store rfl rfl rfl (Wt.row0 (k := 3 + a) (vs := thCells cv { t with pc := t.pc + 1 } av) (.there .here) (by rw [thCells_len]; omega))) ?_
    rintro v' L' ⟨rfl, rfl⟩
    refine ap_end ?_
    refine at_ent (arr xb 0 (inC ⟨6, on, a, b, c, d, n⟩) :: arr tb 0 (thCells cv (Mach.own t ⟨6, on, a, b, c, d, n⟩) av) :: F) (ent_eq (by rw [show (Value.int .u64 (n : Int)) = num (n % 18446744073709551616) by rw [Nat.mod_eq_of_lt hn]; rfl, thCells_set ha]; rfl)) ?_
    skip
    (first | refine at_ret0 (ex := .ret) Try.func92 Try.results92 hQ (.inl rfl) ?_ | refine at_ret0 (ex := .normal) Try.func92 Try.results92 hQ (.inr rfl) ?_)
    exact ⟨_, rfl, rfl, rfl⟩
  · refine tr_of_body Try.func92 rfl Try.ntmps92 (by simp) fun um Q hQ => ?_
    simp only [argE, Nat.zero_add, Nat.reduceAdd]
    repeat (first
      | (apply wo_mo; apply mo_box; exact rfl; exact trivial)
      | refine we_seq ?_
      | (refine we_region _ rfl rfl ?_; simp only [opsOf, List.map_cons, List.map_nil, Option.map_none, Option.map_some, List.getElem?_toArray, List.getElem?_cons_zero, List.getElem?_cons_succ, Option.bind_some, Option.getD_some]))
    rintro v' L' ⟨xb, rfl, rfl⟩
    repeat (first
      | (apply wo_pm; apply mo_store; exact rfl; exact rfl; exact rfl; apply Wt.row0; (repeat (first | exact Foc.here | apply Foc.there)); (first | exact Nat.lt_of_sub_eq_succ rfl | omega); (first | exact trivial | exact rfl))
      | (apply wo_po; apply mo_bin; exact rfl; exact rfl; apply bin_eqlT; omega; (first | exact trivial | exact rfl))
      | (apply wo_po; apply mo_bin; exact rfl; exact rfl; apply bin_eqlF; omega; (first | exact trivial | exact rfl))
      | refine we_seq ?_
      | (refine we_region _ rfl rfl ?_; simp only [opsOf, List.map_cons, List.map_nil, Option.map_none, Option.map_some, List.getElem?_toArray, List.getElem?_cons_zero, List.getElem?_cons_succ, Option.bind_some, Option.getD_some])
      | refine wo_nil ?_
      | (apply wo_po; apply mo_move; exact rfl; (first | exact trivial | exact rfl))
      | (apply wo_po; apply mo_assign; exact rfl; (first | exact trivial | exact rfl))
      | (apply wo_po; apply mo_nilCheck; exact rfl; (first | exact trivial | exact rfl))
      | (apply wo_po; apply mo_fieldAddr; exact rfl; exact rfl; (first | exact Nat.zero_add _ | exact rfl); (first | exact trivial | exact rfl))
      | (apply wo_po; apply mo_load; exact rfl; (repeat (first | exact Rd.row0 rfl | exact Rd.row rfl rfl | exact Rd.still | apply Rd.there)); (first | exact trivial | exact rfl))
      | (apply wo_po; apply mo_bin; exact rfl; exact rfl; apply bin_add; exact wrap_i64 (by omega) (by omega); (first | exact trivial | exact rfl))
      | (apply we_condT; exact rfl; (first | exact rfl | (simp <;> omega) | omega))
      | (apply we_condF; exact rfl; (first | exact rfl | (simp <;> omega) | omega))
      | refine we_block ?_)
    refine we_ent (arr xb 0 (inC ⟨7, on, a, b, c, d, n⟩) :: arr tb 0 (thCells cv { t with pc := t.pc + 1 } av) :: F) .refl ?_
    refine we_draw (List.range' 0 12) (by kernel_rfl) ?_
    have hreg := @hregs (arr xb 0 (inC ⟨7, on, a, b, c, d, n⟩))
    repeat (first
      | (apply ap_pure; exact rfl; exact rfl; exact trivial; intro L; apply mo_indexArr1; exact rfl; exact rfl; omega)
      | (apply ap_read; exact rfl; exact rfl; exact trivial; apply mo_load; exact rfl; exact hreg _ hb)
      | (apply ap_pure; exact rfl; exact rfl; (first | exact trivial | exact rfl); intro L; apply mo_move; exact rfl)
      | (apply ap_pure; exact rfl; exact rfl; (first | exact trivial | exact rfl); intro L; apply mo_nilCheck; exact rfl)
      | (apply ap_pure; exact rfl; exact rfl; (first | exact trivial | exact rfl); intro L; apply mo_fieldAddr; exact rfl; exact rfl; (first | exact Nat.zero_add _ | exact rfl))
      | (apply ap_read; exact rfl; exact rfl; (first | exact trivial | exact rfl); apply mo_load; exact rfl; (repeat (first | exact Rd.row0 rfl | exact Rd.row rfl rfl | exact Rd.still | apply Rd.there))))
    refine ap_loud rfl rfl rfl rfl rfl trivial (mo_store rfl rfl rfl (Wt.row0 (k := 3 + a) (vs := thCells cv { t with pc := t.pc + 1 } av) (.there .here) (by rw [thCells_len]; omega))) ?_
    rintro v' L' ⟨rfl, rfl⟩
    refine ap_end ?_
    refine at_ent (arr xb 0 (inC ⟨7, on, a, b, c, d, n⟩) :: arr tb 0 (thCells cv (Mach.own t ⟨7, on, a, b, c, d, n⟩) av) :: F) (ent_eq (by rw [show num (t.r b) = num (t.r b % 18446744073709551616) by rw [Nat.mod_eq_of_lt vb], thCells_set ha]; rfl)) ?_
    skip
    (first | refine at_ret0 (ex := .ret) Try.func92 Try.results92 hQ (.inl rfl) ?_ | refine at_ret0 (ex := .normal) Try.func92 Try.results92 hQ (.inr rfl) ?_)
    exact ⟨_, rfl, rfl, rfl⟩
  · refine tr_of_body Try.func92 rfl Try.ntmps92 (by simp) fun um Q hQ => ?_
    simp only [argE, Nat.zero_add, Nat.reduceAdd]
    repeat (first
      | (apply wo_mo; apply mo_box; exact rfl; exact trivial)
      | refine we_seq ?_
      | (refine we_region _ rfl rfl ?_; simp only [opsOf, List.map_cons, List.map_nil, Option.map_none, Option.map_some, List.getElem?_toArray, List.getElem?_cons_zero, List.getElem?_cons_succ, Option.bind_some, Option.getD_some]))
    rintro v' L' ⟨xb, rfl, rfl⟩
    repeat (first
      | (apply wo_pm; apply mo_store; exact rfl; exact rfl; exact rfl; apply Wt.row0; (repeat (first | exact Foc.here | apply Foc.there)); (first | exact Nat.lt_of_sub_eq_succ rfl | omega); (first | exact trivial | exact rfl))
      | (apply wo_po; apply mo_bin; exact rfl; exact rfl; apply bin_eqlT; omega; (first | exact trivial | exact rfl))
      | (apply wo_po; apply mo_bin; exact rfl; exact rfl; apply bin_eqlF; omega; (first | exact trivial | exact rfl))
      | refine we_seq ?_
      | (refine we_region _ rfl rfl ?_; simp only [opsOf, List.map_cons, List.map_nil, Option.map_none, Option.map_some, List.getElem?_toArray, List.getElem?_cons_zero, List.getElem?_cons_succ, Option.bind_some, Option.getD_some])
      | refine wo_nil ?_
      | (apply wo_po; apply mo_move; exact rfl; (first | exact trivial | exact rfl))
      | (apply wo_po; apply mo_assign; exact rfl; (first | exact trivial | exact rfl))
      | (apply wo_po; apply mo_nilCheck; exact rfl; (first | exact trivial | exact rfl))
      | (apply wo_po; apply mo_fieldAddr; exact rfl; exact rfl; (first | exact Nat.zero_add _ | exact rfl); (first | exact trivial | exact rfl))
      | (apply wo_po; apply mo_load; exact rfl; (repeat (first | exact Rd.row0 rfl | exact Rd.row rfl rfl | exact Rd.still | apply Rd.there)); (first | exact trivial | exact rfl))
      | (apply wo_po; apply mo_bin; exact rfl; exact rfl; apply bin_add; exact wrap_i64 (by omega) (by omega); (first | exact trivial | exact rfl))
      | (apply we_condT; exact rfl; (first | exact rfl | (simp <;> omega) | omega))
      | (apply we_condF; exact rfl; (first | exact rfl | (simp <;> omega) | omega))
      | refine we_block ?_)
    refine we_ent (arr xb 0 (inC ⟨8, on, a, b, c, d, n⟩) :: arr tb 0 (thCells cv { t with pc := t.pc + 1 } av) :: F) .refl ?_
    refine we_draw (List.range' 0 22) (by kernel_rfl) ?_
    have hreg := @hregs (arr xb 0 (inC ⟨8, on, a, b, c, d, n⟩))
    repeat (first
      | (apply ap_pure; exact rfl; exact rfl; exact trivial; intro L; apply mo_indexArr1; exact rfl; exact rfl; omega)
      | (apply ap_read; exact rfl; exact rfl; exact trivial; apply mo_load; exact rfl; exact hreg _ hb)
      | (apply ap_read; exact rfl; exact rfl; exact trivial; apply mo_load; exact rfl; exact hreg _ hc)
      | (apply ap_pure; exact rfl; exact rfl; exact trivial; intro L; apply mo_bin; exact rfl; exact rfl; apply bin_add; exact u64_add)
      | (apply ap_pure; exact rfl; exact rfl; (first | exact trivial | exact rfl); intro L; apply mo_move; exact rfl)
      | (apply ap_pure; exact rfl; exact rfl; (first | exact trivial | exact rfl); intro L; apply mo_nilCheck; exact rfl)
      | (apply ap_pure; exact rfl; exact rfl; (first | exact trivial | exact rfl); intro L; apply mo_fieldAddr; exact rfl; exact rfl; (first | exact Nat.zero_add _ | exact rfl))
      | (apply ap_read; exact rfl; exact rfl; (first | exact trivial | exact rfl); apply mo_load; exact rfl; (repeat (first | exact Rd.row0 rfl | exact Rd.row rfl rfl | exact Rd.still | apply Rd.there))))
    refine ap_loud rfl rfl rfl rfl rfl trivial (mo_store rfl rfl rfl (Wt.row0 (k := 3 + a) (vs := thCells cv { t with pc := t.pc + 1 } av) (.there .here) (by rw [thCells_len]; omega))) ?_
    rintro v' L' ⟨rfl, rfl⟩
    refine ap_end ?_
    refine at_ent (arr xb 0 (inC ⟨8, on, a, b, c, d, n⟩) :: arr tb 0 (thCells cv (Mach.own t ⟨8, on, a, b, c, d, n⟩) av) :: F) (ent_eq (by rw [show Value.int .u64 (((((t.r b + t.r c) % 18446744073709551616) + n) % 18446744073709551616 : Nat) : Int) = num ((t.r b + t.r c + n) % 18446744073709551616) by unfold num; congr 1; omega, thCells_set ha]; rfl)) ?_
    skip
    (first | refine at_ret0 (ex := .ret) Try.func92 Try.results92 hQ (.inl rfl) ?_ | refine at_ret0 (ex := .normal) Try.func92 Try.results92 hQ (.inr rfl) ?_)
    exact ⟨_, rfl, rfl, rfl⟩
  · refine tr_of_body Try.func92 rfl Try.ntmps92 (by simp) fun um Q hQ => ?_
    simp only [argE, Nat.zero_add, Nat.reduceAdd]
    repeat (first
      | (apply wo_mo; apply mo_box; exact rfl; exact trivial)
      | refine we_seq ?_
      | (refine we_region _ rfl rfl ?_; simp only [opsOf, List.map_cons, List.map_nil, Option.map_none, Option.map_some, List.getElem?_toArray, List.getElem?_cons_zero, List.getElem?_cons_succ, Option.bind_some, Option.getD_some]))
    rintro v' L' ⟨xb, rfl, rfl⟩
    repeat (first
      | (apply wo_pm; apply mo_store; exact rfl; exact rfl; exact rfl; apply Wt.row0; (repeat (first | exact Foc.here | apply Foc.there)); (first | exact Nat.lt_of_sub_eq_succ rfl | omega); (first | exact trivial | exact rfl))
      | (apply wo_po; apply mo_bin; exact rfl; exact rfl; apply bin_eqlT; omega; (first | exact trivial | exact rfl))
      | (apply wo_po; apply mo_bin; exact rfl; exact rfl; apply bin_eqlF; omega; (first | exact trivial | exact rfl))
      | refine we_seq ?_
      | (refine we_region _ rfl rfl ?_; simp only [opsOf, List.map_cons, List.map_nil, Option.map_none, Option.map_some, List.getElem?_toArray, List.getElem?_cons_zero, List.getElem?_cons_succ, Option.bind_some, Option.getD_some])
      | refine wo_nil ?_
      | (apply wo_po; apply mo_move; exact rfl; (first | exact trivial | exact rfl))
      | (apply wo_po; apply mo_assign; exact rfl; (first | exact trivial | exact rfl))
      | (apply wo_po; apply mo_nilCheck; exact rfl; (first | exact trivial | exact rfl))
      | (apply wo_po; apply mo_fieldAddr; exact rfl; exact rfl; (first | exact Nat.zero_add _ | exact rfl); (first | exact trivial | exact rfl))
      | (apply wo_po; apply mo_load; exact rfl; (repeat (first | exact Rd.row0 rfl | exact Rd.row rfl rfl | exact Rd.still | apply Rd.there)); (first | exact trivial | exact rfl))
      | (apply wo_po; apply mo_bin; exact rfl; exact rfl; apply bin_add; exact wrap_i64 (by omega) (by omega); (first | exact trivial | exact rfl))
      | (apply we_condT; exact rfl; (first | exact rfl | (simp <;> omega) | omega))
      | (apply we_condF; exact rfl; (first | exact rfl | (simp <;> omega) | omega))
      | refine we_block ?_)
    refine we_ent (arr xb 0 (inC ⟨9, on, a, b, c, d, n⟩) :: arr tb 0 (thCells cv { t with pc := t.pc + 1 } av) :: F) .refl ?_
    refine we_draw (List.range' 0 19) (by kernel_rfl) ?_
    have hreg := @hregs (arr xb 0 (inC ⟨9, on, a, b, c, d, n⟩))
    repeat (first
      | (apply ap_pure; exact rfl; exact rfl; exact trivial; intro L; apply mo_indexArr1; exact rfl; exact rfl; omega)
      | (apply ap_read; exact rfl; exact rfl; exact trivial; apply mo_load; exact rfl; exact hreg _ hb)
      | (apply ap_read; exact rfl; exact rfl; exact trivial; apply mo_load; exact rfl; exact hreg _ hc)
      | (apply ap_pure; exact rfl; exact rfl; exact trivial; intro L; apply mo_bin; exact rfl; exact rfl; apply bin_sub; exact u64_sub vc)
      | (apply ap_pure; exact rfl; exact rfl; (first | exact trivial | exact rfl); intro L; apply mo_move; exact rfl)
      | (apply ap_pure; exact rfl; exact rfl; (first | exact trivial | exact rfl); intro L; apply mo_nilCheck; exact rfl)
      | (apply ap_pure; exact rfl; exact rfl; (first | exact trivial | exact rfl); intro L; apply mo_fieldAddr; exact rfl; exact rfl; (first | exact Nat.zero_add _ | exact rfl))
      | (apply ap_read; exact rfl; exact rfl; (first | exact trivial | exact rfl); apply mo_load; exact rfl; (repeat (first | exact Rd.row0 rfl | exact Rd.row rfl rfl | exact Rd.still | apply Rd.there))))
    refine ap_loud rfl rfl rfl rfl rfl trivial (mo_store rfl rfl rfl (Wt.row0 (k := 3 + a) (vs := thCells cv { t with pc := t.pc + 1 } av) (.there .here) (by rw [thCells_len]; omega))) ?_
    rintro v' L' ⟨rfl, rfl⟩
    refine ap_end ?_
    refine at_ent (arr xb 0 (inC ⟨9, on, a, b, c, d, n⟩) :: arr tb 0 (thCells cv (Mach.own t ⟨9, on, a, b, c, d, n⟩) av) :: F) (ent_eq (by rw [show Value.int .u64 (((t.r b + 18446744073709551616 - t.r c) % 18446744073709551616 : Nat) : Int) = num ((t.r b + 18446744073709551616 - t.r c) % 18446744073709551616) from rfl, thCells_set ha]; rfl)) ?_
    skip
    (first | refine at_ret0 (ex := .ret) Try.func92 Try.results92 hQ (.inl rfl) ?_ | refine at_ret0 (ex := .normal) Try.func92 Try.results92 hQ (.inr rfl) ?_)
    exact ⟨_, rfl, rfl, rfl⟩
  · refine tr_of_body Try.func92 rfl Try.ntmps92 (by simp) fun um Q hQ => ?_
    simp only [argE, Nat.zero_add, Nat.reduceAdd]
    repeat (first
      | (apply wo_mo; apply mo_box; exact rfl; exact trivial)
      | refine we_seq ?_
      | (refine we_region _ rfl rfl ?_; simp only [opsOf, List.map_cons, List.map_nil, Option.map_none, Option.map_some, List.getElem?_toArray, List.getElem?_cons_zero, List.getElem?_cons_succ, Option.bind_some, Option.getD_some]))
    rintro v' L' ⟨xb, rfl, rfl⟩
    repeat (first
      | (apply wo_pm; apply mo_store; exact rfl; exact rfl; exact rfl; apply Wt.row0; (repeat (first | exact Foc.here | apply Foc.there)); (first | exact Nat.lt_of_sub_eq_succ rfl | omega); (first | exact trivial | exact rfl))
      | (apply wo_po; apply mo_bin; exact rfl; exact rfl; apply bin_eqlT; omega; (first | exact trivial | exact rfl))
      | (apply wo_po; apply mo_bin; exact rfl; exact rfl; apply bin_eqlF; omega; (first | exact trivial | exact rfl))
      | refine we_seq ?_
      | (refine we_region _ rfl rfl ?_; simp only [opsOf, List.map_cons, List.map_nil, Option.map_none, Option.map_some, List.getElem?_toArray, List.getElem?_cons_zero, List.getElem?_cons_succ, Option.bind_some, Option.getD_some])
      | refine wo_nil ?_
      | (apply wo_po; apply mo_move; exact rfl; (first | exact trivial | exact rfl))
      | (apply wo_po; apply mo_assign; exact rfl; (first | exact trivial | exact rfl))
      | (apply wo_po; apply mo_nilCheck; exact rfl; (first | exact trivial | exact rfl))
      | (apply wo_po; apply mo_fieldAddr; exact rfl; exact rfl; (first | exact Nat.zero_add _ | exact rfl); (first | exact trivial | exact rfl))
      | (apply wo_po; apply mo_load; exact rfl; (repeat (first | exact Rd.row0 rfl | exact Rd.row rfl rfl | exact Rd.still | apply Rd.there)); (first | exact trivial | exact rfl))
      | (apply wo_po; apply mo_bin; exact rfl; exact rfl; apply bin_add; exact wrap_i64 (by omega) (by omega); (first | exact trivial | exact rfl))
      | (apply we_condT; exact rfl; (first | exact rfl | (simp <;> omega) | omega))
      | (apply we_condF; exact rfl; (first | exact rfl | (simp <;> omega) | omega))
      | refine we_block ?_)
    refine we_ent (arr xb 0 (inC ⟨10, on, a, b, c, d, n⟩) :: arr tb 0 (thCells cv { t with pc := t.pc + 1 } av) :: F) .refl ?_
    refine we_draw (List.range' 0 19) (by kernel_rfl) ?_
    have hreg := @hregs (arr xb 0 (inC ⟨10, on, a, b, c, d, n⟩))
    repeat (first
      | (apply ap_pure; exact rfl; exact rfl; exact trivial; intro L; apply mo_indexArr1; exact rfl; exact rfl; omega)
      | (apply ap_read; exact rfl; exact rfl; exact trivial; apply mo_load; exact rfl; exact hreg _ hb)
      | (apply ap_read; exact rfl; exact rfl; exact trivial; apply mo_load; exact rfl; exact hreg _ hc)
      | (apply ap_pure; exact rfl; exact rfl; exact trivial; intro L; apply mo_bin; exact rfl; exact rfl; apply bin_mul; exact u64_mul)
      | (apply ap_pure; exact rfl; exact rfl; (first | exact trivial | exact rfl); intro L; apply mo_move; exact rfl)
      | (apply ap_pure; exact rfl; exact rfl; (first | exact trivial | exact rfl); intro L; apply mo_nilCheck; exact rfl)
      | (apply ap_pure; exact rfl; exact rfl; (first | exact trivial | exact rfl); intro L; apply mo_fieldAddr; exact rfl; exact rfl; (first | exact Nat.zero_add _ | exact rfl))
      | (apply ap_read; exact rfl; exact rfl; (first | exact trivial | exact rfl); apply mo_load; exact rfl; (repeat (first | exact Rd.row0 rfl | exact Rd.row rfl rfl | exact Rd.still | apply Rd.there))))
    refine ap_loud rfl rfl rfl rfl rfl trivial (mo_store rfl rfl rfl (Wt.row0 (k := 3 + a) (vs := thCells cv { t with pc := t.pc + 1 } av) (.there .here) (by rw [thCells_len]; omega))) ?_
    rintro v' L' ⟨rfl, rfl⟩
    refine ap_end ?_
    refine at_ent (arr xb 0 (inC ⟨10, on, a, b, c, d, n⟩) :: arr tb 0 (thCells cv (Mach.own t ⟨10, on, a, b, c, d, n⟩) av) :: F) (ent_eq (by rw [show Value.int .u64 (((t.r b * t.r c) % 18446744073709551616 : Nat) : Int) = num ((t.r b * t.r c) % 18446744073709551616) from rfl, thCells_set ha]; rfl)) ?_
    skip
    (first | refine at_ret0 (ex := .ret) Try.func92 Try.results92 hQ (.inl rfl) ?_ | refine at_ret0 (ex := .normal) Try.func92 Try.results92 hQ (.inr rfl) ?_)
    exact ⟨_, rfl, rfl, rfl⟩
  · by_cases h0 : t.r c = 0
    · have hc1 : (t.r c : Int) = 0 := by omega
      refine tr_of_body Try.func92 rfl Try.ntmps92 (by simp) fun um Q hQ => ?_
      simp only [argE, Nat.zero_add, Nat.reduceAdd]
      repeat (first
        | (apply wo_mo; apply mo_box; exact rfl; exact trivial)
        | refine we_seq ?_
        | (refine we_region _ rfl rfl ?_; simp only [opsOf, List.map_cons, List.map_nil, Option.map_none, Option.map_some, List.getElem?_toArray, List.getElem?_cons_zero, List.getElem?_cons_succ, Option.bind_some, Option.getD_some]))
      rintro v' L' ⟨xb, rfl, rfl⟩
      repeat (first
        | (apply wo_pm; apply mo_store; exact rfl; exact rfl; exact rfl; apply Wt.row0; (repeat (first | exact Foc.here | apply Foc.there)); (first | exact Nat.lt_of_sub_eq_succ rfl | omega); (first | exact trivial | exact rfl))
        | (apply wo_po; apply mo_bin; exact rfl; exact rfl; apply bin_eqlT; omega; (first | exact trivial | exact rfl))
        | (apply wo_po; apply mo_bin; exact rfl; exact rfl; apply bin_eqlF; omega; (first | exact trivial | exact rfl))
        | refine we_seq ?_
        | (refine we_region _ rfl rfl ?_; simp only [opsOf, List.map_cons, List.map_nil, Option.map_none, Option.map_some, List.getElem?_toArray, List.getElem?_cons_zero, List.getElem?_cons_succ, Option.bind_some, Option.getD_some])
        | refine wo_nil ?_
        | (apply wo_po; apply mo_move; exact rfl; (first | exact trivial | exact rfl))
        | (apply wo_po; apply mo_assign; exact rfl; (first | exact trivial | exact rfl))
        | (apply wo_po; apply mo_nilCheck; exact rfl; (first | exact trivial | exact rfl))
        | (apply wo_po; apply mo_fieldAddr; exact rfl; exact rfl; (first | exact Nat.zero_add _ | exact rfl); (first | exact trivial | exact rfl))
        | (apply wo_po; apply mo_load; exact rfl; (repeat (first | exact Rd.row0 rfl | exact Rd.row rfl rfl | exact Rd.still | apply Rd.there)); (first | exact trivial | exact rfl))
        | (apply wo_po; apply mo_bin; exact rfl; exact rfl; apply bin_add; exact wrap_i64 (by omega) (by omega); (first | exact trivial | exact rfl))
        | (apply we_condT; exact rfl; (first | exact rfl | (simp <;> omega) | omega))
        | (apply we_condF; exact rfl; (first | exact rfl | (simp <;> omega) | omega))
        | refine we_block ?_)
      refine we_ent (arr xb 0 (inC ⟨11, on, a, b, c, d, n⟩) :: arr tb 0 (thCells cv { t with pc := t.pc + 1 } av) :: F) .refl ?_
      refine we_draw (List.range' 0 7) (by kernel_rfl) ?_
      have hreg := @hregs (arr xb 0 (inC ⟨11, on, a, b, c, d, n⟩))
      repeat (first
        | (apply ap_pure; exact rfl; exact rfl; exact trivial; intro L; apply mo_indexArr1; exact rfl; exact rfl; omega)
        | (apply ap_read; exact rfl; exact rfl; exact trivial; apply mo_load; exact rfl; exact hreg _ hc)
        | (apply ap_pure; exact rfl; exact rfl; exact trivial; intro L; apply mo_bin; exact rfl; exact rfl; apply bin_eqlT; exact hc1)
        | (apply ap_pure; exact rfl; exact rfl; (first | exact trivial | exact rfl); intro L; apply mo_move; exact rfl)
        | (apply ap_pure; exact rfl; exact rfl; (first | exact trivial | exact rfl); intro L; apply mo_nilCheck; exact rfl)
        | (apply ap_pure; exact rfl; exact rfl; (first | exact trivial | exact rfl); intro L; apply mo_fieldAddr; exact rfl; exact rfl; (first | exact Nat.zero_add _ | exact rfl))
        | (apply ap_read; exact rfl; exact rfl; (first | exact trivial | exact rfl); apply mo_load; exact rfl; (repeat (first | exact Rd.row0 rfl | exact Rd.row rfl rfl | exact Rd.still | apply Rd.there)))
        | refine ap_end ?_)
      repeat (first
        | (apply we_condT; exact rfl; (first | exact rfl | (simp <;> omega) | omega)))
      refine we_draw (List.range' 0 6) (by kernel_rfl) ?_
      have hreg := @hregs (arr xb 0 (inC ⟨11, on, a, b, c, d, n⟩))
      repeat (first
        | (apply ap_pure; exact rfl; exact rfl; exact trivial; intro L; apply mo_indexArr1; exact rfl; exact rfl; omega)
        | (apply ap_pure; exact rfl; exact rfl; (first | exact trivial | exact rfl); intro L; apply mo_move; exact rfl)
        | (apply ap_pure; exact rfl; exact rfl; (first | exact trivial | exact rfl); intro L; apply mo_nilCheck; exact rfl)
        | (apply ap_pure; exact rfl; exact rfl; (first | exact trivial | exact rfl); intro L; apply mo_fieldAddr; exact rfl; exact rfl; (first | exact Nat.zero_add _ | exact rfl))
        | (apply ap_read; exact rfl; exact rfl; (first | exact trivial | exact rfl); apply mo_load; exact rfl; (repeat (first | exact Rd.row0 rfl | exact Rd.row rfl rfl | exact Rd.still | apply Rd.there))))
      refine ap_loud rfl rfl rfl rfl rfl trivial (mo_store rfl rfl rfl (Wt.row0 (k := 3 + a) (vs := thCells cv { t with pc := t.pc + 1 } av) (.there .here) (by rw [thCells_len]; omega))) ?_
      rintro v' L' ⟨rfl, rfl⟩
      refine ap_end ?_
      refine at_ent (arr xb 0 (inC ⟨11, on, a, b, c, d, n⟩) :: arr tb 0 (thCells cv (Mach.own t ⟨11, on, a, b, c, d, n⟩) av) :: F) (ent_eq (by rw [show Value.int .u64 0 = num ((if t.r c = 0 then 0 else t.r b / t.r c) % 18446744073709551616) by rw [if_pos h0]; rfl, thCells_set ha]; rfl)) ?_
      skip
      (first | refine at_ret0 (ex := .ret) Try.func92 Try.results92 hQ (.inl rfl) ?_ | refine at_ret0 (ex := .normal) Try.func92 Try.results92 hQ (.inr rfl) ?_)
      exact ⟨_, rfl, rfl, rfl⟩
    · have hc0 : (t.r c : Int) ≠ 0 := by omega
      refine tr_of_body Try.func92 rfl Try.ntmps92 (by simp) fun um Q hQ => ?_
      simp only [argE, Nat.zero_add, Nat.reduceAdd]
      repeat (first
        | (apply wo_mo; apply mo_box; exact rfl; exact trivial)
        | refine we_seq ?_
        | (refine we_region _ rfl rfl ?_; simp only [opsOf, List.map_cons, List.map_nil, Option.map_none, Option.map_some, List.getElem?_toArray, List.getElem?_cons_zero, List.getElem?_cons_succ, Option.bind_some, Option.getD_some]))
      rintro v' L' ⟨xb, rfl, rfl⟩
      repeat (first
        | (apply wo_pm; apply mo_store; exact rfl; exact rfl; exact rfl; apply Wt.row0; (repeat (first | exact Foc.here | apply Foc.there)); (first | exact Nat.lt_of_sub_eq_succ rfl | omega); (first | exact trivial | exact rfl))
        | (apply wo_po; apply mo_bin; exact rfl; exact rfl; apply bin_eqlT; omega; (first | exact trivial | exact rfl))
        | (apply wo_po; apply mo_bin; exact rfl; exact rfl; apply bin_eqlF; omega; (first | exact trivial | exact rfl))
        | refine we_seq ?_
        | (refine we_region _ rfl rfl ?_; simp only [opsOf, List.map_cons, List.map_nil, Option.map_none, Option.map_some, List.getElem?_toArray, List.getElem?_cons_zero, List.getElem?_cons_succ, Option.bind_some, Option.getD_some])
        | refine wo_nil ?_
        | (apply wo_po; apply mo_move; exact rfl; (first | exact trivial | exact rfl))
        | (apply wo_po; apply mo_assign; exact rfl; (first | exact trivial | exact rfl))
        | (apply wo_po; apply mo_nilCheck; exact rfl; (first | exact trivial | exact rfl))
        | (apply wo_po; apply mo_fieldAddr; exact rfl; exact rfl; (first | exact Nat.zero_add _ | exact rfl); (first | exact trivial | exact rfl))
        | (apply wo_po; apply mo_load; exact rfl; (repeat (first | exact Rd.row0 rfl | exact Rd.row rfl rfl | exact Rd.still | apply Rd.there)); (first | exact trivial | exact rfl))
        | (apply wo_po; apply mo_bin; exact rfl; exact rfl; apply bin_add; exact wrap_i64 (by omega) (by omega); (first | exact trivial | exact rfl))
        | (apply we_condT; exact rfl; (first | exact rfl | (simp <;> omega) | omega))
        | (apply we_condF; exact rfl; (first | exact rfl | (simp <;> omega) | omega))
        | refine we_block ?_)
      refine we_ent (arr xb 0 (inC ⟨11, on, a, b, c, d, n⟩) :: arr tb 0 (thCells cv { t with pc := t.pc + 1 } av) :: F) .refl ?_
      refine we_draw (List.range' 0 7) (by kernel_rfl) ?_
      have hreg := @hregs (arr xb 0 (inC ⟨11, on, a, b, c, d, n⟩))
      repeat (first
        | (apply ap_pure; exact rfl; exact rfl; exact trivial; intro L; apply mo_indexArr1; exact rfl; exact rfl; omega)
        | (apply ap_read; exact rfl; exact rfl; exact trivial; apply mo_load; exact rfl; exact hreg _ hc)
        | (apply ap_pure; exact rfl; exact rfl; exact trivial; intro L; apply mo_bin; exact rfl; exact rfl; apply bin_eqlF; exact hc0)
        | (apply ap_pure; exact rfl; exact rfl; (first | exact trivial | exact rfl); intro L; apply mo_move; exact rfl)
        | (apply ap_pure; exact rfl; exact rfl; (first | exact trivial | exact rfl); intro L; apply mo_nilCheck; exact rfl)
        | (apply ap_pure; exact rfl; exact rfl; (first | exact trivial | exact rfl); intro L; apply mo_fieldAddr; exact rfl; exact rfl; (first | exact Nat.zero_add _ | exact rfl))
        | (apply ap_read; exact rfl; exact rfl; (first | exact trivial | exact rfl); apply mo_load; exact rfl; (repeat (first | exact Rd.row0 rfl | exact Rd.row rfl rfl | exact Rd.still | apply Rd.there)))
        | refine ap_end ?_)
      repeat (first
        | (apply we_condF; exact rfl; (first | exact rfl | (simp <;> omega) | omega)))
      refine we_draw (List.range' 0 19) (by kernel_rfl) ?_
      have hreg := @hregs (arr xb 0 (inC ⟨11, on, a, b, c, d, n⟩))
      repeat (first
        | (apply ap_pure; exact rfl; exact rfl; exact trivial; intro L; apply mo_indexArr1; exact rfl; exact rfl; omega)
        | (apply ap_read; exact rfl; exact rfl; exact trivial; apply mo_load; exact rfl; exact hreg _ hb)
        | (apply ap_read; exact rfl; exact rfl; exact trivial; apply mo_load; exact rfl; exact hreg _ hc)
        | (apply ap_pure; exact rfl; exact rfl; exact trivial; intro L; apply mo_bin; exact rfl; exact rfl; apply bin_quo; exact hc0; exact u64_quo)
        | (apply ap_pure; exact rfl; exact rfl; (first | exact trivial | exact rfl); intro L; apply mo_move; exact rfl)
        | (apply ap_pure; exact rfl; exact rfl; (first | exact trivial | exact rfl); intro L; apply mo_nilCheck; exact rfl)
        | (apply ap_pure; exact rfl; exact rfl; (first | exact trivial | exact rfl); intro L; apply mo_fieldAddr; exact rfl; exact rfl; (first | exact Nat.zero_add _ | exact rfl))
        | (apply ap_read; exact rfl; exact rfl; (first | exact trivial | exact rfl); apply mo_load; exact rfl; (repeat (first | exact Rd.row0 rfl | exact Rd.row rfl rfl | exact Rd.still | apply Rd.there))))
      refine ap_loud rfl rfl rfl rfl rfl trivial (mo_store rfl rfl rfl (Wt.row0 (k := 3 + a) (vs := thCells cv { t with pc := t.pc + 1 } av) (.there .here) (by rw [thCells_len]; omega))) ?_
      rintro v' L' ⟨rfl, rfl⟩
      refine ap_end ?_
      refine at_ent (arr xb 0 (inC ⟨11, on, a, b, c, d, n⟩) :: arr tb 0 (thCells cv (Mach.own t ⟨11, on, a, b, c, d, n⟩) av) :: F) (ent_eq (by rw [show Value.int .u64 (((t.r b / t.r c) % 18446744073709551616 : Nat) : Int) = num ((if t.r c = 0 then 0 else t.r b / t.r c) % 18446744073709551616) by rw [if_neg h0]; rfl, thCells_set ha]; rfl)) ?_
      skip
      (first | refine at_ret0 (ex := .ret) Try.func92 Try.results92 hQ (.inl rfl) ?_ | refine at_ret0 (ex := .normal) Try.func92 Try.results92 hQ (.inr rfl) ?_)
      exact ⟨_, rfl, rfl, rfl⟩
  · refine tr_of_body Try.func92 rfl Try.ntmps92 (by simp) fun um Q hQ => ?_
    simp only [argE, Nat.zero_add, Nat.reduceAdd]
    repeat (first
      | (apply wo_mo; apply mo_box; exact rfl; exact trivial)
      | refine we_seq ?_
      | (refine we_region _ rfl rfl ?_; simp only [opsOf, List.map_cons, List.map_nil, Option.map_none, Option.map_some, List.getElem?_toArray, List.getElem?_cons_zero, List.getElem?_cons_succ, Option.bind_some, Option.getD_some]))
    rintro v' L' ⟨xb, rfl, rfl⟩
    repeat (first
      | (apply wo_pm; apply mo_store; exact rfl; exact rfl; exact rfl; apply Wt.row0; (repeat (first | exact Foc.here | apply Foc.there)); (first | exact Nat.lt_of_sub_eq_succ rfl | omega); (first | exact trivial | exact rfl))
      | (apply wo_po; apply mo_bin; exact rfl; exact rfl; apply bin_eqlT; omega; (first | exact trivial | exact rfl))
      | (apply wo_po; apply mo_bin; exact rfl; exact rfl; apply bin_eqlF; omega; (first | exact trivial | exact rfl))
      | refine we_seq ?_
      | (refine we_region _ rfl rfl ?_; simp only [opsOf, List.map_cons, List.map_nil, Option.map_none, Option.map_some, List.getElem?_toArray, List.getElem?_cons_zero, List.getElem?_cons_succ, Option.bind_some, Option.getD_some])
      | refine wo_nil ?_
      | (apply wo_po; apply mo_move; exact rfl; (first | exact trivial | exact rfl))
      | (apply wo_po; apply mo_assign; exact rfl; (first | exact trivial | exact rfl))
      | (apply wo_po; apply mo_nilCheck; exact rfl; (first | exact trivial | exact rfl))
      | (apply wo_po; apply mo_fieldAddr; exact rfl; exact rfl; (first | exact Nat.zero_add _ | exact rfl); (first | exact trivial | exact rfl))
      | (apply wo_po; apply mo_load; exact rfl; (repeat (first | exact Rd.row0 rfl | exact Rd.row rfl rfl | exact Rd.still | apply Rd.there)); (first | exact trivial | exact rfl))
      | (apply wo_po; apply mo_bin; exact rfl; exact rfl; apply bin_add; exact wrap_i64 (by omega) (by omega); (first | exact trivial | exact rfl))
      | (apply we_condT; exact rfl; (first | exact rfl | (simp <;> omega) | omega))
      | (apply we_condF; exact rfl; (first | exact rfl | (simp <;> omega) | omega))
      | refine we_block ?_)
    refine we_ent (arr xb 0 (inC ⟨12, on, a, b, c, d, n⟩) :: arr tb 0 (thCells cv { t with pc := t.pc + 1 } av) :: F) .refl ?_
    refine we_draw (List.range' 0 19) (by kernel_rfl) ?_
    have hreg := @hregs (arr xb 0 (inC ⟨12, on, a, b, c, d, n⟩))
    repeat (first
      | (apply ap_pure; exact rfl; exact rfl; exact trivial; intro L; apply mo_indexArr1; exact rfl; exact rfl; omega)
      | (apply ap_read; exact rfl; exact rfl; exact trivial; apply mo_load; exact rfl; exact hreg _ hb)
      | (apply ap_read; exact rfl; exact rfl; exact trivial; apply mo_load; exact rfl; exact hreg _ hc)
      | (apply ap_pure; exact rfl; exact rfl; exact trivial; intro L; apply mo_bin; exact rfl; exact rfl; apply bin_and; exact and_u64' vb vc)
      | (apply ap_pure; exact rfl; exact rfl; (first | exact trivial | exact rfl); intro L; apply mo_move; exact rfl)
      | (apply ap_pure; exact rfl; exact rfl; (first | exact trivial | exact rfl); intro L; apply mo_nilCheck; exact rfl)
      | (apply ap_pure; exact rfl; exact rfl; (first | exact trivial | exact rfl); intro L; apply mo_fieldAddr; exact rfl; exact rfl; (first | exact Nat.zero_add _ | exact rfl))
      | (apply ap_read; exact rfl; exact rfl; (first | exact trivial | exact rfl); apply mo_load; exact rfl; (repeat (first | exact Rd.row0 rfl | exact Rd.row rfl rfl | exact Rd.still | apply Rd.there))))
    refine ap_loud rfl rfl rfl rfl rfl trivial (mo_store rfl rfl rfl (Wt.row0 (k := 3 + a) (vs := thCells cv { t with pc := t.pc + 1 } av) (.there .here) (by rw [thCells_len]; omega))) ?_
    rintro v' L' ⟨rfl, rfl⟩
    refine ap_end ?_
    refine at_ent (arr xb 0 (inC ⟨12, on, a, b, c, d, n⟩) :: arr tb 0 (thCells cv (Mach.own t ⟨12, on, a, b, c, d, n⟩) av) :: F) (ent_eq (by rw [show Value.int .u64 (((t.r b &&& t.r c) % 18446744073709551616 : Nat) : Int) = num ((t.r b &&& t.r c) % 18446744073709551616) from rfl, thCells_set ha]; rfl)) ?_
    skip
    (first | refine at_ret0 (ex := .ret) Try.func92 Try.results92 hQ (.inl rfl) ?_ | refine at_ret0 (ex := .normal) Try.func92 Try.results92 hQ (.inr rfl) ?_)
    exact ⟨_, rfl, rfl, rfl⟩
  · refine tr_of_body Try.func92 rfl Try.ntmps92 (by simp) fun um Q hQ => ?_
    simp only [argE, Nat.zero_add, Nat.reduceAdd]
    repeat (first
      | (apply wo_mo; apply mo_box; exact rfl; exact trivial)
      | refine we_seq ?_
      | (refine we_region _ rfl rfl ?_; simp only [opsOf, List.map_cons, List.map_nil, Option.map_none, Option.map_some, List.getElem?_toArray, List.getElem?_cons_zero, List.getElem?_cons_succ, Option.bind_some, Option.getD_some]))
    rintro v' L' ⟨xb, rfl, rfl⟩
    repeat (first
      | (apply wo_pm; apply mo_store; exact rfl; exact rfl; exact rfl; apply Wt.row0; (repeat (first | exact Foc.here | apply Foc.there)); (first | exact Nat.lt_of_sub_eq_succ rfl | omega); (first | exact trivial | exact rfl))
      | (apply wo_po; apply mo_bin; exact rfl; exact rfl; apply bin_eqlT; omega; (first | exact trivial | exact rfl))
      | (apply wo_po; apply mo_bin; exact rfl; exact rfl; apply bin_eqlF; omega; (first | exact trivial | exact rfl))
      | refine we_seq ?_
      | (refine we_region _ rfl rfl ?_; simp only [opsOf, List.map_cons, List.map_nil, Option.map_none, Option.map_some, List.getElem?_toArray, List.getElem?_cons_zero, List.getElem?_cons_succ, Option.bind_some, Option.getD_some])
      | refine wo_nil ?_
      | (apply wo_po; apply mo_move; exact rfl; (first | exact trivial | exact rfl))
      | (apply wo_po; apply mo_assign; exact rfl; (first | exact trivial | exact rfl))
      | (apply wo_po; apply mo_nilCheck; exact rfl; (first | exact trivial | exact rfl))
      | (apply wo_po; apply mo_fieldAddr; exact rfl; exact rfl; (first | exact Nat.zero_add _ | exact rfl); (first | exact trivial | exact rfl))
      | (apply wo_po; apply mo_load; exact rfl; (repeat (first | exact Rd.row0 rfl | exact Rd.row rfl rfl | exact Rd.still | apply Rd.there)); (first | exact trivial | exact rfl))
      | (apply wo_po; apply mo_bin; exact rfl; exact rfl; apply bin_add; exact wrap_i64 (by omega) (by omega); (first | exact trivial | exact rfl))
      | (apply we_condT; exact rfl; (first | exact rfl | (simp <;> omega) | omega))
      | (apply we_condF; exact rfl; (first | exact rfl | (simp <;> omega) | omega))
      | refine we_block ?_)
    refine we_ent (arr xb 0 (inC ⟨13, on, a, b, c, d, n⟩) :: arr tb 0 (thCells cv { t with pc := t.pc + 1 } av) :: F) .refl ?_
    refine we_draw (List.range' 0 19) (by kernel_rfl) ?_
    have hreg := @hregs (arr xb 0 (inC ⟨13, on, a, b, c, d, n⟩))
    repeat (first
      | (apply ap_pure; exact rfl; exact rfl; exact trivial; intro L; apply mo_indexArr1; exact rfl; exact rfl; omega)
      | (apply ap_read; exact rfl; exact rfl; exact trivial; apply mo_load; exact rfl; exact hreg _ hb)
      | (apply ap_read; exact rfl; exact rfl; exact trivial; apply mo_load; exact rfl; exact hreg _ hc)
      | (apply ap_pure; exact rfl; exact rfl; exact trivial; intro L; apply mo_bin; exact rfl; exact rfl; apply bin_or; exact or_u64 vb vc)
      | (apply ap_pure; exact rfl; exact rfl; (first | exact trivial | exact rfl); intro L; apply mo_move; exact rfl)
      | (apply ap_pure; exact rfl; exact rfl; (first | exact trivial | exact rfl); intro L; apply mo_nilCheck; exact rfl)
      | (apply ap_pure; exact rfl; exact rfl; (first | exact trivial | exact rfl); intro L; apply mo_fieldAddr; exact rfl; exact rfl; (first | exact Nat.zero_add _ | exact rfl))
      | (apply ap_read; exact rfl; exact rfl; (first | exact trivial | exact rfl); apply mo_load; exact rfl; (repeat (first | exact Rd.row0 rfl | exact Rd.row rfl rfl | exact Rd.still | apply Rd.there))))
    refine ap_loud rfl rfl rfl rfl rfl trivial (mo_store rfl rfl rfl (Wt.row0 (k := 3 + a) (vs := thCells cv { t with pc := t.pc + 1 } av) (.there .here) (by rw [thCells_len]; omega))) ?_
    rintro v' L' ⟨rfl, rfl⟩
    refine ap_end ?_
    refine at_ent (arr xb 0 (inC ⟨13, on, a, b, c, d, n⟩) :: arr tb 0 (thCells cv (Mach.own t ⟨13, on, a, b, c, d, n⟩) av) :: F) (ent_eq (by rw [show Value.int .u64 (((t.r b ||| t.r c) % 18446744073709551616 : Nat) : Int) = num ((t.r b ||| t.r c) % 18446744073709551616) from rfl, thCells_set ha]; rfl)) ?_
    skip
    (first | refine at_ret0 (ex := .ret) Try.func92 Try.results92 hQ (.inl rfl) ?_ | refine at_ret0 (ex := .normal) Try.func92 Try.results92 hQ (.inr rfl) ?_)
    exact ⟨_, rfl, rfl, rfl⟩
  · have hs : n < 64 := hsh.resolve_left (by simp)
    refine tr_of_body Try.func92 rfl Try.ntmps92 (by simp) fun um Q hQ => ?_
    simp only [argE, Nat.zero_add, Nat.reduceAdd]
    repeat (first
      | (apply wo_mo; apply mo_box; exact rfl; exact trivial)
      | refine we_seq ?_
      | (refine we_region _ rfl rfl ?_; simp only [opsOf, List.map_cons, List.map_nil, Option.map_none, Option.map_some, List.getElem?_toArray, List.getElem?_cons_zero, List.getElem?_cons_succ, Option.bind_some, Option.getD_some]))
    rintro v' L' ⟨xb, rfl, rfl⟩
    repeat (first
      | (apply wo_pm; apply mo_store; exact rfl; exact rfl; exact rfl; apply Wt.row0; (repeat (first | exact Foc.here | apply Foc.there)); (first | exact Nat.lt_of_sub_eq_succ rfl | omega); (first | exact trivial | exact rfl))
      | (apply wo_po; apply mo_bin; exact rfl; exact rfl; apply bin_eqlT; omega; (first | exact trivial | exact rfl))
      | (apply wo_po; apply mo_bin; exact rfl; exact rfl; apply bin_eqlF; omega; (first | exact trivial | exact rfl))
      | refine we_seq ?_
      | (refine we_region _ rfl rfl ?_; simp only [opsOf, List.map_cons, List.map_nil, Option.map_none, Option.map_some, List.getElem?_toArray, List.getElem?_cons_zero, List.getElem?_cons_succ, Option.bind_some, Option.getD_some])
      | refine wo_nil ?_
      | (apply wo_po; apply mo_move; exact rfl; (first | exact trivial | exact rfl))
      | (apply wo_po; apply mo_assign; exact rfl; (first | exact trivial | exact rfl))
      | (apply wo_po; apply mo_nilCheck; exact rfl; (first | exact trivial | exact rfl))
      | (apply wo_po; apply mo_fieldAddr; exact rfl; exact rfl; (first | exact Nat.zero_add _ | exact rfl); (first | exact trivial | exact rfl))
      | (apply wo_po; apply mo_load; exact rfl; (repeat (first | exact Rd.row0 rfl | exact Rd.row rfl rfl | exact Rd.still | apply Rd.there)); (first | exact trivial | exact rfl))
      | (apply wo_po; apply mo_bin; exact rfl; exact rfl; apply bin_add; exact wrap_i64 (by omega) (by omega); (first | exact trivial | exact rfl))
      | (apply we_condT; exact rfl; (first | exact rfl | (simp <;> omega) | omega))
      | (apply we_condF; exact rfl; (first | exact rfl | (simp <;> omega) | omega))
      | refine we_block ?_)
    refine we_ent (arr xb 0 (inC ⟨14, on, a, b, c, d, n⟩) :: arr tb 0 (thCells cv { t with pc := t.pc + 1 } av) :: F) .refl ?_
    refine we_draw (List.range' 0 15) (by kernel_rfl) ?_
    have hreg := @hregs (arr xb 0 (inC ⟨14, on, a, b, c, d, n⟩))
    repeat (first
      | (apply ap_pure; exact rfl; exact rfl; exact trivial; intro L; apply mo_indexArr1; exact rfl; exact rfl; omega)
      | (apply ap_read; exact rfl; exact rfl; exact trivial; apply mo_load; exact rfl; exact hreg _ hb)
      | (apply ap_pure; exact rfl; exact rfl; exact trivial; intro L; apply mo_bin; exact rfl; exact rfl; apply bin_shl; omega; exact u64_shl hs)
      | (apply ap_pure; exact rfl; exact rfl; (first | exact trivial | exact rfl); intro L; apply mo_move; exact rfl)
      | (apply ap_pure; exact rfl; exact rfl; (first | exact trivial | exact rfl); intro L; apply mo_nilCheck; exact rfl)
      | (apply ap_pure; exact rfl; exact rfl; (first | exact trivial | exact rfl); intro L; apply mo_fieldAddr; exact rfl; exact rfl; (first | exact Nat.zero_add _ | exact rfl))
      | (apply ap_read; exact rfl; exact rfl; (first | exact trivial | exact rfl); apply mo_load; exact rfl; (repeat (first | exact Rd.row0 rfl | exact Rd.row rfl rfl | exact Rd.still | apply Rd.there))))
    refine ap_loud rfl rfl rfl rfl rfl trivial (mo_store rfl rfl rfl (Wt.row0 (k := 3 + a) (vs := thCells cv { t with pc := t.pc + 1 } av) (.there .here) (by rw [thCells_len]; omega))) ?_
    rintro v' L' ⟨rfl, rfl⟩
    refine ap_end ?_
    refine at_ent (arr xb 0 (inC ⟨14, on, a, b, c, d, n⟩) :: arr tb 0 (thCells cv (Mach.own t ⟨14, on, a, b, c, d, n⟩) av) :: F) (ent_eq (by rw [show Value.int .u64 (((t.r b * 2 ^ n) % 18446744073709551616 : Nat) : Int) = num ((t.r b * 2 ^ n) % 18446744073709551616) from rfl, thCells_set ha]; rfl)) ?_
    skip
    (first | refine at_ret0 (ex := .ret) Try.func92 Try.results92 hQ (.inl rfl) ?_ | refine at_ret0 (ex := .normal) Try.func92 Try.results92 hQ (.inr rfl) ?_)
    exact ⟨_, rfl, rfl, rfl⟩
  · have hs : n < 64 := hsh.resolve_left (by simp)
    refine tr_of_body Try.func92 rfl Try.ntmps92 (by simp) fun um Q hQ => ?_
    simp only [argE, Nat.zero_add, Nat.reduceAdd]
    repeat (first
      | (apply wo_mo; apply mo_box; exact rfl; exact trivial)
      | refine we_seq ?_
      | (refine we_region _ rfl rfl ?_; simp only [opsOf, List.map_cons, List.map_nil, Option.map_none, Option.map_some, List.getElem?_toArray, List.getElem?_cons_zero, List.getElem?_cons_succ, Option.bind_some, Option.getD_some]))
    rintro v' L' ⟨xb, rfl, rfl⟩
    repeat (first
      | (apply wo_pm; apply mo_store; exact rfl; exact rfl; exact rfl; apply Wt.row0; (repeat (first | exact Foc.here | apply Foc.there)); (first | exact Nat.lt_of_sub_eq_succ rfl | omega); (first | exact trivial | exact rfl))
      | (apply wo_po; apply mo_bin; exact rfl; exact rfl; apply bin_eqlT; omega; (first | exact trivial | exact rfl))
      | (apply wo_po; apply mo_bin; exact rfl; exact rfl; apply bin_eqlF; omega; (first | exact trivial | exact rfl))
      | refine we_seq ?_
      | (refine we_region _ rfl rfl ?_; simp only [opsOf, List.map_cons, List.map_nil, Option.map_none, Option.map_some, List.getElem?_toArray, List.getElem?_cons_zero, List.getElem?_cons_succ, Option.bind_some, Option.getD_some])
      | refine wo_nil ?_
      | (apply wo_po; apply mo_move; exact rfl; (first | exact trivial | exact rfl))
      | (apply wo_po; apply mo_assign; exact rfl; (first | exact trivial | exact rfl))
      | (apply wo_po; apply mo_nilCheck; exact rfl; (first | exact trivial | exact rfl))
      | (apply wo_po; apply mo_fieldAddr; exact rfl; exact rfl; (first | exact Nat.zero_add _ | exact rfl); (first | exact trivial | exact rfl))
      | (apply wo_po; apply mo_load; exact rfl; (repeat (first | exact Rd.row0 rfl | exact Rd.row rfl rfl | exact Rd.still | apply Rd.there)); (first | exact trivial | exact rfl))
      | (apply wo_po; apply mo_bin; exact rfl; exact rfl; apply bin_add; exact wrap_i64 (by omega) (by omega); (first | exact trivial | exact rfl))
      | (apply we_condT; exact rfl; (first | exact rfl | (simp <;> omega) | omega))
      | (apply we_condF; exact rfl; (first | exact rfl | (simp <;> omega) | omega))
      | refine we_block ?_)
    refine we_ent (arr xb 0 (inC ⟨15, on, a, b, c, d, n⟩) :: arr tb 0 (thCells cv { t with pc := t.pc + 1 } av) :: F) .refl ?_
    refine we_draw (List.range' 0 15) (by kernel_rfl) ?_
    have hreg := @hregs (arr xb 0 (inC ⟨15, on, a, b, c, d, n⟩))
    repeat (first
      | (apply ap_pure; exact rfl; exact rfl; exact trivial; intro L; apply mo_indexArr1; exact rfl; exact rfl; omega)
      | (apply ap_read; exact rfl; exact rfl; exact trivial; apply mo_load; exact rfl; exact hreg _ hb)
      | (apply ap_pure; exact rfl; exact rfl; exact trivial; intro L; apply mo_bin; exact rfl; exact rfl; apply bin_shr; omega; exact u64_shr hs vb)
      | (apply ap_pure; exact rfl; exact rfl; (first | exact trivial | exact rfl); intro L; apply mo_move; exact rfl)
      | (apply ap_pure; exact rfl; exact rfl; (first | exact trivial | exact rfl); intro L; apply mo_nilCheck; exact rfl)
      | (apply ap_pure; exact rfl; exact rfl; (first | exact trivial | exact rfl); intro L; apply mo_fieldAddr; exact rfl; exact rfl; (first | exact Nat.zero_add _ | exact rfl))
      | (apply ap_read; exact rfl; exact rfl; (first | exact trivial | exact rfl); apply mo_load; exact rfl; (repeat (first | exact Rd.row0 rfl | exact Rd.row rfl rfl | exact Rd.still | apply Rd.there))))
    refine ap_loud rfl rfl rfl rfl rfl trivial (mo_store rfl rfl rfl (Wt.row0 (k := 3 + a) (vs := thCells cv { t with pc := t.pc + 1 } av) (.there .here) (by rw [thCells_len]; omega))) ?_
    rintro v' L' ⟨rfl, rfl⟩
    refine ap_end ?_
    refine at_ent (arr xb 0 (inC ⟨15, on, a, b, c, d, n⟩) :: arr tb 0 (thCells cv (Mach.own t ⟨15, on, a, b, c, d, n⟩) av) :: F) (ent_eq (by rw [show Value.int .u64 (((t.r b / 2 ^ n) % 18446744073709551616 : Nat) : Int) = num ((t.r b / 2 ^ n) % 18446744073709551616) from rfl, thCells_set ha]; rfl)) ?_
    skip
    (first | refine at_ret0 (ex := .ret) Try.func92 Try.results92 hQ (.inl rfl) ?_ | refine at_ret0 (ex := .normal) Try.func92 Try.results92 hQ (.inr rfl) ?_)
    exact ⟨_, rfl, rfl, rfl⟩
  · refine tr_of_body Try.func92 rfl Try.ntmps92 (by simp) fun um Q hQ => ?_
    simp only [argE, Nat.zero_add, Nat.reduceAdd]
    repeat (first
      | (apply wo_mo; apply mo_box; exact rfl; exact trivial)
      | refine we_seq ?_
      | (refine we_region _ rfl rfl ?_; simp only [opsOf, List.map_cons, List.map_nil, Option.map_none, Option.map_some, List.getElem?_toArray, List.getElem?_cons_zero, List.getElem?_cons_succ, Option.bind_some, Option.getD_some]))
    rintro v' L' ⟨xb, rfl, rfl⟩
    repeat (first
      | (apply wo_pm; apply mo_store; exact rfl; exact rfl; exact rfl; apply Wt.row0; (repeat (first | exact Foc.here | apply Foc.there)); (first | exact Nat.lt_of_sub_eq_succ rfl | omega); (first | exact trivial | exact rfl))
      | (apply wo_po; apply mo_bin; exact rfl; exact rfl; apply bin_eqlT; omega; (first | exact trivial | exact rfl))
      | (apply wo_po; apply mo_bin; exact rfl; exact rfl; apply bin_eqlF; omega; (first | exact trivial | exact rfl))
      | refine we_seq ?_
      | (refine we_region _ rfl rfl ?_; simp only [opsOf, List.map_cons, List.map_nil, Option.map_none, Option.map_some, List.getElem?_toArray, List.getElem?_cons_zero, List.getElem?_cons_succ, Option.bind_some, Option.getD_some])
      | refine wo_nil ?_
      | (apply wo_po; apply mo_move; exact rfl; (first | exact trivial | exact rfl))
      | (apply wo_po; apply mo_assign; exact rfl; (first | exact trivial | exact rfl))
      | (apply wo_po; apply mo_nilCheck; exact rfl; (first | exact trivial | exact rfl))
      | (apply wo_po; apply mo_fieldAddr; exact rfl; exact rfl; (first | exact Nat.zero_add _ | exact rfl); (first | exact trivial | exact rfl))
      | (apply wo_po; apply mo_load; exact rfl; (repeat (first | exact Rd.row0 rfl | exact Rd.row rfl rfl | exact Rd.still | apply Rd.there)); (first | exact trivial | exact rfl))
      | (apply wo_po; apply mo_bin; exact rfl; exact rfl; apply bin_add; exact wrap_i64 (by omega) (by omega); (first | exact trivial | exact rfl))
      | (apply we_condT; exact rfl; (first | exact rfl | (simp <;> omega) | omega))
      | (apply we_condF; exact rfl; (first | exact rfl | (simp <;> omega) | omega))
      | refine we_block ?_)
    refine we_ent (arr xb 0 (inC ⟨16, on, a, b, c, d, n⟩) :: arr tb 0 (thCells cv { t with pc := t.pc + 1 } av) :: F) .refl ?_
    refine we_draw (List.range' 0 19) (by kernel_rfl) ?_
    have hreg := @hregs (arr xb 0 (inC ⟨16, on, a, b, c, d, n⟩))
    repeat (first
      | (apply ap_pure; exact rfl; exact rfl; exact trivial; intro L; apply mo_indexArr1; exact rfl; exact rfl; omega)
      | (apply ap_read; exact rfl; exact rfl; exact trivial; apply mo_load; exact rfl; exact hreg _ hb)
      | (apply ap_read; exact rfl; exact rfl; exact trivial; apply mo_load; exact rfl; exact hreg _ hc)
      | (apply ap_pure; exact rfl; exact rfl; exact trivial; intro L; apply mo_max; exact rfl; exact rfl)
      | (apply ap_pure; exact rfl; exact rfl; (first | exact trivial | exact rfl); intro L; apply mo_move; exact rfl)
      | (apply ap_pure; exact rfl; exact rfl; (first | exact trivial | exact rfl); intro L; apply mo_nilCheck; exact rfl)
      | (apply ap_pure; exact rfl; exact rfl; (first | exact trivial | exact rfl); intro L; apply mo_fieldAddr; exact rfl; exact rfl; (first | exact Nat.zero_add _ | exact rfl))
      | (apply ap_read; exact rfl; exact rfl; (first | exact trivial | exact rfl); apply mo_load; exact rfl; (repeat (first | exact Rd.row0 rfl | exact Rd.row rfl rfl | exact Rd.still | apply Rd.there))))
    refine ap_loud rfl rfl rfl rfl rfl trivial (mo_store rfl rfl rfl (Wt.row0 (k := 3 + a) (vs := thCells cv { t with pc := t.pc + 1 } av) (.there .here) (by rw [thCells_len]; omega))) ?_
    rintro v' L' ⟨rfl, rfl⟩
    refine ap_end ?_
    refine at_ent (arr xb 0 (inC ⟨16, on, a, b, c, d, n⟩) :: arr tb 0 (thCells cv (Mach.own t ⟨16, on, a, b, c, d, n⟩) av) :: F) (ent_eq (by rw [show Value.int .u64 (max (t.r b : Int) (t.r c : Int)) = num (max (t.r b) (t.r c) % 18446744073709551616) by show Value.int .u64 _ = Value.int .u64 _; rw [show max (t.r b : Int) (t.r c : Int) = ((max (t.r b) (t.r c) % 18446744073709551616 : Nat) : Int) by omega], thCells_set ha]; rfl)) ?_
    skip
    (first | refine at_ret0 (ex := .ret) Try.func92 Try.results92 hQ (.inl rfl) ?_ | refine at_ret0 (ex := .normal) Try.func92 Try.results92 hQ (.inr rfl) ?_)
    exact ⟨_, rfl, rfl, rfl⟩

end Go.Proofs.Ytmkkanmkjfnpdaa
