/-
  THE BREAKER (package gauge), more: what Tell makes of the word; Ask, Tell, Get.
-/
import Derived.Test.YtnnpdmhmpgmpnaaGaugeB
set_option linter.unusedVariables false
set_option linter.unusedSimpArgs false
namespace Go.Proofs.Ytnnpdmhmpgmpnaa
open Go Go.PB
attribute [local irreducible] Mo Bin Eql Tr Wo Ap Wle

section
variable {B : Hand} [Lets B] {gv : Value} {A : Acc B gv} {r fails wait : Nat} {L F : List HProp}

theorem tell1_tr (R : BreakerAt A r fails wait) {now gb nb bb : Nat} {good : Bool} (hn : now ≤ 1099511627776) : NextTr A (arr gb 0 [.bool good] :: arr nb 0 [.int .u64 (now : Nat)] :: arr bb 0 [.pointer (some ⟨r, 0, none⟩)] :: F) 47 [.pointer (some ⟨gb, 0, none⟩), .pointer (some ⟨nb, 0, none⟩), .pointer (some ⟨bb, 0, none⟩)] (tellG fails now good) := by
  intro s d a b c ha hb hc
  refine Tr.post (R := fun v L' x' => x' = A.x s ∧ (∀ h, Star L' h → Star (A.C s :: d :: arr gb 0 [.bool good] :: arr nb 0 [.int .u64 (now : Nat)] :: arr bb 0 [.pointer (some ⟨r, 0, none⟩)] :: F) h) ∧
    match tellG fails now good a b c with
    | none => ∃ y1 y2 y3 : Nat, v = .tuple #[w3 y1 y2 y3, .bool false]
    | some y => y.1 < 18446744073709551616 ∧ y.2.1 < 18446744073709551616 ∧ y.2.2 < 18446744073709551616 ∧ v = .tuple #[w3 y.1 y.2.1 y.2.2, .bool true]) ?_ (by rintro v L' x' ⟨rfl, hs, h1⟩; exact ⟨_, ⟨rfl, rfl, h1⟩, hs⟩)
  have hw := R.whi
  have hfh := R.hi
  have hadd : IntKind.u64.wrap ((b : Int) + 1) = ((b + 1 : Nat) : Int) := (wrap_u64 (by omega) (by omega)).trans (by omega)
  simp only [List.cons_append, List.nil_append]
  refine tr_of_body Try.func47 rfl Try.ntmps47 (by simp) fun um Q hQ => ?_
  simp only [argE, Nat.zero_add, Nat.reduceAdd]
  repeat (first
    | (apply wo_mo; apply mo_box; exact rfl; exact trivial)
    | refine we_seq ?_
    | (refine we_region _ rfl rfl ?_; simp only [opsOf, List.map_cons, List.map_nil, Option.map_none, Option.map_some, List.getElem?_toArray, List.getElem?_cons_zero, List.getElem?_cons_succ, Option.bind_some, Option.getD_some]))
  rintro v' L' ⟨kb, rfl, rfl⟩
  refine wo_ent (arr kb 0 [.int .u64 (a : Nat), .int .u64 (b : Nat), .int .u64 (c : Nat)] :: A.C s :: d :: arr gb 0 [.bool good] :: arr nb 0 [.int .u64 (now : Nat)] :: arr bb 0 [.pointer (some ⟨r, 0, none⟩)] :: F) .refl ?_
  repeat (first
    | (apply wo_mo; apply mo_alloc; exact trivial))
  rintro v' L' ⟨cb, rfl, rfl⟩
  have hft : ∀ {c1 c2 : HProp}, Rd (c1 :: c2 :: A.C s :: d :: arr gb 0 [.bool good] :: arr nb 0 [.int .u64 (now : Nat)] :: arr bb 0 [.pointer (some ⟨r, 0, none⟩)] :: F) r 0 (.int .u64 (fails : Nat)) := fun {c1 c2} => Rd.there (Rd.there (Rd.of .here (R.hdr s)))
  by_cases c1 : a = 1
  · have hG : tellG fails now good a b c = none := if_pos (.inl c1)
    repeat (first
      | (apply wo_po; apply mo_loadA (vs := [.int .u64 (a : Nat), .int .u64 (b : Nat), .int .u64 (c : Nat)]); exact rfl; exact rfl; exact Rds.all (.there .here); exact trivial)
      | (apply wo_pm; apply mo_storeA (b := cb) (c := 0) (k := 0) (a := 0) (vs := [.int .u64 0, .int .u64 0, .int .u64 0]); exact rfl; exact rfl; exact rfl; (intro w hw; simp [Value.cells, w3] at hw; rcases hw with rfl | rfl | rfl <;> rfl); exact rfl; exact Nat.le_refl 3; exact .here; exact trivial)
      | (apply wo_po; apply mo_bin; exact rfl; exact rfl; apply bin_eqlT; omega; (first | exact trivial | exact rfl))
      | refine we_seq ?_
      | (refine we_region _ rfl rfl ?_; simp only [opsOf, List.map_cons, List.map_nil, Option.map_none, Option.map_some, List.getElem?_toArray, List.getElem?_cons_zero, List.getElem?_cons_succ, Option.bind_some, Option.getD_some])
      | refine wo_nil ?_
      | (apply wo_po; apply mo_assign; exact rfl; (first | exact trivial | exact rfl))
      | (apply wo_po; apply mo_fieldAddr; exact rfl; exact rfl; (first | exact Nat.zero_add _ | exact rfl); (first | exact trivial | exact rfl))
      | (apply wo_po; apply mo_load; exact rfl; (repeat (first | exact Rd.row0 rfl | exact Rd.row rfl rfl | exact Rd.still | apply Rd.there)); (first | exact trivial | exact rfl))
      | (apply we_condT; exact rfl; (first | exact rfl | (simp <;> omega) | omega))
      | refine we_ret ?_
      | refine we_skip ?_
      | refine we_block ?_)
    refine at_leaveM (rs := [.cell 5 128, .tmp 6]) Try.func47 Try.results47 hQ (.inl rfl) (.cons (.cell (vs := [.int .u64 (a : Nat), .int .u64 (b : Nat), .int .u64 (c : Nat)]) rfl rfl (Rds.all .here)) (.cons (.tmp rfl) .nil)) ?_
    refine ⟨rfl, fun h st => Ent.star (.drop (.drop .refl)) st, ?_⟩
    rw [hG]
    exact ⟨a, b, c, rfl⟩
  cases good
  · have hno : ¬ (a = 1 ∨ (false = true ∧ a = 0 ∧ b = 0)) := fun h => h.elim c1 (fun h => by cases h.1)
    by_cases c2 : a = 2
    · have hG : tellG fails now false a b c = some (1, b, now) := by unfold tellG; rw [if_neg hno, if_neg (by simp), if_pos c2]
      repeat (first
        | (apply wo_po; apply mo_buildV; (repeat (first | exact EvL.nil | apply EvL.cons rfl)); exact rfl; exact trivial)
        | (apply wo_pm; apply mo_storeA (b := cb) (c := 0) (k := 0) (a := 0) (vs := [.int .u64 0, .int .u64 0, .int .u64 0]); exact rfl; exact rfl; exact rfl; (intro w hw; simp [Value.cells, w3] at hw; rcases hw with rfl | rfl | rfl <;> rfl); exact rfl; exact Nat.le_refl 3; exact .here; exact trivial)
        | (apply wo_po; apply mo_bin; exact rfl; exact rfl; apply bin_eqlT; omega; (first | exact trivial | exact rfl))
        | (apply wo_po; apply mo_bin; exact rfl; exact rfl; apply bin_eqlF; omega; (first | exact trivial | exact rfl))
        | refine we_seq ?_
        | (refine we_region _ rfl rfl ?_; simp only [opsOf, List.map_cons, List.map_nil, Option.map_none, Option.map_some, List.getElem?_toArray, List.getElem?_cons_zero, List.getElem?_cons_succ, Option.bind_some, Option.getD_some])
        | refine wo_nil ?_
        | (apply wo_po; apply mo_move; exact rfl; (first | exact trivial | exact rfl))
        | (apply wo_po; apply mo_assign; exact rfl; (first | exact trivial | exact rfl))
        | (apply wo_no; exact rfl)
        | (apply wo_po; apply mo_pickF; exact rfl; exact rfl; exact rfl; (first | exact trivial | exact rfl))
        | (apply wo_po; apply mo_fieldAddr; exact rfl; exact rfl; (first | exact Nat.zero_add _ | exact rfl); (first | exact trivial | exact rfl))
        | (apply wo_po; apply mo_load; exact rfl; (repeat (first | exact Rd.row0 rfl | exact Rd.row rfl rfl | exact Rd.still | apply Rd.there)); (first | exact trivial | exact rfl))
        | (apply we_condT; exact rfl; (first | exact rfl | (simp <;> omega) | omega))
        | (apply we_condF; exact rfl; (first | exact rfl | (simp <;> omega) | omega))
        | refine we_ret ?_
        | refine we_block ?_)
      refine at_leaveM (rs := [.cell 5 128, .tmp 6]) Try.func47 Try.results47 hQ (.inl rfl) (.cons (.cell (vs := [.int .u64 (1 : Nat), .int .u64 (b : Nat), .int .u64 (now : Nat)]) rfl rfl (Rds.all .here)) (.cons (.tmp rfl) .nil)) ?_
      refine ⟨rfl, fun h st => Ent.star (.drop (.drop .refl)) st, ?_⟩
      rw [hG]
      exact ⟨by dsimp only; omega, by dsimp only; omega, by dsimp only; omega, rfl⟩
    · by_cases c3 : b + 1 = fails
      · have hG : tellG fails now false a b c = some (1, fails, now) := by unfold tellG; rw [if_neg hno, if_neg (by simp), if_neg c2, if_pos c3]
        repeat (first
          | (apply wo_po; apply mo_bin; exact rfl; exact rfl; apply bin_eqlF; omega; (first | exact trivial | exact rfl))
          | refine we_seq ?_
          | (refine we_region _ rfl rfl ?_; simp only [opsOf, List.map_cons, List.map_nil, Option.map_none, Option.map_some, List.getElem?_toArray, List.getElem?_cons_zero, List.getElem?_cons_succ, Option.bind_some, Option.getD_some])
          | refine wo_nil ?_
          | (apply wo_po; apply mo_move; exact rfl; (first | exact trivial | exact rfl))
          | (apply wo_po; apply mo_assign; exact rfl; (first | exact trivial | exact rfl))
          | (apply wo_no; exact rfl)
          | (apply wo_po; apply mo_pickF; exact rfl; exact rfl; exact rfl; (first | exact trivial | exact rfl))
          | (apply wo_po; apply mo_fieldAddr; exact rfl; exact rfl; (first | exact Nat.zero_add _ | exact rfl); (first | exact trivial | exact rfl))
          | (apply wo_po; apply mo_load; exact rfl; (repeat (first | exact Rd.row0 rfl | exact Rd.row rfl rfl | exact Rd.still | apply Rd.there)); (first | exact trivial | exact rfl))
          | (apply we_condF; exact rfl; (first | exact rfl | (simp <;> omega) | omega))
          | refine we_block ?_)
        refine we_draw (List.range' 0 9) (by kernel_rfl) ?_
        repeat (first
          | (apply ap_read; exact rfl; exact rfl; (first | exact trivial | exact rfl); apply mo_load; exact rfl; exact hft)
          | (apply ap_pure; exact rfl; exact rfl; (first | exact trivial | exact rfl); intro L; apply mo_bin; exact rfl; exact rfl; apply bin_add; exact hadd)
          | (apply ap_pure; exact rfl; exact rfl; (first | exact trivial | exact rfl); intro L; apply mo_bin; exact rfl; exact rfl; apply bin_eqlT; omega)
          | (apply ap_pure; exact rfl; exact rfl; (first | exact trivial | exact rfl); intro L; apply mo_assign; exact rfl)
          | (apply ap_pure; exact rfl; exact rfl; (first | exact trivial | exact rfl); intro L; apply mo_nilCheck; exact rfl)
          | (apply ap_pure; exact rfl; exact rfl; (first | exact trivial | exact rfl); intro L; apply mo_fieldAddr; exact rfl; exact rfl; (first | exact Nat.zero_add _ | exact rfl))
          | (apply ap_read; exact rfl; exact rfl; (first | exact trivial | exact rfl); apply mo_load; exact rfl; (repeat (first | exact Rd.row0 rfl | exact Rd.row rfl rfl | exact Rd.still | apply Rd.there)))
          | refine ap_end ?_)
        repeat (first
          | refine we_seq ?_
          | (apply we_condT; exact rfl; (first | exact rfl | (simp <;> omega) | omega)))
        refine we_draw (List.range' 0 8) (by kernel_rfl) ?_
        repeat (first
          | (apply ap_read; exact rfl; exact rfl; (first | exact trivial | exact rfl); apply mo_load; exact rfl; exact hft)
          | (apply ap_pure; exact rfl; exact rfl; (first | exact trivial | exact rfl); intro L; apply mo_buildV; (repeat (first | exact EvL.nil | apply EvL.cons rfl)); exact rfl)
          | (apply ap_pure; exact rfl; exact rfl; (first | exact trivial | exact rfl); intro L; apply mo_nilCheck; exact rfl)
          | (apply ap_pure; exact rfl; exact rfl; (first | exact trivial | exact rfl); intro L; apply mo_fieldAddr; exact rfl; exact rfl; (first | exact Nat.zero_add _ | exact rfl))
          | (apply ap_read; exact rfl; exact rfl; (first | exact trivial | exact rfl); apply mo_load; exact rfl; (repeat (first | exact Rd.row0 rfl | exact Rd.row rfl rfl | exact Rd.still | apply Rd.there))))
        refine ap_loud rfl rfl rfl rfl rfl trivial (mo_storeA (b := cb) (c := 0) (k := 0) (a := 0) (vs := [.int .u64 0, .int .u64 0, .int .u64 0]) rfl rfl rfl (by intro w hw; simp [Value.cells, w3] at hw; rcases hw with rfl | rfl | rfl <;> rfl) rfl (Nat.le_refl 3) .here) ?_
        rintro v' L' ⟨rfl, rfl⟩
        repeat (first
          | (apply ap_pure; exact rfl; exact rfl; (first | exact trivial | exact rfl); intro L; apply mo_assign; exact rfl)
          | refine ap_end ?_)
        repeat (first
          | refine we_ret ?_)
        refine at_leaveM (rs := [.cell 5 128, .tmp 6]) Try.func47 Try.results47 hQ (.inl rfl) (.cons (.cell (vs := [.int .u64 (1 : Nat), .int .u64 (fails : Nat), .int .u64 (now : Nat)]) rfl rfl (Rds.all .here)) (.cons (.tmp rfl) .nil)) ?_
        refine ⟨rfl, fun h st => Ent.star (.drop (.drop .refl)) st, ?_⟩
        rw [hG]
        exact ⟨by show 1 < _; omega, by show fails < _; omega, by show now < _; omega, rfl⟩
      · have hG : tellG fails now false a b c = some (0, b + 1, 0) := by unfold tellG; rw [if_neg hno, if_neg (by simp), if_neg c2, if_neg c3]
        repeat (first
          | (apply wo_po; apply mo_bin; exact rfl; exact rfl; apply bin_eqlF; omega; (first | exact trivial | exact rfl))
          | refine we_seq ?_
          | (refine we_region _ rfl rfl ?_; simp only [opsOf, List.map_cons, List.map_nil, Option.map_none, Option.map_some, List.getElem?_toArray, List.getElem?_cons_zero, List.getElem?_cons_succ, Option.bind_some, Option.getD_some])
          | refine wo_nil ?_
          | (apply wo_po; apply mo_move; exact rfl; (first | exact trivial | exact rfl))
          | (apply wo_po; apply mo_assign; exact rfl; (first | exact trivial | exact rfl))
          | (apply wo_no; exact rfl)
          | (apply wo_po; apply mo_pickF; exact rfl; exact rfl; exact rfl; (first | exact trivial | exact rfl))
          | (apply wo_po; apply mo_fieldAddr; exact rfl; exact rfl; (first | exact Nat.zero_add _ | exact rfl); (first | exact trivial | exact rfl))
          | (apply wo_po; apply mo_load; exact rfl; (repeat (first | exact Rd.row0 rfl | exact Rd.row rfl rfl | exact Rd.still | apply Rd.there)); (first | exact trivial | exact rfl))
          | (apply we_condF; exact rfl; (first | exact rfl | (simp <;> omega) | omega))
          | refine we_block ?_)
        refine we_draw (List.range' 0 9) (by kernel_rfl) ?_
        repeat (first
          | (apply ap_read; exact rfl; exact rfl; (first | exact trivial | exact rfl); apply mo_load; exact rfl; exact hft)
          | (apply ap_pure; exact rfl; exact rfl; (first | exact trivial | exact rfl); intro L; apply mo_bin; exact rfl; exact rfl; apply bin_add; exact hadd)
          | (apply ap_pure; exact rfl; exact rfl; (first | exact trivial | exact rfl); intro L; apply mo_bin; exact rfl; exact rfl; apply bin_eqlF; omega)
          | (apply ap_pure; exact rfl; exact rfl; (first | exact trivial | exact rfl); intro L; apply mo_assign; exact rfl)
          | (apply ap_pure; exact rfl; exact rfl; (first | exact trivial | exact rfl); intro L; apply mo_nilCheck; exact rfl)
          | (apply ap_pure; exact rfl; exact rfl; (first | exact trivial | exact rfl); intro L; apply mo_fieldAddr; exact rfl; exact rfl; (first | exact Nat.zero_add _ | exact rfl))
          | (apply ap_read; exact rfl; exact rfl; (first | exact trivial | exact rfl); apply mo_load; exact rfl; (repeat (first | exact Rd.row0 rfl | exact Rd.row rfl rfl | exact Rd.still | apply Rd.there)))
          | refine ap_end ?_)
        repeat (first
          | (apply wo_po; apply mo_bin; exact rfl; exact rfl; apply bin_add; exact hadd; exact trivial)
          | (apply wo_po; apply mo_buildV; (repeat (first | exact EvL.nil | apply EvL.cons rfl)); exact rfl; exact trivial)
          | (apply wo_pm; apply mo_storeA (b := cb) (c := 0) (k := 0) (a := 0) (vs := [.int .u64 0, .int .u64 0, .int .u64 0]); exact rfl; exact rfl; exact rfl; (intro w hw; simp [Value.cells, w3] at hw; rcases hw with rfl | rfl | rfl <;> rfl); exact rfl; exact Nat.le_refl 3; exact .here; exact trivial)
          | refine we_seq ?_
          | (refine we_region _ rfl rfl ?_; simp only [opsOf, List.map_cons, List.map_nil, Option.map_none, Option.map_some, List.getElem?_toArray, List.getElem?_cons_zero, List.getElem?_cons_succ, Option.bind_some, Option.getD_some])
          | refine wo_nil ?_
          | (apply wo_po; apply mo_assign; exact rfl; (first | exact trivial | exact rfl))
          | (apply wo_po; apply mo_fieldAddr; exact rfl; exact rfl; (first | exact Nat.zero_add _ | exact rfl); (first | exact trivial | exact rfl))
          | (apply wo_po; apply mo_load; exact rfl; (repeat (first | exact Rd.row0 rfl | exact Rd.row rfl rfl | exact Rd.still | apply Rd.there)); (first | exact trivial | exact rfl))
          | (apply we_condF; exact rfl; (first | exact rfl | (simp <;> omega) | omega))
          | refine we_ret ?_
          | refine we_skip ?_)
        refine at_leaveM (rs := [.cell 5 128, .tmp 6]) Try.func47 Try.results47 hQ (.inl rfl) (.cons (.cell (vs := [.int .u64 (0 : Nat), .int .u64 (b + 1 : Nat), .int .u64 (0 : Nat)]) rfl rfl (Rds.all .here)) (.cons (.tmp rfl) .nil)) ?_
        refine ⟨rfl, fun h st => Ent.star (.drop (.drop .refl)) st, ?_⟩
        rw [hG]
        exact ⟨by dsimp only; omega, by dsimp only; omega, by dsimp only; omega, rfl⟩
  · by_cases c2 : a = 0
    · by_cases c3 : b = 0
      · have hG : tellG fails now true a b c = none := if_pos (.inr ⟨rfl, c2, c3⟩)
        repeat (first
          | (apply wo_po; apply mo_loadA (vs := [.int .u64 (a : Nat), .int .u64 (b : Nat), .int .u64 (c : Nat)]); exact rfl; exact rfl; exact Rds.all (.there .here); exact trivial)
          | (apply wo_pm; apply mo_storeA (b := cb) (c := 0) (k := 0) (a := 0) (vs := [.int .u64 0, .int .u64 0, .int .u64 0]); exact rfl; exact rfl; exact rfl; (intro w hw; simp [Value.cells, w3] at hw; rcases hw with rfl | rfl | rfl <;> rfl); exact rfl; exact Nat.le_refl 3; exact .here; exact trivial)
          | (apply wo_po; apply mo_bin; exact rfl; exact rfl; apply bin_eqlT; omega; (first | exact trivial | exact rfl))
          | (apply wo_po; apply mo_bin; exact rfl; exact rfl; apply bin_eqlF; omega; (first | exact trivial | exact rfl))
          | refine we_seq ?_
          | (refine we_region _ rfl rfl ?_; simp only [opsOf, List.map_cons, List.map_nil, Option.map_none, Option.map_some, List.getElem?_toArray, List.getElem?_cons_zero, List.getElem?_cons_succ, Option.bind_some, Option.getD_some])
          | refine wo_nil ?_
          | (apply wo_po; apply mo_move; exact rfl; (first | exact trivial | exact rfl))
          | (apply wo_po; apply mo_assign; exact rfl; (first | exact trivial | exact rfl))
          | (apply wo_po; apply mo_pickT; exact rfl; exact rfl; exact rfl; (first | exact trivial | exact rfl))
          | (apply wo_po; apply mo_fieldAddr; exact rfl; exact rfl; (first | exact Nat.zero_add _ | exact rfl); (first | exact trivial | exact rfl))
          | (apply wo_po; apply mo_load; exact rfl; (repeat (first | exact Rd.row0 rfl | exact Rd.row rfl rfl | exact Rd.still | apply Rd.there)); (first | exact trivial | exact rfl))
          | (apply we_condT; exact rfl; (first | exact rfl | (simp <;> omega) | omega))
          | (apply we_condF; exact rfl; (first | exact rfl | (simp <;> omega) | omega))
          | refine we_ret ?_
          | refine we_block ?_)
        refine at_leaveM (rs := [.cell 5 128, .tmp 6]) Try.func47 Try.results47 hQ (.inl rfl) (.cons (.cell (vs := [.int .u64 (a : Nat), .int .u64 (b : Nat), .int .u64 (c : Nat)]) rfl rfl (Rds.all .here)) (.cons (.tmp rfl) .nil)) ?_
        refine ⟨rfl, fun h st => Ent.star (.drop (.drop .refl)) st, ?_⟩
        rw [hG]
        exact ⟨a, b, c, rfl⟩
      · have hG : tellG fails now true a b c = some (0, 0, 0) := by unfold tellG; rw [if_neg (fun h => h.elim c1 (fun h => c3 h.2.2)), if_pos rfl]
        repeat (first
          | (apply wo_po; apply mo_buildV; (repeat (first | exact EvL.nil | apply EvL.cons rfl)); exact rfl; exact trivial)
          | (apply wo_pm; apply mo_storeA (b := cb) (c := 0) (k := 0) (a := 0) (vs := [.int .u64 0, .int .u64 0, .int .u64 0]); exact rfl; exact rfl; exact rfl; (intro w hw; simp [Value.cells, w3] at hw; rcases hw with rfl | rfl | rfl <;> rfl); exact rfl; exact Nat.le_refl 3; exact .here; exact trivial)
          | (apply wo_po; apply mo_bin; exact rfl; exact rfl; apply bin_eqlT; omega; (first | exact trivial | exact rfl))
          | (apply wo_po; apply mo_bin; exact rfl; exact rfl; apply bin_eqlF; omega; (first | exact trivial | exact rfl))
          | refine we_seq ?_
          | (refine we_region _ rfl rfl ?_; simp only [opsOf, List.map_cons, List.map_nil, Option.map_none, Option.map_some, List.getElem?_toArray, List.getElem?_cons_zero, List.getElem?_cons_succ, Option.bind_some, Option.getD_some])
          | refine wo_nil ?_
          | (apply wo_po; apply mo_move; exact rfl; (first | exact trivial | exact rfl))
          | (apply wo_po; apply mo_assign; exact rfl; (first | exact trivial | exact rfl))
          | (apply wo_po; apply mo_pickT; exact rfl; exact rfl; exact rfl; (first | exact trivial | exact rfl))
          | (apply wo_po; apply mo_fieldAddr; exact rfl; exact rfl; (first | exact Nat.zero_add _ | exact rfl); (first | exact trivial | exact rfl))
          | (apply wo_po; apply mo_load; exact rfl; (repeat (first | exact Rd.row0 rfl | exact Rd.row rfl rfl | exact Rd.still | apply Rd.there)); (first | exact trivial | exact rfl))
          | (apply we_condT; exact rfl; (first | exact rfl | (simp <;> omega) | omega))
          | (apply we_condF; exact rfl; (first | exact rfl | (simp <;> omega) | omega))
          | refine we_ret ?_
          | refine we_block ?_)
        refine at_leaveM (rs := [.cell 5 128, .tmp 6]) Try.func47 Try.results47 hQ (.inl rfl) (.cons (.cell (vs := [.int .u64 0, .int .u64 0, .int .u64 0]) rfl rfl (Rds.all .here)) (.cons (.tmp rfl) .nil)) ?_
        refine ⟨rfl, fun h st => Ent.star (.drop (.drop .refl)) st, ?_⟩
        rw [hG]
        exact ⟨by dsimp only; omega, by dsimp only; omega, by dsimp only; omega, rfl⟩
    · have hG : tellG fails now true a b c = some (0, 0, 0) := by unfold tellG; rw [if_neg (fun h => h.elim c1 (fun h => c2 h.2.1)), if_pos rfl]
      repeat (first
        | (apply wo_po; apply mo_buildV; (repeat (first | exact EvL.nil | apply EvL.cons rfl)); exact rfl; exact trivial)
        | (apply wo_pm; apply mo_storeA (b := cb) (c := 0) (k := 0) (a := 0) (vs := [.int .u64 0, .int .u64 0, .int .u64 0]); exact rfl; exact rfl; exact rfl; (intro w hw; simp [Value.cells, w3] at hw; rcases hw with rfl | rfl | rfl <;> rfl); exact rfl; exact Nat.le_refl 3; exact .here; exact trivial)
        | (apply wo_po; apply mo_bin; exact rfl; exact rfl; apply bin_eqlF; omega; (first | exact trivial | exact rfl))
        | refine we_seq ?_
        | (refine we_region _ rfl rfl ?_; simp only [opsOf, List.map_cons, List.map_nil, Option.map_none, Option.map_some, List.getElem?_toArray, List.getElem?_cons_zero, List.getElem?_cons_succ, Option.bind_some, Option.getD_some])
        | refine wo_nil ?_
        | (apply wo_po; apply mo_move; exact rfl; (first | exact trivial | exact rfl))
        | (apply wo_po; apply mo_assign; exact rfl; (first | exact trivial | exact rfl))
        | (apply wo_no; exact rfl)
        | (apply wo_po; apply mo_pickT; exact rfl; exact rfl; exact rfl; (first | exact trivial | exact rfl))
        | (apply wo_po; apply mo_pickF; exact rfl; exact rfl; exact rfl; (first | exact trivial | exact rfl))
        | (apply wo_po; apply mo_fieldAddr; exact rfl; exact rfl; (first | exact Nat.zero_add _ | exact rfl); (first | exact trivial | exact rfl))
        | (apply wo_po; apply mo_load; exact rfl; (repeat (first | exact Rd.row0 rfl | exact Rd.row rfl rfl | exact Rd.still | apply Rd.there)); (first | exact trivial | exact rfl))
        | (apply we_condT; exact rfl; (first | exact rfl | (simp <;> omega) | omega))
        | (apply we_condF; exact rfl; (first | exact rfl | (simp <;> omega) | omega))
        | refine we_ret ?_
        | refine we_block ?_)
      refine at_leaveM (rs := [.cell 5 128, .tmp 6]) Try.func47 Try.results47 hQ (.inl rfl) (.cons (.cell (vs := [.int .u64 0, .int .u64 0, .int .u64 0]) rfl rfl (Rds.all .here)) (.cons (.tmp rfl) .nil)) ?_
      refine ⟨rfl, fun h st => Ent.star (.drop (.drop .refl)) st, ?_⟩
      rw [hG]
      exact ⟨by dsimp only; omega, by dsimp only; omega, by dsimp only; omega, rfl⟩

end

section
variable {B : Hand} [Lets B] {gv : Value} {A : Acc B gv} {r fails wait : Nat} {L F : List HProp}

def AskT (A : Acc B gv) (wait now : Nat) (s : A.S) (Q : Bool → A.S → Prop) : Prop := TurnT A (askG wait now) s fun y q s => Q (q || y.1 == 0) s

theorem ask_tr (R : BreakerAt A r fails wait) {now : Nat} (hn : now ≤ 1099511627776) {s : A.S} {Q : Bool → A.S → Prop} (hs : AskT A wait now s Q) (hh : Has L (A.C s) F) :
    Tr Try.prog B 12 [.pointer (some ⟨r, 0, none⟩), gv, .int .u64 (now : Nat)] L (A.x s) fun v L' x' => ∃ q s', Q q s' ∧ v = .tuple #[.bool q, .int .i64 0] ∧ L' = A.C s' :: F ∧ x' = A.x s' := by
  refine Tr.post (R := fun v L' x' => ∃ q s', Q q s' ∧ v = .tuple #[.bool q, .int .i64 0] ∧ x' = A.x s' ∧ ∀ h, Star L' h → Star (A.C s' :: F) h) ?_ (by rintro v L' x' ⟨q, s', h1, rfl, rfl, hs⟩; exact ⟨_, ⟨q, s', h1, rfl, rfl, rfl⟩, hs⟩)
  refine tr_of_body Try.func12 rfl Try.ntmps12 (by simp) fun um Q hQ => ?_
  simp only [argE, Nat.zero_add, Nat.reduceAdd]
  repeat (first
    | (apply wo_mo; apply mo_box; exact rfl; exact trivial)
    | refine we_seq ?_
    | (refine we_region _ rfl rfl ?_; simp only [opsOf, List.map_cons, List.map_nil, Option.map_none, Option.map_some, List.getElem?_toArray, List.getElem?_cons_zero, List.getElem?_cons_succ, Option.bind_some, Option.getD_some]))
  rintro v' L' ⟨bb, rfl, rfl⟩
  refine wo_ent (arr bb 0 [.pointer (some ⟨r, 0, none⟩)] :: L) .refl ?_
  repeat (first
    | (apply wo_mo; apply mo_box; exact rfl; exact trivial))
  rintro v' L' ⟨nb, rfl, rfl⟩
  refine wo_ent (arr nb 0 [.int .u64 (now : Nat)] :: arr bb 0 [.pointer (some ⟨r, 0, none⟩)] :: L) .refl ?_
  repeat (first
    | refine we_seq ?_
    | (refine we_region _ rfl rfl ?_; simp only [opsOf, List.map_cons, List.map_nil, Option.map_none, Option.map_some, List.getElem?_toArray, List.getElem?_cons_zero, List.getElem?_cons_succ, Option.bind_some, Option.getD_some])
    | refine wo_nil ?_
    | (apply wo_po; apply mo_assign; exact rfl; (first | exact trivial | exact rfl))
    | (apply wo_po; apply mo_load; exact rfl; (repeat (first | exact Rd.row0 rfl | exact Rd.row rfl rfl | exact Rd.still | apply Rd.there)); (first | exact trivial | exact rfl))
    | refine we_block ?_)
  refine wo_call (.cons rfl .nil) trivial (bnone_tr R (.there (.there hh))) ?_
  rintro v1 L1 x1 ⟨rfl, rfl, rfl⟩
  refine wo_ent (A.C s :: arr nb 0 [.int .u64 (now : Nat)] :: arr bb 0 [.pointer (some ⟨r, 0, none⟩)] :: F) (.take (.there (.there hh)) .refl) ?_
  repeat (first
    | (apply wo_po; apply mo_makeFunc (first := []) (cap := [_, _]); exact .nil; exact .cons rfl (.cons rfl .nil); exact trivial)
    | (apply wo_po; apply mo_bin; exact rfl; exact rfl; apply bin_gtrF; omega; (first | exact trivial | exact rfl))
    | refine we_seq ?_
    | (refine we_region _ rfl rfl ?_; simp only [opsOf, List.map_cons, List.map_nil, Option.map_none, Option.map_some, List.getElem?_toArray, List.getElem?_cons_zero, List.getElem?_cons_succ, Option.bind_some, Option.getD_some])
    | refine wo_nil ?_
    | (apply wo_po; apply mo_move; exact rfl; (first | exact trivial | exact rfl))
    | (apply wo_po; apply mo_assign; exact rfl; (first | exact trivial | exact rfl))
    | (apply wo_po; apply mo_load; exact rfl; (repeat (first | exact Rd.row0 rfl | exact Rd.row rfl rfl | exact Rd.still | apply Rd.there)); (first | exact trivial | exact rfl))
    | (apply we_condF; exact rfl; (first | exact rfl | (simp <;> omega) | omega))
    | refine we_skip ?_)
  refine wo_call (.cons rfl (.cons rfl (.cons rfl .nil))) trivial (turn_tr R (caps := [_, _]) (ask1_tr R hn) hs .here) ?_
  rintro v1 L1 x1 ⟨⟨a, b, c⟩, q, s', h1, rfl, rfl, rfl⟩
  repeat (first
    | (apply wo_mo; apply mo_alloc; exact trivial)
    | (apply wo_po; apply mo_move; exact rfl; (first | exact trivial | exact rfl))
    | (apply wo_po; apply mo_extract; exact rfl; exact rfl; (first | exact trivial | exact rfl)))
  rintro v' L' ⟨cb, rfl, rfl⟩
  cases q
  · by_cases c1 : a = 0
    · subst c1
      repeat (first
        | (apply wo_pm; apply mo_storeA (b := cb) (c := 0) (k := 0) (a := 0) (vs := [.int .u64 0, .int .u64 0, .int .u64 0]); exact rfl; exact rfl; exact rfl; (intro w hw; simp [Value.cells, w3] at hw; rcases hw with rfl | rfl | rfl <;> rfl); exact rfl; exact Nat.le_refl 3; exact .here; exact trivial)
        | (apply wo_po; apply mo_bin; exact rfl; exact rfl; apply bin_eqlT; omega; (first | exact trivial | exact rfl))
        | refine we_seq ?_
        | (refine we_region _ rfl rfl ?_; simp only [opsOf, List.map_cons, List.map_nil, Option.map_none, Option.map_some, List.getElem?_toArray, List.getElem?_cons_zero, List.getElem?_cons_succ, Option.bind_some, Option.getD_some])
        | refine wo_nil ?_
        | (apply wo_po; apply mo_move; exact rfl; (first | exact trivial | exact rfl))
        | (apply wo_po; apply mo_assign; exact rfl; (first | exact trivial | exact rfl))
        | (apply wo_po; apply mo_pickF; exact rfl; exact rfl; exact rfl; (first | exact trivial | exact rfl))
        | (apply wo_po; apply mo_fieldAddr; exact rfl; exact rfl; (first | exact Nat.zero_add _ | exact rfl); (first | exact trivial | exact rfl))
        | (apply wo_po; apply mo_load; exact rfl; (repeat (first | exact Rd.row0 rfl | exact Rd.row rfl rfl | exact Rd.still | apply Rd.there)); (first | exact trivial | exact rfl))
        | refine we_ret ?_)
      (first | refine at_ret2 (ex := .ret) Try.func12 Try.results12 hQ (.inl rfl) rfl rfl ?_ | refine at_ret2 (ex := .normal) Try.func12 Try.results12 hQ (.inr rfl) rfl rfl ?_)
      exact ⟨true, s', h1, rfl, rfl, fun h st => Ent.star (.take (.there .here) (.drop (.drop (.drop .refl)))) st⟩
    · repeat (first
        | (apply wo_pm; apply mo_storeA (b := cb) (c := 0) (k := 0) (a := 0) (vs := [.int .u64 0, .int .u64 0, .int .u64 0]); exact rfl; exact rfl; exact rfl; (intro w hw; simp [Value.cells, w3] at hw; rcases hw with rfl | rfl | rfl <;> rfl); exact rfl; exact Nat.le_refl 3; exact .here; exact trivial)
        | (apply wo_po; apply mo_bin; exact rfl; exact rfl; apply bin_eqlF; omega; (first | exact trivial | exact rfl))
        | refine we_seq ?_
        | (refine we_region _ rfl rfl ?_; simp only [opsOf, List.map_cons, List.map_nil, Option.map_none, Option.map_some, List.getElem?_toArray, List.getElem?_cons_zero, List.getElem?_cons_succ, Option.bind_some, Option.getD_some])
        | refine wo_nil ?_
        | (apply wo_po; apply mo_move; exact rfl; (first | exact trivial | exact rfl))
        | (apply wo_po; apply mo_assign; exact rfl; (first | exact trivial | exact rfl))
        | (apply wo_po; apply mo_pickF; exact rfl; exact rfl; exact rfl; (first | exact trivial | exact rfl))
        | (apply wo_po; apply mo_fieldAddr; exact rfl; exact rfl; (first | exact Nat.zero_add _ | exact rfl); (first | exact trivial | exact rfl))
        | (apply wo_po; apply mo_load; exact rfl; (repeat (first | exact Rd.row0 rfl | exact Rd.row rfl rfl | exact Rd.still | apply Rd.there)); (first | exact trivial | exact rfl))
        | refine we_ret ?_)
      (first | refine at_ret2 (ex := .ret) Try.func12 Try.results12 hQ (.inl rfl) rfl rfl ?_ | refine at_ret2 (ex := .normal) Try.func12 Try.results12 hQ (.inr rfl) rfl rfl ?_)
      exact ⟨false, s', (by have e : (a == 0) = false := beq_eq_false_iff_ne.2 c1; simp only [Bool.false_or, e] at h1; exact h1), rfl, rfl, fun h st => Ent.star (.take (.there .here) (.drop (.drop (.drop .refl)))) st⟩
  · repeat (first
      | (apply wo_pm; apply mo_storeA (b := cb) (c := 0) (k := 0) (a := 0) (vs := [.int .u64 0, .int .u64 0, .int .u64 0]); exact rfl; exact rfl; exact rfl; (intro w hw; simp [Value.cells, w3] at hw; rcases hw with rfl | rfl | rfl <;> rfl); exact rfl; exact Nat.le_refl 3; exact .here; exact trivial)
      | refine we_seq ?_
      | (refine we_region _ rfl rfl ?_; simp only [opsOf, List.map_cons, List.map_nil, Option.map_none, Option.map_some, List.getElem?_toArray, List.getElem?_cons_zero, List.getElem?_cons_succ, Option.bind_some, Option.getD_some])
      | refine wo_nil ?_
      | (apply wo_po; apply mo_move; exact rfl; (first | exact trivial | exact rfl))
      | (apply wo_po; apply mo_assign; exact rfl; (first | exact trivial | exact rfl))
      | (apply wo_no; exact rfl)
      | (apply wo_po; apply mo_pickT; exact rfl; exact rfl; exact rfl; (first | exact trivial | exact rfl))
      | refine we_ret ?_)
    (first | refine at_ret2 (ex := .ret) Try.func12 Try.results12 hQ (.inl rfl) rfl rfl ?_ | refine at_ret2 (ex := .normal) Try.func12 Try.results12 hQ (.inr rfl) rfl rfl ?_)
    exact ⟨true, s', by simpa using h1, rfl, rfl, fun h st => Ent.star (.take (.there .here) (.drop (.drop (.drop .refl)))) st⟩

def TellT (A : Acc B gv) (fails now : Nat) (good : Bool) (s : A.S) (Q : A.S → Prop) : Prop := TurnT A (tellG fails now good) s fun y q s => Q s

theorem tell_tr (R : BreakerAt A r fails wait) {now : Nat} {good : Bool} (hn : now ≤ 1099511627776) {s : A.S} {Q : A.S → Prop} (hs : TellT A fails now good s Q) (hh : Has L (A.C s) F) :
    Tr Try.prog B 13 [.pointer (some ⟨r, 0, none⟩), gv, .int .u64 (now : Nat), .bool good] L (A.x s) fun v L' x' => ∃ s', Q s' ∧ v = .int .i64 0 ∧ L' = A.C s' :: F ∧ x' = A.x s' := by
  refine Tr.post (R := fun v L' x' => ∃ s', Q s' ∧ v = .int .i64 0 ∧ x' = A.x s' ∧ ∀ h, Star L' h → Star (A.C s' :: F) h) ?_ (by rintro v L' x' ⟨s', h1, rfl, rfl, hs⟩; exact ⟨_, ⟨s', h1, rfl, rfl, rfl⟩, hs⟩)
  refine tr_of_body Try.func13 rfl Try.ntmps13 (by simp) fun um Q hQ => ?_
  simp only [argE, Nat.zero_add, Nat.reduceAdd]
  repeat (first
    | (apply wo_mo; apply mo_box; exact rfl; exact trivial)
    | refine we_seq ?_
    | (refine we_region _ rfl rfl ?_; simp only [opsOf, List.map_cons, List.map_nil, Option.map_none, Option.map_some, List.getElem?_toArray, List.getElem?_cons_zero, List.getElem?_cons_succ, Option.bind_some, Option.getD_some]))
  rintro v' L' ⟨bb, rfl, rfl⟩
  refine wo_ent (arr bb 0 [.pointer (some ⟨r, 0, none⟩)] :: L) .refl ?_
  repeat (first
    | (apply wo_mo; apply mo_box; exact rfl; exact trivial))
  rintro v' L' ⟨nb, rfl, rfl⟩
  refine wo_ent (arr nb 0 [.int .u64 (now : Nat)] :: arr bb 0 [.pointer (some ⟨r, 0, none⟩)] :: L) .refl ?_
  repeat (first
    | (apply wo_mo; apply mo_box; exact rfl; exact trivial))
  rintro v' L' ⟨gb, rfl, rfl⟩
  refine wo_ent (arr gb 0 [.bool good] :: arr nb 0 [.int .u64 (now : Nat)] :: arr bb 0 [.pointer (some ⟨r, 0, none⟩)] :: L) .refl ?_
  repeat (first
    | refine we_seq ?_
    | (refine we_region _ rfl rfl ?_; simp only [opsOf, List.map_cons, List.map_nil, Option.map_none, Option.map_some, List.getElem?_toArray, List.getElem?_cons_zero, List.getElem?_cons_succ, Option.bind_some, Option.getD_some])
    | refine wo_nil ?_
    | (apply wo_po; apply mo_assign; exact rfl; (first | exact trivial | exact rfl))
    | (apply wo_po; apply mo_load; exact rfl; (repeat (first | exact Rd.row0 rfl | exact Rd.row rfl rfl | exact Rd.still | apply Rd.there)); (first | exact trivial | exact rfl))
    | refine we_block ?_)
  refine wo_call (.cons rfl .nil) trivial (bnone_tr R (.there (.there (.there hh)))) ?_
  rintro v1 L1 x1 ⟨rfl, rfl, rfl⟩
  refine wo_ent (A.C s :: arr gb 0 [.bool good] :: arr nb 0 [.int .u64 (now : Nat)] :: arr bb 0 [.pointer (some ⟨r, 0, none⟩)] :: F) (.take (.there (.there (.there hh))) .refl) ?_
  repeat (first
    | (apply wo_po; apply mo_makeFunc (first := []) (cap := [_, _, _]); exact .nil; exact .cons rfl (.cons rfl (.cons rfl .nil)); exact trivial)
    | (apply wo_po; apply mo_bin; exact rfl; exact rfl; apply bin_gtrF; omega; (first | exact trivial | exact rfl))
    | refine we_seq ?_
    | (refine we_region _ rfl rfl ?_; simp only [opsOf, List.map_cons, List.map_nil, Option.map_none, Option.map_some, List.getElem?_toArray, List.getElem?_cons_zero, List.getElem?_cons_succ, Option.bind_some, Option.getD_some])
    | refine wo_nil ?_
    | (apply wo_po; apply mo_move; exact rfl; (first | exact trivial | exact rfl))
    | (apply wo_po; apply mo_assign; exact rfl; (first | exact trivial | exact rfl))
    | (apply wo_po; apply mo_load; exact rfl; (repeat (first | exact Rd.row0 rfl | exact Rd.row rfl rfl | exact Rd.still | apply Rd.there)); (first | exact trivial | exact rfl))
    | (apply we_condF; exact rfl; (first | exact rfl | (simp <;> omega) | omega))
    | refine we_skip ?_)
  refine wo_call (.cons rfl (.cons rfl (.cons rfl .nil))) trivial (turn_tr R (caps := [_, _, _]) (tell1_tr R hn) hs .here) ?_
  rintro v1 L1 x1 ⟨y, q, s', h1, rfl, rfl, rfl⟩
  repeat (first
    | refine we_seq ?_
    | (refine we_region _ rfl rfl ?_; simp only [opsOf, List.map_cons, List.map_nil, Option.map_none, Option.map_some, List.getElem?_toArray, List.getElem?_cons_zero, List.getElem?_cons_succ, Option.bind_some, Option.getD_some])
    | refine wo_nil ?_
    | (apply wo_po; apply mo_assign; exact rfl; (first | exact trivial | exact rfl))
    | refine we_ret ?_)
  (first | refine at_ret1 (ex := .ret) Try.func13 Try.results13 hQ (.inl rfl) rfl ?_ | refine at_ret1 (ex := .normal) Try.func13 Try.results13 hQ (.inr rfl) rfl ?_)
  exact ⟨s', h1, rfl, rfl, fun h st => Ent.star (.take .here (.drop (.drop (.drop .refl)))) st⟩

def BGetT (A : Acc B gv) (s : A.S) (Q : Nat → A.S → Prop) : Prop := A.step 1 0 s fun s => A.load 0 s fun o s => Q o s

theorem bget_tr (R : BreakerAt A r fails wait) {s : A.S} {Q : Nat → A.S → Prop} (hs : BGetT A s Q) (hh : Has L (A.C s) F) :
    Tr Try.prog B 14 [.pointer (some ⟨r, 0, none⟩), gv] L (A.x s) fun v L' x' => ∃ o s', o < 18446744073709551616 ∧ Q o s' ∧ v = .tuple #[.int .i64 ((o % 4 : Nat) : Int), .int .u64 ((o / 4 % 2097152 : Nat) : Int), .int .u64 ((o / 8388608 : Nat) : Int), .int .i64 0] ∧ L' = A.C s' :: F ∧ x' = A.x s' := by
  refine Tr.post (R := fun v L' x' => ∃ o s', o < 18446744073709551616 ∧ Q o s' ∧ v = .tuple #[.int .i64 ((o % 4 : Nat) : Int), .int .u64 ((o / 4 % 2097152 : Nat) : Int), .int .u64 ((o / 8388608 : Nat) : Int), .int .i64 0] ∧ x' = A.x s' ∧ ∀ h, Star L' h → Star (A.C s' :: F) h) ?_ (by rintro v L' x' ⟨o, s', ho, h1, rfl, rfl, hs⟩; exact ⟨_, ⟨o, s', ho, h1, rfl, rfl, rfl⟩, hs⟩)
  refine tr_of_body Try.func14 rfl Try.ntmps14 (by simp) fun um Q hQ => ?_
  simp only [argE, Nat.zero_add, Nat.reduceAdd]
  repeat (first
    | refine we_seq ?_
    | (refine we_region _ rfl rfl ?_; simp only [opsOf, List.map_cons, List.map_nil, Option.map_none, Option.map_some, List.getElem?_toArray, List.getElem?_cons_zero, List.getElem?_cons_succ, Option.bind_some, Option.getD_some])
    | refine wo_nil ?_
    | (apply wo_po; apply mo_move; exact rfl; (first | exact trivial | exact rfl))
    | (apply wo_po; apply mo_assign; exact rfl; (first | exact trivial | exact rfl)))
  refine wo_call (.cons rfl .nil) trivial (bnone_tr R hh) ?_
  rintro v1 L1 x1 ⟨rfl, rfl, rfl⟩
  repeat (first
    | refine we_seq ?_
    | (refine we_region _ rfl rfl ?_; simp only [opsOf, List.map_cons, List.map_nil, Option.map_none, Option.map_some, List.getElem?_toArray, List.getElem?_cons_zero, List.getElem?_cons_succ, Option.bind_some, Option.getD_some])
    | refine wo_nil ?_
    | (apply wo_po; apply mo_move; exact rfl; (first | exact trivial | exact rfl))
    | (apply we_condF; exact rfl; (first | exact rfl | (simp <;> omega) | omega))
    | refine we_skip ?_)
  refine wo_call (.cons rfl (.cons rfl (.cons rfl .nil))) trivial (step_tr (w := 0) hs hh) ?_
  rintro v1 L1 x1 ⟨s1, h1, rfl, rfl, rfl⟩
  repeat (first
    | refine we_seq ?_
    | (refine we_region _ rfl rfl ?_; simp only [opsOf, List.map_cons, List.map_nil, Option.map_none, Option.map_some, List.getElem?_toArray, List.getElem?_cons_zero, List.getElem?_cons_succ, Option.bind_some, Option.getD_some])
    | refine wo_nil ?_
    | (apply wo_po; apply mo_move; exact rfl; (first | exact trivial | exact rfl))
    | (apply wo_po; apply mo_nilCheck; exact rfl; (first | exact trivial | exact rfl))
    | (apply wo_po; apply mo_fieldAddr; exact rfl; exact rfl; (first | exact Nat.zero_add _ | exact rfl); (first | exact trivial | exact rfl)))
  refine wo_call (.cons rfl .nil) trivial (A.load_ok _ _ _ _ _ _ _ R.a h1 .here) ?_
  rintro v1 L1 x1 ⟨o, s2, ho, h2, rfl, rfl, rfl⟩
  skip
  refine wo_call (.cons rfl .nil) trivial (apart_tr ho) ?_
  rintro v1 L1 x1 ⟨rfl, rfl, rfl⟩
  repeat (first
    | (apply wo_mo; apply mo_alloc; exact trivial))
  rintro v' L' ⟨cb, rfl, rfl⟩
  have hcv : IntKind.i64.wrap ((o % 4 : Nat) : Int) = ((o % 4 : Nat) : Int) := wrap_i64 (by omega) (by omega)
  repeat (first
    | (apply wo_pm; apply mo_storeA (b := cb) (c := 0) (k := 0) (a := 0) (vs := [.int .u64 0, .int .u64 0, .int .u64 0]); exact rfl; exact rfl; exact rfl; (intro w hw; simp [Value.cells, w3] at hw; rcases hw with rfl | rfl | rfl <;> rfl); exact rfl; exact Nat.le_refl 3; exact .here; exact trivial)
    | refine we_seq ?_
    | refine wo_nil ?_)
  refine we_ent (arr cb 0 [.int .u64 ((o % 4 : Nat) : Int), .int .u64 ((o / 4 % 2097152 : Nat) : Int), .int .u64 ((o / 8388608 : Nat) : Int)] :: A.C s2 :: F) .refl ?_
  refine we_draw (List.range' 0 11) (by kernel_rfl) ?_
  repeat (first
    | (apply ap_pure; exact rfl; exact rfl; (first | exact trivial | exact rfl); intro L; apply mo_conv; exact rfl; exact hcv)
    | (apply ap_pure; exact rfl; exact rfl; (first | exact trivial | exact rfl); intro L; apply mo_assign; exact rfl)
    | (apply ap_pure; exact rfl; exact rfl; (first | exact trivial | exact rfl); intro L; apply mo_fieldAddr; exact rfl; exact rfl; (first | exact Nat.zero_add _ | exact rfl))
    | (apply ap_read; exact rfl; exact rfl; (first | exact trivial | exact rfl); apply mo_load; exact rfl; (repeat (first | exact Rd.row0 rfl | exact Rd.row rfl rfl | exact Rd.still | apply Rd.there)))
    | refine ap_end ?_)
  repeat (first
    | refine we_ret ?_)
  (first | refine at_ret4 (ex := .ret) Try.func14 Try.results14 hQ (.inl rfl) rfl rfl rfl rfl ?_ | refine at_ret4 (ex := .normal) Try.func14 Try.results14 hQ (.inr rfl) rfl rfl rfl rfl ?_)
  exact ⟨o, s2, ho, h2, rfl, rfl, fun h st => Ent.star (.drop .refl) st⟩
end
end Go.Proofs.Ytnnpdmhmpgmpnaa
