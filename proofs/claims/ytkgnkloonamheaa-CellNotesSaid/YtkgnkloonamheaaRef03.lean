/-
  patchbayref03: World, Boxed, the calls.
-/
import Derived.Test.YtkgnkloonamheaaCom
import Derived.Test.YtkgnkloonamheaaCell3n
set_option linter.unusedVariables false
set_option linter.unusedSimpArgs false
namespace Go.Proofs.Ytkgnkloonamheaa
open Go Go.PB
attribute [local irreducible] Mo Bin Eql Tr Wo Ap Wle

section
variable {B : Hand} [Lets B] {L F : List HProp} {x : B.X} {on v vv bd nm c u : Nat}

set_option maxHeartbeats 8000000 in
theorem ref_get_tr : Tr Try.prog B 39 [.int .i64 (on : Nat)] L x fun w L' x' => ∃ a m c, w = .agg #[.slice a m c, .slice none 0 0] ∧ L' = clC (.slice a m c) (.slice none 0 0) (Mach.cgetCl on) :: L ∧ x' = x := by
  refine Tr.post (R := fun v L' x' => ∃ a m c, v = .agg #[.slice a m c, .slice none 0 0] ∧ x' = x ∧ ∀ h, Star L' h → Star (clC (.slice a m c) (.slice none 0 0) (Mach.cgetCl on) :: L) h) ?_
    (by rintro v L' x' ⟨a, m, c, rfl, rfl, hs⟩; exact ⟨_, ⟨a, m, c, rfl, rfl, rfl⟩, hs⟩)
  refine tr_of_body Try.func39 rfl Try.ntmps39 (by simp) fun um Q hQ => ?_
  simp only [argE, Nat.zero_add, Nat.reduceAdd]
  repeat (first
    | (apply wo_mo; apply mo_alloc; exact trivial)
    | refine we_seq ?_
    | (refine we_region _ rfl rfl ?_; simp only [opsOf, List.map_cons, List.map_nil, Option.map_none, Option.map_some, List.getElem?_toArray, List.getElem?_cons_zero, List.getElem?_cons_succ, Option.bind_some, Option.getD_some]))
  rintro v' L' ⟨cb, rfl, rfl⟩
  repeat (first
    | (apply wo_po; apply mo_buildV; (repeat (first | exact EvL.nil | apply EvL.cons rfl)); exact rfl; exact trivial)
    | (apply wo_mo; apply mo_buildSlice (sz := 7); exact rfl; (repeat (first | exact EvL.nil | apply EvL.cons rfl)); exact rfl; (repeat (first | exact List.forall_mem_nil _ | refine List.forall_mem_cons.2 ⟨rfl, ?_⟩)); omega; exact trivial)
    | refine we_seq ?_
    | (refine we_region _ rfl rfl ?_; simp only [opsOf, List.map_cons, List.map_nil, Option.map_none, Option.map_some, List.getElem?_toArray, List.getElem?_cons_zero, List.getElem?_cons_succ, Option.bind_some, Option.getD_some])
    | refine wo_nil ?_
    | (apply wo_po; apply mo_move; exact rfl; (first | exact trivial | exact rfl)))
  rintro v' L' ⟨kb, rfl, rfl⟩
  repeat (first
    | (apply wo_po; apply mo_buildV; (repeat (first | exact EvL.nil | apply EvL.cons rfl)); exact rfl; exact trivial)
    | (apply wo_pm; apply mo_storeA (b := cb) (c := 0) (k := 0) (a := 0) (vs := [.slice none 0 0, .slice none 0 0]); exact rfl; exact rfl; exact rfl; (intro w hw; simp [Value.cells] at hw; rcases hw with rfl | rfl <;> rfl); exact rfl; exact Nat.le_refl 2; exact (.there .here); exact trivial)
    | refine wo_nil ?_
    | refine we_ret ?_)
  refine at_leaveM (rs := [.cell 2 53]) Try.func39 Try.results39 hQ (.inl rfl) (.cons (.cell (vs := [.slice (some ⟨kb, 0, none⟩) 2 2, .slice none 0 0]) rfl rfl (Rds.all (.there .here))) .nil) ?_
  exact ⟨_, _, _, rfl, rfl, fun h st => cl_new (cl := Mach.cgetCl on) rfl rfl rfl (Ent.star (.take .here (.drop .refl)) st)⟩

set_option maxHeartbeats 8000000 in
theorem ref_add_tr : Tr Try.prog B 40 [.int .i64 (on : Nat), .int .u64 (vv : Nat)] L x fun w L' x' => ∃ a m c, w = .agg #[.slice a m c, .slice none 0 0] ∧ L' = clC (.slice a m c) (.slice none 0 0) (Mach.caddCl on vv) :: L ∧ x' = x := by
  refine Tr.post (R := fun v L' x' => ∃ a m c, v = .agg #[.slice a m c, .slice none 0 0] ∧ x' = x ∧ ∀ h, Star L' h → Star (clC (.slice a m c) (.slice none 0 0) (Mach.caddCl on vv) :: L) h) ?_
    (by rintro v L' x' ⟨a, m, c, rfl, rfl, hs⟩; exact ⟨_, ⟨a, m, c, rfl, rfl, rfl⟩, hs⟩)
  refine tr_of_body Try.func40 rfl Try.ntmps40 (by simp) fun um Q hQ => ?_
  simp only [argE, Nat.zero_add, Nat.reduceAdd]
  repeat (first
    | (apply wo_mo; apply mo_alloc; exact trivial)
    | refine we_seq ?_
    | (refine we_region _ rfl rfl ?_; simp only [opsOf, List.map_cons, List.map_nil, Option.map_none, Option.map_some, List.getElem?_toArray, List.getElem?_cons_zero, List.getElem?_cons_succ, Option.bind_some, Option.getD_some]))
  rintro v' L' ⟨cb, rfl, rfl⟩
  repeat (first
    | (apply wo_po; apply mo_buildV; (repeat (first | exact EvL.nil | apply EvL.cons rfl)); exact rfl; exact trivial)
    | (apply wo_mo; apply mo_buildSlice (sz := 7); exact rfl; (repeat (first | exact EvL.nil | apply EvL.cons rfl)); exact rfl; (repeat (first | exact List.forall_mem_nil _ | refine List.forall_mem_cons.2 ⟨rfl, ?_⟩)); omega; exact trivial)
    | refine we_seq ?_
    | (refine we_region _ rfl rfl ?_; simp only [opsOf, List.map_cons, List.map_nil, Option.map_none, Option.map_some, List.getElem?_toArray, List.getElem?_cons_zero, List.getElem?_cons_succ, Option.bind_some, Option.getD_some])
    | refine wo_nil ?_
    | (apply wo_po; apply mo_move; exact rfl; (first | exact trivial | exact rfl)))
  rintro v' L' ⟨kb, rfl, rfl⟩
  repeat (first
    | (apply wo_po; apply mo_buildV; (repeat (first | exact EvL.nil | apply EvL.cons rfl)); exact rfl; exact trivial)
    | (apply wo_pm; apply mo_storeA (b := cb) (c := 0) (k := 0) (a := 0) (vs := [.slice none 0 0, .slice none 0 0]); exact rfl; exact rfl; exact rfl; (intro w hw; simp [Value.cells] at hw; rcases hw with rfl | rfl <;> rfl); exact rfl; exact Nat.le_refl 2; exact (.there .here); exact trivial)
    | refine wo_nil ?_
    | refine we_ret ?_)
  refine at_leaveM (rs := [.cell 4 53]) Try.func40 Try.results40 hQ (.inl rfl) (.cons (.cell (vs := [.slice (some ⟨kb, 0, none⟩) 3 3, .slice none 0 0]) rfl rfl (Rds.all (.there .here))) .nil) ?_
  exact ⟨_, _, _, rfl, rfl, fun h st => cl_new (cl := Mach.caddCl on vv) rfl rfl rfl (Ent.star (.take .here (.drop .refl)) st)⟩

set_option maxHeartbeats 8000000 in
theorem ref_up_tr : Tr Try.prog B 41 [.int .i64 (on : Nat), .int .u64 (vv : Nat), .int .u64 (bd : Nat)] L x fun w L' x' => ∃ a m c, w = .agg #[.slice a m c, .slice none 0 0] ∧ L' = clC (.slice a m c) (.slice none 0 0) (Mach.cupCl on vv bd) :: L ∧ x' = x := by
  refine Tr.post (R := fun v L' x' => ∃ a m c, v = .agg #[.slice a m c, .slice none 0 0] ∧ x' = x ∧ ∀ h, Star L' h → Star (clC (.slice a m c) (.slice none 0 0) (Mach.cupCl on vv bd) :: L) h) ?_
    (by rintro v L' x' ⟨a, m, c, rfl, rfl, hs⟩; exact ⟨_, ⟨a, m, c, rfl, rfl, rfl⟩, hs⟩)
  refine tr_of_body Try.func41 rfl Try.ntmps41 (by simp) fun um Q hQ => ?_
  simp only [argE, Nat.zero_add, Nat.reduceAdd]
  repeat (first
    | (apply wo_mo; apply mo_alloc; exact trivial)
    | refine we_seq ?_
    | (refine we_region _ rfl rfl ?_; simp only [opsOf, List.map_cons, List.map_nil, Option.map_none, Option.map_some, List.getElem?_toArray, List.getElem?_cons_zero, List.getElem?_cons_succ, Option.bind_some, Option.getD_some]))
  rintro v' L' ⟨cb, rfl, rfl⟩
  repeat (first
    | (apply wo_po; apply mo_buildV; (repeat (first | exact EvL.nil | apply EvL.cons rfl)); exact rfl; exact trivial)
    | (apply wo_mo; apply mo_buildSlice (sz := 7); exact rfl; (repeat (first | exact EvL.nil | apply EvL.cons rfl)); exact rfl; (repeat (first | exact List.forall_mem_nil _ | refine List.forall_mem_cons.2 ⟨rfl, ?_⟩)); omega; exact trivial)
    | refine we_seq ?_
    | (refine we_region _ rfl rfl ?_; simp only [opsOf, List.map_cons, List.map_nil, Option.map_none, Option.map_some, List.getElem?_toArray, List.getElem?_cons_zero, List.getElem?_cons_succ, Option.bind_some, Option.getD_some])
    | refine wo_nil ?_
    | (apply wo_po; apply mo_move; exact rfl; (first | exact trivial | exact rfl)))
  rintro v' L' ⟨kb, rfl, rfl⟩
  repeat (first
    | (apply wo_po; apply mo_buildV; (repeat (first | exact EvL.nil | apply EvL.cons rfl)); exact rfl; exact trivial)
    | (apply wo_pm; apply mo_storeA (b := cb) (c := 0) (k := 0) (a := 0) (vs := [.slice none 0 0, .slice none 0 0]); exact rfl; exact rfl; exact rfl; (intro w hw; simp [Value.cells] at hw; rcases hw with rfl | rfl <;> rfl); exact rfl; exact Nat.le_refl 2; exact (.there .here); exact trivial)
    | refine wo_nil ?_
    | refine we_ret ?_)
  refine at_leaveM (rs := [.cell 6 53]) Try.func41 Try.results41 hQ (.inl rfl) (.cons (.cell (vs := [.slice (some ⟨kb, 0, none⟩) 14 14, .slice none 0 0]) rfl rfl (Rds.all (.there .here))) .nil) ?_
  exact ⟨_, _, _, rfl, rfl, fun h st => cl_new (cl := Mach.cupCl on vv bd) rfl rfl rfl (Ent.star (.take .here (.drop .refl)) st)⟩

set_option maxHeartbeats 8000000 in
theorem ref_down_tr : Tr Try.prog B 42 [.int .i64 (on : Nat), .int .u64 (vv : Nat)] L x fun w L' x' => ∃ a m c, w = .agg #[.slice a m c, .slice none 0 0] ∧ L' = clC (.slice a m c) (.slice none 0 0) (Mach.cdownCl on vv) :: L ∧ x' = x := by
  refine Tr.post (R := fun v L' x' => ∃ a m c, v = .agg #[.slice a m c, .slice none 0 0] ∧ x' = x ∧ ∀ h, Star L' h → Star (clC (.slice a m c) (.slice none 0 0) (Mach.cdownCl on vv) :: L) h) ?_
    (by rintro v L' x' ⟨a, m, c, rfl, rfl, hs⟩; exact ⟨_, ⟨a, m, c, rfl, rfl, rfl⟩, hs⟩)
  refine tr_of_body Try.func42 rfl Try.ntmps42 (by simp) fun um Q hQ => ?_
  simp only [argE, Nat.zero_add, Nat.reduceAdd]
  repeat (first
    | (apply wo_mo; apply mo_alloc; exact trivial)
    | refine we_seq ?_
    | (refine we_region _ rfl rfl ?_; simp only [opsOf, List.map_cons, List.map_nil, Option.map_none, Option.map_some, List.getElem?_toArray, List.getElem?_cons_zero, List.getElem?_cons_succ, Option.bind_some, Option.getD_some]))
  rintro v' L' ⟨cb, rfl, rfl⟩
  repeat (first
    | (apply wo_po; apply mo_buildV; (repeat (first | exact EvL.nil | apply EvL.cons rfl)); exact rfl; exact trivial)
    | (apply wo_mo; apply mo_buildSlice (sz := 7); exact rfl; (repeat (first | exact EvL.nil | apply EvL.cons rfl)); exact rfl; (repeat (first | exact List.forall_mem_nil _ | refine List.forall_mem_cons.2 ⟨rfl, ?_⟩)); omega; exact trivial)
    | refine we_seq ?_
    | (refine we_region _ rfl rfl ?_; simp only [opsOf, List.map_cons, List.map_nil, Option.map_none, Option.map_some, List.getElem?_toArray, List.getElem?_cons_zero, List.getElem?_cons_succ, Option.bind_some, Option.getD_some])
    | refine wo_nil ?_
    | (apply wo_po; apply mo_move; exact rfl; (first | exact trivial | exact rfl)))
  rintro v' L' ⟨kb, rfl, rfl⟩
  repeat (first
    | (apply wo_po; apply mo_buildV; (repeat (first | exact EvL.nil | apply EvL.cons rfl)); exact rfl; exact trivial)
    | (apply wo_pm; apply mo_storeA (b := cb) (c := 0) (k := 0) (a := 0) (vs := [.slice none 0 0, .slice none 0 0]); exact rfl; exact rfl; exact rfl; (intro w hw; simp [Value.cells] at hw; rcases hw with rfl | rfl <;> rfl); exact rfl; exact Nat.le_refl 2; exact (.there .here); exact trivial)
    | refine wo_nil ?_
    | refine we_ret ?_)
  refine at_leaveM (rs := [.cell 4 53]) Try.func42 Try.results42 hQ (.inl rfl) (.cons (.cell (vs := [.slice (some ⟨kb, 0, none⟩) 11 11, .slice none 0 0]) rfl rfl (Rds.all (.there .here))) .nil) ?_
  exact ⟨_, _, _, rfl, rfl, fun h st => cl_new (cl := Mach.cdownCl on vv) rfl rfl rfl (Ent.star (.take .here (.drop .refl)) st)⟩

set_option maxHeartbeats 8000000 in
theorem ref_max_tr : Tr Try.prog B 43 [.int .i64 (on : Nat), .int .u64 (vv : Nat)] L x fun w L' x' => ∃ a m c, w = .agg #[.slice a m c, .slice none 0 0] ∧ L' = clC (.slice a m c) (.slice none 0 0) (Mach.cmaxCl on vv) :: L ∧ x' = x := by
  refine Tr.post (R := fun v L' x' => ∃ a m c, v = .agg #[.slice a m c, .slice none 0 0] ∧ x' = x ∧ ∀ h, Star L' h → Star (clC (.slice a m c) (.slice none 0 0) (Mach.cmaxCl on vv) :: L) h) ?_
    (by rintro v L' x' ⟨a, m, c, rfl, rfl, hs⟩; exact ⟨_, ⟨a, m, c, rfl, rfl, rfl⟩, hs⟩)
  refine tr_of_body Try.func43 rfl Try.ntmps43 (by simp) fun um Q hQ => ?_
  simp only [argE, Nat.zero_add, Nat.reduceAdd]
  repeat (first
    | (apply wo_mo; apply mo_alloc; exact trivial)
    | refine we_seq ?_
    | (refine we_region _ rfl rfl ?_; simp only [opsOf, List.map_cons, List.map_nil, Option.map_none, Option.map_some, List.getElem?_toArray, List.getElem?_cons_zero, List.getElem?_cons_succ, Option.bind_some, Option.getD_some]))
  rintro v' L' ⟨cb, rfl, rfl⟩
  repeat (first
    | (apply wo_po; apply mo_buildV; (repeat (first | exact EvL.nil | apply EvL.cons rfl)); exact rfl; exact trivial)
    | (apply wo_mo; apply mo_buildSlice (sz := 7); exact rfl; (repeat (first | exact EvL.nil | apply EvL.cons rfl)); exact rfl; (repeat (first | exact List.forall_mem_nil _ | refine List.forall_mem_cons.2 ⟨rfl, ?_⟩)); omega; exact trivial)
    | refine we_seq ?_
    | (refine we_region _ rfl rfl ?_; simp only [opsOf, List.map_cons, List.map_nil, Option.map_none, Option.map_some, List.getElem?_toArray, List.getElem?_cons_zero, List.getElem?_cons_succ, Option.bind_some, Option.getD_some])
    | refine wo_nil ?_
    | (apply wo_po; apply mo_move; exact rfl; (first | exact trivial | exact rfl)))
  rintro v' L' ⟨kb, rfl, rfl⟩
  repeat (first
    | (apply wo_po; apply mo_buildV; (repeat (first | exact EvL.nil | apply EvL.cons rfl)); exact rfl; exact trivial)
    | (apply wo_pm; apply mo_storeA (b := cb) (c := 0) (k := 0) (a := 0) (vs := [.slice none 0 0, .slice none 0 0]); exact rfl; exact rfl; exact rfl; (intro w hw; simp [Value.cells] at hw; rcases hw with rfl | rfl <;> rfl); exact rfl; exact Nat.le_refl 2; exact (.there .here); exact trivial)
    | refine wo_nil ?_
    | refine we_ret ?_)
  refine at_leaveM (rs := [.cell 4 53]) Try.func43 Try.results43 hQ (.inl rfl) (.cons (.cell (vs := [.slice (some ⟨kb, 0, none⟩) 8 8, .slice none 0 0]) rfl rfl (Rds.all (.there .here))) .nil) ?_
  exact ⟨_, _, _, rfl, rfl, fun h st => cl_new (cl := Mach.cmaxCl on vv) rfl rfl rfl (Ent.star (.take .here (.drop .refl)) st)⟩

set_option maxHeartbeats 8000000 in
theorem ref_turned_tr : Tr Try.prog B 44 [.int .i64 (on : Nat), .int .u64 (vv : Nat)] L x fun w L' x' => ∃ a m c, w = .agg #[.slice a m c, .slice none 0 0] ∧ L' = clC (.slice a m c) (.slice none 0 0) (Mach.cturnCl on vv) :: L ∧ x' = x := by
  refine Tr.post (R := fun v L' x' => ∃ a m c, v = .agg #[.slice a m c, .slice none 0 0] ∧ x' = x ∧ ∀ h, Star L' h → Star (clC (.slice a m c) (.slice none 0 0) (Mach.cturnCl on vv) :: L) h) ?_
    (by rintro v L' x' ⟨a, m, c, rfl, rfl, hs⟩; exact ⟨_, ⟨a, m, c, rfl, rfl, rfl⟩, hs⟩)
  refine tr_of_body Try.func44 rfl Try.ntmps44 (by simp) fun um Q hQ => ?_
  simp only [argE, Nat.zero_add, Nat.reduceAdd]
  repeat (first
    | (apply wo_mo; apply mo_alloc; exact trivial)
    | refine we_seq ?_
    | (refine we_region _ rfl rfl ?_; simp only [opsOf, List.map_cons, List.map_nil, Option.map_none, Option.map_some, List.getElem?_toArray, List.getElem?_cons_zero, List.getElem?_cons_succ, Option.bind_some, Option.getD_some]))
  rintro v' L' ⟨cb, rfl, rfl⟩
  repeat (first
    | (apply wo_po; apply mo_buildV; (repeat (first | exact EvL.nil | apply EvL.cons rfl)); exact rfl; exact trivial)
    | (apply wo_mo; apply mo_buildSlice (sz := 7); exact rfl; (repeat (first | exact EvL.nil | apply EvL.cons rfl)); exact rfl; (repeat (first | exact List.forall_mem_nil _ | refine List.forall_mem_cons.2 ⟨rfl, ?_⟩)); omega; exact trivial)
    | refine we_seq ?_
    | (refine we_region _ rfl rfl ?_; simp only [opsOf, List.map_cons, List.map_nil, Option.map_none, Option.map_some, List.getElem?_toArray, List.getElem?_cons_zero, List.getElem?_cons_succ, Option.bind_some, Option.getD_some])
    | refine wo_nil ?_
    | (apply wo_po; apply mo_move; exact rfl; (first | exact trivial | exact rfl)))
  rintro v' L' ⟨kb, rfl, rfl⟩
  repeat (first
    | (apply wo_po; apply mo_buildV; (repeat (first | exact EvL.nil | apply EvL.cons rfl)); exact rfl; exact trivial)
    | (apply wo_pm; apply mo_storeA (b := cb) (c := 0) (k := 0) (a := 0) (vs := [.slice none 0 0, .slice none 0 0]); exact rfl; exact rfl; exact rfl; (intro w hw; simp [Value.cells] at hw; rcases hw with rfl | rfl <;> rfl); exact rfl; exact Nat.le_refl 2; exact (.there .here); exact trivial)
    | refine wo_nil ?_
    | refine we_ret ?_)
  refine at_leaveM (rs := [.cell 4 53]) Try.func44 Try.results44 hQ (.inl rfl) (.cons (.cell (vs := [.slice (some ⟨kb, 0, none⟩) 7 7, .slice none 0 0]) rfl rfl (Rds.all (.there .here))) .nil) ?_
  exact ⟨_, _, _, rfl, rfl, fun h st => cl_new (cl := Mach.cturnCl on vv) rfl rfl rfl (Ent.star (.take .here (.drop .refl)) st)⟩

set_option maxHeartbeats 8000000 in
theorem ref_put_tr : Tr Try.prog B 46 [.int .i64 (on : Nat), .int .u64 (vv : Nat)] L x fun w L' x' => ∃ a m c, w = .agg #[.slice a m c, .slice none 0 0] ∧ L' = clC (.slice a m c) (.slice none 0 0) (Mach.cputCl on vv) :: L ∧ x' = x := by
  refine Tr.post (R := fun v L' x' => ∃ a m c, v = .agg #[.slice a m c, .slice none 0 0] ∧ x' = x ∧ ∀ h, Star L' h → Star (clC (.slice a m c) (.slice none 0 0) (Mach.cputCl on vv) :: L) h) ?_
    (by rintro v L' x' ⟨a, m, c, rfl, rfl, hs⟩; exact ⟨_, ⟨a, m, c, rfl, rfl, rfl⟩, hs⟩)
  refine tr_of_body Try.func46 rfl Try.ntmps46 (by simp) fun um Q hQ => ?_
  simp only [argE, Nat.zero_add, Nat.reduceAdd]
  repeat (first
    | (apply wo_mo; apply mo_alloc; exact trivial)
    | refine we_seq ?_
    | (refine we_region _ rfl rfl ?_; simp only [opsOf, List.map_cons, List.map_nil, Option.map_none, Option.map_some, List.getElem?_toArray, List.getElem?_cons_zero, List.getElem?_cons_succ, Option.bind_some, Option.getD_some]))
  rintro v' L' ⟨cb, rfl, rfl⟩
  repeat (first
    | (apply wo_po; apply mo_buildV; (repeat (first | exact EvL.nil | apply EvL.cons rfl)); exact rfl; exact trivial)
    | (apply wo_mo; apply mo_buildSlice (sz := 7); exact rfl; (repeat (first | exact EvL.nil | apply EvL.cons rfl)); exact rfl; (repeat (first | exact List.forall_mem_nil _ | refine List.forall_mem_cons.2 ⟨rfl, ?_⟩)); omega; exact trivial)
    | refine we_seq ?_
    | (refine we_region _ rfl rfl ?_; simp only [opsOf, List.map_cons, List.map_nil, Option.map_none, Option.map_some, List.getElem?_toArray, List.getElem?_cons_zero, List.getElem?_cons_succ, Option.bind_some, Option.getD_some])
    | refine wo_nil ?_
    | (apply wo_po; apply mo_move; exact rfl; (first | exact trivial | exact rfl)))
  rintro v' L' ⟨kb, rfl, rfl⟩
  repeat (first
    | (apply wo_po; apply mo_buildV; (repeat (first | exact EvL.nil | apply EvL.cons rfl)); exact rfl; exact trivial)
    | (apply wo_pm; apply mo_storeA (b := cb) (c := 0) (k := 0) (a := 0) (vs := [.slice none 0 0, .slice none 0 0]); exact rfl; exact rfl; exact rfl; (intro w hw; simp [Value.cells] at hw; rcases hw with rfl | rfl <;> rfl); exact rfl; exact Nat.le_refl 2; exact (.there .here); exact trivial)
    | refine wo_nil ?_
    | refine we_ret ?_)
  refine at_leaveM (rs := [.cell 4 53]) Try.func46 Try.results46 hQ (.inl rfl) (.cons (.cell (vs := [.slice (some ⟨kb, 0, none⟩) 8 8, .slice none 0 0]) rfl rfl (Rds.all (.there .here))) .nil) ?_
  exact ⟨_, _, _, rfl, rfl, fun h st => cl_new (cl := Mach.cputCl on vv) rfl rfl rfl (Ent.star (.take .here (.drop .refl)) st)⟩

set_option maxHeartbeats 8000000 in
theorem ref_try_tr : Tr Try.prog B 47 [.int .i64 (on : Nat), .int .u64 (nm : Nat), .int .u64 (vv : Nat)] L x fun w L' x' => ∃ a m c, w = .agg #[.slice a m c, .slice none 0 0] ∧ L' = clC (.slice a m c) (.slice none 0 0) (Mach.ctryCl on nm vv) :: L ∧ x' = x := by
  refine Tr.post (R := fun v L' x' => ∃ a m c, v = .agg #[.slice a m c, .slice none 0 0] ∧ x' = x ∧ ∀ h, Star L' h → Star (clC (.slice a m c) (.slice none 0 0) (Mach.ctryCl on nm vv) :: L) h) ?_
    (by rintro v L' x' ⟨a, m, c, rfl, rfl, hs⟩; exact ⟨_, ⟨a, m, c, rfl, rfl, rfl⟩, hs⟩)
  refine tr_of_body Try.func47 rfl Try.ntmps47 (by simp) fun um Q hQ => ?_
  simp only [argE, Nat.zero_add, Nat.reduceAdd]
  repeat (first
    | (apply wo_mo; apply mo_alloc; exact trivial)
    | refine we_seq ?_
    | (refine we_region _ rfl rfl ?_; simp only [opsOf, List.map_cons, List.map_nil, Option.map_none, Option.map_some, List.getElem?_toArray, List.getElem?_cons_zero, List.getElem?_cons_succ, Option.bind_some, Option.getD_some]))
  rintro v' L' ⟨cb, rfl, rfl⟩
  repeat (first
    | (apply wo_po; apply mo_buildV; (repeat (first | exact EvL.nil | apply EvL.cons rfl)); exact rfl; exact trivial)
    | (apply wo_mo; apply mo_buildSlice (sz := 7); exact rfl; (repeat (first | exact EvL.nil | apply EvL.cons rfl)); exact rfl; (repeat (first | exact List.forall_mem_nil _ | refine List.forall_mem_cons.2 ⟨rfl, ?_⟩)); omega; exact trivial)
    | refine we_seq ?_
    | (refine we_region _ rfl rfl ?_; simp only [opsOf, List.map_cons, List.map_nil, Option.map_none, Option.map_some, List.getElem?_toArray, List.getElem?_cons_zero, List.getElem?_cons_succ, Option.bind_some, Option.getD_some])
    | refine wo_nil ?_
    | (apply wo_po; apply mo_move; exact rfl; (first | exact trivial | exact rfl)))
  rintro v' L' ⟨kb, rfl, rfl⟩
  repeat (first
    | (apply wo_po; apply mo_buildV; (repeat (first | exact EvL.nil | apply EvL.cons rfl)); exact rfl; exact trivial)
    | (apply wo_pm; apply mo_storeA (b := cb) (c := 0) (k := 0) (a := 0) (vs := [.slice none 0 0, .slice none 0 0]); exact rfl; exact rfl; exact rfl; (intro w hw; simp [Value.cells] at hw; rcases hw with rfl | rfl <;> rfl); exact rfl; exact Nat.le_refl 2; exact (.there .here); exact trivial)
    | refine wo_nil ?_
    | refine we_ret ?_)
  refine at_leaveM (rs := [.cell 6 53]) Try.func47 Try.results47 hQ (.inl rfl) (.cons (.cell (vs := [.slice (some ⟨kb, 0, none⟩) 11 11, .slice none 0 0]) rfl rfl (Rds.all (.there .here))) .nil) ?_
  exact ⟨_, _, _, rfl, rfl, fun h st => cl_new (cl := Mach.ctryCl on nm vv) rfl rfl rfl (Ent.star (.take .here (.drop .refl)) st)⟩

theorem parted_tr : Tr Try.prog B 75 [.int .i64 (on : Nat)] L x fun w L' x' => ∃ kb, w = .slice (some ⟨kb, 0, none⟩) 5 5 ∧ L' = arr kb 0 (([⟨14, 0, 11, on, 0, 0, 32⟩, ⟨15, 0, 11, 11, 0, 0, 32⟩, ⟨22, 0, 11, 0, 0, 0, 0⟩, ⟨15, 0, 11, on, 0, 0, 32⟩, ⟨22, 0, 11, 0, 0, 0, 0⟩] : List Mach.In).map inC).flatten :: L ∧ x' = x := by
  refine tr_of_body Try.func75 rfl Try.ntmps75 (by simp) fun um Q hQ => ?_
  simp only [argE, Nat.zero_add, Nat.reduceAdd]
  repeat (first
    | (apply wo_po; apply mo_buildV; (repeat (first | exact EvL.nil | apply EvL.cons rfl)); exact rfl; exact trivial)
    | (apply wo_mo; apply mo_buildSlice (sz := 7); exact rfl; (repeat (first | exact EvL.nil | apply EvL.cons rfl)); exact rfl; (repeat (first | exact List.forall_mem_nil _ | refine List.forall_mem_cons.2 ⟨rfl, ?_⟩)); omega; exact trivial)
    | refine we_seq ?_
    | (refine we_region _ rfl rfl ?_; simp only [opsOf, List.map_cons, List.map_nil, Option.map_none, Option.map_some, List.getElem?_toArray, List.getElem?_cons_zero, List.getElem?_cons_succ, Option.bind_some, Option.getD_some])
    | refine wo_nil ?_
    | (apply wo_po; apply mo_move; exact rfl; (first | exact trivial | exact rfl))
    | (apply wo_po; apply mo_assign; exact rfl; (first | exact trivial | exact rfl)))
  rintro v' L' ⟨kb, rfl, rfl⟩
  repeat (first
    | refine wo_nil ?_
    | (apply wo_po; apply mo_assign; exact rfl; (first | exact trivial | exact rfl))
    | refine we_ret ?_)
  (first | refine at_ret1 (ex := .ret) Try.func75 Try.results75 hQ (.inl rfl) rfl ?_ | refine at_ret1 (ex := .normal) Try.func75 Try.results75 hQ (.inr rfl) rfl ?_)
  exact ⟨kb, rfl, rfl, rfl⟩

set_option maxHeartbeats 8000000 in
theorem ref_getbox_tr : Tr Try.prog B 45 [.int .i64 (on : Nat)] L x fun w L' x' => ∃ a m c, w = .agg #[.slice a m c, .slice none 0 0] ∧ L' = clC (.slice a m c) (.slice none 0 0) (Mach.cgetbCl on) :: L ∧ x' = x := by
  refine Tr.post (R := fun v L' x' => ∃ a m c, v = .agg #[.slice a m c, .slice none 0 0] ∧ x' = x ∧ ∀ h, Star L' h → Star (clC (.slice a m c) (.slice none 0 0) (Mach.cgetbCl on) :: L) h) ?_
    (by rintro v L' x' ⟨a, m, c, rfl, rfl, hs⟩; exact ⟨_, ⟨a, m, c, rfl, rfl, rfl⟩, hs⟩)
  refine tr_of_body Try.func45 rfl Try.ntmps45 (by simp) fun um Q hQ => ?_
  simp only [argE, Nat.zero_add, Nat.reduceAdd]
  repeat (first
    | (apply wo_mo; apply mo_alloc; exact trivial)
    | refine we_seq ?_
    | (refine we_region _ rfl rfl ?_; simp only [opsOf, List.map_cons, List.map_nil, Option.map_none, Option.map_some, List.getElem?_toArray, List.getElem?_cons_zero, List.getElem?_cons_succ, Option.bind_some, Option.getD_some]))
  rintro v' L' ⟨cb, rfl, rfl⟩
  repeat (first
    | (apply wo_po; apply mo_buildV; (repeat (first | exact EvL.nil | apply EvL.cons rfl)); exact rfl; exact trivial)
    | (apply wo_mo; apply mo_buildSlice (sz := 7); exact rfl; (repeat (first | exact EvL.nil | apply EvL.cons rfl)); exact rfl; (repeat (first | exact List.forall_mem_nil _ | refine List.forall_mem_cons.2 ⟨rfl, ?_⟩)); omega; exact trivial)
    | refine we_seq ?_
    | (refine we_region _ rfl rfl ?_; simp only [opsOf, List.map_cons, List.map_nil, Option.map_none, Option.map_some, List.getElem?_toArray, List.getElem?_cons_zero, List.getElem?_cons_succ, Option.bind_some, Option.getD_some])
    | refine wo_nil ?_
    | (apply wo_po; apply mo_move; exact rfl; (first | exact trivial | exact rfl)))
  rintro v' L' ⟨kb, rfl, rfl⟩
  refine wo_star (vec 7 (.slice (some ⟨kb, 0, none⟩) 1 1) (([⟨1, on, 10, 9, 0, 0, 0⟩] : List Mach.In).map inC).flatten :: arr cb 0 [.slice none 0 0, .slice none 0 0] :: L) (fun h st => vec_new rfl st) ?_
  repeat (first
    | refine we_seq ?_
    | (refine we_region _ rfl rfl ?_; simp only [opsOf, List.map_cons, List.map_nil, Option.map_none, Option.map_some, List.getElem?_toArray, List.getElem?_cons_zero, List.getElem?_cons_succ, Option.bind_some, Option.getD_some])
    | refine wo_nil ?_
    | (apply wo_po; apply mo_move; exact rfl; (first | exact trivial | exact rfl))
    | (apply wo_po; apply mo_assign; exact rfl; (first | exact trivial | exact rfl)))
  refine wo_call (.cons rfl .nil) trivial (parted_tr (on := 10)) ?_
  rintro v' L' x' ⟨pb, rfl, rfl, rfl⟩
  repeat (first
    | (apply wo_mo; apply mo_append (sz := 7) (new := (([⟨14, 0, 11, 10, 0, 0, 32⟩, ⟨15, 0, 11, 11, 0, 0, 32⟩, ⟨22, 0, 11, 0, 0, 0, 0⟩, ⟨15, 0, 11, 10, 0, 0, 32⟩, ⟨22, 0, 11, 0, 0, 0, 0⟩] : List Mach.In).map inC).flatten); exact rfl; exact rfl; exact rfl; exact rfl; exact (.there .here); exact rfl; exact .inr ⟨_, _, rfl, Rds.all .here⟩; exact inC_one; (simp only [sliceLen]; omega); exact trivial))
  rintro v' L' rfl
  refine wo_pure (of_has .here (vec_shape (by omega))) ?_
  rintro ⟨qa, qn, qc, rfl, _⟩
  repeat (first
    | (apply wo_po; apply mo_buildV; (repeat (first | exact EvL.nil | apply EvL.cons rfl)); exact rfl; exact trivial)
    | (apply wo_pm; apply mo_storeA (b := cb) (c := 0) (k := 0) (a := 0) (vs := [.slice none 0 0, .slice none 0 0]); exact rfl; exact rfl; exact rfl; (intro w hw; simp [Value.cells] at hw; rcases hw with rfl | rfl <;> rfl); exact rfl; exact Nat.le_refl 2; exact (.there (.there .here)); exact trivial)
    | refine wo_nil ?_
    | refine we_ret ?_)
  refine at_leaveM (rs := [.cell 2 53]) Try.func45 Try.results45 hQ (.inl rfl) (.cons (.cell (vs := [.slice qa qn qc, .slice none 0 0]) rfl rfl (Rds.all (.there (.there .here)))) .nil) ?_
  exact ⟨_, _, _, rfl, rfl, fun h st => cl_shut (cl := Mach.cgetbCl on) rfl rfl (Ent.star (.take .here (.drop (.drop .refl))) st)⟩

theorem boxed_tr (hv : v < 4294967296) : Tr Try.prog B 9 [.int .u64 (v : Nat), .int .u64 0] L x fun w L' x' => w = .int .u64 (v : Nat) ∧ L' = L ∧ x' = x := by
  have s1 : IntKind.u64.wrap ((0 : Int) * 2 ^ (min (32 : Int).toNat IntKind.u64.bits)) = (0 : Int) := by rw [Int.zero_mul]; rfl
  have a1 : IntKind.u64.wrap ((0 : Int) + (v : Int)) = (v : Int) := (wrap_u64 (by omega) (by omega)).trans (by omega)
  refine tr_of_body Try.func9 rfl Try.ntmps9 (by simp) fun um Q hQ => ?_
  simp only [argE, Nat.zero_add, Nat.reduceAdd]
  repeat (first
    | (apply wo_po; apply mo_bin; exact rfl; exact rfl; apply bin_shl; omega; exact s1; exact trivial)
    | (apply wo_po; apply mo_bin; exact rfl; exact rfl; apply bin_add; exact a1; exact trivial)
    | refine we_seq ?_
    | (refine we_region _ rfl rfl ?_; simp only [opsOf, List.map_cons, List.map_nil, Option.map_none, Option.map_some, List.getElem?_toArray, List.getElem?_cons_zero, List.getElem?_cons_succ, Option.bind_some, Option.getD_some])
    | refine wo_nil ?_
    | (apply wo_po; apply mo_move; exact rfl; (first | exact trivial | exact rfl))
    | (apply wo_po; apply mo_assign; exact rfl; (first | exact trivial | exact rfl))
    | refine we_ret ?_)
  (first | refine at_ret1 (ex := .ret) Try.func9 Try.results9 hQ (.inl rfl) rfl ?_ | refine at_ret1 (ex := .normal) Try.func9 Try.results9 hQ (.inr rfl) rfl ?_)
  exact ⟨rfl, rfl, rfl⟩

/-- ahead of a round of World -/
def worldInv (x : B.X) (b2 b3 lb : Nat) (ws : List Nat) (F : List HProp) : Inv (Nat × Value × List (Value × List Nat) × Value × List Value) B.X where
  e := fun i => [(0, .slice (some ⟨lb, 0, none⟩) 3 3), (2, .pointer (some ⟨b2, 0, none⟩)), (3, .pointer (some ⟨b3, 0, none⟩)), (4, .int .i64 (i.1 : Nat))]
  L := fun i => arr b3 0 [i.2.1, i.2.2.2.1] :: vec 1 i.2.1 (i.2.2.1.map (·.1)) :: all (i.2.2.1.map rowT) :: vec 1 i.2.2.2.1 i.2.2.2.2 :: all (i.2.2.2.2.map lstT) :: arr lb 0 (ws.map num) :: arr b2 0 [.slice none 0 0, .slice none 0 0] :: F
  x := fun _ => x
  ok := fun i => i.1 ≤ 3 ∧ i.2.2.1.map (·.2) = (ws.map fun w => [w]).take i.1 ∧ i.2.2.2.2.length = i.1

set_option maxHeartbeats 4000000 in
theorem world_tr {lb : Nat} {ws : List Nat} (h3 : ws.length = 3) (hw : ∀ w ∈ ws, w < 18446744073709551616) (hh : Has L (arr lb 0 (ws.map num)) F) :
    Tr Try.prog B 8 [.slice (some ⟨lb, 0, none⟩) 3 3] L x fun w L' x' => ∃ wv lv, w = .agg #[wv, lv] ∧ L' = wvC wv lv ⟨ws.map fun w => [w], 3⟩ :: F ∧ x' = x := by
  refine Tr.post (R := fun v L' x' => ∃ wv lv, v = .agg #[wv, lv] ∧ x' = x ∧ ∀ h, Star L' h → Star (wvC wv lv ⟨ws.map fun w => [w], 3⟩ :: F) h) ?_
    (by rintro v L' x' ⟨wv, lv, rfl, rfl, hs⟩; exact ⟨_, ⟨wv, lv, rfl, rfl, rfl⟩, hs⟩)
  refine tr_star (arr lb 0 (ws.map num) :: F) (fun h st => hh.star st) ?_
  refine tr_of_body Try.func8 rfl Try.ntmps8 (by simp) fun um Q hQ => ?_
  simp only [argE, Nat.zero_add, Nat.reduceAdd]
  repeat (first
    | (apply wo_mo; apply mo_alloc; exact trivial)
    | refine we_seq ?_
    | (refine we_region _ rfl rfl ?_; simp only [opsOf, List.map_cons, List.map_nil, Option.map_none, Option.map_some, List.getElem?_toArray, List.getElem?_cons_zero, List.getElem?_cons_succ, Option.bind_some, Option.getD_some]))
  rintro v' L' ⟨b2, rfl, rfl⟩
  repeat (first
    | (apply wo_mo; apply mo_alloc; exact trivial)
    | refine we_seq ?_
    | (refine we_region _ rfl rfl ?_; simp only [opsOf, List.map_cons, List.map_nil, Option.map_none, Option.map_some, List.getElem?_toArray, List.getElem?_cons_zero, List.getElem?_cons_succ, Option.bind_some, Option.getD_some])
    | refine wo_nil ?_)
  rintro v' L' ⟨b3, rfl, rfl⟩
  repeat (first
    | refine we_seq ?_
    | (refine we_region _ rfl rfl ?_; simp only [opsOf, List.map_cons, List.map_nil, Option.map_none, Option.map_some, List.getElem?_toArray, List.getElem?_cons_zero, List.getElem?_cons_succ, Option.bind_some, Option.getD_some])
    | refine wo_nil ?_
    | (apply wo_po; apply mo_assign; exact rfl; (first | exact trivial | exact rfl)))
  refine we_block ?_
  refine we_star ((worldInv x b2 b3 lb ws F).L (0, .slice none 0 0, [], .slice none 0 0, [])) (fun h st => ?_) ?_
  · have st2 : Star (arr b3 0 [.slice none 0 0, .slice none 0 0] :: arr lb 0 (ws.map num) :: arr b2 0 [.slice none 0 0, .slice none 0 0] :: F) h := Ent.star (.take .here (.take (.there .here) (.take .here .refl))) st
    refine star_map st2 (fun _ z => z) (fun _ z => vec_nil (star_shut (M := []) (vec_nil (star_shut (M := []) z))))
  refine we_loopN (worldInv x b2 b3 lb ws F) (fun i => 4 - i.1) (0, .slice none 0 0, [], .slice none 0 0, []) ⟨by simp, by simp, by simp⟩ ⟨rfl, rfl, rfl, rfl, trivial⟩ .refl rfl ?_
  rintro ⟨i, ov, nw, lv, lw⟩ ⟨hi, hnw, hlw⟩
  dsimp only [worldInv] at hi hnw hlw ⊢
  by_cases hc : i < 3
  · obtain ⟨wd, hwd⟩ : ∃ z, ws[i]? = some z := ⟨ws[i]'(by omega), by simp⟩
    have hnwl : nw.length = i := by have := congrArg List.length hnw; simp [h3] at this; omega
    refine we_pure (of_has (.there .here) (vec_shape (by omega))) ?_
    rintro ⟨oa, on, oc, rfl, hon, _, _, _⟩
    have honn : on = nw.length := by simpa using hon.symm
    subst honn
    refine we_pure (of_has (.there (.there (.there .here))) (vec_shape (by omega))) ?_
    rintro ⟨la, ln, lc, rfl, hln, _, _, _⟩
    have hlnn : ln = lw.length := by simpa using hln.symm
    subst hlnn
    obtain ⟨G, hG⟩ : ∃ G, G = all (nw.map rowT) :: vec 1 (.slice la lw.length lc) lw :: all (lw.map lstT) :: arr lb 0 (ws.map num) :: arr b2 0 [.slice none 0 0, .slice none 0 0] :: F := ⟨_, rfl⟩
    refine we_star (arr b3 0 [.slice oa nw.length oc, .slice la lw.length lc] :: vec 1 (.slice oa nw.length oc) (nw.map (·.1)) :: G) (fun h st => by rw [hG]; exact st) ?_
    have hrw : Rd (arr b3 0 [.slice oa nw.length oc, .slice la lw.length lc] :: vec 1 (.slice oa nw.length oc) (nw.map (·.1)) :: G) lb i (num wd) := by
      rw [hG]
      refine .there (.there (.there (.there (.there (.row (k := i) (by rw [List.getElem?_map, hwd]; rfl) (by omega))))))
    have hov : ∀ {L : List HProp}, Rd (arr b3 0 [.slice oa nw.length oc, .slice la lw.length lc] :: L) b3 0 (.slice oa nw.length oc) := fun {L} => Rd.row0 rfl
    repeat (first
      | (apply wo_po; apply mo_bin; exact rfl; exact rfl; apply bin_lssT; omega; (first | exact trivial | exact rfl))
      | refine we_seq ?_
      | (refine we_region _ rfl rfl ?_; simp only [opsOf, List.map_cons, List.map_nil, Option.map_none, Option.map_some, List.getElem?_toArray, List.getElem?_cons_zero, List.getElem?_cons_succ, Option.bind_some, Option.getD_some])
      | refine wo_nil ?_
      | (apply wo_po; apply mo_move; exact rfl; (first | exact trivial | exact rfl))
      | (apply wo_po; apply mo_len; exact rfl; (first | exact trivial | exact rfl))
      | (apply we_condT; exact rfl; (first | exact rfl | (simp <;> omega) | omega))
      | refine we_skip ?_
      | refine we_block ?_)
    refine we_draw (List.range' 0 11) (by kernel_rfl) ?_
    repeat (first
      | (apply ap_pure; exact rfl; exact rfl; exact trivial; intro L; apply mo_indexAddr (r := i); exact rfl; exact rfl; omega; omega; omega)
      | (apply ap_read; exact rfl; exact rfl; exact trivial; apply mo_load; exact rfl; exact hrw)
      | (apply ap_pure; exact rfl; exact rfl; (first | exact trivial | exact rfl); intro L; apply mo_move; exact rfl)
      | (apply ap_pure; exact rfl; exact rfl; (first | exact trivial | exact rfl); intro L; apply mo_fieldAddr; exact rfl; exact rfl; (first | exact Nat.zero_add _ | exact rfl))
      | (apply ap_read; exact rfl; exact rfl; (first | exact trivial | exact rfl); apply mo_load; exact rfl; (repeat (first | exact Rd.row0 rfl | exact Rd.row rfl rfl | exact Rd.still | apply Rd.there))))
    refine ap_loudR rfl rfl rfl rfl trivial (mo_buildSlice (sz := 1) (vs := [num wd]) rfl (.cons rfl .nil) rfl (by intro v hv; cases (List.mem_singleton.1 hv); exact rfl) (by omega)) ?_ ?_
    · rintro v L' ⟨sb, rfl, rfl⟩ q hq
      replace hq := (List.mem_filter.1 hq).1
      simp only [List.mem_cons, List.not_mem_nil, or_false] at hq
      rcases hq with rfl | rfl | rfl | rfl | rfl | rfl | rfl <;> first | exact .inl rfl | exact .inr ⟨_, rfl, trivial, mo_load rfl (Rd.there hov)⟩ | exact .inr ⟨_, rfl, trivial, mo_load rfl (Rd.there hrw)⟩
    rintro v L' ⟨rb, rfl, rfl⟩
    refine ap_loudR rfl rfl rfl rfl trivial (mo_buildSlice (sz := 1) (vs := [.slice (some ⟨rb, 0, none⟩) 1 1]) rfl (.cons rfl .nil) rfl (by intro v hv; cases (List.mem_singleton.1 hv); exact rfl) (by omega)) ?_ ?_
    · rintro v L' ⟨sb, rfl, rfl⟩ q hq
      replace hq := (List.mem_filter.1 hq).1
      replace hq := (List.mem_filter.1 hq).1
      simp only [List.mem_cons, List.not_mem_nil, or_false] at hq
      rcases hq with rfl | rfl | rfl | rfl | rfl | rfl | rfl <;> first | exact .inl rfl | exact .inr ⟨_, rfl, trivial, mo_load rfl (Rd.there (Rd.there hov))⟩ | exact .inr ⟨_, rfl, trivial, mo_load rfl (Rd.there (Rd.there hrw))⟩
    rintro v L' ⟨sb, rfl, rfl⟩
    refine ap_loud rfl rfl rfl rfl rfl trivial (mo_append (sz := 1) (new := [.slice (some ⟨rb, 0, none⟩) 1 1]) rfl rfl rfl rfl (.there (.there (.there .here))) rfl (.inr ⟨_, _, rfl, Rds.all .here⟩) (by intro v hv; cases (List.mem_singleton.1 hv); exact rfl) (by simp only [sliceLen]; omega)) ?_
    rintro v' L' rfl
    refine ap_know (of_has .here (vec_shape (by omega))) ?_
    rintro ⟨qa, ql, qc, rfl, _⟩
    repeat (first
      | (apply ap_pure; exact rfl; exact rfl; (first | exact trivial | exact rfl); intro L; apply mo_fieldAddr; exact rfl; exact rfl; (first | exact Nat.zero_add _ | exact rfl)))
    refine ap_loud rfl rfl rfl rfl rfl trivial (mo_store rfl rfl rfl (Wt.row0 (k := 0) (.there (.there (.there .here))) (Nat.succ_pos 1))) ?_
    rintro v' L' ⟨rfl, rfl⟩
    refine ap_end ?_
    rw [hG]
    refine at_star (arr b3 0 [.slice qa ql qc, .slice la lw.length lc] :: vec 1 (.slice la lw.length lc) lw :: vec 1 (.slice qa ql qc) (nw.map (·.1) ++ [.slice (some ⟨rb, 0, none⟩) 1 1]) :: arr rb 0 [num wd] :: all (nw.map rowT) :: all (lw.map lstT) :: arr lb 0 (ws.map num) :: arr b2 0 [.slice none 0 0, .slice none 0 0] :: F) (fun h st => Ent.star (.take (.there (.there (.there .here))) (.take (.there (.there (.there (.there .here)))) (.take .here (.take (.there .here) (.take (.there .here) (.take (.there .here) (.take (.there .here) (.take (.there .here) (.drop .refl))))))))) st) ?_
    have hlv : ∀ {L : List HProp}, Rd (arr b3 0 [.slice qa ql qc, .slice la lw.length lc] :: L) b3 1 (.slice la lw.length lc) := fun {L} => Rd.row (k := 1) rfl rfl
    repeat (first
      | (apply wo_po; apply mo_load; exact rfl; exact hlv; exact trivial)
      | (apply wo_mo; apply mo_buildSlice (sz := 1) (vs := [.slice none 0 0]); exact rfl; (repeat (first | exact EvL.nil | apply EvL.cons rfl)); exact rfl; (repeat (first | exact List.forall_mem_nil _ | refine List.forall_mem_cons.2 ⟨rfl, ?_⟩)); omega; exact trivial)
      | (refine we_region _ rfl rfl ?_; simp only [opsOf, List.map_cons, List.map_nil, Option.map_none, Option.map_some, List.getElem?_toArray, List.getElem?_cons_zero, List.getElem?_cons_succ, Option.bind_some, Option.getD_some])
      | (apply wo_po; apply mo_fieldAddr; exact rfl; exact rfl; (first | exact Nat.zero_add _ | exact rfl); (first | exact trivial | exact rfl)))
    rintro v' L' ⟨nb, rfl, rfl⟩
    repeat (first
      | (apply wo_mo; apply mo_append (sz := 1) (new := [.slice none 0 0]); exact rfl; exact rfl; exact rfl; exact rfl; exact (.there (.there .here)); exact rfl; exact .inr ⟨_, _, rfl, Rds.all .here⟩; (intro v hv; cases (List.mem_singleton.1 hv); exact rfl); (simp only [sliceLen]; omega); exact trivial))
    rintro v' L' rfl
    refine wo_pure (of_has .here (vec_shape (by omega))) ?_
    rintro ⟨ta, tl, tc, rfl, _⟩
    repeat (first
      | (apply wo_pm; apply mo_store; exact rfl; exact rfl; exact rfl; exact (Wt.row0 (k := 1) (.there (.there .here)) (by simp)); exact trivial)
      | (refine we_region _ rfl rfl ?_; simp only [opsOf, List.map_cons, List.map_nil, Option.map_none, Option.map_some, List.getElem?_toArray, List.getElem?_cons_zero, List.getElem?_cons_succ, Option.bind_some, Option.getD_some])
      | refine wo_nil ?_
      | (apply wo_po; apply mo_move; exact rfl; (first | exact trivial | exact rfl))
      | (apply wo_po; apply mo_assign; exact rfl; (first | exact trivial | exact rfl))
      | (apply wo_po; apply mo_fieldAddr; exact rfl; exact rfl; (first | exact Nat.zero_add _ | exact rfl); (first | exact trivial | exact rfl))
      | (apply wo_po; apply mo_bin; exact rfl; exact rfl; apply bin_add; exact wrap_i64 (by omega) (by omega); (first | exact trivial | exact rfl)))
    refine at_roundS (I := worldInv _ b2 b3 lb ws F) (R := fun i' => 4 - i'.1 < 4 - i) (i + 1, .slice qa ql qc, nw ++ [(.slice (some ⟨rb, 0, none⟩) 1 1, [wd])], .slice ta tl tc, lw ++ [.slice none 0 0]) (by simp only; omega) ⟨by simp only; omega, ?_, by simp [hlw]⟩ ⟨rfl, rfl, rfl, rfl, trivial⟩ (fun h st => ?_) rfl
    · simp only [List.map_append, List.map_cons, List.map_nil, hnw]
      rw [List.take_add_one, List.getElem?_map, hwd]; rfl
    · dsimp only [worldInv]
      have s1 : Star (arr rb 0 [num wd] :: all (nw.map rowT) :: all (lw.map lstT) :: arr b3 0 [.slice qa ql qc, .slice ta tl tc] :: vec 1 (.slice qa ql qc) (nw.map (·.1) ++ [.slice (some ⟨rb, 0, none⟩) 1 1]) :: vec 1 (.slice ta tl tc) (lw ++ [.slice none 0 0]) :: arr lb 0 (ws.map num) :: arr b2 0 [.slice none 0 0, .slice none 0 0] :: F) h := Ent.star (.take (.there (.there (.there (.there .here)))) (.take (.there (.there (.there (.there .here)))) (.take (.there (.there (.there (.there .here)))) (.take (.there (.there .here)) (.take (.there (.there .here)) (.take .here (.take (.there .here) (.take (.there .here) (.drop .refl))))))))) st
      have s2 : Star (rowT (.slice (some ⟨rb, 0, none⟩) 1 1, [wd]) :: all (nw.map rowT) :: all (lw.map lstT) :: arr b3 0 [.slice qa ql qc, .slice ta tl tc] :: vec 1 (.slice qa ql qc) (nw.map (·.1) ++ [.slice (some ⟨rb, 0, none⟩) 1 1]) :: vec 1 (.slice ta tl tc) (lw ++ [.slice none 0 0]) :: arr lb 0 (ws.map num) :: arr b2 0 [.slice none 0 0, .slice none 0 0] :: F) h := vec_new (n := 1) (sz := 1) rfl s1
      have s4 := star_swap (star_push s2)
      have s5 : Star (all (lw.map lstT ++ [lstT (.slice none 0 0)]) :: _) h := star_push (c := lstT (.slice none 0 0)) (vec_nil s4)
      simp only [List.map_append, List.map_cons, List.map_nil]
      exact Ent.star (.take (.there (.there .here)) (.take (.there (.there .here)) (.take (.there .here) (.take (.there .here) (.take .here .refl))))) s5
  · have hi' : i = 3 := by omega
    subst hi'
    refine we_pure (of_has (.there .here) (vec_shape (by omega))) ?_
    rintro ⟨oa, on, oc, rfl, _⟩
    refine we_pure (of_has (.there (.there (.there .here))) (vec_shape (by omega))) ?_
    rintro ⟨la, ln, lc, rfl, _⟩
    repeat (first
      | (apply wo_po; apply mo_loadA (vs := [.slice oa on oc, .slice la ln lc]); exact rfl; exact rfl; exact Rds.all .here; exact trivial)
      | (apply wo_pm; apply mo_storeA (b := b2) (c := 0) (k := 0) (a := 0) (vs := [.slice none 0 0, .slice none 0 0]); exact rfl; exact rfl; exact rfl; (intro w hw; simp [Value.cells] at hw; rcases hw with rfl | rfl <;> rfl); exact rfl; exact Nat.le_refl 2; exact (.there (.there (.there (.there (.there (.there .here)))))); exact trivial)
      | (apply wo_po; apply mo_bin; exact rfl; exact rfl; apply bin_lssF; omega; (first | exact trivial | exact rfl))
      | refine we_seq ?_
      | (refine we_region _ rfl rfl ?_; simp only [opsOf, List.map_cons, List.map_nil, Option.map_none, Option.map_some, List.getElem?_toArray, List.getElem?_cons_zero, List.getElem?_cons_succ, Option.bind_some, Option.getD_some])
      | refine wo_nil ?_
      | (apply wo_po; apply mo_move; exact rfl; (first | exact trivial | exact rfl))
      | (apply wo_po; apply mo_len; exact rfl; (first | exact trivial | exact rfl))
      | (apply we_condF; exact rfl; (first | exact rfl | (simp <;> omega) | omega))
      | refine we_ret ?_
      | refine we_exit ?_)
    refine at_leaveM (rs := [.cell 2 36]) Try.func8 Try.results8 hQ (.inl rfl) (.cons (.cell (vs := [.slice oa on oc, .slice la ln lc]) rfl rfl (Rds.all (.there (.there (.there (.there (.there (.there .here)))))))) .nil) ?_
    refine ⟨_, _, rfl, rfl, fun h st => ?_⟩
    have hnw' : nw.map (·.2) = ws.map fun w => [w] := by rw [hnw]; exact List.take_of_length_le (by simp [h3])
    refine wv_shut (wl := nw) (lw := lw) hnw' ?_ hlw (Ent.star (.take (.there (.there (.there .here))) (.take (.there (.there (.there .here))) (.take (.there .here) (.take (.there .here) (.drop (.drop (.drop .refl))))))) st)
    refine ⟨by show (ws.map fun w => [w]).length < 1000000; simp [h3], by show 3 < 1000000; omega, fun l hl => ?_, fun l hl v hv => ?_⟩
    · obtain ⟨w, _, rfl⟩ := List.mem_map.1 hl; show 1 < 1000000; omega
    · obtain ⟨w, hw1, rfl⟩ := List.mem_map.1 hl
      cases (List.mem_singleton.1 hv)
      exact hw _ hw1
end
end Go.Proofs.Ytkgnkloonamheaa
