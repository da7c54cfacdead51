/-
  patchbayref07: Put, Take, Drain.
-/
import Derived.Test.YthghlchcjeocpaaRef7
set_option linter.unusedVariables false
set_option linter.unusedSimpArgs false
namespace Go.Proofs.Ythghlchcjeocpaa
open Go Go.PB
attribute [local irreducible] Mo Bin Eql Tr Wo Ap

section
variable {B : Hand} [Lets B] {L F : List HProp} {x : B.X} {n v : Nat}

/-- a call, out of a list of instructions -/
theorem cl_shut {kv : Value} {cl : Mach.Cl} {cs : List Value} (hc : cs = (cl.code.map inC).flatten) (hd : cl.data = []) {h : Hp} (s : Star (vec 7 kv cs :: L) h) : Star (clC kv (.slice none 0 0) cl :: L) h := by
  subst hc
  refine star_shut (M := [_, _]) ?_
  rw [hd]
  exact star_swap (vec_nil s)

theorem ref_put_tr {u : Nat} (h1 : 1 ≤ n) (hn : n ≤ 1024) : Tr Try.prog B 47 [.int .i64 (n : Nat), .int .u64 (u : Nat)] L x fun w L' x' => ∃ a m c, w = .agg #[.slice a m c, .slice none 0 0] ∧ L' = clC (.slice a m c) (.slice none 0 0) (Mach.qputCl n u) :: L ∧ x' = x := by
  refine Tr.post (R := fun v L' x' => ∃ a m c, v = .agg #[.slice a m c, .slice none 0 0] ∧ x' = x ∧ ∀ h, Star L' h → Star (clC (.slice a m c) (.slice none 0 0) (Mach.qputCl n u) :: L) h) ?_
    (by rintro v L' x' ⟨a, m, c, rfl, rfl, hs⟩; exact ⟨_, ⟨a, m, c, rfl, rfl, rfl⟩, hs⟩)
  refine tr_of_body Try.func47 rfl Try.ntmps47 (by simp) fun um Q hQ => ?_
  simp only [argE, Nat.zero_add, Nat.reduceAdd]
  repeat (first
    | (apply wo_mo; apply mo_alloc; exact trivial)
    | refine we_seq ?_
    | (refine we_region _ rfl rfl ?_; simp only [opsOf, List.map_cons, List.map_nil, Option.map_none, Option.map_some, List.getElem?_toArray, List.getElem?_cons_zero, List.getElem?_cons_succ, Option.bind_some, Option.getD_some]))
  rintro v' L' ⟨cb, rfl, rfl⟩
  repeat (first
    | (apply wo_po; apply mo_buildV; (repeat (first | exact EvL.nil | apply EvL.cons rfl)); exact rfl; exact trivial)
    | (apply wo_mo; apply mo_buildSlice (sz := 7); exact rfl; (repeat (first | exact EvL.nil | apply EvL.cons rfl)); exact rfl; (repeat (first | exact List.forall_mem_nil _ | refine List.forall_mem_cons.2 ⟨rfl, ?_⟩)); omega; exact trivial)
    | refine we_seq ?_
    | (refine we_region _ rfl rfl ?_; simp only [opsOf, List.map_cons, List.map_nil, Option.map_none, Option.map_some, List.getElem?_toArray, List.getElem?_cons_zero, List.getElem?_cons_succ, Option.bind_some, Option.getD_some])
    | refine wo_nil ?_
    | (apply wo_po; apply mo_move; exact rfl; (first | exact trivial | exact rfl)))
  rintro v' L' ⟨kb0, rfl, rfl⟩
  refine wo_star (vec 7 (.slice (some ⟨kb0, 0, none⟩) 1 1) (([⟨6, 0, 0, 0, 0, 0, u⟩] : List Mach.In).map inC).flatten :: arr cb 0 [.slice none 0 0, .slice none 0 0] :: L) (fun h st => vec_new rfl st) ?_
  repeat (first
    | refine we_seq ?_
    | (refine we_region _ rfl rfl ?_; simp only [opsOf, List.map_cons, List.map_nil, Option.map_none, Option.map_some, List.getElem?_toArray, List.getElem?_cons_zero, List.getElem?_cons_succ, Option.bind_some, Option.getD_some])
    | refine wo_nil ?_
    | (apply wo_po; apply mo_move; exact rfl; (first | exact trivial | exact rfl))
    | (apply wo_po; apply mo_assign; exact rfl; (first | exact trivial | exact rfl)))
  refine wo_call (.cons rfl (.cons rfl (.cons rfl (.cons rfl (.cons rfl .nil))))) trivial (put_code_tr (on := 0) (a := 1) h1 hn (by omega) (by omega)) ?_
  rintro v' L' x' ⟨kb, rfl, rfl, rfl⟩
  repeat (first
    | (apply wo_mo; apply mo_append (sz := 7) (new := ((Mach.qputCode 0 n 1).map inC).flatten); exact rfl; exact rfl; exact rfl; exact rfl; exact (.there .here); exact rfl; exact .inr ⟨_, _, rfl, Rds.all .here⟩; exact inC_one; (simp only [sliceLen]; omega); exact trivial))
  rintro v' L' rfl
  refine wo_pure (of_has .here (vec_shape (by omega))) ?_
  rintro ⟨va, vn, vc, rfl, hvn, _⟩
  replace hvn : 126 = vn * 7 := hvn
  repeat (first
    | (apply wo_po; apply mo_buildV; (repeat (first | exact EvL.nil | apply EvL.cons rfl)); exact rfl; exact trivial)
    | (apply wo_mo; apply mo_buildSlice (sz := 7); exact rfl; (repeat (first | exact EvL.nil | apply EvL.cons rfl)); exact rfl; (repeat (first | exact List.forall_mem_nil _ | refine List.forall_mem_cons.2 ⟨rfl, ?_⟩)); omega; exact trivial)
    | refine we_seq ?_
    | (refine we_region _ rfl rfl ?_; simp only [opsOf, List.map_cons, List.map_nil, Option.map_none, Option.map_some, List.getElem?_toArray, List.getElem?_cons_zero, List.getElem?_cons_succ, Option.bind_some, Option.getD_some])
    | refine wo_nil ?_
    | (apply wo_po; apply mo_move; exact rfl; (first | exact trivial | exact rfl))
    | (apply wo_po; apply mo_assign; exact rfl; (first | exact trivial | exact rfl)))
  rintro v'' L' ⟨kb2, rfl, rfl⟩
  repeat (first
    | (apply wo_mo; apply mo_append (sz := 7) (new := (([(⟨22, 0, 1, 0, 0, 0, 0⟩ : Mach.In)]).map inC).flatten); exact rfl; exact rfl; exact rfl; exact rfl; exact (.there .here); exact rfl; exact .inr ⟨_, _, rfl, Rds.all .here⟩; exact inC_one; (simp only [sliceLen]; omega); exact trivial))
  rintro v'' L' rfl
  refine wo_pure (of_has .here (vec_shape (by omega))) ?_
  rintro ⟨qa, qn, qc, rfl, hqn, _⟩
  repeat (first
    | (apply wo_po; apply mo_buildV; (repeat (first | exact EvL.nil | apply EvL.cons rfl)); exact rfl; exact trivial)
    | (apply wo_pm; apply mo_storeA (b := cb) (c := 0) (k := 0) (a := 0) (vs := [.slice none 0 0, .slice none 0 0]); exact rfl; exact rfl; exact rfl; (intro w hw; simp [Value.cells] at hw; rcases hw with rfl | rfl <;> rfl); exact rfl; exact Nat.le_refl 2; exact (.there (.there (.there .here))); exact trivial)
    | refine wo_nil ?_
    | refine we_ret ?_)
  refine at_leaveM (rs := [.cell 4 57]) Try.func47 Try.results47 hQ (.inl rfl) (.cons (.cell (vs := [.slice qa qn qc, .slice none 0 0]) rfl rfl (Rds.all (.there (.there (.there .here))))) .nil) ?_
  refine ⟨qa, qn, qc, rfl, rfl, fun h st => ?_⟩
  refine cl_shut (cl := Mach.qputCl n u) ?_ rfl (Ent.star (.take .here (.drop (.drop (.drop .refl)))) st)
  rfl

theorem ref_take_tr (h1 : 1 ≤ n) (hn : n ≤ 1024) : Tr Try.prog B 48 [.int .i64 (n : Nat)] L x fun w L' x' => ∃ a m c, w = .agg #[.slice a m c, .slice none 0 0] ∧ L' = clC (.slice a m c) (.slice none 0 0) (Mach.qtakeCl n) :: L ∧ x' = x := by
  refine Tr.post (R := fun v L' x' => ∃ a m c, v = .agg #[.slice a m c, .slice none 0 0] ∧ x' = x ∧ ∀ h, Star L' h → Star (clC (.slice a m c) (.slice none 0 0) (Mach.qtakeCl n) :: L) h) ?_
    (by rintro v L' x' ⟨a, m, c, rfl, rfl, hs⟩; exact ⟨_, ⟨a, m, c, rfl, rfl, rfl⟩, hs⟩)
  refine tr_of_body Try.func48 rfl Try.ntmps48 (by simp) fun um Q hQ => ?_
  simp only [argE, Nat.zero_add, Nat.reduceAdd]
  repeat (first
    | (apply wo_mo; apply mo_alloc; exact trivial)
    | refine we_seq ?_
    | (refine we_region _ rfl rfl ?_; simp only [opsOf, List.map_cons, List.map_nil, Option.map_none, Option.map_some, List.getElem?_toArray, List.getElem?_cons_zero, List.getElem?_cons_succ, Option.bind_some, Option.getD_some]))
  rintro v' L' ⟨cb, rfl, rfl⟩
  repeat (first
    | refine we_seq ?_
    | (refine we_region _ rfl rfl ?_; simp only [opsOf, List.map_cons, List.map_nil, Option.map_none, Option.map_some, List.getElem?_toArray, List.getElem?_cons_zero, List.getElem?_cons_succ, Option.bind_some, Option.getD_some])
    | refine wo_nil ?_
    | (apply wo_po; apply mo_move; exact rfl; (first | exact trivial | exact rfl)))
  refine wo_call (.cons rfl (.cons rfl (.cons rfl (.cons rfl (.cons rfl .nil))))) trivial (take_code_tr (on := 0) (a := 0) h1 hn (by omega) (by omega)) ?_
  rintro v' L' x' ⟨kb, rfl, rfl, rfl⟩
  refine wo_star (vec 7 (.slice (some ⟨kb, 0, none⟩) 19 19) ((Mach.qtakeCode 0 n 0).map inC).flatten :: arr cb 0 [.slice none 0 0, .slice none 0 0] :: L) (fun h st => vec_new rfl st) ?_
  repeat (first
    | (apply wo_po; apply mo_buildV; (repeat (first | exact EvL.nil | apply EvL.cons rfl)); exact rfl; exact trivial)
    | (apply wo_mo; apply mo_buildSlice (sz := 7); exact rfl; (repeat (first | exact EvL.nil | apply EvL.cons rfl)); exact rfl; (repeat (first | exact List.forall_mem_nil _ | refine List.forall_mem_cons.2 ⟨rfl, ?_⟩)); omega; exact trivial)
    | refine we_seq ?_
    | (refine we_region _ rfl rfl ?_; simp only [opsOf, List.map_cons, List.map_nil, Option.map_none, Option.map_some, List.getElem?_toArray, List.getElem?_cons_zero, List.getElem?_cons_succ, Option.bind_some, Option.getD_some])
    | refine wo_nil ?_
    | (apply wo_po; apply mo_move; exact rfl; (first | exact trivial | exact rfl))
    | (apply wo_po; apply mo_assign; exact rfl; (first | exact trivial | exact rfl)))
  rintro v'' L' ⟨kb2, rfl, rfl⟩
  repeat (first
    | (apply wo_mo; apply mo_append (sz := 7) (new := (([(⟨22, 0, 0, 0, 0, 0, 0⟩ : Mach.In), ⟨22, 0, 1, 0, 0, 0, 0⟩]).map inC).flatten); exact rfl; exact rfl; exact rfl; exact rfl; exact (.there .here); exact rfl; exact .inr ⟨_, _, rfl, Rds.all .here⟩; exact inC_one; (simp only [sliceLen]; omega); exact trivial))
  rintro v'' L' rfl
  refine wo_pure (of_has .here (vec_shape (by omega))) ?_
  rintro ⟨qa, qn, qc, rfl, hqn, _⟩
  repeat (first
    | (apply wo_po; apply mo_buildV; (repeat (first | exact EvL.nil | apply EvL.cons rfl)); exact rfl; exact trivial)
    | (apply wo_pm; apply mo_storeA (b := cb) (c := 0) (k := 0) (a := 0) (vs := [.slice none 0 0, .slice none 0 0]); exact rfl; exact rfl; exact rfl; (intro w hw; simp [Value.cells] at hw; rcases hw with rfl | rfl <;> rfl); exact rfl; exact Nat.le_refl 2; exact (.there (.there .here)); exact trivial)
    | refine wo_nil ?_
    | refine we_ret ?_)
  refine at_leaveM (rs := [.cell 2 57]) Try.func48 Try.results48 hQ (.inl rfl) (.cons (.cell (vs := [.slice qa qn qc, .slice none 0 0]) rfl rfl (Rds.all (.there (.there .here)))) .nil) ?_
  refine ⟨qa, qn, qc, rfl, rfl, fun h st => ?_⟩
  refine cl_shut (cl := Mach.qtakeCl n) ?_ rfl (Ent.star (.take .here (.drop (.drop .refl))) st)
  rfl

theorem ref_drain_tr (h1 : 1 ≤ n) (hn : n ≤ 1024) : Tr Try.prog B 49 [.int .i64 (n : Nat)] L x fun w L' x' => ∃ a m c, w = .agg #[.slice a m c, .slice none 0 0] ∧ L' = clC (.slice a m c) (.slice none 0 0) (Mach.qdrainCl n) :: L ∧ x' = x := by
  refine Tr.post (R := fun v L' x' => ∃ a m c, v = .agg #[.slice a m c, .slice none 0 0] ∧ x' = x ∧ ∀ h, Star L' h → Star (clC (.slice a m c) (.slice none 0 0) (Mach.qdrainCl n) :: L) h) ?_
    (by rintro v L' x' ⟨a, m, c, rfl, rfl, hs⟩; exact ⟨_, ⟨a, m, c, rfl, rfl, rfl⟩, hs⟩)
  refine tr_of_body Try.func49 rfl Try.ntmps49 (by simp) fun um Q hQ => ?_
  simp only [argE, Nat.zero_add, Nat.reduceAdd]
  repeat (first
    | (apply wo_mo; apply mo_alloc; exact trivial)
    | refine we_seq ?_
    | (refine we_region _ rfl rfl ?_; simp only [opsOf, List.map_cons, List.map_nil, Option.map_none, Option.map_some, List.getElem?_toArray, List.getElem?_cons_zero, List.getElem?_cons_succ, Option.bind_some, Option.getD_some]))
  rintro v' L' ⟨cb, rfl, rfl⟩
  repeat (first
    | (apply wo_po; apply mo_buildV; (repeat (first | exact EvL.nil | apply EvL.cons rfl)); exact rfl; exact trivial)
    | (apply wo_mo; apply mo_buildSlice (sz := 7); exact rfl; (repeat (first | exact EvL.nil | apply EvL.cons rfl)); exact rfl; (repeat (first | exact List.forall_mem_nil _ | refine List.forall_mem_cons.2 ⟨rfl, ?_⟩)); omega; exact trivial)
    | refine we_seq ?_
    | (refine we_region _ rfl rfl ?_; simp only [opsOf, List.map_cons, List.map_nil, Option.map_none, Option.map_some, List.getElem?_toArray, List.getElem?_cons_zero, List.getElem?_cons_succ, Option.bind_some, Option.getD_some])
    | refine wo_nil ?_
    | (apply wo_po; apply mo_move; exact rfl; (first | exact trivial | exact rfl))
    | (apply wo_po; apply mo_conv; exact rfl; (first | exact wrap_i64 (by omega) (by omega) | exact wrap_u64 (by omega) (by omega)); (first | exact trivial | exact rfl)))
  rintro v' L' ⟨kb0, rfl, rfl⟩
  refine wo_star (vec 7 (.slice (some ⟨kb0, 0, none⟩) 1 1) (([⟨6, 0, 3, 0, 0, 0, n⟩] : List Mach.In).map inC).flatten :: arr cb 0 [.slice none 0 0, .slice none 0 0] :: L) (fun h st => vec_new rfl st) ?_
  repeat (first
    | refine we_seq ?_
    | (refine we_region _ rfl rfl ?_; simp only [opsOf, List.map_cons, List.map_nil, Option.map_none, Option.map_some, List.getElem?_toArray, List.getElem?_cons_zero, List.getElem?_cons_succ, Option.bind_some, Option.getD_some])
    | refine wo_nil ?_
    | (apply wo_po; apply mo_move; exact rfl; (first | exact trivial | exact rfl))
    | (apply wo_po; apply mo_assign; exact rfl; (first | exact trivial | exact rfl)))
  refine wo_call (.cons rfl (.cons rfl (.cons rfl (.cons rfl (.cons rfl .nil))))) trivial (take_code_tr (on := 0) (a := 1) h1 hn (by omega) (by omega)) ?_
  rintro v' L' x' ⟨kb, rfl, rfl, rfl⟩
  repeat (first
    | (apply wo_mo; apply mo_append (sz := 7) (new := ((Mach.qtakeCode 0 n 1).map inC).flatten); exact rfl; exact rfl; exact rfl; exact rfl; exact (.there .here); exact rfl; exact .inr ⟨_, _, rfl, Rds.all .here⟩; exact inC_one; (simp only [sliceLen]; omega); exact trivial))
  rintro v' L' rfl
  refine wo_pure (of_has .here (vec_shape (by omega))) ?_
  rintro ⟨va, vn, vc, rfl, hvn, _⟩
  replace hvn : 140 = vn * 7 := hvn
  repeat (first
    | (apply wo_po; apply mo_buildV; (repeat (first | exact EvL.nil | apply EvL.cons rfl)); exact rfl; exact trivial)
    | (apply wo_mo; apply mo_buildSlice (sz := 7); exact rfl; (repeat (first | exact EvL.nil | apply EvL.cons rfl)); exact rfl; (repeat (first | exact List.forall_mem_nil _ | refine List.forall_mem_cons.2 ⟨rfl, ?_⟩)); omega; exact trivial)
    | refine we_seq ?_
    | (refine we_region _ rfl rfl ?_; simp only [opsOf, List.map_cons, List.map_nil, Option.map_none, Option.map_some, List.getElem?_toArray, List.getElem?_cons_zero, List.getElem?_cons_succ, Option.bind_some, Option.getD_some])
    | refine wo_nil ?_
    | (apply wo_po; apply mo_move; exact rfl; (first | exact trivial | exact rfl))
    | (apply wo_po; apply mo_assign; exact rfl; (first | exact trivial | exact rfl)))
  rintro v'' L' ⟨kb2, rfl, rfl⟩
  repeat (first
    | (apply wo_mo; apply mo_append (sz := 7) (new := (([(⟨19, 0, 1, 9, 0, 0, 25⟩ : Mach.In), ⟨22, 0, 0, 0, 0, 0, 0⟩, ⟨6, 0, 4, 0, 0, 0, 1⟩, ⟨9, 0, 3, 3, 4, 0, 0⟩, ⟨20, 0, 9, 3, 0, 0, 1⟩]).map inC).flatten); exact rfl; exact rfl; exact rfl; exact rfl; exact (.there .here); exact rfl; exact .inr ⟨_, _, rfl, Rds.all .here⟩; exact inC_one; (simp only [sliceLen]; omega); exact trivial))
  rintro v'' L' rfl
  refine wo_pure (of_has .here (vec_shape (by omega))) ?_
  rintro ⟨qa, qn, qc, rfl, hqn, _⟩
  repeat (first
    | (apply wo_po; apply mo_buildV; (repeat (first | exact EvL.nil | apply EvL.cons rfl)); exact rfl; exact trivial)
    | (apply wo_pm; apply mo_storeA (b := cb) (c := 0) (k := 0) (a := 0) (vs := [.slice none 0 0, .slice none 0 0]); exact rfl; exact rfl; exact rfl; (intro w hw; simp [Value.cells] at hw; rcases hw with rfl | rfl <;> rfl); exact rfl; exact Nat.le_refl 2; exact (.there (.there (.there .here))); exact trivial)
    | refine we_seq ?_
    | (refine we_region _ rfl rfl ?_; simp only [opsOf, List.map_cons, List.map_nil, Option.map_none, Option.map_some, List.getElem?_toArray, List.getElem?_cons_zero, List.getElem?_cons_succ, Option.bind_some, Option.getD_some])
    | refine wo_nil ?_
    | (apply wo_po; apply mo_move; exact rfl; (first | exact trivial | exact rfl))
    | (apply wo_po; apply mo_assign; exact rfl; (first | exact trivial | exact rfl))
    | refine we_ret ?_)
  refine at_leaveM (rs := [.cell 2 57]) Try.func49 Try.results49 hQ (.inl rfl) (.cons (.cell (vs := [.slice qa qn qc, .slice none 0 0]) rfl rfl (Rds.all (.there (.there (.there .here))))) .nil) ?_
  refine ⟨qa, qn, qc, rfl, rfl, fun h st => ?_⟩
  refine cl_shut (cl := Mach.qdrainCl n) ?_ rfl (Ent.star (.take .here (.drop (.drop (.drop .refl)))) st)
  rfl

end
end Go.Proofs.Ythghlchcjeocpaa
