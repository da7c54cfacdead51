/-
  patchbayref00's thread.next.
-/
import Derived.Test.YtmkkanmkjfnpdaaMach2
import Derived.Test.YtmkkanmkjfnpdaaFt
set_option linter.unusedVariables false
set_option linter.unusedSimpArgs false
namespace Go.Proofs.Ytmkkanmkjfnpdaa
open Go Go.PB
attribute [local irreducible] Mo Bin Eql Tr Wo Ap

variable {B : Hand} [Lets B] {L F : List HProp} {x : B.X}

/-- an instruction's cells -/
def inC (x : Mach.In) : List Value := [.int .i64 (x.op : Nat), .int .i64 (x.on : Nat), .int .i64 (x.a : Nat), .int .i64 (x.b : Nat), .int .i64 (x.c : Nat), .int .i64 (x.d : Nat), .int .u64 (x.n : Nat)]

theorem next_tr {tb cb co ncalls ccap call pc kc : Nat} {kp : Option Addr} {code : List Mach.In} (r0 : Rd L tb 0 (.slice (some ⟨cb, co, none⟩) ncalls ccap)) (r1 : Rd L tb 1 (.int .i64 call)) (r2 : Rd L tb 2 (.int .i64 pc)) (hcall : call < ncalls)
    (rc : Rd L cb (co + 2 * call) (.slice kp code.length kc)) (rk : ∀ y, code[pc]? = some y → ∃ kb ko, kp = some ⟨kb, ko, none⟩ ∧ Rds L kb (ko + 7 * pc) (inC y)) :
    Tr Try.prog B 90 [.pointer (some ⟨tb, 0, none⟩)] L x fun v L' x' => v = .agg (inC (code.getD pc Mach.fin)).toArray ∧ L' = L ∧ x' = x := by
  refine Tr.post (R := fun v L' x' => ∃ c, v = .agg (inC (code.getD pc Mach.fin)).toArray ∧ L' = c :: L ∧ x' = x) ?_ (by rintro v L' x' ⟨c, rfl, rfl, rfl⟩; exact ⟨L, ⟨rfl, rfl, rfl⟩, fun h s => star_drop s⟩)
  by_cases hc : pc < code.length
  · obtain ⟨y, hy⟩ : ∃ y, code[pc]? = some y := ⟨code[pc]'hc, by simp [hc]⟩
    obtain ⟨kb, ko, rfl, hr⟩ := rk y hy
    refine tr_of_body Try.func90 rfl Try.ntmps90 (by simp) fun um Q hQ => ?_
    simp only [argE, Nat.zero_add, Nat.reduceAdd]
    repeat (first
      | (apply wo_mo; apply mo_alloc; exact trivial)
      | refine we_seq ?_
      | (refine we_region _ rfl rfl ?_; simp only [opsOf, List.map_cons, List.map_nil, Option.map_none, Option.map_some, List.getElem?_toArray, List.getElem?_cons_zero, List.getElem?_cons_succ, Option.bind_some, Option.getD_some]))
    rintro v' L' ⟨rb, rfl, rfl⟩
    repeat (first
      | refine we_seq ?_
      | refine wo_nil ?_)
    refine we_draw [0, 1, 2, 3, 4, 5, 6, 7, 8, 9, 10, 11] (by kernel_rfl) ?_
    repeat (first
      | (apply ap_read; exact rfl; exact rfl; exact trivial; apply mo_load; exact rfl; exact Rd.there r0)
      | (apply ap_read; exact rfl; exact rfl; exact trivial; apply mo_load; exact rfl; exact Rd.there r1)
      | (apply ap_read; exact rfl; exact rfl; exact trivial; apply mo_load; exact rfl; exact Rd.there rc)
      | (apply ap_pure; exact rfl; exact rfl; exact trivial; intro L; apply mo_indexAddr (r := co + 2 * call); exact rfl; exact rfl; omega; omega; omega)
      | (apply ap_pure; exact rfl; exact rfl; (first | exact trivial | exact rfl); intro L; apply mo_move; exact rfl)
      | (apply ap_pure; exact rfl; exact rfl; (first | exact trivial | exact rfl); intro L; apply mo_assign; exact rfl)
      | (apply ap_pure; exact rfl; exact rfl; (first | exact trivial | exact rfl); intro L; apply mo_nilCheck; exact rfl)
      | (apply ap_pure; exact rfl; exact rfl; (first | exact trivial | exact rfl); intro L; apply mo_fieldAddr; exact rfl; exact rfl; (first | exact Nat.zero_add _ | exact rfl))
      | refine ap_end ?_)
    repeat (first
      | (apply wo_po; apply mo_load; exact rfl; exact Rd.there r2; (first | exact trivial | exact rfl))
      | (apply wo_po; apply mo_indexAddr (r := ko + 7 * pc); exact rfl; exact rfl; omega; omega; omega; exact trivial)
      | (apply wo_po; apply mo_loadA (vs := inC y); exact rfl; exact rfl; exact fun i v hi => Rd.there (hr i v hi); exact trivial)
      | (apply wo_po; apply mo_bin; exact rfl; exact rfl; apply bin_lssF; omega; (first | exact trivial | exact rfl))
      | (apply wo_po; apply mo_bin; exact rfl; exact rfl; apply bin_geqF; omega; (first | exact trivial | exact rfl))
      | refine we_seq ?_
      | (refine we_region _ rfl rfl ?_; simp only [opsOf, List.map_cons, List.map_nil, Option.map_none, Option.map_some, List.getElem?_toArray, List.getElem?_cons_zero, List.getElem?_cons_succ, Option.bind_some, Option.getD_some])
      | refine wo_nil ?_
      | (apply wo_po; apply mo_move; exact rfl; (first | exact trivial | exact rfl))
      | (apply wo_po; apply mo_pickF; exact rfl; exact rfl; exact rfl; (first | exact trivial | exact rfl))
      | (apply wo_po; apply mo_nilCheck; exact rfl; (first | exact trivial | exact rfl))
      | (apply wo_po; apply mo_fieldAddr; exact rfl; exact rfl; (first | exact Nat.zero_add _ | exact rfl); (first | exact trivial | exact rfl))
      | (apply wo_po; apply mo_len; exact rfl; (first | exact trivial | exact rfl))
      | (apply we_condF; exact rfl; (first | exact rfl | (simp <;> omega) | omega))
      | refine we_skip ?_)
    repeat (first
      | (apply wo_pm; apply mo_storeA (c := 0) (k := 0) (a := 0) (vs := inC { op := 0 }) (v := .agg (inC y).toArray); exact rfl; exact rfl; exact rfl; (intro w hw; simp [Value.cells, inC] at hw; rcases hw with rfl | rfl | rfl | rfl | rfl | rfl | rfl <;> rfl); exact rfl; exact Nat.le_refl 7; exact .here; exact trivial)
      | refine wo_nil ?_
      | refine we_ret ?_)
    refine at_leaveM (rs := [.cell 2 161]) Try.func90 Try.results90 hQ (.inl rfl) (.cons (.cell (vs := inC y) rfl rfl (Rds.all .here)) .nil) ?_
    exact ⟨_, by simp [packR, hy], rfl, rfl⟩
  · refine tr_of_body Try.func90 rfl Try.ntmps90 (by simp) fun um Q hQ => ?_
    simp only [argE, Nat.zero_add, Nat.reduceAdd]
    repeat (first
      | (apply wo_mo; apply mo_alloc; exact trivial)
      | refine we_seq ?_
      | (refine we_region _ rfl rfl ?_; simp only [opsOf, List.map_cons, List.map_nil, Option.map_none, Option.map_some, List.getElem?_toArray, List.getElem?_cons_zero, List.getElem?_cons_succ, Option.bind_some, Option.getD_some]))
    rintro v' L' ⟨rb, rfl, rfl⟩
    repeat (first
      | refine we_seq ?_
      | refine wo_nil ?_)
    refine we_draw [0, 1, 2, 3, 4, 5, 6, 7, 8, 9, 10, 11] (by kernel_rfl) ?_
    repeat (first
      | (apply ap_read; exact rfl; exact rfl; exact trivial; apply mo_load; exact rfl; exact Rd.there r0)
      | (apply ap_read; exact rfl; exact rfl; exact trivial; apply mo_load; exact rfl; exact Rd.there r1)
      | (apply ap_read; exact rfl; exact rfl; exact trivial; apply mo_load; exact rfl; exact Rd.there rc)
      | (apply ap_pure; exact rfl; exact rfl; exact trivial; intro L; apply mo_indexAddr (r := co + 2 * call); exact rfl; exact rfl; omega; omega; omega)
      | (apply ap_pure; exact rfl; exact rfl; (first | exact trivial | exact rfl); intro L; apply mo_move; exact rfl)
      | (apply ap_pure; exact rfl; exact rfl; (first | exact trivial | exact rfl); intro L; apply mo_assign; exact rfl)
      | (apply ap_pure; exact rfl; exact rfl; (first | exact trivial | exact rfl); intro L; apply mo_nilCheck; exact rfl)
      | (apply ap_pure; exact rfl; exact rfl; (first | exact trivial | exact rfl); intro L; apply mo_fieldAddr; exact rfl; exact rfl; (first | exact Nat.zero_add _ | exact rfl))
      | refine ap_end ?_)
    repeat (first
      | (apply wo_po; apply mo_load; exact rfl; exact Rd.there r2; (first | exact trivial | exact rfl))
      | (apply wo_po; apply mo_bin; exact rfl; exact rfl; apply bin_lssF; omega; (first | exact trivial | exact rfl))
      | (apply wo_po; apply mo_bin; exact rfl; exact rfl; apply bin_geqT; omega; (first | exact trivial | exact rfl))
      | refine we_seq ?_
      | (refine we_region _ rfl rfl ?_; simp only [opsOf, List.map_cons, List.map_nil, Option.map_none, Option.map_some, List.getElem?_toArray, List.getElem?_cons_zero, List.getElem?_cons_succ, Option.bind_some, Option.getD_some])
      | refine wo_nil ?_
      | (apply wo_po; apply mo_move; exact rfl; (first | exact trivial | exact rfl))
      | (apply wo_po; apply mo_pickF; exact rfl; exact rfl; exact rfl; (first | exact trivial | exact rfl))
      | (apply wo_po; apply mo_nilCheck; exact rfl; (first | exact trivial | exact rfl))
      | (apply wo_po; apply mo_fieldAddr; exact rfl; exact rfl; (first | exact Nat.zero_add _ | exact rfl); (first | exact trivial | exact rfl))
      | (apply wo_po; apply mo_len; exact rfl; (first | exact trivial | exact rfl))
      | (apply we_condT; exact rfl; (first | exact rfl | (simp <;> omega) | omega)))
    repeat (first
      | (apply wo_po; apply mo_build (pv := [(0, _)]); exact rfl; exact .cons rfl .nil; exact rfl; exact trivial)
      | (apply wo_pm; apply mo_storeA (c := 0) (k := 0) (a := 0) (vs := inC { op := 0 }) (v := .agg (inC Mach.fin).toArray); exact rfl; exact rfl; exact rfl; (intro w hw; simp [Value.cells, inC] at hw; rcases hw with rfl | rfl | rfl | rfl | rfl | rfl | rfl <;> rfl); exact rfl; exact Nat.le_refl 7; exact .here; exact trivial)
      | refine wo_nil ?_
      | refine we_ret ?_)
    refine at_leaveM (rs := [.cell 2 161]) Try.func90 Try.results90 hQ (.inl rfl) (.cons (.cell (vs := inC Mach.fin) rfl rfl (Rds.all .here)) .nil) ?_
    exact ⟨_, by simp [packR, hc], rfl, rfl⟩

end Go.Proofs.Ytmkkanmkjfnpdaa
