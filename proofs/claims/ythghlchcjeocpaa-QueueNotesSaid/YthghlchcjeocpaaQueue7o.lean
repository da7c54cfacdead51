/-
  patchbaylaw07: done, call (over whatever access).
-/
import Derived.Test.YthghlchcjeocpaaRef7b
import Derived.Test.YthghlchcjeocpaaQueue2
import Derived.Test.YthghlchcjeocpaaQueue7n
import Derived.Test.YthghlchcjeocpaaRef
set_option linter.unusedVariables false
set_option linter.unusedSimpArgs false
namespace Go.Proofs.Ythghlchcjeocpaa
open Go Go.PB
attribute [local irreducible] Mo Bin Eql Tr Wo Ap

section
variable {B : Hand} [Lets B] {gv : Value} {A : Acc B gv} {r b n k : Nat} {L F : List HProp} {x : B.X}

theorem done_tr (R : QueueAt A r b n k) {kind : Int} {kd v : Nat} (hk : -9223372036854775808 ≤ kind ∧ kind ≤ 9223372036854775807) (hkd : kind % 3 = kd) (hv : v < 18446744073709551616) {s : A.S} {Q : List Nat → A.S → Prop} (hs : DoneT A n kd v s Q) (hh : Has L (A.C s) F) :
    Tr Try.prog B 21 [.pointer (some ⟨r, 0, none⟩), gv, .agg #[.int .i64 kind, .int .u64 (v : Nat)]] L (A.x s) fun w L' x' => ∃ told s' bv, Q told s' ∧ w = .tuple #[bv, .int .i64 0] ∧ L' = vec 1 bv (told.map num) :: A.C s' :: F ∧ x' = A.x s' := by
  refine Tr.post (R := fun w L' x' => ∃ told s' bv, Q told s' ∧ w = .tuple #[bv, .int .i64 0] ∧ x' = A.x s' ∧ ∀ h, Star L' h → Star (vec 1 bv (told.map num) :: A.C s' :: F) h) ?_
    (by rintro v L' x' ⟨told, s', bv, h1, rfl, rfl, hs⟩; exact ⟨_, ⟨told, s', bv, h1, rfl, rfl, rfl⟩, hs⟩)
  have hle : n ≤ 1024 := by rw [R.hn]; exact pow_le R.hk
  unfold DoneT at hs
  refine tr_of_body Try.func21 rfl Try.ntmps21 (by simp) fun um Q hQ => ?_
  simp only [argE, Nat.zero_add, Nat.reduceAdd]
  repeat (first
    | (apply wo_mo; apply mo_box; exact rfl; exact trivial)
    | refine we_seq ?_
    | (refine we_region _ rfl rfl ?_; simp only [opsOf, List.map_cons, List.map_nil, Option.map_none, Option.map_some, List.getElem?_toArray, List.getElem?_cons_zero, List.getElem?_cons_succ, Option.bind_some, Option.getD_some]))
  rintro v' L' ⟨cb, rfl, rfl⟩
  refine wo_ent (arr cb 0 [.int .i64 kind, .int .u64 (v : Nat)] :: L) .refl ?_
  repeat (first
    | refine we_seq ?_
    | (refine we_region _ rfl rfl ?_; simp only [opsOf, List.map_cons, List.map_nil, Option.map_none, Option.map_some, List.getElem?_toArray, List.getElem?_cons_zero, List.getElem?_cons_succ, Option.bind_some, Option.getD_some])
    | refine wo_nil ?_
    | (apply wo_po; apply mo_assign; exact rfl; (first | exact trivial | exact rfl))
    | (apply wo_po; apply mo_fieldAddr; exact rfl; exact rfl; (first | exact Nat.zero_add _ | exact rfl); (first | exact trivial | exact rfl))
    | (apply wo_po; apply mo_load; exact rfl; (repeat (first | exact Rd.row0 rfl | exact Rd.row rfl rfl | exact Rd.still | apply Rd.there)); (first | exact trivial | exact rfl)))
  refine wo_call (.cons rfl (.cons rfl .nil)) trivial (within_tr hk (by omega)) ?_
  rintro v' L' x' ⟨rfl, rfl, rfl⟩
  rw [hkd]
  by_cases k0 : kd = 0
  · rw [if_pos k0] at hs
    repeat (first
      | (apply wo_po; apply mo_bin; exact rfl; exact rfl; apply bin_eqlT; omega; (first | exact trivial | exact rfl))
      | refine we_seq ?_
      | (refine we_region _ rfl rfl ?_; simp only [opsOf, List.map_cons, List.map_nil, Option.map_none, Option.map_some, List.getElem?_toArray, List.getElem?_cons_zero, List.getElem?_cons_succ, Option.bind_some, Option.getD_some])
      | refine wo_nil ?_
      | (apply wo_po; apply mo_move; exact rfl; (first | exact trivial | exact rfl))
      | (apply wo_po; apply mo_assign; exact rfl; (first | exact trivial | exact rfl))
      | (apply wo_po; apply mo_fieldAddr; exact rfl; exact rfl; (first | exact Nat.zero_add _ | exact rfl); (first | exact trivial | exact rfl))
      | (apply wo_po; apply mo_load; exact rfl; (repeat (first | exact Rd.row0 rfl | exact Rd.row rfl rfl | exact Rd.still | apply Rd.there)); (first | exact trivial | exact rfl))
      | (apply we_condT; exact rfl; (first | exact rfl | (simp <;> omega) | omega))
      | refine we_block ?_)
    refine wo_call (.cons rfl (.cons rfl (.cons rfl .nil))) trivial (put_tr R hv hs (.there hh)) ?_
    rintro v' L' x' ⟨q, s', h1, rfl, rfl, rfl⟩
    repeat (first
      | refine we_seq ?_
      | (refine we_region _ rfl rfl ?_; simp only [opsOf, List.map_cons, List.map_nil, Option.map_none, Option.map_some, List.getElem?_toArray, List.getElem?_cons_zero, List.getElem?_cons_succ, Option.bind_some, Option.getD_some])
      | refine wo_nil ?_
      | (apply wo_po; apply mo_move; exact rfl; (first | exact trivial | exact rfl))
      | (apply wo_po; apply mo_assign; exact rfl; (first | exact trivial | exact rfl))
      | (apply wo_po; apply mo_extract; exact rfl; exact rfl; (first | exact trivial | exact rfl)))
    refine wo_call (.cons rfl .nil) trivial yes_tr ?_
    rintro v' L' x' ⟨rfl, rfl, rfl⟩
    repeat (first
      | (apply wo_mo; apply mo_buildSlice (sz := 1) (vs := [num (yes q)]); exact rfl; exact .cons rfl .nil; exact rfl; (intro v hv; cases (List.mem_singleton.1 hv); exact rfl); omega; exact trivial))
    rintro v' L' ⟨vb, rfl, rfl⟩
    repeat (first
      | refine wo_nil ?_
      | (apply wo_po; apply mo_move; exact rfl; (first | exact trivial | exact rfl))
      | (apply wo_po; apply mo_assign; exact rfl; (first | exact trivial | exact rfl))
      | refine we_ret ?_)
    (first | refine at_ret2 (ex := .ret) Try.func21 Try.results21 hQ (.inl rfl) rfl rfl ?_ | refine at_ret2 (ex := .normal) Try.func21 Try.results21 hQ (.inr rfl) rfl rfl ?_)
    refine ⟨[yes q], s', _, h1, rfl, rfl, fun h st => ?_⟩
    exact vec_new (n := 1) rfl (Ent.star (.take .here (.take .here (.drop .refl))) st)
  · rw [if_neg k0] at hs
    by_cases k1 : kd = 1
    · rw [if_pos k1] at hs
      repeat (first
        | (apply wo_po; apply mo_bin; exact rfl; exact rfl; apply bin_eqlT; omega; (first | exact trivial | exact rfl))
        | (apply wo_po; apply mo_bin; exact rfl; exact rfl; apply bin_eqlF; omega; (first | exact trivial | exact rfl))
        | refine we_seq ?_
        | (refine we_region _ rfl rfl ?_; simp only [opsOf, List.map_cons, List.map_nil, Option.map_none, Option.map_some, List.getElem?_toArray, List.getElem?_cons_zero, List.getElem?_cons_succ, Option.bind_some, Option.getD_some])
        | refine wo_nil ?_
        | (apply wo_po; apply mo_move; exact rfl; (first | exact trivial | exact rfl))
        | (apply wo_po; apply mo_assign; exact rfl; (first | exact trivial | exact rfl))
        | (apply we_condT; exact rfl; (first | exact rfl | (simp <;> omega) | omega))
        | (apply we_condF; exact rfl; (first | exact rfl | (simp <;> omega) | omega))
        | refine we_block ?_)
      refine wo_call (.cons rfl (.cons rfl .nil)) trivial (take_tr R hs (.there hh)) ?_
      rintro v' L' x' ⟨q, s', h1, hq, rfl, rfl, rfl⟩
      repeat (first
        | refine we_seq ?_
        | (refine we_region _ rfl rfl ?_; simp only [opsOf, List.map_cons, List.map_nil, Option.map_none, Option.map_some, List.getElem?_toArray, List.getElem?_cons_zero, List.getElem?_cons_succ, Option.bind_some, Option.getD_some])
        | refine wo_nil ?_
        | (apply wo_po; apply mo_move; exact rfl; (first | exact trivial | exact rfl))
        | (apply wo_po; apply mo_assign; exact rfl; (first | exact trivial | exact rfl))
        | (apply wo_po; apply mo_extract; exact rfl; exact rfl; (first | exact trivial | exact rfl)))
      refine wo_call (.cons rfl .nil) trivial yes_tr ?_
      rintro v' L' x' ⟨rfl, rfl, rfl⟩
      repeat (first
        | (apply wo_mo; apply mo_buildSlice (sz := 1) (vs := [num (q.getD 0), num (yes q.isSome)]); exact rfl; exact .cons rfl (.cons rfl .nil); exact rfl; (intro v hv; simp only [List.mem_cons, List.not_mem_nil, or_false] at hv; rcases hv with rfl | rfl <;> rfl); omega; exact trivial))
      rintro v' L' ⟨vb, rfl, rfl⟩
      repeat (first
        | refine wo_nil ?_
        | (apply wo_po; apply mo_move; exact rfl; (first | exact trivial | exact rfl))
        | (apply wo_po; apply mo_assign; exact rfl; (first | exact trivial | exact rfl))
        | refine we_ret ?_)
      (first | refine at_ret2 (ex := .ret) Try.func21 Try.results21 hQ (.inl rfl) rfl rfl ?_ | refine at_ret2 (ex := .normal) Try.func21 Try.results21 hQ (.inr rfl) rfl rfl ?_)
      refine ⟨[q.getD 0, yes q.isSome], s', _, h1, rfl, rfl, fun h st => ?_⟩
      exact vec_new (n := 2) rfl (Ent.star (.take .here (.take .here (.drop .refl))) st)
    · rw [if_neg k1] at hs
      repeat (first
        | (apply wo_po; apply mo_bin; exact rfl; exact rfl; apply bin_eqlF; omega; (first | exact trivial | exact rfl))
        | refine we_seq ?_
        | (refine we_region _ rfl rfl ?_; simp only [opsOf, List.map_cons, List.map_nil, Option.map_none, Option.map_some, List.getElem?_toArray, List.getElem?_cons_zero, List.getElem?_cons_succ, Option.bind_some, Option.getD_some])
        | refine wo_nil ?_
        | (apply wo_po; apply mo_move; exact rfl; (first | exact trivial | exact rfl))
        | (apply wo_po; apply mo_assign; exact rfl; (first | exact trivial | exact rfl))
        | (apply we_condF; exact rfl; (first | exact rfl | (simp <;> omega) | omega))
        | refine we_skip ?_
        | refine we_block ?_)
      refine wo_call (.cons rfl (.cons rfl .nil)) trivial (drain_tr R hs (.there hh)) ?_
      rintro v' L' x' ⟨q, s', bv, h1, rfl, rfl, rfl⟩
      repeat (first
        | refine wo_nil ?_
        | (apply wo_po; apply mo_assign; exact rfl; (first | exact trivial | exact rfl))
        | (apply wo_po; apply mo_extract; exact rfl; exact rfl; (first | exact trivial | exact rfl))
        | refine we_ret ?_)
      (first | refine at_ret2 (ex := .ret) Try.func21 Try.results21 hQ (.inl rfl) rfl rfl ?_ | refine at_ret2 (ex := .normal) Try.func21 Try.results21 hQ (.inr rfl) rfl rfl ?_)
      exact ⟨q, s', bv, h1, rfl, rfl, fun h st => Ent.star (.take (.there .here) (.take .here (.drop .refl))) st⟩

theorem call_tr (h1 : 1 ≤ n) (hn : n ≤ 1024) {kind : Int} {kd v : Nat} (hk : -9223372036854775808 ≤ kind ∧ kind ≤ 9223372036854775807) (hkd : kind % 3 = kd) :
    Tr Try.prog B 23 [.int .i64 (n : Nat), .agg #[.int .i64 kind, .int .u64 (v : Nat)]] L x fun w L' x' => ∃ a m c, w = .agg #[.slice a m c, .slice none 0 0] ∧ L' = clC (.slice a m c) (.slice none 0 0) (callCl n kd v) :: L ∧ x' = x := by
  refine Tr.post (R := fun w L' x' => ∃ a m c, w = .agg #[.slice a m c, .slice none 0 0] ∧ x' = x ∧ ∀ h, Star L' h → Star (clC (.slice a m c) (.slice none 0 0) (callCl n kd v) :: L) h) ?_
    (by rintro v L' x' ⟨a, m, c, rfl, rfl, hs⟩; exact ⟨_, ⟨a, m, c, rfl, rfl, rfl⟩, hs⟩)
  refine tr_of_body Try.func23 rfl Try.ntmps23 (by simp) fun um Q hQ => ?_
  simp only [argE, Nat.zero_add, Nat.reduceAdd]
  repeat (first
    | (apply wo_mo; apply mo_box; exact rfl; exact trivial)
    | refine we_seq ?_
    | (refine we_region _ rfl rfl ?_; simp only [opsOf, List.map_cons, List.map_nil, Option.map_none, Option.map_some, List.getElem?_toArray, List.getElem?_cons_zero, List.getElem?_cons_succ, Option.bind_some, Option.getD_some]))
  rintro v' L' ⟨cb, rfl, rfl⟩
  refine wo_ent (arr cb 0 [.int .i64 kind, .int .u64 (v : Nat)] :: L) .refl ?_
  repeat (first
    | (apply wo_mo; apply mo_alloc; exact trivial))
  rintro v' L' ⟨ab, rfl, rfl⟩
  repeat (first
    | refine we_seq ?_
    | (refine we_region _ rfl rfl ?_; simp only [opsOf, List.map_cons, List.map_nil, Option.map_none, Option.map_some, List.getElem?_toArray, List.getElem?_cons_zero, List.getElem?_cons_succ, Option.bind_some, Option.getD_some])
    | refine wo_nil ?_
    | (apply wo_po; apply mo_fieldAddr; exact rfl; exact rfl; (first | exact Nat.zero_add _ | exact rfl); (first | exact trivial | exact rfl))
    | (apply wo_po; apply mo_load; exact rfl; (repeat (first | exact Rd.row0 rfl | exact Rd.row rfl rfl | exact Rd.still | apply Rd.there)); (first | exact trivial | exact rfl)))
  refine wo_call (.cons rfl (.cons rfl .nil)) trivial (within_tr hk (by omega)) ?_
  rintro v' L' x' ⟨rfl, rfl, rfl⟩
  rw [hkd]
  by_cases k0 : kd = 0
  · have e : callCl n kd v = Mach.qputCl n v := if_pos k0
    repeat (first
      | (apply wo_po; apply mo_bin; exact rfl; exact rfl; apply bin_eqlT; omega; (first | exact trivial | exact rfl))
      | refine we_seq ?_
      | (refine we_region _ rfl rfl ?_; simp only [opsOf, List.map_cons, List.map_nil, Option.map_none, Option.map_some, List.getElem?_toArray, List.getElem?_cons_zero, List.getElem?_cons_succ, Option.bind_some, Option.getD_some])
      | refine wo_nil ?_
      | (apply wo_po; apply mo_move; exact rfl; (first | exact trivial | exact rfl))
      | (apply wo_po; apply mo_assign; exact rfl; (first | exact trivial | exact rfl))
      | (apply wo_po; apply mo_fieldAddr; exact rfl; exact rfl; (first | exact Nat.zero_add _ | exact rfl); (first | exact trivial | exact rfl))
      | (apply wo_po; apply mo_load; exact rfl; (repeat (first | exact Rd.row0 rfl | exact Rd.row rfl rfl | exact Rd.still | apply Rd.there)); (first | exact trivial | exact rfl))
      | (apply we_condT; exact rfl; (first | exact rfl | (simp <;> omega) | omega))
      | refine we_block ?_)
    refine wo_call (.cons rfl (.cons rfl .nil)) trivial (ref_put_tr h1 hn) ?_
    rintro v' L' x' ⟨qa, qn, qc, rfl, rfl, rfl⟩
    repeat (first
      | (apply wo_pm; apply mo_storeA (b := ab) (c := 0) (k := 0) (a := 0) (vs := [.slice none 0 0, .slice none 0 0]); exact rfl; exact rfl; exact rfl; (intro w hw; simp [Value.cells] at hw; rcases hw with rfl | rfl <;> rfl); exact rfl; exact Nat.le_refl 2; exact (.there .here); exact trivial)
      | refine wo_nil ?_
      | refine we_ret ?_)
    refine at_leaveM (rs := [.cell 4 57]) Try.func23 Try.results23 hQ (.inl rfl) (.cons (.cell (vs := [.slice qa qn qc, .slice none 0 0]) rfl rfl (Rds.all (.there .here))) .nil) ?_
    exact ⟨_, _, _, rfl, rfl, fun h st => by rw [e]; exact Ent.star (.take .here (.drop (.drop .refl))) st⟩
  · by_cases k1 : kd = 1
    · have e : callCl n kd v = Mach.qtakeCl n := (if_neg k0).trans (if_pos k1)
      repeat (first
        | (apply wo_po; apply mo_bin; exact rfl; exact rfl; apply bin_eqlT; omega; (first | exact trivial | exact rfl))
        | (apply wo_po; apply mo_bin; exact rfl; exact rfl; apply bin_eqlF; omega; (first | exact trivial | exact rfl))
        | refine we_seq ?_
        | (refine we_region _ rfl rfl ?_; simp only [opsOf, List.map_cons, List.map_nil, Option.map_none, Option.map_some, List.getElem?_toArray, List.getElem?_cons_zero, List.getElem?_cons_succ, Option.bind_some, Option.getD_some])
        | refine wo_nil ?_
        | (apply wo_po; apply mo_move; exact rfl; (first | exact trivial | exact rfl))
        | (apply wo_po; apply mo_assign; exact rfl; (first | exact trivial | exact rfl))
        | (apply we_condT; exact rfl; (first | exact rfl | (simp <;> omega) | omega))
        | (apply we_condF; exact rfl; (first | exact rfl | (simp <;> omega) | omega))
        | refine we_block ?_)
      refine wo_call (.cons rfl .nil) trivial (ref_take_tr h1 hn) ?_
      rintro v' L' x' ⟨qa, qn, qc, rfl, rfl, rfl⟩
      repeat (first
        | (apply wo_pm; apply mo_storeA (b := ab) (c := 0) (k := 0) (a := 0) (vs := [.slice none 0 0, .slice none 0 0]); exact rfl; exact rfl; exact rfl; (intro w hw; simp [Value.cells] at hw; rcases hw with rfl | rfl <;> rfl); exact rfl; exact Nat.le_refl 2; exact (.there .here); exact trivial)
        | refine wo_nil ?_
        | refine we_ret ?_)
      refine at_leaveM (rs := [.cell 4 57]) Try.func23 Try.results23 hQ (.inl rfl) (.cons (.cell (vs := [.slice qa qn qc, .slice none 0 0]) rfl rfl (Rds.all (.there .here))) .nil) ?_
      exact ⟨_, _, _, rfl, rfl, fun h st => by rw [e]; exact Ent.star (.take .here (.drop (.drop .refl))) st⟩
    · have e : callCl n kd v = Mach.qdrainCl n := (if_neg k0).trans (if_neg k1)
      repeat (first
        | (apply wo_po; apply mo_bin; exact rfl; exact rfl; apply bin_eqlF; omega; (first | exact trivial | exact rfl))
        | refine we_seq ?_
        | (refine we_region _ rfl rfl ?_; simp only [opsOf, List.map_cons, List.map_nil, Option.map_none, Option.map_some, List.getElem?_toArray, List.getElem?_cons_zero, List.getElem?_cons_succ, Option.bind_some, Option.getD_some])
        | refine wo_nil ?_
        | (apply wo_po; apply mo_move; exact rfl; (first | exact trivial | exact rfl))
        | (apply wo_po; apply mo_assign; exact rfl; (first | exact trivial | exact rfl))
        | (apply we_condF; exact rfl; (first | exact rfl | (simp <;> omega) | omega))
        | refine we_skip ?_
        | refine we_block ?_)
      refine wo_call (.cons rfl .nil) trivial (ref_drain_tr h1 hn) ?_
      rintro v' L' x' ⟨qa, qn, qc, rfl, rfl, rfl⟩
      repeat (first
        | (apply wo_pm; apply mo_storeA (b := ab) (c := 0) (k := 0) (a := 0) (vs := [.slice none 0 0, .slice none 0 0]); exact rfl; exact rfl; exact rfl; (intro w hw; simp [Value.cells] at hw; rcases hw with rfl | rfl <;> rfl); exact rfl; exact Nat.le_refl 2; exact (.there .here); exact trivial)
        | refine wo_nil ?_
        | refine we_ret ?_)
      refine at_leaveM (rs := [.cell 4 57]) Try.func23 Try.results23 hQ (.inl rfl) (.cons (.cell (vs := [.slice qa qn qc, .slice none 0 0]) rfl rfl (Rds.all (.there .here))) .nil) ?_
      exact ⟨_, _, _, rfl, rfl, fun h st => by rw [e]; exact Ent.star (.take .here (.drop (.drop .refl))) st⟩

end
end Go.Proofs.Ythghlchcjeocpaa
