/-
  patchbaylaw23: done, call (over whatever access).
-/
import Derived.Test.YtmkkanmkjfnpdaaRef23
import Derived.Test.YtmkkanmkjfnpdaaMirAcc
import Derived.Test.YtmkkanmkjfnpdaaRef
set_option linter.unusedVariables false
set_option linter.unusedSimpArgs false
namespace Go.Proofs.Ytmkkanmkjfnpdaa
open Go Go.PB
attribute [local irreducible] Mo Bin Eql Tr Wo Ap Wle

section
variable {B : Hand} [Lets B] {gv : Value} {A : Acc B gv} {mr r b n k nc u : Nat} {L F : List HProp} {x : B.X}

theorem done_tr [Chans B] (R : MirAt A mr r b n k nc) {kind : Int} {kd : Nat} (hk : -9223372036854775808 ≤ kind ∧ kind ≤ 9223372036854775807) (hkd : kind % 3 = kd) (hv : u < 18446744073709551616) {s : A.S} {Q : List Nat → A.S → Prop} (hs : DoneT A n kd u s Q) (hh : Has L (A.C s) F) :
    Tr Try.prog B 13 [.pointer (some ⟨mr, 0, none⟩), gv, .agg #[.int .i64 kind, .int .u64 (u : Nat)]] L (A.x s) fun w L' x' => ∃ told s' bv, Q told s' ∧ w = .tuple #[bv, .int .i64 0] ∧ L' = vec 1 bv (told.map Go.PB.num) :: A.C s' :: F ∧ x' = A.x s' := by
  refine Tr.post (R := fun w L' x' => ∃ told s' bv, Q told s' ∧ w = .tuple #[bv, .int .i64 0] ∧ x' = A.x s' ∧ ∀ h, Star L' h → Star (vec 1 bv (told.map Go.PB.num) :: A.C s' :: F) h) ?_
    (by rintro w L' x' ⟨told, s', bv, h1, rfl, rfl, hs⟩; exact ⟨_, ⟨told, s', bv, h1, rfl, rfl, rfl⟩, hs⟩)
  unfold DoneT at hs
  refine tr_of_body Try.func13 rfl Try.ntmps13 (by simp) fun um Q hQ => ?_
  simp only [argE, Nat.zero_add, Nat.reduceAdd]
  repeat (first
    | (apply wo_mo; apply mo_box; exact rfl; exact trivial)
    | refine we_seq ?_
    | (refine we_region _ rfl rfl ?_; simp only [opsOf, List.map_cons, List.map_nil, Option.map_none, Option.map_some, List.getElem?_toArray, List.getElem?_cons_zero, List.getElem?_cons_succ, Option.bind_some, Option.getD_some]))
  rintro v' L' ⟨db, rfl, rfl⟩
  refine wo_ent (arr db 0 [.int .i64 kind, .int .u64 (u : Nat)] :: L) .refl ?_
  repeat (first
    | refine we_seq ?_
    | (refine we_region _ rfl rfl ?_; simp only [opsOf, List.map_cons, List.map_nil, Option.map_none, Option.map_some, List.getElem?_toArray, List.getElem?_cons_zero, List.getElem?_cons_succ, Option.bind_some, Option.getD_some])
    | refine wo_nil ?_
    | (apply wo_po; apply mo_assign; exact rfl; (first | exact trivial | exact rfl))
    | (apply wo_po; apply mo_fieldAddr; exact rfl; exact rfl; (first | exact Nat.zero_add _ | exact rfl); (first | exact trivial | exact rfl))
    | (apply wo_po; apply mo_load; exact rfl; (repeat (first | exact Rd.row0 rfl | exact Rd.row rfl rfl | exact Rd.still | apply Rd.there)); (first | exact trivial | exact rfl)))
  refine wo_call (.cons rfl (.cons rfl .nil)) trivial (within_tr hk (by omega)) ?_
  rintro v' L' x' ⟨rfl, rfl, rfl⟩
  rw [hkd]
  by_cases k0 : kd = 0
  · rw [if_pos k0] at hs
    repeat (first
      | (apply wo_po; apply mo_bin; exact rfl; exact rfl; apply bin_eqlT; omega; (first | exact trivial | exact rfl))
      | refine we_seq ?_
      | (refine we_region _ rfl rfl ?_; simp only [opsOf, List.map_cons, List.map_nil, Option.map_none, Option.map_some, List.getElem?_toArray, List.getElem?_cons_zero, List.getElem?_cons_succ, Option.bind_some, Option.getD_some])
      | refine wo_nil ?_
      | (apply wo_po; apply mo_move; exact rfl; (first | exact trivial | exact rfl))
      | (apply wo_po; apply mo_assign; exact rfl; (first | exact trivial | exact rfl))
      | (apply wo_po; apply mo_fieldAddr; exact rfl; exact rfl; (first | exact Nat.zero_add _ | exact rfl); (first | exact trivial | exact rfl))
      | (apply wo_po; apply mo_load; exact rfl; (repeat (first | exact Rd.row0 rfl | exact Rd.row rfl rfl | exact Rd.still | apply Rd.there)); (first | exact trivial | exact rfl))
      | (apply we_condT; exact rfl; (first | exact rfl | (simp <;> omega) | omega))
      | refine we_block ?_)
    refine wo_call (.cons rfl (.cons rfl (.cons rfl .nil))) trivial (moffer_tr R hv hs (.there hh)) ?_
    rintro v' L' x' ⟨q, s', h1, rfl, rfl, rfl⟩
    repeat (first
      | refine we_seq ?_
      | (refine we_region _ rfl rfl ?_; simp only [opsOf, List.map_cons, List.map_nil, Option.map_none, Option.map_some, List.getElem?_toArray, List.getElem?_cons_zero, List.getElem?_cons_succ, Option.bind_some, Option.getD_some])
      | refine wo_nil ?_
      | (apply wo_po; apply mo_move; exact rfl; (first | exact trivial | exact rfl))
      | (apply wo_po; apply mo_assign; exact rfl; (first | exact trivial | exact rfl))
      | (apply wo_po; apply mo_extract; exact rfl; exact rfl; (first | exact trivial | exact rfl)))
    refine wo_call (.cons rfl .nil) trivial yes_tr ?_
    rintro v' L' x' ⟨rfl, rfl, rfl⟩
    repeat (first
      | (apply wo_mo; apply mo_buildSlice (sz := 1) (vs := [Go.PB.num (yes q)]); exact rfl; (repeat (first | exact EvL.nil | apply EvL.cons rfl)); exact rfl; (repeat (first | exact List.forall_mem_nil _ | refine List.forall_mem_cons.2 ⟨rfl, ?_⟩)); omega; exact trivial))
    rintro v' L' ⟨vb, rfl, rfl⟩
    repeat (first
      | refine wo_nil ?_
      | (apply wo_po; apply mo_move; exact rfl; (first | exact trivial | exact rfl))
      | (apply wo_po; apply mo_assign; exact rfl; (first | exact trivial | exact rfl))
      | refine we_ret ?_)
    (first | refine at_ret2 (ex := .ret) Try.func13 Try.results13 hQ (.inl rfl) rfl rfl ?_ | refine at_ret2 (ex := .normal) Try.func13 Try.results13 hQ (.inr rfl) rfl rfl ?_)
    refine ⟨[(yes q)], s', _, h1, rfl, rfl, fun h st => ?_⟩
    exact vec_new (n := 1) rfl (Ent.star (.take .here (.take .here (.drop .refl))) st)
  · rw [if_neg k0] at hs
    by_cases k1 : kd = 1
    · rw [if_pos k1] at hs
      repeat (first
        | (apply wo_po; apply mo_bin; exact rfl; exact rfl; apply bin_eqlT; omega; (first | exact trivial | exact rfl))
        | (apply wo_po; apply mo_bin; exact rfl; exact rfl; apply bin_eqlF; omega; (first | exact trivial | exact rfl))
        | refine we_seq ?_
        | (refine we_region _ rfl rfl ?_; simp only [opsOf, List.map_cons, List.map_nil, Option.map_none, Option.map_some, List.getElem?_toArray, List.getElem?_cons_zero, List.getElem?_cons_succ, Option.bind_some, Option.getD_some])
        | refine wo_nil ?_
        | (apply wo_po; apply mo_move; exact rfl; (first | exact trivial | exact rfl))
        | (apply wo_po; apply mo_assign; exact rfl; (first | exact trivial | exact rfl))
        | (apply we_condT; exact rfl; (first | exact rfl | (simp <;> omega) | omega))
        | (apply we_condF; exact rfl; (first | exact rfl | (simp <;> omega) | omega))
        | refine we_block ?_)
      refine wo_call (.cons rfl (.cons rfl .nil)) trivial (mtake_tr R hs (.there hh)) ?_
      rintro v' L' x' ⟨q, s', h1, hlt, rfl, rfl, rfl⟩
      repeat (first
        | refine we_seq ?_
        | (refine we_region _ rfl rfl ?_; simp only [opsOf, List.map_cons, List.map_nil, Option.map_none, Option.map_some, List.getElem?_toArray, List.getElem?_cons_zero, List.getElem?_cons_succ, Option.bind_some, Option.getD_some])
        | refine wo_nil ?_
        | (apply wo_po; apply mo_move; exact rfl; (first | exact trivial | exact rfl))
        | (apply wo_po; apply mo_assign; exact rfl; (first | exact trivial | exact rfl))
        | (apply wo_po; apply mo_extract; exact rfl; exact rfl; (first | exact trivial | exact rfl)))
      refine wo_call (.cons rfl .nil) trivial yes_tr ?_
      rintro v' L' x' ⟨rfl, rfl, rfl⟩
      repeat (first
        | (apply wo_mo; apply mo_buildSlice (sz := 1) (vs := [Go.PB.num (q.getD 0), Go.PB.num (yes q.isSome)]); exact rfl; (repeat (first | exact EvL.nil | apply EvL.cons rfl)); exact rfl; (repeat (first | exact List.forall_mem_nil _ | refine List.forall_mem_cons.2 ⟨rfl, ?_⟩)); omega; exact trivial))
      rintro v' L' ⟨vb, rfl, rfl⟩
      repeat (first
        | refine wo_nil ?_
        | (apply wo_po; apply mo_move; exact rfl; (first | exact trivial | exact rfl))
        | (apply wo_po; apply mo_assign; exact rfl; (first | exact trivial | exact rfl))
        | refine we_ret ?_)
      (first | refine at_ret2 (ex := .ret) Try.func13 Try.results13 hQ (.inl rfl) rfl rfl ?_ | refine at_ret2 (ex := .normal) Try.func13 Try.results13 hQ (.inr rfl) rfl rfl ?_)
      refine ⟨[(q.getD 0), (yes q.isSome)], s', _, h1, rfl, rfl, fun h st => ?_⟩
      exact vec_new (n := 2) rfl (Ent.star (.take .here (.take .here (.drop .refl))) st)
    · rw [if_neg k1] at hs
      repeat (first
        | (apply wo_po; apply mo_bin; exact rfl; exact rfl; apply bin_eqlF; omega; (first | exact trivial | exact rfl))
        | refine we_seq ?_
        | (refine we_region _ rfl rfl ?_; simp only [opsOf, List.map_cons, List.map_nil, Option.map_none, Option.map_some, List.getElem?_toArray, List.getElem?_cons_zero, List.getElem?_cons_succ, Option.bind_some, Option.getD_some])
        | refine wo_nil ?_
        | (apply wo_po; apply mo_move; exact rfl; (first | exact trivial | exact rfl))
        | (apply wo_po; apply mo_assign; exact rfl; (first | exact trivial | exact rfl))
        | (apply we_condF; exact rfl; (first | exact rfl | (simp <;> omega) | omega))
        | refine we_skip ?_
        | refine we_block ?_)
      refine wo_call (.cons rfl (.cons rfl .nil)) trivial (mcounts_tr R hs (.there hh)) ?_
      rintro v' L' x' ⟨a, b', c, s', h1, rfl, rfl, rfl⟩
      repeat (first
        | (apply wo_mo; apply mo_buildSlice (sz := 1) (vs := [Go.PB.num a, Go.PB.num b', Go.PB.num c]); exact rfl; (repeat (first | exact EvL.nil | apply EvL.cons rfl)); exact rfl; (repeat (first | exact List.forall_mem_nil _ | refine List.forall_mem_cons.2 ⟨rfl, ?_⟩)); omega; exact trivial)
        | refine we_seq ?_
        | (refine we_region _ rfl rfl ?_; simp only [opsOf, List.map_cons, List.map_nil, Option.map_none, Option.map_some, List.getElem?_toArray, List.getElem?_cons_zero, List.getElem?_cons_succ, Option.bind_some, Option.getD_some])
        | refine wo_nil ?_
        | (apply wo_po; apply mo_move; exact rfl; (first | exact trivial | exact rfl))
        | (apply wo_po; apply mo_assign; exact rfl; (first | exact trivial | exact rfl))
        | (apply wo_po; apply mo_extract; exact rfl; exact rfl; (first | exact trivial | exact rfl)))
      rintro v' L' ⟨vb, rfl, rfl⟩
      repeat (first
        | refine wo_nil ?_
        | (apply wo_po; apply mo_move; exact rfl; (first | exact trivial | exact rfl))
        | (apply wo_po; apply mo_assign; exact rfl; (first | exact trivial | exact rfl))
        | refine we_ret ?_)
      (first | refine at_ret2 (ex := .ret) Try.func13 Try.results13 hQ (.inl rfl) rfl rfl ?_ | refine at_ret2 (ex := .normal) Try.func13 Try.results13 hQ (.inr rfl) rfl rfl ?_)
      refine ⟨[a, b', c], s', _, h1, rfl, rfl, fun h st => ?_⟩
      exact vec_new (n := 3) rfl (Ent.star (.take .here (.take .here (.drop .refl))) st)


theorem call_tr (h1 : 1 ≤ n) (hn : n ≤ 1024) {kind : Int} {kd : Nat} (hk : -9223372036854775808 ≤ kind ∧ kind ≤ 9223372036854775807) (hkd : kind % 3 = kd) :
    Tr Try.prog B 15 [.int .i64 (n : Nat), .agg #[.int .i64 kind, .int .u64 (u : Nat)]] L x fun w L' x' => ∃ a m c, w = .agg #[.slice a m c, .slice none 0 0] ∧ L' = clC (.slice a m c) (.slice none 0 0) (callCl n kd u) :: L ∧ x' = x := by
  refine Tr.post (R := fun v L' x' => ∃ a m c, v = .agg #[.slice a m c, .slice none 0 0] ∧ x' = x ∧ ∀ h, Star L' h → Star (clC (.slice a m c) (.slice none 0 0) (callCl n kd u) :: L) h) ?_
    (by rintro v L' x' ⟨a, m, c, rfl, rfl, hs⟩; exact ⟨_, ⟨a, m, c, rfl, rfl, rfl⟩, hs⟩)
  refine tr_of_body Try.func15 rfl Try.ntmps15 (by simp) fun um Q hQ => ?_
  simp only [argE, Nat.zero_add, Nat.reduceAdd]
  repeat (first
    | (apply wo_mo; apply mo_box; exact rfl; exact trivial)
    | refine we_seq ?_
    | (refine we_region _ rfl rfl ?_; simp only [opsOf, List.map_cons, List.map_nil, Option.map_none, Option.map_some, List.getElem?_toArray, List.getElem?_cons_zero, List.getElem?_cons_succ, Option.bind_some, Option.getD_some]))
  rintro v' L' ⟨db, rfl, rfl⟩
  refine wo_ent (arr db 0 [.int .i64 kind, .int .u64 (u : Nat)] :: L) .refl ?_
  repeat (first
    | (apply wo_mo; apply mo_alloc; exact trivial))
  rintro v' L' ⟨ab, rfl, rfl⟩
  repeat (first
    | refine we_seq ?_
    | (refine we_region _ rfl rfl ?_; simp only [opsOf, List.map_cons, List.map_nil, Option.map_none, Option.map_some, List.getElem?_toArray, List.getElem?_cons_zero, List.getElem?_cons_succ, Option.bind_some, Option.getD_some])
    | refine wo_nil ?_
    | (apply wo_po; apply mo_fieldAddr; exact rfl; exact rfl; (first | exact Nat.zero_add _ | exact rfl); (first | exact trivial | exact rfl))
    | (apply wo_po; apply mo_load; exact rfl; (repeat (first | exact Rd.row0 rfl | exact Rd.row rfl rfl | exact Rd.still | apply Rd.there)); (first | exact trivial | exact rfl)))
  refine wo_call (.cons rfl (.cons rfl .nil)) trivial (within_tr hk (by omega)) ?_
  rintro v' L' x' ⟨rfl, rfl, rfl⟩
  rw [hkd]
  by_cases k0 : kd = 0
  · have e : callCl n kd u = Mach.rofferCl n u := if_pos k0
    repeat (first
      | (apply wo_po; apply mo_bin; exact rfl; exact rfl; apply bin_eqlT; omega; (first | exact trivial | exact rfl))
      | refine we_seq ?_
      | (refine we_region _ rfl rfl ?_; simp only [opsOf, List.map_cons, List.map_nil, Option.map_none, Option.map_some, List.getElem?_toArray, List.getElem?_cons_zero, List.getElem?_cons_succ, Option.bind_some, Option.getD_some])
      | refine wo_nil ?_
      | (apply wo_po; apply mo_move; exact rfl; (first | exact trivial | exact rfl))
      | (apply wo_po; apply mo_assign; exact rfl; (first | exact trivial | exact rfl))
      | (apply wo_po; apply mo_fieldAddr; exact rfl; exact rfl; (first | exact Nat.zero_add _ | exact rfl); (first | exact trivial | exact rfl))
      | (apply wo_po; apply mo_load; exact rfl; (repeat (first | exact Rd.row0 rfl | exact Rd.row rfl rfl | exact Rd.still | apply Rd.there)); (first | exact trivial | exact rfl))
      | (apply we_condT; exact rfl; (first | exact rfl | (simp <;> omega) | omega))
      | refine we_block ?_)
    refine wo_call (.cons rfl (.cons rfl .nil)) trivial (ref_offer_tr h1 hn) ?_
    rintro v' L' x' ⟨qa, qn, qc, rfl, rfl, rfl⟩
    repeat (first
      | (apply wo_pm; apply mo_storeA (b := ab) (c := 0) (k := 0) (a := 0) (vs := [.slice none 0 0, .slice none 0 0]); exact rfl; exact rfl; exact rfl; (intro w hw; simp [Value.cells] at hw; rcases hw with rfl | rfl <;> rfl); exact rfl; exact Nat.le_refl 2; exact (.there .here); exact trivial)
      | refine wo_nil ?_
      | refine we_ret ?_)
    refine at_leaveM (rs := [.cell 4 47]) Try.func15 Try.results15 hQ (.inl rfl) (.cons (.cell (vs := [.slice qa qn qc, .slice none 0 0]) rfl rfl (Rds.all (.there .here))) .nil) ?_
    exact ⟨_, _, _, rfl, rfl, fun h st => by rw [e]; exact Ent.star (.take .here (.drop (.drop .refl))) st⟩
  · by_cases k1 : kd = 1
    · have e : callCl n kd u = Mach.rtakeCl n := (if_neg k0).trans (if_pos k1)
      repeat (first
        | (apply wo_po; apply mo_bin; exact rfl; exact rfl; apply bin_eqlT; omega; (first | exact trivial | exact rfl))
        | (apply wo_po; apply mo_bin; exact rfl; exact rfl; apply bin_eqlF; omega; (first | exact trivial | exact rfl))
        | refine we_seq ?_
        | (refine we_region _ rfl rfl ?_; simp only [opsOf, List.map_cons, List.map_nil, Option.map_none, Option.map_some, List.getElem?_toArray, List.getElem?_cons_zero, List.getElem?_cons_succ, Option.bind_some, Option.getD_some])
        | refine wo_nil ?_
        | (apply wo_po; apply mo_move; exact rfl; (first | exact trivial | exact rfl))
        | (apply wo_po; apply mo_assign; exact rfl; (first | exact trivial | exact rfl))
        | (apply we_condT; exact rfl; (first | exact rfl | (simp <;> omega) | omega))
        | (apply we_condF; exact rfl; (first | exact rfl | (simp <;> omega) | omega))
        | refine we_block ?_)
      refine wo_call (.cons rfl .nil) trivial (ref_take_tr h1 hn) ?_
      rintro v' L' x' ⟨qa, qn, qc, rfl, rfl, rfl⟩
      repeat (first
        | (apply wo_pm; apply mo_storeA (b := ab) (c := 0) (k := 0) (a := 0) (vs := [.slice none 0 0, .slice none 0 0]); exact rfl; exact rfl; exact rfl; (intro w hw; simp [Value.cells] at hw; rcases hw with rfl | rfl <;> rfl); exact rfl; exact Nat.le_refl 2; exact (.there .here); exact trivial)
        | refine wo_nil ?_
        | refine we_ret ?_)
      refine at_leaveM (rs := [.cell 4 47]) Try.func15 Try.results15 hQ (.inl rfl) (.cons (.cell (vs := [.slice qa qn qc, .slice none 0 0]) rfl rfl (Rds.all (.there .here))) .nil) ?_
      exact ⟨_, _, _, rfl, rfl, fun h st => by rw [e]; exact Ent.star (.take .here (.drop (.drop .refl))) st⟩
    · have e : callCl n kd u = Mach.rcountsCl := (if_neg k0).trans (if_neg k1)
      repeat (first
        | (apply wo_po; apply mo_bin; exact rfl; exact rfl; apply bin_eqlF; omega; (first | exact trivial | exact rfl))
        | refine we_seq ?_
        | (refine we_region _ rfl rfl ?_; simp only [opsOf, List.map_cons, List.map_nil, Option.map_none, Option.map_some, List.getElem?_toArray, List.getElem?_cons_zero, List.getElem?_cons_succ, Option.bind_some, Option.getD_some])
        | refine wo_nil ?_
        | (apply wo_po; apply mo_assign; exact rfl; (first | exact trivial | exact rfl))
        | (apply we_condF; exact rfl; (first | exact rfl | (simp <;> omega) | omega))
        | refine we_skip ?_
        | refine we_block ?_)
      refine wo_call (.nil) trivial (ref_counts_tr) ?_
      rintro v' L' x' ⟨qa, qn, qc, rfl, rfl, rfl⟩
      repeat (first
        | (apply wo_pm; apply mo_storeA (b := ab) (c := 0) (k := 0) (a := 0) (vs := [.slice none 0 0, .slice none 0 0]); exact rfl; exact rfl; exact rfl; (intro w hw; simp [Value.cells] at hw; rcases hw with rfl | rfl <;> rfl); exact rfl; exact Nat.le_refl 2; exact (.there .here); exact trivial)
        | refine wo_nil ?_
        | refine we_ret ?_)
      refine at_leaveM (rs := [.cell 4 47]) Try.func15 Try.results15 hQ (.inl rfl) (.cons (.cell (vs := [.slice qa qn qc, .slice none 0 0]) rfl rfl (Rds.all (.there .here))) .nil) ?_
      exact ⟨_, _, _, rfl, rfl, fun h st => by rw [e]; exact Ent.star (.take .here (.drop (.drop .refl))) st⟩
end
end Go.Proofs.Ytmkkanmkjfnpdaa
