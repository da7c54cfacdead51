/-
  patchbayref23: World, Offer, Take, Counts.
-/
import Derived.Test.YtmkkanmkjfnpdaaRef7w
import Derived.Test.YtmkkanmkjfnpdaaMirror23m
import Derived.Test.YtmkkanmkjfnpdaaCom
set_option linter.unusedVariables false
set_option linter.unusedSimpArgs false
namespace Go.Proofs.Ytmkkanmkjfnpdaa
open Go Go.PB
attribute [local irreducible] Mo Bin Eql Tr Wo Ap Wle

section
variable {B : Hand} [Lets B] {L F : List HProp} {x : B.X} {n : Nat}

theorem mworld_tr (hn : n ≤ 1024) : Tr Try.prog B 11 [.int .i64 (n : Nat)] L x fun w L' x' => ∃ wv lv, w = .agg #[wv, lv] ∧ L' = wvC wv lv ⟨[[0, 0, 0], qwords n], 2⟩ :: L ∧ x' = x := by
  refine Tr.post (R := fun v L' x' => ∃ wv lv, v = .agg #[wv, lv] ∧ x' = x ∧ ∀ h, Star L' h → Star (wvC wv lv ⟨[[0, 0, 0], qwords n], 2⟩ :: L) h) ?_
    (by rintro v L' x' ⟨wv, lv, rfl, rfl, hs⟩; exact ⟨_, ⟨wv, lv, rfl, rfl, rfl⟩, hs⟩)
  refine tr_of_body Try.func11 rfl Try.ntmps11 (by simp) fun um Q hQ => ?_
  simp only [argE, Nat.zero_add, Nat.reduceAdd]
  repeat (first
    | (apply wo_mo; apply mo_alloc; exact trivial)
    | refine we_seq ?_
    | (refine we_region _ rfl rfl ?_; simp only [opsOf, List.map_cons, List.map_nil, Option.map_none, Option.map_some, List.getElem?_toArray, List.getElem?_cons_zero, List.getElem?_cons_succ, Option.bind_some, Option.getD_some]))
  rintro v' L' ⟨cb, rfl, rfl⟩
  repeat (first
    | (apply wo_mo; apply mo_buildSlice (sz := 1) (vs := [num 0, num 0, num 0]); exact rfl; (repeat (first | exact EvL.nil | apply EvL.cons rfl)); exact rfl; (repeat (first | exact List.forall_mem_nil _ | refine List.forall_mem_cons.2 ⟨rfl, ?_⟩)); omega; exact trivial)
    | refine we_seq ?_
    | (refine we_region _ rfl rfl ?_; simp only [opsOf, List.map_cons, List.map_nil, Option.map_none, Option.map_some, List.getElem?_toArray, List.getElem?_cons_zero, List.getElem?_cons_succ, Option.bind_some, Option.getD_some])
    | refine wo_nil ?_)
  rintro v' L' ⟨ab, rfl, rfl⟩
  repeat (first
    | (apply wo_po; apply mo_move; exact rfl; (first | exact trivial | exact rfl)))
  refine wo_call (.cons rfl .nil) trivial (words_tr hn) ?_
  rintro qv L' x' ⟨rfl, rfl⟩
  refine wo_pure (of_has .here (vec_shape (by omega))) ?_
  rintro ⟨qa, qn, qc, rfl, hqn, _⟩
  repeat (first
    | (apply wo_mo; apply mo_buildSlice (sz := 1) (vs := [.slice (some ⟨ab, 0, none⟩) 3 3, .slice qa qn qc]); exact rfl; (repeat (first | exact EvL.nil | apply EvL.cons rfl)); exact rfl; (repeat (first | exact List.forall_mem_nil _ | refine List.forall_mem_cons.2 ⟨rfl, ?_⟩)); omega; exact trivial))
  rintro v' L' ⟨rb, rfl, rfl⟩
  repeat (first
    | (apply wo_mo; apply mo_buildSlice (sz := 1) (vs := [.slice none 0 0, .slice none 0 0]); exact rfl; (repeat (first | exact EvL.nil | apply EvL.cons rfl)); exact rfl; (repeat (first | exact List.forall_mem_nil _ | refine List.forall_mem_cons.2 ⟨rfl, ?_⟩)); omega; exact trivial))
  rintro v' L' ⟨lb, rfl, rfl⟩
  repeat (first
    | (apply wo_po; apply mo_build (pv := [(0, .slice (some ⟨rb, 0, none⟩) 2 2), (1, .slice (some ⟨lb, 0, none⟩) 2 2)]); exact rfl; exact .cons rfl (.cons rfl .nil); exact rfl; exact trivial)
    | (apply wo_pm; apply mo_storeA (b := cb) (c := 0) (k := 0) (a := 0) (vs := [.slice none 0 0, .slice none 0 0]); exact rfl; exact rfl; exact rfl; (intro w hw; simp [Value.cells] at hw; rcases hw with rfl | rfl <;> rfl); exact rfl; exact Nat.le_refl 2; exact (.there (.there (.there (.there .here)))); exact trivial)
    | refine wo_nil ?_
    | refine we_ret ?_)
  refine at_leaveM (rs := [.cell 2 32]) Try.func11 Try.results11 hQ (.inl rfl) (.cons (.cell (vs := [.slice (some ⟨rb, 0, none⟩) 2 2, .slice (some ⟨lb, 0, none⟩) 2 2]) rfl rfl (Rds.all (.there (.there (.there (.there .here)))))) .nil) ?_
  refine ⟨_, _, rfl, rfl, fun h st => ?_⟩
  have s1 : Star (arr lb 0 [.slice none 0 0, .slice none 0 0] :: arr rb 0 [.slice (some ⟨ab, 0, none⟩) 3 3, .slice qa qn qc] :: arr ab 0 [num 0, num 0, num 0] :: vec 1 (.slice qa qn qc) ((qwords n).map num) :: L) h := Ent.star (.take .here (.take .here (.take (.there .here) (.take .here (.drop .refl))))) st
  refine wv_shut (wl := [(.slice (some ⟨ab, 0, none⟩) 3 3, [0, 0, 0]), (.slice qa qn qc, qwords n)]) (lw := [.slice none 0 0, .slice none 0 0]) rfl ?_ rfl ?_
  · refine ⟨by show 2 < 1000000; omega, by show 2 < 1000000; omega, fun l hl => ?_, fun l hl v hv => ?_⟩
    · simp only [List.mem_cons, List.not_mem_nil, or_false] at hl
      rcases hl with rfl | rfl
      · show 3 < _; omega
      · rw [qwords_len]; omega
    · simp only [List.mem_cons, List.not_mem_nil, or_false] at hl
      rcases hl with rfl | rfl
      · simp only [List.mem_cons, List.not_mem_nil, or_false] at hv
        omega
      · simp only [qwords, List.mem_cons, List.mem_flatten, List.mem_map, List.mem_range] at hv
        rcases hv with rfl | rfl | ⟨l, ⟨i, hi, rfl⟩, hv⟩
        · omega
        · omega
        · simp at hv; omega
  · refine star_map (vec_new (n := 2) (sz := 1) rfl s1) (fun _ y => y) fun _ y => ?_
    refine star_shut (M := [_, _]) (vec_nil (vec_nil ?_))
    refine star_map (vec_new (n := 2) (sz := 1) rfl y) (fun _ y => y) fun _ z => ?_
    exact star_shut (M := [_, _]) (vec_new (n := 3) (sz := 1) rfl z)

set_option maxHeartbeats 8000000 in
theorem moffer_code_tr (h1 : 1 ≤ n) (hn : n ≤ 1024) : Tr Try.prog B 63 [.int .i64 0, .int .i64 (n : Nat), .int .i64 1, .int .i64 0, .int .i64 1] L x fun v L' x' => L' = vec 7 v ((Mach.rofferCode n).map inC).flatten :: L ∧ x' = x := by
  refine Tr.post (R := fun v L' x' => x' = x ∧ ∀ h, Star L' h → Star (vec 7 v ((Mach.rofferCode n).map inC).flatten :: L) h) ?_ (by rintro v L' x' ⟨rfl, h⟩; exact ⟨_, ⟨rfl, rfl⟩, h⟩)
  refine tr_of_body Try.func63 rfl Try.ntmps63 (by simp) fun um Q hQ => ?_
  simp only [argE, Nat.zero_add, Nat.reduceAdd]
  repeat (first
    | (apply wo_po; apply mo_buildV; (repeat (first | exact EvL.nil | apply EvL.cons rfl)); exact rfl; exact trivial)
    | (apply wo_mo; apply mo_buildSlice (sz := 7); exact rfl; (repeat (first | exact EvL.nil | apply EvL.cons rfl)); exact rfl; (repeat (first | exact List.forall_mem_nil _ | refine List.forall_mem_cons.2 ⟨rfl, ?_⟩)); omega; exact trivial)
    | refine we_seq ?_
    | (refine we_region _ rfl rfl ?_; simp only [opsOf, List.map_cons, List.map_nil, Option.map_none, Option.map_some, List.getElem?_toArray, List.getElem?_cons_zero, List.getElem?_cons_succ, Option.bind_some, Option.getD_some])
    | refine wo_nil ?_
    | (apply wo_po; apply mo_move; exact rfl; (first | exact trivial | exact rfl))
    | (apply wo_po; apply mo_assign; exact rfl; (first | exact trivial | exact rfl)))
  rintro v' L' ⟨kb0, rfl, rfl⟩
  refine wo_star (vec 7 (.slice (some ⟨kb0, 0, none⟩) 2 2) (([⟨6, 0, 2, 0, 0, 0, 1⟩, ⟨3, 0, 3, 9, 2, 0, 0⟩] : List Mach.In).map inC).flatten :: L) (fun h st => vec_new rfl st) ?_
  repeat (first
    | refine we_seq ?_
    | (refine we_region _ rfl rfl ?_; simp only [opsOf, List.map_cons, List.map_nil, Option.map_none, Option.map_some, List.getElem?_toArray, List.getElem?_cons_zero, List.getElem?_cons_succ, Option.bind_some, Option.getD_some])
    | refine wo_nil ?_
    | (apply wo_po; apply mo_move; exact rfl; (first | exact trivial | exact rfl))
    | (apply wo_po; apply mo_assign; exact rfl; (first | exact trivial | exact rfl))
    | (apply wo_po; apply mo_bin; exact rfl; exact rfl; apply bin_add; exact wrap_i64 (by omega) (by omega); (first | exact trivial | exact rfl)))
  refine wo_call (.cons rfl (.cons rfl (.cons rfl (.cons rfl (.cons rfl .nil))))) trivial (put_code_tr (on := 1) (a := 3) h1 hn (by omega) (by omega)) ?_
  rintro v' L' x' ⟨kb, rfl, rfl, rfl⟩
  repeat (first
    | (apply wo_mo; apply mo_append (sz := 7) (new := ((Mach.qputCode 1 n 3).map inC).flatten); exact rfl; exact rfl; exact rfl; exact rfl; exact (.there .here); exact rfl; exact .inr ⟨_, _, rfl, Rds.all .here⟩; exact inC_one; (simp only [sliceLen]; omega); exact trivial))
  rintro v' L' rfl
  refine wo_pure (of_has .here (vec_shape (by omega))) ?_
  rintro ⟨va, vn, vc, rfl, hvn, _⟩
  replace hvn : 133 = vn * 7 := hvn
  repeat (first
    | (apply wo_po; apply mo_buildV; (repeat (first | exact EvL.nil | apply EvL.cons rfl)); exact rfl; exact trivial)
    | (apply wo_mo; apply mo_buildSlice (sz := 7); exact rfl; (repeat (first | exact EvL.nil | apply EvL.cons rfl)); exact rfl; (repeat (first | exact List.forall_mem_nil _ | refine List.forall_mem_cons.2 ⟨rfl, ?_⟩)); omega; exact trivial)
    | (apply wo_po; apply mo_conv; exact rfl; exact wrap_u64 (by omega) (by omega); exact trivial)
    | refine we_seq ?_
    | (refine we_region _ rfl rfl ?_; simp only [opsOf, List.map_cons, List.map_nil, Option.map_none, Option.map_some, List.getElem?_toArray, List.getElem?_cons_zero, List.getElem?_cons_succ, Option.bind_some, Option.getD_some])
    | refine wo_nil ?_
    | (apply wo_po; apply mo_move; exact rfl; (first | exact trivial | exact rfl))
    | (apply wo_po; apply mo_assign; exact rfl; (first | exact trivial | exact rfl))
    | (apply wo_po; apply mo_bin; exact rfl; exact rfl; apply bin_add; exact wrap_i64 (by omega) (by omega); (first | exact trivial | exact rfl)))
  rintro v'' L' ⟨kb2, rfl, rfl⟩
  repeat (first
    | (apply wo_mo; apply mo_append (sz := 7) (new := (([⟨6, 0, 2, 0, 0, 0, 1⟩, ⟨19, 0, 1, 2, 0, 0, 23⟩, ⟨3, 0, 3, 9, 2, 0, 1⟩] : List Mach.In).map inC).flatten); exact rfl; exact rfl; exact rfl; exact rfl; exact (.there .here); exact rfl; exact .inr ⟨_, _, rfl, Rds.all .here⟩; exact inC_one; (simp only [sliceLen]; omega); exact trivial))
  rintro v'' L' rfl
  repeat (first
    | refine wo_nil ?_
    | (apply wo_po; apply mo_assign; exact rfl; (first | exact trivial | exact rfl))
    | refine we_ret ?_)
  (first | refine at_ret1 (ex := .ret) Try.func63 Try.results63 hQ (.inl rfl) rfl ?_ | refine at_ret1 (ex := .normal) Try.func63 Try.results63 hQ (.inr rfl) rfl ?_)
  exact ⟨rfl, fun h st => Ent.star (.take .here (.drop (.drop .refl))) st⟩

theorem rds_vec {v : Value} {a : Option Addr} {m c : Nat} {cs : List Value} (hh : Has L (vec 7 (.slice a m c) cs) F) (hc : cs.length = m * 7) (h0 : 0 < m) (ha : a = none → m = 0) (hy : ∀ y, a = some y → y = ⟨y.block, y.off, none⟩) : (a = none ∧ m = 0) ∨ ∃ b o, a = some ⟨b, o, none⟩ ∧ Rds L b o cs := by
  cases a with
  | none => have := ha rfl; omega
  | some y =>
    have e := hy y rfl
    obtain ⟨b, o, s⟩ := y
    simp only [Addr.mk.injEq, true_and] at e
    subst e
    exact .inr ⟨b, o, rfl, fun i v hv => rd_vec hh hv⟩

set_option maxHeartbeats 8000000 in
theorem ref_offer_tr {u : Nat} (h1 : 1 ≤ n) (hn : n ≤ 1024) : Tr Try.prog B 39 [.int .i64 (n : Nat), .int .u64 (u : Nat)] L x fun w L' x' => ∃ a m c, w = .agg #[.slice a m c, .slice none 0 0] ∧ L' = clC (.slice a m c) (.slice none 0 0) (Mach.rofferCl n u) :: L ∧ x' = x := by
  refine Tr.post (R := fun v L' x' => ∃ a m c, v = .agg #[.slice a m c, .slice none 0 0] ∧ x' = x ∧ ∀ h, Star L' h → Star (clC (.slice a m c) (.slice none 0 0) (Mach.rofferCl n u) :: L) h) ?_
    (by rintro v L' x' ⟨a, m, c, rfl, rfl, hs⟩; exact ⟨_, ⟨a, m, c, rfl, rfl, rfl⟩, hs⟩)
  refine tr_of_body Try.func39 rfl Try.ntmps39 (by simp) fun um Q hQ => ?_
  simp only [argE, Nat.zero_add, Nat.reduceAdd]
  repeat (first
    | (apply wo_mo; apply mo_alloc; exact trivial)
    | refine we_seq ?_
    | (refine we_region _ rfl rfl ?_; simp only [opsOf, List.map_cons, List.map_nil, Option.map_none, Option.map_some, List.getElem?_toArray, List.getElem?_cons_zero, List.getElem?_cons_succ, Option.bind_some, Option.getD_some]))
  rintro v' L' ⟨cb, rfl, rfl⟩
  repeat (first
    | (apply wo_po; apply mo_buildV; (repeat (first | exact EvL.nil | apply EvL.cons rfl)); exact rfl; exact trivial)
    | (apply wo_mo; apply mo_buildSlice (sz := 7); exact rfl; (repeat (first | exact EvL.nil | apply EvL.cons rfl)); exact rfl; (repeat (first | exact List.forall_mem_nil _ | refine List.forall_mem_cons.2 ⟨rfl, ?_⟩)); omega; exact trivial)
    | refine we_seq ?_
    | (refine we_region _ rfl rfl ?_; simp only [opsOf, List.map_cons, List.map_nil, Option.map_none, Option.map_some, List.getElem?_toArray, List.getElem?_cons_zero, List.getElem?_cons_succ, Option.bind_some, Option.getD_some])
    | refine wo_nil ?_
    | (apply wo_po; apply mo_move; exact rfl; (first | exact trivial | exact rfl)))
  rintro v' L' ⟨kb0, rfl, rfl⟩
  refine wo_star (vec 7 (.slice (some ⟨kb0, 0, none⟩) 1 1) (([⟨6, 0, 0, 0, 0, 0, u⟩] : List Mach.In).map inC).flatten :: arr cb 0 [.slice none 0 0, .slice none 0 0] :: L) (fun h st => vec_new rfl st) ?_
  repeat (first
    | refine we_seq ?_
    | (refine we_region _ rfl rfl ?_; simp only [opsOf, List.map_cons, List.map_nil, Option.map_none, Option.map_some, List.getElem?_toArray, List.getElem?_cons_zero, List.getElem?_cons_succ, Option.bind_some, Option.getD_some])
    | refine wo_nil ?_
    | (apply wo_po; apply mo_move; exact rfl; (first | exact trivial | exact rfl))
    | (apply wo_po; apply mo_assign; exact rfl; (first | exact trivial | exact rfl)))
  refine wo_call (.cons rfl (.cons rfl (.cons rfl (.cons rfl (.cons rfl .nil))))) trivial (moffer_code_tr h1 hn) ?_
  rintro v' L' x' ⟨rfl, rfl⟩
  refine wo_pure (of_has .here (vec_shape (by omega))) ?_
  rintro ⟨oa, on, oc, rfl, hon, _, ho1, ho2⟩
  replace hon : 154 = on * 7 := hon
  obtain rfl : on = 22 := by omega
  repeat (first
    | (apply wo_mo; apply mo_append (sz := 7) (new := ((Mach.rofferCode n).map inC).flatten); exact rfl; exact rfl; exact rfl; exact rfl; exact (.there .here); exact rfl; exact (rds_vec (v := .nilIface) .here rfl (by omega) ho1 ho2); exact inC_one; (simp only [sliceLen]; omega); exact trivial))
  rintro v' L' rfl
  refine wo_pure (of_has .here (vec_shape (by omega))) ?_
  rintro ⟨va, vn, vc, rfl, hvn, _⟩
  replace hvn : 161 = vn * 7 := hvn
  repeat (first
    | (apply wo_po; apply mo_buildV; (repeat (first | exact EvL.nil | apply EvL.cons rfl)); exact rfl; exact trivial)
    | (apply wo_mo; apply mo_buildSlice (sz := 7); exact rfl; (repeat (first | exact EvL.nil | apply EvL.cons rfl)); exact rfl; (repeat (first | exact List.forall_mem_nil _ | refine List.forall_mem_cons.2 ⟨rfl, ?_⟩)); omega; exact trivial)
    | refine we_seq ?_
    | (refine we_region _ rfl rfl ?_; simp only [opsOf, List.map_cons, List.map_nil, Option.map_none, Option.map_some, List.getElem?_toArray, List.getElem?_cons_zero, List.getElem?_cons_succ, Option.bind_some, Option.getD_some])
    | refine wo_nil ?_
    | (apply wo_po; apply mo_move; exact rfl; (first | exact trivial | exact rfl))
    | (apply wo_po; apply mo_assign; exact rfl; (first | exact trivial | exact rfl)))
  rintro v'' L' ⟨kb2, rfl, rfl⟩
  repeat (first
    | (apply wo_mo; apply mo_append (sz := 7) (new := (([⟨22, 0, 1, 0, 0, 0, 0⟩] : List Mach.In).map inC).flatten); exact rfl; exact rfl; exact rfl; exact rfl; exact (.there .here); exact rfl; exact .inr ⟨_, _, rfl, Rds.all .here⟩; exact inC_one; (simp only [sliceLen]; omega); exact trivial))
  rintro v'' L' rfl
  refine wo_pure (of_has .here (vec_shape (by omega))) ?_
  rintro ⟨qa, qn, qc, rfl, hqn, _⟩
  repeat (first
    | (apply wo_po; apply mo_buildV; (repeat (first | exact EvL.nil | apply EvL.cons rfl)); exact rfl; exact trivial)
    | (apply wo_pm; apply mo_storeA (b := cb) (c := 0) (k := 0) (a := 0) (vs := [.slice none 0 0, .slice none 0 0]); exact rfl; exact rfl; exact rfl; (intro w hw; simp [Value.cells] at hw; rcases hw with rfl | rfl <;> rfl); exact rfl; exact Nat.le_refl 2; exact (.there (.there (.there .here))); exact trivial)
    | refine wo_nil ?_
    | refine we_ret ?_)
  refine at_leaveM (rs := [.cell 4 47]) Try.func39 Try.results39 hQ (.inl rfl) (.cons (.cell (vs := [.slice qa qn qc, .slice none 0 0]) rfl rfl (Rds.all (.there (.there (.there .here))))) .nil) ?_
  refine ⟨qa, qn, qc, rfl, rfl, fun h st => ?_⟩
  refine cl_shut (cl := Mach.rofferCl n u) ?_ rfl (Ent.star (.take .here (.drop (.drop (.drop .refl)))) st)
  rfl

set_option maxHeartbeats 8000000 in
theorem ref_take_tr (h1 : 1 ≤ n) (hn : n ≤ 1024) : Tr Try.prog B 40 [.int .i64 (n : Nat)] L x fun w L' x' => ∃ a m c, w = .agg #[.slice a m c, .slice none 0 0] ∧ L' = clC (.slice a m c) (.slice none 0 0) (Mach.rtakeCl n) :: L ∧ x' = x := by
  refine Tr.post (R := fun v L' x' => ∃ a m c, v = .agg #[.slice a m c, .slice none 0 0] ∧ x' = x ∧ ∀ h, Star L' h → Star (clC (.slice a m c) (.slice none 0 0) (Mach.rtakeCl n) :: L) h) ?_
    (by rintro v L' x' ⟨a, m, c, rfl, rfl, hs⟩; exact ⟨_, ⟨a, m, c, rfl, rfl, rfl⟩, hs⟩)
  refine tr_of_body Try.func40 rfl Try.ntmps40 (by simp) fun um Q hQ => ?_
  simp only [argE, Nat.zero_add, Nat.reduceAdd]
  repeat (first
    | (apply wo_mo; apply mo_alloc; exact trivial)
    | refine we_seq ?_
    | (refine we_region _ rfl rfl ?_; simp only [opsOf, List.map_cons, List.map_nil, Option.map_none, Option.map_some, List.getElem?_toArray, List.getElem?_cons_zero, List.getElem?_cons_succ, Option.bind_some, Option.getD_some]))
  rintro v' L' ⟨cb, rfl, rfl⟩
  repeat (first
    | refine we_seq ?_
    | (refine we_region _ rfl rfl ?_; simp only [opsOf, List.map_cons, List.map_nil, Option.map_none, Option.map_some, List.getElem?_toArray, List.getElem?_cons_zero, List.getElem?_cons_succ, Option.bind_some, Option.getD_some])
    | refine wo_nil ?_
    | (apply wo_po; apply mo_move; exact rfl; (first | exact trivial | exact rfl)))
  refine wo_call (.cons rfl (.cons rfl (.cons rfl (.cons rfl (.cons rfl .nil))))) trivial (take_code_tr (on := 1) (a := 0) h1 hn (by omega) (by omega)) ?_
  rintro v' L' x' ⟨kb, rfl, rfl, rfl⟩
  refine wo_star (vec 7 (.slice (some ⟨kb, 0, none⟩) 19 19) ((Mach.qtakeCode 1 n 0).map inC).flatten :: arr cb 0 [.slice none 0 0, .slice none 0 0] :: L) (fun h st => vec_new rfl st) ?_
  repeat (first
    | (apply wo_po; apply mo_buildV; (repeat (first | exact EvL.nil | apply EvL.cons rfl)); exact rfl; exact trivial)
    | (apply wo_mo; apply mo_buildSlice (sz := 7); exact rfl; (repeat (first | exact EvL.nil | apply EvL.cons rfl)); exact rfl; (repeat (first | exact List.forall_mem_nil _ | refine List.forall_mem_cons.2 ⟨rfl, ?_⟩)); omega; exact trivial)
    | refine we_seq ?_
    | (refine we_region _ rfl rfl ?_; simp only [opsOf, List.map_cons, List.map_nil, Option.map_none, Option.map_some, List.getElem?_toArray, List.getElem?_cons_zero, List.getElem?_cons_succ, Option.bind_some, Option.getD_some])
    | refine wo_nil ?_
    | (apply wo_po; apply mo_move; exact rfl; (first | exact trivial | exact rfl))
    | (apply wo_po; apply mo_assign; exact rfl; (first | exact trivial | exact rfl)))
  rintro v'' L' ⟨kb2, rfl, rfl⟩
  repeat (first
    | (apply wo_mo; apply mo_append (sz := 7) (new := (([⟨6, 0, 2, 0, 0, 0, 1⟩, ⟨19, 0, 1, 9, 0, 0, 22⟩, ⟨3, 0, 3, 9, 2, 0, 2⟩, ⟨22, 0, 0, 0, 0, 0, 0⟩, ⟨22, 0, 1, 0, 0, 0, 0⟩] : List Mach.In).map inC).flatten); exact rfl; exact rfl; exact rfl; exact rfl; exact (.there .here); exact rfl; exact .inr ⟨_, _, rfl, Rds.all .here⟩; exact inC_one; (simp only [sliceLen]; omega); exact trivial))
  rintro v'' L' rfl
  refine wo_pure (of_has .here (vec_shape (by omega))) ?_
  rintro ⟨qa, qn, qc, rfl, hqn, _⟩
  repeat (first
    | (apply wo_po; apply mo_buildV; (repeat (first | exact EvL.nil | apply EvL.cons rfl)); exact rfl; exact trivial)
    | (apply wo_pm; apply mo_storeA (b := cb) (c := 0) (k := 0) (a := 0) (vs := [.slice none 0 0, .slice none 0 0]); exact rfl; exact rfl; exact rfl; (intro w hw; simp [Value.cells] at hw; rcases hw with rfl | rfl <;> rfl); exact rfl; exact Nat.le_refl 2; exact (.there (.there .here)); exact trivial)
    | refine wo_nil ?_
    | refine we_ret ?_)
  refine at_leaveM (rs := [.cell 2 47]) Try.func40 Try.results40 hQ (.inl rfl) (.cons (.cell (vs := [.slice qa qn qc, .slice none 0 0]) rfl rfl (Rds.all (.there (.there .here)))) .nil) ?_
  refine ⟨qa, qn, qc, rfl, rfl, fun h st => ?_⟩
  refine cl_shut (cl := Mach.rtakeCl n) ?_ rfl (Ent.star (.take .here (.drop (.drop .refl))) st)
  rfl

def cloads (i : Nat) : List Mach.In := (List.range i).map fun j => ⟨1, 0, j, 9, 0, 0, j⟩
theorem cloads_succ {i : Nat} : ((cloads (i + 1)).map inC).flatten = ((cloads i).map inC).flatten ++ (([⟨1, 0, i, 9, 0, 0, i⟩] : List Mach.In).map inC).flatten := by
  simp [cloads, List.range_succ]
theorem cloads_len {i : Nat} : ((cloads i).map inC).flatten.length = i * 7 := by
  induction i with
  | zero => rfl
  | succ i ih => rw [cloads_succ, List.length_append, ih, Nat.succ_mul]; rfl
/-- ahead of a round of Counts -/
def ccInv (x : B.X) (cb : Nat) (L : List HProp) : Inv (Nat × Value) B.X where
  e := fun i => [(0, .pointer (some ⟨cb, 0, none⟩)), (1, i.2), (2, .int .i64 (i.1 : Nat))]
  L := fun i => vec 7 i.2 ((cloads i.1).map inC).flatten :: arr cb 0 [.slice none 0 0, .slice none 0 0] :: L
  x := fun _ => x
  ok := fun i => i.1 ≤ 3

set_option maxHeartbeats 8000000 in
theorem ref_counts_tr : Tr Try.prog B 41 [] L x fun w L' x' => ∃ a m c, w = .agg #[.slice a m c, .slice none 0 0] ∧ L' = clC (.slice a m c) (.slice none 0 0) (Mach.rcountsCl) :: L ∧ x' = x := by
  refine Tr.post (R := fun v L' x' => ∃ a m c, v = .agg #[.slice a m c, .slice none 0 0] ∧ x' = x ∧ ∀ h, Star L' h → Star (clC (.slice a m c) (.slice none 0 0) (Mach.rcountsCl) :: L) h) ?_
    (by rintro v L' x' ⟨a, m, c, rfl, rfl, hs⟩; exact ⟨_, ⟨a, m, c, rfl, rfl, rfl⟩, hs⟩)
  refine tr_of_body Try.func41 rfl Try.ntmps41 (by simp) fun um Q hQ => ?_
  simp only [argE, Nat.zero_add, Nat.reduceAdd]
  repeat (first
    | (apply wo_mo; apply mo_alloc; exact trivial)
    | refine we_seq ?_
    | (refine we_region _ rfl rfl ?_; simp only [opsOf, List.map_cons, List.map_nil, Option.map_none, Option.map_some, List.getElem?_toArray, List.getElem?_cons_zero, List.getElem?_cons_succ, Option.bind_some, Option.getD_some]))
  rintro v' L' ⟨cb, rfl, rfl⟩
  repeat (first
    | refine we_seq ?_
    | (refine we_region _ rfl rfl ?_; simp only [opsOf, List.map_cons, List.map_nil, Option.map_none, Option.map_some, List.getElem?_toArray, List.getElem?_cons_zero, List.getElem?_cons_succ, Option.bind_some, Option.getD_some])
    | refine wo_nil ?_
    | (apply wo_po; apply mo_assign; exact rfl; (first | exact trivial | exact rfl)))
  refine we_block ?_
  refine we_star ((ccInv x cb L).L (0, .slice none 0 0)) (fun h st => vec_nil st) ?_
  refine we_loopN (ccInv x cb L) (fun i => 4 - i.1) (0, .slice none 0 0) (by show 0 ≤ 3; omega) ⟨rfl, rfl, rfl, trivial⟩ .refl rfl ?_
  rintro ⟨i, cv⟩ hi
  dsimp only [ccInv] at hi ⊢
  refine we_pure (of_has .here (vec_shape (by omega))) ?_
  rintro ⟨va, vn, vc, rfl, hvn, _⟩
  rw [cloads_len] at hvn
  by_cases hc : i < 3
  · repeat (first
      | (apply wo_po; apply mo_conv; exact rfl; exact (show IntKind.u64.wrap ((i : Nat) : Int) = ((i : Nat) : Int) from wrap_u64 (by omega) (by omega)); exact trivial)
      | (apply wo_po; apply mo_buildV; (repeat (first | exact EvL.nil | apply EvL.cons rfl)); exact rfl; exact trivial)
      | (apply wo_mo; apply mo_buildSlice (sz := 7); exact rfl; (repeat (first | exact EvL.nil | apply EvL.cons rfl)); exact rfl; (repeat (first | exact List.forall_mem_nil _ | refine List.forall_mem_cons.2 ⟨rfl, ?_⟩)); omega; exact trivial)
      | (apply wo_po; apply mo_bin; exact rfl; exact rfl; apply bin_lssT; omega; (first | exact trivial | exact rfl))
      | refine we_seq ?_
      | (refine we_region _ rfl rfl ?_; simp only [opsOf, List.map_cons, List.map_nil, Option.map_none, Option.map_some, List.getElem?_toArray, List.getElem?_cons_zero, List.getElem?_cons_succ, Option.bind_some, Option.getD_some])
      | refine wo_nil ?_
      | (apply wo_po; apply mo_move; exact rfl; (first | exact trivial | exact rfl))
      | (apply we_condT; exact rfl; (first | exact rfl | (simp <;> omega) | omega))
      | refine we_skip ?_
      | refine we_block ?_)
    rintro v'' L' ⟨kb2, rfl, rfl⟩
    repeat (first
      | (apply wo_mo; apply mo_append (sz := 7) (new := (([⟨1, 0, i, 9, 0, 0, i⟩] : List Mach.In).map inC).flatten); exact rfl; exact rfl; exact rfl; exact rfl; exact (.there .here); exact rfl; exact .inr ⟨_, _, rfl, Rds.all .here⟩; exact inC_one; (simp only [sliceLen]; omega); exact trivial))
    rintro v'' L' rfl
    repeat (first
      | (refine we_region _ rfl rfl ?_; simp only [opsOf, List.map_cons, List.map_nil, Option.map_none, Option.map_some, List.getElem?_toArray, List.getElem?_cons_zero, List.getElem?_cons_succ, Option.bind_some, Option.getD_some])
      | refine wo_nil ?_
      | (apply wo_po; apply mo_move; exact rfl; (first | exact trivial | exact rfl))
      | (apply wo_po; apply mo_assign; exact rfl; (first | exact trivial | exact rfl))
      | (apply wo_po; apply mo_bin; exact rfl; exact rfl; apply bin_add; exact wrap_i64 (by omega) (by omega); (first | exact trivial | exact rfl)))
    refine at_roundS (I := ccInv x cb L) (R := fun i' => 4 - i'.1 < 4 - i) (i + 1, _) (by show 4 - (i + 1) < 4 - i; omega) (by show i + 1 ≤ 3; omega) ⟨rfl, rfl, rfl, trivial⟩ (fun h st => ?_) rfl
    dsimp only [ccInv]
    rw [cloads_succ]
    exact Ent.star (.take .here (.take (.there .here) (.drop .refl))) st
  · obtain rfl : i = 3 := by omega
    repeat (first
      | (apply wo_po; apply mo_buildV; (repeat (first | exact EvL.nil | apply EvL.cons rfl)); exact rfl; exact trivial)
      | (apply wo_mo; apply mo_buildSlice (sz := 7); exact rfl; (repeat (first | exact EvL.nil | apply EvL.cons rfl)); exact rfl; (repeat (first | exact List.forall_mem_nil _ | refine List.forall_mem_cons.2 ⟨rfl, ?_⟩)); omega; exact trivial)
      | (apply wo_po; apply mo_bin; exact rfl; exact rfl; apply bin_lssF; omega; (first | exact trivial | exact rfl))
      | refine we_seq ?_
      | (refine we_region _ rfl rfl ?_; simp only [opsOf, List.map_cons, List.map_nil, Option.map_none, Option.map_some, List.getElem?_toArray, List.getElem?_cons_zero, List.getElem?_cons_succ, Option.bind_some, Option.getD_some])
      | refine wo_nil ?_
      | (apply wo_po; apply mo_move; exact rfl; (first | exact trivial | exact rfl))
      | (apply we_condF; exact rfl; (first | exact rfl | (simp <;> omega) | omega))
      | refine we_exit ?_)
    rintro v'' L' ⟨kb2, rfl, rfl⟩
    repeat (first
      | (apply wo_mo; apply mo_append (sz := 7) (new := (([⟨22, 0, 0, 0, 0, 0, 0⟩, ⟨22, 0, 1, 0, 0, 0, 0⟩, ⟨22, 0, 2, 0, 0, 0, 0⟩] : List Mach.In).map inC).flatten); exact rfl; exact rfl; exact rfl; exact rfl; exact (.there .here); exact rfl; exact .inr ⟨_, _, rfl, Rds.all .here⟩; exact inC_one; (simp only [sliceLen]; omega); exact trivial))
    rintro v'' L' rfl
    refine wo_pure (of_has .here (vec_shape (by omega))) ?_
    rintro ⟨qa, qn, qc, rfl, hqn, _⟩
    repeat (first
      | (apply wo_po; apply mo_buildV; (repeat (first | exact EvL.nil | apply EvL.cons rfl)); exact rfl; exact trivial)
      | (apply wo_pm; apply mo_storeA (b := cb) (c := 0) (k := 0) (a := 0) (vs := [.slice none 0 0, .slice none 0 0]); exact rfl; exact rfl; exact rfl; (intro w hw; simp [Value.cells] at hw; rcases hw with rfl | rfl <;> rfl); exact rfl; exact Nat.le_refl 2; exact (.there (.there .here)); exact trivial)
      | refine wo_nil ?_
      | refine we_ret ?_)
    refine at_leaveM (rs := [.cell 0 47]) Try.func41 Try.results41 hQ (.inl rfl) (.cons (.cell (vs := [.slice qa qn qc, .slice none 0 0]) rfl rfl (Rds.all (.there (.there .here)))) .nil) ?_
    refine ⟨qa, qn, qc, rfl, rfl, fun h st => ?_⟩
    refine cl_shut (cl := Mach.rcountsCl) ?_ rfl (Ent.star (.take .here (.drop (.drop .refl))) st)
    rfl
end
end Go.Proofs.Ytmkkanmkjfnpdaa
