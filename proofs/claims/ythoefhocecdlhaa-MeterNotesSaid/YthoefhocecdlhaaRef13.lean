/-
  patchbayref13: May, World, the codes, Take, State, Level.
-/
import Derived.Test.YthoefhocecdlhaaMeter13n
set_option linter.unusedVariables false
set_option linter.unusedSimpArgs false
namespace Go.Proofs.Ythoefhocecdlhaa
open Go Go.PB
attribute [local irreducible] Mo Bin Eql Tr Wo Ap Wle

section
variable {B : Hand} [Lets B] {L F : List HProp} {x : B.X} {num den burst now n : Nat}

theorem rmay_ok (O : BOk num den burst) : Tr Try.prog B 15 [.agg #[.int .u64 (num : Nat), .int .u64 (den : Nat), .int .u64 (burst : Nat)]] L x fun v L' x' => v = .bool true ∧ L' = L ∧ x' = x := by
  obtain ⟨n1, n2, d1, d2, b1, b2⟩ := O
  refine Tr.post (R := fun v L' x' => v = .bool true ∧ x' = x ∧ ∀ h, Star L' h → Star L h) ?_ (by rintro v L' x' ⟨h0, rfl, hs⟩; exact ⟨L, ⟨h0, rfl, rfl⟩, hs⟩)
  refine tr_of_body Try.func15 rfl Try.ntmps15 (by simp) fun um Q hQ => ?_
  simp only [argE, Nat.zero_add, Nat.reduceAdd]
  repeat (first
    | (apply wo_mo; apply mo_box; exact rfl; exact trivial)
    | refine we_seq ?_
    | (refine we_region _ rfl rfl ?_; simp only [opsOf, List.map_cons, List.map_nil, Option.map_none, Option.map_some, List.getElem?_toArray, List.getElem?_cons_zero, List.getElem?_cons_succ, Option.bind_some, Option.getD_some]))
  rintro v' L' ⟨bb, rfl, rfl⟩
  refine wo_ent (arr bb 0 [.int .u64 (num : Nat), .int .u64 (den : Nat), .int .u64 (burst : Nat)] :: L) .refl ?_
  repeat (first
    | (apply wo_po; apply mo_bin; exact rfl; exact rfl; apply bin_leqT; omega; (first | exact trivial | exact rfl))
    | (apply wo_po; apply mo_bin; exact rfl; exact rfl; apply bin_geqT; omega; (first | exact trivial | exact rfl))
    | refine we_seq ?_
    | (refine we_region _ rfl rfl ?_; simp only [opsOf, List.map_cons, List.map_nil, Option.map_none, Option.map_some, List.getElem?_toArray, List.getElem?_cons_zero, List.getElem?_cons_succ, Option.bind_some, Option.getD_some])
    | refine wo_nil ?_
    | (apply wo_po; apply mo_move; exact rfl; (first | exact trivial | exact rfl))
    | (apply wo_po; apply mo_assign; exact rfl; (first | exact trivial | exact rfl))
    | (apply wo_po; apply mo_pickT; exact rfl; exact rfl; exact rfl; (first | exact trivial | exact rfl))
    | (apply wo_po; apply mo_fieldAddr; exact rfl; exact rfl; (first | exact Nat.zero_add _ | exact rfl); (first | exact trivial | exact rfl))
    | (apply wo_po; apply mo_load; exact rfl; (repeat (first | exact Rd.row0 rfl | exact Rd.row rfl rfl | exact Rd.still | apply Rd.there)); (first | exact trivial | exact rfl))
    | refine we_ret ?_)
  (first | refine at_ret1 (ex := .ret) Try.func15 Try.results15 hQ (.inl rfl) rfl ?_ | refine at_ret1 (ex := .normal) Try.func15 Try.results15 hQ (.inr rfl) rfl ?_)
  exact ⟨rfl, rfl, fun h st => star_drop st⟩

theorem rmay_no (O : ¬ BOk num den burst) : Tr Try.prog B 15 [.agg #[.int .u64 (num : Nat), .int .u64 (den : Nat), .int .u64 (burst : Nat)]] L x fun v L' x' => v = .bool false ∧ L' = L ∧ x' = x := by
  have hc : (num < 1) ∨ (1 ≤ num ∧ 65536 < num) ∨ (1 ≤ num ∧ num ≤ 65536 ∧ den < 1) ∨ (1 ≤ num ∧ num ≤ 65536 ∧ 1 ≤ den ∧ 65536 < den) ∨ (1 ≤ num ∧ num ≤ 65536 ∧ 1 ≤ den ∧ den ≤ 65536 ∧ burst < 1) ∨ (1 ≤ num ∧ num ≤ 65536 ∧ 1 ≤ den ∧ den ≤ 65536 ∧ 1 ≤ burst ∧ 1048576 < burst) := by
    have : ¬ (1 ≤ num ∧ num ≤ 65536 ∧ 1 ≤ den ∧ den ≤ 65536 ∧ 1 ≤ burst ∧ burst ≤ 1048576) := fun ⟨a, b, c, d, e, f⟩ => O ⟨a, b, c, d, e, f⟩
    omega
  refine Tr.post (R := fun v L' x' => v = .bool false ∧ x' = x ∧ ∀ h, Star L' h → Star L h) ?_ (by rintro v L' x' ⟨h0, rfl, hs⟩; exact ⟨L, ⟨h0, rfl, rfl⟩, hs⟩)
  refine tr_of_body Try.func15 rfl Try.ntmps15 (by simp) fun um Q hQ => ?_
  simp only [argE, Nat.zero_add, Nat.reduceAdd]
  repeat (first
    | (apply wo_mo; apply mo_box; exact rfl; exact trivial)
    | refine we_seq ?_
    | (refine we_region _ rfl rfl ?_; simp only [opsOf, List.map_cons, List.map_nil, Option.map_none, Option.map_some, List.getElem?_toArray, List.getElem?_cons_zero, List.getElem?_cons_succ, Option.bind_some, Option.getD_some]))
  rintro v' L' ⟨bb, rfl, rfl⟩
  refine wo_ent (arr bb 0 [.int .u64 (num : Nat), .int .u64 (den : Nat), .int .u64 (burst : Nat)] :: L) .refl ?_
  rcases hc with c | c | c | c | c | c
  all_goals
    repeat (first
      | (apply wo_po; apply mo_bin; exact rfl; exact rfl; apply bin_leqT; omega; (first | exact trivial | exact rfl))
      | (apply wo_po; apply mo_bin; exact rfl; exact rfl; apply bin_leqF; omega; (first | exact trivial | exact rfl))
      | (apply wo_po; apply mo_bin; exact rfl; exact rfl; apply bin_geqT; omega; (first | exact trivial | exact rfl))
      | (apply wo_po; apply mo_bin; exact rfl; exact rfl; apply bin_geqF; omega; (first | exact trivial | exact rfl))
      | refine we_seq ?_
      | (refine we_region _ rfl rfl ?_; simp only [opsOf, List.map_cons, List.map_nil, Option.map_none, Option.map_some, List.getElem?_toArray, List.getElem?_cons_zero, List.getElem?_cons_succ, Option.bind_some, Option.getD_some])
      | refine wo_nil ?_
      | (apply wo_po; apply mo_move; exact rfl; (first | exact trivial | exact rfl))
      | (apply wo_po; apply mo_assign; exact rfl; (first | exact trivial | exact rfl))
      | (apply wo_no; exact rfl)
      | (apply wo_po; apply mo_pickT; exact rfl; exact rfl; exact rfl; (first | exact trivial | exact rfl))
      | (apply wo_po; apply mo_pickF; exact rfl; exact rfl; exact rfl; (first | exact trivial | exact rfl))
      | (apply wo_po; apply mo_fieldAddr; exact rfl; exact rfl; (first | exact Nat.zero_add _ | exact rfl); (first | exact trivial | exact rfl))
      | (apply wo_po; apply mo_load; exact rfl; (repeat (first | exact Rd.row0 rfl | exact Rd.row rfl rfl | exact Rd.still | apply Rd.there)); (first | exact trivial | exact rfl))
      | refine we_ret ?_)
    (first | refine at_ret1 (ex := .ret) Try.func15 Try.results15 hQ (.inl rfl) rfl ?_ | refine at_ret1 (ex := .normal) Try.func15 Try.results15 hQ (.inr rfl) rfl ?_)
    exact ⟨rfl, rfl, fun h st => star_drop st⟩

theorem world_tr : Tr Try.prog B 16 [] L x fun w L' x' => ∃ wv lv, w = .agg #[wv, lv] ∧ L' = wvC wv lv ⟨[[0]], 1⟩ :: L ∧ x' = x := by
  refine Tr.post (R := fun v L' x' => ∃ wv lv, v = .agg #[wv, lv] ∧ x' = x ∧ ∀ h, Star L' h → Star (wvC wv lv ⟨[[0]], 1⟩ :: L) h) ?_
    (by rintro v L' x' ⟨wv, lv, rfl, rfl, hs⟩; exact ⟨_, ⟨wv, lv, rfl, rfl, rfl⟩, hs⟩)
  refine tr_of_body Try.func16 rfl Try.ntmps16 (by simp) fun um Q hQ => ?_
  simp only [argE, Nat.zero_add, Nat.reduceAdd]
  repeat (first
    | (apply wo_mo; apply mo_alloc; exact trivial)
    | refine we_seq ?_
    | (refine we_region _ rfl rfl ?_; simp only [opsOf, List.map_cons, List.map_nil, Option.map_none, Option.map_some, List.getElem?_toArray, List.getElem?_cons_zero, List.getElem?_cons_succ, Option.bind_some, Option.getD_some]))
  rintro v' L' ⟨cb, rfl, rfl⟩
  repeat (first
    | (apply wo_mo; apply mo_buildSlice (sz := 1) (vs := [Go.PB.num 0]); exact rfl; (repeat (first | exact EvL.nil | apply EvL.cons rfl)); exact rfl; (repeat (first | exact List.forall_mem_nil _ | refine List.forall_mem_cons.2 ⟨rfl, ?_⟩)); omega; exact trivial)
    | refine we_seq ?_
    | (refine we_region _ rfl rfl ?_; simp only [opsOf, List.map_cons, List.map_nil, Option.map_none, Option.map_some, List.getElem?_toArray, List.getElem?_cons_zero, List.getElem?_cons_succ, Option.bind_some, Option.getD_some])
    | refine wo_nil ?_)
  rintro v' L' ⟨qb, rfl, rfl⟩
  repeat (first
    | (apply wo_mo; apply mo_buildSlice (sz := 1) (vs := [.slice (some ⟨qb, 0, none⟩) 1 1]); exact rfl; (repeat (first | exact EvL.nil | apply EvL.cons rfl)); exact rfl; (repeat (first | exact List.forall_mem_nil _ | refine List.forall_mem_cons.2 ⟨rfl, ?_⟩)); omega; exact trivial))
  rintro v' L' ⟨rb, rfl, rfl⟩
  repeat (first
    | (apply wo_mo; apply mo_buildSlice (sz := 1) (vs := [.slice none 0 0]); exact rfl; (repeat (first | exact EvL.nil | apply EvL.cons rfl)); exact rfl; (repeat (first | exact List.forall_mem_nil _ | refine List.forall_mem_cons.2 ⟨rfl, ?_⟩)); omega; exact trivial))
  rintro v' L' ⟨lb, rfl, rfl⟩
  repeat (first
    | (apply wo_po; apply mo_buildV; (repeat (first | exact EvL.nil | apply EvL.cons rfl)); exact rfl; exact trivial)
    | (apply wo_pm; apply mo_storeA (b := cb) (c := 0) (k := 0) (a := 0) (vs := [.slice none 0 0, .slice none 0 0]); exact rfl; exact rfl; exact rfl; (intro w hw; simp [Value.cells] at hw; rcases hw with rfl | rfl <;> rfl); exact rfl; exact Nat.le_refl 2; exact (.there (.there (.there .here))); exact trivial)
    | refine wo_nil ?_
    | refine we_ret ?_)
  refine at_leaveM (rs := [.cell 0 48]) Try.func16 Try.results16 hQ (.inl rfl) (.cons (.cell (vs := [.slice (some ⟨rb, 0, none⟩) 1 1, .slice (some ⟨lb, 0, none⟩) 1 1]) rfl rfl (Rds.all (.there (.there (.there .here))))) .nil) ?_
  refine ⟨_, _, rfl, rfl, fun h st => ?_⟩
  have s1 : Star (arr lb 0 [.slice none 0 0] :: arr rb 0 [.slice (some ⟨qb, 0, none⟩) 1 1] :: arr qb 0 [Go.PB.num 0] :: L) h := Ent.star (.take .here (.take .here (.take .here (.drop .refl)))) st
  refine wv_shut (wl := [(.slice (some ⟨qb, 0, none⟩) 1 1, [0])]) (lw := [.slice none 0 0]) rfl ?_ rfl ?_
  · refine ⟨by show 1 < 1000000; omega, by show 1 < 1000000; omega, fun l hl => by cases (List.mem_singleton.1 hl); show 1 < 1000000; omega, fun l hl v hv => ?_⟩
    cases (List.mem_singleton.1 hl)
    cases (List.mem_singleton.1 hv)
    omega
  · refine star_map (vec_new (n := 1) (sz := 1) rfl s1) (fun _ y => y) fun _ y => ?_
    refine star_shut (M := [_]) (vec_nil ?_)
    refine star_map (vec_new (n := 1) (sz := 1) rfl y) (fun _ y => y) fun _ z => ?_
    refine star_shut (M := [_]) ?_
    exact vec_new (n := 1) (sz := 1) rfl z

def tells (a b : Nat) : List Mach.In := [⟨22, 0, a, 0, 0, 0, 0⟩, ⟨22, 0, b, 0, 0, 0, 0⟩]
/-- ahead of a round of tell -/
def tellInv (x : B.X) (F : List HProp) (cb lb : Nat) (code : List Mach.In) (a b : Nat) : Inv (Nat × Option Addr × Nat × Nat) B.X where
  e := fun i => [(0, .slice i.2.1 i.2.2.1 i.2.2.2), (1, .slice (some ⟨lb, 0, none⟩) 2 2), (4, .pointer (some ⟨cb, 0, none⟩)), (5, .int .i64 (i.1 : Nat))]
  L := fun i => vec 7 (.slice i.2.1 i.2.2.1 i.2.2.2) ((code ++ (tells a b).take i.1).map inC).flatten :: arr cb 0 [.slice none 0 0, .slice none 0 0] :: arr lb 0 [.int .i64 (a : Nat), .int .i64 (b : Nat)] :: F
  x := fun _ => x
  ok := fun i => i.1 ≤ 2

theorem tell_tr {ka : Option Addr} {kn kc lb a b : Nat} {code : List Mach.In} (hl : code.length ≤ 100) (hh : Has L (vec 7 (.slice ka kn kc) (code.map inC).flatten) (arr lb 0 [.int .i64 (a : Nat), .int .i64 (b : Nat)] :: F)) :
    Tr Try.prog B 70 [.slice ka kn kc, .slice (some ⟨lb, 0, none⟩) 2 2] L x fun w L' x' => ∃ a' m c, w = .agg #[.slice a' m c, .slice none 0 0] ∧ L' = clC (.slice a' m c) (.slice none 0 0) ⟨code ++ tells a b, []⟩ :: F ∧ x' = x := by
  refine Tr.post (R := fun v L' x' => ∃ a' m c, v = .agg #[.slice a' m c, .slice none 0 0] ∧ x' = x ∧ ∀ h, Star L' h → Star (clC (.slice a' m c) (.slice none 0 0) ⟨code ++ tells a b, []⟩ :: F) h) ?_
    (by rintro v L' x' ⟨a', m, c, rfl, rfl, hs⟩; exact ⟨_, ⟨a', m, c, rfl, rfl, rfl⟩, hs⟩)
  refine tr_star (vec 7 (.slice ka kn kc) (code.map inC).flatten :: arr lb 0 [.int .i64 (a : Nat), .int .i64 (b : Nat)] :: F) (fun h st => hh.star st) ?_
  refine tr_of_body Try.func70 rfl Try.ntmps70 (by simp) fun um Q hQ => ?_
  simp only [argE, Nat.zero_add, Nat.reduceAdd]
  repeat (first
    | (apply wo_mo; apply mo_alloc; exact trivial)
    | refine we_seq ?_
    | (refine we_region _ rfl rfl ?_; simp only [opsOf, List.map_cons, List.map_nil, Option.map_none, Option.map_some, List.getElem?_toArray, List.getElem?_cons_zero, List.getElem?_cons_succ, Option.bind_some, Option.getD_some]))
  rintro v' L' ⟨cb, rfl, rfl⟩
  repeat (first
    | refine we_seq ?_
    | (refine we_region _ rfl rfl ?_; simp only [opsOf, List.map_cons, List.map_nil, Option.map_none, Option.map_some, List.getElem?_toArray, List.getElem?_cons_zero, List.getElem?_cons_succ, Option.bind_some, Option.getD_some])
    | refine wo_nil ?_
    | (apply wo_po; apply mo_assign; exact rfl; (first | exact trivial | exact rfl))
    | refine we_block ?_)
  refine we_loopN (tellInv x F cb lb code a b) (fun i => 3 - i.1) (0, ka, kn, kc) (by show 0 ≤ 2; omega) ⟨rfl, rfl, rfl, rfl, trivial⟩ ?_ rfl ?_
  · show Ent _ (vec 7 (.slice ka kn kc) ((code ++ []).map inC).flatten :: arr cb 0 [.slice none 0 0, .slice none 0 0] :: arr lb 0 [.int .i64 (a : Nat), .int .i64 (b : Nat)] :: F)
    rw [List.append_nil]
    exact (.take (.there .here) (.take .here (.take .here .refl)))
  rintro ⟨i, sa, sn, sc⟩ hi
  dsimp only [tellInv] at hi ⊢
  by_cases hc : i < 2
  · refine we_pure (of_has .here (vec_shape (by omega))) ?_
    rintro ⟨sa', sn', sc', he, hlen, _⟩
    cases he
    have hsn : sn ≤ 102 := by
      have h7 := flat_len (f := inC) (k := 7) (fun _ => rfl) (code ++ (tells a b).take i)
      rw [h7, List.length_append, List.length_take] at hlen
      have : (tells a b).length = 2 := rfl
      omega
    obtain ⟨y, hy⟩ : ∃ y, [a, b][i]? = some y := ⟨[a, b][i]'(by simp; omega), by simp⟩
    have hrd : Rd (vec 7 (.slice sa sn sc) ((code ++ (tells a b).take i).map inC).flatten :: arr cb 0 [.slice none 0 0, .slice none 0 0] :: arr lb 0 [.int .i64 (a : Nat), .int .i64 (b : Nat)] :: F) lb i (.int .i64 (y : Nat)) := by
      refine Rd.there (Rd.there ?_)
      match i, hy with
      | 0, hy => cases hy; exact Rd.row (k := 0) rfl rfl
      | 1, hy => cases hy; exact Rd.row (k := 1) rfl rfl
    repeat (first
      | (apply wo_po; apply mo_indexAddr (r := i); exact rfl; exact rfl; omega; omega; omega; exact trivial)
      | (apply wo_po; apply mo_load; exact rfl; exact hrd; exact trivial)
      | (apply wo_po; apply mo_buildV; (repeat (first | exact EvL.nil | apply EvL.cons rfl)); exact rfl; exact trivial)
      | (apply wo_mo; apply mo_buildSlice (sz := 7); exact rfl; (repeat (first | exact EvL.nil | apply EvL.cons rfl)); exact rfl; (repeat (first | exact List.forall_mem_nil _ | refine List.forall_mem_cons.2 ⟨rfl, ?_⟩)); omega; exact trivial)
      | (apply wo_po; apply mo_bin; exact rfl; exact rfl; apply bin_lssT; omega; (first | exact trivial | exact rfl))
      | refine we_seq ?_
      | (refine we_region _ rfl rfl ?_; simp only [opsOf, List.map_cons, List.map_nil, Option.map_none, Option.map_some, List.getElem?_toArray, List.getElem?_cons_zero, List.getElem?_cons_succ, Option.bind_some, Option.getD_some])
      | refine wo_nil ?_
      | (apply wo_po; apply mo_move; exact rfl; (first | exact trivial | exact rfl))
      | (apply wo_po; apply mo_len; exact rfl; (first | exact trivial | exact rfl))
      | (apply we_condT; exact rfl; (first | exact rfl | (simp <;> omega) | omega))
      | refine we_skip ?_
      | refine we_block ?_)
    rintro v' L' ⟨sb, rfl, rfl⟩
    repeat (first
      | (apply wo_mo; apply mo_append (sz := 7) (new := (([⟨22, 0, y, 0, 0, 0, 0⟩] : List Mach.In).map inC).flatten); exact rfl; exact rfl; exact rfl; exact rfl; exact (.there .here); exact rfl; exact .inr ⟨_, _, rfl, Rds.all .here⟩; exact inC_one; (simp only [sliceLen]; omega); exact trivial))
    rintro v' L' rfl
    have hnext : ((code ++ (tells a b).take i).map inC).flatten ++ (([⟨22, 0, y, 0, 0, 0, 0⟩] : List Mach.In).map inC).flatten = ((code ++ (tells a b).take (i + 1)).map inC).flatten := by
      rw [← List.flatten_append, ← List.map_append, List.append_assoc]
      congr 3
      match i, hy with
      | 0, hy => cases hy; rfl
      | 1, hy => cases hy; rfl
    rw [hnext]
    refine wo_pure (of_has .here (vec_shape (by omega))) ?_
    rintro ⟨qa, qn, qc, rfl, _⟩
    repeat (first
      | (refine we_region _ rfl rfl ?_; simp only [opsOf, List.map_cons, List.map_nil, Option.map_none, Option.map_some, List.getElem?_toArray, List.getElem?_cons_zero, List.getElem?_cons_succ, Option.bind_some, Option.getD_some])
      | refine wo_nil ?_
      | (apply wo_po; apply mo_move; exact rfl; (first | exact trivial | exact rfl))
      | (apply wo_po; apply mo_assign; exact rfl; (first | exact trivial | exact rfl))
      | (apply wo_po; apply mo_bin; exact rfl; exact rfl; apply bin_add; exact wrap_i64 (by omega) (by omega); (first | exact trivial | exact rfl)))
    exact at_round (I := tellInv _ F cb lb code a b) (R := fun i' => 3 - i'.1 < 3 - i) (i + 1, qa, qn, qc) (by show 3 - (i + 1) < 3 - i; omega) (by show i + 1 ≤ 2; omega) ⟨rfl, rfl, rfl, rfl, trivial⟩ (.take .here (.take (.there .here) (.take (.there .here) (.drop .refl)))) rfl
  · have : i = 2 := by omega
    subst this
    repeat (first
      | (apply wo_po; apply mo_buildV; (repeat (first | exact EvL.nil | apply EvL.cons rfl)); exact rfl; exact trivial)
      | (apply wo_pm; apply mo_storeA (b := cb) (c := 0) (k := 0) (a := 0) (vs := [.slice none 0 0, .slice none 0 0]); exact rfl; exact rfl; exact rfl; (intro w hw; simp [Value.cells] at hw; rcases hw with rfl | rfl <;> rfl); exact rfl; exact Nat.le_refl 2; exact (.there .here); exact trivial)
      | (apply wo_po; apply mo_bin; exact rfl; exact rfl; apply bin_lssF; omega; (first | exact trivial | exact rfl))
      | refine we_seq ?_
      | (refine we_region _ rfl rfl ?_; simp only [opsOf, List.map_cons, List.map_nil, Option.map_none, Option.map_some, List.getElem?_toArray, List.getElem?_cons_zero, List.getElem?_cons_succ, Option.bind_some, Option.getD_some])
      | refine wo_nil ?_
      | (apply wo_po; apply mo_move; exact rfl; (first | exact trivial | exact rfl))
      | (apply wo_po; apply mo_len; exact rfl; (first | exact trivial | exact rfl))
      | (apply we_condF; exact rfl; (first | exact rfl | (simp <;> omega) | omega))
      | refine we_ret ?_
      | refine we_exit ?_)
    refine at_leaveM (rs := [.cell 4 61]) Try.func70 Try.results70 hQ (.inl rfl) (.cons (.cell (vs := [.slice sa sn sc, .slice none 0 0]) rfl rfl (Rds.all (.there .here))) .nil) ?_
    refine ⟨sa, sn, sc, rfl, rfl, fun h st => ?_⟩
    exact cl_shut rfl rfl (Ent.star (.take .here (.drop (.drop .refl))) st)

theorem refused_tr : Tr Try.prog B 69 [.int .i64 5] L x fun w L' x' => ∃ a m c, w = .agg #[.slice a m c, .slice none 0 0] ∧ L' = clC (.slice a m c) (.slice none 0 0) (Mach.mrefCl 5) :: L ∧ x' = x := by
  refine Tr.post (R := fun v L' x' => ∃ a m c, v = .agg #[.slice a m c, .slice none 0 0] ∧ x' = x ∧ ∀ h, Star L' h → Star (clC (.slice a m c) (.slice none 0 0) (Mach.mrefCl 5) :: L) h) ?_
    (by rintro v L' x' ⟨a, m, c, rfl, rfl, hs⟩; exact ⟨_, ⟨a, m, c, rfl, rfl, rfl⟩, hs⟩)
  have hcv : IntKind.u64.wrap (5 : Int) = ((5 : Nat) : Int) := rfl
  refine tr_of_body Try.func69 rfl Try.ntmps69 (by simp) fun um Q hQ => ?_
  simp only [argE, Nat.zero_add, Nat.reduceAdd]
  repeat (first
    | (apply wo_mo; apply mo_alloc; exact trivial)
    | refine we_seq ?_
    | (refine we_region _ rfl rfl ?_; simp only [opsOf, List.map_cons, List.map_nil, Option.map_none, Option.map_some, List.getElem?_toArray, List.getElem?_cons_zero, List.getElem?_cons_succ, Option.bind_some, Option.getD_some]))
  rintro v' L' ⟨cb, rfl, rfl⟩
  repeat (first
    | (apply wo_po; apply mo_conv; exact rfl; exact hcv; exact trivial)
    | (apply wo_po; apply mo_buildV; (repeat (first | exact EvL.nil | apply EvL.cons rfl)); exact rfl; exact trivial)
    | (apply wo_mo; apply mo_buildSlice (sz := 7); exact rfl; (repeat (first | exact EvL.nil | apply EvL.cons rfl)); exact rfl; (repeat (first | exact List.forall_mem_nil _ | refine List.forall_mem_cons.2 ⟨rfl, ?_⟩)); omega; exact trivial)
    | refine we_seq ?_
    | (refine we_region _ rfl rfl ?_; simp only [opsOf, List.map_cons, List.map_nil, Option.map_none, Option.map_some, List.getElem?_toArray, List.getElem?_cons_zero, List.getElem?_cons_succ, Option.bind_some, Option.getD_some])
    | refine wo_nil ?_
    | (apply wo_po; apply mo_move; exact rfl; (first | exact trivial | exact rfl)))
  rintro v' L' ⟨kb, rfl, rfl⟩
  repeat (first
    | (apply wo_mo; apply mo_buildSlice (sz := 1); exact rfl; (repeat (first | exact EvL.nil | apply EvL.cons rfl)); exact rfl; (repeat (first | exact List.forall_mem_nil _ | refine List.forall_mem_cons.2 ⟨rfl, ?_⟩)); omega; exact trivial))
  rintro v' L' ⟨lb, rfl, rfl⟩
  refine wo_star (vec 7 (.slice (some ⟨kb, 0, none⟩) 1 1) (([⟨6, 0, 0, 0, 0, 0, 5⟩] : List Mach.In).map inC).flatten :: arr lb 0 [.int .i64 (0 : Nat), .int .i64 (9 : Nat)] :: arr cb 0 [.slice none 0 0, .slice none 0 0] :: L) (fun h st => vec_new rfl (star_swap st)) ?_
  skip
  refine wo_call (.cons rfl (.cons rfl .nil)) trivial (tell_tr (a := 0) (b := 9) (code := [⟨6, 0, 0, 0, 0, 0, 5⟩]) (by simp) .here) ?_
  rintro v' L' x' ⟨qa, qn, qc, rfl, rfl, rfl⟩
  repeat (first
    | (apply wo_pm; apply mo_storeA (b := cb) (c := 0) (k := 0) (a := 0) (vs := [.slice none 0 0, .slice none 0 0]); exact rfl; exact rfl; exact rfl; (intro w hw; simp [Value.cells] at hw; rcases hw with rfl | rfl <;> rfl); exact rfl; exact Nat.le_refl 2; exact (.there .here); exact trivial)
    | refine wo_nil ?_
    | refine we_ret ?_)
  refine at_leaveM (rs := [.cell 2 61]) Try.func69 Try.results69 hQ (.inl rfl) (.cons (.cell (vs := [.slice qa qn qc, .slice none 0 0]) rfl rfl (Rds.all (.there .here))) .nil) ?_
  exact ⟨_, _, _, rfl, rfl, fun h st => Ent.star (.take .here (.drop .refl)) st⟩

set_option maxHeartbeats 8000000 in
theorem take_code_tr (O : BOk num den burst) (ht : now ≤ 1099511627776) {on a out : Nat} (ho : on ≤ 1000) (ha : a ≤ 1000) (hu : out ≤ 1000) : Tr Try.prog B 71 [.int .i64 (on : Nat), .agg #[.int .u64 (num : Nat), .int .u64 (den : Nat), .int .u64 (burst : Nat)], .int .u64 (now : Nat), .int .u64 (n : Nat), .int .i64 (a : Nat), .int .i64 (out : Nat)] L x fun v L' x' => ∃ kb, v = .slice (some ⟨kb, 0, none⟩) 12 12 ∧ L' = arr kb 0 ((Mach.mtakeCode on (now * num) (needN den burst n) (topN num den burst now n) a out).map inC).flatten :: L ∧ x' = x := by
  refine Tr.post (R := fun v L' x' => ∃ kb, v = .slice (some ⟨kb, 0, none⟩) 12 12 ∧ x' = x ∧ ∀ h, Star L' h → Star (arr kb 0 ((Mach.mtakeCode on (now * num) (needN den burst n) (topN num den burst now n) a out).map inC).flatten :: L) h) ?_
    (by rintro v L' x' ⟨kb, rfl, rfl, hs⟩; exact ⟨_, ⟨kb, rfl, rfl, rfl⟩, hs⟩)
  have hm : now * num ≤ 1099511627776 * 65536 := Nat.mul_le_mul ht O.n2
  have hbd : burst * den ≤ 1048576 * 65536 := Nat.mul_le_mul O.b2 O.d2
  have hb2 := O.b2
  have m1 : IntKind.u64.wrap ((now : Int) * (num : Int)) = ((now * num : Nat) : Int) := mulw rfl (by omega)
  have m2 : IntKind.u64.wrap ((burst : Int) * (den : Int)) = ((burst * den : Nat) : Int) := mulw rfl (by omega)
  have s1 : IntKind.u64.wrap (((now * num : Nat) : Int) + ((burst * den : Nat) : Int)) = ((now * num + burst * den : Nat) : Int) := addw rfl (by omega)
  have h11 : IntKind.u64.wrap ((a : Int) + 11) = ((a + 11 : Nat) : Int) := (wrap_u64 (by omega) (by omega)).trans (by omega)
  have h12 : IntKind.u64.wrap ((a : Int) + 12) = ((a + 12 : Nat) : Int) := (wrap_u64 (by omega) (by omega)).trans (by omega)
  have hcv : IntKind.u64.wrap (a : Int) = (a : Int) := wrap_u64 (by omega) (by omega)
  by_cases c : n ≤ burst
  · have hn : n * den ≤ burst * den := Nat.mul_le_mul_right _ c
    have m3 : IntKind.u64.wrap ((n : Int) * (den : Int)) = ((n * den : Nat) : Int) := mulw rfl (by omega)
    rw [show needN den burst n = n * den from if_pos c, show topN num den burst now n = now * num + burst * den from if_pos c]
    refine tr_of_body Try.func71 rfl Try.ntmps71 (by simp) fun um Q hQ => ?_
    simp only [argE, Nat.zero_add, Nat.reduceAdd]
    repeat (first
      | (apply wo_mo; apply mo_box; exact rfl; exact trivial)
      | refine we_seq ?_
      | (refine we_region _ rfl rfl ?_; simp only [opsOf, List.map_cons, List.map_nil, Option.map_none, Option.map_some, List.getElem?_toArray, List.getElem?_cons_zero, List.getElem?_cons_succ, Option.bind_some, Option.getD_some]))
    rintro v' L' ⟨bb, rfl, rfl⟩
    refine wo_ent (arr bb 0 [.int .u64 (num : Nat), .int .u64 (den : Nat), .int .u64 (burst : Nat)] :: L) .refl ?_
    repeat (first
      | (apply wo_po; apply mo_conv; exact rfl; exact hcv; exact trivial)
      | (apply wo_po; apply mo_bin; exact rfl; exact rfl; apply bin_mul; (first | exact m1 | exact m2 | exact m3); (first | exact trivial | exact rfl))
      | (apply wo_po; apply mo_bin; exact rfl; exact rfl; apply bin_add; (first | exact s1 | exact h11 | exact h12); (first | exact trivial | exact rfl))
      | (apply wo_po; apply mo_buildV; (repeat (first | exact EvL.nil | apply EvL.cons rfl)); exact rfl; exact trivial)
      | (apply wo_mo; apply mo_buildSlice (sz := 7); exact rfl; (repeat (first | exact EvL.nil | apply EvL.cons rfl)); exact rfl; (repeat (first | exact List.forall_mem_nil _ | refine List.forall_mem_cons.2 ⟨rfl, ?_⟩)); omega; exact trivial)
      | (apply wo_po; apply mo_bin; exact rfl; exact rfl; apply bin_leqT; omega; (first | exact trivial | exact rfl))
      | refine we_seq ?_
      | (refine we_region _ rfl rfl ?_; simp only [opsOf, List.map_cons, List.map_nil, Option.map_none, Option.map_some, List.getElem?_toArray, List.getElem?_cons_zero, List.getElem?_cons_succ, Option.bind_some, Option.getD_some])
      | refine wo_nil ?_
      | (apply wo_po; apply mo_move; exact rfl; (first | exact trivial | exact rfl))
      | (apply wo_po; apply mo_assign; exact rfl; (first | exact trivial | exact rfl))
      | (apply wo_po; apply mo_fieldAddr; exact rfl; exact rfl; (first | exact Nat.zero_add _ | exact rfl); (first | exact trivial | exact rfl))
      | (apply wo_po; apply mo_load; exact rfl; (repeat (first | exact Rd.row0 rfl | exact Rd.row rfl rfl | exact Rd.still | apply Rd.there)); (first | exact trivial | exact rfl))
      | (apply we_condT; exact rfl; (first | exact rfl | (simp <;> omega) | omega)))
    rintro v' L' ⟨kb, rfl, rfl⟩
    repeat (first
      | refine wo_nil ?_
      | (apply wo_po; apply mo_assign; exact rfl; (first | exact trivial | exact rfl))
      | refine we_ret ?_)
    (first | refine at_ret1 (ex := .ret) Try.func71 Try.results71 hQ (.inl rfl) rfl ?_ | refine at_ret1 (ex := .normal) Try.func71 Try.results71 hQ (.inr rfl) rfl ?_)
    exact ⟨kb, rfl, rfl, fun h st => Ent.star (.take .here (.drop .refl)) st⟩
  · rw [show needN den burst n = 0 from if_neg c, show topN num den burst now n = 0 from if_neg c]
    refine tr_of_body Try.func71 rfl Try.ntmps71 (by simp) fun um Q hQ => ?_
    simp only [argE, Nat.zero_add, Nat.reduceAdd]
    repeat (first
      | (apply wo_mo; apply mo_box; exact rfl; exact trivial)
      | refine we_seq ?_
      | (refine we_region _ rfl rfl ?_; simp only [opsOf, List.map_cons, List.map_nil, Option.map_none, Option.map_some, List.getElem?_toArray, List.getElem?_cons_zero, List.getElem?_cons_succ, Option.bind_some, Option.getD_some]))
    rintro v' L' ⟨bb, rfl, rfl⟩
    refine wo_ent (arr bb 0 [.int .u64 (num : Nat), .int .u64 (den : Nat), .int .u64 (burst : Nat)] :: L) .refl ?_
    repeat (first
      | (apply wo_po; apply mo_conv; exact rfl; exact hcv; exact trivial)
      | (apply wo_po; apply mo_bin; exact rfl; exact rfl; apply bin_mul; (first | exact m1 | exact m2); (first | exact trivial | exact rfl))
      | (apply wo_po; apply mo_bin; exact rfl; exact rfl; apply bin_add; (first | exact s1 | exact h11 | exact h12); (first | exact trivial | exact rfl))
      | (apply wo_po; apply mo_buildV; (repeat (first | exact EvL.nil | apply EvL.cons rfl)); exact rfl; exact trivial)
      | (apply wo_mo; apply mo_buildSlice (sz := 7); exact rfl; (repeat (first | exact EvL.nil | apply EvL.cons rfl)); exact rfl; (repeat (first | exact List.forall_mem_nil _ | refine List.forall_mem_cons.2 ⟨rfl, ?_⟩)); omega; exact trivial)
      | (apply wo_po; apply mo_bin; exact rfl; exact rfl; apply bin_leqF; omega; (first | exact trivial | exact rfl))
      | refine we_seq ?_
      | (refine we_region _ rfl rfl ?_; simp only [opsOf, List.map_cons, List.map_nil, Option.map_none, Option.map_some, List.getElem?_toArray, List.getElem?_cons_zero, List.getElem?_cons_succ, Option.bind_some, Option.getD_some])
      | refine wo_nil ?_
      | (apply wo_po; apply mo_move; exact rfl; (first | exact trivial | exact rfl))
      | (apply wo_po; apply mo_assign; exact rfl; (first | exact trivial | exact rfl))
      | (apply wo_po; apply mo_fieldAddr; exact rfl; exact rfl; (first | exact Nat.zero_add _ | exact rfl); (first | exact trivial | exact rfl))
      | (apply wo_po; apply mo_load; exact rfl; (repeat (first | exact Rd.row0 rfl | exact Rd.row rfl rfl | exact Rd.still | apply Rd.there)); (first | exact trivial | exact rfl))
      | (apply we_condF; exact rfl; (first | exact rfl | (simp <;> omega) | omega))
      | refine we_skip ?_)
    rintro v' L' ⟨kb, rfl, rfl⟩
    repeat (first
      | refine wo_nil ?_
      | (apply wo_po; apply mo_assign; exact rfl; (first | exact trivial | exact rfl))
      | refine we_ret ?_)
    (first | refine at_ret1 (ex := .ret) Try.func71 Try.results71 hQ (.inl rfl) rfl ?_ | refine at_ret1 (ex := .normal) Try.func71 Try.results71 hQ (.inr rfl) rfl ?_)
    exact ⟨kb, rfl, rfl, fun h st => Ent.star (.take .here (.drop .refl)) st⟩

theorem ref_take_tr (O : BOk num den burst) (hn : n < 18446744073709551616) : Tr Try.prog B 46 [.agg #[.int .u64 (num : Nat), .int .u64 (den : Nat), .int .u64 (burst : Nat)], .int .u64 (now : Nat), .int .u64 (n : Nat)] L x fun w L' x' => ∃ a m c, w = .agg #[.slice a m c, .slice none 0 0] ∧ L' = clC (.slice a m c) (.slice none 0 0) (if now ≤ 1099511627776 then Mach.mtakeCl (now * num) (needN den burst n) (topN num den burst now n) else Mach.mrefCl 5) :: L ∧ x' = x := by
  obtain ⟨kl, hkl⟩ : ∃ kl, (if now ≤ 1099511627776 then Mach.mtakeCl (now * num) (needN den burst n) (topN num den burst now n) else Mach.mrefCl 5) = kl := ⟨_, rfl⟩
  rw [hkl]
  refine Tr.post (R := fun v L' x' => ∃ a m c, v = .agg #[.slice a m c, .slice none 0 0] ∧ x' = x ∧ ∀ h, Star L' h → Star (clC (.slice a m c) (.slice none 0 0) (kl) :: L) h) ?_
    (by rintro v L' x' ⟨a, m, c, rfl, rfl, hs⟩; exact ⟨_, ⟨a, m, c, rfl, rfl, rfl⟩, hs⟩)
  refine tr_of_body Try.func46 rfl Try.ntmps46 (by simp) fun um Q hQ => ?_
  simp only [argE, Nat.zero_add, Nat.reduceAdd]
  repeat (first
    | (apply wo_mo; apply mo_box; exact rfl; exact trivial)
    | refine we_seq ?_
    | (refine we_region _ rfl rfl ?_; simp only [opsOf, List.map_cons, List.map_nil, Option.map_none, Option.map_some, List.getElem?_toArray, List.getElem?_cons_zero, List.getElem?_cons_succ, Option.bind_some, Option.getD_some]))
  rintro v' L' ⟨bb, rfl, rfl⟩
  refine wo_ent (arr bb 0 [.int .u64 (num : Nat), .int .u64 (den : Nat), .int .u64 (burst : Nat)] :: L) .refl ?_
  repeat (first
    | (apply wo_mo; apply mo_alloc; exact trivial))
  rintro v' L' ⟨cb, rfl, rfl⟩
  by_cases ht : now ≤ 1099511627776
  · rw [if_pos ht] at hkl
    subst hkl
    repeat (first
      | (apply wo_po; apply mo_loadA (vs := [.int .u64 (num : Nat), .int .u64 (den : Nat), .int .u64 (burst : Nat)]); exact rfl; exact rfl; exact Rds.all (.there .here); exact trivial)
      | (apply wo_po; apply mo_bin; exact rfl; exact rfl; apply bin_gtrF; omega; (first | exact trivial | exact rfl))
      | refine we_seq ?_
      | (refine we_region _ rfl rfl ?_; simp only [opsOf, List.map_cons, List.map_nil, Option.map_none, Option.map_some, List.getElem?_toArray, List.getElem?_cons_zero, List.getElem?_cons_succ, Option.bind_some, Option.getD_some])
      | refine wo_nil ?_
      | (apply wo_po; apply mo_move; exact rfl; (first | exact trivial | exact rfl))
      | (apply we_condF; exact rfl; (first | exact rfl | (simp <;> omega) | omega))
      | refine we_skip ?_)
    refine wo_call (.cons rfl (.cons rfl (.cons rfl (.cons rfl (.cons rfl (.cons rfl .nil)))))) trivial (take_code_tr (on := 0) (a := 0) (out := 0) O ht (by omega) (by omega) (by omega)) ?_
    rintro v' L' x' ⟨kb, rfl, rfl, rfl⟩
    repeat (first
      | (apply wo_mo; apply mo_buildSlice (sz := 1); exact rfl; (repeat (first | exact EvL.nil | apply EvL.cons rfl)); exact rfl; (repeat (first | exact List.forall_mem_nil _ | refine List.forall_mem_cons.2 ⟨rfl, ?_⟩)); omega; exact trivial))
    rintro v' L' ⟨lb, rfl, rfl⟩
    refine wo_star (vec 7 (.slice (some ⟨kb, 0, none⟩) 12 12) ((Mach.mtakeCode 0 (now * num) (needN den burst n) (topN num den burst now n) 0 0).map inC).flatten :: arr lb 0 [.int .i64 (9 : Nat), .int .i64 (0 : Nat)] :: arr cb 0 [.slice none 0 0, .slice none 0 0] :: arr bb 0 [.int .u64 (num : Nat), .int .u64 (den : Nat), .int .u64 (burst : Nat)] :: L) (fun h st => vec_new rfl (star_swap st)) ?_
    skip
    refine wo_call (.cons rfl (.cons rfl .nil)) trivial (tell_tr (a := 9) (b := 0) (code := Mach.mtakeCode 0 (now * num) (needN den burst n) (topN num den burst now n) 0 0) (by simp [Mach.mtakeCode]) .here) ?_
    rintro v' L' x' ⟨qa, qn, qc, rfl, rfl, rfl⟩
    repeat (first
      | (apply wo_pm; apply mo_storeA (b := cb) (c := 0) (k := 0) (a := 0) (vs := [.slice none 0 0, .slice none 0 0]); exact rfl; exact rfl; exact rfl; (intro w hw; simp [Value.cells] at hw; rcases hw with rfl | rfl <;> rfl); exact rfl; exact Nat.le_refl 2; exact (.there .here); exact trivial)
      | refine wo_nil ?_
      | refine we_ret ?_)
    refine at_leaveM (rs := [.cell 6 61]) Try.func46 Try.results46 hQ (.inl rfl) (.cons (.cell (vs := [.slice qa qn qc, .slice none 0 0]) rfl rfl (Rds.all (.there .here))) .nil) ?_
    exact ⟨_, _, _, rfl, rfl, fun h st => Ent.star (.take .here (.drop (.drop .refl))) st⟩
  · rw [if_neg ht] at hkl
    subst hkl
    repeat (first
      | (apply wo_po; apply mo_bin; exact rfl; exact rfl; apply bin_gtrT; omega; (first | exact trivial | exact rfl))
      | refine we_seq ?_
      | (refine we_region _ rfl rfl ?_; simp only [opsOf, List.map_cons, List.map_nil, Option.map_none, Option.map_some, List.getElem?_toArray, List.getElem?_cons_zero, List.getElem?_cons_succ, Option.bind_some, Option.getD_some])
      | refine wo_nil ?_
      | (apply wo_po; apply mo_move; exact rfl; (first | exact trivial | exact rfl))
      | (apply we_condT; exact rfl; (first | exact rfl | (simp <;> omega) | omega)))
    refine wo_call (.cons rfl .nil) trivial refused_tr ?_
    rintro v' L' x' ⟨qa, qn, qc, rfl, rfl, rfl⟩
    repeat (first
      | (apply wo_pm; apply mo_storeA (b := cb) (c := 0) (k := 0) (a := 0) (vs := [.slice none 0 0, .slice none 0 0]); exact rfl; exact rfl; exact rfl; (intro w hw; simp [Value.cells] at hw; rcases hw with rfl | rfl <;> rfl); exact rfl; exact Nat.le_refl 2; exact (.there .here); exact trivial)
      | refine wo_nil ?_
      | refine we_ret ?_)
    refine at_leaveM (rs := [.cell 6 61]) Try.func46 Try.results46 hQ (.inl rfl) (.cons (.cell (vs := [.slice qa qn qc, .slice none 0 0]) rfl rfl (Rds.all (.there .here))) .nil) ?_
    exact ⟨_, _, _, rfl, rfl, fun h st => Ent.star (.take .here (.drop (.drop .refl))) st⟩

theorem ref_state_tr : Tr Try.prog B 48 [] L x fun w L' x' => ∃ a m c, w = .agg #[.slice a m c, .slice none 0 0] ∧ L' = clC (.slice a m c) (.slice none 0 0) (Mach.mstateCl) :: L ∧ x' = x := by
  refine Tr.post (R := fun v L' x' => ∃ a m c, v = .agg #[.slice a m c, .slice none 0 0] ∧ x' = x ∧ ∀ h, Star L' h → Star (clC (.slice a m c) (.slice none 0 0) (Mach.mstateCl) :: L) h) ?_
    (by rintro v L' x' ⟨a, m, c, rfl, rfl, hs⟩; exact ⟨_, ⟨a, m, c, rfl, rfl, rfl⟩, hs⟩)
  refine tr_of_body Try.func48 rfl Try.ntmps48 (by simp) fun um Q hQ => ?_
  simp only [argE, Nat.zero_add, Nat.reduceAdd]
  repeat (first
    | (apply wo_mo; apply mo_alloc; exact trivial)
    | refine we_seq ?_
    | (refine we_region _ rfl rfl ?_; simp only [opsOf, List.map_cons, List.map_nil, Option.map_none, Option.map_some, List.getElem?_toArray, List.getElem?_cons_zero, List.getElem?_cons_succ, Option.bind_some, Option.getD_some]))
  rintro v' L' ⟨cb, rfl, rfl⟩
  repeat (first
    | (apply wo_po; apply mo_buildV; (repeat (first | exact EvL.nil | apply EvL.cons rfl)); exact rfl; exact trivial)
    | (apply wo_mo; apply mo_buildSlice (sz := 7); exact rfl; (repeat (first | exact EvL.nil | apply EvL.cons rfl)); exact rfl; (repeat (first | exact List.forall_mem_nil _ | refine List.forall_mem_cons.2 ⟨rfl, ?_⟩)); omega; exact trivial)
    | refine we_seq ?_
    | (refine we_region _ rfl rfl ?_; simp only [opsOf, List.map_cons, List.map_nil, Option.map_none, Option.map_some, List.getElem?_toArray, List.getElem?_cons_zero, List.getElem?_cons_succ, Option.bind_some, Option.getD_some])
    | refine wo_nil ?_)
  rintro v' L' ⟨kb, rfl, rfl⟩
  repeat (first
    | (apply wo_mo; apply mo_buildSlice (sz := 1); exact rfl; (repeat (first | exact EvL.nil | apply EvL.cons rfl)); exact rfl; (repeat (first | exact List.forall_mem_nil _ | refine List.forall_mem_cons.2 ⟨rfl, ?_⟩)); omega; exact trivial))
  rintro v' L' ⟨lb, rfl, rfl⟩
  refine wo_star (vec 7 (.slice (some ⟨kb, 0, none⟩) 1 1) (([⟨1, 0, 0, 9, 0, 0, 0⟩] : List Mach.In).map inC).flatten :: arr lb 0 [.int .i64 (9 : Nat), .int .i64 (0 : Nat)] :: arr cb 0 [.slice none 0 0, .slice none 0 0] :: L) (fun h st => vec_new rfl (star_swap st)) ?_
  skip
  refine wo_call (.cons rfl (.cons rfl .nil)) trivial (tell_tr (a := 9) (b := 0) (code := [⟨1, 0, 0, 9, 0, 0, 0⟩]) (by simp) .here) ?_
  rintro v' L' x' ⟨qa, qn, qc, rfl, rfl, rfl⟩
  repeat (first
    | (apply wo_pm; apply mo_storeA (b := cb) (c := 0) (k := 0) (a := 0) (vs := [.slice none 0 0, .slice none 0 0]); exact rfl; exact rfl; exact rfl; (intro w hw; simp [Value.cells] at hw; rcases hw with rfl | rfl <;> rfl); exact rfl; exact Nat.le_refl 2; exact (.there .here); exact trivial)
    | refine wo_nil ?_
    | refine we_ret ?_)
  refine at_leaveM (rs := [.cell 0 61]) Try.func48 Try.results48 hQ (.inl rfl) (.cons (.cell (vs := [.slice qa qn qc, .slice none 0 0]) rfl rfl (Rds.all (.there .here))) .nil) ?_
  exact ⟨_, _, _, rfl, rfl, fun h st => Ent.star (.take .here (.drop .refl)) st⟩

theorem ref_level_tr (O : BOk num den burst) : Tr Try.prog B 47 [.agg #[.int .u64 (num : Nat), .int .u64 (den : Nat), .int .u64 (burst : Nat)], .int .u64 (now : Nat)] L x fun w L' x' => ∃ a m c, w = .agg #[.slice a m c, .slice none 0 0] ∧ L' = clC (.slice a m c) (.slice none 0 0) (if now ≤ 1099511627776 then Mach.mlevelCl (now * num) (burst * den) den else Mach.mrefCl 5) :: L ∧ x' = x := by
  obtain ⟨kl, hkl⟩ : ∃ kl, (if now ≤ 1099511627776 then Mach.mlevelCl (now * num) (burst * den) den else Mach.mrefCl 5) = kl := ⟨_, rfl⟩
  rw [hkl]
  refine Tr.post (R := fun v L' x' => ∃ a m c, v = .agg #[.slice a m c, .slice none 0 0] ∧ x' = x ∧ ∀ h, Star L' h → Star (clC (.slice a m c) (.slice none 0 0) (kl) :: L) h) ?_
    (by rintro v L' x' ⟨a, m, c, rfl, rfl, hs⟩; exact ⟨_, ⟨a, m, c, rfl, rfl, rfl⟩, hs⟩)
  refine tr_of_body Try.func47 rfl Try.ntmps47 (by simp) fun um Q hQ => ?_
  simp only [argE, Nat.zero_add, Nat.reduceAdd]
  repeat (first
    | (apply wo_mo; apply mo_box; exact rfl; exact trivial)
    | refine we_seq ?_
    | (refine we_region _ rfl rfl ?_; simp only [opsOf, List.map_cons, List.map_nil, Option.map_none, Option.map_some, List.getElem?_toArray, List.getElem?_cons_zero, List.getElem?_cons_succ, Option.bind_some, Option.getD_some]))
  rintro v' L' ⟨bb, rfl, rfl⟩
  refine wo_ent (arr bb 0 [.int .u64 (num : Nat), .int .u64 (den : Nat), .int .u64 (burst : Nat)] :: L) .refl ?_
  repeat (first
    | (apply wo_mo; apply mo_alloc; exact trivial))
  rintro v' L' ⟨cb, rfl, rfl⟩
  by_cases ht : now ≤ 1099511627776
  · rw [if_pos ht] at hkl
    subst hkl
    have hm : now * num ≤ 1099511627776 * 65536 := Nat.mul_le_mul ht O.n2
    have hbd : burst * den ≤ 1048576 * 65536 := Nat.mul_le_mul O.b2 O.d2
    have m1 : IntKind.u64.wrap ((now : Int) * (num : Int)) = ((now * num : Nat) : Int) := mulw rfl (by omega)
    have m2 : IntKind.u64.wrap ((burst : Int) * (den : Int)) = ((burst * den : Nat) : Int) := mulw rfl (by omega)
    repeat (first
      | (apply wo_po; apply mo_bin; exact rfl; exact rfl; apply bin_mul; (first | exact m1 | exact m2); (first | exact trivial | exact rfl))
      | (apply wo_po; apply mo_buildV; (repeat (first | exact EvL.nil | apply EvL.cons rfl)); exact rfl; exact trivial)
      | (apply wo_mo; apply mo_buildSlice (sz := 7); exact rfl; (repeat (first | exact EvL.nil | apply EvL.cons rfl)); exact rfl; (repeat (first | exact List.forall_mem_nil _ | refine List.forall_mem_cons.2 ⟨rfl, ?_⟩)); omega; exact trivial)
      | (apply wo_po; apply mo_bin; exact rfl; exact rfl; apply bin_gtrF; omega; (first | exact trivial | exact rfl))
      | refine we_seq ?_
      | (refine we_region _ rfl rfl ?_; simp only [opsOf, List.map_cons, List.map_nil, Option.map_none, Option.map_some, List.getElem?_toArray, List.getElem?_cons_zero, List.getElem?_cons_succ, Option.bind_some, Option.getD_some])
      | refine wo_nil ?_
      | (apply wo_po; apply mo_move; exact rfl; (first | exact trivial | exact rfl))
      | (apply wo_po; apply mo_fieldAddr; exact rfl; exact rfl; (first | exact Nat.zero_add _ | exact rfl); (first | exact trivial | exact rfl))
      | (apply wo_po; apply mo_load; exact rfl; (repeat (first | exact Rd.row0 rfl | exact Rd.row rfl rfl | exact Rd.still | apply Rd.there)); (first | exact trivial | exact rfl))
      | (apply we_condF; exact rfl; (first | exact rfl | (simp <;> omega) | omega))
      | refine we_skip ?_)
    rintro v' L' ⟨kb, rfl, rfl⟩
    repeat (first
      | (apply wo_mo; apply mo_buildSlice (sz := 1); exact rfl; (repeat (first | exact EvL.nil | apply EvL.cons rfl)); exact rfl; (repeat (first | exact List.forall_mem_nil _ | refine List.forall_mem_cons.2 ⟨rfl, ?_⟩)); omega; exact trivial))
    rintro v' L' ⟨lb, rfl, rfl⟩
    refine wo_star (vec 7 (.slice (some ⟨kb, 0, none⟩) 9 9) (([⟨1, 0, 0, 9, 0, 0, 0⟩, ⟨6, 0, 1, 0, 0, 0, now * num⟩, ⟨16, 0, 0, 0, 1, 0, 0⟩, ⟨8, 0, 2, 1, 9, 0, burst * den⟩, ⟨6, 0, 3, 0, 0, 0, 0⟩, ⟨20, 0, 2, 0, 0, 0, 9⟩, ⟨9, 0, 2, 2, 0, 0, 0⟩, ⟨6, 0, 4, 0, 0, 0, den⟩, ⟨11, 0, 3, 2, 4, 0, 0⟩] : List Mach.In).map inC).flatten :: arr lb 0 [.int .i64 (9 : Nat), .int .i64 (3 : Nat)] :: arr cb 0 [.slice none 0 0, .slice none 0 0] :: arr bb 0 [.int .u64 (num : Nat), .int .u64 (den : Nat), .int .u64 (burst : Nat)] :: L) (fun h st => vec_new rfl (star_swap st)) ?_
    skip
    refine wo_call (.cons rfl (.cons rfl .nil)) trivial (tell_tr (a := 9) (b := 3) (code := [⟨1, 0, 0, 9, 0, 0, 0⟩, ⟨6, 0, 1, 0, 0, 0, now * num⟩, ⟨16, 0, 0, 0, 1, 0, 0⟩, ⟨8, 0, 2, 1, 9, 0, burst * den⟩, ⟨6, 0, 3, 0, 0, 0, 0⟩, ⟨20, 0, 2, 0, 0, 0, 9⟩, ⟨9, 0, 2, 2, 0, 0, 0⟩, ⟨6, 0, 4, 0, 0, 0, den⟩, ⟨11, 0, 3, 2, 4, 0, 0⟩]) (by simp) .here) ?_
    rintro v' L' x' ⟨qa, qn, qc, rfl, rfl, rfl⟩
    repeat (first
      | (apply wo_pm; apply mo_storeA (b := cb) (c := 0) (k := 0) (a := 0) (vs := [.slice none 0 0, .slice none 0 0]); exact rfl; exact rfl; exact rfl; (intro w hw; simp [Value.cells] at hw; rcases hw with rfl | rfl <;> rfl); exact rfl; exact Nat.le_refl 2; exact (.there .here); exact trivial)
      | refine wo_nil ?_
      | refine we_ret ?_)
    refine at_leaveM (rs := [.cell 4 61]) Try.func47 Try.results47 hQ (.inl rfl) (.cons (.cell (vs := [.slice qa qn qc, .slice none 0 0]) rfl rfl (Rds.all (.there .here))) .nil) ?_
    exact ⟨_, _, _, rfl, rfl, fun h st => Ent.star (.take .here (.drop (.drop .refl))) st⟩
  · rw [if_neg ht] at hkl
    subst hkl
    repeat (first
      | (apply wo_po; apply mo_bin; exact rfl; exact rfl; apply bin_gtrT; omega; (first | exact trivial | exact rfl))
      | refine we_seq ?_
      | (refine we_region _ rfl rfl ?_; simp only [opsOf, List.map_cons, List.map_nil, Option.map_none, Option.map_some, List.getElem?_toArray, List.getElem?_cons_zero, List.getElem?_cons_succ, Option.bind_some, Option.getD_some])
      | refine wo_nil ?_
      | (apply wo_po; apply mo_move; exact rfl; (first | exact trivial | exact rfl))
      | (apply we_condT; exact rfl; (first | exact rfl | (simp <;> omega) | omega)))
    refine wo_call (.cons rfl .nil) trivial refused_tr ?_
    rintro v' L' x' ⟨qa, qn, qc, rfl, rfl, rfl⟩
    repeat (first
      | (apply wo_pm; apply mo_storeA (b := cb) (c := 0) (k := 0) (a := 0) (vs := [.slice none 0 0, .slice none 0 0]); exact rfl; exact rfl; exact rfl; (intro w hw; simp [Value.cells] at hw; rcases hw with rfl | rfl <;> rfl); exact rfl; exact Nat.le_refl 2; exact (.there .here); exact trivial)
      | refine wo_nil ?_
      | refine we_ret ?_)
    refine at_leaveM (rs := [.cell 4 61]) Try.func47 Try.results47 hQ (.inl rfl) (.cons (.cell (vs := [.slice qa qn qc, .slice none 0 0]) rfl rfl (Rds.all (.there .here))) .nil) ?_
    exact ⟨_, _, _, rfl, rfl, fun h st => Ent.star (.take .here (.drop (.drop .refl))) st⟩
end
end Go.Proofs.Ythoefhocecdlhaa
