/-
  patchbaylaw02's marks; TurnNotes: notes are what was told.
-/
import Derived.Test.YtabbkjciifnehaaAwake
import Derived.Test.YtabbkjciifnehaaNotes2
import Derived.Test.YtabbkjciifnehaaRef
set_option linter.unusedVariables false
set_option linter.unusedSimpArgs false
namespace Go.Proofs.Ytabbkjciifnehaa
open Go Go.PB
attribute [local irreducible] Mo Bin Eql Tr Wo Ap Wle

/-- the steps of a thread out of numbers -/
def mk1 (n : Int) : Int × Nat := (1 + n % 5, (n % 1000).toNat)
def mkF (l : List Int) : List (Int × Nat) := (l.take 60).map mk1

section
variable {B : Hand} [Lets B] {L F : List HProp} {x : B.X}

def mkInv (sv : Value) (l : List Int) (L : List HProp) (x : B.X) : PB.Inv (Nat × Value) B.X where
  e := fun i => [(0, sv), (3, i.2), (4, .int .i64 (i.1 : Nat))]
  L := fun i => vec 2 i.2 (((l.take i.1).map mk1).map mark2).flatten :: L
  x := fun _ => x
  ok := fun i => i.1 ≤ l.length ∧ i.1 ≤ 60

theorem marks_of_tr {a : Option Addr} {n c : Nat} {l : List Int} (hr : RdsO L a n (ints l)) (hl : ∀ v ∈ l, -9223372036854775808 ≤ v ∧ v ≤ 9223372036854775807) (hb : n ≤ 9223372036854775807) :
    Tr Try.prog B 33 [.slice a n c] L x fun v L' x' => L' = vec 2 v ((mkF l).map mark2).flatten :: L ∧ x' = x := by
  have hn : n = l.length := by have := hr.1; simpa using this
  subst hn
  refine Tr.post (R := fun v L' x' => x' = x ∧ ∀ h, Star L' h → Star (vec 2 v ((mkF l).map mark2).flatten :: L) h) ?_
    (by rintro v L' x' ⟨rfl, h2⟩; exact ⟨_, ⟨rfl, rfl⟩, h2⟩)
  refine tr_of_body Try.func33 rfl Try.ntmps33 (by simp) fun um Q _ hQ => ?_
  simp only [argE, Nat.zero_add, Nat.reduceAdd]
  repeat (first
    | refine we_seq ?_
    | (refine we_region _ rfl rfl ?_; simp only [opsOf, List.map_cons, List.map_nil, Option.map_none, Option.map_some, List.getElem?_toArray, List.getElem?_cons_zero, List.getElem?_cons_succ, Option.bind_some, Option.getD_some])
    | refine wo_nil ?_
    | (apply wo_po; apply mo_assign; exact rfl; (first | exact trivial | exact rfl))
    | refine we_block ?_)
  refine we_star (vec 2 (.slice none 0 0) [] :: L) (fun h st => vec_nil st) ?_
  refine we_loopN (mkInv (.slice a l.length c) l L x) (fun i => l.length - i.1) (0, .slice none 0 0) ⟨Nat.zero_le _, Nat.zero_le _⟩ ⟨rfl, rfl, rfl, trivial⟩ .refl rfl ?_
  rintro ⟨i, mv⟩ ⟨hi, hi60⟩
  simp only at hi hi60
  simp only [mkInv]
  by_cases hlt : i < l.length ∧ i < 60
  · obtain ⟨hlt, hlt60⟩ := hlt
    obtain ⟨b, o, rfl, hrd⟩ := hr.rds (by omega)
    have hri := hrd i (.int .i64 l[i]) (by rw [List.getElem?_map, List.getElem?_eq_getElem hlt]; rfl)
    have hb64 := hl l[i] (List.getElem_mem hlt)
    have hlen : (((l.take i).map mk1).map mark2).flatten.length = i * 2 := by rw [flat2, List.length_map, List.length_take]; omega
    refine we_pure (of_has .here (vec_shape (by omega))) ?_
    rintro ⟨ra, rn, rc, rfl, hrn, _⟩
    have hrn : rn = i := by omega
    subst hrn
    have e5 := Int.emod_nonneg l[rn] (by decide : (5 : Int) ≠ 0)
    have e5' := Int.emod_lt_of_pos l[rn] (by decide : (0 : Int) < 5)
    have e1 := Int.emod_nonneg l[rn] (by decide : (1000 : Int) ≠ 0)
    have e1' := Int.emod_lt_of_pos l[rn] (by decide : (0 : Int) < 1000)
    obtain ⟨m5, hm5⟩ : ∃ m, l[rn] % 5 = m := ⟨_, rfl⟩
    obtain ⟨m1, hm1⟩ : ∃ m, l[rn] % 1000 = m := ⟨_, rfl⟩
    rw [hm5] at e5 e5'
    rw [hm1] at e1 e1'
    have c8 : IntKind.u8.wrap (1 + m5) = 1 + m5 := by
      have : IntKind.u8.wrap (1 + m5) = (1 + m5) % 256 := by unfold IntKind.wrap; simp [IntKind.signed, IntKind.bits]
      rw [this]; omega
    have hw5 := within_tr (B := B) (L := vec 2 (.slice ra rn rc) (((l.take rn).map mk1).map mark2).flatten :: L) (x := x) (n := l[rn]) (k := 5) hb64 (by omega)
    have hw1 := within_tr (B := B) (L := vec 2 (.slice ra rn rc) (((l.take rn).map mk1).map mark2).flatten :: L) (x := x) (n := l[rn]) (k := 1000) hb64 (by omega)
    rw [hm5] at hw5
    rw [hm1] at hw1
    repeat (first
      | (apply wo_po; apply mo_bin; exact rfl; exact rfl; apply bin_lssT; omega; (first | exact trivial | exact rfl))
      | refine we_seq ?_
      | (refine we_region _ rfl rfl ?_; simp only [opsOf, List.map_cons, List.map_nil, Option.map_none, Option.map_some, List.getElem?_toArray, List.getElem?_cons_zero, List.getElem?_cons_succ, Option.bind_some, Option.getD_some])
      | refine wo_nil ?_
      | (apply wo_po; apply mo_move; exact rfl; (first | exact trivial | exact rfl))
      | (apply wo_po; apply mo_pickT; exact rfl; exact rfl; exact rfl; (first | exact trivial | exact rfl))
      | (apply wo_po; apply mo_len; exact rfl; (first | exact trivial | exact rfl))
      | (apply we_condT; exact rfl; (first | exact rfl | (simp <;> omega) | omega))
      | refine we_skip ?_
      | refine we_block ?_)
    refine we_draw [0, 1, 2, 3, 4, 8, 9, 10, 11, 5, 6, 7, 12, 13, 14, 15, 16] (by kernel_rfl) ?_
    repeat (first
      | (apply ap_pure; exact rfl; exact rfl; exact trivial; intro L; apply mo_index1; exact rfl; exact rfl; omega)
      | (apply ap_read; exact rfl; exact rfl; exact trivial; apply mo_load; exact rfl; exact .there hri)
      | (apply ap_pure; exact rfl; exact rfl; (first | exact trivial | exact rfl); intro L; apply mo_move; exact rfl))
    refine ap_callR rfl rfl rfl trivial rfl rfl (.cons rfl (.cons rfl .nil)) hw5 ?_ ?_
    · rintro v L' x' ⟨rfl, rfl, rfl⟩ p hp
      replace hp := (List.mem_filter.1 hp).1
      simp only [List.mem_cons, List.not_mem_nil, or_false] at hp
      rcases hp with rfl | rfl | rfl | rfl | rfl | rfl | rfl | rfl | rfl <;> first | exact .inl rfl | exact .inr ⟨_, rfl, trivial, mo_load rfl (.there hri)⟩
    rintro v L' x' ⟨rfl, rfl, rfl⟩
    repeat (first
      | (apply ap_pure; exact rfl; exact rfl; exact trivial; intro L; apply mo_conv; exact rfl; exact c8)
      | (apply ap_pure; exact rfl; exact rfl; (first | exact trivial | exact rfl); intro L; apply mo_bin; exact rfl; exact rfl; apply bin_add; exact wrap_i64 (by omega) (by omega)))
    refine ap_callR rfl rfl rfl trivial rfl rfl (.cons rfl (.cons rfl .nil)) hw1 ?_ ?_
    · rintro v L' x' ⟨rfl, rfl, rfl⟩ p hp
      replace hp := (List.mem_filter.1 hp).1
      simp only [List.mem_cons, List.not_mem_nil, or_false] at hp
      rcases hp with rfl | rfl | hp <;> first | exact .inl rfl | skip
      replace hp := (List.mem_filter.1 hp).1
      simp only [List.mem_cons, List.not_mem_nil, or_false] at hp
      rcases hp with rfl | rfl | rfl | rfl | rfl | rfl | rfl | rfl | rfl <;> first | exact .inl rfl | exact .inr ⟨_, rfl, trivial, mo_load rfl (.there hri)⟩
    rintro v L' x' ⟨rfl, rfl, rfl⟩
    repeat (first
      | (apply ap_pure; exact rfl; exact rfl; exact trivial; intro L; apply mo_build (pv := [(0, _), (1, _)]); exact rfl; exact .cons rfl (.cons rfl .nil); exact rfl))
    refine ap_loud rfl rfl rfl rfl rfl trivial (mo_buildSlice (sz := 2) (vs := [.agg #[.int .u8 (1 + m5), .int .i64 m1]]) rfl (.cons rfl .nil) rfl (by intro v hv; cases (List.mem_singleton.1 hv); exact rfl) (by omega)) ?_
    rintro v' L' ⟨nb, rfl, rfl⟩
    refine ap_loud rfl rfl rfl rfl rfl trivial (mo_append (sz := 2) (new := [.int .u8 (1 + m5), .int .i64 m1]) rfl rfl rfl rfl (.there .here) rfl (.inr ⟨_, _, rfl, Rds.all .here⟩) (by intro v hv; simp at hv; rcases hv with rfl | rfl <;> rfl) (by simp only [sliceLen]; omega)) ?_
    rintro v' L' rfl
    repeat (first
      | (apply ap_pure; exact rfl; exact rfl; (first | exact trivial | exact rfl); intro L; apply mo_assign; exact rfl)
      | refine ap_end ?_)
    have e2 : (((l.take rn).map mk1).map mark2).flatten ++ [.int .u8 (1 + m5), .int .i64 m1] = (((l.take (rn + 1)).map mk1).map mark2).flatten := by
      rw [List.take_succ_eq_append_getElem hlt]
      simp only [List.map_append, List.map_cons, List.map_nil, List.flatten_append, List.flatten_cons, List.flatten_nil, List.append_nil]
      unfold mk1 mark2
      rw [hm5, hm1]
      simp only
      rw [Int.toNat_of_nonneg e1]
    rw [e2]
    repeat (first
      | (refine we_region _ rfl rfl ?_; simp only [opsOf, List.map_cons, List.map_nil, Option.map_none, Option.map_some, List.getElem?_toArray, List.getElem?_cons_zero, List.getElem?_cons_succ, Option.bind_some, Option.getD_some])
      | refine wo_nil ?_
      | (apply wo_po; apply mo_move; exact rfl; (first | exact trivial | exact rfl))
      | (apply wo_po; apply mo_assign; exact rfl; (first | exact trivial | exact rfl))
      | (apply wo_po; apply mo_bin; exact rfl; exact rfl; apply bin_add; exact wrap_i64 (by omega) (by omega); (first | exact trivial | exact rfl)))
    refine at_round (I := mkInv (.slice (some ⟨b, o, none⟩) l.length c) l L _) (R := fun j => l.length - j.1 < l.length - rn) (rn + 1, v') (by show l.length - (rn + 1) < l.length - rn; omega) ⟨by show rn + 1 ≤ l.length; omega, by show rn + 1 ≤ 60; omega⟩ ?_ ?_ rfl
    exact ⟨rfl, rfl, rfl, trivial⟩
    exact (.take .here (.drop .refl))
  · have hfin : ((l.take i).map mk1) = mkF l := by
      unfold mkF
      by_cases h : i = l.length
      · subst h; rw [List.take_length, List.take_of_length_le (by omega)]
      · rw [show i = 60 by omega]
    by_cases h1 : i < l.length
    · repeat (first
        | (apply wo_po; apply mo_bin; exact rfl; exact rfl; apply bin_lssT; omega; (first | exact trivial | exact rfl))
        | (apply wo_po; apply mo_bin; exact rfl; exact rfl; apply bin_lssF; omega; (first | exact trivial | exact rfl))
        | refine we_seq ?_
        | (refine we_region _ rfl rfl ?_; simp only [opsOf, List.map_cons, List.map_nil, Option.map_none, Option.map_some, List.getElem?_toArray, List.getElem?_cons_zero, List.getElem?_cons_succ, Option.bind_some, Option.getD_some])
        | refine wo_nil ?_
        | (apply wo_po; apply mo_move; exact rfl; (first | exact trivial | exact rfl))
        | (apply wo_po; apply mo_assign; exact rfl; (first | exact trivial | exact rfl))
        | (apply wo_po; apply mo_pickT; exact rfl; exact rfl; exact rfl; (first | exact trivial | exact rfl))
        | (apply wo_po; apply mo_len; exact rfl; (first | exact trivial | exact rfl))
        | (apply we_condF; exact rfl; (first | exact rfl | (simp <;> omega) | omega))
        | refine we_ret ?_
        | refine we_exit ?_)
      (first | refine at_ret1 (ex := .ret) Try.func33 Try.results33 hQ (.inl rfl) rfl ?_ | refine at_ret1 (ex := .normal) Try.func33 Try.results33 hQ (.inr rfl) rfl ?_)
      exact ⟨rfl, fun h st => by rw [hfin] at st; exact st⟩
    · repeat (first
        | (apply wo_po; apply mo_bin; exact rfl; exact rfl; apply bin_lssF; omega; (first | exact trivial | exact rfl))
        | refine we_seq ?_
        | (refine we_region _ rfl rfl ?_; simp only [opsOf, List.map_cons, List.map_nil, Option.map_none, Option.map_some, List.getElem?_toArray, List.getElem?_cons_zero, List.getElem?_cons_succ, Option.bind_some, Option.getD_some])
        | refine wo_nil ?_
        | (apply wo_po; apply mo_move; exact rfl; (first | exact trivial | exact rfl))
        | (apply wo_po; apply mo_assign; exact rfl; (first | exact trivial | exact rfl))
        | (apply wo_no; exact rfl)
        | (apply wo_po; apply mo_pickF; exact rfl; exact rfl; exact rfl; (first | exact trivial | exact rfl))
        | (apply wo_po; apply mo_len; exact rfl; (first | exact trivial | exact rfl))
        | (apply we_condF; exact rfl; (first | exact rfl | (simp <;> omega) | omega))
        | refine we_ret ?_
        | refine we_exit ?_)
      (first | refine at_ret1 (ex := .ret) Try.func33 Try.results33 hQ (.inl rfl) rfl ?_ | refine at_ret1 (ex := .normal) Try.func33 Try.results33 hQ (.inr rfl) rfl ?_)
      exact ⟨rfl, fun h st => by rw [hfin] at st; exact st⟩

/-- notes that nobody made -/
theorem step_none {op w : Int} : Tr Try.prog B 34 [.pointer none, .agg #[.int .u8 op, .int .i64 w]] L x fun v L' x' => v = .tuple #[] ∧ L' = L ∧ x' = x := by
  refine Tr.post (R := fun v L' x' => v = .tuple #[] ∧ x' = x ∧ ∀ h, Star L' h → Star L h) ?_ (by rintro v L' x' ⟨rfl, rfl, h2⟩; exact ⟨_, ⟨rfl, rfl, rfl⟩, h2⟩)
  refine tr_of_body Try.func34 rfl Try.ntmps34 (by simp) fun um Q _ hQ => ?_
  simp only [argE, Nat.zero_add, Nat.reduceAdd]
  repeat (first
    | (apply wo_mo; apply mo_box; exact rfl; exact trivial)
    | refine we_seq ?_
    | (refine we_region _ rfl rfl ?_; simp only [opsOf, List.map_cons, List.map_nil, Option.map_none, Option.map_some, List.getElem?_toArray, List.getElem?_cons_zero, List.getElem?_cons_succ, Option.bind_some, Option.getD_some]))
  rintro v' L' ⟨bb, rfl, rfl⟩
  repeat (first
    | refine we_seq ?_
    | (refine we_region _ rfl rfl ?_; simp only [opsOf, List.map_cons, List.map_nil, Option.map_none, Option.map_some, List.getElem?_toArray, List.getElem?_cons_zero, List.getElem?_cons_succ, Option.bind_some, Option.getD_some])
    | refine wo_nil ?_
    | (apply wo_po; apply mo_move; exact rfl; (first | exact trivial | exact rfl))
    | (apply wo_no; exact rfl)
    | (apply wo_po; apply mo_pickF; exact rfl; exact rfl; exact rfl; (first | exact trivial | exact rfl))
    | (apply wo_po; apply mo_bin; exact rfl; exact rfl; apply bin_ne; apply eql_ptr_nil; (first | exact trivial | exact rfl))
    | (apply we_condF; exact rfl; (first | exact rfl | (simp <;> omega) | omega))
    | refine we_skip ?_)
  (first | refine at_ret0 (ex := .ret) Try.func34 Try.results34 hQ (.inl rfl) ?_ | refine at_ret0 (ex := .normal) Try.func34 Try.results34 hQ (.inr rfl) ?_)
  exact ⟨rfl, rfl, fun h st => star_drop st⟩
theorem step_zero {op w : Int} {zb : Nat} (hr : Rd L zb 0 (.bool false)) : Tr Try.prog B 34 [.pointer (some ⟨zb, 0, none⟩), .agg #[.int .u8 op, .int .i64 w]] L x fun v L' x' => v = .tuple #[] ∧ L' = L ∧ x' = x := by
  refine Tr.post (R := fun v L' x' => v = .tuple #[] ∧ x' = x ∧ ∀ h, Star L' h → Star L h) ?_ (by rintro v L' x' ⟨rfl, rfl, h2⟩; exact ⟨_, ⟨rfl, rfl, rfl⟩, h2⟩)
  refine tr_of_body Try.func34 rfl Try.ntmps34 (by simp) fun um Q _ hQ => ?_
  simp only [argE, Nat.zero_add, Nat.reduceAdd]
  repeat (first
    | (apply wo_mo; apply mo_box; exact rfl; exact trivial)
    | refine we_seq ?_
    | (refine we_region _ rfl rfl ?_; simp only [opsOf, List.map_cons, List.map_nil, Option.map_none, Option.map_some, List.getElem?_toArray, List.getElem?_cons_zero, List.getElem?_cons_succ, Option.bind_some, Option.getD_some]))
  rintro v' L' ⟨bb, rfl, rfl⟩
  repeat (first
    | (apply wo_po; apply mo_load; exact rfl; exact .there hr; exact rfl)
    | refine we_seq ?_
    | (refine we_region _ rfl rfl ?_; simp only [opsOf, List.map_cons, List.map_nil, Option.map_none, Option.map_some, List.getElem?_toArray, List.getElem?_cons_zero, List.getElem?_cons_succ, Option.bind_some, Option.getD_some])
    | refine wo_nil ?_
    | (apply wo_po; apply mo_move; exact rfl; (first | exact trivial | exact rfl))
    | (apply wo_po; apply mo_pickT; exact rfl; exact rfl; exact rfl; (first | exact trivial | exact rfl))
    | (apply wo_po; apply mo_nilCheck; exact rfl; (first | exact trivial | exact rfl))
    | (apply wo_po; apply mo_fieldAddr; exact rfl; exact rfl; (first | exact Nat.zero_add _ | exact rfl); (first | exact trivial | exact rfl))
    | (apply wo_po; apply mo_bin; exact rfl; exact rfl; apply bin_ne; apply eql_ptr_nil; (first | exact trivial | exact rfl))
    | (apply we_condF; exact rfl; (first | exact rfl | (simp <;> omega) | omega))
    | refine we_skip ?_)
  (first | refine at_ret0 (ex := .ret) Try.func34 Try.results34 hQ (.inl rfl) ?_ | refine at_ret0 (ex := .normal) Try.func34 Try.results34 hQ (.inr rfl) ?_)
  exact ⟨rfl, rfl, fun h st => star_drop st⟩
theorem marks_none : Tr Try.prog B 35 [.pointer none] L x fun v L' x' => v = .slice none 0 0 ∧ L' = L ∧ x' = x := by
  refine tr_of_body Try.func35 rfl Try.ntmps35 (by simp) fun um Q _ hQ => ?_
  simp only [argE, Nat.zero_add, Nat.reduceAdd]
  repeat (first
    | refine we_seq ?_
    | (refine we_region _ rfl rfl ?_; simp only [opsOf, List.map_cons, List.map_nil, Option.map_none, Option.map_some, List.getElem?_toArray, List.getElem?_cons_zero, List.getElem?_cons_succ, Option.bind_some, Option.getD_some])
    | refine wo_nil ?_
    | (apply wo_po; apply mo_move; exact rfl; (first | exact trivial | exact rfl))
    | (apply wo_po; apply mo_assign; exact rfl; (first | exact trivial | exact rfl))
    | (apply wo_no; exact rfl)
    | (apply wo_po; apply mo_pickT; exact rfl; exact rfl; exact rfl; (first | exact trivial | exact rfl))
    | (apply wo_po; apply mo_bin; exact rfl; exact rfl; apply bin_eq; apply eql_ptr_nil; (first | exact trivial | exact rfl))
    | (apply we_condT; exact rfl; (first | exact rfl | (simp <;> omega) | omega))
    | refine we_ret ?_)
  (first | refine at_ret1 (ex := .ret) Try.func35 Try.results35 hQ (.inl rfl) rfl ?_ | refine at_ret1 (ex := .normal) Try.func35 Try.results35 hQ (.inr rfl) rfl ?_)
  exact ⟨rfl, rfl, rfl⟩
theorem marks_zero {zb : Nat} (hr : Rd L zb 0 (.bool false)) : Tr Try.prog B 35 [.pointer (some ⟨zb, 0, none⟩)] L x fun v L' x' => v = .slice none 0 0 ∧ L' = L ∧ x' = x := by
  refine tr_of_body Try.func35 rfl Try.ntmps35 (by simp) fun um Q _ hQ => ?_
  simp only [argE, Nat.zero_add, Nat.reduceAdd]
  repeat (first
    | (apply wo_po; apply mo_load; exact rfl; exact hr; exact rfl)
    | refine we_seq ?_
    | (refine we_region _ rfl rfl ?_; simp only [opsOf, List.map_cons, List.map_nil, Option.map_none, Option.map_some, List.getElem?_toArray, List.getElem?_cons_zero, List.getElem?_cons_succ, Option.bind_some, Option.getD_some])
    | refine wo_nil ?_
    | (apply wo_po; apply mo_move; exact rfl; (first | exact trivial | exact rfl))
    | (apply wo_po; apply mo_assign; exact rfl; (first | exact trivial | exact rfl))
    | (apply wo_po; apply mo_pickF; exact rfl; exact rfl; exact rfl; (first | exact trivial | exact rfl))
    | (apply wo_po; apply mo_nilCheck; exact rfl; (first | exact trivial | exact rfl))
    | (apply wo_po; apply mo_fieldAddr; exact rfl; exact rfl; (first | exact Nat.zero_add _ | exact rfl); (first | exact trivial | exact rfl))
    | (apply wo_po; apply mo_not; exact rfl; (first | exact trivial | exact rfl))
    | (apply wo_po; apply mo_bin; exact rfl; exact rfl; apply bin_eq; apply eql_ptr_nil; (first | exact trivial | exact rfl))
    | (apply we_condT; exact rfl; (first | exact rfl | (simp <;> omega) | omega))
    | refine we_ret ?_)
  (first | refine at_ret1 (ex := .ret) Try.func35 Try.results35 hQ (.inl rfl) rfl ?_ | refine at_ret1 (ex := .normal) Try.func35 Try.results35 hQ (.inr rfl) rfl ?_)
  exact ⟨rfl, rfl, rfl⟩
end
end Go.Proofs.Ytabbkjciifnehaa
