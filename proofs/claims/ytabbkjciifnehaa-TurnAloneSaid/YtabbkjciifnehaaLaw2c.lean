/-
  patchbaylaw02's ints, kept; patchbayref02's Wrong, Count; TurnCounts.
-/
import Derived.Test.YtabbkjciifnehaaAwake
set_option linter.unusedVariables false
set_option linter.unusedSimpArgs false
namespace Go.Proofs.Ytabbkjciifnehaa
open Go Go.PB
attribute [local irreducible] Mo Bin Eql Tr Wo Ap Wle

/-- a list with marked room behind it -/
def insC (l : List Int) : List Value := ints l ++ [.int .i64 77, .int .i64 78, .int .i64 79]
theorem insC_len {l : List Int} : (insC l).length = l.length + 3 := by simp [insC]

section
variable {B : Hand} [Lets B] {L F : List HProp} {x : B.X} {a : Option Addr} {n c : Nat} {l : List Int}

theorem ints_one : ∀ w ∈ ints l, one w = true := by
  intro w hw
  obtain ⟨k, _, rfl⟩ := List.mem_map.1 hw
  rfl

theorem ints_tr (hr : RdsO L a n (ints l)) (hb : n ≤ 17592186043904) :
    Tr Try.prog B 16 [.slice a n c] L x fun v L' x' => ∃ b o cc, v = .slice (some ⟨b, o, none⟩) n cc ∧ n + 3 ≤ cc ∧ L' = vec 1 (.slice (some ⟨b, o, none⟩) (n + 3) cc) (insC l) :: L ∧ x' = x := by
  have hn : n = l.length := by have := hr.1; simpa using this
  subst hn
  refine Tr.post (R := fun v L' x' => ∃ b o cc, v = .slice (some ⟨b, o, none⟩) l.length cc ∧ l.length + 3 ≤ cc ∧ x' = x ∧ ∀ h, Star L' h → Star (vec 1 (.slice (some ⟨b, o, none⟩) (l.length + 3) cc) (insC l) :: L) h) ?_
    (by rintro v L' x' ⟨b, o, cc, rfl, h1, rfl, h2⟩; exact ⟨_, ⟨b, o, cc, rfl, h1, rfl, rfl⟩, h2⟩)
  refine tr_star (vec 1 (.slice none 0 0) [] :: L) (fun h st => vec_nil st) ?_
  have hrd : l.length = 0 ∨ ∃ b o, a = some ⟨b, o, none⟩ ∧ Rds (vec 1 (.slice none 0 0) [] :: L) b o (ints l) := hr.there.2
  refine tr_of_body Try.func16 rfl Try.ntmps16 (by simp) fun um Q _ hQ => ?_
  simp only [argE, Nat.zero_add, Nat.reduceAdd]
  repeat (first
    | (apply wo_mo; apply mo_append (sz := 1) (new := ints l); exact rfl; exact rfl; exact rfl; exact rfl; exact .here; (simp [ints]); exact hrd; exact ints_one; (simp only [sliceLen]; omega); exact trivial)
    | refine we_seq ?_
    | (refine we_region _ rfl rfl ?_; simp only [opsOf, List.map_cons, List.map_nil, Option.map_none, Option.map_some, List.getElem?_toArray, List.getElem?_cons_zero, List.getElem?_cons_succ, Option.bind_some, Option.getD_some])
    | refine wo_nil ?_
    | (apply wo_po; apply mo_move; exact rfl; (first | exact trivial | exact rfl))
    | (apply wo_po; apply mo_assign; exact rfl; (first | exact trivial | exact rfl)))
  rintro v' L' rfl
  refine wo_pure (of_has .here (vec_shape (by omega))) ?_
  rintro ⟨ra, rn, rc, rfl, hrn, _⟩
  have hrn : rn = l.length := by simp [ints] at hrn; omega
  subst hrn
  repeat (first
    | (apply wo_mo; apply mo_buildSlice (sz := 1) (vs := [.int .i64 77, .int .i64 78, .int .i64 79]); exact rfl; exact .cons rfl (.cons rfl (.cons rfl .nil)); exact rfl; (intro v hv; simp at hv; rcases hv with rfl | rfl | rfl <;> rfl); omega; exact trivial)
    | refine we_seq ?_
    | (refine we_region _ rfl rfl ?_; simp only [opsOf, List.map_cons, List.map_nil, Option.map_none, Option.map_some, List.getElem?_toArray, List.getElem?_cons_zero, List.getElem?_cons_succ, Option.bind_some, Option.getD_some])
    | refine wo_nil ?_
    | (apply wo_po; apply mo_move; exact rfl; (first | exact trivial | exact rfl))
    | (apply wo_po; apply mo_assign; exact rfl; (first | exact trivial | exact rfl)))
  rintro v' L' ⟨nb, rfl, rfl⟩
  repeat (first
    | (apply wo_mo; apply mo_append (sz := 1) (new := [.int .i64 77, .int .i64 78, .int .i64 79]); exact rfl; exact rfl; exact rfl; exact rfl; exact (.there .here); exact rfl; exact .inr ⟨_, _, rfl, Rds.all .here⟩; (intro v hv; simp at hv; rcases hv with rfl | rfl | rfl <;> rfl); (simp only [sliceLen]; omega); exact trivial))
  rintro v' L' rfl
  refine wo_pure (of_has .here (vec_shape (by omega))) ?_
  rintro ⟨ua, un, uc, rfl, hun, huc, huz, huy⟩
  have hun : un = l.length + 3 := by simp [ints] at hun; omega
  subst hun
  obtain ⟨ub, uo, rfl⟩ : ∃ b o, ua = some ⟨b, o, none⟩ := by
    cases ua with
    | none => have := huz rfl; omega
    | some y => exact ⟨y.block, y.off, by rw [huy y rfl]⟩
  repeat (first
    | (apply wo_po; apply mo_sliceTo; exact rfl; exact rfl; exact rfl; omega; omega; exact trivial)
    | refine we_seq ?_
    | (refine we_region _ rfl rfl ?_; simp only [opsOf, List.map_cons, List.map_nil, Option.map_none, Option.map_some, List.getElem?_toArray, List.getElem?_cons_zero, List.getElem?_cons_succ, Option.bind_some, Option.getD_some])
    | refine wo_nil ?_
    | (apply wo_po; apply mo_move; exact rfl; (first | exact trivial | exact rfl))
    | (apply wo_po; apply mo_assign; exact rfl; (first | exact trivial | exact rfl))
    | (apply wo_po; apply mo_len; exact rfl; (first | exact trivial | exact rfl))
    | refine we_ret ?_)
  (first | refine at_ret1 (ex := .ret) Try.func16 Try.results16 hQ (.inl rfl) rfl ?_ | refine at_ret1 (ex := .normal) Try.func16 Try.results16 hQ (.inr rfl) rfl ?_)
  exact ⟨ub, uo, uc, rfl, huc, rfl, fun h st => Ent.star (.take .here (.drop .refl)) st⟩

def keptInv (b o n cc : Nat) (lv : Value) (L : List HProp) (x : B.X) : PB.Inv Nat B.X where
  e := fun i => [(1, lv), (5, .slice (some ⟨b, o, none⟩) (n + 3) cc), (6, .int .i64 (i : Nat))]
  L := fun _ => L
  x := fun _ => x
  ok := fun i => i ≤ n + 3

theorem kept_tr {b o cc : Nat} (hr : RdsO L a n (ints l)) (hb : n ≤ 17592186043904) (hcc : n + 3 ≤ cc) (hh : Has L (vec 1 (.slice (some ⟨b, o, none⟩) (n + 3) cc) (insC l)) F) :
    Tr Try.prog B 22 [.slice (some ⟨b, o, none⟩) n cc, .slice a n c] L x fun v L' x' => v = .bool true ∧ L' = L ∧ x' = x := by
  have hn : n = l.length := by have := hr.1; simpa using this
  subst hn
  refine tr_of_body Try.func22 rfl Try.ntmps22 (by simp) fun um Q _ hQ => ?_
  simp only [argE, Nat.zero_add, Nat.reduceAdd]
  repeat (first
    | (apply wo_po; apply mo_sliceTo (u := l.length + 3); exact rfl; exact rfl; simp; omega; omega; exact trivial)
    | refine we_seq ?_
    | (refine we_region _ rfl rfl ?_; simp only [opsOf, List.map_cons, List.map_nil, Option.map_none, Option.map_some, List.getElem?_toArray, List.getElem?_cons_zero, List.getElem?_cons_succ, Option.bind_some, Option.getD_some])
    | refine wo_nil ?_
    | (apply wo_po; apply mo_move; exact rfl; (first | exact trivial | exact rfl))
    | (apply wo_po; apply mo_assign; exact rfl; (first | exact trivial | exact rfl))
    | (apply wo_po; apply mo_bin; exact rfl; exact rfl; apply bin_add; exact wrap_i64 (by omega) (by omega); (first | exact trivial | exact rfl))
    | (apply wo_po; apply mo_len; exact rfl; (first | exact trivial | exact rfl))
    | refine we_block ?_)
  refine we_loopN (keptInv b o l.length cc (.slice a l.length c) L x) (fun i => l.length + 3 - i) 0 (Nat.zero_le _) ⟨rfl, rfl, rfl, trivial⟩ .refl rfl ?_
  intro i hi
  replace hi : i ≤ l.length + 3 := hi
  simp only [keptInv]
  by_cases hlt : i < l.length
  · obtain ⟨ab, ao, rfl, hrd⟩ := hr.rds (by omega)
    have hri := hrd i (.int .i64 l[i]) (by rw [List.getElem?_map, List.getElem?_eq_getElem hlt]; rfl)
    have hrv : Rd L b (o + i) (.int .i64 l[i]) := rd_vec hh (by unfold insC; rw [List.getElem?_append_left (by simpa using hlt), List.getElem?_map, List.getElem?_eq_getElem hlt]; rfl)
    repeat (first
      | (apply wo_po; apply mo_bin; exact rfl; exact rfl; apply bin_lssT; omega; (first | exact trivial | exact rfl))
      | refine we_seq ?_
      | (refine we_region _ rfl rfl ?_; simp only [opsOf, List.map_cons, List.map_nil, Option.map_none, Option.map_some, List.getElem?_toArray, List.getElem?_cons_zero, List.getElem?_cons_succ, Option.bind_some, Option.getD_some])
      | refine wo_nil ?_
      | (apply wo_po; apply mo_move; exact rfl; (first | exact trivial | exact rfl))
      | (apply wo_po; apply mo_len; exact rfl; (first | exact trivial | exact rfl))
      | (apply we_condT; exact rfl; (first | exact rfl | (simp <;> omega) | omega))
      | refine we_skip ?_
      | refine we_block ?_)
    refine we_draw (List.range' 0 33) (by kernel_rfl) ?_
    repeat (first
      | (apply ap_pure; exact rfl; exact rfl; (first | exact trivial | exact rfl); intro L; apply mo_bin; exact rfl; exact rfl; apply bin_lssT; omega)
      | (apply ap_pure; exact rfl; exact rfl; (first | exact trivial | exact rfl); intro L; apply mo_bin; exact rfl; exact rfl; apply bin_geqF; omega)
      | (apply ap_pure; exact rfl; exact rfl; (first | exact trivial | exact rfl); intro L; apply mo_bin; exact rfl; exact rfl; apply bin_neqF; omega)
      | (apply ap_pure; exact rfl; exact rfl; (first | exact trivial | exact rfl); intro L; apply mo_index1; exact rfl; exact rfl; omega)
      | (apply ap_read; exact rfl; exact rfl; (first | exact trivial | exact rfl); apply mo_load; exact rfl; (first | exact hri | exact hrv))
      | (apply ap_pure; exact rfl; exact rfl; (first | exact trivial | exact rfl); intro L; apply mo_move; exact rfl)
      | (apply ap_no; exact rfl; exact rfl; exact rfl; exact rfl)
      | (apply ap_pure; exact rfl; exact rfl; (first | exact trivial | exact rfl); intro L; apply mo_pickT; exact rfl; exact rfl; exact rfl)
      | (apply ap_pure; exact rfl; exact rfl; (first | exact trivial | exact rfl); intro L; apply mo_pickF; exact rfl; exact rfl; exact rfl)
      | (apply ap_pure; exact rfl; exact rfl; (first | exact trivial | exact rfl); intro L; apply mo_len; exact rfl)
      | refine ap_end ?_)
    repeat (first
      | (refine we_region _ rfl rfl ?_; simp only [opsOf, List.map_cons, List.map_nil, Option.map_none, Option.map_some, List.getElem?_toArray, List.getElem?_cons_zero, List.getElem?_cons_succ, Option.bind_some, Option.getD_some])
      | refine wo_nil ?_
      | (apply wo_po; apply mo_move; exact rfl; (first | exact trivial | exact rfl))
      | (apply wo_po; apply mo_assign; exact rfl; (first | exact trivial | exact rfl))
      | (apply wo_po; apply mo_bin; exact rfl; exact rfl; apply bin_add; exact wrap_i64 (by omega) (by omega); (first | exact trivial | exact rfl))
      | (apply we_condF; exact rfl; (first | exact rfl | (simp <;> omega) | omega))
      | refine we_skip ?_)
    refine at_round (I := keptInv b o l.length cc (.slice (some ⟨ab, ao, none⟩) l.length c) L x) (R := fun j => l.length + 3 - j < l.length + 3 - i) (i + 1) (by omega) (show i + 1 ≤ l.length + 3 by omega) ?_ .refl rfl
    exact ⟨rfl, rfl, rfl, trivial⟩
  by_cases hlt3 : i < l.length + 3
  · have hrv : Rd L b (o + i) (.int .i64 (77 + i - l.length)) := rd_vec hh (by
      unfold insC
      rw [List.getElem?_append_right (by simpa using hlt)]
      have h3 : i = l.length ∨ i = l.length + 1 ∨ i = l.length + 2 := by omega
      rcases h3 with h | h | h <;> subst h <;> simp <;> omega)
    repeat (first
      | (apply wo_po; apply mo_bin; exact rfl; exact rfl; apply bin_lssT; omega; (first | exact trivial | exact rfl))
      | refine we_seq ?_
      | (refine we_region _ rfl rfl ?_; simp only [opsOf, List.map_cons, List.map_nil, Option.map_none, Option.map_some, List.getElem?_toArray, List.getElem?_cons_zero, List.getElem?_cons_succ, Option.bind_some, Option.getD_some])
      | refine wo_nil ?_
      | (apply wo_po; apply mo_move; exact rfl; (first | exact trivial | exact rfl))
      | (apply wo_po; apply mo_len; exact rfl; (first | exact trivial | exact rfl))
      | (apply we_condT; exact rfl; (first | exact rfl | (simp <;> omega) | omega))
      | refine we_skip ?_
      | refine we_block ?_)
    refine we_draw (List.range' 0 33) (by kernel_rfl) ?_
    repeat (first
      | (apply ap_pure; exact rfl; exact rfl; (first | exact trivial | exact rfl); intro L; apply mo_bin; exact rfl; exact rfl; apply bin_lssF; omega)
      | (apply ap_pure; exact rfl; exact rfl; (first | exact trivial | exact rfl); intro L; apply mo_bin; exact rfl; exact rfl; apply bin_geqT; omega)
      | (apply ap_pure; exact rfl; exact rfl; (first | exact trivial | exact rfl); intro L; apply mo_bin; exact rfl; exact rfl; apply bin_neqF; omega)
      | (apply ap_pure; exact rfl; exact rfl; (first | exact trivial | exact rfl); intro L; apply mo_bin; exact rfl; exact rfl; apply bin_add; exact wrap_i64 (by omega) (by omega))
      | (apply ap_pure; exact rfl; exact rfl; (first | exact trivial | exact rfl); intro L; apply mo_bin; exact rfl; exact rfl; apply bin_sub; exact wrap_i64 (by omega) (by omega))
      | (apply ap_pure; exact rfl; exact rfl; (first | exact trivial | exact rfl); intro L; apply mo_index1; exact rfl; exact rfl; omega)
      | (apply ap_read; exact rfl; exact rfl; (first | exact trivial | exact rfl); apply mo_load; exact rfl; exact hrv)
      | (apply ap_pure; exact rfl; exact rfl; (first | exact trivial | exact rfl); intro L; apply mo_move; exact rfl)
      | (apply ap_no; exact rfl; exact rfl; exact rfl; exact rfl)
      | (apply ap_pure; exact rfl; exact rfl; (first | exact trivial | exact rfl); intro L; apply mo_pickT; exact rfl; exact rfl; exact rfl)
      | (apply ap_pure; exact rfl; exact rfl; (first | exact trivial | exact rfl); intro L; apply mo_pickF; exact rfl; exact rfl; exact rfl)
      | (apply ap_pure; exact rfl; exact rfl; (first | exact trivial | exact rfl); intro L; apply mo_len; exact rfl)
      | refine ap_end ?_)
    repeat (first
      | (refine we_region _ rfl rfl ?_; simp only [opsOf, List.map_cons, List.map_nil, Option.map_none, Option.map_some, List.getElem?_toArray, List.getElem?_cons_zero, List.getElem?_cons_succ, Option.bind_some, Option.getD_some])
      | refine wo_nil ?_
      | (apply wo_po; apply mo_move; exact rfl; (first | exact trivial | exact rfl))
      | (apply wo_po; apply mo_assign; exact rfl; (first | exact trivial | exact rfl))
      | (apply wo_po; apply mo_bin; exact rfl; exact rfl; apply bin_add; exact wrap_i64 (by omega) (by omega); (first | exact trivial | exact rfl))
      | (apply we_condF; exact rfl; (first | exact rfl | (simp <;> omega) | omega))
      | refine we_skip ?_)
    refine at_round (I := keptInv b o l.length cc (.slice a l.length c) L x) (R := fun j => l.length + 3 - j < l.length + 3 - i) (i + 1) (by omega) (show i + 1 ≤ l.length + 3 by omega) ?_ .refl rfl
    exact ⟨rfl, rfl, rfl, trivial⟩
  · repeat (first
      | (apply wo_po; apply mo_bin; exact rfl; exact rfl; apply bin_lssF; omega; (first | exact trivial | exact rfl))
      | refine we_seq ?_
      | (refine we_region _ rfl rfl ?_; simp only [opsOf, List.map_cons, List.map_nil, Option.map_none, Option.map_some, List.getElem?_toArray, List.getElem?_cons_zero, List.getElem?_cons_succ, Option.bind_some, Option.getD_some])
      | refine wo_nil ?_
      | (apply wo_po; apply mo_move; exact rfl; (first | exact trivial | exact rfl))
      | (apply wo_po; apply mo_assign; exact rfl; (first | exact trivial | exact rfl))
      | (apply wo_po; apply mo_len; exact rfl; (first | exact trivial | exact rfl))
      | (apply we_condF; exact rfl; (first | exact rfl | (simp <;> omega) | omega))
      | refine we_ret ?_
      | refine we_exit ?_)
    (first | refine at_ret1 (ex := .ret) Try.func22 Try.results22 hQ (.inl rfl) rfl ?_ | refine at_ret1 (ex := .normal) Try.func22 Try.results22 hQ (.inr rfl) rfl ?_)
    exact ⟨rfl, rfl, rfl⟩

/- ---- the document's answer ---- -/
def negInv (sv : Value) (l : List Int) (L : List HProp) (x : B.X) : PB.Inv Nat B.X where
  e := fun i => [(0, sv), (3, .int .i64 0), (4, .int .i64 (i : Nat))]
  L := fun _ => L
  x := fun _ => x
  ok := fun i => i ≤ l.length ∧ ∀ k v, k < i → l[k]? = some v → 0 ≤ v
def sum2Inv (sv : Value) (l : List Int) (L : List HProp) (x : B.X) : PB.Inv (Nat × Int) B.X where
  e := fun i => [(0, sv), (3, .int .i64 i.2), (5, .int .i64 (i.1 : Nat))]
  L := fun _ => L
  x := fun _ => x
  ok := fun i => i.1 ≤ l.length ∧ 0 ≤ i.2 ∧ i.2 ≤ 16384 ∧ overF i.2 (l.drop i.1) = overF 0 l

theorem refWrong_tr (hr : RdsO L a n (ints l)) (hb : n ≤ 17592186043904) :
    Tr Try.prog B 27 [.slice a n c] L x fun v L' x' => v = .int .i64 (wrongF l) ∧ L' = L ∧ x' = x := by
  have hn : n = l.length := by have := hr.1; simpa using this
  subst hn
  have hri : ∀ i (h : i < l.length), ∃ b o, a = some ⟨b, o, none⟩ ∧ Rd L b (o + i) (.int .i64 l[i]) := fun i h => by
    obtain ⟨b, o, e, hrd⟩ := hr.rds (by omega)
    exact ⟨b, o, e, hrd i _ (by rw [List.getElem?_map, List.getElem?_eq_getElem h]; rfl)⟩
  refine tr_of_body Try.func27 rfl Try.ntmps27 (by simp) fun um Q _ hQ => ?_
  simp only [argE, Nat.zero_add, Nat.reduceAdd]
  repeat (first
    | refine we_seq ?_
    | (refine we_region _ rfl rfl ?_; simp only [opsOf, List.map_cons, List.map_nil, Option.map_none, Option.map_some, List.getElem?_toArray, List.getElem?_cons_zero, List.getElem?_cons_succ, Option.bind_some, Option.getD_some])
    | refine wo_nil ?_
    | (apply wo_po; apply mo_assign; exact rfl; (first | exact trivial | exact rfl))
    | refine we_block ?_)
  refine we_loopN (negInv (.slice a l.length c) l L x) (fun i => l.length - i) 0 ⟨Nat.zero_le _, fun k v h => by omega⟩ ⟨rfl, rfl, rfl, trivial⟩ .refl rfl ?_
  rintro i ⟨hi, hbe⟩
  simp only [negInv]
  by_cases hlt : i < l.length
  · obtain ⟨b, o, rfl, hrd⟩ := hri i hlt
    by_cases hneg : l[i] < 0
    · repeat (first
        | (apply wo_po; apply mo_index1; exact rfl; exact rfl; omega; (first | exact trivial | exact rfl))
        | (apply wo_po; apply mo_load; exact rfl; exact hrd; exact trivial)
        | (apply wo_po; apply mo_bin; exact rfl; exact rfl; apply bin_lssT; omega; (first | exact trivial | exact rfl))
        | refine we_seq ?_
        | (refine we_region _ rfl rfl ?_; simp only [opsOf, List.map_cons, List.map_nil, Option.map_none, Option.map_some, List.getElem?_toArray, List.getElem?_cons_zero, List.getElem?_cons_succ, Option.bind_some, Option.getD_some])
        | refine wo_nil ?_
        | (apply wo_po; apply mo_move; exact rfl; (first | exact trivial | exact rfl))
        | (apply wo_po; apply mo_assign; exact rfl; (first | exact trivial | exact rfl))
        | (apply wo_po; apply mo_len; exact rfl; (first | exact trivial | exact rfl))
        | (apply we_condT; exact rfl; (first | exact rfl | (simp <;> omega) | omega))
        | refine we_ret ?_
        | refine we_skip ?_
        | refine we_block ?_)
      (first | refine at_ret1 (ex := .ret) Try.func27 Try.results27 hQ (.inl rfl) rfl ?_ | refine at_ret1 (ex := .normal) Try.func27 Try.results27 hQ (.inr rfl) rfl ?_)
      rw [show wrongF l = 2 by unfold wrongF; rw [if_pos ⟨l[i], List.getElem_mem hlt, hneg⟩]]
      exact ⟨rfl, rfl, rfl⟩
    · repeat (first
        | (apply wo_po; apply mo_index1; exact rfl; exact rfl; omega; (first | exact trivial | exact rfl))
        | (apply wo_po; apply mo_load; exact rfl; exact hrd; exact trivial)
        | (apply wo_po; apply mo_bin; exact rfl; exact rfl; apply bin_lssT; omega; (first | exact trivial | exact rfl))
        | (apply wo_po; apply mo_bin; exact rfl; exact rfl; apply bin_lssF; omega; (first | exact trivial | exact rfl))
        | refine we_seq ?_
        | (refine we_region _ rfl rfl ?_; simp only [opsOf, List.map_cons, List.map_nil, Option.map_none, Option.map_some, List.getElem?_toArray, List.getElem?_cons_zero, List.getElem?_cons_succ, Option.bind_some, Option.getD_some])
        | refine wo_nil ?_
        | (apply wo_po; apply mo_move; exact rfl; (first | exact trivial | exact rfl))
        | (apply wo_po; apply mo_assign; exact rfl; (first | exact trivial | exact rfl))
        | (apply wo_po; apply mo_bin; exact rfl; exact rfl; apply bin_add; exact wrap_i64 (by omega) (by omega); (first | exact trivial | exact rfl))
        | (apply wo_po; apply mo_len; exact rfl; (first | exact trivial | exact rfl))
        | (apply we_condT; exact rfl; (first | exact rfl | (simp <;> omega) | omega))
        | (apply we_condF; exact rfl; (first | exact rfl | (simp <;> omega) | omega))
        | refine we_skip ?_
        | refine we_block ?_)
      refine at_round (I := negInv (.slice (some ⟨b, o, none⟩) l.length c) l L x) (R := fun j => l.length - j < l.length - i) (i + 1) (by omega) ⟨by omega, fun k v hk hv => ?_⟩ ⟨rfl, rfl, rfl, trivial⟩ .refl rfl
      by_cases e : k = i
      · subst e; rw [List.getElem?_eq_getElem hlt] at hv; cases hv; omega
      · exact hbe k v (by omega) hv
  obtain rfl : i = l.length := by omega
  have hneg : ¬ ∃ k ∈ l, k < 0 := by
    rintro ⟨k, hk, h0⟩
    obtain ⟨j, hj⟩ := List.mem_iff_getElem?.1 hk
    have := hbe j k (List.getElem?_eq_some_iff.1 hj).1 hj
    omega
  have hpos : ∀ k ∈ l, 0 ≤ k := fun k hk => by
    by_cases h : 0 ≤ k
    · exact h
    · exact absurd ⟨k, hk, by omega⟩ hneg
  have hnw : wrongF l = if 16 < l.length then 4 else if overF 0 l = true then 4 else 0 := by unfold wrongF; rw [if_neg hneg]
  by_cases h16 : 16 < l.length
  · repeat (first
      | (apply wo_po; apply mo_bin; exact rfl; exact rfl; apply bin_lssF; omega; (first | exact trivial | exact rfl))
      | (apply wo_po; apply mo_bin; exact rfl; exact rfl; apply bin_gtrT; omega; (first | exact trivial | exact rfl))
      | refine we_seq ?_
      | (refine we_region _ rfl rfl ?_; simp only [opsOf, List.map_cons, List.map_nil, Option.map_none, Option.map_some, List.getElem?_toArray, List.getElem?_cons_zero, List.getElem?_cons_succ, Option.bind_some, Option.getD_some])
      | refine wo_nil ?_
      | (apply wo_po; apply mo_move; exact rfl; (first | exact trivial | exact rfl))
      | (apply wo_po; apply mo_assign; exact rfl; (first | exact trivial | exact rfl))
      | (apply wo_po; apply mo_len; exact rfl; (first | exact trivial | exact rfl))
      | (apply we_condT; exact rfl; (first | exact rfl | (simp <;> omega) | omega))
      | (apply we_condF; exact rfl; (first | exact rfl | (simp <;> omega) | omega))
      | refine we_ret ?_
      | refine we_exit ?_)
    (first | refine at_ret1 (ex := .ret) Try.func27 Try.results27 hQ (.inl rfl) rfl ?_ | refine at_ret1 (ex := .normal) Try.func27 Try.results27 hQ (.inr rfl) rfl ?_)
    rw [hnw, if_pos h16]
    exact ⟨rfl, rfl, rfl⟩
  rw [if_neg h16] at hnw
  repeat (first
    | (apply wo_po; apply mo_bin; exact rfl; exact rfl; apply bin_lssF; omega; (first | exact trivial | exact rfl))
    | (apply wo_po; apply mo_bin; exact rfl; exact rfl; apply bin_gtrF; omega; (first | exact trivial | exact rfl))
    | refine we_seq ?_
    | (refine we_region _ rfl rfl ?_; simp only [opsOf, List.map_cons, List.map_nil, Option.map_none, Option.map_some, List.getElem?_toArray, List.getElem?_cons_zero, List.getElem?_cons_succ, Option.bind_some, Option.getD_some])
    | refine wo_nil ?_
    | (apply wo_po; apply mo_move; exact rfl; (first | exact trivial | exact rfl))
    | (apply wo_po; apply mo_assign; exact rfl; (first | exact trivial | exact rfl))
    | (apply wo_po; apply mo_len; exact rfl; (first | exact trivial | exact rfl))
    | (apply we_condF; exact rfl; (first | exact rfl | (simp <;> omega) | omega))
    | refine we_skip ?_
    | refine we_block ?_
    | refine we_exit ?_)
  refine we_loopN (sum2Inv (.slice a l.length c) l L x) (fun i => l.length - i.1) (0, 0) ⟨Nat.zero_le _, Int.le_refl _, by show (0 : Int) ≤ 16384; omega, rfl⟩ ⟨rfl, rfl, rfl, trivial⟩ .refl rfl ?_
  rintro ⟨i, s⟩ ⟨hi, hs0, hs1, hov⟩
  simp only at hi hs0 hs1 hov
  simp only [sum2Inv]
  by_cases hlt : i < l.length
  · obtain ⟨b, o, rfl, hrd⟩ := hri i hlt
    have hdr : l.drop i = l[i] :: l.drop (i + 1) := List.drop_eq_getElem_cons hlt
    have hli := hpos l[i] (List.getElem_mem hlt)
    rw [hdr] at hov
    simp only [overF] at hov
    by_cases hbig : 16384 - s < l[i]
    · repeat (first
        | (apply wo_po; apply mo_index1; exact rfl; exact rfl; omega; (first | exact trivial | exact rfl))
        | (apply wo_po; apply mo_load; exact rfl; exact hrd; exact trivial)
        | (apply wo_po; apply mo_bin; exact rfl; exact rfl; apply bin_lssT; omega; (first | exact trivial | exact rfl))
        | (apply wo_po; apply mo_bin; exact rfl; exact rfl; apply bin_gtrT; omega; (first | exact trivial | exact rfl))
        | refine we_seq ?_
        | (refine we_region _ rfl rfl ?_; simp only [opsOf, List.map_cons, List.map_nil, Option.map_none, Option.map_some, List.getElem?_toArray, List.getElem?_cons_zero, List.getElem?_cons_succ, Option.bind_some, Option.getD_some])
        | refine wo_nil ?_
        | (apply wo_po; apply mo_move; exact rfl; (first | exact trivial | exact rfl))
        | (apply wo_po; apply mo_assign; exact rfl; (first | exact trivial | exact rfl))
        | (apply wo_po; apply mo_bin; exact rfl; exact rfl; apply bin_sub; exact wrap_i64 (by omega) (by omega); (first | exact trivial | exact rfl))
        | (apply wo_po; apply mo_len; exact rfl; (first | exact trivial | exact rfl))
        | (apply we_condT; exact rfl; (first | exact rfl | (simp <;> omega) | omega))
        | refine we_ret ?_
        | refine we_skip ?_
        | refine we_block ?_)
      (first | refine at_ret1 (ex := .ret) Try.func27 Try.results27 hQ (.inl rfl) rfl ?_ | refine at_ret1 (ex := .normal) Try.func27 Try.results27 hQ (.inr rfl) rfl ?_)
      have ho : overF 0 l = true := by rw [← hov]; simp [hbig]
      rw [ho] at hnw
      rw [show wrongF l = 4 from hnw]
      exact ⟨rfl, rfl, rfl⟩
    · repeat (first
        | (apply wo_po; apply mo_index1; exact rfl; exact rfl; omega; (first | exact trivial | exact rfl))
        | (apply wo_po; apply mo_load; exact rfl; exact hrd; exact trivial)
        | (apply wo_po; apply mo_bin; exact rfl; exact rfl; apply bin_lssT; omega; (first | exact trivial | exact rfl))
        | (apply wo_po; apply mo_bin; exact rfl; exact rfl; apply bin_gtrF; omega; (first | exact trivial | exact rfl))
        | refine we_seq ?_
        | (refine we_region _ rfl rfl ?_; simp only [opsOf, List.map_cons, List.map_nil, Option.map_none, Option.map_some, List.getElem?_toArray, List.getElem?_cons_zero, List.getElem?_cons_succ, Option.bind_some, Option.getD_some])
        | refine wo_nil ?_
        | (apply wo_po; apply mo_move; exact rfl; (first | exact trivial | exact rfl))
        | (apply wo_po; apply mo_assign; exact rfl; (first | exact trivial | exact rfl))
        | (apply wo_po; apply mo_bin; exact rfl; exact rfl; apply bin_add; exact wrap_i64 (by omega) (by omega); (first | exact trivial | exact rfl))
        | (apply wo_po; apply mo_bin; exact rfl; exact rfl; apply bin_sub; exact wrap_i64 (by omega) (by omega); (first | exact trivial | exact rfl))
        | (apply wo_po; apply mo_len; exact rfl; (first | exact trivial | exact rfl))
        | (apply we_condT; exact rfl; (first | exact rfl | (simp <;> omega) | omega))
        | (apply we_condF; exact rfl; (first | exact rfl | (simp <;> omega) | omega))
        | refine we_skip ?_
        | refine we_block ?_)
      refine at_round (I := sum2Inv (.slice (some ⟨b, o, none⟩) l.length c) l L x) (R := fun j => l.length - j.1 < l.length - i) (i + 1, s + l[i]) (by show l.length - (i + 1) < l.length - i; omega) ⟨by show i + 1 ≤ l.length; omega, by show 0 ≤ s + l[i]; omega, by show s + l[i] ≤ 16384; omega, by rw [← hov]; simp [hbig]⟩ ⟨rfl, rfl, rfl, trivial⟩ .refl rfl
  obtain rfl : i = l.length := by omega
  rw [List.drop_length] at hov
  have hov0 : overF 0 l = false := hov.symm
  rw [hov0, if_neg (by decide)] at hnw
  repeat (first
    | (apply wo_po; apply mo_bin; exact rfl; exact rfl; apply bin_lssF; omega; (first | exact trivial | exact rfl))
    | refine we_seq ?_
    | (refine we_region _ rfl rfl ?_; simp only [opsOf, List.map_cons, List.map_nil, Option.map_none, Option.map_some, List.getElem?_toArray, List.getElem?_cons_zero, List.getElem?_cons_succ, Option.bind_some, Option.getD_some])
    | refine wo_nil ?_
    | (apply wo_po; apply mo_move; exact rfl; (first | exact trivial | exact rfl))
    | (apply wo_po; apply mo_assign; exact rfl; (first | exact trivial | exact rfl))
    | (apply wo_po; apply mo_len; exact rfl; (first | exact trivial | exact rfl))
    | (apply we_condF; exact rfl; (first | exact rfl | (simp <;> omega) | omega))
    | refine we_ret ?_
    | refine we_exit ?_)
  (first | refine at_ret1 (ex := .ret) Try.func27 Try.results27 hQ (.inl rfl) rfl ?_ | refine at_ret1 (ex := .normal) Try.func27 Try.results27 hQ (.inr rfl) rfl ?_)
  rw [hnw]
  exact ⟨rfl, rfl, rfl⟩

def rcInv (sv : Value) (l : List Int) (L : List HProp) (x : B.X) : PB.Inv (Nat × Nat × Nat) B.X where
  e := fun i => [(0, sv), (3, .int .i64 (i.2.2 : Nat)), (4, .int .i64 (i.2.1 : Nat)), (5, .int .i64 (i.1 : Nat))]
  L := fun _ => L
  x := fun _ => x
  ok := fun i => i.1 ≤ l.length ∧ (i.2.1 : Int) + sumI (l.drop i.1) ≤ 16384 ∧ i.2.2 ≤ 16384 ∧ cntF i.2.1 i.2.2 ((l.drop i.1).map Int.toNat) = cntF 0 1 (l.map Int.toNat)
def rcInv2 (sv : Value) (n j : Nat) (s0 a0 : Nat) (L : List HProp) (x : B.X) : PB.Inv (Nat × Nat × Nat) B.X where
  e := fun i => [(0, sv), (3, .int .i64 (i.2.2 : Nat)), (4, .int .i64 (i.2.1 : Nat)), (5, .int .i64 (j : Nat)), (6, .int .i64 ((i.1 : Int) + 1))]
  L := fun _ => L
  x := fun _ => x
  ok := fun i => i.1 ≤ n ∧ i.2.1 = s0 + i.1 ∧ i.2.2 ≤ 16384 ∧ cntIn i.2.1 i.2.2 i.1 (n - i.1) = cntIn s0 a0 0 n

theorem refCount_tr (hr : RdsO L a n (ints l)) (hb : n ≤ 17592186043904) (hw : wrongF l = 0) :
    Tr Try.prog B 28 [.slice a n c] L x fun v L' x' => v = .int .i64 ((cntF 0 1 (l.map Int.toNat)).getD 16385 : Nat) ∧ L' = L ∧ x' = x := by
  have hn : n = l.length := by have := hr.1; simpa using this
  subst hn
  have hri : ∀ i (h : i < l.length), ∃ b o, a = some ⟨b, o, none⟩ ∧ Rd L b (o + i) (.int .i64 l[i]) := fun i h => by
    obtain ⟨b, o, e, hrd⟩ := hr.rds (by omega)
    exact ⟨b, o, e, hrd i _ (by rw [List.getElem?_map, List.getElem?_eq_getElem h]; rfl)⟩
  have hneg : ¬ ∃ k ∈ l, k < 0 := fun h => by unfold wrongF at hw; rw [if_pos h] at hw; cases hw
  have hpos : ∀ k ∈ l, 0 ≤ k := fun k hk => by
    by_cases h : 0 ≤ k
    · exact h
    · exact absurd ⟨k, hk, by omega⟩ hneg
  unfold wrongF at hw
  rw [if_neg hneg] at hw
  have h16 : ¬ 16 < l.length := fun h => by rw [if_pos h] at hw; cases hw
  rw [if_neg h16] at hw
  have hov0 : overF 0 l = false := by
    cases h : overF 0 l with
    | false => rfl
    | true => rw [h] at hw; cases hw
  have hsum := overF_sum l 0 hpos (by omega) hov0
  refine tr_of_body Try.func28 rfl Try.ntmps28 (by simp) fun um Q _ hQ => ?_
  simp only [argE, Nat.zero_add, Nat.reduceAdd]
  repeat (first
    | refine we_seq ?_
    | (refine we_region _ rfl rfl ?_; simp only [opsOf, List.map_cons, List.map_nil, Option.map_none, Option.map_some, List.getElem?_toArray, List.getElem?_cons_zero, List.getElem?_cons_succ, Option.bind_some, Option.getD_some])
    | refine wo_nil ?_
    | (apply wo_po; apply mo_assign; exact rfl; (first | exact trivial | exact rfl))
    | refine we_block ?_)
  refine we_loopN (rcInv (.slice a l.length c) l L x) (fun i => l.length - i.1) (0, 0, 1) ⟨Nat.zero_le _, by simpa using hsum, by show 1 ≤ 16384; omega, rfl⟩ ⟨rfl, rfl, rfl, rfl, trivial⟩ .refl rfl ?_
  rintro ⟨i, s2, al⟩ ⟨hi, hs2, hal, hcn⟩
  simp only at hi hs2 hal hcn
  simp only [rcInv]
  by_cases hlt : i < l.length
  · obtain ⟨b, o, rfl, hrd⟩ := hri i hlt
    have hdr : l.drop i = l[i] :: l.drop (i + 1) := List.drop_eq_getElem_cons hlt
    obtain ⟨m, hm⟩ : ∃ m : Nat, l[i] = m := ⟨l[i].toNat, by have := hpos l[i] (List.getElem_mem hlt); omega⟩
    have hnn := sumI_nonneg (l.drop (i + 1)) fun n hn => hpos n (List.mem_of_mem_drop hn)
    rw [hdr, hm] at hcn hs2
    simp only [List.map_cons, Int.toNat_natCast, cntF, sumI, List.foldr_cons] at hcn hs2
    rw [show List.foldr (· + ·) 0 (l.drop (i + 1)) = sumI (l.drop (i + 1)) from rfl] at hs2
    rw [hm] at hrd
    repeat (first
      | (apply wo_po; apply mo_bin; exact rfl; exact rfl; apply bin_lssT; omega; (first | exact trivial | exact rfl))
      | refine we_seq ?_
      | (refine we_region _ rfl rfl ?_; simp only [opsOf, List.map_cons, List.map_nil, Option.map_none, Option.map_some, List.getElem?_toArray, List.getElem?_cons_zero, List.getElem?_cons_succ, Option.bind_some, Option.getD_some])
      | refine wo_nil ?_
      | (apply wo_po; apply mo_move; exact rfl; (first | exact trivial | exact rfl))
      | (apply wo_po; apply mo_assign; exact rfl; (first | exact trivial | exact rfl))
      | (apply wo_po; apply mo_len; exact rfl; (first | exact trivial | exact rfl))
      | (apply we_condT; exact rfl; (first | exact rfl | (simp <;> omega) | omega))
      | refine we_skip ?_
      | refine we_block ?_)
    refine we_loopN (rcInv2 (.slice (some ⟨b, o, none⟩) l.length c) m i s2 al L x) (fun j => m - j.1) (0, s2, al) ⟨Nat.zero_le _, rfl, hal, rfl⟩ ⟨rfl, rfl, rfl, rfl, rfl, trivial⟩ .refl rfl ?_
    rintro ⟨k, s3, a3⟩ ⟨hk, hs3, ha3, hin⟩
    simp only at hk hs3 ha3 hin
    simp only [rcInv2]
    by_cases hkm : k < m
    · have hprod : a3 * (s3 + 1) ≤ 16384 * 16384 := Nat.mul_le_mul ha3 (by omega)
      have hdiv : a3 * (s3 + 1) / (k + 1) ≤ 16384 * 16384 := Nat.le_trans (Nat.div_le_self _ _) hprod
      have w1 : IntKind.i64.wrap ((a3 : Int) * ((s3 : Int) + 1)) = ((a3 * (s3 + 1) : Nat) : Int) := by
        rw [show ((a3 : Int) * ((s3 : Int) + 1)) = ((a3 * (s3 + 1) : Nat) : Int) by simp]
        exact wrap_i64 (by omega) (by omega)
      obtain ⟨q, hq⟩ : ∃ q, a3 * (s3 + 1) / (k + 1) = q := ⟨_, rfl⟩
      rw [hq] at hdiv
      have w2 : IntKind.i64.wrap (((a3 * (s3 + 1) : Nat) : Int).tdiv ((k : Int) + 1)) = (q : Int) := by
        rw [show ((a3 * (s3 + 1) : Nat) : Int).tdiv ((k : Int) + 1) = (q : Int) by rw [show ((k : Int) + 1) = ((k + 1 : Nat) : Int) by simp, ← Int.ofNat_tdiv, hq]]
        exact wrap_i64 (by omega) (by omega)
      have hstep : m - k = (m - (k + 1)) + 1 := by omega
      rw [hstep] at hin
      simp only [cntIn] at hin
      rw [hq] at hin
      by_cases hbig : 16384 < q
      · rw [if_pos hbig] at hin
        rw [← hin] at hcn
        repeat (first
          | (apply wo_po; apply mo_index1; exact rfl; exact rfl; omega; (first | exact trivial | exact rfl))
          | (apply wo_po; apply mo_load; exact rfl; exact hrd; exact trivial)
          | (apply wo_po; apply mo_bin; exact rfl; exact rfl; apply bin_mul; exact w1; exact trivial)
          | (apply wo_po; apply mo_bin; exact rfl; exact rfl; apply bin_quo; omega; exact w2; exact trivial)
          | (apply wo_po; apply mo_bin; exact rfl; exact rfl; apply bin_leqT; omega; (first | exact trivial | exact rfl))
          | (apply wo_po; apply mo_bin; exact rfl; exact rfl; apply bin_gtrT; omega; (first | exact trivial | exact rfl))
          | refine we_seq ?_
          | (refine we_region _ rfl rfl ?_; simp only [opsOf, List.map_cons, List.map_nil, Option.map_none, Option.map_some, List.getElem?_toArray, List.getElem?_cons_zero, List.getElem?_cons_succ, Option.bind_some, Option.getD_some])
          | refine wo_nil ?_
          | (apply wo_po; apply mo_move; exact rfl; (first | exact trivial | exact rfl))
          | (apply wo_po; apply mo_assign; exact rfl; (first | exact trivial | exact rfl))
          | (apply wo_po; apply mo_bin; exact rfl; exact rfl; apply bin_add; exact wrap_i64 (by omega) (by omega); (first | exact trivial | exact rfl))
          | (apply we_condT; exact rfl; (first | exact rfl | (simp <;> omega) | omega))
          | refine we_ret ?_
          | refine we_skip ?_
          | refine we_block ?_)
        (first | refine at_ret1 (ex := .ret) Try.func28 Try.results28 hQ (.inl rfl) rfl ?_ | refine at_ret1 (ex := .normal) Try.func28 Try.results28 hQ (.inr rfl) rfl ?_)
        rw [← hcn]
        exact ⟨rfl, rfl, rfl⟩
      · rw [if_neg hbig] at hin
        repeat (first
          | (apply wo_po; apply mo_index1; exact rfl; exact rfl; omega; (first | exact trivial | exact rfl))
          | (apply wo_po; apply mo_load; exact rfl; exact hrd; exact trivial)
          | (apply wo_po; apply mo_bin; exact rfl; exact rfl; apply bin_mul; exact w1; exact trivial)
          | (apply wo_po; apply mo_bin; exact rfl; exact rfl; apply bin_quo; omega; exact w2; exact trivial)
          | (apply wo_po; apply mo_bin; exact rfl; exact rfl; apply bin_leqT; omega; (first | exact trivial | exact rfl))
          | (apply wo_po; apply mo_bin; exact rfl; exact rfl; apply bin_gtrF; omega; (first | exact trivial | exact rfl))
          | refine we_seq ?_
          | (refine we_region _ rfl rfl ?_; simp only [opsOf, List.map_cons, List.map_nil, Option.map_none, Option.map_some, List.getElem?_toArray, List.getElem?_cons_zero, List.getElem?_cons_succ, Option.bind_some, Option.getD_some])
          | refine wo_nil ?_
          | (apply wo_po; apply mo_move; exact rfl; (first | exact trivial | exact rfl))
          | (apply wo_po; apply mo_assign; exact rfl; (first | exact trivial | exact rfl))
          | (apply wo_po; apply mo_bin; exact rfl; exact rfl; apply bin_add; exact wrap_i64 (by omega) (by omega); (first | exact trivial | exact rfl))
          | (apply we_condT; exact rfl; (first | exact rfl | (simp <;> omega) | omega))
          | (apply we_condF; exact rfl; (first | exact rfl | (simp <;> omega) | omega))
          | refine we_skip ?_
          | refine we_block ?_)
        refine at_round (I := rcInv2 (.slice (some ⟨b, o, none⟩) l.length c) m i s2 al L x) (R := fun j => m - j.1 < m - k) (k + 1, s3 + 1, q) (by show m - (k + 1) < m - k; omega) ⟨by show k + 1 ≤ m; omega, by show s3 + 1 = s2 + (k + 1); omega, by show q ≤ 16384; omega, hin⟩ ⟨rfl, rfl, by simp only [Int.natCast_add, Int.natCast_one]; exact rfl, rfl, by simp only [Int.natCast_add, Int.natCast_one]; exact rfl, trivial⟩ .refl rfl
    · obtain rfl : k = m := by omega
      rw [Nat.sub_self] at hin
      simp only [cntIn] at hin
      rw [← hin] at hcn
      repeat (first
        | (apply wo_po; apply mo_index1; exact rfl; exact rfl; omega; (first | exact trivial | exact rfl))
        | (apply wo_po; apply mo_load; exact rfl; exact hrd; exact trivial)
        | (apply wo_po; apply mo_bin; exact rfl; exact rfl; apply bin_leqF; omega; (first | exact trivial | exact rfl))
        | refine we_seq ?_
        | (refine we_region _ rfl rfl ?_; simp only [opsOf, List.map_cons, List.map_nil, Option.map_none, Option.map_some, List.getElem?_toArray, List.getElem?_cons_zero, List.getElem?_cons_succ, Option.bind_some, Option.getD_some])
        | refine wo_nil ?_
        | (apply wo_po; apply mo_move; exact rfl; (first | exact trivial | exact rfl))
        | (apply wo_po; apply mo_assign; exact rfl; (first | exact trivial | exact rfl))
        | (apply wo_po; apply mo_bin; exact rfl; exact rfl; apply bin_add; exact wrap_i64 (by omega) (by omega); (first | exact trivial | exact rfl))
        | (apply we_condF; exact rfl; (first | exact rfl | (simp <;> omega) | omega))
        | refine we_exit ?_)
      refine at_round (I := rcInv (.slice (some ⟨b, o, none⟩) l.length c) l L x) (R := fun j => l.length - j.1 < l.length - i) (i + 1, s3, a3) (by show l.length - (i + 1) < l.length - i; omega) ⟨by show i + 1 ≤ l.length; omega, by show (s3 : Int) + sumI (l.drop (i + 1)) ≤ 16384; omega, ha3, hcn⟩ ⟨rfl, rfl, rfl, rfl, trivial⟩ .refl rfl
  · obtain rfl : i = l.length := by omega
    rw [List.drop_length] at hcn
    simp only [List.map_nil, cntF] at hcn
    repeat (first
      | (apply wo_po; apply mo_bin; exact rfl; exact rfl; apply bin_lssF; omega; (first | exact trivial | exact rfl))
      | refine we_seq ?_
      | (refine we_region _ rfl rfl ?_; simp only [opsOf, List.map_cons, List.map_nil, Option.map_none, Option.map_some, List.getElem?_toArray, List.getElem?_cons_zero, List.getElem?_cons_succ, Option.bind_some, Option.getD_some])
      | refine wo_nil ?_
      | (apply wo_po; apply mo_move; exact rfl; (first | exact trivial | exact rfl))
      | (apply wo_po; apply mo_assign; exact rfl; (first | exact trivial | exact rfl))
      | (apply wo_po; apply mo_len; exact rfl; (first | exact trivial | exact rfl))
      | (apply we_condF; exact rfl; (first | exact rfl | (simp <;> omega) | omega))
      | refine we_ret ?_
      | refine we_exit ?_)
    (first | refine at_ret1 (ex := .ret) Try.func28 Try.results28 hQ (.inl rfl) rfl ?_ | refine at_ret1 (ex := .normal) Try.func28 Try.results28 hQ (.inr rfl) rfl ?_)
    rw [← hcn]
    exact ⟨rfl, rfl, rfl⟩
end
end Go.Proofs.Ytabbkjciifnehaa
