/-
  turn.NewNotes, Notes.Marks, patchbayref00.SameMarks.
-/
import Derived.Test.YtabbkjciifnehaaNotes
import Derived.Test.YtabbkjciifnehaaFt
set_option linter.unusedVariables false
set_option linter.unusedSimpArgs false
namespace Go.Proofs.Ytabbkjciifnehaa
open Go Go.PB
attribute [local irreducible] Mo Bin Eql Tr Wo Ap

variable {B : Hand} [Lets B] {L F : List HProp} {x : B.X} {nb : Nat} {marks : List (Int × Nat)}

theorem new_notes_tr : Tr Try.prog B 32 [] L x fun v L' x' => ∃ nb, v = .pointer (some ⟨nb, 0, none⟩) ∧ L' = notesC nb [] :: L ∧ x' = x := by
  refine Tr.post (R := fun v L' x' => ∃ nb, v = .pointer (some ⟨nb, 0, none⟩) ∧ L' = arr nb 0 [.bool true, .slice none 0 0] :: L ∧ x' = x) ?_
    (by
      rintro v L' x' ⟨nb, rfl, rfl, rfl⟩
      refine ⟨_, ⟨nb, rfl, rfl, rfl⟩, fun h st => ?_⟩
      have st2 : Star ([arr nb 0 [.bool true, .slice none 0 0], vec 2 (.slice none 0 0) []] ++ L) h := star_map st (fun _ y => y) (fun _ y => vec_nil y)
      exact star_map (star_shut st2) (fun _ y => ⟨_, y⟩) (fun _ y => y))
  refine tr_of_body Try.func32 rfl Try.ntmps32 (by simp) fun um Q _ hQ => ?_
  simp only [argE, Nat.zero_add, Nat.reduceAdd]
  repeat (first
    | (apply wo_po; apply mo_build (pv := [(0, _)]); exact rfl; exact .cons rfl .nil; exact rfl; exact trivial)
    | (apply wo_mo; apply mo_box; exact rfl; exact trivial)
    | refine we_seq ?_
    | (refine we_region _ rfl rfl ?_; simp only [opsOf, List.map_cons, List.map_nil, Option.map_none, Option.map_some, List.getElem?_toArray, List.getElem?_cons_zero, List.getElem?_cons_succ, Option.bind_some, Option.getD_some])
    | refine wo_nil ?_
    | (apply wo_po; apply mo_assign; exact rfl; (first | exact trivial | exact rfl)))
  rintro v' L' ⟨r, rfl, rfl⟩
  repeat (first
    | refine wo_nil ?_
    | (apply wo_po; apply mo_assign; exact rfl; (first | exact trivial | exact rfl))
    | refine we_ret ?_)
  (first | refine at_ret1 (ex := .ret) Try.func32 Try.results32 hQ (.inl rfl) rfl ?_ | refine at_ret1 (ex := .normal) Try.func32 Try.results32 hQ (.inr rfl) rfl ?_)
  exact ⟨r, rfl, rfl, rfl⟩

/-- Clone of marks -/
theorem clone_tr {a : Option Addr} {n c : Nat} (hl : marks.length < 1000000) (hn : n = marks.length) (ha : (a = none ∧ n = 0) ∨ ∃ b o, a = some ⟨b, o, none⟩ ∧ Rds L b o (marks.map mark2).flatten) :
    Tr Try.prog B 55 [.slice a n c] L x fun v L' x' => L' = vec 2 v (marks.map mark2).flatten :: L ∧ x' = x := by
  subst hn
  rcases ha with ⟨rfl, h0⟩ | ⟨b, o, rfl, hr⟩
  · refine tr_of_body Try.func55 rfl Try.ntmps55 (by simp) fun um Q _ hQ => ?_
    simp only [argE, Nat.zero_add, Nat.reduceAdd]
    repeat (first
      | refine we_seq ?_
      | (refine we_region _ rfl rfl ?_; simp only [opsOf, List.map_cons, List.map_nil, Option.map_none, Option.map_some, List.getElem?_toArray, List.getElem?_cons_zero, List.getElem?_cons_succ, Option.bind_some, Option.getD_some])
      | refine wo_nil ?_
      | (apply wo_po; apply mo_move; exact rfl; (first | exact trivial | exact rfl))
      | (apply wo_po; apply mo_assign; exact rfl; (first | exact trivial | exact rfl))
      | (apply wo_po; apply mo_bin; exact rfl; exact rfl; apply bin_eq; apply eql_slice_nil; (first | exact trivial | exact rfl))
      | (apply we_condT; exact rfl; (first | exact rfl | (simp <;> omega) | omega))
      | refine we_ret ?_)
    have hm : marks = [] := List.length_eq_zero_iff.1 h0
    refine at_star (vec 2 (.slice none 0 0) (marks.map mark2).flatten :: L) (fun h st => by rw [hm]; exact vec_nil st) ?_
    (first | refine at_ret1 (ex := .ret) Try.func55 Try.results55 hQ (.inl rfl) rfl ?_ | refine at_ret1 (ex := .normal) Try.func55 Try.results55 hQ (.inr rfl) rfl ?_)
    exact ⟨rfl, rfl⟩
  · have h1 : ∀ w ∈ (marks.map mark2).flatten, one w = true := by
      intro w hw
      simp only [List.mem_flatten, List.mem_map] at hw
      obtain ⟨l, ⟨m, _, rfl⟩, hw⟩ := hw
      simp only [mark2, List.mem_cons, List.not_mem_nil, or_false] at hw
      rcases hw with rfl | rfl <;> rfl
    refine tr_of_body Try.func55 rfl Try.ntmps55 (by simp) fun um Q _ hQ => ?_
    simp only [argE, Nat.zero_add, Nat.reduceAdd]
    repeat (first
      | (apply wo_mo; apply mo_buildSlice (sz := 2) (vs := []); exact rfl; exact .nil; exact rfl; (intro v hv; cases hv); omega; exact trivial)
      | refine we_seq ?_
      | (refine we_region _ rfl rfl ?_; simp only [opsOf, List.map_cons, List.map_nil, Option.map_none, Option.map_some, List.getElem?_toArray, List.getElem?_cons_zero, List.getElem?_cons_succ, Option.bind_some, Option.getD_some])
      | refine wo_nil ?_
      | (apply wo_po; apply mo_move; exact rfl; (first | exact trivial | exact rfl))
      | (apply wo_po; apply mo_assign; exact rfl; (first | exact trivial | exact rfl))
      | (apply wo_po; apply mo_bin; exact rfl; exact rfl; apply bin_eq; apply eql_slice_nil; (first | exact trivial | exact rfl))
      | (apply we_condF; exact rfl; (first | exact rfl | (simp <;> omega) | omega))
      | refine we_skip ?_)
    rintro v' L' ⟨nb, rfl, rfl⟩
    refine wo_star (vec 2 (.slice (some ⟨nb, 0, none⟩) 0 0) [] :: L) (fun h st => vec_new (cs := []) rfl st) ?_
    repeat (first
      | (apply wo_mo; apply mo_append (sz := 2) (new := (marks.map mark2).flatten); exact rfl; exact rfl; exact rfl; exact rfl; exact .here; exact flat2 _; exact .inr ⟨_, _, rfl, fun i v hi => Rd.there (hr i v hi)⟩; exact h1; (simp only [sliceLen]; omega); exact trivial)
      | (apply wo_po; apply mo_move; exact rfl; (first | exact trivial | exact rfl)))
    rintro v' L' rfl
    repeat (first
      | refine wo_nil ?_
      | (apply wo_po; apply mo_assign; exact rfl; (first | exact trivial | exact rfl))
      | refine we_ret ?_)
    (first | refine at_ret1 (ex := .ret) Try.func55 Try.results55 hQ (.inl rfl) rfl ?_ | refine at_ret1 (ex := .normal) Try.func55 Try.results55 hQ (.inr rfl) rfl ?_)
    exact ⟨rfl, rfl⟩

/-- Marks: a copy of what was told -/
theorem marks_tr (hl : marks.length < 1000000) (hh : Has L (notesC nb marks) F) :
    Tr Try.prog B 35 [.pointer (some ⟨nb, 0, none⟩)] L x fun v L' x' => L' = vec 2 v (marks.map mark2).flatten :: notesC nb marks :: F ∧ x' = x := by
  refine tr_ex hh fun mv => tr_star _ (fun h st => star_open st) ?_
  simp only [List.cons_append, List.nil_append]
  refine Tr.post (R := fun v L' x' => L' = vec 2 v (marks.map mark2).flatten :: arr nb 0 [.bool true, mv] :: vec 2 mv (marks.map mark2).flatten :: F ∧ x' = x) ?_
    (by
      rintro v L' x' ⟨rfl, rfl⟩
      exact ⟨_, ⟨rfl, rfl⟩, fun h st => star_map st (fun _ y => y) (fun _ y => star_map (star_shut (M := [_, _]) y) (fun _ z => ⟨mv, z⟩) (fun _ z => z))⟩)
  refine tr_pure (of_has (.there .here) (vec_shape (by omega))) ?_
  rintro ⟨ra, rl, rc, rfl, hlen, hrc, hra, hra2⟩
  rw [flat2] at hlen
  have hrl : rl = marks.length := by omega
  subst hrl
  have hr0 : Rd (arr nb 0 [.bool true, .slice ra marks.length rc] :: vec 2 (.slice ra marks.length rc) (marks.map mark2).flatten :: F) nb 0 (.bool true) := Rd.row (k := 0) rfl rfl
  have hr1 : Rd (arr nb 0 [.bool true, .slice ra marks.length rc] :: vec 2 (.slice ra marks.length rc) (marks.map mark2).flatten :: F) nb 1 (.slice ra marks.length rc) := Rd.row (k := 1) rfl rfl
  have ha : (ra = none ∧ marks.length = 0) ∨ ∃ b o, ra = some ⟨b, o, none⟩ ∧ Rds (arr nb 0 [.bool true, .slice ra marks.length rc] :: vec 2 (.slice ra marks.length rc) (marks.map mark2).flatten :: F) b o (marks.map mark2).flatten := by
    cases ra with
    | none => exact .inl ⟨rfl, hra rfl⟩
    | some y =>
      obtain ⟨b, o, sp⟩ := y
      cases hra2 _ rfl
      exact .inr ⟨b, o, rfl, fun i v hi => rd_vec (.there .here) hi⟩
  refine tr_of_body Try.func35 rfl Try.ntmps35 (by simp) fun um Q _ hQ => ?_
  simp only [argE, Nat.zero_add, Nat.reduceAdd]
  repeat (first
    | (apply wo_po; apply mo_load; exact rfl; exact hr0; (first | exact trivial | exact rfl))
    | (apply wo_po; apply mo_load; exact rfl; exact hr1; exact trivial)
    | refine we_seq ?_
    | (refine we_region _ rfl rfl ?_; simp only [opsOf, List.map_cons, List.map_nil, Option.map_none, Option.map_some, List.getElem?_toArray, List.getElem?_cons_zero, List.getElem?_cons_succ, Option.bind_some, Option.getD_some])
    | refine wo_nil ?_
    | (apply wo_po; apply mo_move; exact rfl; (first | exact trivial | exact rfl))
    | (apply wo_po; apply mo_assign; exact rfl; (first | exact trivial | exact rfl))
    | (apply wo_po; apply mo_pickF; exact rfl; exact rfl; exact rfl; (first | exact trivial | exact rfl))
    | (apply wo_po; apply mo_nilCheck; exact rfl; (first | exact trivial | exact rfl))
    | (apply wo_po; apply mo_fieldAddr; exact rfl; exact rfl; (first | exact Nat.zero_add _ | exact rfl); (first | exact trivial | exact rfl))
    | (apply wo_po; apply mo_not; exact rfl; (first | exact trivial | exact rfl))
    | (apply wo_po; apply mo_bin; exact rfl; exact rfl; apply bin_eq; apply eql_ptr_nil; (first | exact trivial | exact rfl))
    | (apply we_condF; exact rfl; (first | exact rfl | (simp <;> omega) | omega))
    | refine we_skip ?_)
  refine wo_call (.cons rfl .nil) trivial (clone_tr hl rfl ha) ?_
  rintro v L' x' ⟨rfl, rfl⟩
  repeat (first
    | refine wo_nil ?_
    | (apply wo_po; apply mo_assign; exact rfl; (first | exact trivial | exact rfl))
    | refine we_ret ?_)
  (first | refine at_ret1 (ex := .ret) Try.func35 Try.results35 hQ (.inl rfl) rfl ?_ | refine at_ret1 (ex := .normal) Try.func35 Try.results35 hQ (.inr rfl) rfl ?_)
  exact ⟨rfl, rfl⟩

/-- what a row of marks is, read through a slice -/
def RdM (L : List HProp) (a : Option Addr) (l : List (Int × Nat)) : Prop := ∀ i m, l[i]? = some m → ∃ b o, a = some ⟨b, o, none⟩ ∧ Rds L b (o + 2 * i) [.int .u8 m.1, .int .i64 (m.2 : Nat)]

omit [Lets B] in
theorem RdM.vec {a : Option Addr} {n c : Nat} {l : List (Int × Nat)} (hh : Has L (vec 2 (.slice a n c) (l.map mark2).flatten) F) (ha : ∀ y, a = some y → y = ⟨y.block, y.off, none⟩) (hn : a = none → l = []) : RdM L a l := by
  intro i m hi
  cases a with
  | none => rw [hn rfl] at hi; simp at hi
  | some y =>
    obtain ⟨b, o, sp⟩ := y
    cases ha _ rfl
    refine ⟨b, o, rfl, fun j v hj => ?_⟩
    have hj2 : j < 2 := (List.getElem?_eq_some_iff.1 hj).1
    have := rd_vec (i := 2 * i + j) (v := v) hh (by rw [flat_get (k := 2) (fun _ => rfl) _ _ _ _ hi hj2]; exact hj)
    rwa [← Nat.add_assoc] at this

/-- ahead of a round of SameMarks -/
def marksInv (x : B.X) (L : List HProp) (a a' : Option Addr) (n c c' : Nat) (l l' : List (Int × Nat)) : Inv Nat B.X where
  e := fun i => [(0, .slice a n c), (1, .slice a' n c'), (5, .int .i64 i)]
  L := fun _ => L
  x := fun _ => x
  ok := fun i => i ≤ n ∧ l.take i = l'.take i

theorem same_marks_tr {a a' : Option Addr} {n n' c c' : Nat} {l l' : List (Int × Nat)} (hn : n = l.length) (hn' : n' = l'.length) (hl : n < 1000000000) (h1 : RdM L a l) (h2 : RdM L a' l') :
    Tr Try.prog B 36 [.slice a n c, .slice a' n' c'] L x fun v L' x' => v = .bool (decide (l = l')) ∧ L' = L ∧ x' = x := by
  by_cases hlen : n = n'
  · subst hlen
    refine tr_of_body Try.func36 rfl Try.ntmps36 (by simp) fun um Q _ hQ => ?_
    simp only [argE, Nat.zero_add, Nat.reduceAdd]
    repeat (first
      | (apply wo_po; apply mo_bin; exact rfl; exact rfl; apply bin_neqF; omega; (first | exact trivial | exact rfl))
      | refine we_seq ?_
      | (refine we_region _ rfl rfl ?_; simp only [opsOf, List.map_cons, List.map_nil, Option.map_none, Option.map_some, List.getElem?_toArray, List.getElem?_cons_zero, List.getElem?_cons_succ, Option.bind_some, Option.getD_some])
      | refine wo_nil ?_
      | (apply wo_po; apply mo_move; exact rfl; (first | exact trivial | exact rfl))
      | (apply wo_po; apply mo_assign; exact rfl; (first | exact trivial | exact rfl))
      | (apply wo_po; apply mo_len; exact rfl; (first | exact trivial | exact rfl))
      | (apply we_condF; exact rfl; (first | exact rfl | (simp <;> omega) | omega))
      | refine we_skip ?_
      | refine we_block ?_)
    refine we_loopN (marksInv x L a a' n c c' l l') (fun i => n - i) 0 ⟨by omega, by simp⟩ ⟨rfl, rfl, rfl, trivial⟩ .refl rfl ?_
    rintro i ⟨hi, ht⟩
    dsimp only [marksInv] at hi ht ⊢
    by_cases hc : i < n
    · obtain ⟨v, hv⟩ : ∃ v, l[i]? = some v := ⟨l[i]'(by omega), by simp⟩
      obtain ⟨v', hv'⟩ : ∃ v, l'[i]? = some v := ⟨l'[i]'(by omega), by simp⟩
      obtain ⟨b1, o1, rfl, r1⟩ := h1 i v hv
      obtain ⟨b2, o2, rfl, r2⟩ := h2 i v' hv'
      obtain ⟨q, hq⟩ : ∃ q, decide (v.1 = v'.1 ∧ (v.2 : Int) = v'.2) = q := ⟨_, rfl⟩
      have heq := eql_two (p := ⟨Try.underlying47⟩) (P := Try.prog) (t := 47) (x := .tmp 20) (y := .tmp 24) (a0 := v.1) (b0 := v'.1) (a1 := v.2) (b1 := v'.2) (k0 := .u8) (k1 := .i64) (by kernel_rfl) (by kernel_rfl) (by decide) (by decide) rfl rfl (by kernel_rfl) (by kernel_rfl)
      rw [hq] at heq
      repeat (first
        | (apply wo_po; apply mo_bin; exact rfl; exact rfl; apply bin_lssT; omega; (first | exact trivial | exact rfl))
        | refine we_seq ?_
        | (refine we_region _ rfl rfl ?_; simp only [opsOf, List.map_cons, List.map_nil, Option.map_none, Option.map_some, List.getElem?_toArray, List.getElem?_cons_zero, List.getElem?_cons_succ, Option.bind_some, Option.getD_some])
        | refine wo_nil ?_
        | (apply wo_po; apply mo_move; exact rfl; (first | exact trivial | exact rfl))
        | (apply wo_po; apply mo_len; exact rfl; (first | exact trivial | exact rfl))
        | (apply we_condT; exact rfl; (first | exact rfl | (simp <;> omega) | omega))
        | refine we_skip ?_
        | refine we_block ?_)
      refine we_draw [0, 1, 2, 3, 4, 5, 6, 7, 8] (by kernel_rfl) ?_
      repeat (first
        | (apply ap_pure; exact rfl; exact rfl; exact trivial; intro L; apply mo_indexAddr (r := o1 + 2 * i); exact rfl; exact rfl; omega; omega; omega)
        | (apply ap_pure; exact rfl; exact rfl; exact trivial; intro L; apply mo_indexAddr (r := o2 + 2 * i); exact rfl; exact rfl; omega; omega; omega)
        | (apply ap_read; exact rfl; exact rfl; exact trivial; apply mo_loadA (vs := [.int .u8 v.1, .int .i64 (v.2 : Nat)]); exact rfl; exact rfl; exact r1)
        | (apply ap_read; exact rfl; exact rfl; exact trivial; apply mo_loadA (vs := [.int .u8 v'.1, .int .i64 (v'.2 : Nat)]); exact rfl; exact rfl; exact r2)
        | (apply ap_pure; exact rfl; exact rfl; exact trivial; intro L; apply mo_bin; exact rfl; exact rfl; apply bin_ne; exact heq)
        | (apply ap_pure; exact rfl; exact rfl; (first | exact trivial | exact rfl); intro L; apply mo_move; exact rfl)
        | refine ap_end ?_)
      cases q
      · repeat (first
          | refine we_seq ?_
          | (refine we_region _ rfl rfl ?_; simp only [opsOf, List.map_cons, List.map_nil, Option.map_none, Option.map_some, List.getElem?_toArray, List.getElem?_cons_zero, List.getElem?_cons_succ, Option.bind_some, Option.getD_some])
          | refine wo_nil ?_
          | (apply wo_po; apply mo_assign; exact rfl; (first | exact trivial | exact rfl))
          | (apply we_condT; exact rfl; (first | exact rfl | (simp <;> omega) | omega))
          | refine we_ret ?_)
        (first | refine at_ret1 (ex := .ret) Try.func36 Try.results36 hQ (.inl rfl) rfl ?_ | refine at_ret1 (ex := .normal) Try.func36 Try.results36 hQ (.inr rfl) rfl ?_)
        have : l ≠ l' := fun h => by
          rw [h, hv'] at hv; cases hv
          simp at hq
        exact ⟨by rw [decide_eq_false this], rfl, rfl⟩
      · repeat (first
          | (refine we_region _ rfl rfl ?_; simp only [opsOf, List.map_cons, List.map_nil, Option.map_none, Option.map_some, List.getElem?_toArray, List.getElem?_cons_zero, List.getElem?_cons_succ, Option.bind_some, Option.getD_some])
          | refine wo_nil ?_
          | (apply wo_po; apply mo_move; exact rfl; (first | exact trivial | exact rfl))
          | (apply wo_po; apply mo_assign; exact rfl; (first | exact trivial | exact rfl))
          | (apply wo_po; apply mo_bin; exact rfl; exact rfl; apply bin_add; exact wrap_i64 (by omega) (by omega); (first | exact trivial | exact rfl))
          | (apply we_condF; exact rfl; (first | exact rfl | (simp <;> omega) | omega))
          | refine we_skip ?_)
        refine at_round (I := marksInv x L _ _ n c c' l l') (R := fun i' => n - i' < n - i) (i + 1) (by omega) ⟨by omega, ?_⟩ ⟨rfl, rfl, rfl, trivial⟩ .refl rfl
        have hq' := of_decide_eq_true hq
        have : v = v' := Prod.ext hq'.1 (by omega)
        rw [List.take_add_one, List.take_add_one, ht, hv, hv', this]
    · repeat (first
        | (apply wo_po; apply mo_bin; exact rfl; exact rfl; apply bin_lssF; omega; (first | exact trivial | exact rfl))
        | refine we_seq ?_
        | (refine we_region _ rfl rfl ?_; simp only [opsOf, List.map_cons, List.map_nil, Option.map_none, Option.map_some, List.getElem?_toArray, List.getElem?_cons_zero, List.getElem?_cons_succ, Option.bind_some, Option.getD_some])
        | refine wo_nil ?_
        | (apply wo_po; apply mo_move; exact rfl; (first | exact trivial | exact rfl))
        | (apply wo_po; apply mo_assign; exact rfl; (first | exact trivial | exact rfl))
        | (apply wo_po; apply mo_len; exact rfl; (first | exact trivial | exact rfl))
        | (apply we_condF; exact rfl; (first | exact rfl | (simp <;> omega) | omega))
        | refine we_ret ?_
        | refine we_exit ?_)
      (first | refine at_ret1 (ex := .ret) Try.func36 Try.results36 hQ (.inl rfl) rfl ?_ | refine at_ret1 (ex := .normal) Try.func36 Try.results36 hQ (.inr rfl) rfl ?_)
      have : l = l' := by
        rw [List.take_of_length_le (by omega), List.take_of_length_le (by omega)] at ht
        exact ht
      exact ⟨by rw [decide_eq_true this], rfl, rfl⟩
  · have hne : ¬ (n : Int) = n' := by omega
    refine tr_of_body Try.func36 rfl Try.ntmps36 (by simp) fun um Q _ hQ => ?_
    simp only [argE, Nat.zero_add, Nat.reduceAdd]
    repeat (first
      | (apply wo_po; apply mo_bin; exact rfl; exact rfl; apply bin_neqT; omega; (first | exact trivial | exact rfl))
      | refine we_seq ?_
      | (refine we_region _ rfl rfl ?_; simp only [opsOf, List.map_cons, List.map_nil, Option.map_none, Option.map_some, List.getElem?_toArray, List.getElem?_cons_zero, List.getElem?_cons_succ, Option.bind_some, Option.getD_some])
      | refine wo_nil ?_
      | (apply wo_po; apply mo_move; exact rfl; (first | exact trivial | exact rfl))
      | (apply wo_po; apply mo_assign; exact rfl; (first | exact trivial | exact rfl))
      | (apply wo_po; apply mo_len; exact rfl; (first | exact trivial | exact rfl))
      | (apply we_condT; exact rfl; (first | exact rfl | (simp <;> omega) | omega))
      | refine we_ret ?_)
    (first | refine at_ret1 (ex := .ret) Try.func36 Try.results36 hQ (.inl rfl) rfl ?_ | refine at_ret1 (ex := .normal) Try.func36 Try.results36 hQ (.inr rfl) rfl ?_)
    have : l ≠ l' := fun h => hlen (by rw [hn, hn', h])
    exact ⟨by rw [decide_eq_false this], rfl, rfl⟩

end Go.Proofs.Ytabbkjciifnehaa
