/-
  patchbaylaw02's awake: two threads take turns.
-/
import Derived.Test.YtabbkjciifnehaaCount
import Derived.Test.YtabbkjciifnehaaPlayD
set_option linter.unusedVariables false
set_option linter.unusedSimpArgs false
namespace Go.Proofs.Ytabbkjciifnehaa
open Go Go.PB
attribute [local irreducible] Mo Bin Eql Tr Wo Ap Wle

def cat (s : ByteArray) (c : UInt8) : ByteArray := s ++ ByteArray.mk #[c]
/-- what the two threads plan: the first one's steps (0, 1), the second one's (3) -/
def awPlan : Nat → Option ((Int × Int) × (ByteArray → ByteArray × Nat))
  | 0 => some ((1, 1), fun s => (s ++ ⟨#[97]⟩, 1))
  | 1 => some ((3, 2), fun s => (s ++ ⟨#[98]⟩, 2))
  | 3 => some ((5, 3), fun s => (s ++ ⟨#[99]⟩, 4))
  | _ => none
/-- the game: they write behind each other into one text -/
def awG (bb : Nat) : Game where
  σ := ByteArray
  θ := Nat
  U := fun s => arr bb 0 [.string s]
  plan := awPlan
  ok := fun s => s.size ≤ 1000000
  Pv := fun _ _ => True
  Fin := fun _ _ => True
def awT (bb : Nat) : List (Thr (awG bb)) := [⟨.func (.func 44) #[] #[.pointer (some ⟨bb, 0, none⟩)], fun s => (s, (0 : Nat)), fun _ => True⟩, ⟨.func (.func 45) #[] #[.pointer (some ⟨bb, 0, none⟩)], fun s => (s, (3 : Nat)), fun _ => True⟩]

theorem star_true {L : List HProp} {h : Hp} (st : Star L h) : Star ((fun _ => True) :: L) h :=
  star_shut (M := []) st

theorem true_fin {c : HProp} {L : List HProp} {h : Hp} {a b d : HProp} (st : Star (a :: b :: d :: L) h) : Star (a :: b :: (fun _ => True) :: L) h :=
  star_map st (fun _ z => z) fun _ s1 => star_map s1 (fun _ z => z) fun _ s2 => star_map s2 (fun _ _ => trivial) fun _ z => z

theorem aw1 {bb : Nat} : ThrOk (awG bb) (fun s => (s, (0 : Nat))) (.func (.func 44) #[] #[.pointer (some ⟨bb, 0, none⟩)]) fun _ => True where
  run := by
    refine ⟨_, _, _, rfl, inferInstance, fun sb says turn fin wg s n F hok => ?_⟩
    show Tr Try.prog tH _ [gateV sb, .pointer (some ⟨bb, 0, none⟩)] _ (tx (awG bb) says turn fin wg (.busy s (0 : Nat) n)) _
    refine tr_of_body Try.func44 rfl Try.ntmps44 (by simp) fun um Q _ hQ => ?_
    simp only [argE, Nat.zero_add, Nat.reduceAdd]
    repeat (first
      | (apply wo_po; apply mo_build (pv := [(0, _), (1, _)]); exact rfl; exact .cons rfl (.cons rfl .nil); exact rfl; exact trivial)
      | refine we_seq ?_
      | (refine we_region _ rfl rfl ?_; simp only [opsOf, List.map_cons, List.map_nil, Option.map_none, Option.map_some, List.getElem?_toArray, List.getElem?_cons_zero, List.getElem?_cons_succ, Option.bind_some, Option.getD_some])
      | (apply wo_po; apply mo_move; exact rfl; (first | exact trivial | exact rfl)))
    refine wo_invoke (args := [_]) rfl (.cons rfl .nil) trivial (step_tr (g := awG bb) (mk := (1, 1)) (f := fun s : ByteArray => (s ++ ByteArray.mk #[97], (1 : Nat))) (q := (0 : Nat)) rfl .here .here (fun _ _ => trivial)) ?_
    rintro v' L' x' ⟨m1, s1, hm1, hs1, rfl, rfl, rfl⟩
    replace hs1 : s1.size ≤ 1000000 := hs1
    refine wo_ent (arr bb 0 [.string s1] :: seatR sb says turn fin :: (fun _ => True) :: F) .refl ?_
    repeat (first
      | (apply wo_po; apply mo_bin; exact rfl; exact rfl; exact bin_cat (by have : (ByteArray.mk #[97]).size = 1 := rfl; omega); exact trivial)
      | (apply wo_pm; apply mo_store; exact rfl; exact rfl; exact rfl; apply Wt.row0; (repeat (first | exact Foc.here | apply Foc.there)); (first | exact Nat.lt_of_sub_eq_succ rfl | omega); (first | exact trivial | exact rfl))
      | refine we_seq ?_
      | (refine we_region _ rfl rfl ?_; simp only [opsOf, List.map_cons, List.map_nil, Option.map_none, Option.map_some, List.getElem?_toArray, List.getElem?_cons_zero, List.getElem?_cons_succ, Option.bind_some, Option.getD_some])
      | refine wo_nil ?_
      | (apply wo_po; apply mo_move; exact rfl; (first | exact trivial | exact rfl))
      | (apply wo_po; apply mo_load; exact rfl; (repeat (first | exact Rd.row0 rfl | exact Rd.row rfl rfl | exact Rd.still | apply Rd.there)); (first | exact trivial | exact rfl)))
    refine wo_ent ((awG bb).U (cat s1 97) :: seatR sb says turn fin :: (fun _ => True) :: F) .refl ?_
    repeat (first
      | (apply wo_po; apply mo_build (pv := [(0, _), (1, _)]); exact rfl; exact .cons rfl (.cons rfl .nil); exact rfl; exact trivial))
    refine wo_invoke (args := [_]) rfl (.cons rfl .nil) trivial (step_tr (g := awG bb) (mk := (3, 2)) (f := fun s : ByteArray => (s ++ ByteArray.mk #[98], (2 : Nat))) (q := (1 : Nat)) rfl .here .here (fun _ _ => trivial)) ?_
    rintro v' L' x' ⟨m2, s2, hm2, hs2, rfl, rfl, rfl⟩
    replace hs2 : s2.size ≤ 1000000 := hs2
    refine wo_ent (arr bb 0 [.string s2] :: seatR sb says turn fin :: (fun _ => True) :: F) .refl ?_
    repeat (first
      | (apply wo_po; apply mo_bin; exact rfl; exact rfl; exact bin_cat (by have : (ByteArray.mk #[98]).size = 1 := rfl; omega); exact trivial)
      | (apply wo_pm; apply mo_store; exact rfl; exact rfl; exact rfl; apply Wt.row0; (repeat (first | exact Foc.here | apply Foc.there)); (first | exact Nat.lt_of_sub_eq_succ rfl | omega); (first | exact trivial | exact rfl))
      | (refine we_region _ rfl rfl ?_; simp only [opsOf, List.map_cons, List.map_nil, Option.map_none, Option.map_some, List.getElem?_toArray, List.getElem?_cons_zero, List.getElem?_cons_succ, Option.bind_some, Option.getD_some])
      | refine wo_nil ?_
      | (apply wo_po; apply mo_load; exact rfl; (repeat (first | exact Rd.row0 rfl | exact Rd.row rfl rfl | exact Rd.still | apply Rd.there)); (first | exact trivial | exact rfl)))
    (first | refine at_ret0 (ex := .ret) Try.func44 Try.results44 hQ (.inl rfl) ?_ | refine at_ret0 (ex := .normal) Try.func44 Try.results44 hQ (.inr rfl) ?_)
    exact ⟨cat s2 98, (2 : Nat), m2, rfl, rfl, fun h st => st⟩

theorem aw2 {bb : Nat} : ThrOk (awG bb) (fun s => (s, (3 : Nat))) (.func (.func 45) #[] #[.pointer (some ⟨bb, 0, none⟩)]) fun _ => True where
  run := by
    refine ⟨_, _, _, rfl, inferInstance, fun sb says turn fin wg s n F hok => ?_⟩
    show Tr Try.prog tH _ [gateV sb, .pointer (some ⟨bb, 0, none⟩)] _ (tx (awG bb) says turn fin wg (.busy s (3 : Nat) n)) _
    refine tr_of_body Try.func45 rfl Try.ntmps45 (by simp) fun um Q _ hQ => ?_
    simp only [argE, Nat.zero_add, Nat.reduceAdd]
    repeat (first
      | (apply wo_po; apply mo_build (pv := [(0, _), (1, _)]); exact rfl; exact .cons rfl (.cons rfl .nil); exact rfl; exact trivial)
      | refine we_seq ?_
      | (refine we_region _ rfl rfl ?_; simp only [opsOf, List.map_cons, List.map_nil, Option.map_none, Option.map_some, List.getElem?_toArray, List.getElem?_cons_zero, List.getElem?_cons_succ, Option.bind_some, Option.getD_some])
      | (apply wo_po; apply mo_move; exact rfl; (first | exact trivial | exact rfl)))
    refine wo_invoke (args := [_]) rfl (.cons rfl .nil) trivial (step_tr (g := awG bb) (mk := (5, 3)) (f := fun s : ByteArray => (s ++ ByteArray.mk #[99], (4 : Nat))) (q := (3 : Nat)) rfl .here .here (fun _ _ => trivial)) ?_
    rintro v' L' x' ⟨m1, s1, hm1, hs1, rfl, rfl, rfl⟩
    replace hs1 : s1.size ≤ 1000000 := hs1
    refine wo_ent (arr bb 0 [.string s1] :: seatR sb says turn fin :: (fun _ => True) :: F) .refl ?_
    repeat (first
      | (apply wo_po; apply mo_bin; exact rfl; exact rfl; exact bin_cat (by have : (ByteArray.mk #[99]).size = 1 := rfl; omega); exact trivial)
      | (apply wo_pm; apply mo_store; exact rfl; exact rfl; exact rfl; apply Wt.row0; (repeat (first | exact Foc.here | apply Foc.there)); (first | exact Nat.lt_of_sub_eq_succ rfl | omega); (first | exact trivial | exact rfl))
      | (refine we_region _ rfl rfl ?_; simp only [opsOf, List.map_cons, List.map_nil, Option.map_none, Option.map_some, List.getElem?_toArray, List.getElem?_cons_zero, List.getElem?_cons_succ, Option.bind_some, Option.getD_some])
      | refine wo_nil ?_
      | (apply wo_po; apply mo_load; exact rfl; (repeat (first | exact Rd.row0 rfl | exact Rd.row rfl rfl | exact Rd.still | apply Rd.there)); (first | exact trivial | exact rfl)))
    (first | refine at_ret0 (ex := .ret) Try.func45 Try.results45 hQ (.inl rfl) ?_ | refine at_ret0 (ex := .normal) Try.func45 Try.results45 hQ (.inr rfl) ?_)
    exact ⟨cat s1 99, (4 : Nat), m1, rfl, rfl, fun h st => st⟩

/-- what comes of it -/
theorem aw_plays {bb : Nat} : playF (awT bb) (ByteArray.mk #[]) [1, 7, 0] = (⟨ByteArray.mk #[99, 97, 98], [(2 : Nat), (4 : Nat)], [(1, (5, 3)), (0, (1, 1)), (0, (3, 2))]⟩ : PS (awG bb)) := by kernel_rfl

theorem awPlan_size : ∀ (q : Nat) (m : Int × Int) (f : ByteArray → ByteArray × Nat), awPlan q = some (m, f) → ∀ s : ByteArray, (f s).1.size = s.size + 1 := by
  intro q m f hp s
  match q, hp with
  | 0, hp => cases hp; exact ByteArray.size_append
  | 1, hp => cases hp; exact ByteArray.size_append
  | 3, hp => cases hp; exact ByteArray.size_append
/-- of any play of it: the text is as long as there were turns -/
def awI (bb : Nat) (p : PS (awG bb)) : Prop := ByteArray.size p.s ≤ p.tr.length
theorem awI_step {bb : Nat} (p : PS (awG bb)) (k : Int) (h : awI bb p) : awI bb (takeF p k).1 := by
  rcases takeF_cases p k with e | ⟨n, q, m, f, _, _, hp, _, e⟩
  · rw [e]; exact h
  · rw [e]
    unfold awI at h ⊢
    simp only [List.length_append, List.length_singleton]
    have := awPlan_size q m f hp p.s
    omega

/-- '==' of two turns -/
theorem eqT {x y : Operand} {a0 b0 a1 b1 a2 b2 : Int} : Eql Try.prog 49 x y (.agg #[.int .i64 a0, .int .u8 a1, .int .i64 a2]) (.agg #[.int .i64 b0, .int .u8 b1, .int .i64 b2]) (decide (a0 = b0 ∧ a1 = b1 ∧ a2 = b2)) :=
  haveI p0 : Und Try.prog 49 _ := ⟨Try.underlying49⟩
  haveI p1 : Und Try.prog 47 _ := ⟨Try.underlying47⟩
  eql_turned (t1 := 47) (p := p0) (p1 := p1) (by kernel_rfl) (by kernel_rfl) (by kernel_rfl) (by decide) (by decide) (by decide) (by decide) rfl rfl rfl rfl rfl (by kernel_rfl) (by kernel_rfl) (by kernel_rfl)

theorem awake_tr {L : List HProp} : Tr Try.prog mT 13 [] L .idle fun v L' x' => v = .bool true ∧ L' = L ∧ x' = .idle := by
  refine Tr.post (R := fun v L' x' => v = .bool true ∧ x' = MX.idle ∧ ∀ h, Star L' h → Star L h) ?_
    (by rintro v L' x' ⟨rfl, rfl, h2⟩; exact ⟨_, ⟨rfl, rfl, rfl⟩, h2⟩)
  refine tr_of_body Try.func13 rfl Try.ntmps13 (by simp) fun um Q _ hQ => ?_
  simp only [argE, Nat.zero_add, Nat.reduceAdd]
  repeat (first
    | (apply wo_mo; apply mo_alloc; exact trivial)
    | refine we_seq ?_
    | (refine we_region _ rfl rfl ?_; simp only [opsOf, List.map_cons, List.map_nil, Option.map_none, Option.map_some, List.getElem?_toArray, List.getElem?_cons_zero, List.getElem?_cons_succ, Option.bind_some, Option.getD_some])
    | refine wo_nil ?_
    | (apply wo_po; apply mo_assign; exact rfl; (first | exact trivial | exact rfl)))
  rintro v' L' ⟨bb, rfl, rfl⟩
  repeat (first
    | (apply wo_pm; apply mo_store; exact rfl; exact rfl; exact rfl; apply Wt.row0; (repeat (first | exact Foc.here | apply Foc.there)); (first | exact Nat.lt_of_sub_eq_succ rfl | omega); (first | exact trivial | exact rfl))
    | (apply wo_po; apply mo_makeFunc (first := []) (cap := [_]) (vf := []); exact .nil; exact .cons rfl .nil; exact trivial)
    | (apply wo_mo; apply mo_buildSlice (sz := 1) (vs := [.int .i64 1, .int .i64 7, .int .i64 0]); exact rfl; exact .cons rfl (.cons rfl (.cons rfl .nil)); exact rfl; (intro v hv; simp at hv; rcases hv with rfl | rfl | rfl <;> rfl); omega; exact trivial)
    | refine we_seq ?_
    | (refine we_region _ rfl rfl ?_; simp only [opsOf, List.map_cons, List.map_nil, Option.map_none, Option.map_some, List.getElem?_toArray, List.getElem?_cons_zero, List.getElem?_cons_succ, Option.bind_some, Option.getD_some])
    | refine wo_nil ?_
    | (apply wo_po; apply mo_assign; exact rfl; (first | exact trivial | exact rfl)))
  rintro v' L' ⟨ob, rfl, rfl⟩
  repeat (first
    | (apply wo_mo; apply mo_buildSlice (sz := 1) (vs := [_, _]); exact rfl; exact .cons rfl (.cons rfl .nil); exact rfl; (intro v hv; simp at hv; rcases hv with rfl | rfl <;> rfl); omega; exact trivial)
    | (apply wo_po; apply mo_move; exact rfl; (first | exact trivial | exact rfl)))
  rintro v' L' ⟨tb, rfl, rfl⟩
  refine wo_call (.cons rfl (.cons rfl .nil)) trivial (Tr.ent (L' := (awG bb).U (ByteArray.mk #[]) :: arr tb 0 [.func (.func 44) #[] #[.pointer (some ⟨bb, 0, none⟩)], .func (.func 45) #[] #[.pointer (some ⟨bb, 0, none⟩)]] :: arr ob 0 [.int .i64 1, .int .i64 7, .int .i64 0] :: L) (.take (.there (.there .here)) (.take .here (.take .here .refl))) (tr_star ((awG bb).U (ByteArray.mk #[]) :: all ((awT bb).map Thr.M) :: arr tb 0 [.func (.func 44) #[] #[.pointer (some ⟨bb, 0, none⟩)], .func (.func 45) #[] #[.pointer (some ⟨bb, 0, none⟩)]] :: arr ob 0 [.int .i64 1, .int .i64 7, .int .i64 0] :: L)
    (fun h st => star_map st (fun _ z => z) fun _ s1 => star_shut (M := (awT bb).map Thr.M) (star_true (star_true s1)))
    (play_tr (order := [1, 7, 0]) (ts := awT bb) (s0 := ByteArray.mk #[]) (awI bb) (fun j hj => by match j, hj with | 0, _ => exact Nat.zero_le _ | 1, _ => exact Nat.zero_le _) (Nat.le_refl 0) awI_step (fun p h1 h2 => by unfold awI at h1; show ByteArray.size p.s ≤ 1000000; omega) (fun _ _ _ => trivial)
      (by intro t ht; simp [awT] at ht; rcases ht with rfl | rfl; exact aw1; exact aw2) (Nat.zero_lt_succ _) (by show 2 ≤ 16; omega) (by show 3 ≤ 16384; omega)
      ⟨rfl, .inr ⟨_, _, rfl, Rds.all .here⟩⟩ ⟨rfl, .inr ⟨_, _, rfl, Rds.all (.there .here)⟩⟩))) ?_
  rw [aw_plays]
  rintro v' L' x' ⟨tv, cv, rfl, rfl, rfl⟩
  rw [show cutN (awG bb) [(2 : Nat), (4 : Nat)] (awT bb).length = [] from rfl]
  refine wo_pure (of_has .here (vec_shape (by omega))) ?_
  rintro ⟨a1, n1, c1, rfl, hn1, _, hz1, hy1⟩
  obtain rfl : n1 = 3 := by rw [trC_len] at hn1; simp at hn1; omega
  refine wo_pure (of_has (.there .here) (vec_shape (by omega))) ?_
  rintro ⟨a2, n2, c2, rfl, hn2, _⟩
  obtain rfl : n2 = 0 := by simp [cutC] at hn2; omega
  cases a1 with
  | none => have := hz1 rfl; omega
  | some ad =>
  obtain ⟨tb1, to1, sp⟩ := ad
  have := hy1 _ rfl
  simp only [Addr.mk.injEq, true_and] at this
  subst this
  repeat (first
    | (apply wo_mo; apply mo_alloc; exact trivial)
    | (apply wo_po; apply mo_move; exact rfl; (first | exact trivial | exact rfl))
    | (apply wo_po; apply mo_extract; exact rfl; exact rfl; (first | exact trivial | exact rfl)))
  rintro v' L' ⟨pb, rfl, rfl⟩
  repeat (first
    | (apply wo_pm; apply mo_storeA (c := 0) (k := 0) (a := 0) (vs := [.slice none 0 0, .slice none 0 0]); exact rfl; exact rfl; exact rfl; (intro w hw; simp [Value.cells] at hw; rcases hw with rfl | rfl <;> rfl); exact rfl; exact Nat.le_refl 2; exact .here; exact trivial)
    | (apply wo_mo; apply mo_buildSlice (sz := 1) (vs := [.int .i64 2, .int .i64 1]); exact rfl; exact .cons rfl (.cons rfl .nil); exact rfl; (intro v hv; simp at hv; rcases hv with rfl | rfl <;> rfl); omega; exact trivial)
    | refine we_seq ?_
    | (refine we_region _ rfl rfl ?_; simp only [opsOf, List.map_cons, List.map_nil, Option.map_none, Option.map_some, List.getElem?_toArray, List.getElem?_cons_zero, List.getElem?_cons_succ, Option.bind_some, Option.getD_some])
    | refine wo_nil ?_
    | (apply wo_po; apply mo_assign; exact rfl; (first | exact trivial | exact rfl)))
  rintro v' L' ⟨qb, rfl, rfl⟩
  skip
  refine wo_call (.cons rfl .nil) trivial (count_tr (l := [2, 1]) ⟨rfl, .inr ⟨_, _, rfl, Rds.all .here⟩⟩ (by omega)) ?_
  rintro v' L' x' ⟨rfl, rfl, rfl⟩
  rw [show (if wrongF [2, 1] ≠ 0 then (0 : Int) else ((cntF 0 1 ([2, 1].map Int.toNat)).getD 0 : Nat)) = 3 by kernel_rfl, show (if wrongF [2, 1] ≠ 0 then wrongF [2, 1] else if (cntF 0 1 ([2, 1].map Int.toNat)).isSome = true then 0 else 20) = 0 by kernel_rfl]
  refine wo_ent (arr qb 0 [.int .i64 2, .int .i64 1] :: arr pb 0 [.slice (some ⟨tb1, to1, none⟩) 3 c1, .slice a2 0 c2] :: vec 3 (.slice (some ⟨tb1, to1, none⟩) 3 c1) (trC [(1, (5, 3)), (0, (1, 1)), (0, (3, 2))]) :: arr bb 0 [.string (ByteArray.mk #[99, 97, 98])] :: L) (.take .here (.take .here (.take .here (.take (.there .here) (.drop (.drop (.drop (.drop .refl)))))))) ?_
  have hv : Rds (arr qb 0 [.int .i64 2, .int .i64 1] :: arr pb 0 [.slice (some ⟨tb1, to1, none⟩) 3 c1, .slice a2 0 c2] :: vec 3 (.slice (some ⟨tb1, to1, none⟩) 3 c1) (trC [(1, (5, 3)), (0, (1, 1)), (0, (3, 2))]) :: arr bb 0 [.string (ByteArray.mk #[99, 97, 98])] :: L) tb1 (to1 + 0 * 3) [.int .i64 1, .int .u8 5, .int .i64 3] := by
    intro i v hi
    match i, hi with
    | 0, hi => cases hi; exact rd_vec (i := 0) (.there (.there .here)) rfl
    | 1, hi => cases hi; exact rd_vec (i := 1) (.there (.there .here)) rfl
    | 2, hi => cases hi; exact rd_vec (i := 2) (.there (.there .here)) rfl
  repeat (first
    | (apply wo_po; apply mo_bin; exact rfl; exact rfl; exact bin_streq (r := true) (by kernel_rfl); exact rfl)
    | (apply wo_po; apply mo_index (sz := 3) (j := 0); exact rfl; exact rfl; omega; exact rfl)
    | (apply wo_po; apply mo_loadA (vs := [.int .i64 1, .int .u8 5, .int .i64 3]); exact rfl; exact rfl; exact hv; exact rfl)
    | (apply wo_po; apply mo_build (pv := [(0, _), (1, _)]); exact rfl; exact .cons rfl (.cons rfl .nil); exact rfl; exact rfl)
    | (apply wo_po; apply mo_bin; exact rfl; exact rfl; apply bin_eq; exact eqT; exact rfl)
    | (apply wo_po; apply mo_bin; exact rfl; exact rfl; apply bin_eqlT; omega; (first | exact trivial | exact rfl))
    | refine we_seq ?_
    | (refine we_region _ rfl rfl ?_; simp only [opsOf, List.map_cons, List.map_nil, Option.map_none, Option.map_some, List.getElem?_toArray, List.getElem?_cons_zero, List.getElem?_cons_succ, Option.bind_some, Option.getD_some])
    | refine wo_nil ?_
    | (apply wo_po; apply mo_move; exact rfl; (first | exact trivial | exact rfl))
    | (apply wo_po; apply mo_assign; exact rfl; (first | exact trivial | exact rfl))
    | (apply wo_po; apply mo_pickT; exact rfl; exact rfl; exact rfl; (first | exact trivial | exact rfl))
    | (apply wo_po; apply mo_fieldAddr; exact rfl; exact rfl; (first | exact Nat.zero_add _ | exact rfl); (first | exact trivial | exact rfl))
    | (apply wo_po; apply mo_extract; exact rfl; exact rfl; (first | exact trivial | exact rfl))
    | (apply wo_po; apply mo_load; exact rfl; (repeat (first | exact Rd.row0 rfl | exact Rd.row rfl rfl | exact Rd.still | apply Rd.there)); (first | exact trivial | exact rfl))
    | (apply wo_po; apply mo_len; exact rfl; (first | exact trivial | exact rfl))
    | refine we_ret ?_)
  (first | refine at_ret1 (ex := .ret) Try.func13 Try.results13 hQ (.inl rfl) rfl ?_ | refine at_ret1 (ex := .normal) Try.func13 Try.results13 hQ (.inr rfl) rfl ?_)
  exact ⟨rfl, rfl, fun h st => Ent.star (.drop (.drop (.drop (.drop .refl)))) st⟩
end Go.Proofs.Ytabbkjciifnehaa
