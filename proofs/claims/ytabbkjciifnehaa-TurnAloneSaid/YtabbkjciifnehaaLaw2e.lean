/-
  patchbaylaw02: TurnAlone: threads that add to one plain number in two steps.
-/
import Derived.Test.YtabbkjciifnehaaPlayE
import Derived.Test.YtabbkjciifnehaaLaw2d
import Derived.Test.YtabbkjciifnehaaRef
set_option linter.unusedVariables false
set_option linter.unusedSimpArgs false
namespace Go.Proofs.Ytabbkjciifnehaa
open Go Go.PB
attribute [local irreducible] Mo Bin Eql Tr Wo Ap Wle

/-- a thread's plan: the steps that it has taken, what it saw -/
def alPlan : Nat × Int → Option ((Int × Int) × (Int → Int × (Nat × Int))) := fun q =>
  if q.1 < 6 then some (if q.1 % 2 = 0 then ((1, 0), fun s => (s, (q.1 + 1, s))) else ((2, 0), fun s => (q.2 + 1, (q.1 + 1, q.2)))) else none
def alG (nb : Nat) : Game where
  σ := Int
  θ := Nat × Int
  U := fun s => arr nb 0 [.int .i64 s]
  plan := alPlan
  ok := fun s => 0 ≤ s ∧ s ≤ 1000000
  Pv := fun _ _ => True
  Fin := fun _ _ => True
abbrev alF (nb : Nat) : Value := .func (.func 29) #[] #[.pointer (some ⟨nb, 0, none⟩)]
def alT (nb : Nat) : Thr (alG nb) := ⟨alF nb, fun s => (s, ((0 : Nat), (0 : Int))), fun _ => True⟩

section
variable {nb sb says turn fin wg : Nat} {F : List HProp}
def alInv (nb sb says turn fin wg : Nat) (F : List HProp) : PB.Inv (Nat × Int × Int × Nat) TX where
  e := fun i => [(0, gateV sb), (1, .pointer (some ⟨nb, 0, none⟩)), (3, .int .i64 (i.1 : Nat))]
  L := fun i => (alG nb).U i.2.1 :: seatR sb says turn fin :: (fun _ => True) :: F
  x := fun i => tx (alG nb) says turn fin wg (.busy i.2.1 ((2 * i.1 : Nat), i.2.2.1) i.2.2.2)
  ok := fun i => i.1 ≤ 3

theorem al_ok : ThrOk (alG nb) (alT nb).ini (alT nb).fv (alT nb).M where
  run := by
    refine ⟨_, _, _, rfl, inferInstance, fun sb says turn fin wg s n F hok => ?_⟩
    show Tr Try.prog tH _ [gateV sb, .pointer (some ⟨nb, 0, none⟩)] _ (tx (alG nb) says turn fin wg (.busy s ((0 : Nat), (0 : Int)) n)) _
    refine tr_of_body Try.func29 rfl Try.ntmps29 (by simp) fun um Q _ hQ => ?_
    simp only [argE, Nat.zero_add, Nat.reduceAdd]
    repeat (first
      | refine we_seq ?_
      | (refine we_region _ rfl rfl ?_; simp only [opsOf, List.map_cons, List.map_nil, Option.map_none, Option.map_some, List.getElem?_toArray, List.getElem?_cons_zero, List.getElem?_cons_succ, Option.bind_some, Option.getD_some])
      | refine wo_nil ?_
      | (apply wo_po; apply mo_assign; exact rfl; (first | exact trivial | exact rfl))
      | refine we_block ?_)
    refine we_loopN (alInv nb sb says turn fin wg F) (fun i => 3 - i.1) (0, s, 0, n) (Nat.zero_le _) ⟨rfl, rfl, rfl, trivial⟩ .refl rfl ?_
    rintro ⟨i, (s : Int), w, m⟩ hi
    replace hi : i ≤ 3 := hi
    simp only [alInv]
    by_cases hlt : i < 3
    · have p1 : alPlan (2 * i, w) = some ((1, 0), fun s => (s, (2 * i + 1, s))) := by unfold alPlan; rw [if_pos (by show 2 * i < 6; omega), if_pos (by show 2 * i % 2 = 0; omega)]
      have p2 : ∀ w, alPlan (2 * i + 1, w) = some ((2, 0), fun s => (w + 1, (2 * i + 1 + 1, w))) := fun w => by unfold alPlan; rw [if_pos (by show 2 * i + 1 < 6; omega), if_neg (by show ¬ (2 * i + 1) % 2 = 0; omega)]
      repeat (first
        | (apply wo_po; apply mo_build (pv := [(0, _)]); exact rfl; exact .cons rfl .nil; exact rfl; exact trivial)
        | (apply wo_po; apply mo_bin; exact rfl; exact rfl; apply bin_lssT; omega; (first | exact trivial | exact rfl))
        | refine we_seq ?_
        | (refine we_region _ rfl rfl ?_; simp only [opsOf, List.map_cons, List.map_nil, Option.map_none, Option.map_some, List.getElem?_toArray, List.getElem?_cons_zero, List.getElem?_cons_succ, Option.bind_some, Option.getD_some])
        | refine wo_nil ?_
        | (apply wo_po; apply mo_move; exact rfl; (first | exact trivial | exact rfl))
        | (apply we_condT; exact rfl; (first | exact rfl | (simp <;> omega) | omega))
        | refine we_skip ?_
        | refine we_block ?_)
      refine wo_invoke (args := [_]) rfl (.cons rfl .nil) trivial (step_tr (g := alG nb) (mk := (1, 0)) (f := fun s : Int => (s, ((2 * i + 1 : Nat), s))) (q := ((2 * i : Nat), w)) p1 .here .here (fun _ _ => trivial)) ?_
      rintro v' L' x' ⟨m1, (s1 : Int), hm1, hs1, rfl, rfl, rfl⟩
      replace hs1 : 0 ≤ s1 ∧ (s1 : Int) ≤ 1000000 := hs1
      refine wo_ent (arr nb 0 [.int .i64 s1] :: seatR sb says turn fin :: (fun _ => True) :: F) .refl ?_
      repeat (first
        | (apply wo_po; apply mo_build (pv := [(0, _)]); exact rfl; exact .cons rfl .nil; exact rfl; exact trivial)
        | refine we_seq ?_
        | (refine we_region _ rfl rfl ?_; simp only [opsOf, List.map_cons, List.map_nil, Option.map_none, Option.map_some, List.getElem?_toArray, List.getElem?_cons_zero, List.getElem?_cons_succ, Option.bind_some, Option.getD_some])
        | refine wo_nil ?_
        | (apply wo_po; apply mo_move; exact rfl; (first | exact trivial | exact rfl))
        | (apply wo_po; apply mo_assign; exact rfl; (first | exact trivial | exact rfl))
        | (apply wo_po; apply mo_load; exact rfl; (repeat (first | exact Rd.row0 rfl | exact Rd.row rfl rfl | exact Rd.still | apply Rd.there)); (first | exact trivial | exact rfl)))
      refine wo_ent ((alG nb).U s1 :: seatR sb says turn fin :: (fun _ => True) :: F) .refl ?_
      refine wo_invoke (args := [_]) rfl (.cons rfl .nil) trivial (step_tr (g := alG nb) (mk := (2, 0)) (f := fun s : Int => ((s1 : Int) + 1, ((2 * i + 1 + 1 : Nat), s1))) (q := ((2 * i + 1 : Nat), s1)) (p2 s1) .here .here (fun _ _ => trivial)) ?_
      rintro v' L' x' ⟨m2, (s2 : Int), hm2, hs2, rfl, rfl, rfl⟩
      refine wo_ent (arr nb 0 [.int .i64 s2] :: seatR sb says turn fin :: (fun _ => True) :: F) .refl ?_
      obtain ⟨h1, h2⟩ := hs1
      have hw : IntKind.i64.wrap ((s1 : Int) + 1) = (s1 : Int) + 1 := wrap_i64 (by omega) (by omega)
      repeat (first
        | (apply wo_po; apply mo_bin; exact rfl; exact rfl; apply bin_add; exact hw; exact trivial)
        | (apply wo_pm; apply mo_store; exact rfl; exact rfl; exact rfl; apply Wt.row0; (repeat (first | exact Foc.here | apply Foc.there)); (first | exact Nat.lt_of_sub_eq_succ rfl | omega); (first | exact trivial | exact rfl))
        | (refine we_region _ rfl rfl ?_; simp only [opsOf, List.map_cons, List.map_nil, Option.map_none, Option.map_some, List.getElem?_toArray, List.getElem?_cons_zero, List.getElem?_cons_succ, Option.bind_some, Option.getD_some])
        | refine wo_nil ?_
        | (apply wo_po; apply mo_move; exact rfl; (first | exact trivial | exact rfl))
        | (apply wo_po; apply mo_assign; exact rfl; (first | exact trivial | exact rfl))
        | (apply wo_po; apply mo_bin; exact rfl; exact rfl; apply bin_add; exact wrap_i64 (by omega) (by omega); (first | exact trivial | exact rfl)))
      refine at_round (B := tH) (I := alInv nb sb says turn fin wg F) (R := fun j => 3 - j.1 < 3 - i) (i + 1, (s1 : Int) + 1, s1, m2) (by show 3 - (i + 1) < 3 - i; omega) (show i + 1 ≤ 3 by omega) ?_ .refl rfl
      exact ⟨rfl, rfl, rfl, trivial⟩
    · obtain rfl : i = 3 := by omega
      repeat (first
        | (apply wo_po; apply mo_bin; exact rfl; exact rfl; apply bin_lssF; omega; (first | exact trivial | exact rfl))
        | refine we_seq ?_
        | (refine we_region _ rfl rfl ?_; simp only [opsOf, List.map_cons, List.map_nil, Option.map_none, Option.map_some, List.getElem?_toArray, List.getElem?_cons_zero, List.getElem?_cons_succ, Option.bind_some, Option.getD_some])
        | refine wo_nil ?_
        | (apply wo_po; apply mo_move; exact rfl; (first | exact trivial | exact rfl))
        | (apply we_condF; exact rfl; (first | exact rfl | (simp <;> omega) | omega))
        | refine we_exit ?_)
      (first | refine at_ret0 (ex := .ret) Try.func29 Try.results29 hQ (.inl rfl) ?_ | refine at_ret0 (ex := .normal) Try.func29 Try.results29 hQ (.inr rfl) ?_)
      exact ⟨s, ((6 : Nat), w), m, rfl, rfl, fun h st => st⟩
end

/- ---- the plain law ---- -/
/-- what the trace says of the number, of what the threads saw -/
def replay : List (Nat × (Int × Int)) → Int × (Nat → Int)
  | l => l.foldl (fun a t => if t.2.1 = 1 then (a.1, fun i => if i = t.1 then a.1 else a.2 i) else (a.2 t.1 + 1, a.2)) (0, fun _ => 0)
theorem replay_snoc (l : List (Nat × (Int × Int))) (t : Nat × (Int × Int)) : replay (l ++ [t]) = if t.2.1 = 1 then ((replay l).1, fun i => if i = t.1 then (replay l).1 else (replay l).2 i) else ((replay l).2 t.1 + 1, (replay l).2) := by
  simp [replay]

theorem snoc_ind {α : Type} {P : List α → Prop} (h0 : P []) (hs : ∀ l a, P l → P (l ++ [a])) : ∀ l, P l := by
  intro l
  have key : ∀ m : List α, P m.reverse := by
    intro m
    induction m with
    | nil => exact h0
    | cons a m ih => rw [List.reverse_cons]; exact hs _ _ ih
  have := key l.reverse
  rwa [List.reverse_reverse] at this
theorem replay_bnd : ∀ l, (0 ≤ (replay l).1 ∧ (replay l).1 ≤ (l.length : Int)) ∧ ∀ k, 0 ≤ (replay l).2 k ∧ (replay l).2 k ≤ (l.length : Int) := by
  refine snoc_ind ⟨by simp [replay], fun k => by simp [replay]⟩ fun l a ⟨⟨h1, h2⟩, h3⟩ => ?_
  rw [replay_snoc]
  have hl : ((l ++ [a]).length : Int) = (l.length : Int) + 1 := by simp
  rw [hl]
  split
  · refine ⟨⟨h1, by omega⟩, fun k => ?_⟩
    simp only
    split
    · exact ⟨h1, by omega⟩
    · have := h3 k; exact ⟨this.1, by omega⟩
  · have := h3 a.1
    refine ⟨⟨by simp only; omega, by simp only; omega⟩, fun k => ?_⟩
    have := h3 k; exact ⟨this.1, by simp only; omega⟩

structure AlI (n : Nat) (s : Int) (qs : List (Nat × Int)) (tr : List (Nat × (Int × Int))) : Prop where
  len : qs.length = n
  num : (replay tr).1 = s
  saw : ∀ (k : Nat) (q : Nat × Int), qs[k]? = some q → q.1 ≤ 6 ∧ (q.1 % 2 = 1 → (replay tr).2 k = q.2)
  sum : sumN (qs.map (·.1)) = tr.length
  ths : ∀ t ∈ tr, t.1 < n ∧ (t.2 = (1, 0) ∨ t.2 = (2, 0))

theorem al_step {n : Nat} {s : Int} {qs : List (Nat × Int)} {tr : List (Nat × (Int × Int))} (h : AlI n s qs tr) {k : Nat} {q : Nat × Int} {m : Int × Int} {f : Int → Int × (Nat × Int)} (hq : qs[k]? = some q) (hp : alPlan q = some (m, f)) : AlI n (f s).1 (qs.set k (f s).2) (tr ++ [(k, m)]) := by
  obtain ⟨j, w⟩ := q
  have hk := (List.getElem?_eq_some_iff.1 hq).1
  obtain ⟨hj6, hsaw⟩ := h.saw k _ hq
  simp only at hj6 hsaw
  have hj : j < 6 := by
    unfold alPlan at hp
    by_cases hj : j < 6
    · exact hj
    · rw [if_neg hj] at hp; cases hp
  unfold alPlan at hp
  rw [if_pos hj] at hp
  have hsum : ∀ w' : Int, sumN ((qs.set k (j + 1, w')).map (·.1)) = tr.length + 1 := by
    intro w'
    have e : (qs.set k (j + 1, w')).map (·.1) = (qs.map (·.1)).set k (j + 1) := by rw [List.map_set]
    have := sumN_set (l := qs.map (·.1)) (k := k) (a := j) (b := j + 1) (by rw [List.getElem?_map, hq]; rfl)
    rw [e]
    have hs := h.sum
    omega
  by_cases he : j % 2 = 0
  · rw [if_pos he] at hp
    cases hp
    have hr := replay_snoc tr (k, (1, 0))
    rw [if_pos rfl] at hr
    refine ⟨by simp [h.len], by rw [hr]; exact h.num, fun k' q' hq' => ?_, by simpa using hsum s, fun t ht => ?_⟩
    · rw [List.getElem?_set] at hq'
      by_cases e : k = k'
      · subst e
        rw [if_pos rfl, if_pos hk] at hq'
        cases hq'
        refine ⟨by simp only; omega, fun _ => ?_⟩
        rw [hr]
        simp only [if_true]
        exact h.num
      · rw [if_neg e] at hq'
        obtain ⟨a, b⟩ := h.saw k' q' hq'
        refine ⟨a, fun h3 => ?_⟩
        rw [hr]
        simp only
        rw [if_neg (fun e' => e e'.symm)]
        exact b h3
    · rcases List.mem_append.1 ht with ht | ht
      · exact h.ths t ht
      · cases List.mem_singleton.1 ht; exact ⟨by rw [← h.len]; exact hk, .inl rfl⟩
  · rw [if_neg he] at hp
    cases hp
    have hr := replay_snoc tr (k, (2, 0))
    rw [if_neg (by show ¬ (2 : Int) = 1; decide)] at hr
    refine ⟨by simp [h.len], ?_, fun k' q' hq' => ?_, by simpa using hsum w, fun t ht => ?_⟩
    · rw [hr]
      show (replay tr).2 k + 1 = w + 1
      rw [hsaw (by omega)]
    · rw [List.getElem?_set] at hq'
      by_cases e : k = k'
      · subst e
        rw [if_pos rfl, if_pos hk] at hq'
        cases hq'
        exact ⟨by simp only; omega, fun h3 => by simp only at h3; omega⟩
      · rw [if_neg e] at hq'
        obtain ⟨a, b⟩ := h.saw k' q' hq'
        refine ⟨a, fun h3 => ?_⟩
        rw [hr]
        exact b h3
    · rcases List.mem_append.1 ht with ht | ht
      · exact h.ths t ht
      · cases List.mem_singleton.1 ht; exact ⟨by rw [← h.len]; exact hk, .inr rfl⟩

def alIv (nb n : Nat) (p : PS (alG nb)) : Prop := AlI n p.s p.qs p.tr
theorem alIv_step {nb n : Nat} (p : PS (alG nb)) (k : Int) (h : alIv nb n p) : alIv nb n (takeF p k).1 := by
  rcases takeF_cases p k with e | ⟨m, q, mk, f, _, hq, hp, _, e⟩
  · rw [e]; exact h
  · rw [e]; exact al_step h hq hp
theorem al_start {nb : Nat} : ∀ (n : Nat) (s : Int), startF (List.replicate n (alT nb)) (show (alG nb).σ from s) = (s, List.replicate n ((0 : Nat), (0 : Int)))
  | 0, s => rfl
  | n + 1, s => by
    rw [List.replicate_succ, List.replicate_succ]
    show ((startF (List.replicate n (alT nb)) s).1, _ :: (startF (List.replicate n (alT nb)) s).2) = _
    rw [al_start n s]; rfl
theorem al_iv0 {nb n : Nat} : alIv nb n ⟨(startF (List.replicate n (alT nb)) (show (alG nb).σ from (0 : Int))).1, (startF (List.replicate n (alT nb)) (show (alG nb).σ from (0 : Int))).2, []⟩ := by
  rw [al_start]
  refine ⟨by simp, rfl, fun k q hq => ?_, ?_, fun t ht => by simp at ht⟩
  · rw [List.getElem?_replicate] at hq
    split at hq
    · cases hq; exact ⟨by simp, fun h => by simp at h⟩
    · cases hq
  · show sumN ((List.replicate n ((0 : Nat), (0 : Int))).map (·.1)) = 0
    rw [sumN_all (c := 0) (by intro a ha; simp at ha; exact ha.2)]; simp

/-- what comes of it -/
theorem al_plays {nb n : Nat} (hn : n ≤ 16) (o : List Int) : AlI n (playF (List.replicate n (alT nb)) (show (alG nb).σ from (0 : Int)) o).s (playF (List.replicate n (alT nb)) (show (alG nb).σ from (0 : Int)) o).qs (playF (List.replicate n (alT nb)) (show (alG nb).σ from (0 : Int)) o).tr ∧
    (playF (List.replicate n (alT nb)) (show (alG nb).σ from (0 : Int)) o).tr.length = n * 6 ∧ cutN (alG nb) (playF (List.replicate n (alT nb)) (show (alG nb).σ from (0 : Int)) o).qs n = [] := by
  have hI : AlI n (playF (List.replicate n (alT nb)) (show (alG nb).σ from (0 : Int)) o).s (playF (List.replicate n (alT nb)) (show (alG nb).σ from (0 : Int)) o).qs (playF (List.replicate n (alT nb)) (show (alG nb).σ from (0 : Int)) o).tr :=
    playF_inv (I := alIv nb n) alIv_step al_iv0
  obtain ⟨p, hp⟩ : ∃ p, playF (List.replicate n (alT nb)) (show (alG nb).σ from (0 : Int)) o = p := ⟨_, rfl⟩
  have hdone : ∀ (k : Nat) q, p.qs[k]? = some q → (alG nb).plan q = none ∨ p.tr.length = 16384 := fun k q hq => by rw [← hp] at hq ⊢; exact playF_done hq
  rw [hp] at hI ⊢
  have hle : p.tr.length ≤ n * 6 := by
    have hb : ∀ (l : List Nat), (∀ a ∈ l, a ≤ 6) → sumN l ≤ l.length * 6 := by
      intro l
      induction l with
      | nil => intro _; simp [sumN]
      | cons a l ih =>
        intro h
        have h1 := ih fun b hb => h b (by simp [hb])
        have h2 := h a (by simp)
        simp only [sumN, List.foldr_cons, List.length_cons] at h1 ⊢
        omega
    have := hb ((show List (Nat × Int) from p.qs).map (·.1)) (by
      intro a ha
      obtain ⟨q, hq, rfl⟩ := List.mem_map.1 ha
      obtain ⟨k, hk⟩ := List.mem_iff_getElem?.1 hq
      exact (hI.saw k q hk).1)
    rw [hI.sum, List.length_map] at this
    have e : (show List (Nat × Int) from p.qs).length = n := hI.len
    rw [e] at this
    exact this
  have hnone : ∀ (k : Nat) q, p.qs[k]? = some q → (alG nb).plan q = none := fun k q hq => (hdone k q hq).resolve_right (by omega)
  refine ⟨hI, ?_, cutN_nil hnone⟩
  rw [← hI.sum, sumN_all (c := 6)]
  · have e : ((show List (Nat × Int) from p.qs).map (·.1)).length = n := (List.length_map _).trans hI.len
    exact congrArg (· * 6) e
  · intro a ha
    obtain ⟨q, hq, rfl⟩ := List.mem_map.1 ha
    obtain ⟨k, hk⟩ := List.mem_iff_getElem?.1 hq
    have h1 := (hI.saw k q hk).1
    have h2 := hnone k q hk
    replace h2 : alPlan q = none := h2
    unfold alPlan at h2
    by_cases hj : q.1 < 6
    · rw [if_pos hj] at h2; cases h2
    · omega
end Go.Proofs.Ytabbkjciifnehaa
