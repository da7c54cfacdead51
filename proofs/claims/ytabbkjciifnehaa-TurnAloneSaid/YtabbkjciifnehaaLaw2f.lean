/-
  patchbaylaw02: TurnAlone's walk.
-/
import Derived.Test.YtabbkjciifnehaaLaw2e
set_option linter.unusedVariables false
set_option linter.unusedSimpArgs false
namespace Go.Proofs.Ytabbkjciifnehaa
open Go Go.PB
attribute [local irreducible] Mo Bin Eql Tr Wo Ap Wle
attribute [local instance] Pass.of_no

/-- chunks that ask nothing -/
theorem star_alls {M L : List HProp} (hM : ∀ c ∈ M, ∀ h, c h) : ∀ {h : Hp}, Star L h → Star (M ++ L) h := by
  induction M with
  | nil => exact fun s => s
  | cons c M ih => exact fun s => star_map (star_true (ih (fun d hd => hM d (by simp [hd])) s)) (fun h _ => hM c (by simp) h) (fun _ z => z)

/-- an order, cut -/
def cutInvO (L : List HProp) (count : Value) (l : List Int) : PB.Inv (Option Addr × Nat × Nat) MX where
  e := fun i => [(0, .slice i.1 i.2.1 i.2.2), (1, count), (22, .bool false)].take 2
  L := fun _ => L
  x := fun _ => .idle
  ok := fun i => RdsO L i.1 i.2.1 (ints l) ∧ i.2.1 ≤ 2000
def alLoop (nb n : Nat) (ov : Value) (L : List HProp) : PB.Inv (Nat × Value) MX where
  e := fun i => [(0, ov), (5, .int .i64 (n : Nat)), (6, .pointer (some ⟨nb, 0, none⟩)), (7, i.2), (8, .int .i64 (i.1 : Nat))]
  L := fun i => vec 1 i.2 (List.replicate i.1 (alF nb)) :: arr nb 0 [.int .i64 0] :: L
  x := fun _ => .idle
  ok := fun i => i.1 ≤ n
def sawC (n : Nat) (r : Nat → Int) : List Value := (List.range n).map fun k => .int .i64 (r k)
def repLoop (n nb pb wb : Nat) (tr : List (Nat × (Int × Int))) (L : List HProp) : PB.Inv Nat MX where
  e := fun i => [(6, .pointer (some ⟨nb, 0, none⟩)), (9, .pointer (some ⟨pb, 0, none⟩)), (11, .int .i64 (replay (tr.take i)).1), (12, .slice (some ⟨wb, 0, none⟩) n n), (13, .int .i64 (i : Nat))]
  L := fun i => arr wb 0 (sawC n (replay (tr.take i)).2) :: L
  x := fun _ => .idle
  ok := fun i => i ≤ tr.length

theorem sawC_set {n k : Nat} {r : Nat → Int} {v : Int} : (sawC n r).set k (.int .i64 v) = sawC n (fun i => if i = k then v else r i) := by
  unfold sawC
  apply List.ext_getElem?
  intro i
  rw [List.getElem?_set]
  by_cases h : k = i
  · subst h
    by_cases hk : k < n
    · simp [hk]
    · simp [hk]
  · rw [if_neg h]
    by_cases hi : i < n
    · simp [hi, Ne.symm h]
    · simp [hi]

set_option maxHeartbeats 4000000 in
theorem tAlone_tr {L : List HProp} {a : Option Addr} {n0 c : Nat} {l0 : List Int} {count : Int} (hr0 : RdsO L a n0 (ints l0)) (hb : n0 ≤ 9223372036854775807) (hc0 : n0 ≤ c) (hcount : -9223372036854775808 ≤ count ∧ count ≤ 9223372036854775807) :
    Tr Try.prog mT 6 [.slice a n0 c, .int .i64 count] L .idle fun v L' x' => v = .bool true ∧ x' = .idle := by
  have hn0 : n0 = l0.length := by have := hr0.1; simpa using this
  subst hn0
  refine tr_of_body Try.func6 rfl Try.ntmps6 (by simp) fun um Q _ hQ => ?_
  simp only [argE, Nat.zero_add, Nat.reduceAdd]
  repeat (first
    | refine we_seq ?_
    | (refine we_region _ rfl rfl ?_; simp only [opsOf, List.map_cons, List.map_nil, Option.map_none, Option.map_some, List.getElem?_toArray, List.getElem?_cons_zero, List.getElem?_cons_succ, Option.bind_some, Option.getD_some])
    | refine wo_nil ?_
    | (apply wo_po; apply mo_assign; exact rfl; (first | exact trivial | exact rfl)))
  refine wo_call .nil trivial awake_tr ?_
  rintro v1 L1 x1 ⟨rfl, rfl, rfl⟩
  repeat (first
    | refine we_seq ?_
    | (refine we_region _ rfl rfl ?_; simp only [opsOf, List.map_cons, List.map_nil, Option.map_none, Option.map_some, List.getElem?_toArray, List.getElem?_cons_zero, List.getElem?_cons_succ, Option.bind_some, Option.getD_some])
    | refine wo_nil ?_
    | (apply wo_po; apply mo_move; exact rfl; (first | exact trivial | exact rfl))
    | (apply wo_po; apply mo_not; exact rfl; (first | exact trivial | exact rfl))
    | (apply wo_po; apply mo_bin; exact rfl; exact rfl; exact bin_gtr; (first | exact trivial | exact rfl))
    | (apply wo_po; apply mo_len; exact rfl; (first | exact trivial | exact rfl))
    | (apply we_condF; exact rfl; (first | exact rfl | (simp <;> omega) | omega))
    | refine we_skip ?_)
  refine we_join (cutInvO L1 (.int .i64 count) (l0.take 2000)) ?_ ?_
  · by_cases hbig : 2000 < l0.length
    · obtain ⟨b, o, rfl, hrd⟩ := hr0.rds (by omega)
      repeat (first
        | (apply wo_po; apply mo_sliceTo (u := 2000); exact rfl; exact rfl; exact rfl; omega; omega; exact trivial)
        | (refine we_region _ rfl rfl ?_; simp only [opsOf, List.map_cons, List.map_nil, Option.map_none, Option.map_some, List.getElem?_toArray, List.getElem?_cons_zero, List.getElem?_cons_succ, Option.bind_some, Option.getD_some])
        | refine wo_nil ?_
        | (apply wo_po; apply mo_move; exact rfl; (first | exact trivial | exact rfl))
        | (apply wo_po; apply mo_assign; exact rfl; (first | exact trivial | exact rfl))
        | (apply we_condT; exact rfl; (first | exact rfl | (simp <;> omega) | omega)))
      refine at_mid (B := mT) (I := cutInvO L1 (.int .i64 count) (l0.take 2000)) (some ⟨b, o, none⟩, 2000, c) ⟨⟨by simp; omega, .inr ⟨b, o, rfl, fun i v hi => ?_⟩⟩, Nat.le_refl _⟩ ?_ .refl rfl
      · have hi' : (ints l0)[i]? = some v := by
          rw [List.getElem?_map] at hi ⊢
          rw [List.getElem?_take] at hi
          split at hi
          · exact hi
          · cases hi
        exact hrd i v hi'
      · exact ⟨rfl, rfl, trivial⟩
    · repeat (first
        | (apply we_condF; exact rfl; (first | exact rfl | (simp <;> omega) | omega))
        | refine we_skip ?_)
      refine at_mid (B := mT) (I := cutInvO L1 (.int .i64 count) (l0.take 2000)) (a, l0.length, c) ⟨by rw [List.take_of_length_le (by omega)]; exact hr0, by show l0.length ≤ 2000; omega⟩ ?_ .refl rfl
      exact ⟨rfl, rfl, trivial⟩
  generalize l0.take 2000 = l
  clear hr0 hb hc0
  rintro ⟨a, n1, c⟩ ⟨hr, hn2⟩
  simp only at hr hn2
  simp only [cutInvO, List.take_succ_cons, List.take_zero]
  have hn1 : n1 = l.length := by have := hr.1; simpa using this
  subst hn1
  repeat (first
    | refine we_seq ?_
    | (refine we_region _ rfl rfl ?_; simp only [opsOf, List.map_cons, List.map_nil, Option.map_none, Option.map_some, List.getElem?_toArray, List.getElem?_cons_zero, List.getElem?_cons_succ, Option.bind_some, Option.getD_some])
    | (apply wo_po; apply mo_move; exact rfl; (first | exact trivial | exact rfl)))
  refine wo_call (.cons rfl (.cons rfl .nil)) trivial (within_tr hcount (by omega)) ?_
  rintro v1 L2 x1 ⟨rfl, rfl, rfl⟩
  have e4 := Int.emod_nonneg count (by decide : (4 : Int) ≠ 0)
  have e4' := Int.emod_lt_of_pos count (by decide : (0 : Int) < 4)
  obtain ⟨n, hn⟩ : ∃ n : Nat, 2 + count % 4 = n := ⟨(2 + count % 4).toNat, by omega⟩
  have hw0 : IntKind.i64.wrap (2 + count % 4) = n := by rw [hn]; exact wrap_i64 (by omega) (by omega)
  repeat (first
    | (apply wo_po; apply mo_bin; exact rfl; exact rfl; apply bin_add; exact hw0; exact trivial)
    | (apply wo_mo; apply mo_alloc; exact trivial)
    | refine we_seq ?_
    | (refine we_region _ rfl rfl ?_; simp only [opsOf, List.map_cons, List.map_nil, Option.map_none, Option.map_some, List.getElem?_toArray, List.getElem?_cons_zero, List.getElem?_cons_succ, Option.bind_some, Option.getD_some])
    | refine wo_nil ?_
    | (apply wo_po; apply mo_assign; exact rfl; (first | exact trivial | exact rfl)))
  rintro v' L' ⟨nb, rfl, rfl⟩
  repeat (first
    | (apply wo_pm; apply mo_store; exact rfl; exact rfl; exact rfl; apply Wt.row0; (repeat (first | exact Foc.here | apply Foc.there)); (first | exact Nat.lt_of_sub_eq_succ rfl | omega); (first | exact trivial | exact rfl))
    | refine we_seq ?_
    | (refine we_region _ rfl rfl ?_; simp only [opsOf, List.map_cons, List.map_nil, Option.map_none, Option.map_some, List.getElem?_toArray, List.getElem?_cons_zero, List.getElem?_cons_succ, Option.bind_some, Option.getD_some])
    | refine wo_nil ?_
    | (apply wo_po; apply mo_assign; exact rfl; (first | exact trivial | exact rfl))
    | refine we_block ?_)
  refine we_star (vec 1 (.slice none 0 0) (List.replicate 0 (alF nb)) :: arr nb 0 [.int .i64 0] :: L2) (fun h st => vec_nil st) ?_
  refine we_loopN (alLoop nb n (.slice a l.length c) L2) (fun i => n - i.1) (0, .slice none 0 0) (Nat.zero_le _) ⟨rfl, rfl, rfl, rfl, rfl, trivial⟩ .refl rfl ?_
  rintro ⟨i, tv⟩ hi
  replace hi : i ≤ n := hi
  simp only [alLoop]
  refine we_pure (of_has .here (vec_shape (by omega))) ?_
  rintro ⟨ta, tn, tc, rfl, htn, _, htz, hty⟩
  have htn : tn = i := by simp at htn; omega
  subst htn
  by_cases hlt : tn < n
  · repeat (first
      | (apply wo_po; apply mo_makeFunc (first := []) (cap := [_]) (vf := []); exact .nil; exact .cons rfl .nil; exact trivial)
      | (apply wo_mo; apply mo_buildSlice (sz := 1) (vs := [alF nb]); exact rfl; exact .cons rfl .nil; exact rfl; (intro v hv; cases (List.mem_singleton.1 hv); exact rfl); omega; exact trivial)
      | (apply wo_po; apply mo_bin; exact rfl; exact rfl; apply bin_lssT; omega; (first | exact trivial | exact rfl))
      | refine we_seq ?_
      | (refine we_region _ rfl rfl ?_; simp only [opsOf, List.map_cons, List.map_nil, Option.map_none, Option.map_some, List.getElem?_toArray, List.getElem?_cons_zero, List.getElem?_cons_succ, Option.bind_some, Option.getD_some])
      | refine wo_nil ?_
      | (apply wo_po; apply mo_move; exact rfl; (first | exact trivial | exact rfl))
      | (apply we_condT; exact rfl; (first | exact rfl | (simp <;> omega) | omega))
      | refine we_skip ?_
      | refine we_block ?_)
    rintro v' L' ⟨nb2, rfl, rfl⟩
    repeat (first
      | (apply wo_mo; apply mo_append (sz := 1) (new := [alF nb]); exact rfl; exact rfl; exact rfl; exact rfl; exact (.there .here); exact rfl; exact .inr ⟨_, _, rfl, Rds.all .here⟩; (intro v hv; cases (List.mem_singleton.1 hv); exact rfl); (simp only [sliceLen]; omega); exact trivial))
    rintro v' L' rfl
    repeat (first
      | (refine we_region _ rfl rfl ?_; simp only [opsOf, List.map_cons, List.map_nil, Option.map_none, Option.map_some, List.getElem?_toArray, List.getElem?_cons_zero, List.getElem?_cons_succ, Option.bind_some, Option.getD_some])
      | refine wo_nil ?_
      | (apply wo_po; apply mo_move; exact rfl; (first | exact trivial | exact rfl))
      | (apply wo_po; apply mo_assign; exact rfl; (first | exact trivial | exact rfl))
      | (apply wo_po; apply mo_bin; exact rfl; exact rfl; apply bin_add; exact wrap_i64 (by omega) (by omega); (first | exact trivial | exact rfl)))
    refine at_round (B := mT) (I := alLoop nb n (.slice a l.length c) L2) (R := fun j => n - j.1 < n - tn) (tn + 1, v') (by show n - (tn + 1) < n - tn; omega) (show tn + 1 ≤ n by omega) ?_ ?_ rfl
    exact ⟨rfl, rfl, rfl, rfl, rfl, trivial⟩
    show Ent _ (vec 1 v' (List.replicate (tn + 1) (alF nb)) :: _)
    rw [List.replicate_succ']
    exact (.take .here (.drop .refl))
  obtain rfl : tn = n := by omega
  have hn5 : tn ≤ 5 := by omega
  have hn2' : 2 ≤ tn := by omega
  obtain ⟨tb, to, rfl⟩ : ∃ b o, ta = some ⟨b, o, none⟩ := by
    cases ta with
    | none => have := htz rfl; omega
    | some y => exact ⟨y.block, y.off, by rw [hty y rfl]⟩
  repeat (first
    | (apply wo_po; apply mo_bin; exact rfl; exact rfl; apply bin_lssF; omega; (first | exact trivial | exact rfl))
    | refine we_seq ?_
    | (refine we_region _ rfl rfl ?_; simp only [opsOf, List.map_cons, List.map_nil, Option.map_none, Option.map_some, List.getElem?_toArray, List.getElem?_cons_zero, List.getElem?_cons_succ, Option.bind_some, Option.getD_some])
    | refine wo_nil ?_
    | (apply wo_po; apply mo_move; exact rfl; (first | exact trivial | exact rfl))
    | (apply we_condF; exact rfl; (first | exact rfl | (simp <;> omega) | omega))
    | refine we_exit ?_)
  refine wo_call (.cons rfl .nil) trivial (ints_tr hr.there.there (by omega)) ?_
  rintro v1 L3 x1 ⟨ib, io, cc, rfl, hcc, rfl, rfl⟩
  repeat (first
    | (apply wo_po; apply mo_move; exact rfl; (first | exact trivial | exact rfl)))
  let L4 : List HProp := vec 1 (.slice (some ⟨ib, io, none⟩) (l.length + 3) cc) (insC l) :: vec 1 (.slice (some ⟨tb, to, none⟩) tn tc) (List.replicate tn (alF nb)) :: L2
  obtain ⟨hAI, hA6, hAc⟩ := al_plays (nb := nb) (n := tn) (by omega) l
  refine wo_call (.cons rfl (.cons rfl .nil)) trivial (tr_star ((alG nb).U (show (alG nb).σ from (0 : Int)) :: all ((List.replicate tn (alT nb)).map Thr.M) :: L4)
    (fun h st => star_map (Ent.star (.take (.there (.there .here)) (.take .here (.take .here .refl))) st) (fun _ z => z) fun _ s1 => star_shut (star_alls (by intro c hc; simp [alT] at hc; rw [hc.2]; intro _; trivial) s1))
    (play_tr (order := l) (ts := List.replicate tn (alT nb)) (s0 := show (alG nb).σ from (0 : Int)) (alIv nb tn) (fun j hj => ?_) al_iv0 alIv_step (fun p h1 h2 => ?_) (fun _ _ _ => trivial)
      (by intro t ht; rw [List.eq_of_mem_replicate ht]; exact al_ok) (by rw [List.length_replicate]; omega) (by rw [List.length_replicate]; omega) (by omega)
      ⟨by simp, .inr ⟨tb, to, rfl, fun i v hi => rd_vec (.there .here) (by simpa [alT] using hi)⟩⟩ (insC_rds .here))) ?_
  · rw [List.take_replicate, al_start]; exact ⟨by show (0 : Int) ≤ 0; decide, by show (0 : Int) ≤ 1000000; decide⟩
  · have := replay_bnd p.tr
    have e := h1.num
    rw [e] at this
    exact ⟨this.1.1, Int.le_trans this.1.2 (by omega)⟩
  rintro v1 L5 x1 ⟨tv, cv, rfl, rfl, rfl⟩
  rw [List.length_replicate]
  generalize hP : playF (List.replicate tn (alT nb)) _ l = p at hAI hA6 hAc ⊢
  rw [hAc]
  obtain ⟨ps, pq, pt⟩ := p
  simp only at hAI hA6 hAc ⊢
  have hpt : pt.length ≤ 30 := by omega
  refine wo_pure (of_has .here (vec_shape (by omega))) ?_
  rintro ⟨a1, n1, c1, rfl, hn1, _, hz1, hy1⟩
  obtain rfl : n1 = pt.length := by rw [trC_len] at hn1; omega
  refine wo_pure (of_has (.there .here) (vec_shape (by omega))) ?_
  rintro ⟨a2, n2, c2, rfl, hn2, _⟩
  obtain rfl : n2 = 0 := by simp [cutC] at hn2; omega
  cases a1 with
  | none => have := hz1 rfl; omega
  | some ad =>
  obtain ⟨tb1, to1, sp⟩ := ad
  have := hy1 _ rfl
  simp only [Addr.mk.injEq, true_and] at this
  subst this
  have hmul : IntKind.i64.wrap (6 * (tn : Int)) = (pt.length : Nat) := by rw [hA6]; rw [wrap_i64 (by omega) (by omega)]; omega
  repeat (first
    | (apply wo_mo; apply mo_alloc; exact trivial)
    | (apply wo_po; apply mo_move; exact rfl; (first | exact trivial | exact rfl))
    | (apply wo_po; apply mo_extract; exact rfl; exact rfl; (first | exact trivial | exact rfl)))
  rintro v' L' ⟨pb, rfl, rfl⟩
  repeat (first
    | (apply wo_pm; apply mo_storeA (c := 0) (k := 0) (a := 0) (vs := [.slice none 0 0, .slice none 0 0]); exact rfl; exact rfl; exact rfl; (intro w hw; simp [Value.cells] at hw; rcases hw with rfl | rfl <;> rfl); exact rfl; exact Nat.le_refl 2; exact .here; exact trivial)
    | (apply wo_po; apply mo_bin; exact rfl; exact rfl; apply bin_mul; exact hmul; (first | exact trivial | exact rfl))
    | (apply wo_po; apply mo_bin; exact rfl; exact rfl; apply bin_neqF; omega; (first | exact trivial | exact rfl))
    | refine we_seq ?_
    | (refine we_region _ rfl rfl ?_; simp only [opsOf, List.map_cons, List.map_nil, Option.map_none, Option.map_some, List.getElem?_toArray, List.getElem?_cons_zero, List.getElem?_cons_succ, Option.bind_some, Option.getD_some])
    | refine wo_nil ?_
    | (apply wo_po; apply mo_move; exact rfl; (first | exact trivial | exact rfl))
    | (apply wo_po; apply mo_assign; exact rfl; (first | exact trivial | exact rfl))
    | (apply wo_po; apply mo_pickF; exact rfl; exact rfl; exact rfl; (first | exact trivial | exact rfl))
    | (apply wo_po; apply mo_fieldAddr; exact rfl; exact rfl; (first | exact Nat.zero_add _ | exact rfl); (first | exact trivial | exact rfl))
    | (apply wo_po; apply mo_load; exact rfl; (repeat (first | exact Rd.row0 rfl | exact Rd.row rfl rfl | exact Rd.still | apply Rd.there)); (first | exact trivial | exact rfl))
    | (apply wo_po; apply mo_len; exact rfl; (first | exact trivial | exact rfl))
    | (apply we_condF; exact rfl; (first | exact rfl | (simp <;> omega) | omega))
    | refine we_skip ?_)
  repeat (first
    | (apply wo_mo; apply mo_make (n := tn); exact rfl; exact rfl; exact rfl; omega; omega; exact trivial))
  rintro v' L' ⟨wb, rfl, rfl⟩
  let L5 : List HProp := arr pb 0 [.slice (some ⟨tb1, to1, none⟩) pt.length c1, .slice a2 0 c2] :: vec 3 (.slice (some ⟨tb1, to1, none⟩) pt.length c1) (trC pt) :: arr nb 0 [.int .i64 ps] :: L4
  refine wo_ent (arr wb 0 (sawC tn (replay (pt.take 0)).2) :: L5) ?_ ?_
  · rw [show sawC tn (replay (pt.take 0)).2 = zeros tn [.int .i64 0] from ?_]
    exact (.take .here (.take .here (.take .here (.drop (.take .here (.drop .refl))))))
    simp [sawC, zeros, replay]
    apply List.ext_getElem?; intro j; by_cases h : j < tn <;> simp [h]
  repeat (first
    | refine we_seq ?_
    | (refine we_region _ rfl rfl ?_; simp only [opsOf, List.map_cons, List.map_nil, Option.map_none, Option.map_some, List.getElem?_toArray, List.getElem?_cons_zero, List.getElem?_cons_succ, Option.bind_some, Option.getD_some])
    | refine wo_nil ?_
    | (apply wo_po; apply mo_assign; exact rfl; (first | exact trivial | exact rfl))
    | refine we_block ?_)
  refine we_loopN (repLoop tn nb pb wb pt L5) (fun i => pt.length - i) 0 (Nat.zero_le _) ⟨rfl, rfl, rfl, rfl, rfl, trivial⟩ .refl rfl ?_
  intro i hi
  replace hi : i ≤ pt.length := hi
  simp only [repLoop]
  by_cases hlt : i < pt.length
  · obtain ⟨t, ht⟩ : ∃ t, pt[i] = t := ⟨_, rfl⟩
    have htk : pt[i]? = some t := by rw [← ht]; exact List.getElem?_eq_getElem hlt
    obtain ⟨hk, hop⟩ := hAI.ths t (by rw [← ht]; exact List.getElem_mem hlt)
    have hsn := replay_snoc (pt.take i) t
    rw [show pt.take i ++ [t] = pt.take (i + 1) from by rw [← ht]; exact (List.take_succ_eq_append_getElem hlt).symm] at hsn
    have hbn := replay_bnd (pt.take i)
    have hbl : ((pt.take i).length : Int) ≤ 30 := by rw [List.length_take]; omega
    obtain ⟨k, op, v⟩ := t
    simp only at hk hsn
    have hbk := hbn.2 k
    have hv : Rds (arr wb 0 (sawC tn (replay (pt.take i)).2) :: L5) tb1 (to1 + i * 3) [.int .i64 (k : Nat), .int .u8 op, .int .i64 v] := by
      intro j w hj
      have hj3 : j < 3 := (List.getElem?_eq_some_iff.1 hj).1
      rw [show to1 + i * 3 + j = to1 + (3 * i + j) by omega]
      exact rd_vec (i := 3 * i + j) (.there (.there .here)) (by unfold trC; rw [flat_get (k := 3) (fun _ => rfl) pt i j _ htk hj3]; exact hj)
    repeat (first
      | (apply wo_po; apply mo_index (sz := 3) (j := i); exact rfl; exact rfl; omega; exact trivial)
      | (apply wo_po; apply mo_loadA (vs := [.int .i64 (k : Nat), .int .u8 op, .int .i64 v]); exact rfl; exact rfl; exact hv; exact trivial)
      | (apply wo_mo; apply mo_alloc; exact trivial)
      | (apply wo_po; apply mo_bin; exact rfl; exact rfl; apply bin_lssT; omega; (first | exact trivial | exact rfl))
      | refine we_seq ?_
      | (refine we_region _ rfl rfl ?_; simp only [opsOf, List.map_cons, List.map_nil, Option.map_none, Option.map_some, List.getElem?_toArray, List.getElem?_cons_zero, List.getElem?_cons_succ, Option.bind_some, Option.getD_some])
      | refine wo_nil ?_
      | (apply wo_po; apply mo_move; exact rfl; (first | exact trivial | exact rfl))
      | (apply wo_po; apply mo_fieldAddr; exact rfl; exact rfl; (first | exact Nat.zero_add _ | exact rfl); (first | exact trivial | exact rfl))
      | (apply wo_po; apply mo_load; exact rfl; (repeat (first | exact Rd.row0 rfl | exact Rd.row rfl rfl | exact Rd.still | apply Rd.there)); (first | exact trivial | exact rfl))
      | (apply wo_po; apply mo_len; exact rfl; (first | exact trivial | exact rfl))
      | (apply we_condT; exact rfl; (first | exact rfl | (simp <;> omega) | omega))
      | refine we_skip ?_
      | refine we_block ?_)
    rintro v' L' ⟨xb, rfl, rfl⟩
    have hL : (sawC tn (replay (pt.take i)).2).length = tn := by simp [sawC]
    rcases hop with hop | hop
    · obtain ⟨rfl, rfl⟩ : op = 1 ∧ v = 0 := ⟨congrArg Prod.fst hop, congrArg Prod.snd hop⟩
      rw [if_pos rfl] at hsn
      repeat (first
        | (apply wo_pm; apply mo_storeA (c := 0) (k := 0) (a := 0) (vs := [.int .i64 0, .int .u8 0, .int .i64 0]); exact rfl; exact rfl; exact rfl; (intro w hw; simp [Value.cells] at hw; rcases hw with rfl | rfl | rfl <;> rfl); exact rfl; exact Nat.le_refl 3; exact .here; exact trivial)
        | (apply wo_po; apply mo_index1 (j := k); exact rfl; exact rfl; omega; exact trivial)
        | (apply wo_pm; apply mo_store; exact rfl; exact rfl; exact rfl; refine Wt.row (vs := sawC tn (replay (pt.take i)).2) (k := k) (by rw [hL]; exact hk) rfl (.there .here); exact trivial)
        | (apply wo_po; apply mo_bin; exact rfl; exact rfl; apply bin_eqlT; omega; (first | exact trivial | exact rfl))
        | refine we_seq ?_
        | (refine we_region _ rfl rfl ?_; simp only [opsOf, List.map_cons, List.map_nil, Option.map_none, Option.map_some, List.getElem?_toArray, List.getElem?_cons_zero, List.getElem?_cons_succ, Option.bind_some, Option.getD_some])
        | refine wo_nil ?_
        | (apply wo_po; apply mo_move; exact rfl; (first | exact trivial | exact rfl))
        | (apply wo_po; apply mo_assign; exact rfl; (first | exact trivial | exact rfl))
        | (apply wo_po; apply mo_fieldAddr; exact rfl; exact rfl; (first | exact Nat.zero_add _ | exact rfl); (first | exact trivial | exact rfl))
        | (apply wo_po; apply mo_load; exact rfl; (repeat (first | exact Rd.row0 rfl | exact Rd.row rfl rfl | exact Rd.still | apply Rd.there)); (first | exact trivial | exact rfl))
        | (apply wo_po; apply mo_bin; exact rfl; exact rfl; apply bin_add; exact wrap_i64 (by omega) (by omega); (first | exact trivial | exact rfl))
        | (apply we_condT; exact rfl; (first | exact rfl | (simp <;> omega) | omega)))
      rw [sawC_set]
      refine at_round (B := mT) (I := repLoop tn nb pb wb pt L5) (R := fun j => pt.length - j < pt.length - i) (i + 1) (by omega) (show i + 1 ≤ pt.length by omega) ?_ ?_ rfl
      · simp only [repLoop]; rw [hsn]; exact ⟨rfl, rfl, rfl, rfl, rfl, trivial⟩
      · simp only [repLoop]; rw [hsn]; exact (.drop (.take .here .refl))
    · obtain ⟨rfl, rfl⟩ : op = 2 ∧ v = 0 := ⟨congrArg Prod.fst hop, congrArg Prod.snd hop⟩
      rw [if_neg (by decide)] at hsn
      have hw : IntKind.i64.wrap ((replay (pt.take i)).2 k + 1) = (replay (pt.take i)).2 k + 1 := wrap_i64 (by omega) (by omega)
      repeat (first
        | (apply wo_pm; apply mo_storeA (c := 0) (k := 0) (a := 0) (vs := [.int .i64 0, .int .u8 0, .int .i64 0]); exact rfl; exact rfl; exact rfl; (intro w hw; simp [Value.cells] at hw; rcases hw with rfl | rfl | rfl <;> rfl); exact rfl; exact Nat.le_refl 3; exact .here; exact trivial)
        | (apply wo_po; apply mo_index1 (j := k); exact rfl; exact rfl; omega; exact trivial)
        | (apply wo_po; apply mo_load; exact rfl; exact Rd.there (Rd.row (vs := sawC tn (replay (pt.take i)).2) (k := k) (v := .int .i64 ((replay (pt.take i)).2 k)) (by simp [sawC, hk]) rfl); exact trivial)
        | (apply wo_po; apply mo_bin; exact rfl; exact rfl; apply bin_add; exact hw; exact trivial)
        | (apply wo_po; apply mo_bin; exact rfl; exact rfl; apply bin_eqlF; omega; (first | exact trivial | exact rfl))
        | refine we_seq ?_
        | (refine we_region _ rfl rfl ?_; simp only [opsOf, List.map_cons, List.map_nil, Option.map_none, Option.map_some, List.getElem?_toArray, List.getElem?_cons_zero, List.getElem?_cons_succ, Option.bind_some, Option.getD_some])
        | refine wo_nil ?_
        | (apply wo_po; apply mo_move; exact rfl; (first | exact trivial | exact rfl))
        | (apply wo_po; apply mo_assign; exact rfl; (first | exact trivial | exact rfl))
        | (apply wo_po; apply mo_fieldAddr; exact rfl; exact rfl; (first | exact Nat.zero_add _ | exact rfl); (first | exact trivial | exact rfl))
        | (apply wo_po; apply mo_load; exact rfl; (repeat (first | exact Rd.row0 rfl | exact Rd.row rfl rfl | exact Rd.still | apply Rd.there)); (first | exact trivial | exact rfl))
        | (apply wo_po; apply mo_bin; exact rfl; exact rfl; apply bin_add; exact wrap_i64 (by omega) (by omega); (first | exact trivial | exact rfl))
        | (apply we_condF; exact rfl; (first | exact rfl | (simp <;> omega) | omega)))
      refine at_round (B := mT) (I := repLoop tn nb pb wb pt L5) (R := fun j => pt.length - j < pt.length - i) (i + 1) (by omega) (show i + 1 ≤ pt.length by omega) ?_ ?_ rfl
      · simp only [repLoop]; rw [hsn]; exact ⟨rfl, rfl, rfl, rfl, rfl, trivial⟩
      · simp only [repLoop]; rw [hsn]; exact (.drop (.take .here .refl))
  obtain rfl : i = pt.length := by omega
  rw [List.take_length, hAI.num]
  have hb := replay_bnd pt
  repeat (first
    | (apply wo_po; apply mo_bin; exact rfl; exact rfl; apply bin_lssF; omega; (first | exact trivial | exact rfl))
    | (apply wo_po; apply mo_bin; exact rfl; exact rfl; apply bin_eqlT; omega; (first | exact trivial | exact rfl))
    | refine we_seq ?_
    | (refine we_region _ rfl rfl ?_; simp only [opsOf, List.map_cons, List.map_nil, Option.map_none, Option.map_some, List.getElem?_toArray, List.getElem?_cons_zero, List.getElem?_cons_succ, Option.bind_some, Option.getD_some])
    | refine wo_nil ?_
    | (apply wo_po; apply mo_move; exact rfl; (first | exact trivial | exact rfl))
    | (apply wo_po; apply mo_assign; exact rfl; (first | exact trivial | exact rfl))
    | (apply wo_po; apply mo_fieldAddr; exact rfl; exact rfl; (first | exact Nat.zero_add _ | exact rfl); (first | exact trivial | exact rfl))
    | (apply wo_po; apply mo_load; exact rfl; (repeat (first | exact Rd.row0 rfl | exact Rd.row rfl rfl | exact Rd.still | apply Rd.there)); (first | exact trivial | exact rfl))
    | (apply wo_po; apply mo_len; exact rfl; (first | exact trivial | exact rfl))
    | (apply we_condF; exact rfl; (first | exact rfl | (simp <;> omega) | omega))
    | refine we_ret ?_
    | refine we_exit ?_)
  (first | refine at_ret1 (ex := .ret) Try.func6 Try.results6 hQ (.inl rfl) rfl ?_ | refine at_ret1 (ex := .normal) Try.func6 Try.results6 hQ (.inr rfl) rfl ?_)
  exact ⟨by simp, rfl⟩
end Go.Proofs.Ytabbkjciifnehaa
