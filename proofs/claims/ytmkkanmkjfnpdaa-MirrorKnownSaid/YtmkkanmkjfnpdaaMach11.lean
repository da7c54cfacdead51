/-
  patchbayref00's CopyWords and World.Copy.
-/
import Derived.Test.YtmkkanmkjfnpdaaMach10
set_option linter.unusedVariables false
set_option linter.unusedSimpArgs false
namespace Go.Proofs.Ytmkkanmkjfnpdaa
open Go Go.PB
attribute [local irreducible] Mo Bin Eql Tr Wo Ap

variable {B : Hand} [Lets B] {L F G : List HProp} {x : B.X}

theorem set_same {α : Type} {l : List α} {i : Nat} {a : α} (h : l[i]? = some a) : l.set i a = l := by
  apply List.ext_getElem?
  intro j
  rw [List.getElem?_set]
  by_cases e : i = j
  · subst e; rw [if_pos rfl, if_pos (List.getElem?_eq_some_iff.1 h).1, h]
  · rw [if_neg e]

theorem one_num {l : List Nat} : ∀ w ∈ l.map num, one w = true := by
  intro w hw
  obtain ⟨v, _, rfl⟩ := List.mem_map.1 hw
  rfl

theorem copy_words_tr {a : Option Addr} {n c : Nat} {l : List Nat} (hn : n = l.length) (hl : l.length < 1000000) (hr : (a = none ∧ n = 0) ∨ ∃ b o, a = some ⟨b, o, none⟩ ∧ ∀ i v, l[i]? = some v → Rd L b (o + i) (num v)) :
    Tr Try.prog B 89 [.slice a n c] L x fun v L' x' => L' = vec 1 v (l.map num) :: L ∧ x' = x := by
  subst hn
  refine tr_star (vec 1 (.slice none 0 0) [] :: L) (fun h st => vec_nil st) ?_
  have hr' : (a = none ∧ l.length = 0) ∨ ∃ b o, a = some ⟨b, o, none⟩ ∧ Rds (vec 1 (.slice none 0 0) [] :: L) b o (l.map num) := by
    rcases hr with h | ⟨b, o, h1, h2⟩
    · exact .inl h
    · refine .inr ⟨b, o, h1, fun i v hi => .there ?_⟩
      rw [List.getElem?_map] at hi
      cases h : l[i]? with
      | none => rw [h] at hi; cases hi
      | some u => rw [h] at hi; cases hi; exact h2 i u h
  refine tr_of_body Try.func89 rfl Try.ntmps89 (by simp) fun um Q hQ => ?_
  simp only [argE, Nat.zero_add, Nat.reduceAdd]
  repeat (first
    | (apply wo_mo; apply mo_append (sz := 1) (new := l.map num); exact rfl; exact rfl; exact rfl; exact rfl; exact .here; (simp); exact hr'; exact one_num; (simp only [sliceLen]; omega); exact trivial)
    | refine we_seq ?_
    | (refine we_region _ rfl rfl ?_; simp only [opsOf, List.map_cons, List.map_nil, Option.map_none, Option.map_some, List.getElem?_toArray, List.getElem?_cons_zero, List.getElem?_cons_succ, Option.bind_some, Option.getD_some])
    | refine wo_nil ?_
    | (apply wo_po; apply mo_move; exact rfl; (first | exact trivial | exact rfl))
    | (apply wo_po; apply mo_assign; exact rfl; (first | exact trivial | exact rfl)))
  rintro v' L' rfl
  repeat (first
    | refine wo_nil ?_
    | (apply wo_po; apply mo_assign; exact rfl; (first | exact trivial | exact rfl))
    | refine we_ret ?_)
  (first | refine at_ret1 (ex := .ret) Try.func89 Try.results89 hQ (.inl rfl) rfl ?_ | refine at_ret1 (ex := .normal) Try.func89 Try.results89 hQ (.inr rfl) rfl ?_)
  exact ⟨rfl, rfl⟩

/-- a world, behind its two slices -/
def wvC (wv lv : Value) (w : Mach.Wd) : HProp := fun h => ∃ wl : List (Value × List Nat), wl.map (·.2) = w.words ∧ w.ok ∧ all (wdB wv lv wl w.nl) h

omit [Lets B] in
theorem wv_close {wv lv : Value} {w : Mach.Wd} {wl : List (Value × List Nat)} (h1 : wl.map (·.2) = w.words) (h2 : w.ok) {h : Hp} (s : Star (wdB wv lv wl w.nl ++ F) h) : Star (wvC wv lv w :: F) h :=
  star_map (star_shut s) (fun _ z => ⟨wl, h1, h2, z⟩) (fun _ z => z)

omit [Lets B] in
theorem wv_shut {wv lv : Value} {w : Mach.Wd} {wl : List (Value × List Nat)} {lw : List Value} (h1 : wl.map (·.2) = w.words) (h2 : w.ok) (h3 : lw.length = w.nl) {h : Hp} (s : Star (vec 1 lv lw :: all (lw.map lstT) :: vec 1 wv (wl.map (·.1)) :: all (wl.map rowT) :: F) h) : Star (wvC wv lv w :: F) h := by
  have s1 : Star (lstC lv w.nl :: vec 1 wv (wl.map (·.1)) :: all (wl.map rowT) :: F) h := star_map (star_shut (M := [_, _]) s) (fun _ z => ⟨lw, h3, z⟩) (fun _ z => z)
  exact wv_close h1 h2 (star_swap s1)

/-- ahead of a round over the rows -/
def copyInv1 (b1 b2 b3 : Nat) (wv lv : Value) (wl : List (Value × List Nat)) (x : B.X) (F : List HProp) : Inv (Nat × Value × List (Value × List Nat)) B.X where
  e := fun i => [(1, .pointer (some ⟨b1, 0, none⟩)), (2, .pointer (some ⟨b2, 0, none⟩)), (3, .pointer (some ⟨b3, 0, none⟩)), (4, .int .i64 (i.1 : Nat))]
  L := fun i => arr b3 0 [i.2.1, .slice none 0 0] :: vec 1 i.2.1 (i.2.2.map (·.1)) :: all (i.2.2.map rowT) :: arr b1 0 [wv, lv] :: arr b2 0 [.slice none 0 0, .slice none 0 0] :: vec 1 wv (wl.map (·.1)) :: all (wl.map rowT) :: F
  x := fun _ => x
  ok := fun i => i.1 ≤ wl.length ∧ i.2.2.map (·.2) = (wl.map (·.2)).take i.1

/-- ahead of a round over the lists -/
def copyInv2 (b1 b2 b3 : Nat) (wv lv ov : Value) (lw : List Value) (x : B.X) (F : List HProp) : Inv (Nat × Value × List Value) B.X where
  e := fun i => [(1, .pointer (some ⟨b1, 0, none⟩)), (2, .pointer (some ⟨b2, 0, none⟩)), (3, .pointer (some ⟨b3, 0, none⟩)), (5, .int .i64 (i.1 : Nat))]
  L := fun i => arr b3 0 [ov, i.2.1] :: vec 1 i.2.1 i.2.2 :: all (i.2.2.map lstT) :: arr b1 0 [wv, lv] :: arr b2 0 [.slice none 0 0, .slice none 0 0] :: vec 1 lv lw :: all (lw.map lstT) :: F
  x := fun _ => x
  ok := fun i => i.1 ≤ lw.length ∧ i.2.2.length = i.1

set_option maxHeartbeats 4000000 in
theorem copy_tr {wv lv : Value} {w : Mach.Wd} (hh : Has L (wvC wv lv w) F) :
    Tr Try.prog B 59 [.agg #[wv, lv]] L x fun v L' x' => ∃ wv' lv', v = .agg #[wv', lv'] ∧ L' = wvC wv' lv' w :: wvC wv lv w :: F ∧ x' = x := by
  refine tr_ex hh fun (wl : List (Value × List Nat)) => tr_and .here fun e1 => tr_and .here fun hok => tr_star (vec 1 wv (wl.map fun (z : Value × List Nat) => z.1) :: lstC lv w.nl :: all (wl.map rowT) :: F) (fun h st => star_open st) ?_
  refine tr_ex (c := fun lw h => lw.length = w.nl ∧ all [vec 1 lv lw, all (lw.map lstT)] h) (.there .here) fun lw => tr_and .here fun hlw => tr_star (vec 1 lv lw :: all (lw.map lstT) :: vec 1 wv (wl.map fun (z : Value × List Nat) => z.1) :: all (wl.map rowT) :: F) (fun h st => star_open st) ?_
  refine Tr.post (R := fun v L' x' => ∃ wv' lv', v = .agg #[wv', lv'] ∧ x' = x ∧ ∀ h, Star L' h → Star (wvC wv' lv' w :: wvC wv lv w :: F) h) ?_ (by rintro v L' x' ⟨wv', lv', rfl, rfl, hs⟩; exact ⟨_, ⟨wv', lv', rfl, rfl, rfl⟩, hs⟩)
  refine tr_star (vec 1 wv (wl.map (·.1)) :: all (wl.map rowT) :: vec 1 lv lw :: all (lw.map lstT) :: F) (fun h st => ?_) ?_
  · refine Ent.star ?_ st
    exact .take (.there (.there .here)) (.take (.there (.there .here)) (.take .here (.take .here .refl)))
  have hwn : wl.length < 1000000 := by have := hok.n; rw [← e1, List.length_map] at this; exact this
  have hln : lw.length < 1000000 := by have := hok.nl; omega
  refine tr_pure (of_has .here (vec_shape (by omega))) ?_
  rintro ⟨va, vn, vc, rfl, hvn, _, hva, hva2⟩
  have hvnn : vn = wl.length := by simpa using hvn.symm
  subst hvnn
  refine tr_pure (of_has (.there (.there .here)) (vec_shape (by omega))) ?_
  rintro ⟨la, ln, lc, rfl, hlln, _, hla, hla2⟩
  have hlnn : ln = lw.length := by simpa using hlln.symm
  subst hlnn
  refine tr_of_body Try.func59 rfl Try.ntmps59 (by simp) fun um Q hQ => ?_
  simp only [argE, Nat.zero_add, Nat.reduceAdd]
  repeat (first
    | (apply wo_mo; apply mo_box; exact rfl; exact trivial)
    | refine we_seq ?_
    | (refine we_region _ rfl rfl ?_; simp only [opsOf, List.map_cons, List.map_nil, Option.map_none, Option.map_some, List.getElem?_toArray, List.getElem?_cons_zero, List.getElem?_cons_succ, Option.bind_some, Option.getD_some]))
  rintro v' L' ⟨b1, rfl, rfl⟩
  repeat (first
    | (apply wo_mo; apply mo_alloc; exact trivial))
  rintro v' L' ⟨b2, rfl, rfl⟩
  repeat (first
    | (apply wo_mo; apply mo_alloc; exact trivial)
    | refine we_seq ?_
    | (refine we_region _ rfl rfl ?_; simp only [opsOf, List.map_cons, List.map_nil, Option.map_none, Option.map_some, List.getElem?_toArray, List.getElem?_cons_zero, List.getElem?_cons_succ, Option.bind_some, Option.getD_some])
    | refine wo_nil ?_)
  rintro v' L' ⟨b3, rfl, rfl⟩
  repeat (first
    | refine we_seq ?_
    | (refine we_region _ rfl rfl ?_; simp only [opsOf, List.map_cons, List.map_nil, Option.map_none, Option.map_some, List.getElem?_toArray, List.getElem?_cons_zero, List.getElem?_cons_succ, Option.bind_some, Option.getD_some])
    | refine wo_nil ?_
    | (apply wo_po; apply mo_assign; exact rfl; (first | exact trivial | exact rfl)))
  refine we_block ?_
  refine we_star ((copyInv1 b1 b2 b3 (.slice va wl.length vc) (.slice la lw.length lc) wl x (vec 1 (.slice la lw.length lc) lw :: all (lw.map lstT) :: F)).L (0, .slice none 0 0, [])) (fun h st => ?_) ?_
  · have st2 : Star (arr b3 0 [.slice none 0 0, .slice none 0 0] :: arr b1 0 [.slice va wl.length vc, .slice la lw.length lc] :: arr b2 0 [.slice none 0 0, .slice none 0 0] :: vec 1 (.slice va wl.length vc) (wl.map (·.1)) :: all (wl.map rowT) :: vec 1 (.slice la lw.length lc) lw :: all (lw.map lstT) :: F) h := by
      refine Ent.star ?_ st
      exact .take .here (.take (.there .here) (.take .here .refl))
    exact star_map st2 (fun _ z => z) (fun _ z => vec_nil (star_shut (M := []) z))
  refine we_loopN (copyInv1 b1 b2 b3 (.slice va wl.length vc) (.slice la lw.length lc) wl x (vec 1 (.slice la lw.length lc) lw :: all (lw.map lstT) :: F)) (fun i => wl.length - i.1) (0, .slice none 0 0, []) ⟨by simp, by simp⟩ ⟨rfl, rfl, rfl, rfl, trivial⟩ .refl rfl ?_
  rintro ⟨i, ov, nw⟩ ⟨hi, hnw⟩
  dsimp only [copyInv1] at hi hnw ⊢
  by_cases hc : i < wl.length
  · obtain ⟨⟨iv, l⟩, hwl⟩ : ∃ z, wl[i]? = some z := ⟨wl[i], by simp [hc]⟩
    have hlm : l ∈ w.words := by rw [← e1]; exact List.mem_map.2 ⟨_, List.mem_of_getElem? hwl, rfl⟩
    have hll := hok.len _ hlm
    refine we_pure (of_has (.there .here) (vec_shape (by omega))) ?_
    rintro ⟨oa, on, oc, rfl, hon, _, _, _⟩
    have honn : on = nw.length := by simpa using hon.symm
    subst honn
    have hnwl : nw.length = i := by have := congrArg List.length hnw; simpa [Nat.min_eq_left hi] using this
    obtain ⟨⟨vb, vo, sp⟩, rfl⟩ : ∃ z, va = some z := by
      cases va with
      | none => have : wl.length = 0 := hva rfl; omega
      | some z => exact ⟨z, rfl⟩
    cases hva2 _ rfl
    obtain ⟨R, hR⟩ : ∃ R, R = all (nw.map rowT) :: all ((wl.map rowT).eraseIdx i) :: vec 1 (.slice la lw.length lc) lw :: all (lw.map lstT) :: F := ⟨_, rfl⟩
    refine we_star (arr b3 0 [.slice oa nw.length oc, .slice none 0 0] :: vec 1 (.slice oa nw.length oc) (nw.map (·.1)) :: arr b1 0 [.slice (some ⟨vb, vo, none⟩) wl.length vc, .slice la lw.length lc] :: arr b2 0 [.slice none 0 0, .slice none 0 0] :: vec 1 (.slice (some ⟨vb, vo, none⟩) wl.length vc) (wl.map (·.1)) :: rowT (iv, l) :: R) (fun h st => ?_) ?_
    · rw [hR]
      have s1 : Star (all (wl.map rowT) :: arr b3 0 [.slice oa nw.length oc, .slice none 0 0] :: vec 1 (.slice oa nw.length oc) (nw.map (·.1)) :: arr b1 0 [.slice (some ⟨vb, vo, none⟩) wl.length vc, .slice la lw.length lc] :: arr b2 0 [.slice none 0 0, .slice none 0 0] :: vec 1 (.slice (some ⟨vb, vo, none⟩) wl.length vc) (wl.map (·.1)) :: all (nw.map rowT) :: vec 1 (.slice la lw.length lc) lw :: all (lw.map lstT) :: F) h := by
        refine Ent.star ?_ st
        exact .take (.there (.there (.there (.there (.there (.there .here)))))) (.take .here (.take .here (.take (.there .here) (.take (.there .here) (.take (.there .here) (.take .here .refl))))))
      have s2 := star_pick (i := i) (c := rowT (iv, l)) (by rw [List.getElem?_map, hwl]; rfl) s1
      refine Ent.star ?_ s2
      exact .take (.there (.there .here)) (.take (.there (.there .here)) (.take (.there (.there .here)) (.take (.there (.there .here)) (.take (.there (.there .here)) (.take .here (.take (.there .here) (.take .here .refl)))))))
    refine we_pure (of_has (.there (.there (.there (.there (.there .here))))) (vec_shape (by omega))) ?_
    rintro ⟨ia, inn, ic, hiv, hin, _, hia, hia2⟩
    dsimp only at hiv hin
    subst hiv
    have hinn : inn = l.length := by simpa using hin.symm
    subst hinn
    repeat (first
      | (apply wo_po; apply mo_bin; exact rfl; exact rfl; apply bin_lssT; omega; (first | exact trivial | exact rfl))
      | refine we_seq ?_
      | (refine we_region _ rfl rfl ?_; simp only [opsOf, List.map_cons, List.map_nil, Option.map_none, Option.map_some, List.getElem?_toArray, List.getElem?_cons_zero, List.getElem?_cons_succ, Option.bind_some, Option.getD_some])
      | refine wo_nil ?_
      | (apply wo_po; apply mo_move; exact rfl; (first | exact trivial | exact rfl))
      | (apply wo_po; apply mo_fieldAddr; exact rfl; exact rfl; (first | exact Nat.zero_add _ | exact rfl); (first | exact trivial | exact rfl))
      | (apply wo_po; apply mo_load; exact rfl; (repeat (first | exact Rd.row0 rfl | exact Rd.row rfl rfl | exact Rd.still | apply Rd.there)); (first | exact trivial | exact rfl))
      | (apply wo_po; apply mo_len; exact rfl; (first | exact trivial | exact rfl))
      | (apply we_condT; exact rfl; (first | exact rfl | (simp <;> omega) | omega))
      | refine we_skip ?_
      | refine we_block ?_)
    have hiv : Rd (arr b3 0 [.slice oa nw.length oc, .slice none 0 0] :: vec 1 (.slice oa nw.length oc) (nw.map (·.1)) :: arr b1 0 [.slice (some ⟨vb, vo, none⟩) wl.length vc, .slice la lw.length lc] :: arr b2 0 [.slice none 0 0, .slice none 0 0] :: vec 1 (.slice (some ⟨vb, vo, none⟩) wl.length vc) (wl.map (·.1)) :: rowT (.slice ia l.length ic, l) :: R) vb (vo + i) (.slice ia l.length ic) := rd_vec (.there (.there (.there (.there .here)))) (by rw [List.getElem?_map, hwl]; rfl)
    have hcw : (ia = none ∧ l.length = 0) ∨ ∃ b o, ia = some ⟨b, o, none⟩ ∧ ∀ j v, l[j]? = some v → Rd (arr b3 0 [.slice oa nw.length oc, .slice none 0 0] :: vec 1 (.slice oa nw.length oc) (nw.map (·.1)) :: arr b1 0 [.slice (some ⟨vb, vo, none⟩) wl.length vc, .slice la lw.length lc] :: arr b2 0 [.slice none 0 0, .slice none 0 0] :: vec 1 (.slice (some ⟨vb, vo, none⟩) wl.length vc) (wl.map (·.1)) :: rowT (.slice ia l.length ic, l) :: R) b (o + j) (num v) := by
      cases ia with
      | none => exact .inl ⟨rfl, hia rfl⟩
      | some z =>
        obtain ⟨b, o, sp⟩ := z
        cases hia2 _ rfl
        exact .inr ⟨b, o, rfl, fun j v hj => rd_vec (.there (.there (.there (.there (.there .here))))) (by rw [List.getElem?_map, hj]; rfl)⟩
    have hov : ∀ {L : List HProp}, Rd (arr b3 0 [.slice oa nw.length oc, .slice none 0 0] :: L) b3 0 (.slice oa nw.length oc) := fun {L} => Rd.row0 rfl
    refine we_draw (List.range' 0 12) (by kernel_rfl) ?_
    repeat (first
      | (apply ap_pure; exact rfl; exact rfl; exact trivial; intro L; apply mo_index1; exact rfl; exact rfl; omega)
      | (apply ap_read; exact rfl; exact rfl; exact trivial; apply mo_load; exact rfl; exact hiv)
      | (apply ap_pure; exact rfl; exact rfl; (first | exact trivial | exact rfl); intro L; apply mo_move; exact rfl)
      | (apply ap_pure; exact rfl; exact rfl; (first | exact trivial | exact rfl); intro L; apply mo_fieldAddr; exact rfl; exact rfl; (first | exact Nat.zero_add _ | exact rfl))
      | (apply ap_read; exact rfl; exact rfl; (first | exact trivial | exact rfl); apply mo_load; exact rfl; (repeat (first | exact Rd.row0 rfl | exact Rd.row rfl rfl | exact Rd.still | apply Rd.there))))
    refine ap_callR rfl rfl rfl trivial rfl rfl (.cons rfl .nil) (copy_words_tr rfl hll hcw) ?_ ?_
    · rintro v L' x' ⟨rfl, rfl⟩ q hq
      replace hq := (List.mem_filter.1 hq).1
      simp only [List.mem_cons, List.not_mem_nil, or_false] at hq
      rcases hq with rfl | rfl | rfl | rfl | rfl | rfl | rfl <;> first | exact .inl rfl | exact .inr ⟨_, rfl, trivial, mo_load rfl (Rd.there hov)⟩ | exact .inr ⟨_, rfl, trivial, mo_load rfl (Rd.there hiv)⟩ | exact .inr ⟨_, rfl, trivial, mo_load rfl (Rd.there (.there (.there (Rd.row0 rfl))))⟩
    rintro v L' x' ⟨rfl, rfl⟩
    refine ap_know (of_has .here (vec_shape (by omega))) ?_
    rintro ⟨ca, cn, cc, rfl, _⟩
    refine ap_loudR rfl rfl rfl rfl trivial (mo_buildSlice (sz := 1) (vs := [.slice ca cn cc]) rfl (.cons rfl .nil) rfl (by intro v hv; cases (List.mem_singleton.1 hv); exact rfl) (by omega)) ?_ ?_
    · rintro v L' ⟨sb, rfl, rfl⟩ q hq
      replace hq := (List.mem_filter.1 (List.mem_filter.1 hq).1).1
      simp only [List.mem_cons, List.not_mem_nil, or_false] at hq
      rcases hq with rfl | rfl | rfl | rfl | rfl | rfl | rfl <;> first | exact .inl rfl | exact .inr ⟨_, rfl, trivial, mo_load rfl (Rd.there (Rd.there hov))⟩ | exact .inr ⟨_, rfl, trivial, mo_load rfl (Rd.there (Rd.there hiv))⟩ | exact .inr ⟨_, rfl, trivial, mo_load rfl (Rd.there (Rd.there (.there (.there (Rd.row0 rfl)))))⟩
    rintro v L' ⟨sb, rfl, rfl⟩
    refine ap_loud rfl rfl rfl rfl rfl trivial (mo_append (sz := 1) (new := [.slice ca cn cc]) rfl rfl rfl rfl (.there (.there (.there .here))) rfl (.inr ⟨_, _, rfl, Rds.all .here⟩) (by intro v hv; cases (List.mem_singleton.1 hv); exact rfl) (by simp only [sliceLen]; omega)) ?_
    rintro v' L' rfl
    refine ap_know (of_has .here (vec_shape (by omega))) ?_
    rintro ⟨qa, ql, qc, rfl, _⟩
    repeat (first
      | (apply ap_pure; exact rfl; exact rfl; (first | exact trivial | exact rfl); intro L; apply mo_fieldAddr; exact rfl; exact rfl; (first | exact Nat.zero_add _ | exact rfl)))
    refine ap_loud rfl rfl rfl rfl rfl trivial (mo_store rfl rfl rfl (Wt.row0 (k := 0) (.there (.there (.there .here))) (Nat.succ_pos 1))) ?_
    rintro v' L' ⟨rfl, rfl⟩
    refine ap_end ?_
    repeat (first
      | (refine we_region _ rfl rfl ?_; simp only [opsOf, List.map_cons, List.map_nil, Option.map_none, Option.map_some, List.getElem?_toArray, List.getElem?_cons_zero, List.getElem?_cons_succ, Option.bind_some, Option.getD_some])
      | refine wo_nil ?_
      | (apply wo_po; apply mo_move; exact rfl; (first | exact trivial | exact rfl))
      | (apply wo_po; apply mo_assign; exact rfl; (first | exact trivial | exact rfl))
      | (apply wo_po; apply mo_bin; exact rfl; exact rfl; apply bin_add; exact wrap_i64 (by omega) (by omega); (first | exact trivial | exact rfl)))
    refine at_roundS (I := copyInv1 b1 b2 b3 (.slice (some ⟨vb, vo, none⟩) wl.length vc) (.slice la lw.length lc) wl x' (vec 1 (.slice la lw.length lc) lw :: all (lw.map lstT) :: F)) (R := fun i' => wl.length - i'.1 < wl.length - i) (i + 1, .slice qa ql qc, nw ++ [(.slice ca cn cc, l)]) (by simp only; omega) ⟨by simp only; omega, ?_⟩ ⟨rfl, rfl, rfl, rfl, trivial⟩ (fun h st => ?_) rfl
    · simp only [List.map_append, List.map_cons, List.map_nil, hnw]
      rw [List.take_add_one, List.getElem?_map, hwl]; rfl
    · dsimp only [copyInv1]
      rw [hR] at st
      have s1 : Star (rowT (.slice ia l.length ic, l) :: all ((wl.map rowT).eraseIdx i) :: vec 1 (.slice ca cn cc) (l.map num) :: all (nw.map rowT) :: arr b3 0 [.slice qa ql qc, .slice none 0 0] :: vec 1 (.slice qa ql qc) (nw.map (·.1) ++ [.slice ca cn cc]) :: arr b1 0 [.slice (some ⟨vb, vo, none⟩) wl.length vc, .slice la lw.length lc] :: arr b2 0 [.slice none 0 0, .slice none 0 0] :: vec 1 (.slice (some ⟨vb, vo, none⟩) wl.length vc) (wl.map (·.1)) :: vec 1 (.slice la lw.length lc) lw :: all (lw.map lstT) :: F) h := by
        refine Ent.star ?_ st
        exact .take (.there (.there (.there (.there (.there (.there (.there .here))))))) (.take (.there (.there (.there (.there (.there (.there (.there (.there .here)))))))) (.take (.there (.there .here)) (.take (.there (.there (.there (.there (.there (.there .here)))))) (.take (.there (.there .here)) (.take .here (.take (.there .here) (.take (.there .here) (.take (.there .here) (.drop .refl)))))))))
      have s2 := star_put (M := wl.map rowT) (c := rowT (.slice ia l.length ic, l)) (by simpa using hc) s1
      rw [show (wl.map rowT).set i (rowT (.slice ia l.length ic, l)) = wl.map rowT from set_same (by rw [List.getElem?_map, hwl]; rfl)] at s2
      have s3 := star_swap s2
      have s4 : Star (all (nw.map rowT ++ [rowT (.slice ca cn cc, l)]) :: _) h := star_push (star_map s3 (fun _ z => z) (fun _ z => star_swap z))
      simp only [List.map_append, List.map_cons, List.map_nil]
      refine Ent.star ?_ s4
      exact .take (.there (.there .here)) (.take (.there (.there .here)) (.take .here (.take (.there .here) (.take (.there .here) (.take (.there .here) (.take .here .refl))))))
  · have hi' : i = wl.length := by omega
    have hnw' : nw.map (·.2) = w.words := by rw [hnw, hi', ← e1]; exact List.take_of_length_le (by simp)
    clear hi hnw
    subst hi'
    repeat (first
      | (apply wo_po; apply mo_bin; exact rfl; exact rfl; apply bin_lssF; omega; (first | exact trivial | exact rfl))
      | refine we_seq ?_
      | (refine we_region _ rfl rfl ?_; simp only [opsOf, List.map_cons, List.map_nil, Option.map_none, Option.map_some, List.getElem?_toArray, List.getElem?_cons_zero, List.getElem?_cons_succ, Option.bind_some, Option.getD_some])
      | refine wo_nil ?_
      | (apply wo_po; apply mo_move; exact rfl; (first | exact trivial | exact rfl))
      | (apply wo_po; apply mo_assign; exact rfl; (first | exact trivial | exact rfl))
      | (apply wo_po; apply mo_fieldAddr; exact rfl; exact rfl; (first | exact Nat.zero_add _ | exact rfl); (first | exact trivial | exact rfl))
      | (apply wo_po; apply mo_load; exact rfl; (repeat (first | exact Rd.row0 rfl | exact Rd.row rfl rfl | exact Rd.still | apply Rd.there)); (first | exact trivial | exact rfl))
      | (apply wo_po; apply mo_len; exact rfl; (first | exact trivial | exact rfl))
      | (apply we_condF; exact rfl; (first | exact rfl | (simp <;> omega) | omega))
      | refine we_exit ?_)
    refine we_block ?_
    obtain ⟨F2, hF2⟩ : ∃ F2, F2 = vec 1 ov (nw.map (·.1)) :: all (nw.map rowT) :: vec 1 (.slice va wl.length vc) (wl.map (·.1)) :: all (wl.map rowT) :: F := ⟨_, rfl⟩
    refine we_star ((copyInv2 b1 b2 b3 (.slice va wl.length vc) (.slice la lw.length lc) ov lw x F2).L (0, .slice none 0 0, [])) (fun h st => ?_) ?_
    · have st2 : Star (arr b3 0 [ov, .slice none 0 0] :: arr b1 0 [.slice va wl.length vc, .slice la lw.length lc] :: arr b2 0 [.slice none 0 0, .slice none 0 0] :: vec 1 (.slice la lw.length lc) lw :: all (lw.map lstT) :: F2) h := by
        rw [hF2]
        refine Ent.star ?_ st
        exact .take .here (.take (.there (.there .here)) (.take (.there (.there .here)) (.take (.there (.there (.there (.there .here)))) (.take (.there (.there (.there (.there .here)))) .refl))))
      exact star_map st2 (fun _ z => z) (fun _ z => vec_nil (star_shut (M := []) z))
    refine we_loopN (copyInv2 b1 b2 b3 (.slice va wl.length vc) (.slice la lw.length lc) ov lw x F2) (fun i => lw.length - i.1) (0, .slice none 0 0, []) ⟨by simp, by simp⟩ ⟨rfl, rfl, rfl, rfl, trivial⟩ .refl rfl ?_
    rintro ⟨i, ol, nl⟩ ⟨hi, hnl⟩
    dsimp only [copyInv2] at hi hnl ⊢
    by_cases hc : i < lw.length
    · obtain ⟨lv, hlv⟩ : ∃ z, lw[i]? = some z := ⟨lw[i], by simp [hc]⟩
      refine we_pure (of_has (.there .here) (vec_shape (by omega))) ?_
      rintro ⟨oa, on, oc, rfl, hon, _, _, _⟩
      have honn : on = nl.length := by simpa using hon.symm
      subst honn
      obtain ⟨⟨lb, lo, sp⟩, rfl⟩ : ∃ z, la = some z := by
        cases la with
        | none => have : lw.length = 0 := hla rfl; omega
        | some z => exact ⟨z, rfl⟩
      cases hla2 _ rfl
      obtain ⟨R, hR⟩ : ∃ R, R = all (nl.map lstT) :: all ((lw.map lstT).eraseIdx i) :: arr b2 0 [.slice none 0 0, .slice none 0 0] :: F2 := ⟨_, rfl⟩
      refine we_star (vec 2 (.slice none 0 0) [] :: arr b3 0 [ov, .slice oa nl.length oc] :: vec 1 (.slice oa nl.length oc) nl :: arr b1 0 [.slice va wl.length vc, .slice (some ⟨lb, lo, none⟩) lw.length lc] :: vec 1 (.slice (some ⟨lb, lo, none⟩) lw.length lc) lw :: lstT lv :: R) (fun h st => vec_nil ?_) ?_
      · rw [hR]
        have s1 : Star (all (lw.map lstT) :: arr b3 0 [ov, .slice oa nl.length oc] :: vec 1 (.slice oa nl.length oc) nl :: arr b1 0 [.slice va wl.length vc, .slice (some ⟨lb, lo, none⟩) lw.length lc] :: vec 1 (.slice (some ⟨lb, lo, none⟩) lw.length lc) lw :: all (nl.map lstT) :: arr b2 0 [.slice none 0 0, .slice none 0 0] :: F2) h := by
          refine Ent.star ?_ st
          exact .take (.there (.there (.there (.there (.there (.there .here)))))) (.take .here (.take .here (.take (.there .here) (.take (.there (.there .here)) (.take .here (.take .here .refl))))))
        have s2 := star_pick (i := i) (c := lstT lv) (by rw [List.getElem?_map, hlv]; rfl) s1
        refine Ent.star ?_ s2
        exact .take (.there (.there .here)) (.take (.there (.there .here)) (.take (.there (.there .here)) (.take (.there (.there .here)) (.take .here (.take (.there .here) (.take .here .refl))))))
      refine we_pure (of_has (.there (.there (.there (.there (.there .here))))) (vec_shape (by omega))) ?_
      rintro ⟨ia, inn, ic, hiv, hin, _, hia, hia2⟩
      subst hiv
      have hinn : inn = 0 := by simp only [List.length_nil] at hin; omega
      subst hinn
      repeat (first
        | (apply wo_po; apply mo_bin; exact rfl; exact rfl; apply bin_lssT; omega; (first | exact trivial | exact rfl))
        | refine we_seq ?_
        | (refine we_region _ rfl rfl ?_; simp only [opsOf, List.map_cons, List.map_nil, Option.map_none, Option.map_some, List.getElem?_toArray, List.getElem?_cons_zero, List.getElem?_cons_succ, Option.bind_some, Option.getD_some])
        | refine wo_nil ?_
        | (apply wo_po; apply mo_move; exact rfl; (first | exact trivial | exact rfl))
        | (apply wo_po; apply mo_assign; exact rfl; (first | exact trivial | exact rfl))
        | (apply wo_po; apply mo_fieldAddr; exact rfl; exact rfl; (first | exact Nat.zero_add _ | exact rfl); (first | exact trivial | exact rfl))
        | (apply wo_po; apply mo_load; exact rfl; (repeat (first | exact Rd.row0 rfl | exact Rd.row rfl rfl | exact Rd.still | apply Rd.there)); (first | exact trivial | exact rfl))
        | (apply wo_po; apply mo_len; exact rfl; (first | exact trivial | exact rfl))
        | (apply we_condT; exact rfl; (first | exact rfl | (simp <;> omega) | omega))
        | refine we_skip ?_
        | refine we_block ?_)
      have hov : ∀ {c : HProp} {L : List HProp}, Rd (c :: arr b3 0 [ov, .slice oa nl.length oc] :: L) b3 1 (.slice oa nl.length oc) := fun {c L} => .there (Rd.row0 rfl)
      have hli : Rd (vec 2 (.slice none 0 0) [] :: arr b3 0 [ov, .slice oa nl.length oc] :: vec 1 (.slice oa nl.length oc) nl :: arr b1 0 [.slice va wl.length vc, .slice (some ⟨lb, lo, none⟩) lw.length lc] :: vec 1 (.slice (some ⟨lb, lo, none⟩) lw.length lc) lw :: lstT (.slice ia 0 ic) :: R) lb (lo + i) (.slice ia 0 ic) := rd_vec (.there (.there (.there (.there .here)))) hlv
      refine we_draw (List.range' 0 13) (by kernel_rfl) ?_
      repeat (first
        | (apply ap_pure; exact rfl; exact rfl; exact trivial; intro L; apply mo_index1; exact rfl; exact rfl; omega)
        | (apply ap_read; exact rfl; exact rfl; exact trivial; apply mo_load; exact rfl; exact hli)
        | (apply ap_pure; exact rfl; exact rfl; (first | exact trivial | exact rfl); intro L; apply mo_move; exact rfl)
        | (apply ap_pure; exact rfl; exact rfl; (first | exact trivial | exact rfl); intro L; apply mo_fieldAddr; exact rfl; exact rfl; (first | exact Nat.zero_add _ | exact rfl))
        | (apply ap_read; exact rfl; exact rfl; (first | exact trivial | exact rfl); apply mo_load; exact rfl; (repeat (first | exact Rd.row0 rfl | exact Rd.row rfl rfl | exact Rd.still | apply Rd.there))))
      have hnew : (ia = none ∧ (0 : Nat) = 0) ∨ ∃ xbb xo', ia = some ⟨xbb, xo', none⟩ ∧ Rds (vec 2 (.slice none 0 0) [] :: arr b3 0 [ov, .slice oa nl.length oc] :: vec 1 (.slice oa nl.length oc) nl :: arr b1 0 [.slice va wl.length vc, .slice (some ⟨lb, lo, none⟩) lw.length lc] :: vec 1 (.slice (some ⟨lb, lo, none⟩) lw.length lc) lw :: lstT (.slice ia 0 ic) :: R) xbb xo' [] := by
        cases ia with
        | none => exact .inl ⟨rfl, rfl⟩
        | some z =>
          obtain ⟨b, o, sp⟩ := z
          cases hia2 _ rfl
          exact .inr ⟨b, o, rfl, fun j v hj => by simp at hj⟩
      refine ap_loudR rfl rfl rfl rfl trivial (mo_append (sz := 2) (new := []) rfl rfl rfl rfl .here rfl hnew (by intro v hv; cases hv) (by simp only [sliceLen]; omega)) ?_ ?_
      · rintro v L' rfl q hq
        replace hq := (List.mem_filter.1 hq).1
        simp only [List.mem_cons, List.not_mem_nil, or_false] at hq
        rcases hq with rfl | rfl | rfl | rfl | rfl | rfl | rfl | rfl <;> first | exact .inl rfl | exact .inr ⟨_, rfl, trivial, mo_load rfl hov⟩ | exact .inr ⟨_, rfl, trivial, mo_load rfl (.there (.there (.there (Rd.row0 rfl))))⟩ | exact .inr ⟨_, rfl, trivial, mo_load rfl (rd_vec (.there (.there (.there (.there .here)))) hlv)⟩
      rintro v' L' rfl
      refine ap_know (of_has .here (vec_shape (by omega))) ?_
      rintro ⟨ca, cn, cc, rfl, _⟩
      refine ap_loudR rfl rfl rfl rfl trivial (mo_buildSlice (sz := 1) (vs := [.slice ca cn cc]) rfl (.cons rfl .nil) rfl (by intro v hv; cases (List.mem_singleton.1 hv); exact rfl) (by omega)) ?_ ?_
      · rintro v L' ⟨sb, rfl, rfl⟩ q hq
        replace hq := (List.mem_filter.1 (List.mem_filter.1 hq).1).1
        simp only [List.mem_cons, List.not_mem_nil, or_false] at hq
        rcases hq with rfl | rfl | rfl | rfl | rfl | rfl | rfl | rfl <;> first | exact .inl rfl | exact .inr ⟨_, rfl, trivial, mo_load rfl (.there hov)⟩ | exact .inr ⟨_, rfl, trivial, mo_load rfl (.there (.there (.there (.there (Rd.row0 rfl)))))⟩ | exact .inr ⟨_, rfl, trivial, mo_load rfl (.there (rd_vec (.there (.there (.there (.there .here)))) hlv))⟩
      rintro v' L' ⟨sb, rfl, rfl⟩
      refine ap_loud rfl rfl rfl rfl rfl trivial (mo_append (sz := 1) (new := [.slice ca cn cc]) rfl rfl rfl rfl (.there (.there (.there .here))) rfl (.inr ⟨_, _, rfl, Rds.all .here⟩) (by intro v hv; cases (List.mem_singleton.1 hv); exact rfl) (by simp only [sliceLen]; omega)) ?_
      rintro v' L' rfl
      refine ap_know (of_has .here (vec_shape (by omega))) ?_
      rintro ⟨qa, ql, qc, rfl, _⟩
      repeat (first
        | (apply ap_pure; exact rfl; exact rfl; (first | exact trivial | exact rfl); intro L; apply mo_fieldAddr; exact rfl; exact rfl; (first | exact Nat.zero_add _ | exact rfl)))
      refine ap_loud rfl rfl rfl rfl rfl trivial (mo_store rfl rfl rfl (Wt.row0 (k := 1) (.there (.there (.there .here))) (Nat.lt_succ_self 1))) ?_
      rintro v' L' ⟨rfl, rfl⟩
      refine ap_end ?_
      repeat (first
        | (refine we_region _ rfl rfl ?_; simp only [opsOf, List.map_cons, List.map_nil, Option.map_none, Option.map_some, List.getElem?_toArray, List.getElem?_cons_zero, List.getElem?_cons_succ, Option.bind_some, Option.getD_some])
        | refine wo_nil ?_
        | (apply wo_po; apply mo_move; exact rfl; (first | exact trivial | exact rfl))
        | (apply wo_po; apply mo_assign; exact rfl; (first | exact trivial | exact rfl))
        | (apply wo_po; apply mo_bin; exact rfl; exact rfl; apply bin_add; exact wrap_i64 (by omega) (by omega); (first | exact trivial | exact rfl)))
      refine at_roundS (I := copyInv2 b1 b2 b3 (.slice va wl.length vc) (.slice (some ⟨lb, lo, none⟩) lw.length lc) ov lw x F2) (R := fun i' => lw.length - i'.1 < lw.length - i) (i + 1, .slice qa ql qc, nl ++ [.slice ca cn cc]) (by simp only; omega) ⟨by simp only; omega, by simp [hnl]⟩ ⟨rfl, rfl, rfl, rfl, trivial⟩ (fun h st => ?_) rfl
      dsimp only [copyInv2]
      rw [hR] at st
      have s1 : Star (lstT (.slice ia 0 ic) :: all ((lw.map lstT).eraseIdx i) :: lstT (.slice ca cn cc) :: all (nl.map lstT) :: arr b3 0 [ov, .slice qa ql qc] :: vec 1 (.slice qa ql qc) (nl ++ [.slice ca cn cc]) :: arr b1 0 [.slice va wl.length vc, .slice (some ⟨lb, lo, none⟩) lw.length lc] :: arr b2 0 [.slice none 0 0, .slice none 0 0] :: vec 1 (.slice (some ⟨lb, lo, none⟩) lw.length lc) lw :: F2) h := by
        refine Ent.star ?_ st
        exact (.take (.there (.there (.there (.there (.there (.there .here)))))) (.take (.there (.there (.there (.there (.there (.there (.there .here))))))) (.take (.there (.there .here)) (.take (.there (.there (.there (.there (.there .here))))) (.take (.there (.there .here)) (.take .here (.take (.there .here) (.take (.there (.there .here)) (.take (.there .here) (.drop .refl))))))))))
      have s2 := star_put (M := lw.map lstT) (c := lstT (.slice ia 0 ic)) (by simpa using hc) s1
      rw [set_same (by rw [List.getElem?_map, hlv]; rfl)] at s2
      have s3 := star_swap s2
      have s4 : Star (all (nl.map lstT ++ [lstT (.slice ca cn cc)]) :: _) h := star_push (star_map s3 (fun _ z => z) (fun _ z => star_swap z))
      simp only [List.map_append, List.map_cons, List.map_nil]
      refine Ent.star ?_ s4
      exact .take (.there (.there .here)) (.take (.there (.there .here)) (.take .here (.take (.there .here) (.take (.there .here) (.take (.there .here) (.take .here .refl))))))
    · have hi' : i = lw.length := by omega
      clear hi
      subst hi'
      repeat (first
        | (apply wo_po; apply mo_bin; exact rfl; exact rfl; apply bin_lssF; omega; (first | exact trivial | exact rfl))
        | refine we_seq ?_
        | (refine we_region _ rfl rfl ?_; simp only [opsOf, List.map_cons, List.map_nil, Option.map_none, Option.map_some, List.getElem?_toArray, List.getElem?_cons_zero, List.getElem?_cons_succ, Option.bind_some, Option.getD_some])
        | refine wo_nil ?_
        | (apply wo_po; apply mo_move; exact rfl; (first | exact trivial | exact rfl))
        | (apply wo_po; apply mo_fieldAddr; exact rfl; exact rfl; (first | exact Nat.zero_add _ | exact rfl); (first | exact trivial | exact rfl))
        | (apply wo_po; apply mo_load; exact rfl; (repeat (first | exact Rd.row0 rfl | exact Rd.row rfl rfl | exact Rd.still | apply Rd.there)); (first | exact trivial | exact rfl))
        | (apply wo_po; apply mo_len; exact rfl; (first | exact trivial | exact rfl))
        | (apply we_condF; exact rfl; (first | exact rfl | (simp <;> omega) | omega))
        | refine we_exit ?_)
      refine wo_pure (of_has (.there .here) (vec_shape (by omega))) ?_
      rintro ⟨qa, qn, qc, rfl, _⟩
      refine wo_pure (of_has (c := vec 1 ov (nw.map (·.1))) (by rw [hF2]; exact (.there (.there (.there (.there (.there (.there (.there .here)))))))) (vec_shape (by omega))) ?_
      rintro ⟨pa, pn, pc, rfl, _⟩
      have hr3 : Rds (arr b3 0 [.slice pa pn pc, .slice qa qn qc] :: vec 1 (.slice qa qn qc) nl :: all (nl.map lstT) :: arr b1 0 [.slice va wl.length vc, .slice la lw.length lc] :: arr b2 0 [.slice none 0 0, .slice none 0 0] :: vec 1 (.slice la lw.length lc) lw :: all (lw.map lstT) :: F2) b3 0 [.slice pa pn pc, .slice qa qn qc] := Rds.all .here
      repeat (first
        | (apply wo_po; apply mo_loadA (vs := [.slice pa pn pc, .slice qa qn qc]); exact rfl; exact rfl; exact hr3; exact trivial))
      refine wo_pm (mo_storeA (c := 0) (k := 0) (a := 0) (vs := [.slice none 0 0, .slice none 0 0]) rfl rfl rfl (by intro w hw; simp [Value.cells] at hw; rcases hw with rfl | rfl <;> rfl) rfl (Nat.le_refl 2) (.there (.there (.there (.there .here))))) trivial ?_
      repeat (first
        | refine wo_nil ?_
        | refine we_ret ?_)
      refine at_leaveM (rs := [.cell 2 32]) Try.func59 Try.results59 hQ (.inl rfl) (.cons (.cell (vs := [.slice pa pn pc, .slice qa qn qc]) rfl rfl (Rds.all (.there (.there (.there (.there .here)))))) .nil) ?_
      refine ⟨_, _, rfl, rfl, fun h st => ?_⟩
      rw [hF2] at st
      have s1 : Star (vec 1 (.slice qa qn qc) nl :: all (nl.map lstT) :: vec 1 (.slice pa pn pc) (nw.map (·.1)) :: all (nw.map rowT) :: vec 1 (.slice la lw.length lc) lw :: all (lw.map lstT) :: vec 1 (.slice va wl.length vc) (wl.map (·.1)) :: all (wl.map rowT) :: F) h := by
        refine Ent.star ?_ st
        exact (.take (.there .here) (.take (.there .here) (.take (.there (.there (.there (.there (.there .here))))) (.take (.there (.there (.there (.there (.there .here))))) (.take (.there (.there (.there .here))) (.take (.there (.there (.there .here))) (.drop (.drop (.drop .refl)))))))))
      exact star_map (wv_shut hnw' hok (hnl.trans hlw) s1) (fun _ z => z) (fun _ z => wv_shut e1 hok hlw z)

end Go.Proofs.Ytmkkanmkjfnpdaa
